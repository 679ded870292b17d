/- Parts of a proof, joined: PvO PvP. -/
import Derived.Test.YtjpbijdpkdmeaaaGreatTfF
import Derived.TacticsIn
namespace Go.Proofs.YtjpbijdpkdmeaaaGreat.Pv
open Go
inductive How where
  | look
  | upd (k : Nat)
  | frz
  | own (σ ν : List (Nat × Nat))
  | two (k1 k2 : Nat)
  | same (σ : List (Nat × Nat)) (k : Nat)
  | sam (σ : List (Nat × Nat))
  | fzo (ks : List Nat) (σ ν : List (Nat × Nat))
def notAbs : Ob → Bool
  | .abs _ => false
  | _ => true
theorem X2 {q : How → Prop} (h : How) (hh : q h) : ∃ h, q h := ⟨h, hh⟩
def tgt (E : Env) (c : Operand) (args : List Operand) : Option (FuncId × List A1) :=
  match c with
  | .func f => match E.evs args with | some l => some (f, l) | none => none
  | .tmp t => match E.get t, E.evs args with
    | some (.c (.fn f caps)), some l => some (fnF f, fnA f l (caps.map .c))
    | _, _ => none
  | _ => none
def killP (k : Nat) (x : PC) : PC := bif x.ment k then .dead else x
def killOb (k : Nat) : Ob → Ob
  | .var cells => bif mentA k cells then .var (cells.map (killP k)) else .var cells
  | .rowO sz els ids => bif memB k ids then .rowO sz (els.map (·.map (killP k))) (ids.filter fun r => !(Nat.beq r k)) else .rowO sz els ids
  | ob => ob
def Objs.kill (k : Nat) : Objs → Objs
  | [] => []
  | (q, o) :: O => (q, o.map (killOb k)) :: Objs.kill k O
theorem killP_rel {K : Km} {ok : Nat → Prop} {w : World} {k : Nat} {x : PC} {v : Value} (h : RelO K ok w x v) : RelO K ok w (killP k x) v := by
  unfold killP
  cases x.ment k with
  | true => exact .dead h.one
  | false => exact h
theorem killL_ment {k r : Nat} : ∀ {l : List PC}, PC.ment.mentL r (l.map (killP k)) = true → PC.ment.mentL r l = true ∧ r ≠ k
  | [], h => by cases h
  | x :: l, h => by
    simp only [List.map_cons, PC.ment.mentL, Bool.or_eq_true] at h ⊢
    rcases h with h | h
    · unfold killP at h
      cases hm : x.ment k with
      | true => rw [hm] at h; cases h
      | false =>
        rw [hm] at h
        simp only [cond_false] at h
        exact ⟨.inl h, fun e => by subst e; rw [hm] at h; cases h⟩
    · obtain ⟨h1, h2⟩ := killL_ment h; exact ⟨.inr h1, h2⟩
theorem HOb.kill {K : Km} {ok : Nat → Prop} {w : World} {k q : Nat} {ob : Ob} (h : HOb K ok w q ob) : HOb K ok w q (killOb k ob) := by
  cases ob with
  | var cells =>
    simp only [killOb]
    cases mentA k cells with
    | false => exact h
    | true =>
      obtain ⟨b, cs, e, fr, a1, a2, a3, a4⟩ := h
      exact ⟨b, cs, e, fr, a1, a2, a3, by simp [a4.len], fun i x hx => by
        simp only [List.getElem?_map, Option.map_eq_some_iff] at hx
        obtain ⟨y, hy, rfl⟩ := hx
        obtain ⟨u, hu, hr⟩ := a4.get i y hy
        exact ⟨u, hu, killP_rel hr⟩⟩
  | rowO sz els ids =>
    simp only [killOb]
    cases memB k ids with
    | false => exact h
    | true =>
      obtain ⟨h0, h⟩ := h
      refine ⟨fun el r hel hm => ?_, ?_⟩
      · obtain ⟨el', hel', rfl⟩ := List.mem_map.1 hel
        obtain ⟨h1, h2⟩ := killL_ment hm
        refine memB_of (List.mem_filter.2 ⟨memB_mem (h0 el' r hel' h1), ?_⟩)
        cases hb : Nat.beq r k with
        | false => rfl
        | true => exact absurd (Nat.eq_of_beq_eq_true hb) h2
      · rcases h with ⟨h1, h2⟩ | ⟨b, cs, e, fr, a1, a2, a3, a4, a5, a6, a7⟩
        · exact .inl ⟨h1, by simp [h2]⟩
        · refine .inr ⟨b, cs, e, fr, by simpa using a1, a2, a3, by simpa using a4, by simpa using a5, fun j el hj => ?_, fun j i el x hj hi => ?_⟩
          · simp only [List.getElem?_map, Option.map_eq_some_iff] at hj
            obtain ⟨el', hj', rfl⟩ := hj
            simpa using a6 j el' hj'
          · simp only [List.getElem?_map, Option.map_eq_some_iff] at hj
            obtain ⟨el', hj', rfl⟩ := hj
            simp only [List.getElem?_map, Option.map_eq_some_iff] at hi
            obtain ⟨y, hy, rfl⟩ := hi
            obtain ⟨u, hu, hr⟩ := a7 j i el' y hj' hy
            exact ⟨u, hu, killP_rel hr⟩
  | row _ _ => exact h
  | mp _ _ _ => exact h
  | me _ _ => exact h
  | abs _ => exact h
section
variable {E : Env} {O : Objs}
theorem Sim.less {X : Cx} {K : Km} {ok : Nat → Prop} {w : World} {a : Act} {k : Nat} {ob ob' : Ob} (hs : Sim X K ok w E O a) (hk : O.get k = some ob) (hl : HOb K ok w k ob → HOb K ok w k ob') : Sim X K ok w E (O.set k ob') a ∧ Fr K ok w O K ok w (O.set k ob') := by
  have hsub : ∀ t o, (O.set k ob').get t = some o → ∃ o', O.get t = some o' := fun t o h => by
    rw [Objs.get_set] at h
    split at h
    · rename_i e; subst e; exact ⟨_, hk⟩
    · exact ⟨o, h⟩
  refine ⟨⟨hs.size, hs.defers, hs.base, hs.rnd, hs.old, ⟨fun t o g => ?_, fun t t' o o' b L L' g1 g2 => ?_, fun t o b L g => ?_, hs.hp.lt, hs.hp.hlt, hs.hp.hok, fun t o b L g => ?_⟩, hs.env⟩,
    Nat.le_refl _, fun _ _ _ _ => rfl, fun _ h => h, fun _ h => .inl h, fun t o b L g1 g2 => by obtain ⟨o', g3⟩ := hsub t o g1; exact .inr ⟨t, o', L, g3, g2⟩, rfl, rfl, rfl, fun _ o h => ⟨o, h, SK.refl o⟩, fun _ _ => rfl, fun _ h => .inl h⟩
  · rw [Objs.get_set] at g
    split at g
    · rename_i e; subst e; cases g; exact hl (hs.hp.obs k ob hk)
    · exact hs.hp.obs t o g
  · obtain ⟨p, q1⟩ := hsub t o g1
    obtain ⟨p', q2⟩ := hsub t' o' g2
    exact hs.hp.inj t t' p p' b L L' q1 q2
  · obtain ⟨p, q1⟩ := hsub t o g; exact hs.hp.apart t p b L q1
  · obtain ⟨p, q1⟩ := hsub t o g; exact hs.hp.how t p b L q1
end
def ownerOf (E : Env) : List Operand → Option Nat
  | x :: _ => match E.ev x with
    | some (.c (.ow r _ _)) => some r
    | _ => none
  | [] => none
def mentJ (r : Nat) : Objs → Option Nat
  | [] => none
  | (q, some ob) :: O => bif obNoM r (some ob) then mentJ r O else some q
  | (_, none) :: O => mentJ r O
def apkK (j : Nat) (oj : Ob) (K : Kt) : Kt := fun av eff => match eff with
  | .app r o => bif Nat.beq j r then Stuck "apk" else K av (.apk r o j oj)
  | _ => Stuck "apk"
theorem Step.apk {P : Program} {E : Env} {O : Objs} {o : Oper} {av : Option AV} {r j : Nat} {ob oj obr : Ob} (hj : j ≠ r) (h : Step P E (O.set j oj) o av (.app r obr)) (ho : O.get j = some ob) (hl : ∀ K ok w, HOb K ok w j ob → HOb K ok w j oj) : Step P E O o av (.apk r obr j oj) := by
  intro N K ok w a next Q hs hn
  obtain ⟨h1, h2⟩ := hs.less ho (hl K ok w)
  refine h N K ok w a next Q h1 fun v K' ok' w' hsp => hn v K' ok' w' ?_
  have hsub : SubO ((O.set r obr).set j oj) ((O.set j oj).set r obr) := fun t o h => by
    rw [Objs.get_set, Objs.get_set] at h ⊢
    by_cases e1 : j = t
    · subst e1; rw [if_pos rfl] at h; rw [if_neg (Ne.symm hj), if_pos rfl]; exact h
    · rw [if_neg e1] at h; rw [if_neg e1]; exact h
  exact ⟨hsp.val, hsp.hp.sub hsub, (h2.trans hsp.fr).trans (Fr.weak hsub), hsp.km⟩
def opT (P : Program) (T : Ty) (E : Env) (O : Objs) (d : Option Tmp) (op : Op) (K : Kt) : Prop :=
  match op with
  | .buildSlice t len parts => bif ownF T 1000001 then (match T.get t, E.evs (parts.toList.map (·.2)) with
    | some ⟨.sl e, _, _, _, _⟩, some l => match T.get e with
      | some td => bif isRange 0 (parts.toList.map (·.1)) && Nat.beq l.length len && Nat.beq td.z.length td.sz && allLen td.sz l && Nat.ble (len * td.sz) 16777216 && Nat.ble len 16777216 then
          K (some (.c (.sl td.sz (l.map A1.cells)))) .no else Stuck "buildSlice"
      | none => Stuck "buildSlice"
    | _, _ => Stuck "buildSlice") else opN P T E O d (.buildSlice t len parts) K
  | .load t x => bif ownF T 1000002 then (match T.get t, E.ev x with
    | some td, some (.c (.ad k off)) => match O.get k with
      | some (.var cells) => match mkA td.agg ((cells.drop off).take td.sz) with
        | some y => bif Nat.ble (off + td.sz) cells.length then (bif closedL y.cells then K (some (.o y)) .no else K (some (.o y)) (.upd k (.var (spl cells off (List.replicate td.sz .dead))))) else Stuck "load"
        | none => Stuck "load"
      | _ => opN P T E O d (.load t x) K
    | some td, some (.c (.ea r sz i off)) => match O.get r with
      | some (.rowO sz' els ids) => bif Nat.beq sz sz' then ∃ el, els[i]? = some el ∧ (match mkA td.agg ((el.drop off).take td.sz) with
        | some y => bif Nat.ble (off + td.sz) el.length then (bif closedL y.cells then K (some (.o y)) .no else ∃ ids', (∀ el' q, el' ∈ els.set i (spl el off (List.replicate td.sz .dead)) → mentA q el' = true → memB q ids' = true) ∧ K (some (.o y)) (.upd r (.rowO sz (els.set i (spl el off (List.replicate td.sz .dead))) ids'))) else Stuck "load"
        | none => Stuck "load") else Stuck "load"
      | _ => opN P T E O d (.load t x) K
    | _, _ => opN P T E O d (.load t x) K) else opN P T E O d (.load t x) K
  | .call ⟨.value (.func f), args, _⟩ => match E.evs args.toList with
    | some l => bif closedAs l && !(ownF T f) then ∃ res, Ct P f l res ∧ (bif closedAs res then K (some (retV res)) .no else Stuck "call") else
      ∃ h : How, match h with
      | .look => ∃ res, Ct P f (l.map (viewA O)) res ∧ (bif res.all isSc then K (some (retV res)) .no else Stuck "look")
      | .upd k => match O.get k with
        | some ob => bif l.any (A1.ment k) && obClosed ob then ∃ ob' res, CtO P f [(1000000, some ob)] (l.map (renA [(k, 1000000)])) [(1000000, some ob')] res ∧ (bif obClosed ob' && closedAs res then K (some (retV res)) (.upd k ob') else Stuck "upd") else Stuck "upd"
        | none => Stuck "upd"
      | .two k1 k2 => match O.get k1, O.get k2 with
        | some ob1, some ob2 => bif !(Nat.beq k1 k2) && (l.any (A1.ment k1) && (obClosed ob2 && notAbs ob1)) then renOb [(1000000, k1), (1000001, k2)] (renOb [(k1, 1000000), (k2, 1000001)] ob1) = ob1 ∧ ∃ ob2' res, CtO P f [(1000000, some (renOb [(k1, 1000000), (k2, 1000001)] ob1)), (1000001, some ob2)] (l.map (renA [(k1, 1000000), (k2, 1000001)])) [(1000000, some (renOb [(k1, 1000000), (k2, 1000001)] ob1)), (1000001, some ob2')] res ∧
            (bif obClosed ob2' && closedAs res then K (some (retV res)) (.upd k2 ob2') else Stuck "two") else Stuck "two"
        | _, _ => Stuck "two"
      | .sam σ => bif okIn σ && (okNu σ (swapL σ) [] (takeO σ O σ) && (!(hasAbs σ O) && noAbs (takeO σ O σ))) then outL (swapL σ) (takeO σ O σ) = σ.map (fun p => (p.1, O.get p.1)) ∧ ∃ res, CtO P f (takeO σ O σ) (l.map (renA σ)) (takeO σ O σ) res ∧
            (bif closedAs res then K (some (retV res)) (.vu (σ.map (·.1))) else Stuck "sam") else Stuck "sam"
      | .same σ k => match O.get k with
        | some ob => bif okIn σ && (okNu σ (swapL σ) [] (takeO σ O σ) && (!(hasAbs σ O) && (noAbs (takeO σ O σ) && σ.all fun p => Nat.beq p.1 k || l.any (A1.ment p.1)))) then outL (swapL σ) (takeO σ O σ) = σ.map (fun p => (p.1, O.get p.1)) ∧ ∃ res, CtO P f (takeO σ O σ) (l.map (renA σ)) (takeO σ O σ) res ∧
            (bif closedAs res then K (some (retV res)) (.upd k ob) else Stuck "same") else Stuck "same"
        | none => Stuck "same"
      | _ => False
    | none => Stuck "args"
  | .call ⟨.value (.tmp c), args, ts⟩ => match E.get c, E.evs args.toList with
    | some (.c (.fn f caps)), some l => bif closedL caps then opN P T E O d (.call ⟨.value (.tmp c), args, ts⟩) K else
      ∃ σ : List (Nat × Nat), bif okIn σ && (okNu σ (swapL σ) [] (takeO σ O σ) && (!(hasAbs σ O) && noAbs (takeO σ O σ))) then outL (swapL σ) (takeO σ O σ) = σ.map (fun p => (p.1, O.get p.1)) ∧ ∃ res, CtO P (fnF f) (takeO σ O σ) ((fnA f l (caps.map A1.c)).map (renA σ)) (takeO σ O σ) res ∧
            (bif closedAs res then K (some (retV res)) (.vu (σ.map (·.1))) else Stuck "sam") else Stuck "sam"
    | _, _ => opN P T E O d (.call ⟨.value (.tmp c), args, ts⟩) K
  | .call ⟨.builtin .append, args, ts⟩ => match ownerOf E args.toList with
    | some r => bif noMB r O then opN P T E O d (.call ⟨.builtin .append, args, ts⟩) K else (match mentJ r O with
      | some j => (match O.get j with
        | some ob => opN P T E (O.set j (killOb r ob)) d (.call ⟨.builtin .append, args, ts⟩) (apkK j (killOb r ob) K)
        | none => Stuck "apk")
      | none => Stuck "apk")
    | none => opN P T E O d (.call ⟨.builtin .append, args, ts⟩) K
  | op => opN P T E O d op K
def callR (P : Program) (T : Ty) (E : Env) (O : Objs) (d : Option Tmp) (c : Operand) (args : List Operand) (f : FuncId) (l : List A1) (C : Env → Objs → Prop) : Prop :=
  bif closedAs l && !(ownF T f) then ∃ res, Ct P f l res ∧ (bif closedAs res then C (putE d (some (retV res)) E) O else Stuck "call") else
    ∃ h : How, match h with
    | .look => ∃ res, Ct P f (l.map (viewA O)) res ∧ (bif res.all isSc then C (putE d (some (retV res)) E) O else Stuck "look")
    | .upd k => match O.get k with
      | some ob => bif l.any (A1.ment k) && obClosed ob then ∃ ob' res, CtO P f [(1000000, some ob)] (l.map (renA [(k, 1000000)])) [(1000000, some ob')] res ∧ (bif obClosed ob' && closedAs res then C (putE d (some (retV res)) E) (O.set k ob') else Stuck "upd") else Stuck "upd"
      | none => Stuck "upd"
    | .frz => match tgt (.vw (O.only (idsAs l)) :: E) c args with
      | some (f1, l1) => bif closedAs l1 && Nat.beq f1 f then ∃ res, Ct P f l1 res ∧ (bif closedAs res then C (putE d (some (retV res)) (.vw (O.only (idsAs l)) :: E)) (O.froze (idsAs l) (O.only (idsAs l))) else Stuck "call") else Stuck "frz"
      | none => Stuck "frz"
    | .own σ ν => bif okIn σ then ∃ Oout res, CtO P f (takeO σ O σ) (l.map (renA σ)) Oout res ∧ (bif okNu σ ν O Oout && okAbs σ O Oout then C (putE d (some (retV (res.map (renA ν)))) (killE ν E)) (outL ν Oout ++ O.delL (σ.map (·.1))) else Stuck "own") else Stuck "own"
    | .two _ _ => False
    | .same _ _ => False
    | .sam _ => False
    | .fzo ks σ ν => match tgt (.vw (O.only ks) :: E) c args with
      | some (f1, l1) => bif okIn σ && Nat.beq f1 f then ∃ Oout res, CtO P f (takeO σ (O.froze ks (O.only ks)) σ) (l1.map (renA σ)) Oout res ∧ (bif okNu σ ν (O.froze ks (O.only ks)) Oout && okAbs σ (O.froze ks (O.only ks)) Oout then C (putE d (some (retV (res.map (renA ν)))) (killE ν (.vw (O.only ks) :: E))) (outL ν Oout ++ (O.froze ks (O.only ks)).delL (σ.map (·.1))) else Stuck "own") else Stuck "own"
      | none => Stuck "own"
def cbR (P : Program) (E : Env) (O : Objs) (d : Option Tmp) (c : Operand) (args : List Operand) (C : Env → Objs → Prop) : Prop :=
  match c with
  | .tmp t => match E.get t, E.evs args with
    | some (.c (.cb v)), some l => ∃ (items : List (List A1)) (I : Nat → St) (X : St) (i : Nat), Yields P v items I X ∧ O.get 2000000 = some (.abs (I i)) ∧ items[i]? = some l ∧
        (bif noAbs (O.del 2000000) then C (putE d (some (.c (.sc (.bool true)))) E) (O.set 2000000 (.abs (I (i + 1)))) ∧ C (putE d (some (.c (.sc (.bool false)))) E) (O.set 2000000 (.abs X)) else Stuck "yield")
    | _, _ => Stuck "callee"
  | _ => Stuck "callee"
def newId (E : Env) (d : Option Tmp) (op : Op) : Option Nat :=
  match op with
  | .alloc _ => d
  | .box _ _ => d
  | .buildSlice _ _ _ => d
  | .makeSlice _ _ _ => d
  | .makeMap _ _ => d
  | .call ⟨.builtin .append, args, _⟩ => match args.toList with
    | x :: _ => match E.ev x with
      | some (.c (.ow r _ _)) => some r
      | _ => d
    | [] => none
  | _ => none
def truncS (T : Ty) (E : Env) (O : Objs) (d : Option Tmp) (t : Nat) (r sz n : Nat) (lo hi : Option Operand) (C : Env → Objs → Prop) : Prop :=
  match T.get t, bndV E lo, bndV E hi, O.get r with
  | some ⟨.sl e, _, _, _, _⟩, some l, some h, some (.row sz' els) => match T.get e with
    | some td => bif Nat.beq sz sz' && (Nat.beq sz td.sz && noMB r (O.kill r)) then ∃ h' : Nat, l.getD 0 = 0 ∧ h.getD n = h' ∧ n = els.length ∧ h' ≤ n ∧ C (putE d (some (.c (.ow r sz h'))) (.k r :: E)) ((O.kill r).set r (.row sz (els.take h'))) else Stuck "trunc"
    | none => Stuck "trunc"
  | _, _, _, _ => Stuck "trunc"
def opR (P : Program) (T : Ty) (E : Env) (O : Objs) (d : Option Tmp) (op : Op) (C : Env → Objs → Prop) : Prop :=
  match op with
  | .call ⟨.value c, args, _⟩ => match tgt E c args.toList with
    | some (f, l) => callR P T E O d c args.toList f l C
    | none => cbR P E O d c args.toList C
  | .slice t x lo hi none => match E.ev x with
    | some (.c (.ow r sz n)) => opN P T E O d (.slice t x lo hi none) (fun av eff => C (putE d av (eff.E E)) (eff.O O)) ∨ truncS T E O d t r sz n lo hi C
    | _ => opN P T E O d (.slice t x lo hi none) (fun av eff => C (putE d av (eff.E E)) (eff.O O))
  | .binOp bo t x y t' => match T.get t, E.ev y with
    | some ⟨.sl _, _, _, _, _⟩, some (.c (.sc (.slice none 0 0))) => match E.ev x with
      | some (.c (.sc (.slice none 0 0))) => (match bo with
        | .eql => C (putE d (some (.c (.sc (.bool true)))) E) O
        | .neq => C (putE d (some (.c (.sc (.bool false)))) E) O
        | _ => Stuck "nil slice")
      | some (.c p) => match lenC p with
        | some n => (match bo with
          | .eql => ∀ b : Bool, (b = true → n = 0) → C (putE d (some (.c (.sc (.bool b)))) E) O
          | .neq => ∀ b : Bool, (b = true → n = 0) → C (putE d (some (.c (.sc (.bool (!b))))) E) O
          | _ => Stuck "nil slice")
        | none => Stuck "nil slice"
      | _ => Stuck "nil slice"
    | _, _ => opN P T E O d (.binOp bo t x y t') (fun av eff => C (putE d av (eff.E E)) (eff.O O))
  | .mapUpdate t x y q => match E.ev q with
    | some (.o u) => bif closedL u.cells then opN P T E O d (.mapUpdate t x y q) (fun av eff => C (putE d av (eff.E E)) (eff.O O)) else
        ∃ ks : List Nat, opN P T (.vw (O.only ks) :: E) (O.froze ks (O.only ks)) d (.mapUpdate t x y q) (fun av eff => C (putE d av (eff.E (.vw (O.only ks) :: E))) (eff.O (O.froze ks (O.only ks))))
    | _ => Stuck "mapUpdate"
  | .buildSlice t len parts => bif ownF T 1000003 then opT P T E O d (.buildSlice t len parts) (fun av eff => C (putE d av (eff.E E)) (eff.O O)) else (match d with
    | some k => bif noMB k O then opN P T E O d (.buildSlice t len parts) (fun av eff => C (putE d av (eff.E E)) (eff.O O)) else opN P T E (O.kill k) d (.buildSlice t len parts) (fun av eff => C (putE d av (eff.E E)) (eff.O (O.kill k)))
    | none => opN P T E O d (.buildSlice t len parts) (fun av eff => C (putE d av (eff.E E)) (eff.O O)))
  | op => match newId E d op with
    | some k => bif noMB k O then opN P T E O d op (fun av eff => C (putE d av (eff.E E)) (eff.O O)) else opN P T E (O.kill k) d op (fun av eff => C (putE d av (eff.E E)) (eff.O (O.kill k)))
    | none => opN P T E O d op (fun av eff => C (putE d av (eff.E E)) (eff.O O))
section
variable {P : Program} {T : Ty} {E : Env} {O : Objs} {d : Option Tmp} {ty : TypeId} {pos : String} {af : Array Edge} {g : Option (Nat × Bool)} {K : Kt}
theorem opN_noDefer {op : Op} (h : opN P T E O d op K) (c : Call) : op ≠ .defer c := by rintro rfl; exact h
theorem opT_noDefer {op : Op} (h : opT P T E O d op K) (c : Call) : op ≠ .defer c := by rintro rfl; exact h
theorem SP.less {Km' K' : Km} {ok ok' : Nat → Prop} {w w' : World} {av : Option AV} {v : Value} {k : Nat} {ob ob' : Ob} (h : SP Km' ok w O av .no v K' ok' w') (ho : O.get k = some ob) (hl : HOb K' ok' w' k ob → HOb K' ok' w' k ob') : SP Km' ok w O av (.upd k ob') v K' ok' w' := by
  have hsub : ∀ t o, (O.set k ob').get t = some o → ∃ o', O.get t = some o' := fun t o h => by
    rw [Objs.get_set] at h
    split at h
    · rename_i e; subst e; exact ⟨_, ho⟩
    · exact ⟨o, h⟩
  have hp : Hp K' ok' w' O := h.hp
  have hfr : Fr K' ok' w' O K' ok' w' (O.set k ob') :=
    ⟨Nat.le_refl _, fun _ _ _ _ => rfl, fun _ h => h, fun _ h => .inl h, fun t o b L g1 g2 => by obtain ⟨o', g3⟩ := hsub t o g1; exact .inr ⟨t, o', L, g3, g2⟩, rfl, rfl, rfl, fun _ o h => ⟨o, h, SK.refl o⟩, fun _ _ => rfl, fun _ h => .inl h⟩
  refine ⟨h.val, ⟨fun t o g => ?_, fun t t' o o' b L L' g1 g2 => ?_, fun t o b L g => ?_, hp.lt, hp.hlt, hp.hok, fun t o b L g => ?_⟩, h.fr.trans hfr, fun r hr => h.km r (by intro e; cases e)⟩
  · change (O.set k ob').get t = some o at g
    rw [Objs.get_set] at g
    split at g
    · rename_i e; subst e; cases g; exact hl (hp.obs k ob ho)
    · exact hp.obs t o g
  · obtain ⟨p, q1⟩ := hsub t o g1
    obtain ⟨p', q2⟩ := hsub t' o' g2
    exact hp.inj t t' p p' b L L' q1 q2
  · obtain ⟨p, q1⟩ := hsub t o g; exact hp.apart t p b L q1
  · obtain ⟨p, q1⟩ := hsub t o g; exact hp.how t p b L q1
theorem Step.less {o : Oper} {av : Option AV} {k : Nat} {ob ob' : Ob} (h : Step P E O o av .no) (ho : O.get k = some ob) (hl : ∀ K ok w, HOb K ok w k ob → HOb K ok w k ob') : Step P E O o av (.upd k ob') := by
  intro N K ok w a next Q hs hn
  exact h N K ok w a next Q hs fun v K' ok' w' hsp => hn v K' ok' w' (hsp.less ho (hl K' ok' w'))
theorem dead_get {cells : List PC} {off n i : Nat} {x : PC} (hb : off + n ≤ cells.length) (hx : (spl cells off (List.replicate n .dead))[i]? = some x) : ∃ y, cells[i]? = some y ∧ (x = y ∨ x = .dead) := by
  unfold spl at hx
  rcases Nat.lt_or_ge i off with h | h
  · rw [List.getElem?_append_left (by simp; omega), List.getElem?_take, if_pos h] at hx
    exact ⟨x, hx, .inl rfl⟩
  · rw [List.getElem?_append_right (by simp; omega)] at hx
    have e1 : (cells.take off).length = off := by simp; omega
    rw [e1] at hx
    rcases Nat.lt_or_ge (i - off) n with h2 | h2
    · rw [List.getElem?_append_left (by simp; omega)] at hx
      have hi : i < cells.length := by omega
      refine ⟨cells[i], by simp [hi], .inr ?_⟩
      have := List.mem_of_getElem? hx
      exact List.eq_of_mem_replicate this
    · rw [List.getElem?_append_right (by simp; omega), List.length_replicate, List.getElem?_drop] at hx
      rw [show off + n + (i - off - n) = i by omega] at hx
      exact ⟨x, hx, .inl rfl⟩
theorem dead_len {cells : List PC} {off n : Nat} (hb : off + n ≤ cells.length) : (spl cells off (List.replicate n .dead)).length = cells.length := by
  unfold spl; simp; omega
theorem dead_cs {K : Km} {ok : Nat → Prop} {w : World} {cells : List PC} {off n : Nat} {vs : List Value} (hb : off + n ≤ cells.length) (h : RelCs K ok w cells vs) : RelCs K ok w (spl cells off (List.replicate n .dead)) vs := by
  refine ⟨by rw [h.len, dead_len hb], fun i x hx => ?_⟩
  obtain ⟨y, hy, hxy⟩ := dead_get hb hx
  obtain ⟨u, hu, hr⟩ := h.get i y hy
  refine ⟨u, hu, ?_⟩
  rcases hxy with rfl | rfl
  · exact hr
  · exact .dead hr.one
theorem HOb.deadVar {K : Km} {ok : Nat → Prop} {w : World} {k : Nat} {cells : List PC} {off n : Nat} (hb : off + n ≤ cells.length) (h : HOb K ok w k (.var cells)) : HOb K ok w k (.var (spl cells off (List.replicate n .dead))) := by
  obtain ⟨b, cs, e, fr, a1, a2, a3, a4⟩ := h
  exact ⟨b, cs, e, fr, a1, a2, a3, dead_cs hb a4⟩
theorem HOb.deadRow {K : Km} {ok : Nat → Prop} {w : World} {k sz i off n : Nat} {els : List (List PC)} {el : List PC} {ids ids' : List Nat} (hi : els[i]? = some el) (hb : off + n ≤ el.length) (hids : ∀ el' q, el' ∈ els.set i (spl el off (List.replicate n .dead)) → mentA q el' = true → memB q ids' = true) (h : HOb K ok w k (.rowO sz els ids)) :
    HOb K ok w k (.rowO sz (els.set i (spl el off (List.replicate n .dead))) ids') := by
  have hilt := (List.getElem?_eq_some_iff.1 hi).1
  refine ⟨fun el' r he hm => hids el' r he hm, ?_⟩
  rcases h.2 with ⟨a1, a2⟩ | ⟨b, cs, e, fr, a1, a2, a3, a4, a5, a6, a7⟩
  · subst a2; simp at hi
  · have get : ∀ (j : Nat) (el' : List PC), (els.set i (spl el off (List.replicate n .dead)))[j]? = some el' → ∃ el0, els[j]? = some el0 ∧ el'.length = el0.length ∧ ∀ (q : Nat) (x : PC), el'[q]? = some x → ∃ y, el0[q]? = some y ∧ (x = y ∨ x = .dead) := by
      intro j el' hj
      rw [List.getElem?_set] at hj
      by_cases hij : i = j
      · subst hij
        simp only [if_true, hilt] at hj
        cases hj
        exact ⟨el, hi, dead_len hb, fun q x hx => dead_get hb hx⟩
      · rw [if_neg hij] at hj
        exact ⟨el', hj, rfl, fun q x hx => ⟨x, hx, .inl rfl⟩⟩
    refine .inr ⟨b, cs, e, fr, by simpa using a1, a2, a3, by simpa using a4, by simpa using a5, fun j el' hj => ?_, fun j q el' x hj hq => ?_⟩
    · obtain ⟨el0, h1, h2, _⟩ := get j el' hj
      rw [h2]; exact a6 j el0 h1
    · obtain ⟨el0, h1, _, h3⟩ := get j el' hj
      obtain ⟨y, hy, hxy⟩ := h3 q x hq
      obtain ⟨u, hu, hr⟩ := a7 j q el0 y h1 hy
      refine ⟨u, hu, ?_⟩
      rcases hxy with rfl | rfl
      · exact hr
      · exact .dead hr.one
theorem Step.rowC {o : Oper} {sz : Nat} {els : List (List PC)} (h : ∀ N K ok w a, Sim N K ok w E O a → ∃ (cs : Array Value) (e : TypeId) (c : Nat), (execOp a.eval o).run P w = .ok (.value (.slice (some ⟨w.heap.size, 0, none⟩) els.length c)) (w.alloc (.cells cs e)) ∧ els.length ≤ c ∧ els.length ≤ BIG ∧
      (∀ (j : Nat) (el : List PC), els[j]? = some el → el.length = sz) ∧ ∀ (j i : Nat) (el : List PC) (x : PC), els[j]? = some el → el[i]? = some x → ∃ u, cs[j * sz + i]? = some u ∧ Rel ok w x u) : Step P E O o (some (.c (.sl sz els))) .no := by
  intro N K ok w a next Q hs hn
  obtain ⟨cs, e, c, h1, h2, h3, h4, h5⟩ := h N K ok w a hs
  unfold Oper.wp
  rw [h1]
  have hsz : (w.alloc (.cells cs e)).heap.size = w.heap.size + 1 := by simp
  have hkeep : ∀ b, b < w.heap.size → (w.alloc (.cells cs e)).heap[b]? = w.heap[b]? := fun b hb => alloc_keep (ok := fun _ => True) _ b trivial hb
  have hnew : (w.alloc (.cells cs e)).heap[w.heap.size]? = some (.cells cs e (0, 0)) := alloc_new _ _
  refine hn _ K (fun b => ok b ∨ b = w.heap.size) _ ⟨fun x hx => ?_, ?_, ?_, fun _ _ => rfl⟩
  · cases hx
    refine .o (.c (.cl (.sl (fun j i => cs[j * sz + i]?.getD undef) h2 h3 (.inr rfl) (by omega) h4 (fun j i el x hj hi => ?_) fun j i el x hj hi => ?_)))
    · obtain ⟨u, hu, _⟩ := h5 j i el x hj hi
      rw [Nat.zero_add, cell?_of hnew hu, hu]; rfl
    · obtain ⟨u, hu, hr⟩ := h5 j i el x hj hi
      rw [hu]
      exact hr.mono (fun _ h => .inl h) (fun b _ hlt => hkeep b hlt) (by omega)
  · exact hs.hp.over (by omega) hkeep (fun _ h => .inl h) (fun b hb => hb.imp_right fun e => by omega) (fun b hb => by
      rcases hb with hb | hb
      · have := hs.hp.lt b hb; omega
      · omega) ⟨rfl, rfl, rfl⟩
  · exact ⟨by omega, fun b hb _ _ => hkeep b hb, fun _ h => .inl h, fun b hb => hb.imp_right fun e => .inl (by omega), fun k o b L h1 h2 => .inr ⟨k, o, L, h1, h2⟩, rfl, rfl, rfl, kind_same hkeep, fun _ _ => rfl, fun _ h => .inl h⟩
theorem Step.buildSliceC {t e sz bt len : Nat} {agg : Bool} {z : List Value} [hs : TSl P t e] [TI P e sz bt agg z] {parts : Array (Nat × Operand)} {l : List A1} (he : E.evs (parts.toList.map (·.2)) = some l)
    (hi : parts.toList.map (·.1) = List.range' 0 l.length) (hln : l.length = len) (hz : z.length = sz) (hl : ∀ y, y ∈ l → y.cells.length = sz) (hc : ∀ y, y ∈ l → closedL y.cells = true) (hb : len * sz ≤ 16777216) (hb2 : len ≤ 16777216) :
    Step P E O ⟨d, .buildSlice t len parts, ty, pos, af, g⟩ (some (.c (.sl sz (l.map A1.cells)))) .no :=
  .rowC fun _ K ok w a hsim => by
    subst hln
    have hsz := run_sizeOf (P := P) (t := e) w
    obtain ⟨zv, hz1, hz2⟩ := run_zeroValue (P := P) (t := e) w
    have hrel := evs_rel hsim he
    let cs0 : Array Value := (Array.range (l.length * sz)).map (fun q => (if l.length * sz = 0 then (#[] : Array Value) else z.toArray)[q % (if l.length * sz = 0 then (#[] : Array Value) else z.toArray).size]!)
    have hcs0 : cs0.size = l.length * sz := by simp [cs0]
    obtain ⟨rs, r1, r2, r3, r4⟩ := fill_slice (K := K) (ok := ok) (w := w) sz ((parts.map fun p => (p.1, a.eval p.2)).toList) l 0 cs0 (by rw [← hi]; simp [Function.comp_def]) (by simpa [Function.comp_def] using hrel) hl (by rw [Nat.zero_add, hcs0]; exact Nat.le_refl _)
    have hno : ¬ (16777216 < l.length * sz) := by omega
    refine ⟨rs, e, l.length, ?_, by simp, by simp [BIG_eq]; omega, fun j el hj => ?_, fun j i el x hj hi' => ?_⟩
    · rw [List.length_map]
      have hrun : (Instr.buildSlice t l.length (parts.map fun p => (p.1, a.eval p.2))).run P w = .ok (.slice (some ⟨w.heap.size, 0, none⟩) l.length l.length) (w.alloc (.cells rs e)) := by
        by_cases hzero : l.length * sz = 0
        · have r1' := r1
          simp only [cs0, hzero, if_true] at r1'
          simp only [Instr.buildSlice, Sem.run_bind, run_underlying' hs.u, Result.andThen_ok, hsz]
          simp [hzero] at r1' ⊢
          rw [r1']
          simp [newRow]
        · have r1' := r1
          simp only [cs0, if_neg hzero] at r1'
          simp only [Instr.buildSlice, Sem.run_bind, run_underlying' hs.u, Result.andThen_ok, hsz]
          simp [hzero, hno, hz1, hz2] at r1' ⊢
          rw [r1']
          simp [newRow]
      simp only [execOp, Sem.run_bind, hrun, Result.andThen_ok, Sem.run_pure]
    · simp only [List.getElem?_map, Option.map_eq_some_iff] at hj
      obtain ⟨y, hy, rfl⟩ := hj
      exact hl y (List.mem_of_getElem? hy)
    · simp only [List.getElem?_map, Option.map_eq_some_iff] at hj
      obtain ⟨y, hy, rfl⟩ := hj
      obtain ⟨u, hu, hr⟩ := r4 j i y x hy hi'
      rw [Nat.zero_add] at hu
      exact ⟨u, hu, hr.closed (closedL_get (hc y (List.mem_of_getElem? hy)) i x hi')⟩
theorem Step.callO2 {f : FuncId} {args : Array Operand} {ts : Array TypeId} {l res : List A1} {k1 k2 : Nat} {ob1 ob2 ob2' : Ob} (hx : E.evs args.toList = some l) (ho1 : O.get k1 = some ob1) (ho2 : O.get k2 = some ob2) (hne : Nat.beq k1 k2 = false) (hna : notAbs ob1 = true) (hoc : obClosed ob2 = true) (hoc' : obClosed ob2' = true)
    (hren : renOb [(1000000, k1), (1000001, k2)] (renOb [(k1, 1000000), (k2, 1000001)] ob1) = ob1)
    (hct : CtO P f [(1000000, some (renOb [(k1, 1000000), (k2, 1000001)] ob1)), (1000001, some ob2)] (l.map (renA [(k1, 1000000), (k2, 1000001)])) [(1000000, some (renOb [(k1, 1000000), (k2, 1000001)] ob1)), (1000001, some ob2')] res) (hcl : closedAs res = true) :
    Step P E O ⟨d, .call ⟨.value (.func f), args, ts⟩, ty, pos, af, g⟩ (some (retV res)) (.upd k2 ob2') := by
  intro N K ok w a next Q hs hn
  have he : (execOp a.eval ⟨d, .call ⟨.value (.func f), args, ts⟩, ty, pos, af, g⟩).run P w = (callFunc f (args.toList.map a.eval).toArray).run P w := by
    have : (args.toList.map a.eval).toArray = args.map a.eval := by apply Array.ext' ; simp
    rw [this]
    simp [execOp, resolve, Act.eval, Deferred.ofValue, invoke]
  have hne2 : Nat.beq k2 k1 = false := by
    cases hb : Nat.beq k2 k1 with
    | false => rfl
    | true => rw [Nat.eq_of_beq_eq_true hb, Nat.beq_refl] at hne; cases hne
  have l1 : Nat.beq 1000001 1000000 = false := rfl
  have l2 : Nat.beq 1000000 1000001 = false := rfl
  have hna1 : ∀ σ, isAbs (some (renOb σ ob1)) = false := fun σ => by cases ob1 <;> first | rfl | cases hna
  have hna0 : isAbs (some ob1) = false := by cases ob1 <;> first | rfl | cases hna
  have hab : hasAbs [(k1, 1000000), (k2, 1000001)] O = false := by simp [hasAbs, ho1, ho2, isAbs_closed hoc, hna0]
  refine CallR.oper he ((callG0 (σ := [(k1, 1000000), (k2, 1000001)]) (ν := [(1000000, k1), (1000001, k2)]) (Oout := [(1000000, some (renOb [(k1, 1000000), (k2, 1000001)] ob1)), (1000001, some ob2')]) (res := res) hs (evs_rel hs hx) ?_ ?_ ?_ ?_).mono fun e w' h => ?_)
  · simp [okIn, nodB, memB, hne, hne2, l1, l2]
  · simp [okNu, nodB, memB, lk, hasN, isSm, eqO, hne, hne2, l1, l2]
  · simp [okAbs, hab, noAbs, isAbs_closed hoc', hna1]
  · simpa [takeO, ho1, ho2, renOb_closed hoc] using hct
  · obtain ⟨v, K2, ok', rfl, hp2, hfr, hval, _, hsame⟩ := h
    have hkne : k1 ≠ k2 := fun e => by rw [e, Nat.beq_refl] at hne; cases hne
    have hsub : SubO (O.set k2 ob2') (outL [(1000000, k1), (1000001, k2)] [(1000000, some (renOb [(k1, 1000000), (k2, 1000001)] ob1)), (1000001, some ob2')] ++ O.delL ([(k1, 1000000), (k2, 1000001)].map (·.1))) := by
      have hout : outL [(1000000, k1), (1000001, k2)] [(1000000, some (renOb [(k1, 1000000), (k2, 1000001)] ob1)), (1000001, some ob2')] = [(k1, some ob1), (k2, some ob2')] := by
        simp [outL, lk, hren, renOb_closed hoc', l1, l2]
      rw [hout]
      intro t o h
      rw [Objs.get_set] at h
      simp only [List.cons_append, List.nil_append, Objs.get, List.map_cons, List.map_nil, Objs.delL]
      by_cases h2 : k2 = t
      · subst h2
        rw [if_pos rfl] at h
        rw [hne]
        simpa using h
      · rw [if_neg h2] at h
        by_cases h1 : k1 = t
        · subst h1
          rw [ho1] at h
          simpa using h
        · have b1 : Nat.beq k1 t = false := by
            cases hb : Nat.beq k1 t with
            | false => rfl
            | true => exact absurd (Nat.eq_of_beq_eq_true hb) h1
          have b2 : Nat.beq k2 t = false := by
            cases hb : Nat.beq k2 t with
            | false => rfl
            | true => exact absurd (Nat.eq_of_beq_eq_true hb) h2
          rw [b1, b2]
          simp only [cond_false]
          exact Objs.get_del_ne h2 (Objs.get_del_ne h1 h)
    rw [renAs_closed hcl] at hval
    refine ⟨v, rfl, hn v K2 ok' w' ⟨fun x hx => by cases hx; exact hval, hp2.sub hsub, hfr.trans (Fr.weak hsub), fun r _ => hsame r fun q hq => ?_⟩⟩
    simp only [List.mem_cons, Prod.mk.injEq, List.not_mem_nil, or_false] at hq
    omega
theorem takeO_congr {σ : List (Nat × Nat)} {O O' : Objs} : ∀ {l : List (Nat × Nat)}, (∀ p, p ∈ l → O'.get p.1 = O.get p.1) → takeO σ O' l = takeO σ O l
  | [], _ => rfl
  | (k, q) :: l, h => by
    simp only [takeO]
    rw [h (k, q) (by simp), takeO_congr fun p hp => h p (List.mem_cons_of_mem _ hp)]
theorem getMap {O B : Objs} {t : Nat} {o : Ob} (ho : O.get t = some o) : ∀ σ : List (Nat × Nat), (t ∈ σ.map (·.1) ∨ B.get t = some o) → Objs.get (σ.map (fun p => (p.1, O.get p.1)) ++ B) t = some o
  | [], h => by
    rcases h with h | h
    · simp at h
    · exact h
  | (k, q) :: σ, h => by
    simp only [List.map_cons, List.cons_append, Objs.get]
    cases hb : Nat.beq k t with
    | true => rw [Nat.eq_of_beq_eq_true hb]; exact ho
    | false =>
      refine getMap ho σ ?_
      rcases h with h | h
      · simp only [List.map_cons, List.mem_cons] at h
        rcases h with h | h
        · rw [h, Nat.beq_refl] at hb; cases hb
        · exact .inl h
      · exact .inr h
theorem delL_ne : ∀ {l : List Nat} {O : Objs} {t : Nat} {o : Ob}, t ∉ l → O.get t = some o → (O.delL l).get t = some o
  | [], _, _, _, _, h => h
  | k :: l, O, t, o, hn, h => by
    simp only [List.mem_cons, not_or] at hn
    exact delL_ne (l := l) hn.2 (Objs.get_del_ne (fun e => hn.1 e.symm) h)
theorem okNu_ge {σ ν : List (Nat × Nat)} {O Oout : Objs} (hv : ∀ p, p ∈ ν → Nat.ble 1000000 p.1 = true) (h : okNu σ ν [] Oout = true) : okNu σ ν O Oout = true := by
  simp only [okNu, Bool.and_eq_true, List.all_eq_true] at h ⊢
  obtain ⟨h1, h2, h3, h4, h5⟩ := h
  refine ⟨h1, h2, h3, h4, fun p hp => ?_⟩
  have := h5 p hp
  rw [hv p hp] at this ⊢
  exact this
theorem tgt_run {N : Cx} {K : Km} {ok : Nat → Prop} {w : World} {a : Act} (hs : Sim N K ok w E O a) {c : Operand} {args : Array Operand} {ts : Array TypeId} {f : FuncId} {l : List A1} (h : tgt E c args.toList = some (f, l)) :
    ∃ vs : List Value, RelAs K ok w l vs ∧ (execOp a.eval ⟨d, .call ⟨.value c, args, ts⟩, ty, pos, af, g⟩).run P w = (callFunc f vs.toArray).run P w := by
  unfold tgt at h
  split at h
  · split at h
    · rename_i f' l' hl
      cases h
      refine ⟨args.toList.map a.eval, evs_rel hs hl, ?_⟩
      have : (args.toList.map a.eval).toArray = args.map a.eval := by apply Array.ext' ; simp
      rw [this]
      simp [execOp, resolve, Act.eval, Deferred.ofValue, invoke]
    · cases h
  · rename_i t
    split at h
    · rename_i f' caps l' hf hl
      cases h
      have hrel := evs_rel hs hl
      have hfv := (hs.ev (x := .tmp t) hf).one
      generalize hev : a.eval (.tmp t) = v at hfv
      have key : ∃ vcs : List Value, v = .func (.func (fnF f')) (fnL f' vcs) (fnR f' vcs) ∧ RelAs K ok w (caps.map .c) vcs := by
        cases hfv with
        | cl h =>
          cases h with
          | fn gg hg =>
            refine ⟨_, rfl, ⟨by simp, fun i x hx => ?_⟩⟩
            simp only [List.getElem?_map, Option.map_eq_some_iff] at hx
            obtain ⟨y, hy, rfl⟩ := hx
            have hlt : i < caps.length := (List.getElem?_eq_some_iff.1 hy).1
            exact ⟨gg i, by simp [hlt], .c (.cl (hg i y hy))⟩
        | fn gg hg =>
          refine ⟨_, rfl, ⟨by simp, fun i x hx => ?_⟩⟩
          simp only [List.getElem?_map, Option.map_eq_some_iff] at hx
          obtain ⟨y, hy, rfl⟩ := hx
          have hlt : i < caps.length := (List.getElem?_eq_some_iff.1 hy).1
          exact ⟨gg i, by simp [hlt], .c (hg i y hy)⟩
      obtain ⟨vcs, rfl, hcr⟩ := key
      refine ⟨Pv.fnA f' (args.toList.map a.eval) vcs, hrel.fnA f' hcr, ?_⟩
      rw [← fnA_arr]
      have : (args.toList.map a.eval).toArray = args.map a.eval := by apply Array.ext' ; simp
      rw [this]
      simp [execOp, resolve, hev, Deferred.ofValue, invoke]
    · cases h
  · cases h
theorem Step.callSame {c : Operand} {f : FuncId} {args : Array Operand} {ts : Array TypeId} {l res : List A1} {σ : List (Nat × Nat)} {k : Nat} {ob : Ob} (hx : tgt E c args.toList = some (f, l)) (ho : O.get k = some ob) (hi : okIn σ = true) (hn : okNu σ (swapL σ) [] (takeO σ O σ) = true) (ha : hasAbs σ O = false) (hna : noAbs (takeO σ O σ) = true)
    (hback : outL (swapL σ) (takeO σ O σ) = σ.map fun p => (p.1, O.get p.1)) (hct : CtO P f (takeO σ O σ) (l.map (renA σ)) (takeO σ O σ) res) (hcl : closedAs res = true) :
    Step P E O ⟨d, .call ⟨.value c, args, ts⟩, ty, pos, af, g⟩ (some (retV res)) (.upd k ob) := by
  intro N K ok w a next Q hs hnx
  obtain ⟨vs, hrel, he⟩ := tgt_run (d := d) (ty := ty) (pos := pos) (af := af) (g := g) (ts := ts) hs hx
  have hge : ∀ p, p ∈ swapL σ → Nat.ble 1000000 p.1 = true := fun p hp => by
    simp only [okIn, Bool.and_eq_true, List.all_eq_true] at hi
    exact hi.2.2 (p.2, p.1) (swap_mem.1 hp)
  refine CallR.oper he ((callG0 (σ := σ) (ν := swapL σ) (Oout := takeO σ O σ) (res := res) hs hrel hi (okNu_ge hge hn) (by rw [okAbs, ha]; exact hna) hct).mono fun e w' h => ?_)
  obtain ⟨v, K2, ok', rfl, hp2, hfr, hval, _, hsame⟩ := h
  rw [hback] at hp2 hfr
  have hsub : SubO (O.set k ob) (σ.map (fun p => (p.1, O.get p.1)) ++ O.delL (σ.map (·.1))) := by
    intro t o h
    have ht : O.get t = some o := by
      rw [Objs.get_set] at h
      split at h
      · rename_i e; subst e; rw [ho]; exact h
      · exact h
    refine getMap ht σ ?_
    by_cases hm : t ∈ σ.map (·.1)
    · exact .inl hm
    · exact .inr (delL_ne hm ht)
  rw [renAs_closed hcl] at hval
  exact ⟨v, rfl, hnx v K2 ok' w' ⟨fun x hx => by cases hx; exact hval, hp2.sub hsub, hfr.trans (Fr.weak hsub), fun r _ => hsame r fun q hq => Nat.le_of_ble_eq_true (hge _ hq)⟩⟩
theorem Step.callSam {c : Operand} {f : FuncId} {args : Array Operand} {ts : Array TypeId} {l res : List A1} {σ : List (Nat × Nat)} {ks : List Nat} (hx : tgt E c args.toList = some (f, l)) (hi : okIn σ = true) (hn : okNu σ (swapL σ) [] (takeO σ O σ) = true) (ha : hasAbs σ O = false) (hna : noAbs (takeO σ O σ) = true)
    (hback : outL (swapL σ) (takeO σ O σ) = σ.map fun p => (p.1, O.get p.1)) (hct : CtO P f (takeO σ O σ) (l.map (renA σ)) (takeO σ O σ) res) (hcl : closedAs res = true) :
    Step P E O ⟨d, .call ⟨.value c, args, ts⟩, ty, pos, af, g⟩ (some (retV res)) (.vu ks) := by
  intro N K ok w a next Q hs hnx
  obtain ⟨vs, hrel, he⟩ := tgt_run (d := d) (ty := ty) (pos := pos) (af := af) (g := g) (ts := ts) hs hx
  have hge : ∀ p, p ∈ swapL σ → Nat.ble 1000000 p.1 = true := fun p hp => by
    simp only [okIn, Bool.and_eq_true, List.all_eq_true] at hi
    exact hi.2.2 (p.2, p.1) (swap_mem.1 hp)
  refine CallR.oper he ((callG0 (σ := σ) (ν := swapL σ) (Oout := takeO σ O σ) (res := res) hs hrel hi (okNu_ge hge hn) (by rw [okAbs, ha]; exact hna) hct).mono fun e w' h => ?_)
  obtain ⟨v, K2, ok', rfl, hp2, hfr, hval, _, hsame⟩ := h
  rw [hback] at hp2 hfr
  have hsub : SubO O (σ.map (fun p => (p.1, O.get p.1)) ++ O.delL (σ.map (·.1))) := by
    intro t o ht
    refine getMap ht σ ?_
    by_cases hm : t ∈ σ.map (·.1)
    · exact .inl hm
    · exact .inr (delL_ne hm ht)
  rw [renAs_closed hcl] at hval
  exact ⟨v, rfl, hnx v K2 ok' w' ⟨fun x hx => by cases hx; exact hval, hp2.sub hsub, hfr.trans (Fr.weak hsub), fun r _ => hsame r fun q hq => Nat.le_of_ble_eq_true (hge _ hq)⟩⟩
theorem opT_sound (hT : T.ok P) {op : Op} (h : opT P T E O d op K) : Out P E O ⟨d, op, ty, pos, af, g⟩ K := by
  unfold opT at h
  split at h
  · rename_i t0 len parts
    have hq := bif_of h; clear h; rcases hq with ⟨_, h⟩ | ⟨_, h⟩
    · split at h
      · rename_i e _ _ _ _ l ht hl
        have hsl : TSl P _ e := (hT _ _ ht).2
        split at h
        · rename_i td he
          have hti := (hT _ _ he).1
          have hq := bif_S h; clear h; obtain ⟨hb, h⟩ := hq
          simp only [Bool.and_eq_true] at hb
          obtain ⟨⟨⟨⟨⟨b1, b2⟩, b3⟩, b4⟩, b5⟩, b6⟩ := hb
          have hlen := Nat.eq_of_beq_eq_true b2
          exact ⟨_, _, fun E' O' A => Step.buildSliceC (P := P) (evs_congr (fun y _ hy => A.e _ _ (by simp only [Op.operands]; exact hy)) hl) (by rw [show l.length = (parts.toList.map (·.1)).length by rw [evs_len hl]; simp]; exact isRange_spec b1) hlen (Nat.eq_of_beq_eq_true b3) (fun y hy => (allLen_spec b4 y hy).1) (fun y hy => (allLen_spec b4 y hy).2) (Nat.le_of_ble_eq_true b5) (Nat.le_of_ble_eq_true b6), fun _ => nn, h⟩
        · exact h.elim
      · exact h.elim
    · exact opN_sound hT h
  · rename_i t x
    have mem : ∀ {y : Operand}, y = x → y ∈ (Op.load t x).operands.toList := fun hy => by subst hy; simp [Op.operands]
    have hq := bif_of h; clear h; rcases hq with ⟨_, h⟩ | ⟨_, h⟩
    · split at h
      · rename_i td k off ht hx
        split at h
        · rename_i cells ho
          split at h
          · rename_i y hy
            have hq := bif_S h; clear h; obtain ⟨hb, h⟩ := hq
            have hle := Nat.le_of_ble_eq_true hb
            have hb2 : Nat.ble td.sz (cells.drop off).length = true := Nat.ble_eq_true_of_le (by rw [List.length_drop]; omega)
            have h0 : opN P T E O d (.load t x) (fun av eff => av = some (.o y) ∧ eff = .no) := by
              simp only [opN, opS, loadS, ht, hx, atC, ho, hy, hb2, cond_true]
              exact ⟨trivial, trivial⟩
            obtain ⟨av, eff, hst, hnm, rfl, rfl⟩ := opN_sound (ty := ty) (pos := pos) (af := af) (g := g) hT h0
            have hq := bif_of h; clear h; rcases hq with ⟨_, h⟩ | ⟨_, h⟩
            · exact ⟨_, _, hst, hnm, h⟩
            · exact ⟨_, _, fun E' O' A => Step.less (hst E' O' ⟨A.e, A.o, fun k hk => (by cases hk), fun k hk => (by cases hk), fun k hk => (by cases hk)⟩) ((A.o rfl x _ k (mem rfl) hx (Nat.beq_refl _)).trans ho) (fun K ok w hob => HOb.deadVar hle hob), fun _ => nu, h⟩
          · exact h.elim
        · exact opN_sound hT h
      · rename_i td r sz i off ht hx
        split at h
        · rename_i sz' els ids ho
          have hq := bif_S h; clear h; obtain ⟨hsz, el, hel, h⟩ := hq
          split at h
          · rename_i y hy
            have hq := bif_S h; clear h; obtain ⟨hb, h⟩ := hq
            have hle := Nat.le_of_ble_eq_true hb
            have hb2 : Nat.ble td.sz (el.drop off).length = true := Nat.ble_eq_true_of_le (by rw [List.length_drop]; omega)
            have h0 : opN P T E O d (.load t x) (fun av eff => av = some (.o y) ∧ eff = .no) := by
              simp only [opN, opS, loadS, ht, hx, ho, hsz, cond_true]
              exact ⟨el, hel, by simp only [hy, hb2, cond_true]; exact ⟨trivial, trivial⟩⟩
            obtain ⟨av, eff, hst, hnm, rfl, rfl⟩ := opN_sound (ty := ty) (pos := pos) (af := af) (g := g) hT h0
            have hq := bif_of h; clear h; rcases hq with ⟨_, h⟩ | ⟨_, ids', hids, h⟩
            · exact ⟨_, _, hst, hnm, h⟩
            · have e := Nat.eq_of_beq_eq_true hsz
              subst e
              exact ⟨_, _, fun E' O' A => Step.less (hst E' O' ⟨A.e, A.o, fun k hk => (by cases hk), fun k hk => (by cases hk), fun k hk => (by cases hk)⟩) ((A.o rfl x _ r (mem rfl) hx (Nat.beq_refl _)).trans ho) (fun K ok w hob => HOb.deadRow hel hle hids hob), fun _ => nu, h⟩
          · exact h.elim
        · exact opN_sound hT h
      · exact opN_sound hT h
    · exact opN_sound hT h
  · rename_i f args ts
    have mem : ∀ {x : Operand}, x ∈ args.toList → x ∈ (Op.call ⟨.value (.func f), args, ts⟩).operands.toList := fun hy => by simp [Op.operands, Call.operands]; simp at hy; simp [hy]
    split at h
    · rename_i l hl
      have ev : ∀ {E' : Env} {O' : Objs} {eff : Eff}, Agr E O E' O' (.call ⟨.value (.func f), args, ts⟩) eff → E'.evs args.toList = some l := fun A => evs_congr (fun y _ hy => A.e _ _ (mem hy)) hl
      have obj : ∀ {E' : Env} {O' : Objs} {eff : Eff}, Agr E O E' O' (.call ⟨.value (.func f), args, ts⟩) eff → ∀ y, y ∈ l → ∀ k, y.ment k = true → O'.get k = O.get k := fun A y hy k hk => by
        obtain ⟨i, hi⟩ := List.mem_iff_getElem?.1 hy
        obtain ⟨x, hx, he⟩ := evs_src hl i y hi
        exact A.o rfl x _ k (mem (List.mem_of_getElem? hx)) he hk
      have hq := bif_of h; clear h; rcases hq with ⟨_, res, hct, h⟩ | ⟨_, how, h⟩
      · have hq := bif_S h; clear h; obtain ⟨hc, h⟩ := hq
        exact ⟨_, _, fun E' O' A => Step.call (ev A) hct hc, fun _ => nn, h⟩
      · cases how with
        | look =>
          obtain ⟨res, hct, h⟩ := h
          have hq := bif_S h; clear h; obtain ⟨hc, h⟩ := hq
          exact ⟨_, _, fun E' O' A => Step.callS (ev A) (List.map_congr_left fun y hy => viewA_congr fun k hk => obj A y hy k hk) hct hc, fun _ => nn, h⟩
        | upd k =>
          simp only at h
          split at h
          · rename_i ob ho
            have hq := bif_S h; clear h; obtain ⟨hb, ob', res, hct, h⟩ := hq
            have hq := bif_S h; clear h; obtain ⟨hb', h⟩ := hq
            simp only [Bool.and_eq_true] at hb hb'
            obtain ⟨y, hy, hm⟩ := List.any_eq_true.1 hb.1
            exact ⟨_, _, fun E' O' A => Step.callO (ev A) ((obj A y hy k hm).trans ho) hb.2 hb'.1 rfl hct hb'.2, fun _ => nu, h⟩
          · exact h.elim
        | frz => exact h.elim
        | own _ _ => exact h.elim
        | fzo _ _ _ => exact h.elim
        | two k1 k2 =>
          simp only at h
          split at h
          · rename_i ob1 ob2 ho1 ho2
            have hq := bif_S h; clear h; obtain ⟨hb, hren, ob2', res, hct, h⟩ := hq
            have hq := bif_S h; clear h; obtain ⟨hb', h⟩ := hq
            simp only [Bool.and_eq_true, Bool.not_eq_true'] at hb hb'
            obtain ⟨hne, hmem, hoc, hna⟩ := hb
            obtain ⟨y, hy, hm⟩ := List.any_eq_true.1 hmem
            exact ⟨_, _, fun E' O' A => Step.callO2 (ev A) ((obj A y hy k1 hm).trans ho1) ((A.u k2 (Eff.mem_hk (by simp [Eff.keys, Eff.prs]))).trans ho2) hne hna hoc hb'.1 hren hct hb'.2, fun _ => nu, h⟩
          · exact h.elim
        | sam σ =>
          have hq := bif_S h; clear h; obtain ⟨hb, hback, res, hct, h⟩ := hq
          have hq := bif_S h; clear h; obtain ⟨hc, h⟩ := hq
          simp only [Bool.and_eq_true, Bool.not_eq_true'] at hb
          obtain ⟨hi, hn, ha, hna⟩ := hb
          refine ⟨_, _, fun E' O' A => ?_, fun _ => nv, h⟩
          have hag : ∀ p, p ∈ σ → O'.get p.1 = O.get p.1 := fun p hp => A.v p.1 (List.mem_map.2 ⟨p, hp, rfl⟩)
          have ht := takeO_congr (σ := σ) hag
          have hab : hasAbs σ O' = false := by
            cases hq : hasAbs σ O' with
            | false => rfl
            | true =>
              obtain ⟨p, hp, hq⟩ := List.any_eq_true.1 hq
              rw [hag p hp] at hq
              have : hasAbs σ O = true := List.any_eq_true.2 ⟨p, hp, hq⟩
              rw [ha] at this; cases this
          have hmap : σ.map (fun p => (p.1, O'.get p.1)) = σ.map (fun p => (p.1, O.get p.1)) := List.map_congr_left fun p hp => by rw [hag p hp]
          exact Step.callSam (show tgt E' (.func f) args.toList = some (f, l) by simp only [tgt, ev A]) hi (by rw [ht]; exact hn) hab (by rw [ht]; exact hna) (by rw [ht, hmap]; exact hback) (by rw [ht]; exact hct) hc
        | same σ k =>
          simp only at h
          split at h
          · rename_i ob ho
            have hq := bif_S h; clear h; obtain ⟨hb, hback, res, hct, h⟩ := hq
            have hq := bif_S h; clear h; obtain ⟨hc, h⟩ := hq
            simp only [Bool.and_eq_true, Bool.not_eq_true', List.all_eq_true] at hb
            obtain ⟨hi, hn, ha, hna, hall⟩ := hb
            refine ⟨_, _, fun E' O' A => ?_, fun _ => nu, h⟩
            have hk : O'.get k = O.get k := A.u k (Eff.mem_hk (by simp [Eff.keys, Eff.prs]))
            have hag : ∀ p, p ∈ σ → O'.get p.1 = O.get p.1 := fun p hp => by
              have := hall p hp
              rw [Bool.or_eq_true] at this
              rcases this with e | e
              · rw [Nat.eq_of_beq_eq_true e]; exact hk
              · obtain ⟨y, hy, hm⟩ := List.any_eq_true.1 e
                exact obj A y hy p.1 hm
            have ht := takeO_congr (σ := σ) hag
            have hab : hasAbs σ O' = false := by
              cases hq : hasAbs σ O' with
              | false => rfl
              | true =>
                obtain ⟨p, hp, hq⟩ := List.any_eq_true.1 hq
                rw [hag p hp] at hq
                have : hasAbs σ O = true := List.any_eq_true.2 ⟨p, hp, hq⟩
                rw [ha] at this; cases this
            have hmap : σ.map (fun p => (p.1, O'.get p.1)) = σ.map (fun p => (p.1, O.get p.1)) := List.map_congr_left fun p hp => by rw [hag p hp]
            exact Step.callSame (show tgt E' (.func f) args.toList = some (f, l) by simp only [tgt, ev A]) (hk.trans ho) hi (by rw [ht]; exact hn) hab (by rw [ht]; exact hna) (by rw [ht, hmap]; exact hback) (by rw [ht]; exact hct) hc
          · exact h.elim
    · exact h.elim
  · rename_i c args ts
    have mem : ∀ {x : Operand}, x ∈ args.toList → x ∈ (Op.call ⟨.value (.tmp c), args, ts⟩).operands.toList := fun hy => by simp [Op.operands, Call.operands]; simp at hy; simp [hy]
    have memc : (Operand.tmp c) ∈ (Op.call ⟨.value (.tmp c), args, ts⟩).operands.toList := by simp [Op.operands, Call.operands]
    split at h
    · rename_i f caps l hf hl
      have ev : ∀ {E' : Env} {O' : Objs} {eff : Eff}, Agr E O E' O' (.call ⟨.value (.tmp c), args, ts⟩) eff → E'.evs args.toList = some l := fun A => evs_congr (fun y _ hy => A.e _ _ (mem hy)) hl
      have evc : ∀ {E' : Env} {O' : Objs} {eff : Eff}, Agr E O E' O' (.call ⟨.value (.tmp c), args, ts⟩) eff → E'.get c = some (.c (.fn f caps)) := fun A => A.e _ _ memc hf
      have hq := bif_of h; clear h; rcases hq with ⟨_, h⟩ | ⟨_, σ, h⟩
      · exact opN_sound hT h
      · have hq := bif_S h; clear h; obtain ⟨hb, hback, res, hct, h⟩ := hq
        have hq := bif_S h; clear h; obtain ⟨hc, h⟩ := hq
        simp only [Bool.and_eq_true, Bool.not_eq_true'] at hb
        obtain ⟨hi, hn, ha, hna⟩ := hb
        refine ⟨_, _, fun E' O' A => ?_, fun _ => nv, h⟩
        have hag : ∀ p, p ∈ σ → O'.get p.1 = O.get p.1 := fun p hp => A.v p.1 (List.mem_map.2 ⟨p, hp, rfl⟩)
        have ht := takeO_congr (σ := σ) hag
        have hab : hasAbs σ O' = false := by
          cases hq : hasAbs σ O' with
          | false => rfl
          | true =>
            obtain ⟨p, hp, hq⟩ := List.any_eq_true.1 hq
            rw [hag p hp] at hq
            have : hasAbs σ O = true := List.any_eq_true.2 ⟨p, hp, hq⟩
            rw [ha] at this; cases this
        have hmap : σ.map (fun p => (p.1, O'.get p.1)) = σ.map (fun p => (p.1, O.get p.1)) := List.map_congr_left fun p hp => by rw [hag p hp]
        exact Step.callSam (show tgt E' (.tmp c) args.toList = some (fnF f, fnA f l (caps.map .c)) by simp only [tgt, ev A, evc A]) hi (by rw [ht]; exact hn) hab (by rw [ht]; exact hna) (by rw [ht, hmap]; exact hback) (by rw [ht]; exact hct) hc
    · exact opN_sound hT h
  · rename_i args ts
    split at h
    · rename_i r _
      have hq := bif_of h; clear h; rcases hq with ⟨_, h⟩ | ⟨_, h⟩
      · exact opN_sound hT h
      · split at h
        · rename_i j _
          split at h
          · rename_i ob ho
            obtain ⟨av, eff, hst, hnm, hk⟩ := opN_sound (ty := ty) (pos := pos) (af := af) (g := g) hT h
            unfold apkK at hk
            split at hk
            · rename_i r' obr
              have hq := bif_of hk; clear hk; rcases hq with ⟨_, hk⟩ | ⟨hb, hk⟩
              · exact hk.elim
              · have hne : j ≠ r' := fun e => by subst e; rw [Nat.beq_refl] at hb; cases hb
                refine ⟨av, .apk r' obr j (killOb r ob), fun E' O' A => ?_, fun k hk' => hnm k hk', hk⟩
                have gset : ∀ q, O'.get q = O.get q → (O'.set j (killOb r ob)).get q = (O.set j (killOb r ob)).get q := fun q hq => by rw [Objs.get_set, Objs.get_set, hq]
                refine Step.apk hne (hst E' _ ⟨A.e, fun hr x a k hx he hm => gset k (A.o hr x a k hx he hm), A.n, fun k hk => gset k (A.u k (Eff.mem_hk ?_)), fun k hk => (by cases hk)⟩) ((A.u j (Eff.mem_hk (by simp [Eff.keys, Eff.prs]))).trans ho) (fun _ _ _ h => h.kill)
                have := Eff.hk_mem hk
                simp only [Eff.keys, Eff.prs, List.map_cons, List.map_nil, List.mem_cons, List.not_mem_nil, or_false] at this ⊢
                exact .inr this
            · exact hk.elim
          · exact h.elim
        · exact h.elim
    · exact opN_sound hT h
  · exact opN_sound hT h
end
theorem Objs.kill_get {k : Nat} : ∀ {O : Objs} {t : Nat} {o : Ob}, (O.kill k).get t = some o → ∃ o', O.get t = some o' ∧ o = killOb k o'
  | [], _, _, h => by simp [Objs.kill, Objs.get] at h
  | (q, o') :: O, t, o, h => by
    simp only [Objs.kill, Objs.get] at h ⊢
    cases hb : Nat.beq q t with
    | true =>
      rw [hb] at h
      simp only [cond_true, Option.map_eq_some_iff] at h ⊢
      obtain ⟨p, h1, h2⟩ := h
      exact ⟨p, h1, h2.symm⟩
    | false => rw [hb] at h; exact Objs.kill_get h
theorem Sim.kill {N : Cx} {K : Km} {ok : Nat → Prop} {w : World} {E : Env} {O : Objs} {a : Act} (hs : Sim N K ok w E O a) (k : Nat) : Sim N K ok w E (O.kill k) a ∧ Fr K ok w O K ok w (O.kill k) := by
  have g : ∀ {t o}, (O.kill k).get t = some o → ∃ o', O.get t = some o' ∧ o = killOb k o' := fun h => Objs.kill_get h
  refine ⟨⟨hs.size, hs.defers, hs.base, hs.rnd, hs.old, ⟨fun t o h => ?_, fun t t' o o' b L L' h1 h2 => ?_, fun t o b L h => ?_, hs.hp.lt, hs.hp.hlt, hs.hp.hok, fun t o b L h => ?_⟩, hs.env⟩,
    Nat.le_refl _, fun _ _ _ _ => rfl, fun _ h => h, fun _ h => .inl h, fun t o b L h1 h2 => ?_, rfl, rfl, rfl, fun _ o h => ⟨o, h, SK.refl o⟩, fun _ _ => rfl, fun _ h => .inl h⟩
  · obtain ⟨o', h1, rfl⟩ := g h; exact (hs.hp.obs t o' h1).kill
  · obtain ⟨p, g1, _⟩ := g h1
    obtain ⟨p', g2, _⟩ := g h2
    exact hs.hp.inj t t' p p' b L L' g1 g2
  · obtain ⟨p, g1, _⟩ := g h; exact hs.hp.apart t p b L g1
  · obtain ⟨p, g1, _⟩ := g h; exact hs.hp.how t p b L g1
  · obtain ⟨p, g1, _⟩ := g h1; exact .inr ⟨t, p, L, g1, h2⟩
section
variable {P : Program} {T : Ty} {E : Env} {O : Objs} {d : Option Tmp} {ty : TypeId} {pos : String} {af : Array Edge} {g : Option (Nat × Bool)} {K : Kt}
theorem Fr.of {X : Cx} {K : Km} {ok : Nat → Prop} {w : World} {a : Act} {av : Option AV} {eff : Eff} {v : Value} {K' : Km} {ok' : Nat → Prop} {w' : World} (hs : Sim X K ok w E O a) (h : SP K ok w O av eff v K' ok' w') (hd : ∀ t, d = some t → t < X.s.n ∧ t ∉ X.s.fz) :
    Sim X K' ok' w' (putE d av (eff.E E)) (eff.O O) (a.put d v) ∧ Fr K ok w O K' ok' w' (eff.O O) := ⟨h.sim hs hd, h.fr⟩
def nilB : BinOp → Bool → Bool
  | .eql, b => b
  | _, b => !b
theorem lenC_nil {K : Km} {ok : Nat → Prop} {w : World} {p : PC} {v : Value} {n : Nat} (h : RelO K ok w p v) (hn : lenC p = some n) : ∃ A c, v = .slice A n c ∧ (A.isNone = true → n = 0) := by
  cases h with
  | cl h =>
    cases h with
    | sc h =>
      unfold lenC at hn
      split at hn <;> rename_i hh <;> first | (cases hn; done) | (exfalso; injection hh; done) | skip
      injection hh with hh
      subst hh
      cases hn
      exact ⟨_, _, rfl, fun _ => rfl⟩
    | sl0 => cases hn; exact ⟨_, _, rfl, fun _ => rfl⟩
    | sl => cases hn; exact ⟨_, _, rfl, fun h => by simp at h⟩
    | _ => cases hn
  | ow => cases hn; exact ⟨_, _, rfl, fun h => by simp at h⟩
  | owN => cases hn; exact ⟨_, _, rfl, fun _ => rfl⟩
  | os => cases hn; exact ⟨_, _, rfl, fun h => by simp at h⟩
  | _ => cases hn
theorem nilSl_run {t e t' : TypeId} [hs2 : TSl P t e] {x y : Operand} {X : Cx} {K : Km} {ok : Nat → Prop} {w : World} {a : Act} {p : PC} {n : Nat} {op : BinOp} (hs : Sim X K ok w E O a) (hx : E.ev x = some (.c p)) (hn : lenC p = some n) (hy : E.ev y = some (.c (.sc (.slice none 0 0)))) (ho : op = .eql ∨ op = .neq) :
    ∃ b : Bool, (b = true → n = 0) ∧ (p = .sc (.slice none 0 0) → b = true) ∧ (execOp a.eval ⟨d, .binOp op t x y t', ty, pos, af, g⟩).run P w = .ok (.value (.bool (nilB op b))) w := by
  obtain ⟨A, c, hv, h0⟩ := lenC_nil (hs.ev hx).one hn
  have hy' := (hs.ev hy).sc.1
  refine ⟨A.isNone, h0, fun h => ?_, ?_⟩
  · subst h
    have := (hs.ev hx).sc.1
    rw [hv] at this
    injection this with h1
    rw [h1]; rfl
  · have heq : (Op.equal t (.slice A n c) (.slice none 0 0)).run P w = .ok A.isNone w := by
      unfold Op.equal Op.maxDepth Op.equalIn
      cases A <;> simp [run_underlying' hs2.u]
    rcases ho with rfl | rfl
    · have hg : (eqGuard .eql t x y (.slice A n c) (.slice none 0 0)).run P w = .ok () w := rfl
      have hb : binOp .eql t (.slice A n c) (.slice none 0 0) = (do pure (.bool (← Op.equal t (.slice A n c) (.slice none 0 0)))) := rfl
      simp [execOp, hv, hy', hg, hb, heq, nilB]
    · have hg : (eqGuard .neq t x y (.slice A n c) (.slice none 0 0)).run P w = .ok () w := rfl
      have hb : binOp .neq t (.slice A n c) (.slice none 0 0) = (do pure (.bool (!(← Op.equal t (.slice A n c) (.slice none 0 0))))) := rfl
      simp [execOp, hv, hy', hg, hb, heq, nilB]
theorem opR_sound {X : Cx} (hT : T.ok P) {op : Op} {C : Env → Objs → Prop} (h : opR P T E O d op C) (hd : ∀ t, d = some t → t < X.s.n ∧ t ∉ X.s.fz) :
    ∀ Km ok w a (next : Act → World → Prop) (Q : Exit → Act → World → Prop), Sim X Km ok w E O a → (∀ v E' O' K' ok' w', C E' O' → Sim X K' ok' w' E' O' (a.put d v) → Fr Km ok w O K' ok' w' O' → next (a.put d v) w') → Oper.wpIn (FR X.R) 0 P ⟨d, op, ty, pos, af, g⟩ a w next Q := by
  intro Km ok w a next Q hs hn
  have fin : ∀ {E1 : Env} {O1 : Objs} {av : Option AV} {eff : Eff} {ok1 : Nat → Prop}, (∀ c, op ≠ .defer c) → Sim X Km ok1 w E1 O1 a → Fr Km ok w O Km ok1 w O1 → Step P E1 O1 ⟨d, op, ty, pos, af, g⟩ av eff → C (putE d av (eff.E E1)) (eff.O O1) → Oper.wpIn (FR X.R) 0 P ⟨d, op, ty, pos, af, g⟩ a w next Q :=
    fun hnd hs1 hf1 hst hc => wpIn_of X.R hnd (hst X Km _ w a next Q hs1 fun v K' ok' w' hsp => hn v _ _ K' ok' w' hc (hsp.sim hs1 hd) (hf1.trans hsp.fr))
  have finN : ∀ {O1 : Objs}, Sim X Km ok w E O1 a → Fr Km ok w O Km ok w O1 → opN P T E O1 d op (fun av eff => C (putE d av (eff.E E)) (eff.O O1)) → Oper.wpIn (FR X.R) 0 P ⟨d, op, ty, pos, af, g⟩ a w next Q := by
    intro O1 hs1 hf1 h
    obtain ⟨av, eff, hst, hnm, hr⟩ := opN_sound (ty := ty) (pos := pos) (af := af) (g := g) hT h
    exact fin (opN_noDefer h) hs1 hf1 (hst E O1 (Agr.refl hnm)) hr
  unfold opR at h
  split at h
  · rename_i c args ts
    split at h
    · rename_i f l hl
      have hnd : ∀ c', (Op.call ⟨.value c, args, ts⟩) ≠ .defer c' := fun _ h => by cases h
      -- a closed call
      have closedCall : ∀ {E1 : Env} {O1 : Objs} {ok1 : Nat → Prop} {l1 res : List A1}, Sim X Km ok1 w E1 O1 a → Fr Km ok w O Km ok1 w O1 → tgt E1 c args.toList = some (f, l1) → Ct P f l1 res → closedAs res = true → C (putE d (some (retV res)) E1) O1 → Oper.wpIn (FR X.R) 0 P ⟨d, .call ⟨.value c, args, ts⟩, ty, pos, af, g⟩ a w next Q := by
        intro E1 O1 ok1 l1 res hs1 hf1 ht hct hc hC
        refine fin (eff := .no) hnd hs1 hf1 ?_ hC
        intro N K ok w a next Q hs hn
        obtain ⟨vs, hrel, he⟩ := tgt_run (P := P) (d := d) (ty := ty) (pos := pos) (af := af) (g := g) (ts := ts) hs ht
        refine CallR.oper he ((hct.run K.bare ok w _ (Hp.nil hs.hp.lt) hrel.bare).mono fun e w' h => ?_)
        obtain ⟨v, K', ok', rfl, hr, hp', hf⟩ := h
        exact ⟨v, rfl, hn v K ok' w' (SP.ofCall hs.hp hr hc hp' hf)⟩
      unfold callR at h
      have hq := bif_of h; clear h; rcases hq with ⟨_, res, hct, h⟩ | ⟨_, how, h⟩
      · have hq := bif_S h; clear h; obtain ⟨hc, h⟩ := hq
        exact closedCall hs (Fr.refl _ _ _ _) hl hct hc h
      · cases how with
        | look =>
          obtain ⟨res, hct, h⟩ := h
          have hq := bif_S h; clear h; obtain ⟨hc, h⟩ := hq
          refine fin (eff := .no) (av := some (retV res)) hnd hs (Fr.refl _ _ _ _) ?_ h
          intro N K ok w a next Q hs hn
          obtain ⟨vs, hrel, he⟩ := tgt_run (P := P) (d := d) (ty := ty) (pos := pos) (af := af) (g := g) (ts := ts) hs hl
          exact Step.callS_core hs (viewAs_rel hs.hp hrel) hct hc he hn
        | upd k =>
          simp only at h
          split at h
          · rename_i ob ho
            have hq := bif_S h; clear h; obtain ⟨hb, ob', res, hct, h⟩ := hq
            have hq := bif_S h; clear h; obtain ⟨hb', h⟩ := hq
            simp only [Bool.and_eq_true] at hb hb'
            refine fin (eff := .upd k ob') (av := some (retV res)) hnd hs (Fr.refl _ _ _ _) ?_ h
            intro N K ok w a next Q hs hn
            obtain ⟨vs, hrel, he⟩ := tgt_run (P := P) (d := d) (ty := ty) (pos := pos) (af := af) (g := g) (ts := ts) hs hl
            exact Step.callO_core hs hrel ho hb.2 hb'.1 hct hb'.2 he hn
          · exact h.elim
        | frz =>
          simp only at h
          split at h
          · rename_i f1 l1 hl1
            have hq := bif_S h; clear h; obtain ⟨hb, res, hct, h⟩ := hq
            have hq := bif_S h; clear h; obtain ⟨hc, h⟩ := hq
            simp only [Bool.and_eq_true] at hb
            have e := Nat.eq_of_beq_eq_true hb.2
            subst e
            obtain ⟨h1, h2⟩ := hs.view (idsAs l)
            exact closedCall h1 h2 hl1 hct hc h
          · exact h.elim
        | own σ ν =>
          simp only at h
          have hq := bif_S h; clear h; obtain ⟨hi, Oout, res, hct, h⟩ := hq
          have hq := bif_S h; clear h; obtain ⟨hok, h⟩ := hq
          simp only [Bool.and_eq_true] at hok
          obtain ⟨vs, hrel, he⟩ := tgt_run (P := P) (d := d) (ty := ty) (pos := pos) (af := af) (g := g) (ts := ts) hs hl
          refine wpIn_of X.R hnd (CallR.oper he ((callG hs hrel hi hok.1 hok.2 hct hd).mono fun e w' hh => ?_))
          obtain ⟨v, K2, ok', rfl, h1, h2⟩ := hh
          exact ⟨v, rfl, hn v _ _ K2 ok' w' h h1 h2⟩
        | two _ _ => exact h.elim
        | same _ _ => exact h.elim
        | sam _ => exact h.elim
        | fzo ks σ ν =>
          simp only at h
          split at h
          · rename_i f1 l1 hl1
            have hq := bif_S h; clear h; obtain ⟨hi, Oout, res, hct, h⟩ := hq
            have hq := bif_S h; clear h; obtain ⟨hok, h⟩ := hq
            simp only [Bool.and_eq_true] at hi hok
            have e := Nat.eq_of_beq_eq_true hi.2
            subst e
            obtain ⟨v1, v2⟩ := hs.view ks
            obtain ⟨vs, hrel, he⟩ := tgt_run (P := P) (d := d) (ty := ty) (pos := pos) (af := af) (g := g) (ts := ts) v1 hl1
            refine wpIn_of X.R hnd (CallR.oper he ((callG v1 hrel hi.1 hok.1 hok.2 hct hd).mono fun e w' hh => ?_))
            obtain ⟨v, K2, ok', rfl, h1, h2⟩ := hh
            exact ⟨v, rfl, hn v _ _ K2 ok' w' h h1 (v2.trans h2)⟩
          · exact h.elim
    · unfold cbR at h
      split at h
      · split at h
        · rename_i t v l ht hl
          obtain ⟨items, I, X', i, hY, ho, hi, h⟩ := h
          have hq := bif_S h; clear h; obtain ⟨hno, h1, h2⟩ := hq
          refine cb_sound hs ht hl hY ho hno hi hd fun b K' w' g1 g2 => ?_
          cases b with
          | true => exact hn _ _ _ K' ok w' h1 g1 g2
          | false => exact hn _ _ _ K' ok w' h2 g1 g2
        · exact h.elim
      · exact h.elim
  · -- slice
    rename_i t x lo hi
    split at h
    · rename_i r sz n hx
      rcases h with h | h
      · exact finN hs (Fr.refl _ _ _ _) h
      · unfold truncS at h
        split at h
        · rename_i e _ _ _ _ l hh sz' els ht hl hh' ho
          have hsl : TSl P t e := (hT _ _ ht).2
          split at h
          · rename_i td he
            have hti := (hT _ _ he).1
            have hq := bif_S h; clear h; obtain ⟨hb, h', el, eh, hn', h2, h⟩ := hq
            simp only [Bool.and_eq_true] at hb
            have e1 := Nat.eq_of_beq_eq_true hb.1
            have e2 := Nat.eq_of_beq_eq_true hb.2.1
            subst e1
            subst e2
            obtain ⟨k1, k2⟩ := hs.kill r
            have ho' : (O.kill r).get r = some (.row td.sz els) := by
              have key : ∀ {O : Objs}, O.get r = some (.row td.sz els) → (O.kill r).get r = some (.row td.sz els) := by
                intro O
                induction O with
                | nil => intro h; exact h
                | cons p O ih =>
                  obtain ⟨q, o⟩ := p
                  intro h
                  simp only [Objs.kill, Objs.get] at h ⊢
                  cases hb : Nat.beq q r with
                  | true => rw [hb] at h; simp only [cond_true] at h ⊢; rw [h]; rfl
                  | false => rw [hb] at h; exact ih h
              exact key ho
            exact fin (eff := .app r _) (fun _ h => by cases h) k1 k2 (Step.trunc (P := P) hx ho' hl hh' el eh hn' h2 (NoM.of (noMB_spec hb.2.2))) h
          · exact h.elim
        · exact h.elim
    · exact finN hs (Fr.refl _ _ _ _) h
  · -- a slice and nil
    rename_i bo t x y t'
    split at h
    · rename_i e _ _ _ _ ht hy
      have hsl : TSl P t e := (hT _ _ ht).2
      have nd : ∀ c', (Op.binOp bo t x y t') ≠ .defer c' := fun _ h => by cases h
      have go : ∀ {p : PC} {n : Nat}, E.ev x = some (.c p) → lenC p = some n → (bo = .eql ∨ bo = .neq) → (∀ b : Bool, (b = true → n = 0) → (p = .sc (.slice none 0 0) → b = true) → C (putE d (some (.c (.sc (.bool (nilB bo b))))) E) O) → Oper.wpIn (FR X.R) 0 P ⟨d, .binOp bo t x y t', ty, pos, af, g⟩ a w next Q := by
        intro p n hx hlc ho hC
        obtain ⟨b, hb, hp, hrun⟩ := nilSl_run (P := P) (d := d) (ty := ty) (pos := pos) (af := af) (g := g) (t := t) (t' := t') hs hx hlc hy ho
        refine wpIn_of X.R nd ?_
        unfold Oper.wp
        rw [hrun]
        have hsp : SP Km ok w O (some (.c (.sc (.bool (nilB bo b))))) .no (.bool (nilB bo b)) Km ok w := ⟨fun x hx => by cases hx; exact .ofSc trivial, hs.hp, Fr.refl _ _ _ _, fun _ _ => rfl⟩
        exact hn _ _ _ Km ok w (hC b hb hp) (hsp.sim hs hd) hsp.fr
      split at h
      · rename_i hx
        split at h
        · exact go hx rfl (.inl rfl) fun b _ hp => by rw [hp rfl]; exact h
        · exact go hx rfl (.inr rfl) fun b _ hp => by rw [hp rfl]; exact h
        · exact h.elim
      · rename_i p _ hx
        split at h
        · rename_i n hn'
          split at h
          · exact go hx hn' (.inl rfl) fun b hb _ => h b hb
          · exact go hx hn' (.inr rfl) fun b hb _ => h b hb
          · exact h.elim
        · exact h.elim
      · exact h.elim
    · exact finN hs (Fr.refl _ _ _ _) h
  · -- a map's entry
    split at h
    · have hq := bif_of h; clear h; rcases hq with ⟨_, h⟩ | ⟨_, ks, h⟩
      · exact finN hs (Fr.refl _ _ _ _) h
      · obtain ⟨h1, h2⟩ := hs.view ks
        obtain ⟨av, eff, hst, hnm, hr⟩ := opN_sound (ty := ty) (pos := pos) (af := af) (g := g) hT h
        exact fin (opN_noDefer h) h1 h2 (hst _ _ (Agr.refl hnm)) hr
    · exact h.elim
  · -- a literal
    have hq := bif_of h; clear h; rcases hq with ⟨_, h⟩ | ⟨_, h⟩
    · obtain ⟨av, eff, hst, hnm, hr⟩ := opT_sound (ty := ty) (pos := pos) (af := af) (g := g) hT h
      exact fin (opT_noDefer h) hs (Fr.refl _ _ _ _) (hst E O (Agr.refl hnm)) hr
    · split at h
      · rename_i k
        have hq := bif_of h; clear h; rcases hq with ⟨_, h⟩ | ⟨_, h⟩
        · exact finN hs (Fr.refl _ _ _ _) h
        · obtain ⟨k1, k2⟩ := hs.kill k
          exact finN k1 k2 h
      · exact finN hs (Fr.refl _ _ _ _) h
  · split at h
    · rename_i k _
      have hq := bif_of h; clear h; rcases hq with ⟨_, h⟩ | ⟨_, h⟩
      · exact finN hs (Fr.refl _ _ _ _) h
      · obtain ⟨k1, k2⟩ := hs.kill k
        exact finN k1 k2 h
    · exact finN hs (Fr.refl _ _ _ _) h
end
def regStep (P : Program) (T : Ty) (N : Nx) (ops : List Oper) (o : Oper) (rest : Env → Objs → (Env → Objs → Prop) → Prop) (E : Env) (O : Objs) (C : Env → Objs → Prop) : Prop :=
  match o.guard with
    | none => bif dstOk N o.dst then opR P T E O o.dst o.op (fun E O => rest E O C) else Stuck "dst"
    | some (j, want) => match (ops[j]?).bind (·.dst) with
      | some d => match E.get d with
        | some (.c (.sc (.bool b))) => BM (b := b)
            (bif dstOk N o.dst then (bif want then opR P T (.s d (some (.c (.sc (.bool true)))) :: E) O o.dst o.op (fun E O => rest E O C) else rest (putE o.dst skipV (.s d (some (.c (.sc (.bool true)))) :: E)) O C) else Stuck "dst")
            (bif dstOk N o.dst then (bif want then rest (putE o.dst skipV (.s d (some (.c (.sc (.bool false)))) :: E)) O C else opR P T (.s d (some (.c (.sc (.bool false)))) :: E) O o.dst o.op (fun E O => rest E O C)) else Stuck "dst")
        | some (.tup []) => bif dstOk N o.dst then rest (putE o.dst skipV E) O C else Stuck "dst"
        | _ => Stuck "guard"
      | none => Stuck "guard"
def regS (P : Program) (T : Ty) (N : Nx) (ops l : List Oper) (E : Env) (O : Objs) (C : Env → Objs → Prop) : Prop :=
  List.rec (motive := fun _ => Env → Objs → (Env → Objs → Prop) → Prop) (fun E O C => C E O) (fun o _ ih => regStep P T N ops o ih) l E O C
theorem regS_cons {P : Program} {T : Ty} {N : Nx} {ops rest : List Oper} {o : Oper} {E : Env} {O : Objs} {C : Env → Objs → Prop} : regS P T N ops (o :: rest) E O C = regStep P T N ops o (fun E O C => regS P T N ops rest E O C) E O C := rfl
section
variable {P : Program} {T : Ty} {N : Nx} {X : Cx} {E : Env} {O : Objs} {Q : PQ}
theorem wpIn_mono2 {F : Fence} {n : Nat} {o : Oper} {a : Act} {w : World} {K K' : Act → World → Prop} {Q Q' : Exit → Act → World → Prop} (h : ∀ a w, K a w → K' a w) (hq : ∀ e a w, Q e a w → Q' e a w) (hh : o.wpIn F n P a w K Q) : o.wpIn F n P a w K' Q' := by
  unfold Oper.wpIn at *
  refine ⟨hh.1, ?_⟩
  have hh := hh.2
  generalize (o.semAt F.round a.eval).run P w = r at *
  have hl : LetsOut Q → LetsOut Q' := fun ⟨a, w, h⟩ => ⟨a, w, hq _ _ _ h⟩
  cases r with
  | ok x w' =>
    cases x <;> simp only [Oper.uponIn] at hh ⊢ <;>
      first
        | exact h _ _ hh
        | exact ⟨hh.1, CallsIn.mono hh.2 (fun e w'' he => by cases e <;> first | exact h _ _ he | exact hq _ _ _ he | exact hl he)⟩
        | exact ⟨hh.1, RowsIn.mono hh.2 (fun _ _ he => h _ _ he)⟩
        | exact ⟨hh.1, RoundIn.mono hh.2 (fun e w'' he => by cases e <;> first | exact h _ _ he | exact hq _ _ _ he | exact hl he)⟩
  | halt x w' => cases x <;> simp only [Oper.uponIn] at hh ⊢ <;> first | exact hq _ _ _ hh | exact hh
theorem wpList_fr {K K' : Km} {ok ok' : Nat → Prop} {w w' : World} {O O' : Objs} {ops : List Oper} (hfr : Fr K ok w O K' ok' w' O') : ∀ (l : List Oper) (a1 : Act) (w1 : World), wpListIn (FR X.R) 0 P ops.toArray (Post X K' ok' w' O' Q) l a1 w1 → wpListIn (FR X.R) 0 P ops.toArray (Post X K ok w O Q) l a1 w1 := by
  intro l
  induction l with
  | nil => intro a1 w1 hh; exact Post.mono hfr (fun _ _ _ h => h) hh
  | cons o l ih =>
    intro a1 w1 hh
    unfold wpListIn at hh ⊢
    split
    · rename_i hwt
      rw [if_pos hwt] at hh
      exact wpIn_mono2 ih (fun _ _ _ h => Post.mono hfr (fun _ _ _ h => h) h) hh
    · rename_i hwt
      rw [if_neg hwt] at hh
      exact ⟨hh.1, ih _ _ hh.2⟩
theorem regS_sound (hT : T.ok P) {ops : List Oper} : ∀ (l : List Oper) (E : Env) (O : Objs), regS P T X.s ops l E O (fun E O => Q .normal E O) → ∀ K ok w a, Sim X K ok w E O a → wpListIn (FR X.R) 0 P ops.toArray (Post X K ok w O Q) l a w
  | [], E, O, h, K, ok, w, a, hs => ⟨E, O, K, ok, h, hs, Fr.refl _ _ _ _⟩
  | o :: rest, E, O, h, K, ok, w, a, hs => by
    have hdo : dstOk X.s o.dst = true → ∀ t, o.dst = some t → t < X.s.n ∧ t ∉ X.s.fz := fun hd => dstOk_spec hd
    have run : ∀ {E : Env}, Sim X K ok w E O a → dstOk X.s o.dst = true → opR P T E O o.dst o.op (fun E O => regS P T X.s ops rest E O (fun E O => Q .normal E O)) → o.wpIn (FR X.R) 0 P a w (wpListIn (FR X.R) 0 P ops.toArray (Post X K ok w O Q) rest) (Post X K ok w O Q) := by
      intro E hs hd h
      exact opR_sound (ty := o.type) (pos := o.pos) (af := o.after) (g := o.guard) hT h (hdo hd) K ok w a _ _ hs fun v E' O' K' ok' w' hc hs' hf => wpList_fr hf _ _ _ (regS_sound hT rest _ _ hc K' ok' w' _ hs')
    unfold wpListIn
    rw [regS_cons] at h
    unfold regStep at h
    split at h
    · rename_i hg
      have hw := guard_wanted (ops := ops) (o := o) hs (g := true) (by rw [hg]; rfl)
      have hq := bif_S h; clear h; obtain ⟨hd, h⟩ := hq
      rw [hw, if_pos rfl]
      exact run hs hd h
    · rename_i j want hg
      split at h
      · rename_i d hd
        split at h
        · rename_i b hb
          have hgv : guardV E ops o.guard = some (b == want) := by rw [hg]; simp only [guardV, hd, hb]
          have hw := guard_wanted hs hgv
          obtain ⟨v, hv, hr⟩ := hs.env d _ hb
          have e := hr.sc.1
          subst e
          have hs' : ∀ b', b = b' → Sim X K ok w (.s d (some (.c (.sc (.bool b')))) :: E) O a := by
            intro b' hbb
            subst hbb
            refine ⟨hs.size, hs.defers, hs.base, hs.rnd, hs.old, hs.hp, fun t av ht => ?_⟩
            simp only [Env.get] at ht
            cases hbt : Nat.beq d t with
            | true => rw [hbt] at ht; cases ht; exact ⟨_, by rw [← Nat.eq_of_beq_eq_true hbt]; exact hv, .ofSc trivial⟩
            | false => rw [hbt] at ht; exact hs.env t av ht
          have hh := h.out
          clear h
          cases b with
          | true =>
            obtain ⟨hdk, h1⟩ := bif_S (hh.1 rfl)
            cases want with
            | true =>
              rw [hw, if_pos (by simp)]
              exact run (hs' true rfl) hdk h1
            | false =>
              rw [hw, if_neg (by simp)]
              exact ⟨fun _ _ => trivial, regS_sound hT rest _ _ h1 K ok w _ ((SP.skip hs.hp).sim (hs' true rfl) (hdo hdk))⟩
          | false =>
            obtain ⟨hdk, h1⟩ := bif_S (hh.2 rfl)
            cases want with
            | true =>
              rw [hw, if_neg (by simp)]
              exact ⟨fun _ _ => trivial, regS_sound hT rest _ _ h1 K ok w _ ((SP.skip hs.hp).sim (hs' false rfl) (hdo hdk))⟩
            | false =>
              rw [hw, if_pos (by simp)]
              exact run (hs' false rfl) hdk h1
        · rename_i hb
          have hgv : guardV E ops o.guard = some false := by rw [hg]; simp only [guardV, hd, hb]
          have hw := guard_wanted hs hgv
          obtain ⟨hdk, h1⟩ := bif_S h
          rw [hw, if_neg (by simp)]
          exact ⟨fun _ _ => trivial, regS_sound hT rest _ _ h1 K ok w _ ((SP.skip hs.hp).sim hs (hdo hdk))⟩
        · exact h.elim
      · exact h.elim
theorem W.regS (hT : T.ok P) {id : Nat} {l : List Oper} (h : regS P T N l l E O (fun E O => Q .normal E O)) : W P N E O (.region id l.toArray false) Q :=
  fun R B old K ok w a hs => wpIn_region_lit (regS_sound (X := ⟨N, R, B, old⟩) hT l E O h K ok w a hs)
end
def regDStep (P : Program) (T : Ty) (N : Nx) (ops : List Oper) (o : Oper) (rest : Env → Objs → List DR → (Env → Objs → List DR → Prop) → Prop) (E : Env) (O : Objs) (R : List DR) (C : Env → Objs → List DR → Prop) : Prop :=
  match o.guard with
    | none => bif dstOk N o.dst then opT P T E O o.dst o.op (fun av eff => rest (putE o.dst av (eff.E E)) (eff.O O) (⟨o, E, O, av, eff⟩ :: R) C) else Stuck "dst"
    | some (j, want) => match (ops[j]?).bind (·.dst) with
      | some d => match E.get d with
        | some (.c (.sc (.bool b))) => BM (b := b)
            (bif dstOk N o.dst then (bif want then opT P T (.s d (some (.c (.sc (.bool true)))) :: E) O o.dst o.op (fun av eff => rest (putE o.dst av (eff.E (.s d (some (.c (.sc (.bool true)))) :: E))) (eff.O O) (⟨o, .s d (some (.c (.sc (.bool true)))) :: E, O, av, eff⟩ :: R) C)
              else rest (putE o.dst skipV (.s d (some (.c (.sc (.bool true)))) :: E)) O (⟨o, .s d (some (.c (.sc (.bool true)))) :: E, O, skipV, .no⟩ :: R) C) else Stuck "dst")
            (bif dstOk N o.dst then (bif want then rest (putE o.dst skipV (.s d (some (.c (.sc (.bool false)))) :: E)) O (⟨o, .s d (some (.c (.sc (.bool false)))) :: E, O, skipV, .no⟩ :: R) C
              else opT P T (.s d (some (.c (.sc (.bool false)))) :: E) O o.dst o.op (fun av eff => rest (putE o.dst av (eff.E (.s d (some (.c (.sc (.bool false)))) :: E))) (eff.O O) (⟨o, .s d (some (.c (.sc (.bool false)))) :: E, O, av, eff⟩ :: R) C)) else Stuck "dst")
        | some (.tup []) => bif dstOk N o.dst then rest (putE o.dst skipV E) O (⟨o, E, O, skipV, .no⟩ :: R) C else Stuck "dst"
        | _ => Stuck "guard"
      | none => Stuck "guard"
def regD (P : Program) (T : Ty) (N : Nx) (ops l : List Oper) (E : Env) (O : Objs) (R : List DR) (C : Env → Objs → List DR → Prop) : Prop :=
  List.rec (motive := fun _ => Env → Objs → List DR → (Env → Objs → List DR → Prop) → Prop) (fun E O R C => C E O R) (fun o _ ih => regDStep P T N ops o ih) l E O R C
theorem regD_cons {P : Program} {T : Ty} {N : Nx} {ops rest : List Oper} {o : Oper} {E : Env} {O : Objs} {R : List DR} {C : Env → Objs → List DR → Prop} : regD P T N ops (o :: rest) E O R C = regDStep P T N ops o (fun E O R C => regD P T N ops rest E O R C) E O R C := rfl
section
variable {P : Program} {T : Ty} {N : Nx} {E0 : Env} {O0 : Objs}
theorem env_same {E : Env} {d : Nat} {x : AV} (h : E.get d = some x) : ∀ t, Env.get (.s d (some x) :: E) t = E.get t := by
  intro t
  simp only [Env.get]
  cases hb : Nat.beq d t with
  | true => rw [cond_true, ← Nat.eq_of_beq_eq_true hb, h]
  | false => rfl
theorem regD_sound (hT : T.ok P) {ops : List Oper} {C : Env → Objs → List DR → Prop} : ∀ (l : List Oper) (E : Env) (O : Objs) (R : List DR), regD P T N ops l E O R C → Told P N ops E0 O0 R.reverse E O →
    ∃ R' En On, Told P N ops E0 O0 R'.reverse En On ∧ C En On R' ∧ R'.reverse.map (·.o) = R.reverse.map (·.o) ++ l
  | [], E, O, R, h, ht => ⟨R, E, O, ht, h, by simp⟩
  | o :: rest, E, O, R, h, ht => by
    have fin : ∀ {E1 : Env} {av : Option AV} {eff : Eff}, (∃ R' En On, Told P N ops E0 O0 R'.reverse En On ∧ C En On R' ∧ R'.reverse.map (·.o) = ((⟨o, E1, O, av, eff⟩ : DR) :: R).reverse.map (·.o) ++ rest) →
        ∃ R' En On, Told P N ops E0 O0 R'.reverse En On ∧ C En On R' ∧ R'.reverse.map (·.o) = R.reverse.map (·.o) ++ o :: rest := by
      rintro E1 av eff ⟨R', En, On, h1, h2, h3⟩
      exact ⟨R', En, On, h1, h2, by rw [h3]; simp⟩
    have run : ∀ {E1 : Env}, (∀ t, E1.get t = E.get t) → guardV E1 ops o.guard = some true → dstOk N o.dst = true → opT P T E1 O o.dst o.op (fun av eff => regD P T N ops rest (putE o.dst av (eff.E E1)) (eff.O O) (⟨o, E1, O, av, eff⟩ :: R) C) →
        ∃ R' En On, Told P N ops E0 O0 R'.reverse En On ∧ C En On R' ∧ R'.reverse.map (·.o) = R.reverse.map (·.o) ++ o :: rest := by
      intro E1 hE hg hd h
      obtain ⟨av, eff, hst, hnm, hr⟩ := opT_sound (ty := o.type) (pos := o.pos) (af := o.after) (g := o.guard) hT h
      exact fin (regD_sound hT rest _ _ _ hr (by rw [List.reverse_cons]; exact ht.snoc hE hd hg (fun _ => ⟨opT_noDefer h, hst⟩) (fun h => by cases h)))
    have skip : ∀ {E1 : Env}, (∀ t, E1.get t = E.get t) → guardV E1 ops o.guard = some false → dstOk N o.dst = true → regD P T N ops rest (putE o.dst skipV E1) O (⟨o, E1, O, skipV, .no⟩ :: R) C →
        ∃ R' En On, Told P N ops E0 O0 R'.reverse En On ∧ C En On R' ∧ R'.reverse.map (·.o) = R.reverse.map (·.o) ++ o :: rest := by
      intro E1 hE hg hd h
      exact fin (regD_sound hT rest _ _ _ h (by rw [List.reverse_cons]; exact ht.snoc (eff := .no) hE hd hg (fun h => by cases h) (fun _ => ⟨rfl, rfl⟩)))
    rw [regD_cons] at h
    unfold regDStep at h
    split at h
    · rename_i hg
      have hq := bif_S h; clear h; obtain ⟨hd, h⟩ := hq
      exact run (fun _ => rfl) (by rw [hg]; rfl) hd h
    · rename_i j want hg
      split at h
      · rename_i d hd
        split at h
        · rename_i b hb
          have hgv : ∀ b', b = b' → guardV (.s d (some (.c (.sc (.bool b')))) :: E) ops o.guard = some (b' == want) := by
            intro b' _
            rw [hg]
            simp only [guardV, hd, Env.get, Nat.beq_refl, cond_true]
          have hh := h.out
          clear h
          cases b with
          | true =>
            obtain ⟨hdk, h1⟩ := bif_S (hh.1 rfl)
            cases want with
            | true => exact run (env_same hb) (hgv true rfl) hdk h1
            | false => exact skip (env_same hb) (hgv true rfl) hdk h1
          | false =>
            obtain ⟨hdk, h1⟩ := bif_S (hh.2 rfl)
            cases want with
            | true => exact skip (env_same hb) (hgv false rfl) hdk h1
            | false => exact run (env_same hb) (hgv false rfl) hdk h1
        · rename_i hb
          obtain ⟨hdk, h1⟩ := bif_S h
          exact skip (fun _ => rfl) (by rw [hg]; simp only [guardV, hd, hb]) hdk h1
        · exact h.elim
      · exact h.elim
theorem W.regD (hT : T.ok P) (hm : P.follows .mixedOrders = true) {E : Env} {O : Objs} {Q : PQ} {id : Nat} {ops : List Oper} (h : regD P T N ops ops E O [] (fun E' O' R => checkD ops O R.reverse = true ∧ Q .normal E' O')) : W P N E O (.region id ops.toArray true) Q := by
  intro R B old K ok w a hs
  obtain ⟨R', En, On, h1, ⟨h2, h3⟩, h4⟩ := regD_sound hT ops E O [] h Told.nil
  obtain ⟨ms, hchk⟩ := checkD_spec h2
  have hp := hs.hp.drew
  have hmono := RelV.mono (K := K) (K' := K) (w := w) (w' := w.drew) (ok := ok) (ok' := ok)
  refine wpIn_region_any hm (any_sound (N := ⟨N, R, B, old⟩) hchk h1 (by simpa using h4) h3 ops.toArray.size (Array.replicate ops.toArray.size false) a w.drew E O K ok ?_ ?_ ?_ ?_ ?_ ?_ ?_)
  · simp
  · simp
  · intro i o e hi
    by_cases hlt : i < ops.length <;> simp [hlt] at hi
  · intro t av he
    rcases he with ⟨u, r, _, hu, _⟩ | ⟨_, he, _⟩
    · by_cases hlt : u < ops.length <;> simp [hlt] at hu
    · exact he
  · intro k ob
    constructor
    · intro ho
      refine .inr ⟨fun u r _ hu => ?_, ho⟩
      by_cases hlt : u < ops.length <;> simp [hlt] at hu
    · rintro (⟨u, r, _, hu, _⟩ | ⟨_, ho⟩)
      · by_cases hlt : u < ops.length <;> simp [hlt] at hu
      · exact ho
  · refine ⟨hs.size, hs.defers, hs.base, hs.rnd, hs.old, hp, fun t av he => ?_⟩
    obtain ⟨v, hv, hr⟩ := hs.env t av he
    exact ⟨v, hv, hmono (fun _ h => h) (fun _ _ _ => rfl) (Nat.le_refl _) hr (fun r _ => ⟨rfl, fun _ _ _ cs e fr hc => ⟨cs, e, fr, hc, rfl⟩⟩)⟩
  · exact ⟨Nat.le_refl _, fun _ _ _ _ => rfl, fun _ h => h, fun _ h => .inl h, fun k o _ L h1 h2 => .inr ⟨k, o, L, h1, h2⟩, rfl, rfl, rfl, fun _ o h => ⟨o, h, SK.refl o⟩, fun _ _ => rfl, fun _ h => .inl h⟩
end
structure WI (P : Program) (N : Nx) (E : Env) (O : Objs) (c : Code) (Q : PQ) : Prop where
  out : W P N E O c Q
theorem WI.of {P : Program} {N : Nx} {E : Env} {O : Objs} {c : Code} {Q : PQ} (h : W P N E O c Q) : WI P N E O c Q := ⟨h⟩
def isLoop : Code → Bool
  | .loop _ => true
  | _ => false
def endsLoop : Code → Bool
  | .block _ c => isLoop c
  | .seq _ y => endsLoop y
  | _ => false
def codeS (P : Program) (T : Ty) (N : Nx) : Code → Env → Objs → PQ → Prop
  | .skip, E, O, Q => Q .normal E O
  | .label _, E, O, Q => Q .normal E O
  | .exit i, E, O, Q => Q (.exit i) E O
  | .ret, E, O, Q => Q .ret E O
  | .seq x y, E, O, Q => bif endsLoop x then codeS P T N x E O (thenQ (fun E O => WI P N E O y Q) Q) else codeS P T N x E O (thenQ (fun E O => codeS P T N y E O Q) Q)
  | .block i c, E, O, Q => bif isLoop c then WI P N E O (.block i c) Q else codeS P T N c E O (inBlockQ i Q)
  | .cond c x y, E, O, Q => match E.ev c with
    | some (.c (.sc (.bool b))) => BM (b := b) (codeS P T N x E O Q) (codeS P T N y E O Q)
    | _ => Stuck "cond"
  | .region _ ops false, E, O, Q => regS P T N ops.toList ops.toList E O (fun E O => Q .normal E O)
  | .region _ ops true, E, O, Q => regD P T N ops.toList ops.toList E O [] (fun E' O' R => checkD ops.toList O R.reverse = true ∧ Q .normal E' O')
  | c, E, O, Q => WI P N E O c Q
theorem codeS_sound {P : Program} {T : Ty} (hT : T.ok P) (hm : P.follows .mixedOrders = true) {N : Nx} : ∀ (c : Code) (E : Env) (O : Objs) (Q : PQ), codeS P T N c E O Q → W P N E O c Q
  | .skip, E, O, Q, h => W.skip h
  | .label _, E, O, Q, h => W.label h
  | .exit i, E, O, Q, h => W.exit h
  | .ret, E, O, Q, h => W.ret h
  | .seq x y, E, O, Q, h => by
    simp only [codeS] at h
    rcases bif_of h with ⟨_, h⟩ | ⟨_, h⟩
    · exact W.seq ((codeS_sound hT hm x E O _ h).mono fun e E O hq => by
        cases e with
        | normal => exact WI.out hq
        | _ => exact hq)
    · exact W.seq ((codeS_sound hT hm x E O _ h).mono fun e E O hq => by
        cases e with
        | normal => exact codeS_sound hT hm y E O Q hq
        | _ => exact hq)
  | .block i c, E, O, Q, h => by
    simp only [codeS] at h
    rcases bif_of h with ⟨_, h⟩ | ⟨_, h⟩
    · exact WI.out h
    · exact W.block (codeS_sound hT hm c E O _ h)
  | .cond c x y, E, O, Q, h => by
    simp only [codeS] at h
    split at h
    · rename_i b hb
      exact W.cond hb (fun e => codeS_sound hT hm x E O Q (h.out.1 e)) (fun e => codeS_sound hT hm y E O Q (h.out.2 e))
    · exact h.elim
  | .region id ops false, E, O, Q, h => by
    simp only [codeS] at h
    have := W.regS (N := N) (Q := Q) (id := id) hT h
    simpa using this
  | .region id ops true, E, O, Q, h => by
    simp only [codeS] at h
    have := W.regD (N := N) (Q := Q) (id := id) hT hm h
    simpa using this
  | .loop _, E, O, Q, h => WI.out h
  | .rangeFunc .., E, O, Q, h => WI.out h
  | .scope _, E, O, Q, h => WI.out h
  | .goto _, E, O, Q, h => WI.out h
  | .refuse _, E, O, Q, h => WI.out h
end Go.Proofs.YtjpbijdpkdmeaaaGreat.Pv
namespace Go.Proofs.YtjpbijdpkdmeaaaGreat.Pv
open Go
def resT (T : Ty) (E : Env) (O : Objs) : List ResultVar → List A1 → Prop
  | [], [] => True
  | .tmp t :: rs, x :: xs => (∃ y, E.get t = some (.o y) ∧ leA y x) ∧ resT T E O rs xs
  | .cell t ty :: rs, x :: xs => (match T.get ty, E.get t with
    | some td, some (.c p) => match atC O p with
      | some cs => bif Nat.ble td.sz cs.length then ∃ y, mkA td.agg (cs.take td.sz) = some y ∧ leA y x else Stuck "result"
      | none => Stuck "result"
    | _, _ => Stuck "result") ∧ resT T E O rs xs
  | _, _ => False
theorem resT_sound {P : Program} {T : Ty} (hT : T.ok P) {E : Env} {O : Objs} : ∀ {rs : List ResultVar} {xs : List A1}, resT T E O rs xs → ∃ ys, resE P E O rs ys ∧ leAs ys xs
  | [], [], _ => ⟨[], trivial, trivial⟩
  | [], _ :: _, h => h.elim
  | .tmp _ :: _, [], h => h.elim
  | .cell _ _ :: _, [], h => h.elim
  | .tmp t :: rs, x :: xs, h => by
    obtain ⟨⟨y, h1, h2⟩, h3⟩ := h
    obtain ⟨ys, h4, h5⟩ := resT_sound hT h3
    exact ⟨y :: ys, ⟨h1, h4⟩, h2, h5⟩
  | .cell t ty :: rs, x :: xs, h => by
    obtain ⟨h0, h3⟩ := h
    obtain ⟨ys, h4, h5⟩ := resT_sound hT h3
    split at h0
    · rename_i td p ht hp
      split at h0
      · rename_i cs hcs
        obtain ⟨hb, y, hy, hl⟩ := bif_S h0
        exact ⟨y :: ys, ⟨⟨p, cs, td.sz, td.bt, td.agg, td.z, hp, hcs, (hT _ _ ht).1, Nat.le_of_ble_eq_true hb, hy⟩, h4⟩, hl, h5⟩
      · exact h0.elim
    · exact h0.elim
theorem r1 {E : Env} {t : Nat} {y : A1} (h : E.get t = some (.o y)) : ∃ z, E.get t = some (.o z) ∧ leA z y := ⟨y, h, leA.refl y⟩
theorem rc {o : Option A1} {y : A1} (h : o = some y) : ∃ z, o = some z ∧ leA z y := ⟨y, h, leA.refl y⟩
def finQ (T : Ty) (rs : List ResultVar) (res : List A1) : PQ := fun e E O2 => (match e with | .normal => True | .ret => True | _ => False) ∧ resT T (.vw O2 :: E) [] rs res
def outQ (T : Ty) (rs : List ResultVar) (O' : Objs) (res : List A1) : PQ := fun e E O2 => (match e with | .normal => True | .ret => True | _ => False) ∧ SubO O' O2 ∧ resT T E O2 rs res
def keepQ (T : Ty) (rs : List ResultVar) (ks : List Nat) (O' : Objs) (res : List A1) : PQ := fun e E O2 => (match e with | .normal => True | .ret => True | _ => False) ∧ SubO O' (O2.froze ks (O2.only ks)) ∧ resT T (.vw (O2.only ks) :: E) (O2.froze ks (O2.only ks)) rs res
section
variable {P : Program} {T : Ty} {N : Nx} {E : Env} {O : Objs} {c : Code} {Q : PQ}
theorem Ct.go (hT : T.ok P) (hm : P.follows .mixedOrders = true) {f : FuncId} {fn : Func} {args res : List A1} (hf : P.funcs[f]? = some fn) (hb : fn.body = some c) (hn : (fn.name == "runtime.NumGoroutine") = false) (hN : fn.ntmps = N.n) (hl : Nat.ble args.length N.n = true)
    (h : codeS P T N c (envA 0 args) O (finQ T fn.results.toList res)) (hfz : N.fz = [] := by rfl) : CtO P f O args [] res :=
  Ct.fin none hf hb hn hN hl ((codeS_sound hT hm c _ _ _ h).mono fun e E O2 ⟨h1, h2⟩ => by
    have hm : ∀ p, p ∈ O2 → memB p.1 (pick none O2) = true := fun p hp => memB_of (List.mem_map.2 ⟨p, hp, rfl⟩)
    rw [Objs.only_all hm, Objs.froze_all hm]
    exact ⟨h1, fun k o h => by simp [Objs.get] at h, resT_sound hT h2⟩) hfz
theorem Ct.keep (hT : T.ok P) (hm : P.follows .mixedOrders = true) (ks : List Nat) {f : FuncId} {fn : Func} {args res : List A1} {O' : Objs} (hf : P.funcs[f]? = some fn) (hb : fn.body = some c) (hn : (fn.name == "runtime.NumGoroutine") = false) (hN : fn.ntmps = N.n) (hl : Nat.ble args.length N.n = true)
    (h : codeS P T N c (envA 0 args) O (keepQ T fn.results.toList ks O' res)) (hfz : N.fz = [] := by rfl) : CtO P f O args O' res :=
  Ct.fin (some ks) hf hb hn hN hl ((codeS_sound hT hm c _ _ _ h).mono fun _ _ _ ⟨h1, h2, h3⟩ => ⟨h1, h2, resT_sound hT h3⟩) hfz
theorem Ct.io (hT : T.ok P) (hm : P.follows .mixedOrders = true) {f : FuncId} {fn : Func} {args res : List A1} {O' : Objs} (hf : P.funcs[f]? = some fn) (hb : fn.body = some c) (hn : (fn.name == "runtime.NumGoroutine") = false) (hN : fn.ntmps = N.n) (hl : Nat.ble args.length N.n = true)
    (h : codeS P T N c (envA 0 args) O (outQ T fn.results.toList O' res)) (hfz : N.fz = [] := by rfl) : CtO P f O args O' res :=
  Ct.of hf hb hn hN hl ((codeS_sound hT hm c _ _ _ h).mono fun _ _ _ ⟨h1, h2, h3⟩ => ⟨h1, h2, resT_sound hT h3⟩) hfz
def loopQ (i : Nat) (I X : Env → Objs → Prop) (Q : PQ) : PQ
  | .normal, E, O => I E O
  | .exit j, E, O => bif Nat.beq j i then X E O else Q (.exit j) E O
  | e, E, O => Q e E O
theorem loopJ (hT : T.ok P) (hm : P.follows .mixedOrders = true) {i : Nat} {y : Code} {G : Type} (inv : G → Prop) (sE : G → List (Nat × AV)) (sO : G → List (Nat × Ob)) (m : G → Nat) (g0 : G) (h0 : inv g0) (hE : AllIn E (sE g0)) (hO : AllInO O (sO g0))
    {G2 : Type} (post : G2 → Prop) (pE : G2 → List (Nat × AV)) (pO : G2 → List (Nat × Ob))
    (round : ∀ g, inv g → codeS P T N c (envL (sE g)) (objL (sO g)) (loopQ i (fun E' O' => ∃ g', inv g' ∧ m g' < m g ∧ AllIn E' (sE g') ∧ AllInO O' (sO g')) (fun E' O' => ∃ g2, post g2 ∧ AllIn E' (pE g2) ∧ AllInO O' (pO g2)) Q))
    (after : ∀ g2, post g2 → codeS P T N y (envL (pE g2)) (objL (pO g2)) Q) : WI P N E O (.block i (.loop c)) (thenQ (fun E O => WI P N E O y Q) Q) := by
  refine .of (W.block (W.loop inv sE sO m g0 h0 hE hO fun g hg => (codeS_sound hT hm c _ _ _ (round g hg)).mono fun e E O h => ?_))
  cases e with
  | normal => exact h
  | exit j =>
    simp only [loopQ] at h
    show inBlockQ i _ (.exit j) E O
    simp only [inBlockQ]
    cases hb : Nat.beq j i with
    | true =>
      rw [hb] at h
      obtain ⟨g2, hp, h1, h2⟩ := h
      exact .of (W.weak (Sub.of h1) (SubO.of h2) (codeS_sound hT hm y _ _ _ (after g2 hp)))
    | false => rw [hb] at h; exact h
  | ret => exact h
  | goto _ => exact h
  | panic _ => exact h
  | outgrown => exact h
theorem loopB (hT : T.ok P) (hm : P.follows .mixedOrders = true) {i : Nat} {G : Type} (inv : G → Prop) (sE : G → List (Nat × AV)) (sO : G → List (Nat × Ob)) (m : G → Nat) (g0 : G) (h0 : inv g0) (hE : AllIn E (sE g0)) (hO : AllInO O (sO g0))
    (round : ∀ g, inv g → codeS P T N c (envL (sE g)) (objL (sO g)) (loopQ i (fun E' O' => ∃ g', inv g' ∧ m g' < m g ∧ AllIn E' (sE g') ∧ AllInO O' (sO g')) (fun E' O' => Q .normal E' O') Q)) : WI P N E O (.block i (.loop c)) Q := by
  refine .of (W.block (W.loop inv sE sO m g0 h0 hE hO fun g hg => (codeS_sound hT hm c _ _ _ (round g hg)).mono fun e E O h => ?_))
  cases e with
  | exit j =>
    simp only [loopQ] at h
    show inBlockQ i _ (.exit j) E O
    simp only [inBlockQ]
    cases hb : Nat.beq j i with
    | true => rw [hb] at h; exact h
    | false => rw [hb] at h; exact h
  | _ => exact h
theorem joinC (hT : T.ok P) (hm : P.follows .mixedOrders = true) (h : codeS P T N c E O Q) : WI P N E O c Q := .of (codeS_sound hT hm c E O Q h)
theorem WI.step {E' : Env} {O' : Objs} (h : ∀ (X : Cx) K ok w a, Sim X K ok w E O a → ∃ K' ok', Sim X K' ok' w E' O' a ∧ Fr K ok w O K' ok' w O') (hw : WI P N E' O' c Q) : WI P N E O c Q :=
  .of (W.step (fun X K ok w a _ hs => h X K ok w a hs) hw.out)
theorem Sim.put {X : Cx} {K : Km} {ok : Nat → Prop} {w : World} {E : Env} {O : Objs} {a : Act} (hs : Sim X K ok w E O a) {t : Nat} {av : AV} (h : ∃ v, a.tmps[t]? = some v ∧ RelV K ok w av v) : Sim X K ok w (.s t (some av) :: E) O a :=
  ⟨hs.size, hs.defers, hs.base, hs.rnd, hs.old, hs.hp, fun t' av' h' => by
    simp only [Env.get] at h'
    cases hb : Nat.beq t t' with
    | true =>
      rw [hb] at h'
      cases h'
      have e := Nat.eq_of_beq_eq_true hb
      subst e
      exact h
    | false => rw [hb] at h'; exact hs.env t' av' h'⟩
theorem Sim.putNone {X : Cx} {K : Km} {ok : Nat → Prop} {w : World} {E : Env} {O : Objs} {a : Act} {r sz : Nat} (hs : Sim X K ok w E O a) (hn : NoM r O) : Sim X (K.put r none) ok w (.k r :: E) (O.set r (.row sz [])) a ∧ Fr K ok w O (K.put r none) ok w (O.set r (.row sz [])) := by
  obtain ⟨h1, h2⟩ := hs.hp.putNone (sz := sz) hn
  refine ⟨⟨hs.size, hs.defers' h2, hs.base, hs.rnd, hs.old, h1, fun t av h => ?_⟩, h2⟩
  obtain ⟨g1, g2⟩ := ment_k (E := E) (r := r) (t := t) (x := av) h
  obtain ⟨v, hv, hr⟩ := hs.env t av g1
  refine ⟨v, hv, hr.mono (fun _ h => h) (fun _ _ _ => rfl) (Nat.le_refl _) fun q hq => ⟨K.put_ne _ fun e => ?_, fun b _ _ cs e fr hc => ⟨cs, e, fr, hc, rfl⟩⟩⟩
  subst e; rw [g2] at hq; cases hq
theorem nilC {r t sz : Nat} (hr : noMB r O = true) (ht : E.get t = some (.c (.sc (.slice none 0 0)))) (h : WI P N (.s t (some (.c (.ow r sz 0))) :: .k r :: E) (O.set r (.row sz [])) c Q) : WI P N E O c Q :=
  WI.step (fun X K ok w a hs => by
    obtain ⟨h1, h2⟩ := hs.putNone (sz := sz) (NoM.of (noMB_spec hr))
    refine ⟨_, ok, h1.put ?_, h2⟩
    obtain ⟨v, hv, hr⟩ := hs.env t _ ht
    have := hr.sc.1
    subst this
    exact ⟨_, hv, .o (.c (.owN (K.put_self r _)))⟩) h
theorem nilVar {r k i sz : Nat} {cells : List PC} (hr : noMB r O = true) (hk : (O.set r (.row sz [])).get k = some (.var cells)) (hi : cells[i]? = some (.sc (.slice none 0 0))) (h : WI P N (.k r :: E) ((O.set r (.row sz [])).set k (.var (cells.set i (.ow r sz 0)))) c Q) : WI P N E O c Q :=
  WI.step (fun X K ok w a hs => by
    obtain ⟨h1, h2⟩ := hs.putNone (sz := sz) (NoM.of (noMB_spec hr))
    have hsub : ∀ t o, ((O.set r (.row sz [])).set k (.var (cells.set i (.ow r sz 0)))).get t = some o → ∃ o', (O.set r (.row sz [])).get t = some o' := fun t o h => by
      rw [Objs.get_set] at h
      split at h
      · rename_i e; subst e; exact ⟨_, hk⟩
      · exact ⟨o, h⟩
    have hfr : Fr (K.put r none) ok w (O.set r (.row sz [])) (K.put r none) ok w ((O.set r (.row sz [])).set k (.var (cells.set i (.ow r sz 0)))) :=
      ⟨Nat.le_refl _, fun _ _ _ _ => rfl, fun _ h => h, fun _ h => .inl h, fun t o b L g1 g2 => by obtain ⟨o', g3⟩ := hsub t o g1; exact .inr ⟨t, o', L, g3, g2⟩, rfl, rfl, rfl, fun _ o h => ⟨o, h, SK.refl o⟩, fun _ _ => rfl, fun _ h => .inl h⟩
    refine ⟨_, ok, ⟨h1.size, h1.defers, h1.base, h1.rnd, h1.old, ⟨fun t o g => ?_, fun t t' o o' b L L' g1 g2 => ?_, fun t o b L g => ?_, h1.hp.lt, h1.hp.hlt, h1.hp.hok, fun t o b L g => ?_⟩, h1.env⟩, h2.trans hfr⟩
    · rw [Objs.get_set] at g
      split at g
      · rename_i e
        subst e
        cases g
        obtain ⟨b, cs, e, fr, a1, a2, a3, a4⟩ := h1.hp.obs k _ hk
        refine ⟨b, cs, e, fr, a1, a2, a3, by simpa using a4.len, fun j x hx => ?_⟩
        rw [List.getElem?_set] at hx
        split at hx
        · rename_i e
          subst e
          split at hx
          · cases hx
            obtain ⟨u, hu, hru⟩ := a4.get i _ hi
            refine ⟨u, hu, ?_⟩
            cases hru with
            | cl hru => cases hru with | sc _ => exact .owN (K.put_self r _)
          · cases hx
        · exact a4.get j x hx
      · exact h1.hp.obs t o g
    · obtain ⟨p, q1⟩ := hsub t o g1
      obtain ⟨p', q2⟩ := hsub t' o' g2
      exact h1.hp.inj t t' p p' b L L' q1 q2
    · obtain ⟨p, q1⟩ := hsub t o g; exact h1.hp.apart t p b L q1
    · obtain ⟨p, q1⟩ := hsub t o g; exact h1.hp.how t p b L q1) h
end
abbrev eI (k : IntKind) (x : Int) : PC := .sc (.int k x)
abbrev nI (k : IntKind) (x : Nat) : PC := .sc (.int k (x : Int))
def nRow (k : IntKind) (l : List Nat) : List (List PC) := l.map fun x => [nI k x]
abbrev nSl (k : IntKind) (l : List Nat) : PC := .sl 1 (nRow k l)
theorem nRow_len {k : IntKind} {l : List Nat} : (nRow k l).length = l.length := by simp [nRow]
theorem nRow_app {k : IntKind} {l m : List Nat} : nRow k l ++ nRow k m = nRow k (l ++ m) := by simp [nRow]
theorem nRow_closed {k : IntKind} {l : List Nat} : closedLL (nRow k l) := by
  intro el h
  obtain ⟨x, _, rfl⟩ := List.mem_map.1 h
  rfl
theorem wI {a b : Int} (h : a = b) (h1 : -9223372036854775808 ≤ b) (h2 : b ≤ 9223372036854775807) : IntKind.i64.wrap a = b := by subst h; exact wi h1 h2
theorem wI1 {i : Nat} (h : i < 9223372036854775807) : IntKind.i64.wrap ((i : Int) + 1) = ((i + 1 : Nat) : Int) := wI (by simp) (by omega) (by omega)
theorem wU {a b : Int} (h : a = b) (h1 : 0 ≤ b) (h2 : b ≤ 18446744073709551615) : IntKind.u64.wrap a = b := by subst h; exact wrap_of_inR ⟨h1, h2⟩
theorem nRow_getN {k : IntKind} {l : List Nat} {i : Int} {n : Nat} (h0 : i = n) (h : n < l.length) : (nRow k l)[i.toNat]? = some [nI k (l.getD n 0)] := by
  subst h0
  simp [nRow, h]
theorem nil_closed : closedLL [] := by intro el h; cases h
theorem nRow_1 {k : IntKind} {x : Nat} : ([[nI k x]] : List (List PC)) = nRow k [x] := rfl
theorem app_row {k : IntKind} {n : Nat} {l : List Nat} {els2 : List (List PC)} {X : Prop} (hn : n = l.length) (h : l.length + els2.length ≤ 4000000) (hc : closedLL els2) (hX : X) :
    n = (nRow k l).length ∧ ((nRow k l).length + els2.length + 768) * 8 ≤ 17592186044416 ∧ (nRow k l).length + els2.length ≤ 35184372088832 ∧ closedLL (nRow k l) ∧ closedLL els2 ∧ X := by
  rw [nRow_len]
  exact ⟨hn, by omega, by omega, nRow_closed, hc, hX⟩
theorem c1_closed {k : IntKind} {x : Int} : closedLL [[eI k x]] := by
  intro el h
  simp only [List.mem_singleton] at h
  subst h; rfl
theorem rep_row {k : IntKind} {n : Int} {N : Nat} (h : n = N) : List.replicate n.toNat [eI k 0] = nRow k (List.replicate N 0) := by
  subst h; simp [nRow]
theorem nRow_set {k : IntKind} {l : List Nat} {i : Nat} {x : Nat} : (nRow k l).set i [nI k x] = nRow k (l.set i x) := by simp [nRow]
theorem tdivN {a : Int} {b v : Nat} (h : a = v) : a.tdiv b = ((v / b : Nat) : Int) := by
  subst h; rw [Int.tdiv_eq_ediv_of_nonneg (by omega)]; simp
theorem tmodN {a : Int} {b v : Nat} (h : a = v) : a.tmod b = ((v % b : Nat) : Int) := by
  subst h; rw [Int.tmod_eq_emod_of_nonneg (by omega)]; simp
theorem owE {r sz m n : Nat} (h : m = n) : (some (.c (.ow r sz m)) : Option AV) = some (.c (.ow r sz n)) := by rw [h]
theorem rowE {sz : Nat} {a b : List (List PC)} (h : a = b) : (some (.row sz a) : Option Ob) = some (.row sz b) := by rw [h]
theorem iE {k : IntKind} {a b : Int} (h : a = b) : (some (.c (eI k a)) : Option AV) = some (.c (eI k b)) := by rw [h]
end Go.Proofs.YtjpbijdpkdmeaaaGreat.Pv
