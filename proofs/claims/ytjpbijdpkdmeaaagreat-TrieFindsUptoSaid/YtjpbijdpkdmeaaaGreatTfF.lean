/- Parts of a proof, joined: PvQ PvV. -/
import Derived.Test.YtjpbijdpkdmeaaaGreatTfE
namespace Go.Proofs.YtjpbijdpkdmeaaaGreat.Pv
open Go
def takeO (σ : List (Nat × Nat)) (O : Objs) : List (Nat × Nat) → Objs
  | [] => []
  | (k, q) :: l => (q, (O.get k).map (renOb σ)) :: takeO σ O l
theorem takeO_get {σ : List (Nat × Nat)} {O : Objs} : ∀ {l : List (Nat × Nat)} {q : Nat} {ob : Ob}, (takeO σ O l).get q = some ob → ∃ k o, (k, q) ∈ l ∧ O.get k = some o ∧ ob = renOb σ o
  | [], _, _, h => by simp [takeO, Objs.get] at h
  | (k, q') :: l, q, ob, h => by
    simp only [takeO, Objs.get] at h
    cases hb : Nat.beq q' q with
    | true =>
      rw [hb] at h
      simp only [cond_true, Option.map_eq_some_iff] at h
      obtain ⟨o, h1, h2⟩ := h
      exact ⟨k, o, by rw [Nat.eq_of_beq_eq_true hb]; simp, h1, h2.symm⟩
    | false =>
      rw [hb] at h
      obtain ⟨k', o, h1, h2⟩ := takeO_get (l := l) h
      exact ⟨k', o, List.mem_cons_of_mem _ h1, h2⟩
def Objs.delL : Objs → List Nat → Objs
  | O, [] => O
  | O, k :: l => Objs.delL (O.del k) l
theorem Objs.delL_get : ∀ {l : List Nat} {O : Objs} {t : Nat} {o : Ob}, (O.delL l).get t = some o → t ∉ l ∧ O.get t = some o
  | [], _, _, _, h => ⟨by simp, h⟩
  | k :: l, O, t, o, h => by
    obtain ⟨h1, h2⟩ := Objs.delL_get (l := l) (O := O.del k) h
    obtain ⟨h3, h4⟩ := Objs.get_del O k t o h2
    exact ⟨by simp only [List.mem_cons, not_or]; exact ⟨fun e => h3 e.symm, h1⟩, h4⟩
def outL (ν : List (Nat × Nat)) : Objs → Objs
  | [] => []
  | (_, none) :: l => outL ν l
  | (q, some ob) :: l => match lk ν q with | some r => (r, some (renOb ν ob)) :: outL ν l | none => outL ν l
theorem outL_get {ν : List (Nat × Nat)} {O' : Objs} {r : Nat} {ob : Ob} : ∀ {l : Objs}, (outL ν l ++ O').get r = some ob → (∃ q o, (q, some o) ∈ l ∧ lk ν q = some r ∧ ob = renOb ν o) ∨ ((∀ q o, (q, some o) ∈ l → lk ν q ≠ some r) ∧ O'.get r = some ob)
  | [], h => .inr ⟨fun q o h => by simp at h, h⟩
  | (q', none) :: l, h => by
    rcases outL_get (l := l) h with ⟨q, o, h1, h2⟩ | ⟨h1, h2⟩
    · exact .inl ⟨q, o, List.mem_cons_of_mem _ h1, h2⟩
    · exact .inr ⟨fun q o hq => by
        simp only [List.mem_cons, Prod.mk.injEq, reduceCtorEq, and_false, false_or] at hq
        exact h1 q o hq, h2⟩
  | (q', some ob') :: l, h => by
    simp only [outL] at h
    cases hl : lk ν q' with
    | none =>
      rw [hl] at h
      rcases outL_get (l := l) h with ⟨q, o, h1, h2⟩ | ⟨h1, h2⟩
      · exact .inl ⟨q, o, List.mem_cons_of_mem _ h1, h2⟩
      · refine .inr ⟨fun q o hq => ?_, h2⟩
        simp only [List.mem_cons, Prod.mk.injEq] at hq
        rcases hq with ⟨rfl, _⟩ | hq
        · rw [hl]; simp
        · exact h1 q o hq
    | some r' =>
      rw [hl] at h
      simp only [List.cons_append, Objs.get] at h
      cases hb : Nat.beq r' r with
      | true =>
        rw [hb] at h
        cases h
        exact .inl ⟨q', ob', by simp, by rw [hl, Nat.eq_of_beq_eq_true hb], rfl⟩
      | false =>
        rw [hb] at h
        rcases outL_get (l := l) h with ⟨q, o, h1, h2⟩ | ⟨h1, h2⟩
        · exact .inl ⟨q, o, List.mem_cons_of_mem _ h1, h2⟩
        · refine .inr ⟨fun q o hq => ?_, h2⟩
          simp only [List.mem_cons, Prod.mk.injEq] at hq
          rcases hq with ⟨rfl, _⟩ | hq
          · rw [hl]; intro e; cases e; rw [Nat.beq_refl] at hb; cases hb
          · exact h1 q o hq
theorem get_of_mem : ∀ {l : Objs} {q : Nat} {o : Option Ob}, (l.map (·.1)).Nodup → (q, o) ∈ l → l.get q = o
  | [], _, _, _, h => by simp at h
  | (k, o') :: l, q, o, hn, h => by
    simp only [List.map_cons, List.nodup_cons] at hn
    simp only [List.mem_cons, Prod.mk.injEq] at h
    simp only [Objs.get]
    rcases h with ⟨rfl, rfl⟩ | h
    · simp
    · have : Nat.beq k q = false := by
        cases hb : Nat.beq k q with
        | false => rfl
        | true => exact absurd (List.mem_map.2 ⟨(q, o), h, (Nat.eq_of_beq_eq_true hb).symm⟩) hn.1
      rw [this]
      exact get_of_mem hn.2 h
def isAbs : Option Ob → Bool
  | some (.abs _) => true
  | _ => false
def hasAbs (σ : List (Nat × Nat)) (O : Objs) : Bool := σ.any fun p => isAbs (O.get p.1)
def noAbs : Objs → Bool
  | [] => true
  | (_, o) :: l => !(isAbs o) && noAbs l
theorem noAbs_get : ∀ {O : Objs} {k : Nat} {J : (Nat → Prop) → (Nat → Prop) → World → Prop}, noAbs O = true → O.get k ≠ some (.abs J)
  | [], _, _, _, h => by simp [Objs.get] at h
  | (k', o) :: l, k, J, hn, h => by
    simp only [noAbs, Bool.and_eq_true, Bool.not_eq_true'] at hn
    simp only [Objs.get] at h
    cases hb : Nat.beq k' k with
    | true => rw [hb] at h; simp only [cond_true] at h; rw [h] at hn; cases hn.1
    | false => rw [hb] at h; exact noAbs_get hn.2 h
def isSm : Option Ob → Bool
  | some _ => true
  | none => false
def eqO : Option Nat → Nat → Bool
  | some a, b => Nat.beq a b
  | none, _ => false
def hasN : Option Nat → Bool
  | some _ => true
  | none => false
def okIn (σ : List (Nat × Nat)) : Bool := nodB (σ.map (·.1)) && (nodB (σ.map (·.2)) && σ.all fun p => Nat.ble 1000000 p.2)
def okNu (σ ν : List (Nat × Nat)) (O Oout : Objs) : Bool :=
  nodB (ν.map (·.1)) && (nodB (ν.map (·.2)) && (nodB (Oout.map (·.1)) && (Oout.all (fun p => hasN (lk ν p.1) && isSm p.2) &&
    (ν.all fun p => memB p.1 (Oout.map (·.1)) && (bif Nat.ble 1000000 p.1 then eqO (lk σ p.2) p.1 else Nat.blt p.2 1000000 && noMB p.2 (O.delL (σ.map (·.1))))))))
def okAbs (σ : List (Nat × Nat)) (O Oout : Objs) : Bool := bif hasAbs σ O then noAbs (O.delL (σ.map (·.1))) else noAbs Oout
def killE : List (Nat × Nat) → Env → Env
  | [], E => E
  | (q, r) :: l, E => bif Nat.ble 1000000 q then killE l E else .k r :: killE l E
theorem killE_get {E : Env} {t : Nat} {av : AV} : ∀ {ν : List (Nat × Nat)}, (killE ν E).get t = some av → E.get t = some av ∧ ∀ q r, (q, r) ∈ ν → q < 1000000 → av.ment r = false
  | [], h => ⟨h, fun q r h => by simp at h⟩
  | (q', r') :: l, h => by
    simp only [killE] at h
    cases hb : Nat.ble 1000000 q' with
    | true =>
      rw [hb] at h
      obtain ⟨h1, h2⟩ := killE_get (ν := l) h
      refine ⟨h1, fun q r hq hlt => ?_⟩
      simp only [List.mem_cons, Prod.mk.injEq] at hq
      rcases hq with ⟨rfl, rfl⟩ | hq
      · have := Nat.le_of_ble_eq_true hb; omega
      · exact h2 q r hq hlt
    | false =>
      rw [hb] at h
      obtain ⟨h3, h4⟩ := ment_k (E := killE l E) h
      obtain ⟨h1, h2⟩ := killE_get (ν := l) h3
      refine ⟨h1, fun q r hq hlt => ?_⟩
      simp only [List.mem_cons, Prod.mk.injEq] at hq
      rcases hq with ⟨rfl, rfl⟩ | hq
      · exact h4
      · exact h2 q r hq hlt
def Kin (σ : List (Nat × Nat)) (O : Objs) (K : Km) : Km := ⟨fun q => (lk (swapL σ) q).bind fun k => K k, fun b => hasAbs σ O = true ∧ K.hid b⟩
def Kout (σ ν : List (Nat × Nat)) (O : Objs) (K K' : Km) : Km := ⟨fun r => match lk (swapL ν) r with | some q => K' q | none => K r, fun b => bif hasAbs σ O then K'.hid b else K.hid b⟩
theorem retV_map {F : PC → PC} : ∀ (l : List A1), retV (l.map (A1.map F)) = (retV l).map F
  | [] => rfl
  | [_] => rfl
  | _ :: _ :: _ => rfl
section
variable {P : Program} {X : Cx} {K : Km} {ok : Nat → Prop} {w : World} {E : Env} {O : Objs} {a : Act}
theorem callG0 (hs : Sim X K ok w E O a) {f : FuncId} {vs : List Value} {l : List A1} (hrel : RelAs K ok w l vs) {σ ν : List (Nat × Nat)} {Oout : Objs} {res : List A1} (hi : okIn σ = true) (hn : okNu σ ν O Oout = true) (ha : okAbs σ O Oout = true)
    (hct : CtO P f (takeO σ O σ) (l.map (renA σ)) Oout res) :
    CallR P f vs.toArray w fun e w' => ∃ v K2 ok', e = .returned v ∧ Hp K2 ok' w' (outL ν Oout ++ O.delL (σ.map (·.1))) ∧ Fr K ok w O K2 ok' w' (outL ν Oout ++ O.delL (σ.map (·.1))) ∧ RelV K2 ok' w' (retV (res.map (renA ν))) v ∧
      (∀ b, ok b → b < w.heap.size → w'.heap[b]? = w.heap[b]?) ∧ ∀ m, (∀ q, (q, m) ∈ ν → 1000000 ≤ q) → K2 m = K m := by
  simp only [okIn, Bool.and_eq_true, List.all_eq_true] at hi
  simp only [okNu, Bool.and_eq_true, List.all_eq_true] at hn
  obtain ⟨i1, i2, i3⟩ := hi
  obtain ⟨n1, n2, n3, n4, n5⟩ := hn
  replace i1 := nodB_spec i1
  replace i2 := nodB_spec i2
  replace n1 := nodB_spec n1
  replace n2 := nodB_spec n2
  replace n3 := nodB_spec n3
  have hKin : ∀ k q, (k, q) ∈ σ → (Kin σ O K) q = K k := fun k q h => by
    have : lk (swapL σ) q = some k := mem_lk (by rw [swap_fst]; exact i2) (swap_mem.2 h)
    show (lk (swapL σ) q).bind _ = _
    rw [this]; rfl
  have hσ : ∀ k q, lk σ k = some q → (Kin σ O K) q = K k := fun k q h => hKin k q (lk_mem h)
  have habs : ∀ k q J, (k, q) ∈ σ → O.get k = some (.abs J) → hasAbs σ O = true := fun k q J h ho => List.any_eq_true.2 ⟨(k, q), h, by simp [ho, isAbs]⟩
  have hp0 : Hp (Kin σ O K) ok w (takeO σ O σ) := by
    refine ⟨fun q ob h => ?_, fun q q' o o' b L L' h1 h2 e1 e2 => ?_, fun q ob b L h e => ?_, hs.hp.lt, fun b h => hs.hp.hlt b h.2, fun b h => hs.hp.hok b h.2, fun q ob b L h e hh => ?_⟩
    · obtain ⟨k, o, h1, h2, rfl⟩ := takeO_get h
      refine (hs.hp.obs k o h2).ren hσ (hKin k q h1) fun J hJ => ?_
      subst hJ
      have := habs k q J h1 h2
      show (fun b => hasAbs σ O = true ∧ K.hid b) = K.hid
      funext b; simp [this]
    · obtain ⟨k, p, g1, g2, _⟩ := takeO_get h1
      obtain ⟨k', p', g1', g2', _⟩ := takeO_get h2
      rw [hKin k q g1] at e1
      rw [hKin k' q' g1'] at e2
      have := hs.hp.inj k k' p p' b L L' g2 g2' e1 e2
      subst this
      have a1 := mem_lk i1 g1
      have a2 := mem_lk i1 g1'
      rw [a1] at a2
      cases a2; rfl
    · obtain ⟨k, p, g1, g2, _⟩ := takeO_get h
      rw [hKin k q g1] at e
      exact hs.hp.apart k p b L g2 e
    · obtain ⟨k, p, g1, g2, _⟩ := takeO_get h
      rw [hKin k q g1] at e
      exact hs.hp.how k p b L g2 e hh.2
  have hrun := hct.run _ ok w vs hp0 (mapAs_rel (fun x v => renP_rel hσ) hrel)
  refine hrun.mono fun e w' hh => ?_
  obtain ⟨v, K', ok', rfl, hr, hp', hf⟩ := hh
  have hν : ∀ q r, (q, r) ∈ ν → (Kout σ ν O K K') r = K' q := fun q r h => by
    have : lk (swapL ν) r = some q := mem_lk (by rw [swap_fst]; exact n2) (swap_mem.2 h)
    show (match lk (swapL ν) r with | some q => K' q | none => K r) = _
    rw [this]
  have hν' : ∀ q r, lk ν q = some r → (Kout σ ν O K K') r = K' q := fun q r h => hν q r (lk_mem h)
  -- what is kept and what is new
  have hcase : ∀ q r, (q, r) ∈ ν → (1000000 ≤ q ∧ (r, q) ∈ σ ∧ K' q = K r) ∨ (q < 1000000 ∧ NoM r (O.delL (σ.map (·.1)))) := fun q r h => by
    have h5 := (n5 (q, r) h).2
    simp only at h5
    cases hb : Nat.ble 1000000 q with
    | true =>
      rw [hb] at h5
      simp only [cond_true] at h5
      have hq := Nat.le_of_ble_eq_true hb
      cases hl : lk σ r with
      | none => rw [hl] at h5; cases h5
      | some q' =>
        rw [hl] at h5
        have e := Nat.eq_of_beq_eq_true (show Nat.beq q' q = true from h5)
        subst e
        exact .inl ⟨hq, lk_mem hl, (hf.pin _ hq).trans (hKin _ _ (lk_mem hl))⟩
    | false =>
      rw [hb] at h5
      simp only [cond_false, Bool.and_eq_true] at h5
      refine .inr ⟨?_, NoM.of (noMB_spec h5.2)⟩
      apply Classical.byContradiction
      intro hge
      rw [Nat.ble_eq_true_of_le (by omega)] at hb
      cases hb
  have hsame : ∀ m, (∀ q, (q, m) ∈ ν → 1000000 ≤ q) → (Kout σ ν O K K') m = K m := fun m h => by
    show (match lk (swapL ν) m with | some q => K' q | none => K m) = _
    cases hl : lk (swapL ν) m with
    | none => rfl
    | some q =>
      have hq : (q, m) ∈ ν := swap_mem.1 (lk_mem hl)
      rcases hcase q m hq with ⟨_, _, h3⟩ | ⟨h1, _⟩
      · exact h3
      · have := h q hq; omega
  have hlive : ∀ q r, (q, r) ∈ ν → ∃ o, (q, some o) ∈ Oout := fun q r h => by
    have h1 := memB_mem (n5 (q, r) h).1
    obtain ⟨⟨q', o⟩, h2, h3⟩ := List.mem_map.1 h1
    simp only at h3
    subst h3
    have h4 := (n4 _ h2).2
    cases o with
    | none => cases h4
    | some o => exact ⟨o, h2⟩
  have hinOwn : ∀ q o b L, (takeO σ O σ).get q = some o → (Kin σ O K) q = some (b, L) → ∃ k p, (k, q) ∈ σ ∧ O.get k = some p ∧ K k = some (b, L) := fun q o b L h1 h2 => by
    obtain ⟨k, p, g1, g2, _⟩ := takeO_get h1
    rw [hKin k q g1] at h2
    exact ⟨k, p, g1, g2, h2⟩
  have hkeep : ∀ b, b < w.heap.size → (∀ k q o L, (k, q) ∈ σ → O.get k = some o → K k ≠ some (b, L)) → ¬ (hasAbs σ O = true ∧ K.hid b) → w'.heap[b]? = w.heap[b]? := fun b hb h1 h2 =>
    hf.keep b hb (fun q o L g1 g2 => by obtain ⟨k, p, a1, a2, a3⟩ := hinOwn q o b L g1 g2; exact h1 k q p L a1 a2 a3) h2
  have hkeepOk : ∀ b, ok b → b < w.heap.size → w'.heap[b]? = w.heap[b]? := fun b hb hlt => hkeep b hlt (fun k q o L _ g2 g3 => hs.hp.apart k o b L g2 g3 hb) fun h => hs.hp.hok b h.2 hb
  have hnew : ∀ b, ok' b → ok b ∨ w.heap.size ≤ b ∨ ∃ k q o L, (k, q) ∈ σ ∧ O.get k = some o ∧ K k = some (b, L) := fun b hb => by
    rcases hf.okNew b hb with h | h | ⟨q, o, L, g1, g2⟩
    · exact .inl h
    · exact .inr (.inl h)
    · obtain ⟨k, p, a1, a2, a3⟩ := hinOwn q o b L g1 g2
      exact .inr (.inr ⟨k, q, p, L, a1, a2, a3⟩)
  -- objects: new ones and old ones
  have hobj : ∀ r ob, (outL ν Oout ++ O.delL (σ.map (·.1))).get r = some ob → (∃ q o, Oout.get q = some o ∧ (q, r) ∈ ν ∧ ob = renOb ν o) ∨ (r ∉ σ.map (·.1) ∧ O.get r = some ob ∧ (O.delL (σ.map (·.1))).get r = some ob ∧ ∀ q, (q, r) ∉ ν) := fun r ob h => by
    rcases outL_get h with ⟨q, o, h1, h2, h3⟩ | ⟨h1, h2⟩
    · exact .inl ⟨q, o, get_of_mem n3 h1, lk_mem h2, h3⟩
    · obtain ⟨h3, h4⟩ := Objs.delL_get h2
      refine .inr ⟨h3, h4, h2, fun q hq => ?_⟩
      obtain ⟨o, ho⟩ := hlive q r hq
      exact h1 q o ho (mem_lk n1 hq)
  have hownNew : ∀ r ob q o b L, Oout.get q = some o → (q, r) ∈ ν → ob = renOb ν o → (Kout σ ν O K K') r = some (b, L) → w.heap.size ≤ b ∨ ∃ k q o L, (k, q) ∈ σ ∧ O.get k = some o ∧ K k = some (b, L) := fun r ob q o b L g1 g2 _ e => by
    rw [hν q r g2] at e
    rcases hf.own q o b L g1 e with h | ⟨q0, o0, L0, h1, h2⟩
    · exact .inl h
    · obtain ⟨k, p, a1, a2, a3⟩ := hinOwn q0 o0 b L0 h1 h2
      exact .inr ⟨k, q0, p, L0, a1, a2, a3⟩
  have hmemσ : ∀ {k q : Nat}, (k, q) ∈ σ → k ∈ σ.map (·.1) := fun h => List.mem_map.2 ⟨_, h, rfl⟩
  have hhid : ∀ b, (Kout σ ν O K K').hid b → K.hid b ∨ w.heap.size ≤ b := fun b h => by
    have h' : bif hasAbs σ O then K'.hid b else K.hid b := h
    cases hA : hasAbs σ O with
    | false => rw [hA] at h'; exact .inl h'
    | true =>
      rw [hA] at h'
      rcases hf.hid b h' with h1 | h1
      · exact .inl h1.2
      · exact .inr h1
  have hfr : Fr K ok w O (Kout σ ν O K K') ok' w' (outL ν Oout ++ O.delL (σ.map (·.1))) := by
    refine ⟨hf.size, fun b hb h1 h2 => hkeep b hb (fun k q o L _ g2 g3 => h1 k o L g2 g3) fun h => h2 h.2, hf.okUp, fun b hb => ?_, fun r ob b L g1 g2 => ?_, hf.os, hf.tape, hf.output, hf.kind, fun m hm => ?_, hhid⟩
    · rcases hnew b hb with h | h | ⟨k, q, o, L, _, a2, a3⟩
      · exact .inl h
      · exact .inr (.inl h)
      · exact .inr (.inr ⟨k, o, L, a2, a3⟩)
    · rcases hobj r ob g1 with ⟨q, o, a1, a2, a3⟩ | ⟨a1, a2, a3, a4⟩
      · rcases hownNew r ob q o b L a1 a2 a3 g2 with h | ⟨k, q, o, L, _, b2, b3⟩
        · exact .inl h
        · exact .inr ⟨k, o, L, b2, b3⟩
      · rw [hsame r fun q hq => absurd hq (a4 q)] at g2
        exact .inr ⟨r, ob, L, a2, g2⟩
    · refine hsame m fun q hq => ?_
      rcases hcase q m hq with ⟨h1, _⟩ | ⟨_, h2⟩
      · exact h1
      · have := h2.1; have hm' : 1000000 ≤ m := hm; have : m < 1000000 := this; omega
  have hp2 : Hp (Kout σ ν O K K') ok' w' (outL ν Oout ++ O.delL (σ.map (·.1))) := by
    refine ⟨fun r ob h => ?_, fun r r' ob ob' b L L' h1 h2 e1 e2 => ?_, fun r ob b L h e hok => ?_, hp'.lt, fun b h => ?_, fun b h hok => ?_, fun r ob b L h e hh => ?_⟩
    · rcases hobj r ob h with ⟨q, o, a1, a2, rfl⟩ | ⟨a1, a2, a3, a4⟩
      · refine (hp'.obs q o a1).ren hν' (hν q r a2) fun J hJ => ?_
        subst hJ
        cases hA : hasAbs σ O with
        | false => rw [okAbs, hA] at ha; exact absurd a1 (noAbs_get ha)
        | true => show (fun b => (bif hasAbs σ O then K'.hid b else K.hid b : Prop)) = K'.hid; rw [hA]; rfl
      · refine (hs.hp.obs r ob a2).mono hf.okUp hkeepOk hf.size (hsame r fun q hq => absurd hq (a4 q)) (fun b L hK => ?_) (fun J hJ => ?_) fun m hm => ⟨hsame m fun q hq => ?_, fun b _ _ cs e fr hb => hf.shape b cs e fr hb⟩
        · exact hkeep b (own_lt hs.hp a2 hK) (fun k q o L' g1 g2 g3 => a1 (by have := hs.hp.inj k r o ob b L' L g2 a2 g3 hK; rw [← this]; exact hmemσ g1)) fun h => hs.hp.how r ob b L a2 hK h.2
        · subst hJ
          cases hA : hasAbs σ O with
          | true => rw [okAbs, hA] at ha; exact absurd a3 (noAbs_get ha)
          | false =>
            refine ⟨by show (fun b => (bif hasAbs σ O then K'.hid b else K.hid b : Prop)) = K.hid; rw [hA]; rfl, fun b hb => hkeep b (hs.hp.hlt b hb) (fun k q o L g1 g2 g3 => hs.hp.how k o b L g2 g3 hb) (fun h => by rw [hA] at h; cases h.1), hf.os, hf.tape, hf.output, hf.shape⟩
        · rcases hcase q m hq with ⟨h1, _⟩ | ⟨_, h2⟩
          · exact h1
          · exact absurd (h2.get a3) hm
    · rcases hobj r ob h1 with ⟨q, o, a1, a2, a3⟩ | ⟨a1, a2, a3, a4⟩
      · rcases hobj r' ob' h2 with ⟨q', o', a1', a2', a3'⟩ | ⟨a1', a2', a3', a4'⟩
        · rw [hν q r a2] at e1
          rw [hν q' r' a2'] at e2
          have := hp'.inj q q' o o' b L L' a1 a1' e1 e2
          subst this
          have b1 := mem_lk n1 a2
          have b2 := mem_lk n1 a2'
          rw [b1] at b2
          cases b2; rfl
        · rw [hsame r' fun q hq => absurd hq (a4' q)] at e2
          rcases hownNew r ob q o b L a1 a2 a3 e1 with h | ⟨k, q0, o0, L0, b1, b2, b3⟩
          · have := own_lt hs.hp a2' e2; omega
          · exact absurd (by have := hs.hp.inj k r' o0 ob' b L0 L' b2 a2' b3 e2; rw [← this]; exact hmemσ b1) a1'
      · rw [hsame r fun q hq => absurd hq (a4 q)] at e1
        rcases hobj r' ob' h2 with ⟨q', o', a1', a2', a3'⟩ | ⟨a1', a2', a3', a4'⟩
        · rcases hownNew r' ob' q' o' b L' a1' a2' a3' e2 with h | ⟨k, q0, o0, L0, b1, b2, b3⟩
          · have := own_lt hs.hp a2 e1; omega
          · exact absurd (by have := hs.hp.inj k r o0 ob b L0 L b2 a2 b3 e1; rw [← this]; exact hmemσ b1) a1
        · rw [hsame r' fun q hq => absurd hq (a4' q)] at e2
          exact hs.hp.inj r r' ob ob' b L L' a2 a2' e1 e2
    · rcases hobj r ob h with ⟨q, o, a1, a2, a3⟩ | ⟨a1, a2, a3, a4⟩
      · rw [hν q r a2] at e
        exact hp'.apart q o b L a1 e hok
      · rw [hsame r fun q hq => absurd hq (a4 q)] at e
        rcases hnew b hok with h | h | ⟨k, q, o, L0, b1, b2, b3⟩
        · exact hs.hp.apart r ob b L a2 e h
        · have := own_lt hs.hp a2 e; omega
        · exact a1 (by have := hs.hp.inj k r o ob b L0 L b2 a2 b3 e; rw [← this]; exact hmemσ b1)
    · have h' : bif hasAbs σ O then K'.hid b else K.hid b := h
      cases hA : hasAbs σ O with
      | false => rw [hA] at h'; exact Nat.lt_of_lt_of_le (hs.hp.hlt b h') hf.size
      | true => rw [hA] at h'; exact hp'.hlt b h'
    · have h' : bif hasAbs σ O then K'.hid b else K.hid b := h
      cases hA : hasAbs σ O with
      | false =>
        rw [hA] at h'
        rcases hnew b hok with h | h | ⟨k, q, o, L0, b1, b2, b3⟩
        · exact hs.hp.hok b h' h
        · have := hs.hp.hlt b h'; omega
        · exact hs.hp.how k o b L0 b2 b3 h'
      | true => rw [hA] at h'; exact hp'.hok b h' hok
    · rcases hobj r ob h with ⟨q, o, a1, a2, a3⟩ | ⟨a1, a2, a3, a4⟩
      · have h' : bif hasAbs σ O then K'.hid b else K.hid b := hh
        cases hA : hasAbs σ O with
        | false =>
          rw [hA] at h'
          rcases hownNew r ob q o b L a1 a2 a3 e with h | ⟨k, q0, o0, L0, b1, b2, b3⟩
          · have := hs.hp.hlt b h'; omega
          · exact hs.hp.how k o0 b L0 b2 b3 h'
        | true =>
          rw [hA] at h'
          rw [hν q r a2] at e
          exact hp'.how q o b L a1 e h'
      · rw [hsame r fun q hq => absurd hq (a4 q)] at e
        rcases hhid b hh with h1 | h1
        · exact hs.hp.how r ob b L a2 e h1
        · have := own_lt hs.hp a2 e; omega
  refine ⟨v, _, ok', rfl, hp2, hfr, ?_, hkeepOk, hsame⟩
  rw [retV_map]
  exact mapV_rel (fun x v => renP_rel hν') hr
theorem callG (hs : Sim X K ok w E O a) {f : FuncId} {vs : List Value} {l : List A1} (hrel : RelAs K ok w l vs) {σ ν : List (Nat × Nat)} {Oout : Objs} {res : List A1} (hi : okIn σ = true) (hn : okNu σ ν O Oout = true) (ha : okAbs σ O Oout = true)
    (hct : CtO P f (takeO σ O σ) (l.map (renA σ)) Oout res) {d : Option Tmp} (hd : ∀ t, d = some t → t < X.s.n ∧ t ∉ X.s.fz) :
    CallR P f vs.toArray w fun e w' => ∃ v K2 ok', e = .returned v ∧ Sim X K2 ok' w' (putE d (some (retV (res.map (renA ν)))) (killE ν E)) (outL ν Oout ++ O.delL (σ.map (·.1))) (a.put d v) ∧ Fr K ok w O K2 ok' w' (outL ν Oout ++ O.delL (σ.map (·.1))) := by
  refine (callG0 hs hrel hi hn ha hct).mono fun e w' hh => ?_
  obtain ⟨v, K2, ok', rfl, hp2, hfr, hval, hkeepOk, hsame⟩ := hh
  refine ⟨v, K2, ok', rfl, ?_, hfr⟩
  have hsim : Sim X K2 ok' w' (killE ν E) (outL ν Oout ++ O.delL (σ.map (·.1))) a := by
    refine ⟨hs.size, hs.defers' hfr, Nat.le_trans hs.base hfr.size, hs.rnd' hfr, hs.old, hp2, fun t av h => ?_⟩
    obtain ⟨h1, h2⟩ := killE_get h
    obtain ⟨u, hu, hru⟩ := hs.env t av h1
    refine ⟨u, hu, hru.mono hfr.okUp hkeepOk hfr.size fun m hm => ⟨hsame m fun q hq => ?_, fun b _ _ cs e fr hb => hfr.shape b cs e fr hb⟩⟩
    apply Classical.byContradiction
    intro hlt
    rw [h2 q m hq (by omega)] at hm; cases hm
  have hsp : SP K2 ok' w' (outL ν Oout ++ O.delL (σ.map (·.1))) (some (retV (res.map (renA ν)))) .no v K2 ok' w' :=
    ⟨fun x hx => by cases hx; exact hval, hp2, Fr.refl _ _ _ _, fun _ _ => rfl⟩
  exact hsp.sim hsim hd
end
mutual
theorem renP_closed {σ : List (Nat × Nat)} : ∀ {x : PC}, x.closed = true → renP σ x = x
  | .fn f caps, h => by simp only [PC.closed] at h; simp only [renP, renL_closed h]
  | .sc _, _ => rfl
  | .sl _ _, _ => rfl
  | .rd _, _ => rfl
  | .cb _, _ => rfl
  | .dead, _ => rfl
theorem renL_closed {σ : List (Nat × Nat)} : ∀ {l : List PC}, closedL l = true → renL σ l = l
  | [], _ => rfl
  | x :: l, h => by
    simp only [closedL, Bool.and_eq_true] at h
    simp only [renL, renP_closed h.1, renL_closed h.2]
end
theorem renAs_closed {σ : List (Nat × Nat)} : ∀ {l : List A1}, closedAs l = true → l.map (renA σ) = l
  | [], _ => rfl
  | x :: l, h => by
    simp only [closedAs, Bool.and_eq_true] at h
    rw [List.map_cons, renAs_closed h.2]
    congr 1
    cases x with
    | c x => simp only [A1.map, renP_closed (show x.closed = true from h.1)]
    | ag l => simp only [A1.map]; rw [← renL_map, renL_closed (show closedL l = true from h.1)]
def obClosed : Ob → Bool
  | .var cells => closedL cells
  | .row _ _ => true
  | .mp _ _ _ => true
  | .me _ _ => true
  | _ => false
theorem renOb_closed {σ : List (Nat × Nat)} {ob : Ob} (h : obClosed ob = true) : renOb σ ob = ob := by
  cases ob with
  | var cells => simp only [renOb]; rw [← renL_map, renL_closed (show closedL cells = true from h)]
  | row _ _ => rfl
  | mp _ _ _ => rfl
  | me _ _ => rfl
  | rowO _ _ _ => cases h
  | abs _ => cases h
theorem isAbs_closed {ob : Ob} (h : obClosed ob = true) : isAbs (some ob) = false := by cases ob <;> first | rfl | cases h
theorem Objs.get_del_ne {k t : Nat} {o : Ob} (hkt : k ≠ t) : ∀ {O : Objs}, O.get t = some o → (O.del k).get t = some o
  | [], h => h
  | (k', o') :: O, h => by
    simp only [Objs.get] at h
    simp only [Objs.del]
    cases hb' : Nat.beq k' t with
    | true =>
      have e := Nat.eq_of_beq_eq_true hb'
      subst e
      have : Nat.beq k' k = false := by
        cases hb : Nat.beq k' k with
        | false => rfl
        | true => exact absurd (Nat.eq_of_beq_eq_true hb).symm hkt
      rw [hb'] at h
      rw [this]
      simp only [cond_false, Objs.get, hb', cond_true]
      exact h
    | false =>
      rw [hb'] at h
      cases hb2 : Nat.beq k' k with
      | true => have e := Nat.eq_of_beq_eq_true hb2; subst e; simp only [cond_true, Objs.get, hb', cond_false]; exact h
      | false => simp only [cond_false, Objs.get, hb']; exact Objs.get_del_ne hkt h
section
variable {P : Program} {E : Env} {O : Objs} {d : Option Tmp} {ty : TypeId} {pos : String} {af : Array Edge} {g : Option (Nat × Bool)}
theorem Step.callO_core {N : Cx} {K : Km} {ok : Nat → Prop} {w : World} {a : Act} {next : Act → World → Prop} {Q : Exit → Act → World → Prop} {o : Oper} (hs : Sim N K ok w E O a) {f : FuncId} {vs : List Value} {l res : List A1} {k : Nat} {ob ob' : Ob} (hrel : RelAs K ok w l vs) (ho : O.get k = some ob) (hoc : obClosed ob = true) (hoc' : obClosed ob' = true)
    (hct : CtO P f [(1000000, some ob)] (l.map (renA [(k, 1000000)])) [(1000000, some ob')] res) (hcl : closedAs res = true)
    (he : (execOp a.eval o).run P w = (callFunc f vs.toArray).run P w) (hn : ∀ v K' ok' w', SP K ok w O (some (retV res)) (.upd k ob') v K' ok' w' → next (a.put o.dst v) w') : o.wp P a w next Q := by
  have hab : hasAbs [(k, 1000000)] O = false := by simp [hasAbs, ho, isAbs_closed hoc]
  refine CallR.oper he ((callG0 (σ := [(k, 1000000)]) (ν := [(1000000, k)]) (Oout := [(1000000, some ob')]) (res := res) hs hrel rfl ?_ ?_ ?_).mono fun e w' h => ?_)
  · simp [okNu, nodB, memB, lk, hasN, isSm, eqO]
  · simp [okAbs, hab, noAbs, isAbs_closed hoc']
  · simpa [takeO, ho, renOb_closed hoc] using hct
  · obtain ⟨v, K2, ok', rfl, hp2, hfr, hval, _, hsame⟩ := h
    have hsub : SubO (O.set k ob') (outL [(1000000, k)] [(1000000, some ob')] ++ O.delL ([(k, 1000000)].map (·.1))) := by
      intro t o h
      rw [Objs.get_set] at h
      simp only [outL, lk, Nat.beq_refl, cond_true, List.cons_append, List.nil_append, Objs.get, renOb_closed hoc', List.map_cons, List.map_nil, Objs.delL]
      by_cases hkt : k = t
      · subst hkt; simpa using h
      · rw [if_neg hkt] at h
        have hb : Nat.beq k t = false := by
          cases hb : Nat.beq k t with
          | false => rfl
          | true => exact absurd (Nat.eq_of_beq_eq_true hb) hkt
        rw [hb]
        simp only [cond_false]
        exact Objs.get_del_ne hkt h
    rw [renAs_closed hcl] at hval
    refine ⟨v, rfl, hn v K2 ok' w' ⟨fun x hx => by cases hx; exact hval, hp2.sub hsub, hfr.trans (Fr.weak hsub), fun r _ => hsame r fun q hq => ?_⟩⟩
    simp only [List.mem_singleton, Prod.mk.injEq] at hq
    omega
theorem Step.callO {f : FuncId} {args : Array Operand} {ts : Array TypeId} {l l' res : List A1} {k : Nat} {ob ob' : Ob} (hx : E.evs args.toList = some l) (ho : O.get k = some ob) (hoc : obClosed ob = true) (hoc' : obClosed ob' = true) (hl : l.map (renA [(k, 1000000)]) = l')
    (hct : CtO P f [(1000000, some ob)] l' [(1000000, some ob')] res) (hcl : closedAs res = true) :
    Step P E O ⟨d, .call ⟨.value (.func f), args, ts⟩, ty, pos, af, g⟩ (some (retV res)) (.upd k ob') := by
  intro N K ok w a next Q hs hn
  subst hl
  have he : (execOp a.eval ⟨d, .call ⟨.value (.func f), args, ts⟩, ty, pos, af, g⟩).run P w = (callFunc f (args.toList.map a.eval).toArray).run P w := by
    have : (args.toList.map a.eval).toArray = args.map a.eval := by apply Array.ext' ; simp
    rw [this]
    simp [execOp, resolve, Act.eval, Deferred.ofValue, invoke]
  exact Step.callO_core hs (evs_rel hs hx) ho hoc hoc' hct hcl he hn
end
end Go.Proofs.YtjpbijdpkdmeaaaGreat.Pv
namespace Go.Proofs.YtjpbijdpkdmeaaaGreat.Pv
open Go
structure FrY (F : Nat → Prop) (w : World) (F' : Nat → Prop) (w' : World) : Prop where
  size : w.heap.size ≤ w'.heap.size
  keep : ∀ b, b < w.heap.size → ¬ F b → w'.heap[b]? = w.heap[b]?
  grow : ∀ b, F' b → F b ∨ w.heap.size ≤ b
  lt : ∀ b, F' b → b < w'.heap.size
  os : w'.os = w.os
  tape : w'.tape = w.tape
  output : w'.output = w.output
  kind : ∀ (b : Nat) (o : Obj), w.heap[b]? = some o → ∃ o', w'.heap[b]? = some o' ∧ SK o o'
def YieldR (P : Program) (v : Value) (vs : Array Value) (w : World) (Q : Ending → World → Prop) : Prop :=
  ∃ l f tmps assign body, v = .func (.yield l) #[] #[] ∧ (Instr.yield l vs).run P w = .ok (.round l f tmps assign body) w ∧ RoundIn Fence.wide 0 P l f tmps assign body w Q
abbrev St := (Nat → Prop) → (Nat → Prop) → World → Prop
structure Yields (P : Program) (v : Value) (items : List (List A1)) (I : Nat → St) (X : St) : Prop where
  st : ∀ i, Stable (I i)
  stX : Stable X
  call : ∀ (i : Nat) (args : List A1), items[i]? = some args → ∀ (ok F : Nat → Prop) (w : World) (K : Km) (vs : List Value), I i ok F w → (∀ b, ok b → b < w.heap.size) → (∀ b, F b → ¬ ok b) → (∀ b, F b → b < w.heap.size) → RelAs K ok w args vs →
    YieldR P v vs.toArray w fun e w' => ∃ b F', e = .returned (.bool b) ∧ FrY F w F' w' ∧ (b = true → I (i + 1) ok F' w') ∧ (b = false → X ok F' w')
def CtIO (P : Program) (f : FuncId) (OT : Objs) (args : List A1) (items : List (List A1)) (OE : Objs) : Prop :=
  ∀ (v : Value) (I : Nat → St) (X : St), one v = true → Yields P v items I X → CtO P f ((2000000, some (.abs (I 0))) :: OT) (.c (.cb v) :: args) ((2000000, some (.abs fun ok F w => I items.length ok F w ∨ X ok F w)) :: OE) []
abbrev CtI (P : Program) (f : FuncId) (args : List A1) (items : List (List A1)) : Prop := CtIO P f [] args items []
def yJ (I : Nat → St) (X : St) (i : Nat) : Bool → St
  | true => I (i + 1)
  | false => X
section
variable {P : Program} {N : Cx} {K : Km} {ok : Nat → Prop} {w : World} {E : Env} {O : Objs} {a : Act} {d : Option Tmp} {ty : TypeId} {pos : String} {af : Array Edge} {g : Option (Nat × Bool)}
theorem cb_sound (hs : Sim N K ok w E O a) {t : Tmp} {v : Value} {args : Array Operand} {ts : Array TypeId} {l : List A1} {items : List (List A1)} {I : Nat → St} {X : St} {i : Nat} {next : Act → World → Prop} {Q : Exit → Act → World → Prop}
    (ht : E.get t = some (.c (.cb v))) (hl : E.evs args.toList = some l) (hY : Yields P v items I X) (ho : O.get 2000000 = some (.abs (I i))) (hno : noAbs (O.del 2000000) = true) (hi : items[i]? = some l) (hd : ∀ t, d = some t → t < N.s.n ∧ t ∉ N.s.fz)
    (hn : ∀ b K' w', Sim N K' ok w' (putE d (some (.c (.sc (.bool b)))) E) (O.set 2000000 (.abs (yJ I X i b))) (a.put d (.bool b)) → Fr K ok w O K' ok w' (O.set 2000000 (.abs (yJ I X i b))) → next (a.put d (.bool b)) w') :
    Oper.wpIn (FR N.R) 0 P ⟨d, .call ⟨.value (.tmp t), args, ts⟩, ty, pos, af, g⟩ a w next Q := by
  have hv := (hs.ev (x := .tmp t) ht).one
  generalize hev : a.eval (.tmp t) = u at hv
  have : u = v := by
    cases hv with
    | cl h => cases h; rfl
  subst this
  obtain ⟨hK0, hst, hI⟩ := hs.hp.obs 2000000 _ ho
  have hrel := evs_rel hs hl
  obtain ⟨ll, f, tmps, as_, body, rfl, hy, hr⟩ := hY.call i l hi ok K.hid w K _ hI hs.hp.lt hs.hp.hok hs.hp.hlt hrel
  refine ⟨fun _ _ => trivial, ?_⟩
  rw [Oper.semAt_eq _ _ _ (by intro c h; cases h)]
  have hy' : (Instr.yield ll (args.map a.eval)).run P w = .ok (.round ll f tmps as_ body) w := by
    have : (args.toList.map a.eval).toArray = args.map a.eval := by apply Array.ext'; simp
    rw [← this]; exact hy
  have hexec : (execOp a.eval ⟨d, .call ⟨.value (.tmp t), args, ts⟩, ty, pos, af, g⟩).run P w = .ok (.round ll f tmps as_ body) w := by
    simp [execOp, resolve, hev, Deferred.ofValue, invoke, hy']
  rw [hexec, Oper.uponIn_round]
  refine ⟨fun h => (by cases h), RoundIn.mono (show RoundIn (FR N.R) (0 - 1) P ll f tmps as_ body w _ from hr) fun e w' h => ?_⟩
  obtain ⟨b, F', rfl, hf, h1, h2⟩ := h
  have hJ : (yJ I X i b) ok F' w' := by
    cases b with
    | true => exact h1 rfl
    | false => exact h2 rfl
  have hS : Stable (yJ I X i b) := by
    cases b with
    | true => exact hY.st _
    | false => exact hY.stX
  generalize hJe : (yJ I X i b) = J at hJ hS
  have old : ∀ k' o', (O.set 2000000 (.abs J)).get k' = some o' → k' ≠ 2000000 → O.get k' = some o' ∧ (O.del 2000000).get k' = some o' := by
    intro k' o' h hne
    rw [Objs.get_set, if_neg (fun e => hne e.symm)] at h
    exact ⟨h, Objs.get_del_ne (fun e => hne e.symm) h⟩
  let K' : Km := ⟨K.at_, F'⟩
  have hkeepOwn : ∀ k o b L, O.get k = some o → K k = some (b, L) → w'.heap[b]? = w.heap[b]? := fun k o b L g1 g2 => hf.keep b (own_lt hs.hp g1 g2) (hs.hp.how k o b L g1 g2)
  have hkeepOk : ∀ b, ok b → b < w.heap.size → w'.heap[b]? = w.heap[b]? := fun b hb hlt => hf.keep b hlt fun h => hs.hp.hok b h hb
  have hK2 : ∀ {k o b L}, (O.set 2000000 (.abs J)).get k = some o → K' k = some (b, L) → k ≠ 2000000 := fun {k o b L} _ g2 e => by
    subst e
    have : K 2000000 = some (b, L) := g2
    rw [hK0] at this; cases this
  have hfr : Fr K ok w O K' ok w' (O.set 2000000 (.abs J)) :=
    ⟨hf.size, fun b hb _ h => hf.keep b hb h, fun _ h => h, fun _ h => .inl h, fun k o b L g1 g2 => .inr ⟨k, o, L, (old k o g1 (hK2 g1 g2)).1, g2⟩, hf.os, hf.tape, hf.output, hf.kind, fun _ _ => rfl, hf.grow⟩
  have hp2 : Hp K' ok w' (O.set 2000000 (.abs J)) := by
    refine ⟨fun k o h => ?_, fun k k' o o' b L L' g1 g2 e1 e2 => hs.hp.inj k k' o o' b L L' (old k o g1 (hK2 g1 e1)).1 (old k' o' g2 (hK2 g2 e2)).1 e1 e2, fun k o b L g1 e => hs.hp.apart k o b L (old k o g1 (hK2 g1 e)).1 e, fun b h => Nat.lt_of_lt_of_le (hs.hp.lt b h) hf.size, hf.lt, fun b h hok => ?_, fun k o b L g1 e h => ?_⟩
    · by_cases hk : k = 2000000
      · subst hk
        rw [Objs.get_set, if_pos rfl] at h
        cases h
        exact ⟨hK0, hS, hJ⟩
      · obtain ⟨g1, g2⟩ := old k o h hk
        refine HOb.mono (K := K) (K' := K') (fun _ h => h) hkeepOk hf.size rfl (fun b L hK => hkeepOwn k o b L g1 hK) (fun J hJ => ?_) (fun r _ => ⟨rfl, fun b _ _ cs e fr hb => ?_⟩) (hs.hp.obs k o g1)
        · subst hJ; exact absurd g2 (noAbs_get hno)
        · obtain ⟨o', g1, c', e', f', rfl, g2⟩ := hf.kind b _ hb
          exact ⟨c', e', f', g1, g2⟩
    · rcases hf.grow b h with h1 | h1
      · exact hs.hp.hok b h1 hok
      · have := hs.hp.lt b hok; omega
    · have g1' := (old k o g1 (hK2 g1 e)).1
      rcases hf.grow b h with h1 | h1
      · exact hs.hp.how k o b L g1' e h1
      · have := own_lt hs.hp g1' e; omega
  have hsim : Sim N K' ok w' E (O.set 2000000 (.abs J)) a :=
    ⟨hs.size, hs.defers' hfr, Nat.le_trans hs.base hf.size, hs.rnd' hfr, hs.old, hp2, fun t av h => by
      obtain ⟨u, hu, hr⟩ := hs.env t av h
      refine ⟨u, hu, RelV.mono (K := K) (K' := K') (fun _ h => h) hkeepOk hf.size hr fun r _ => ⟨rfl, fun b _ _ cs e fr hb => ?_⟩⟩
      obtain ⟨o', g1, c', e', f', rfl, g2⟩ := hf.kind b _ hb
      exact ⟨c', e', f', g1, g2⟩⟩
  have hsp : SP K' ok w' (O.set 2000000 (.abs J)) (some (.c (.sc (.bool b)))) .no (.bool b) K' ok w' := ⟨fun x hx => by cases hx; exact .ofSc trivial, hp2, Fr.refl _ _ _ _, fun _ _ => rfl⟩
  have := hn b K' w'
  rw [hJe] at this
  exact this (hsp.sim hsim hd) hfr
end
end Go.Proofs.YtjpbijdpkdmeaaaGreat.Pv
