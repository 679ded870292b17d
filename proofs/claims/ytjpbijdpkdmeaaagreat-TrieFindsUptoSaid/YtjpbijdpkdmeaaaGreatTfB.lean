/- Parts of a proof, joined: PvE PvF PvG PvH. -/
import Derived.Test.YtjpbijdpkdmeaaaGreatTfA
import Derived.Deep.Draws
namespace Go.Proofs.YtjpbijdpkdmeaaaGreat.Pv
open Go
def atC (O : Objs) : PC → Option (List PC)
  | .ad k off => match O.get k with
    | some (.var cells) => some (cells.drop off)
    | _ => none
  | .ea r sz i off => match O.get r with
    | some (.row sz' els) => bif Nat.beq sz sz' then (els[i]?).map (·.drop off) else none
    | some (.rowO sz' els _) => bif Nat.beq sz sz' then (els[i]?).map (·.drop off) else none
    | _ => none
  | .rd cells => some cells
  | _ => none
theorem cell?_of {w : World} {b o : Nat} {cs : Array Value} {e : TypeId} {fr : Nat × Nat} {u : Value} (hb : w.heap[b]? = some (.cells cs e fr)) (h : cs[o]? = some u) : w.cell? ⟨b, o, none⟩ = some u := by
  simp [World.cell?, hb, h]
theorem at_cells {K : Km} {ok : Nat → Prop} {w : World} {O : Objs} (hp : Hp K ok w O) {p : PC} {v : Value} (h : RelO K ok w p v) {xs : List PC} (hx : atC O p = some xs) :
    ∃ b o, v = .pointer (some ⟨b, o, none⟩) ∧ ∀ (i : Nat) (x : PC), xs[i]? = some x → ∃ u, w.cell? ⟨b, o + i, none⟩ = some u ∧ RelO K ok w x u := by
  cases h with
  | cl h =>
    cases h with
    | rd g ho hlt hc hr =>
      cases hx
      exact ⟨_, _, rfl, fun i x hi => ⟨_, hc i x hi, .cl (hr i x hi)⟩⟩
    | _ => simp [atC] at hx
  | @ad k off b L hk =>
    simp only [atC] at hx
    split at hx
    · rename_i cells ho
      cases hx
      obtain ⟨b', cs, e, fr, a1, a2, a3, a4⟩ := hp.obs k _ ho
      rw [hk] at a1
      cases a1
      refine ⟨b, off, rfl, fun i x hi => ?_⟩
      rw [List.getElem?_drop] at hi
      obtain ⟨u, hu, hr⟩ := a4.get _ x hi
      exact ⟨u, cell?_of a2 (by simpa using hu), hr⟩
    · cases hx
  | @ea r sz i off b L hk =>
    simp only [atC] at hx
    split at hx
    · rename_i sz' els ho
      cases hb : Nat.beq sz sz' with
      | false => rw [hb] at hx; cases hx
      | true =>
        rw [hb] at hx
        have e := Nat.eq_of_beq_eq_true hb
        subst e
        cases hel : els[i]? with
        | none => rw [hel] at hx; cases hx
        | some el =>
          rw [hel] at hx
          cases hx
          rcases hp.obs r _ ho with ⟨a1, _⟩ | ⟨b', cs, e, fr, a1, a2, a3, a4, a5, a6, a7⟩
          · rw [hk] at a1; cases a1
          · rw [hk] at a1
            cases a1
            refine ⟨b, _, rfl, fun j x hj => ?_⟩
            rw [List.getElem?_drop] at hj
            obtain ⟨u, hu, hr⟩ := a7 i _ el x hel hj
            exact ⟨u, cell?_of a2 (by rw [Nat.add_assoc]; exact hu), .cl hr⟩
    · rename_i sz' els ids ho
      cases hb : Nat.beq sz sz' with
      | false => rw [hb] at hx; cases hx
      | true =>
        rw [hb] at hx
        have e := Nat.eq_of_beq_eq_true hb
        subst e
        cases hel : els[i]? with
        | none => rw [hel] at hx; cases hx
        | some el =>
          rw [hel] at hx
          cases hx
          rcases (hp.obs r _ ho).2 with ⟨a1, _⟩ | ⟨b', cs, e, fr, a1, a2, a3, a4, a5, a6, a7⟩
          · rw [hk] at a1; cases a1
          · rw [hk] at a1
            cases a1
            refine ⟨b, _, rfl, fun j x hj => ?_⟩
            rw [List.getElem?_drop] at hj
            obtain ⟨u, hu, hr⟩ := a7 i _ el x hel hj
            exact ⟨u, cell?_of a2 (by rw [Nat.add_assoc]; exact hu), hr⟩
    · cases hx
  | _ => simp [atC] at hx
def mkA (agg : Bool) (l : List PC) : Option A1 :=
  match agg, l with
  | true, l => some (.ag l)
  | false, [x] => some (.c x)
  | _, _ => none
theorem RelV.one {K : Km} {ok : Nat → Prop} {w : World} {x : PC} {v : Value} (h : RelV K ok w (.c x) v) : RelO K ok w x v := by
  cases h with | o h => cases h with | c h => exact h
section
variable {P : Program} {E : Env} {O : Objs} {d : Option Tmp} {ty : TypeId} {pos : String} {af : Array Edge} {g : Option (Nat × Bool)}
theorem load_run {t sz bt : Nat} {agg : Bool} {z : List Value} [TI P t sz bt agg z] {K : Km} {ok : Nat → Prop} {w : World} (hp : Hp K ok w O) {p : PC} {v : Value} (h : RelO K ok w p v) {xs : List PC} (hx : atC O p = some xs)
    (hl : sz ≤ xs.length) {y : A1} (hy : mkA agg (xs.take sz) = some y) : ∃ a u, v = .pointer (some a) ∧ (loadVar t a).run P w = .ok u w ∧ RelA K ok w y u := by
  obtain ⟨b, o, e, hc⟩ := at_cells hp h hx
  have hex : ∃ us : List Value, us.length = sz ∧ (∀ (i : Nat) (u : Value), us[i]? = some u → w.cell? ⟨b, o + i, none⟩ = some u) ∧ RelCs K ok w (xs.take sz) us := by
    clear hy
    induction sz with
    | zero => exact ⟨[], rfl, fun i u h => by simp at h, by simpa using RelCs.nil⟩
    | succ n ih =>
      obtain ⟨us, h1, h2, h3⟩ := ih (by omega)
      obtain ⟨u, hu, hr⟩ := hc n xs[n] (by simp)
      refine ⟨us ++ [u], by simp [h1], fun i u' hi => ?_, ?_⟩
      · rcases Nat.lt_or_ge i us.length with hlt | hge
        · rw [List.getElem?_append_left hlt] at hi; exact h2 i u' hi
        · rw [List.getElem?_append_right hge] at hi
          cases hii : i - us.length with
          | zero =>
            rw [hii] at hi
            simp at hi
            have : i = n := by omega
            rw [this, ← hi]; exact hu
          | succ m => rw [hii] at hi; simp at hi
      · rw [List.take_succ_eq_append_getElem (by omega)]
        exact RelCs.append h3 (RelCs.single hr)
  obtain ⟨us, h1, h2, h3⟩ := hex
  have hv := run_loadVar (P := P) (t := t) h1 h2
  cases agg with
  | true =>
    simp only [mkA, Option.some.injEq] at hy
    subst hy
    exact ⟨_, _, e, hv.1 rfl, .ag h3⟩
  | false =>
    have hlen : (xs.take sz).length = us.length := h3.len.symm
    cases hus : us with
    | nil =>
        rw [hus] at hlen; have : xs.take sz = [] := by simpa using hlen
        rw [this] at hy; cases hy
    | cons u us' =>
      cases hxs : xs.take sz with
      | nil => rw [hxs] at hy; simp [mkA] at hy
      | cons x xs' =>
        cases xs' with
        | cons _ _ => rw [hxs] at hy; simp [mkA] at hy
        | nil =>
          rw [hxs] at hy hlen h3
          rw [hus] at hlen
          simp at hlen
          subst hlen
          simp only [mkA, Option.some.injEq] at hy
          subst hy
          obtain ⟨u', hu', hr⟩ := h3.get 0 x rfl
          rw [hus] at hu'
          simp at hu'
          subst hu'
          exact ⟨_, _, e, hv.2 _ rfl hus, .c hr⟩
theorem Step.load {t sz bt : Nat} {agg : Bool} {z : List Value} [TI P t sz bt agg z] {x : Operand} {p : PC} {xs : List PC} {y : A1} (hx : E.ev x = some (.c p)) (hc : atC O p = some xs) (hl : sz ≤ xs.length)
    (hy : mkA agg (xs.take sz) = some y) : Step P E O ⟨d, .load t x, ty, pos, af, g⟩ (some (.o y)) .no :=
  .val fun _ K ok w a hs => by
    obtain ⟨ad, u, e, h1, h2⟩ := load_run (P := P) (t := t) hs.hp (hs.ev hx).one hc hl hy
    exact ⟨u, by simp [execOp, e, Instr.loadAt, Instr.sureAddr, h1], .o h2⟩
theorem Step.fieldAd {s f off n k o : Nat} {ft : TypeId} [hf : TFld P s f off ft n] (hn : n ≠ 0) {x : Operand} (hx : E.ev x = some (.c (.ad k o))) : Step P E O ⟨d, .fieldAddr s x f, ty, pos, af, g⟩ (some (.c (.ad k (o + off)))) .no :=
  .val fun _ K ok w a hs => by
    have h := (hs.ev hx).one
    generalize hv : a.eval x = v at h
    cases h with
    | cl h => cases h
    | @ad _ _ b L hk =>
      refine ⟨.pointer (some ⟨b, o + off, none⟩), ?_, .o (.c (.ad hk))⟩
      have := hf.u
      unfold fieldInfo at this
      split at this
      · rename_i fs hu
        cases hfd : fs[f]? with
        | none => rw [hfd] at this; cases this
        | some fd =>
          rw [hfd] at this
          simp only [Option.bind_some] at this
          cases hi : P.info? fd.type with
          | none => rw [hi] at this; cases this
          | some i =>
            rw [hi] at this
            simp only [Option.map_some, Option.some.injEq, Prod.mk.injEq] at this
            obtain ⟨h1, h2, h3⟩ := this
            have hn' : i.size ≠ 0 := h3 ▸ hn
            simp [execOp, Instr.fieldAt, run_underlying' hu, hfd, hv, Instr.sureAddr, fieldPlace, Go.sizeOf, typeInfo, hi, hn', h1, Addr.add_lit]
      · cases this
theorem field_run {s f off n : Nat} {ft : TypeId} [hf : TFld P s f off ft n] (hn : n ≠ 0) (b o : Nat) (w : World) : (Instr.fieldAt s (.pointer (some ⟨b, o, none⟩)) f).run P w = .ok (.pointer (some ⟨b, o + off, none⟩)) w := by
  have := hf.u
  unfold fieldInfo at this
  split at this
  · rename_i fs hu
    cases hfd : fs[f]? with
    | none => rw [hfd] at this; cases this
    | some fd =>
      rw [hfd] at this
      simp only [Option.bind_some] at this
      cases hi : P.info? fd.type with
      | none => rw [hi] at this; cases this
      | some i =>
        rw [hi] at this
        simp only [Option.map_some, Option.some.injEq, Prod.mk.injEq] at this
        obtain ⟨h1, h2, h3⟩ := this
        have hn' : i.size ≠ 0 := h3 ▸ hn
        simp [Instr.fieldAt, run_underlying' hu, hfd, Instr.sureAddr, fieldPlace, Go.sizeOf, typeInfo, hi, hn', h1, Addr.add_lit]
  · cases this
theorem Step.fieldEa {s f off n r sz i o : Nat} {ft : TypeId} [hf : TFld P s f off ft n] (hn : n ≠ 0) {x : Operand} (hx : E.ev x = some (.c (.ea r sz i o))) : Step P E O ⟨d, .fieldAddr s x f, ty, pos, af, g⟩ (some (.c (.ea r sz i (o + off)))) .no :=
  .val fun _ K ok w a hs => by
    have h := (hs.ev hx).one
    generalize hv : a.eval x = v at h
    cases h with
    | cl h => cases h
    | @ea _ _ _ _ b L hk =>
      exact ⟨.pointer (some ⟨b, i * sz + (o + off), none⟩), by simp [execOp, hv, field_run (P := P) hn, Nat.add_assoc], .o (.c (.ea hk))⟩
theorem Rel.rd_drop {ok : Nat → Prop} {w : World} {cells : List PC} {b o n : Nat} (h : Rel ok w (.rd cells) (.pointer (some ⟨b, o, none⟩))) : Rel ok w (.rd (cells.drop n)) (.pointer (some ⟨b, o + n, none⟩)) := by
  cases h with
  | rd g ho hlt hc hr =>
    refine .rd (fun i => g (n + i)) ho hlt (fun i x hi => ?_) fun i x hi => ?_
    · rw [List.getElem?_drop] at hi; rw [Nat.add_assoc]; exact hc _ x hi
    · rw [List.getElem?_drop] at hi; exact hr _ x hi
theorem Step.fieldRd {s f off n : Nat} {ft : TypeId} [hf : TFld P s f off ft n] (hn : n ≠ 0) {x : Operand} {cells : List PC} (hx : E.ev x = some (.c (.rd cells))) : Step P E O ⟨d, .fieldAddr s x f, ty, pos, af, g⟩ (some (.c (.rd (cells.drop off)))) .no :=
  .val fun _ K ok w a hs => by
    have h := (hs.ev hx).one
    generalize hv : a.eval x = v at h
    cases h with
    | cl h =>
      have h' := h
      cases h with
      | @rd _ b o g ho hlt hc hr =>
        exact ⟨.pointer (some ⟨b, o + off, none⟩), by simp [execOp, hv, field_run (P := P) hn], .o (.c (.cl h'.rd_drop))⟩
theorem index_run {t e sz bt : Nat} {agg : Bool} {z : List Value} [hs : TSl P t e] [TI P e sz bt agg z] {k : IntKind} {i : Int} {b o len c : Nat} (h0 : 0 ≤ i) (h1 : i < len) (w : World) :
    (Instr.indexAt t (.slice (some ⟨b, o, none⟩) len c) (.int k i)).run P w = .ok (.pointer (some ⟨b, o + i.toNat * sz, none⟩)) w := by
  have hsz := run_sizeOf (P := P) (t := e) w
  simp [Instr.indexAt, asIntOf, run_underlying' hs.u, h0, h1, hsz, Addr.add_lit]
theorem Step.indexSl {t e sz bt : Nat} {agg : Bool} {z : List Value} [TSl P t e] [TI P e sz bt agg z] {x y : Operand} {k : IntKind} {i : Int} {els : List (List PC)} {el : List PC} (hx : E.ev x = some (.c (.sl sz els))) (hy : E.ev y = some (.c (.sc (.int k i))))
    (h0 : 0 ≤ i) (h1 : els[i.toNat]? = some el) : Step P E O ⟨d, .indexAddr t x y, ty, pos, af, g⟩ (some (.c (.rd el))) .no :=
  .val fun _ K ok w a hs => by
    have e := (hs.ev hy).sc.1
    have h := (hs.ev hx).one
    have hlt : i.toNat < els.length := (List.getElem?_eq_some_iff.1 h1).1
    generalize hv : a.eval x = v at h
    cases h with
    | cl h =>
      cases h with
      | sl0 => simp at hlt
      | @sl _ _ b o c g hc hb ho hl hsz hcell hr =>
        refine ⟨.pointer (some ⟨b, o + i.toNat * sz, none⟩), by simp only [execOp, hv, e, Sem.run_bind, index_run (P := P) h0 (show i < els.length by omega), Result.andThen_ok, Sem.run_pure], .o (.c (.cl (.rd (fun q => g i.toNat q) ho hl (fun q x hq => ?_) fun q x hq => hr _ q el x h1 hq)))⟩
        rw [Nat.add_assoc]
        exact hcell _ q el x h1 hq
theorem Step.indexOw {t e sz bt : Nat} {agg : Bool} {z : List Value} [TSl P t e] [TI P e sz bt agg z] {x y : Operand} {k : IntKind} {i : Int} {r n : Nat} (hx : E.ev x = some (.c (.ow r sz n))) (hy : E.ev y = some (.c (.sc (.int k i))))
    (h0 : 0 ≤ i) (h1 : i < n) : Step P E O ⟨d, .indexAddr t x y, ty, pos, af, g⟩ (some (.c (.ea r sz i.toNat 0))) .no :=
  .val fun _ K ok w a hs => by
    have e := (hs.ev hy).sc.1
    have h := (hs.ev hx).one
    generalize hv : a.eval x = v at h
    cases h with
    | cl h => cases h
    | ow hk hb hc hn =>
      exact ⟨_, by simp only [execOp, hv, e, Sem.run_bind, index_run (P := P) h0 h1, Result.andThen_ok, Sem.run_pure, Nat.zero_add]; rfl, .o (.c (.ea hk))⟩
    | owN hk => omega
theorem Step.indexOs {t e sz bt : Nat} {agg : Bool} {z : List Value} [TSl P t e] [TI P e sz bt agg z] {x y : Operand} {k : IntKind} {i : Int} {r lo n : Nat} (hx : E.ev x = some (.c (.os r sz lo n))) (hy : E.ev y = some (.c (.sc (.int k i))))
    (h0 : 0 ≤ i) (h1 : i < n) : Step P E O ⟨d, .indexAddr t x y, ty, pos, af, g⟩ (some (.c (.ea r sz (lo + i.toNat) 0))) .no :=
  .val fun _ K ok w a hs => by
    have e := (hs.ev hy).sc.1
    have h := (hs.ev hx).one
    generalize hv : a.eval x = v at h
    cases h with
    | cl h => cases h
    | os hk hb hc hn hl =>
      refine ⟨_, by simp only [execOp, hv, e, Sem.run_bind, index_run (P := P) h0 h1, Result.andThen_ok, Sem.run_pure]; rfl, ?_⟩
      rw [← Nat.add_mul]
      exact .o (.c (.ea hk))
theorem Step.indexArrAd {t e sz bt n : Nat} {agg : Bool} {z : List Value} [ha : TArr P t n e] [TI P e sz bt agg z] {x y : Operand} {k : IntKind} {i : Int} {q off : Nat} (hx : E.ev x = some (.c (.ad q off))) (hy : E.ev y = some (.c (.sc (.int k i))))
    (h0 : 0 ≤ i) (h1 : i < n) : Step P E O ⟨d, .indexAddr t x y, ty, pos, af, g⟩ (some (.c (.ad q (off + i.toNat * sz)))) .no :=
  .val fun _ K ok w a hs => by
    have e' := (hs.ev hy).sc.1
    have h := (hs.ev hx).one
    generalize hv : a.eval x = v at h
    have hsz := run_sizeOf (P := P) (t := e) w
    cases h with
    | cl h => cases h
    | @ad _ _ b L hk => exact ⟨.pointer (some ⟨b, off + i.toNat * sz, none⟩), by simp [execOp, hv, e', Instr.indexAt, asIntOf, run_underlying' ha.u, Instr.sureAddr, h0, h1, hsz, Addr.add_lit], .o (.c (.ad hk))⟩
theorem Step.indexArrRd {t e sz bt n : Nat} {agg : Bool} {z : List Value} [ha : TArr P t n e] [TI P e sz bt agg z] {x y : Operand} {k : IntKind} {i : Int} {cells : List PC} (hx : E.ev x = some (.c (.rd cells))) (hy : E.ev y = some (.c (.sc (.int k i))))
    (h0 : 0 ≤ i) (h1 : i < n) : Step P E O ⟨d, .indexAddr t x y, ty, pos, af, g⟩ (some (.c (.rd (cells.drop (i.toNat * sz))))) .no :=
  .val fun _ K ok w a hs => by
    have e' := (hs.ev hy).sc.1
    have h := (hs.ev hx).one
    generalize hv : a.eval x = v at h
    have hsz := run_sizeOf (P := P) (t := e) w
    cases h with
    | cl h =>
      have h' := h
      cases h with
      | @rd _ b o g ho hlt hc hr => exact ⟨.pointer (some ⟨b, o + i.toNat * sz, none⟩), by simp [execOp, hv, e', Instr.indexAt, asIntOf, run_underlying' ha.u, Instr.sureAddr, h0, h1, hsz, Addr.add_lit], .o (.c (.cl h'.rd_drop))⟩
def isPtr : PC → Bool
  | .ad _ _ => true
  | .ea _ _ _ _ => true
  | .rd _ => true
  | _ => false
theorem Step.nilCheck {x : Operand} {p : PC} (hx : E.ev x = some (.c p)) (hp : isPtr p = true) : Step P E O ⟨d, .nilCheck x, ty, pos, af, g⟩ (some (.c p)) .no :=
  .val fun _ K ok w a hs => by
    have h := (hs.ev hx).one
    refine ⟨a.eval x, ?_, hs.ev hx⟩
    generalize hv : a.eval x = v at h
    cases h with
    | cl h => cases h <;> first | (cases hp; done) | simp [execOp, hv]
    | ad hk => simp [execOp, hv]
    | ea hk => simp [execOp, hv]
    | _ => cases hp
def lenC : PC → Option Nat
  | .sl _ els => some els.length
  | .ow _ _ n => some n
  | .os _ _ _ n => some n
  | .sc (.slice none 0 0) => some 0
  | _ => none
theorem lenC_rel {K : Km} {ok : Nat → Prop} {w : World} {p : PC} {v : Value} {n : Nat} (h : RelO K ok w p v) (hn : lenC p = some n) : ∃ A c, v = .slice A n c := by
  cases h with
  | cl h =>
    cases h with
    | sc h =>
      unfold lenC at hn
      split at hn <;> rename_i hh <;> first | (cases hn; done) | (exfalso; injection hh; done) | skip
      injection hh with hh
      subst hh
      cases hn
      exact ⟨_, _, rfl⟩
    | sl0 => cases hn; exact ⟨_, _, rfl⟩
    | sl => cases hn; exact ⟨_, _, rfl⟩
    | _ => cases hn
  | ow => cases hn; exact ⟨_, _, rfl⟩
  | owN => cases hn; exact ⟨_, _, rfl⟩
  | os => cases hn; exact ⟨_, _, rfl⟩
  | _ => cases hn
theorem Step.len {t e n : Nat} [hs : TSl P t e] {x : Operand} {p : PC} (hx : E.ev x = some (.c p)) (hn : lenC p = some n) :
    (n : Int) ≤ 9223372036854775807 → Step P E O ⟨d, .call ⟨.builtin .len, #[x], #[t]⟩, ty, pos, af, g⟩ (some (.c (.sc (.int .i64 n)))) .no := fun hb =>
  .val fun _ K ok w a hsim => by
    obtain ⟨A, c, e⟩ := lenC_rel (hsim.ev hx).one hn
    exact ⟨.int .i64 n, by simp [execOp, resolve, invoke, builtin, Builtin.len_, e, run_underlying' hs.u, goInt], .ofSc (by simp only [scOk, inR]; omega)⟩
theorem Step.lenS {t : TypeId} (ht : P.underlying t = some .string) {x : Operand} {s : ByteArray} (hx : E.ev x = some (.c (.sc (.string s)))) :
    Step P E O ⟨d, .call ⟨.builtin .len, #[x], #[t]⟩, ty, pos, af, g⟩ (some (.c (.sc (.int .i64 s.size)))) .no :=
  .val fun _ K ok w a hsim => by
    obtain ⟨e, hb⟩ := (hsim.ev hx).sc
    exact ⟨.int .i64 s.size, by simp [execOp, resolve, invoke, builtin, Builtin.len_, e, run_underlying' ht, goInt], .ofSc (by simp only [scOk, inR, BIG_eq] at hb ⊢; omega)⟩
end
end Go.Proofs.YtjpbijdpkdmeaaaGreat.Pv
namespace Go.Proofs.YtjpbijdpkdmeaaaGreat.Pv
open Go
def spl (cells : List PC) (off : Nat) (ys : List PC) : List PC := cells.take off ++ (ys ++ cells.drop (off + ys.length))
theorem spliceA_list (cs : Array Value) (k : Nat) (us : List Value) (h : k + us.length ≤ cs.size) : (spliceA cs k us).toList = cs.toList.take k ++ (us ++ cs.toList.drop (k + us.length)) := by
  apply List.ext_getElem?
  intro j
  rw [Array.getElem?_toList, spliceA_get us cs k j h]
  by_cases h1 : k ≤ j ∧ j < k + us.length
  · rw [if_pos h1, List.getElem?_append_right (by simp; omega), List.getElem?_append_left (by simp; omega)]
    congr 1
    simp; omega
  · rw [if_neg h1]
    rcases Nat.lt_or_ge j k with h2 | h2
    · rw [List.getElem?_append_left (by simp; omega), List.getElem?_take, if_pos h2]; simp
    · rw [List.getElem?_append_right (by simp; omega), List.getElem?_append_right (by simp; omega), List.getElem?_drop]
      simp
      congr 1
      omega
theorem RelCs.spl {K : Km} {ok : Nat → Prop} {w : World} {xs ys : List PC} {vs us : List Value} (h : RelCs K ok w xs vs) (t : RelCs K ok w ys us) (n : Nat) : RelCs K ok w (spl xs n ys) (vs.take n ++ (us ++ vs.drop (n + us.length))) := by
  unfold Pv.spl
  rw [t.len]
  exact RelCs.append (h.take n) (RelCs.append t (h.drop _))
theorem RelCs.ones {K : Km} {ok : Nat → Prop} {w : World} {xs : List PC} {vs : List Value} (h : RelCs K ok w xs vs) : ∀ v, v ∈ vs → one v = true := by
  intro v hv
  obtain ⟨i, hi⟩ := List.mem_iff_getElem?.1 hv
  have hlt : i < xs.length := by rw [← h.len]; exact (List.getElem?_eq_some_iff.1 hi).1
  obtain ⟨u, hu, hr⟩ := h.get i xs[i] (by simp)
  rw [hi] at hu
  cases hu
  exact hr.one
theorem closedL_get : ∀ {l : List PC}, closedL l = true → ∀ (i : Nat) (x : PC), l[i]? = some x → x.closed = true
  | [], _, i, x, hx => by simp at hx
  | y :: l, h, i, x, hx => by
    simp only [closedL, Bool.and_eq_true] at h
    cases i with
    | zero => simp at hx; exact hx ▸ h.1
    | succ i => simp at hx; exact closedL_get h.2 i x hx
theorem RelO.closed {K : Km} {ok : Nat → Prop} {w : World} {x : PC} {v : Value} (h : RelO K ok w x v) (hc : x.closed = true) : Rel ok w x v := by
  induction h with
  | cl h => exact h
  | fn g _ ih => exact .fn g fun i x hx => ih i x hx (closedL_get (by simpa [PC.closed] using hc) i x hx)
  | dead h => exact .dead h
  | _ => cases hc
section
variable {P : Program} {E : Env} {O : Objs} {d : Option Tmp} {ty : TypeId} {pos : String} {af : Array Edge} {g : Option (Nat × Bool)}
theorem storeVar_run {t sz bt : Nat} {agg : Bool} {z : List Value} [TI P t sz bt agg z] {w : World} {b o : Nat} {cs : Array Value} {e : TypeId} {fr : Nat × Nat} {v : Value} (hb : w.heap[b]? = some (.cells cs e fr))
    (hf : ∀ j, j < cs.size → ¬ (fr.1 ≤ j ∧ j < fr.2)) (hl : o + sz ≤ cs.size) (hv : v.cells.size = sz) (h1 : ∀ u, u ∈ v.cells.toList → one u = true) :
    (storeVar t ⟨b, o, none⟩ v).run P w = .ok () (setBlk w b (.cells (spliceA cs o v.cells.toList) e fr)) := by
  have h2 := run_storeCells (P := P) (o := o) v.cells.toList 0 cs w hb hf (by simp [hv]; omega) h1
  have hsz := run_sizeOf (P := P) (t := t) w
  simp [storeVar, hsz, hv, h2]
theorem Step.storeAd {t sz bt : Nat} {agg : Bool} {z : List Value} [TI P t sz bt agg z] {x v : Operand} {k off : Nat} {y : A1} {cells : List PC} (hx : E.ev x = some (.c (.ad k off))) (ho : O.get k = some (.var cells)) (hv : E.ev v = some (.o y))
    (hl : y.cells.length = sz) (hb : off + sz ≤ cells.length) : Step P E O ⟨d, .store t x v, ty, pos, af, g⟩ none (.upd k (.var (spl cells off y.cells))) := by
  intro N K ok w a next Q hs hn
  have h := (hs.ev hx).one
  have hy := hs.ev hv
  generalize hev : a.eval x = vx at h
  cases h with
  | cl h => cases h
  | @ad _ _ b L hk =>
    obtain ⟨b', cs, e, fr, a1, a2, a3, a4⟩ := hs.hp.obs k _ ho
    rw [hk] at a1
    cases a1
    generalize hvv : a.eval v = vv at hy
    cases hy with
    | o hy =>
      have hyc := hy.cells
      have hvl : vv.cells.size = sz := by have := hyc.len; simp at this; omega
      have hcl : cs.size = cells.length := by have := a4.len; simpa using this
      have hst := storeVar_run (P := P) (t := t) (o := off) a2 a3 (by omega) hvl hyc.ones
      unfold Oper.wp
      simp only [execOp, hev, hvv, Instr.storeAt, Instr.sureAddr, Sem.run_bind, Sem.run_pure, Result.andThen_ok, hst]
      have hspl := spliceA_list cs off vv.cells.toList (by simp [hvl]; omega)
      have hu := upd_block (K := K) (ok := ok) (ob' := .var (spl cells off y.cells)) (cs' := spliceA cs off vv.cells.toList) hs.hp ho hk a2 (spliceA_size _ _ _) ⟨b, spliceA cs off vv.cells.toList, e, fr, hk, by rw [setBlk_get, if_pos ⟨rfl, heap_lt a2⟩], by rw [spliceA_size]; exact a3, ?_⟩
      · exact hn _ K ok _ ⟨(fun _ h => by cases h), hu.1, hu.2.1, fun _ _ => rfl⟩
      · have hshape : ∀ r, Shp K K w (setBlk w b (.cells (spliceA cs off vv.cells.toList) e fr)) r := fun r => ⟨rfl, fun c _ _ ds e1 f1 hc => by
          by_cases hcb : b = c
          · subst hcb
            rw [a2] at hc
            cases hc
            exact ⟨_, _, _, by rw [setBlk_get, if_pos ⟨rfl, heap_lt a2⟩], spliceA_size _ _ _⟩
          · exact ⟨ds, e1, f1, by rw [setBlk_get, if_neg (fun h => hcb h.1)]; exact hc, rfl⟩⟩
        have hkeep : ∀ c, ok c → c < w.heap.size → (setBlk w b (.cells (spliceA cs off vv.cells.toList) e fr)).heap[c]? = w.heap[c]? := fun c hc _ => by
          rw [setBlk_get, if_neg]
          rintro ⟨rfl, _⟩
          exact hs.hp.apart k _ _ _ ho hk hc
        rw [hspl]
        exact (a4.spl hyc off).mono (fun _ h => h) hkeep (by rw [setBlk_size]; exact Nat.le_refl _) (fun r _ => hshape r)
theorem Step.storeEa {t sz bt : Nat} {agg : Bool} {z : List Value} [TI P t sz bt agg z] {x v : Operand} {r szr i off : Nat} {y : A1} {els : List (List PC)} {el : List PC} (hx : E.ev x = some (.c (.ea r szr i off))) (ho : O.get r = some (.row szr els)) (hv : E.ev v = some (.o y))
    (hi : els[i]? = some el) (hl : y.cells.length = sz) (hb : off + sz ≤ szr) (hc : closedL y.cells = true) : Step P E O ⟨d, .store t x v, ty, pos, af, g⟩ none (.upd r (.row szr (els.set i (spl el off y.cells)))) := by
  intro N K ok w a next Q hs hn
  have h := (hs.ev hx).one
  have hy := hs.ev hv
  generalize hev : a.eval x = vx at h
  cases h with
  | cl h => cases h
  | @ea _ _ _ _ b L hk =>
    have hilt : i < els.length := (List.getElem?_eq_some_iff.1 hi).1
    rcases hs.hp.obs r _ ho with ⟨a1, _⟩ | ⟨b', cs, e, fr, a1, a2, a3, a4, a5, a6, a7⟩
    · rw [hk] at a1; cases a1
    rw [hk] at a1
    cases a1
    generalize hvv : a.eval v = vv at hy
    cases hy with
    | o hy =>
      have hyc := hy.cells
      have hvl : vv.cells.size = sz := by have := hyc.len; simp at this; omega
      have hell : el.length = szr := a6 i el hi
      have hbound : i * szr + szr ≤ cs.size := by
        have : (i + 1) * szr ≤ els.length * szr := Nat.mul_le_mul_right _ hilt
        rw [Nat.add_mul, Nat.one_mul] at this
        omega
      have hst := storeVar_run (P := P) (t := t) (o := i * szr + off) a2 a3 (by omega) hvl hyc.ones
      unfold Oper.wp
      simp only [execOp, hev, hvv, Instr.storeAt, Instr.sureAddr, Sem.run_bind, Sem.run_pure, Result.andThen_ok, hst]
      have hspl : ∀ j, (spliceA cs (i * szr + off) vv.cells.toList)[j]? = if i * szr + off ≤ j ∧ j < i * szr + off + sz then vv.cells.toList[j - (i * szr + off)]? else cs[j]? := fun j => by
        rw [spliceA_get _ _ _ _ (by simp [hvl]; omega)]
        simp only [Array.length_toList, hvl]
      have hkeep : ∀ c, ok c → c < w.heap.size → (setBlk w b (.cells (spliceA cs (i * szr + off) vv.cells.toList) e fr)).heap[c]? = w.heap[c]? := fun c hc' _ => by
        rw [setBlk_get, if_neg]
        rintro ⟨rfl, _⟩
        exact hs.hp.apart r _ _ _ ho hk hc'
      have hu := upd_block (K := K) (ok := ok) (ob' := .row szr (els.set i (Pv.spl el off y.cells))) (cs' := spliceA cs (i * szr + off) vv.cells.toList) hs.hp ho hk a2 (spliceA_size _ _ _) (.inr ⟨b, spliceA cs (i * szr + off) vv.cells.toList, e, fr, by rw [List.length_set]; exact hk, by rw [setBlk_get, if_pos ⟨rfl, heap_lt a2⟩], by rw [spliceA_size]; exact a3, by rw [List.length_set]; exact a4, by rw [List.length_set, spliceA_size]; exact a5, fun j el' hj => ?_, fun j q el' x' hj hq => ?_⟩)
      · exact hn _ K ok _ ⟨(fun _ h => by cases h), hu.1, hu.2.1, fun _ _ => rfl⟩
      · rw [List.getElem?_set] at hj
        by_cases hij : i = j
        · subst hij
          rw [if_pos rfl, if_pos hilt] at hj
          cases hj
          simp [Pv.spl, hell, hl]
          omega
        · rw [if_neg hij] at hj; exact a6 j el' hj
      · rw [List.getElem?_set] at hj
        by_cases hij : i = j
        · subst hij
          rw [if_pos rfl, if_pos hilt] at hj
          cases hj
          rw [hspl]
          have hq' : q < szr := by
            have : q < (Pv.spl el off y.cells).length := (List.getElem?_eq_some_iff.1 hq).1
            simp [Pv.spl, hell, hl] at this
            omega
          unfold Pv.spl at hq
          by_cases hin : off ≤ q ∧ q < off + sz
          · rw [if_pos (by omega)]
            rw [List.getElem?_append_right (by simp; omega), List.getElem?_append_left (by simp [hell]; omega)] at hq
            have hq2 : y.cells[q - off]? = some x' := by rw [← hq]; congr 1; simp [hell]; omega
            obtain ⟨u, hu', hr⟩ := hyc.get _ x' hq2
            exact ⟨u, by rw [← hu']; congr 1; omega, (hr.closed (closedL_get hc _ x' hq2)).mono (fun _ h => h) hkeep (by rw [setBlk_size]; exact Nat.le_refl _)⟩
          · rw [if_neg (by omega)]
            have hq2 : el[q]? = some x' := by
              rcases Nat.lt_or_ge q off with h2 | h2
              · rw [List.getElem?_append_left (by simp [hell]; omega), List.getElem?_take, if_pos h2] at hq; exact hq
              · rw [List.getElem?_append_right (by simp; omega), List.getElem?_append_right (by simp [hell]; omega), List.getElem?_drop] at hq
                rw [← hq]; congr 1; simp [hell]; omega
            obtain ⟨u, hu', hr⟩ := a7 i q el x' hi hq2
            exact ⟨u, hu', hr.mono (fun _ h => h) hkeep (by rw [setBlk_size]; exact Nat.le_refl _)⟩
        · rw [if_neg hij] at hj
          have hq' : q < szr := by rw [← a6 j el' hj]; exact (List.getElem?_eq_some_iff.1 hq).1
          rw [hspl, if_neg]
          · obtain ⟨u, hu', hr⟩ := a7 j q el' x' hj hq
            exact ⟨u, hu', hr.mono (fun _ h => h) hkeep (by rw [setBlk_size]; exact Nat.le_refl _)⟩
          · rintro ⟨h1, h2⟩
            rcases Nat.lt_or_ge i j with h3 | h3
            · have : (i + 1) * szr ≤ j * szr := Nat.mul_le_mul_right _ h3
              rw [Nat.add_mul, Nat.one_mul] at this
              omega
            · have : (j + 1) * szr ≤ i * szr := Nat.mul_le_mul_right _ (by omega)
              rw [Nat.add_mul, Nat.one_mul] at this
              omega
theorem memB_of {k : Nat} : ∀ {l : List Nat}, k ∈ l → memB k l = true
  | x :: l, h => by
    simp only [List.mem_cons] at h
    simp only [memB, Bool.or_eq_true]
    rcases h with rfl | h
    · exact .inl (Nat.beq_refl _)
    · exact .inr (memB_of h)
theorem memB_mem {k : Nat} : ∀ {l : List Nat}, memB k l = true → k ∈ l
  | x :: l, h => by
    simp only [memB, Bool.or_eq_true] at h
    rcases h with h | h
    · rw [Nat.eq_of_beq_eq_true h]; simp
    · exact List.mem_cons_of_mem _ (memB_mem h)
theorem memB_app {k : Nat} : ∀ {l m : List Nat}, memB k (l ++ m) = (memB k l || memB k m)
  | [], _ => by simp [memB]
  | x :: l, m => by simp only [List.cons_append, memB, memB_app (l := l), Bool.or_assoc]
theorem mentL_app {k : Nat} : ∀ {l m : List PC}, PC.ment.mentL k (l ++ m) = (PC.ment.mentL k l || PC.ment.mentL k m)
  | [], _ => by simp [PC.ment.mentL]
  | x :: l, m => by simp only [List.cons_append, PC.ment.mentL, mentL_app (l := l), Bool.or_assoc]
theorem mentL_iff {k : Nat} : ∀ {l : List PC}, PC.ment.mentL k l = true ↔ ∃ x, x ∈ l ∧ x.ment k = true
  | [] => by simp [PC.ment.mentL]
  | x :: l => by simp only [PC.ment.mentL, Bool.or_eq_true, mentL_iff (l := l), List.mem_cons, exists_eq_or_imp]
theorem mentL_sub {k : Nat} {l m : List PC} (h : l ⊆ m) (hm : PC.ment.mentL k l = true) : PC.ment.mentL k m = true := by
  obtain ⟨x, hx, hx2⟩ := mentL_iff.1 hm
  exact mentL_iff.2 ⟨x, h hx, hx2⟩
theorem Step.storeEaO {t sz bt : Nat} {agg : Bool} {z : List Value} [TI P t sz bt agg z] {x v : Operand} {r szr i off : Nat} {y : A1} {els : List (List PC)} {ids : List Nat} {el : List PC} (hx : E.ev x = some (.c (.ea r szr i off))) (ho : O.get r = some (.rowO szr els ids)) (hv : E.ev v = some (.o y))
    (hi : els[i]? = some el) (hl : y.cells.length = sz) (hb : off + sz ≤ szr) : Step P E O ⟨d, .store t x v, ty, pos, af, g⟩ none (.upd r (.rowO szr (els.set i (spl el off y.cells)) (idsL y.cells ++ ids))) := by
  intro N K ok w a next Q hs hn
  have h := (hs.ev hx).one
  have hy := hs.ev hv
  generalize hev : a.eval x = vx at h
  cases h with
  | cl h => cases h
  | @ea _ _ _ _ b L hk =>
    have hilt : i < els.length := (List.getElem?_eq_some_iff.1 hi).1
    have hob := hs.hp.obs r _ ho
    have hids := hob.1
    rcases hob.2 with ⟨a1, _⟩ | ⟨b', cs, e, fr, a1, a2, a3, a4, a5, a6, a7⟩
    · rw [hk] at a1; cases a1
    rw [hk] at a1
    cases a1
    generalize hvv : a.eval v = vv at hy
    cases hy with
    | o hy =>
      have hyc := hy.cells
      have hvl : vv.cells.size = sz := by have := hyc.len; simp at this; omega
      have hell : el.length = szr := a6 i el hi
      have hbound : i * szr + szr ≤ cs.size := by
        have : (i + 1) * szr ≤ els.length * szr := Nat.mul_le_mul_right _ hilt
        rw [Nat.add_mul, Nat.one_mul] at this
        omega
      have hst := storeVar_run (P := P) (t := t) (o := i * szr + off) a2 a3 (by omega) hvl hyc.ones
      unfold Oper.wp
      simp only [execOp, hev, hvv, Instr.storeAt, Instr.sureAddr, Sem.run_bind, Sem.run_pure, Result.andThen_ok, hst]
      have hspl : ∀ j, (spliceA cs (i * szr + off) vv.cells.toList)[j]? = if i * szr + off ≤ j ∧ j < i * szr + off + sz then vv.cells.toList[j - (i * szr + off)]? else cs[j]? := fun j => by
        rw [spliceA_get _ _ _ _ (by simp [hvl]; omega)]
        simp only [Array.length_toList, hvl]
      have hkeep : ∀ c, ok c → c < w.heap.size → (setBlk w b (.cells (spliceA cs (i * szr + off) vv.cells.toList) e fr)).heap[c]? = w.heap[c]? := fun c hc' _ => by
        rw [setBlk_get, if_neg]
        rintro ⟨rfl, _⟩
        exact hs.hp.apart r _ _ _ ho hk hc'
      have hsh : ∀ q, Shp K K w (setBlk w b (.cells (spliceA cs (i * szr + off) vv.cells.toList) e fr)) q := fun q => ⟨rfl, fun c _ _ ds e1 f1 hc => by
        by_cases hcb : b = c
        · subst hcb
          rw [a2] at hc
          cases hc
          exact ⟨_, _, _, by rw [setBlk_get, if_pos ⟨rfl, heap_lt a2⟩], spliceA_size _ _ _⟩
        · exact ⟨ds, e1, f1, by rw [setBlk_get, if_neg (fun h => hcb h.1)]; exact hc, rfl⟩⟩
      have hu := upd_block (K := K) (ok := ok) (ob' := .rowO szr (els.set i (Pv.spl el off y.cells)) (idsL y.cells ++ ids)) (cs' := spliceA cs (i * szr + off) vv.cells.toList) hs.hp ho hk a2 (spliceA_size _ _ _) ⟨?_, .inr ⟨b, spliceA cs (i * szr + off) vv.cells.toList, e, fr, by rw [List.length_set]; exact hk, by rw [setBlk_get, if_pos ⟨rfl, heap_lt a2⟩], by rw [spliceA_size]; exact a3, by rw [List.length_set]; exact a4, by rw [List.length_set, spliceA_size]; exact a5, fun j el' hj => ?_, fun j q el' x' hj hq => ?_⟩⟩
      · exact hn _ K ok _ ⟨(fun _ h => by cases h), hu.1, hu.2.1, fun _ _ => rfl⟩
      · intro el' q hel hm
        rw [memB_app, Bool.or_eq_true]
        rcases List.mem_or_eq_of_mem_set hel with h1 | h1
        · exact .inr (hids el' q h1 hm)
        · subst h1
          unfold Pv.spl at hm
          have hm' : PC.ment.mentL q (el.take off ++ (y.cells ++ el.drop (off + y.cells.length))) = true := hm
          rw [mentL_app, mentL_app, Bool.or_eq_true, Bool.or_eq_true] at hm'
          rcases hm' with h2 | h2 | h2
          · exact .inr (hids el q (List.mem_of_getElem? hi) (mentL_sub (List.take_subset _ _) h2))
          · exact .inl (memB_of (idsL_spec h2))
          · exact .inr (hids el q (List.mem_of_getElem? hi) (mentL_sub (List.drop_subset _ _) h2))
      · rw [List.getElem?_set] at hj
        by_cases hij : i = j
        · subst hij
          rw [if_pos rfl, if_pos hilt] at hj
          cases hj
          simp [Pv.spl, hell, hl]
          omega
        · rw [if_neg hij] at hj; exact a6 j el' hj
      · rw [List.getElem?_set] at hj
        by_cases hij : i = j
        · subst hij
          rw [if_pos rfl, if_pos hilt] at hj
          cases hj
          rw [hspl]
          have hq' : q < szr := by
            have : q < (Pv.spl el off y.cells).length := (List.getElem?_eq_some_iff.1 hq).1
            simp [Pv.spl, hell, hl] at this
            omega
          unfold Pv.spl at hq
          by_cases hin : off ≤ q ∧ q < off + sz
          · rw [if_pos (by omega)]
            rw [List.getElem?_append_right (by simp; omega), List.getElem?_append_left (by simp [hell]; omega)] at hq
            have hq2 : y.cells[q - off]? = some x' := by rw [← hq]; congr 1; simp [hell]; omega
            obtain ⟨u, hu', hr⟩ := hyc.get _ x' hq2
            exact ⟨u, by rw [← hu']; congr 1; omega, hr.mono (fun _ h => h) hkeep (by rw [setBlk_size]; exact Nat.le_refl _) fun q _ => hsh q⟩
          · rw [if_neg (by omega)]
            have hq2 : el[q]? = some x' := by
              rcases Nat.lt_or_ge q off with h2 | h2
              · rw [List.getElem?_append_left (by simp [hell]; omega), List.getElem?_take, if_pos h2] at hq; exact hq
              · rw [List.getElem?_append_right (by simp; omega), List.getElem?_append_right (by simp [hell]; omega), List.getElem?_drop] at hq
                rw [← hq]; congr 1; simp [hell]; omega
            obtain ⟨u, hu', hr⟩ := a7 i q el x' hi hq2
            exact ⟨u, hu', hr.mono (fun _ h => h) hkeep (by rw [setBlk_size]; exact Nat.le_refl _) fun q _ => hsh q⟩
        · rw [if_neg hij] at hj
          have hq' : q < szr := by rw [← a6 j el' hj]; exact (List.getElem?_eq_some_iff.1 hq).1
          rw [hspl, if_neg]
          · obtain ⟨u, hu', hr⟩ := a7 j q el' x' hj hq
            exact ⟨u, hu', hr.mono (fun _ h => h) hkeep (by rw [setBlk_size]; exact Nat.le_refl _) fun q _ => hsh q⟩
          · rintro ⟨h1, h2⟩
            rcases Nat.lt_or_ge i j with h3 | h3
            · have : (i + 1) * szr ≤ j * szr := Nat.mul_le_mul_right _ h3
              rw [Nat.add_mul, Nat.one_mul] at this
              omega
            · have : (j + 1) * szr ≤ i * szr := Nat.mul_le_mul_right _ (by omega)
              rw [Nat.add_mul, Nat.one_mul] at this
              omega
theorem Step.new {o : Oper} {k : Nat} {ob : Ob} {av : AV} (hm : NoM k O) (h : ∀ N K ok w a, Sim N K ok w E O a → ∃ (v : Value) (cs : Array Value) (e : TypeId) (L : Nat), (execOp a.eval o).run P w = .ok (.value v) (w.alloc (.cells cs e)) ∧
    HOb (K.put k (some (w.heap.size, L))) ok (w.alloc (.cells cs e)) k ob ∧ RelV (K.put k (some (w.heap.size, L))) ok (w.alloc (.cells cs e)) av v) : Step P E O o (some av) (.new k ob) := by
  intro N K ok w a next Q hs hn
  obtain ⟨v, cs, e, L, h1, h2, h3⟩ := h N K ok w a hs
  unfold Oper.wp
  rw [h1]
  have hb := new_block hs.hp hm (.cells cs e) h2
  exact hn v _ ok _ ⟨fun x hx => by cases hx; exact h3, hb.1, hb.2, fun r hr => K.put_ne _ fun e => hr (by rw [e]; rfl)⟩
theorem alloc_keep {ok : Nat → Prop} {w : World} (o : Obj) (c : Nat) (_ : ok c) (h : c < w.heap.size) : (w.alloc o).heap[c]? = w.heap[c]? := RowKit.Below.heap_alloc w o c h
theorem alloc_new (w : World) (o : Obj) : (w.alloc o).heap[w.heap.size]? = some o := by
  show (w.heap.push o)[w.heap.size]? = _
  simp
theorem alloc_shp {K K' : Km} {w : World} (o : Obj) {r : Nat} (h : K' r = K r) : Shp K K' w (w.alloc o) r :=
  ⟨h, fun _ _ _ cs e fr hc => ⟨cs, e, fr, (RowKit.Below.heap_alloc w o _ (heap_lt hc)).trans hc, rfl⟩⟩
theorem scs_rel {K : Km} {ok : Nat → Prop} {w : World} : ∀ {z : List Value}, scAll z = true → RelCs K ok w (scsOf z) z
  | [], _ => RelCs.nil
  | v :: l, h => by
    simp only [scAll, Bool.and_eq_true] at h
    exact RelCs.cons (.cl (.sc (scB_spec h.1))) (scs_rel h.2)
theorem scsOf_closed : ∀ (l : List Value) (y : PC), y ∈ scsOf l → y.closed = true
  | [], y, hy => by simp [scsOf] at hy
  | v :: l, y, hy => by
    simp only [scsOf, List.mem_cons] at hy
    rcases hy with rfl | hy
    · rfl
    · exact scsOf_closed l y hy
theorem Step.alloc {t sz bt : Nat} {agg : Bool} {z : List Value} [TI P t sz bt agg z] {k : Nat} (hz : scAll z = true) (hm : NoM k O) : Step P E O ⟨some k, .alloc t, ty, pos, af, g⟩ (some (.c (.ad k 0))) (.new k (.var (scsOf z))) :=
  .new hm fun _ K ok w a hs => by
    obtain ⟨zv, h1, h2⟩ := run_zeroValue (P := P) (t := t) w
    refine ⟨.pointer (some ⟨w.heap.size, 0, none⟩), z.toArray, t, 0, by simp [execOp, Instr.alloc, h1, newVar, newRow, h2], ⟨w.heap.size, z.toArray, t, (0, 0), by simp, alloc_new _ _, by simp, ?_⟩, .o (.c (.ad (L := 0) (by simp)))⟩
    simpa using scs_rel hz
theorem Step.box {t : TypeId} {k : Nat} {x : Operand} {y : A1} (hx : E.ev x = some (.o y)) (hy : y.ment k = false) (hm : NoM k O) : Step P E O ⟨some k, .box t x, ty, pos, af, g⟩ (some (.c (.ad k 0))) (.new k (.var y.cells)) :=
  .new hm fun _ K ok w a hs => by
    have hv := hs.ev hx
    generalize hev : a.eval x = v at hv
    cases hv with
    | o hv =>
      refine ⟨.pointer (some ⟨w.heap.size, 0, none⟩), v.cells, t, 0, by simp [execOp, Instr.box, newVar, newRow, hev], ⟨w.heap.size, v.cells, t, (0, 0), by simp, alloc_new _ _, by simp, ?_⟩, .o (.c (.ad (L := 0) (by simp)))⟩
      refine hv.cells.mono (fun _ h => h) (alloc_keep _) (by simp) fun r hr => alloc_shp _ ?_
      have : r ≠ k := fun e => by
        subst e
        cases y with
        | c y => simp only [A1.cells, mentA, PC.ment.mentL, Bool.or_false] at hr; simp only [A1.ment] at hy; rw [hy] at hr; cases hr
        | ag l => simp only [A1.cells] at hr; simp only [A1.ment] at hy; rw [hy] at hr; cases hr
      exact K.put_ne _ this
theorem row_new {ok : Nat → Prop} {K : Km} {w : World} {k sz : Nat} {els : List (List PC)} {cs : Array Value} {e : TypeId} (hb : els.length ≤ BIG) (hs : els.length * sz ≤ cs.size) (hl : ∀ (j : Nat) (el : List PC), els[j]? = some el → el.length = sz)
    (h : ∀ (j i : Nat) (el : List PC) (x : PC), els[j]? = some el → el[i]? = some x → ∃ u, cs[j * sz + i]? = some u ∧ Rel ok w x u) :
    HOb (K.put k (some (w.heap.size, els.length))) ok (w.alloc (.cells cs e)) k (.row sz els) :=
  .inr ⟨w.heap.size, cs, e, (0, 0), by simp, alloc_new _ _, by simp, hb, hs, hl, fun j i el x hj hi => by
    obtain ⟨u, hu, hr⟩ := h j i el x hj hi
    exact ⟨u, hu, hr.mono (fun _ h => h) (alloc_keep _) (by simp)⟩⟩
theorem Step.makeSlice {t e sz bt : Nat} {agg : Bool} {z : List Value} [hs : TSl P t e] [TI P e sz bt agg z] {k : Nat} {x y : Operand} {n c : Int} (hx : E.ev x = some (.c (.sc (.int .i64 n)))) (hy : E.ev y = some (.c (.sc (.int .i64 c))))
    (hz : scAll z = true) (hzl : z.length = sz) (h0 : 0 ≤ n) (h1 : n ≤ c) (h2 : c ≤ 35184372088832) (h3 : bt ≤ 8 ∨ c * bt ≤ 281474976710656) (hm : NoM k O) :
    Step P E O ⟨some k, .makeSlice t x y, ty, pos, af, g⟩ (some (.c (.ow k sz n.toNat))) (.new k (.row sz (List.replicate n.toNat (scsOf z)))) :=
  .new hm fun _ K ok w a hsim => by
    obtain ⟨zv, hz1, hz2⟩ := run_zeroValue (P := P) (t := e) w
    obtain ⟨i, hi1, hi2⟩ := run_typeInfo_bytes (P := P) (t := e) w
    have hsz := run_sizeOf (P := P) (t := e) w
    have e1 := (hsim.ev hx).sc
    have e2 := (hsim.ev hy).sc
    have w1 : IntKind.i64.wrap n = n := wrap_of_inR e1.2
    have w2 : IntKind.i64.wrap c = c := wrap_of_inR e2.2
    have hbig : (bt : Int) * c ≤ 281474976710656 := by
      rcases h3 with h3 | h3
      · have : (bt : Int) * c ≤ 8 * c := Int.mul_le_mul_of_nonneg_right (by omega) (by omega)
        omega
      · rw [Int.mul_comm]; exact h3
    have hscl : ∀ z : List Value, (scsOf z).length = z.length := by
      intro z; induction z with
      | nil => rfl
      | cons v l ih => simp [scsOf, ih]
    let cells : Array Value := if c.toNat * sz = 0 then #[] else (Array.range (c.toNat * sz)).map (fun q => z.toArray[q % z.toArray.size]!)
    have hcs : cells.size = c.toNat * sz := by
      show (if c.toNat * sz = 0 then #[] else (Array.range (c.toNat * sz)).map (fun q => z.toArray[q % z.toArray.size]!) : Array Value).size = _
      split
      · simp [*]
      · simp
    refine ⟨.slice (some ⟨w.heap.size, 0, none⟩) n.toNat c.toNat, cells, e, (List.replicate n.toNat (scsOf z)).length, ?_, row_new ?_ ?_ ?_ ?_, ?_⟩
    · have hno : ¬ (c < 0 ∨ (281474976710656 : Int) < (bt : Int) * c) := by omega
      have hrun : (Instr.makeSlice t (.int .i64 n) (.int .i64 c)).run P w = .ok (.slice (some ⟨w.heap.size, 0, none⟩) n.toNat c.toNat) (w.alloc (.cells cells e)) := by
        have c1 : ¬ c < 0 := by omega
        have c2 : ¬ (281474976710656 : Int) < (bt : Int) * c := by omega
        have c3 : ¬ n < 0 := by omega
        have c4 : ¬ c < n := by omega
        by_cases hzero : c.toNat * sz = 0
        · simp [Instr.makeSlice, run_underlying' hs.u, asInt, asIntOf, hi1, hi2, w1, w2, c1, c2, c3, c4, hsz, hzero, newRow, cells]
          congr 2
          apply Array.ext' ; simp
        · simp [Instr.makeSlice, run_underlying' hs.u, asInt, asIntOf, hi1, hi2, w1, w2, c1, c2, c3, c4, hsz, hzero, newRow, cells, hz1, hz2]
      simp [execOp, e1.1, e2.1, hrun]
    · simp [BIG_eq]; omega
    · rw [List.length_replicate, hcs]; exact Nat.mul_le_mul_right _ (by omega)
    · intro j el hj
      rw [List.getElem?_replicate] at hj
      split at hj
      · cases hj; rw [hscl, hzl]
      · cases hj
    · intro j q el x' hj hq
      rw [List.getElem?_replicate] at hj
      split at hj
      · rename_i hjn
        cases hj
        obtain ⟨u, hu, hr⟩ := (scs_rel (K := K) (ok := ok) (w := w) hz).get q x' hq
        have hql : q < sz := by rw [← hzl]; exact (List.getElem?_eq_some_iff.1 hu).1
        have hb : j * sz + q < c.toNat * sz := by
          have : (j + 1) * sz ≤ c.toNat * sz := Nat.mul_le_mul_right _ (by omega)
          rw [Nat.add_mul, Nat.one_mul] at this
          omega
        refine ⟨u, ?_, hr.closed ?_⟩
        · show (if c.toNat * sz = 0 then #[] else (Array.range (c.toNat * sz)).map (fun q => z.toArray[q % z.toArray.size]!) : Array Value)[j * sz + q]? = _
          rw [if_neg (by omega)]
          have hmod : (j * sz + q) % sz = q := by rw [Nat.mul_comm, Nat.mul_add_mod]; exact Nat.mod_eq_of_lt hql
          have hu' : z[q]? = some u := hu
          simp [hb, hzl, hmod, hu']
        · exact scsOf_closed z x' (List.mem_of_getElem? hq)
      · cases hj
    · refine .o (.c (.ow (cs := cells) (e := e) (fr := (0, 0)) (by simp) (alloc_new _ _) (by rw [hcs]; exact Nat.le_refl _) (by omega)))
end
end Go.Proofs.YtjpbijdpkdmeaaaGreat.Pv
namespace Go.Proofs.YtjpbijdpkdmeaaaGreat.Pv
open Go
def slC (O : Objs) (sz : Nat) : PC → Option (List (List PC))
  | .sl sz' els => bif Nat.beq sz sz' then some els else none
  | .ow r sz' _ => match O.get r with
    | some (.row sz'' els) => bif Nat.beq sz sz' && Nat.beq sz sz'' then some els else none
    | some (.rowO sz'' els _) => bif Nat.beq sz sz' && Nat.beq sz sz'' then some els else none
    | _ => none
  | .os r sz' lo n => match O.get r with
    | some (.row sz'' els) => bif Nat.beq sz sz' && Nat.beq sz sz'' then some ((els.drop lo).take n) else none
    | _ => none
  | .sc (.slice none 0 0) => some []
  | _ => none
structure SlR (K : Km) (ok : Nat → Prop) (w : World) (sz : Nat) (els : List (List PC)) (v : Value) : Prop where
  v : ∃ A c, v = .slice A els.length c ∧ (els ≠ [] → ∃ b o, A = some ⟨b, o, none⟩ ∧ ∀ (j i : Nat) (el : List PC) (x : PC), els[j]? = some el → el[i]? = some x → ∃ u, w.cell? ⟨b, o + (j * sz + i), none⟩ = some u ∧ RelO K ok w x u)
  len : ∀ (j : Nat) (el : List PC), els[j]? = some el → el.length = sz
  big : els.length ≤ BIG
theorem beq2 {a b c : Nat} (h : (Nat.beq a b && Nat.beq a c) = true) : b = a ∧ c = a := by
  simp only [Bool.and_eq_true] at h
  exact ⟨(Nat.eq_of_beq_eq_true h.1).symm, (Nat.eq_of_beq_eq_true h.2).symm⟩
theorem row_cells {K : Km} {ok : Nat → Prop} {w : World} {O : Objs} (hp : Hp K ok w O) {r sz : Nat} {els : List (List PC)} (ho : O.get r = some (.row sz els) ∨ (∃ ids, O.get r = some (.rowO sz els ids))) :
    (K r = none ∧ els = []) ∨ ∃ b cs e fr, K r = some (b, els.length) ∧ w.heap[b]? = some (.cells cs e fr) ∧ (∀ i, i < cs.size → ¬ (fr.1 ≤ i ∧ i < fr.2)) ∧ els.length ≤ BIG ∧ els.length * sz ≤ cs.size ∧
      (∀ (j : Nat) (el : List PC), els[j]? = some el → el.length = sz) ∧ ∀ (j i : Nat) (el : List PC) (x : PC), els[j]? = some el → el[i]? = some x → ∃ u, cs[j * sz + i]? = some u ∧ RelO K ok w x u := by
  rcases ho with ho | ⟨ids, ho⟩
  · rcases hp.obs r _ ho with h | ⟨b, cs, e, fr, a1, a2, a3, a4, a5, a6, a7⟩
    · exact .inl h
    · refine .inr ⟨b, cs, e, fr, a1, a2, a3, a4, a5, a6, fun j i el x hj hi => ?_⟩
      obtain ⟨u, hu, hr⟩ := a7 j i el x hj hi
      exact ⟨u, hu, .cl hr⟩
  · exact (hp.obs r _ ho).2
theorem slC_rel {K : Km} {ok : Nat → Prop} {w : World} {O : Objs} (hp : Hp K ok w O) {p : PC} {v : Value} (h : RelO K ok w p v) {sz : Nat} {els : List (List PC)} (hx : slC O sz p = some els) : SlR K ok w sz els v := by
  cases h with
  | cl h =>
    cases h with
    | @sc v h =>
      have : v = .slice none 0 0 ∧ els = [] := by
        unfold slC at hx
        split at hx <;> rename_i hh <;> first | (exfalso; injection hh; done) | (cases hx; done) | skip
        injection hh with hh
        cases hx
        exact ⟨hh, rfl⟩
      obtain ⟨rfl, rfl⟩ := this
      exact ⟨⟨none, 0, rfl, fun h => absurd rfl h⟩, fun j el hj => by simp at hj, by simp⟩
    | @sl0 sz' A c =>
      simp only [slC] at hx
      cases hb : Nat.beq sz sz' with
      | false => rw [hb] at hx; cases hx
      | true => rw [hb] at hx; cases hx; exact ⟨⟨A, c, rfl, fun h => absurd rfl h⟩, fun j el hj => by simp at hj, by simp⟩
    | @sl sz' els' b o c g hc hB ho hlt hsz hcell hr =>
      simp only [slC] at hx
      cases hb : Nat.beq sz sz' with
      | false => rw [hb] at hx; cases hx
      | true =>
        rw [hb] at hx
        cases hx
        have e := Nat.eq_of_beq_eq_true hb
        subst e
        exact ⟨⟨_, c, rfl, fun _ => ⟨b, o, rfl, fun j i el x hj hi => ⟨_, hcell j i el x hj hi, .cl (hr j i el x hj hi)⟩⟩⟩, hsz, hB⟩
    | _ => simp [slC] at hx
  | @ow r sz' n b c cs e fr hk hb hc hn =>
    have : ∃ els', (O.get r = some (.row sz els') ∨ (∃ ids, O.get r = some (.rowO sz els' ids))) ∧ els' = els ∧ sz' = sz := by
      simp only [slC] at hx
      split at hx
      · rename_i sz'' els' ho
        cases hbb : (Nat.beq sz sz' && Nat.beq sz sz'') with
        | false => rw [hbb] at hx; cases hx
        | true => rw [hbb] at hx; cases hx; obtain ⟨rfl, rfl⟩ := beq2 hbb; exact ⟨_, .inl ho, rfl, rfl⟩
      · rename_i sz'' els' ids ho
        cases hbb : (Nat.beq sz sz' && Nat.beq sz sz'') with
        | false => rw [hbb] at hx; cases hx
        | true => rw [hbb] at hx; cases hx; obtain ⟨rfl, rfl⟩ := beq2 hbb; exact ⟨_, .inr ⟨ids, ho⟩, rfl, rfl⟩
      · cases hx
    obtain ⟨els', ho, rfl, rfl⟩ := this
    rcases row_cells hp ho with ⟨a1, _⟩ | ⟨b', cs', e', fr', a1, a2, a3, a4, a5, a6, a7⟩
    · rw [hk] at a1; cases a1
    · rw [hk] at a1
      cases a1
      refine ⟨⟨_, c, rfl, fun _ => ⟨b, 0, rfl, fun j i el x hj hi => ?_⟩⟩, a6, a4⟩
      obtain ⟨u, hu, hr⟩ := a7 j i el x hj hi
      exact ⟨u, cell?_of a2 (by rw [Nat.zero_add]; exact hu), hr⟩
  | @owN r sz' A hk =>
    have : ∃ els', (O.get r = some (.row sz els') ∨ (∃ ids, O.get r = some (.rowO sz els' ids))) ∧ els' = els ∧ sz' = sz := by
      simp only [slC] at hx
      split at hx
      · rename_i sz'' els' ho
        cases hbb : (Nat.beq sz sz' && Nat.beq sz sz'') with
        | false => rw [hbb] at hx; cases hx
        | true => rw [hbb] at hx; cases hx; obtain ⟨rfl, rfl⟩ := beq2 hbb; exact ⟨_, .inl ho, rfl, rfl⟩
      · rename_i sz'' els' ids ho
        cases hbb : (Nat.beq sz sz' && Nat.beq sz sz'') with
        | false => rw [hbb] at hx; cases hx
        | true => rw [hbb] at hx; cases hx; obtain ⟨rfl, rfl⟩ := beq2 hbb; exact ⟨_, .inr ⟨ids, ho⟩, rfl, rfl⟩
      · cases hx
    obtain ⟨els', ho, rfl, rfl⟩ := this
    rcases row_cells hp ho with ⟨_, rfl⟩ | ⟨b', cs', e', fr', a1, _⟩
    · exact ⟨⟨A, 0, rfl, fun h => absurd rfl h⟩, fun j el hj => by simp at hj, by simp⟩
    · rw [hk] at a1; cases a1
  | @os r sz' lo n L b c cs e fr hk hb hc hn hl =>
    simp only [slC] at hx
    split at hx
    · rename_i sz'' els' ho
      cases hbb : (Nat.beq sz sz' && Nat.beq sz sz'') with
      | false => rw [hbb] at hx; cases hx
      | true =>
        rw [hbb] at hx
        cases hx
        obtain ⟨rfl, rfl⟩ := beq2 hbb
        rcases row_cells hp (.inl ho) with ⟨a1, _⟩ | ⟨b', cs', e', fr', a1, a2, a3, a4, a5, a6, a7⟩
        · rw [hk] at a1; cases a1
        · rw [hk] at a1
          cases a1
          have hlen : ((els'.drop lo).take n).length = n := by simp; omega
          have hget : ∀ (j : Nat) (el : List PC), ((els'.drop lo).take n)[j]? = some el → els'[lo + j]? = some el := fun j el hj => by
            rw [List.getElem?_take] at hj
            split at hj
            · rwa [List.getElem?_drop] at hj
            · cases hj
          refine ⟨⟨_, c, by rw [hlen], fun _ => ⟨b, _, rfl, fun j i el x hj hi => ?_⟩⟩, fun j el hj => a6 _ el (hget j el hj), by rw [hlen]; omega⟩
          obtain ⟨u, hu, hr⟩ := a7 (lo + j) i el x (hget j el hj) hi
          exact ⟨u, cell?_of a2 (by rw [← Nat.add_assoc, ← Nat.add_mul]; exact hu), hr⟩
    · cases hx
  | _ => simp [slC] at hx
structure Flat (K : Km) (ok : Nat → Prop) (w : World) (sz : Nat) (els : List (List PC)) (us : List Value) : Prop where
  len : us.length = els.length * sz
  ones : ∀ u, u ∈ us → one u = true
  get : ∀ (j i : Nat) (el : List PC) (x : PC), els[j]? = some el → el[i]? = some x → ∃ u, us[j * sz + i]? = some u ∧ RelO K ok w x u
theorem SlR.first {P : Program} {K : Km} {ok : Nat → Prop} {w : World} {sz : Nat} {els : List (List PC)} {v : Value} (h : SlR K ok w sz els v) :
    ∃ us, (Builtin.firstCells sz els.length v).run P w = .ok us.toArray w ∧ Flat K ok w sz els us := by
  obtain ⟨A, c, rfl, hA⟩ := h.v
  by_cases he : els = []
  · subst he
    refine ⟨[], ?_, ⟨by simp, fun u hu => by simp at hu, fun j i el x hj => by simp at hj⟩⟩
    cases A <;> simp [Builtin.firstCells, loadCells, loadCellsFrom]
  · obtain ⟨b, o, rfl, hc⟩ := hA he
    let f : Nat → Value := fun q => (w.cell? ⟨b, o + q, none⟩).getD undef
    have hq : ∀ q, q < els.length * sz → ∃ u, w.cell? ⟨b, o + q, none⟩ = some u ∧ one u = true := by
      intro q hq
      have hs : 0 < sz := Nat.pos_of_ne_zero fun e => by subst e; simp at hq
      have hj : q / sz < els.length := (Nat.div_lt_iff_lt_mul hs).2 hq
      have hl := h.len (q / sz) els[q / sz] (by simp [hj])
      have hi : q % sz < els[q / sz].length := by rw [hl]; exact Nat.mod_lt _ hs
      obtain ⟨u, hu, hr⟩ := hc (q / sz) (q % sz) els[q / sz] els[q / sz][q % sz] (by simp [hj]) (by simp [hi])
      rw [show q / sz * sz + q % sz = q by rw [Nat.mul_comm]; exact Nat.div_add_mod q sz] at hu
      exact ⟨u, hu, hr.one⟩
    refine ⟨(List.range (els.length * sz)).map f, ?_, ⟨by simp, fun u hu => ?_, fun j i el x hj hi => ?_⟩⟩
    · have := run_loadCells (P := P) w ⟨b, o, none⟩ (els.length * sz) f (fun q hlt => by
        obtain ⟨u, hu, _⟩ := hq q hlt
        rw [Addr.add_lit]
        show _ = some ((w.cell? ⟨b, o + q, none⟩).getD undef)
        rw [hu]; rfl)
      simpa [Builtin.firstCells] using this
    · simp only [List.mem_map, List.mem_range] at hu
      obtain ⟨q, hlt, rfl⟩ := hu
      obtain ⟨u, hu, h1⟩ := hq q hlt
      show one ((w.cell? ⟨b, o + q, none⟩).getD undef) = true
      rw [hu]; exact h1
    · obtain ⟨u, hu, hr⟩ := hc j i el x hj hi
      have hil : i < sz := by rw [← h.len j el hj]; exact (List.getElem?_eq_some_iff.1 hi).1
      have hjl : j < els.length := (List.getElem?_eq_some_iff.1 hj).1
      have hlt : j * sz + i < els.length * sz := by
        have : (j + 1) * sz ≤ els.length * sz := Nat.mul_le_mul_right _ hjl
        rw [Nat.add_mul, Nat.one_mul] at this
        omega
      refine ⟨u, ?_, hr⟩
      simp only [List.getElem?_map, List.getElem?_range hlt, Option.map_some]
      show some ((w.cell? ⟨b, o + (j * sz + i), none⟩).getD undef) = some u
      rw [hu]; rfl
theorem growBy_le (n : Nat) : ∀ (r c : Nat), Builtin.growBy n r c + 768 ≤ 2 ^ r * (c + 768)
  | 0, c => by simp [Builtin.growBy]
  | r + 1, c => by
    simp only [Builtin.growBy]
    split
    · have : 1 ≤ 2 ^ (r + 1) := Nat.one_le_two_pow
      calc c + 768 = 1 * (c + 768) := by omega
        _ ≤ 2 ^ (r + 1) * (c + 768) := Nat.mul_le_mul_right _ this
    · refine Nat.le_trans (growBy_le n r _) ?_
      rw [Nat.pow_succ, Nat.mul_assoc]
      exact Nat.mul_le_mul_left _ (by omega)
theorem nextslicecap_le {need old : Nat} (h : old < need) : Builtin.nextslicecap need old ≤ 16 * (need + 768) := by
  unfold Builtin.nextslicecap
  split
  · omega
  · split
    · omega
    · have := growBy_le need 4 old
      simp only [Nat.reducePow] at this
      omega
section
variable {P : Program} {E : Env} {O : Objs} {d : Option Tmp} {ty : TypeId} {pos : String} {af : Array Edge} {g : Option (Nat × Bool)}
theorem append_in {t t2 e e2 sz bt : Nat} {agg : Bool} {z : List Value} [hs : TSl P t e] [TI P e sz bt agg z] [hs2 : TSl P t2 e2] {K : Km} {ok : Nat → Prop} {w : World} {els2 : List (List PC)} {v2 : Value} (h2 : SlR K ok w sz els2 v2)
    {b n c : Nat} {cs : Array Value} {el : TypeId} {fr : Nat × Nat} (hb : w.heap[b]? = some (.cells cs el fr)) (hf : ∀ j, j < cs.size → ¬ (fr.1 ≤ j ∧ j < fr.2)) (hc : c * sz ≤ cs.size) (hle : n + els2.length ≤ c) :
    ∃ us, Flat K ok w sz els2 us ∧ (Builtin.append_ #[t, t2] ty #[.slice (some ⟨b, 0, none⟩) n c, v2]).run P w = .ok (.slice (some ⟨b, 0, none⟩) (n + els2.length) c) (setBlk w b (.cells (spliceA cs (n * sz) us) el fr)) := by
  obtain ⟨us, hu, hfl⟩ := h2.first (P := P)
  refine ⟨us, hfl, ?_⟩
  obtain ⟨A, c2, rfl, _⟩ := h2.v
  have hsz := run_sizeOf (P := P) (t := e) w
  have hbound : n * sz + us.length ≤ cs.size := by
    rw [hfl.len, ← Nat.add_mul]
    exact Nat.le_trans (Nat.mul_le_mul_right _ hle) hc
  have hst := run_storeCells (P := P) (o := n * sz) us 0 cs w hb hf (by omega) hfl.ones
  simp [Builtin.append_, run_underlying' hs.u, run_underlying' hs2.u, hsz, Builtin.lenOf, hle, hu, Addr.add_lit, hst]
theorem append_grow {t t2 e e2 sz bt : Nat} {agg : Bool} {z : List Value} [hs : TSl P t e] [TI P e sz bt agg z] [hs2 : TSl P t2 e2] {K : Km} {ok : Nat → Prop} {w : World} {els els2 : List (List PC)} {v v2 : Value} (h1 : SlR K ok w sz els v) (h2 : SlR K ok w sz els2 v2)
    {A : Option Addr} {c : Nat} (hv : v = .slice A els.length c) (hgt : c < els.length + els2.length) (hbig : (els.length + els2.length + 768) * bt ≤ 17592186044416) (hbig2 : els.length + els2.length ≤ BIG) :
    ∃ us us2 cap rest, Flat K ok w sz els us ∧ Flat K ok w sz els2 us2 ∧ els.length + els2.length ≤ cap ∧ rest.size = (cap - (els.length + els2.length)) * z.length ∧
      (Builtin.append_ #[t, t2] ty #[v, v2]).run P w = .ok (.slice (some ⟨w.heap.size, 0, none⟩) (els.length + els2.length) cap) (w.drew.alloc (.cells (us.toArray ++ us2.toArray ++ rest) e)) := by
  have mv : ∀ (x : PC) (u : Value), RelO K ok w x u → RelO K ok w.drew x u := fun x u h => RelO.mono (w := w) (w' := w.drew) (fun _ h => h) (fun _ _ _ => rfl) (Nat.le_refl _) h fun r _ => ⟨rfl, fun _ _ _ cs e fr hc => ⟨cs, e, fr, hc, rfl⟩⟩
  have mvS : ∀ {l : List (List PC)} {v : Value}, SlR K ok w sz l v → SlR K ok w.drew sz l v := fun {l v} h => by
    obtain ⟨A, c, e, hh⟩ := h.v
    refine ⟨⟨A, c, e, fun hne => ?_⟩, h.len, h.big⟩
    obtain ⟨b, o, e2, hc⟩ := hh hne
    exact ⟨b, o, e2, fun j i el x hj hi => by obtain ⟨u, hu, hr⟩ := hc j i el x hj hi; exact ⟨u, hu, mv x u hr⟩⟩
  have back : ∀ (x : PC) (u : Value), RelO K ok w.drew x u → RelO K ok w x u := fun x u h => RelO.mono (w := w.drew) (w' := w) (fun _ h => h) (fun _ _ _ => rfl) (Nat.le_refl _) h fun r _ => ⟨rfl, fun _ _ _ cs e fr hc => ⟨cs, e, fr, hc, rfl⟩⟩
  have bk : ∀ {l : List (List PC)} {us : List Value}, Flat K ok w.drew sz l us → Flat K ok w sz l us := fun h => ⟨h.len, h.ones, fun j i el x hj hi => by obtain ⟨u, hu, hr⟩ := h.get j i el x hj hi; exact ⟨u, hu, back x u hr⟩⟩
  obtain ⟨us, hu, hfl⟩ := (mvS h1).first (P := P)
  obtain ⟨us2, hu2, hfl2⟩ := (mvS h2).first (P := P)
  obtain ⟨A2, c2, e2', _⟩ := h2.v
  obtain ⟨zv, hz1, hz2⟩ := run_zeroValue (P := P) (t := e) w.drew
  obtain ⟨i, hi1, hi2⟩ := run_typeInfo_bytes (P := P) (t := e) w
  obtain ⟨i', hi1', hi2'⟩ := run_typeInfo_bytes (P := P) (t := e) w.drew
  have hsz := run_sizeOf (P := P) (t := e) w
  have hcap := nextslicecap_le hgt
  have hno : ¬ (2 ^ 48 < Builtin.nextslicecap (els.length + els2.length) c * bt) := by
    have : Builtin.nextslicecap (els.length + els2.length) c * bt ≤ 16 * (els.length + els2.length + 768) * bt := Nat.mul_le_mul_right _ hcap
    rw [Nat.mul_assoc] at this
    omega
  have hno' : ¬ (281474976710656 < Builtin.nextslicecap (els.length + els2.length) c * bt) := by simpa using hno
  have hmax : ¬ ((IntKind.i64.max : Int) < ((els.length + els2.length : Nat) : Int)) := by
    simp only [BIG_eq] at hbig2
    have : IntKind.i64.max = 9223372036854775807 := by decide
    rw [this]; omega
  let q : Question := .appendCap (els.length + els2.length) c e
  let cap := q.cut (w.tape w.drawn q)
  have hcapge : els.length + els2.length ≤ cap := by
    show _ ≤ (Question.appendCap (els.length + els2.length) c e).cut _
    simp [Question.cut]
  refine ⟨us, us2, cap, Builtin.zeroCells z.toArray (cap - (els.length + els2.length)), bk hfl, bk hfl2, hcapge, by simp [Builtin.zeroCells], ?_⟩
  have hnle : ¬ (els.length + els2.length ≤ c) := by omega
  have hch : (choose q).run P w = .ok cap w.drew := by
    simp [choose, Sem.run, q, Question.forced, cap]
  subst hv
  subst e2'
  have hmax' : ¬ ((IntKind.i64.max : Int) < (els.length : Int) + (els2.length : Int)) := by simpa using hmax
  show (Builtin.append_ #[t, t2] ty #[.slice A els.length c, .slice A2 els2.length c2]).run P w = _
  have hch' : (choose (.appendCap (els.length + els2.length) c e)).run P w = .ok cap w.drew := hch
  have hmax2 : ¬ ((9223372036854775807 : Int) < ((els.length : Int) + (els2.length : Int)) ∧ bt = 0) := fun h => by simp only [BIG_eq] at hbig2; omega
  simp [Builtin.append_, run_underlying' hs.u, run_underlying' hs2.u, hsz, Builtin.lenOf, hi1, hi2, hnle, hno', hmax2, Question.forced, newRow, cap, q]
  rw [hi1']
  simp [hu, hu2, hz1, hz2]
  rw [← Array.append_assoc]
  simp
theorem upd_blockK {K : Km} {ok : Nat → Prop} {w : World} {O : Objs} {k b L L1 : Nat} {ob ob' : Ob} {cs cs' : Array Value} {e : TypeId} {fr : Nat × Nat} (hp : Hp K ok w O) (hm : NoM k O) (ho : O.get k = some ob) (hk : K k = some (b, L))
    (hb : w.heap[b]? = some (.cells cs e fr)) (hsz : cs'.size = cs.size) (hn : HOb (K.put k (some (b, L1))) ok (setBlk w b (.cells cs' e fr)) k ob') :
    Hp (K.put k (some (b, L1))) ok (setBlk w b (.cells cs' e fr)) (O.set k ob') ∧ Fr K ok w O (K.put k (some (b, L1))) ok (setBlk w b (.cells cs' e fr)) (O.set k ob') :=
  upd_blockG hp ho hk hb (show SK _ (.cells cs' e fr) from ⟨_, _, _, rfl, hsz⟩) (.inr hm) hn
theorem Hp.drew {K : Km} {ok : Nat → Prop} {w : World} {O : Objs} (hp : Hp K ok w O) : Hp K ok w.drew O :=
  ⟨fun k o h => HOb.mono (w := w) (w' := w.drew) (fun _ h => h) (fun _ _ _ => rfl) (Nat.le_refl _) rfl (fun _ _ _ => rfl) (fun _ _ => ⟨rfl, fun _ _ => rfl, rfl, rfl, rfl, CSh.same fun _ _ => rfl⟩) (fun r _ => ⟨rfl, fun b _ _ cs e fr hc => ⟨cs, e, fr, hc, rfl⟩⟩) (hp.obs k o h), hp.inj, hp.apart, hp.lt, hp.hlt, hp.hok, hp.how⟩
def closedLL (els : List (List PC)) : Prop := ∀ el, el ∈ els → closedL el = true
theorem flat_join {K : Km} {ok : Nat → Prop} {w : World} {sz : Nat} {els els2 : List (List PC)} {us us2 : List Value} {cs : Array Value} (h1 : Flat K ok w sz els us) (h2 : Flat K ok w sz els2 us2) (hc1 : closedLL els) (hc2 : closedLL els2)
    (hl2 : ∀ (j : Nat) (el : List PC), els2[j]? = some el → el.length = sz)
    (hl : ∀ (j : Nat) (el : List PC), els[j]? = some el → el.length = sz) (hcs : ∀ q u, q < (els.length + els2.length) * sz → (us ++ us2)[q]? = some u → cs[q]? = some u) :
    ∀ (j i : Nat) (el : List PC) (x : PC), (els ++ els2)[j]? = some el → el[i]? = some x → ∃ u, cs[j * sz + i]? = some u ∧ Rel ok w x u := by
  intro j i el x hj hi
  have bound : ∀ (n : Nat), j < n → i < sz → j * sz + i < n * sz := by
    intro n h1 h2
    have : (j + 1) * sz ≤ n * sz := Nat.mul_le_mul_right _ h1
    rw [Nat.add_mul, Nat.one_mul] at this
    omega
  rcases Nat.lt_or_ge j els.length with hlt | hge
  · rw [List.getElem?_append_left hlt] at hj
    obtain ⟨u, hu, hr⟩ := h1.get j i el x hj hi
    have hil : i < sz := by rw [← hl j el hj]; exact (List.getElem?_eq_some_iff.1 hi).1
    have hb := bound _ hlt hil
    refine ⟨u, hcs _ u (by rw [Nat.add_mul]; omega) ?_, hr.closed (closedL_get (hc1 el (List.mem_of_getElem? hj)) i x hi)⟩
    rw [List.getElem?_append_left (by rw [h1.len]; exact hb)]
    exact hu
  · rw [List.getElem?_append_right hge] at hj
    obtain ⟨u, hu, hr⟩ := h2.get _ i el x hj hi
    have hil : i < sz := by rw [← hl2 _ el hj]; exact (List.getElem?_eq_some_iff.1 hi).1
    have hjl : j - els.length < els2.length := (List.getElem?_eq_some_iff.1 hj).1
    have hb := bound (els.length + els2.length) (by omega) hil
    refine ⟨u, hcs _ u hb ?_, hr.closed (closedL_get (hc2 el (List.mem_of_getElem? hj)) i x hi)⟩
    have e : j * sz = els.length * sz + (j - els.length) * sz := by rw [← Nat.add_mul]; congr 1; omega
    rw [List.getElem?_append_right (by rw [h1.len]; omega), ← hu]
    congr 1
    rw [h1.len]
    omega
theorem Step.appOw {t t2 e e2 sz bt : Nat} {agg : Bool} {z : List Value} [hs : TSl P t e] [TI P e sz bt agg z] [hs2 : TSl P t2 e2] {x y : Operand} {r n : Nat} {els els2 : List (List PC)} {p2 : PC} (hx : E.ev x = some (.c (.ow r sz n))) (ho : O.get r = some (.row sz els))
    (hy : E.ev y = some (.c p2)) (h2 : slC O sz p2 = some els2) (hn : n = els.length) (hz : z.length = sz) (hbig : (els.length + els2.length + 768) * bt ≤ 17592186044416) (hbig2 : els.length + els2.length ≤ 35184372088832) (hm : NoM r O) (hc1 : closedLL els) (hc2 : closedLL els2) :
    Step P E O ⟨d, .call ⟨.builtin .append, #[x, y], #[t, t2]⟩, ty, pos, af, g⟩ (some (.c (.ow r sz (els ++ els2).length))) (.app r (.row sz (els ++ els2))) := by
  intro N K ok w a next Q hsim hnext
  subst hn
  have hB : els.length + els2.length ≤ BIG := by simp only [BIG_eq]; omega
  have hv1 := (hsim.ev hx).one
  have hs1 := slC_rel hsim.hp hv1 (show slC O sz (.ow r sz els.length) = some els by simp [slC, ho])
  have hs2' := slC_rel hsim.hp (hsim.ev hy).one h2
  generalize hev : a.eval x = v at hv1 hs1
  generalize hev2 : a.eval y = v2 at hs2'
  have hlenA : ∀ (j : Nat) (el : List PC), (els ++ els2)[j]? = some el → el.length = sz := fun j el hj => by
    rcases Nat.lt_or_ge j els.length with hlt | hge
    · rw [List.getElem?_append_left hlt] at hj; exact hs1.len j el hj
    · rw [List.getElem?_append_right hge] at hj; exact hs2'.len _ el hj
  have hexec : (execOp a.eval ⟨d, .call ⟨.builtin .append, #[x, y], #[t, t2]⟩, ty, pos, af, g⟩).run P w = ((Builtin.append_ #[t, t2] ty #[v, v2]).run P w).andThen fun u w' => .ok (.value u) w' := by
    simp [execOp, resolve, invoke, builtin, hev, hev2]
  unfold Oper.wp
  rw [hexec]
  obtain ⟨A, c, hvA, hA⟩ := hs1.v
  by_cases hfit : els.length + els2.length ≤ c
  · -- in place
    obtain ⟨n0, hn0⟩ : ∃ n0, n0 = els.length := ⟨_, rfl⟩
    rw [← hn0] at hv1
    cases hv1 with
    | cl h => cases h
    | @owN _ _ A0 hk =>
      injection hvA with q1 q2 q3
      subst q1
      subst q3
      have he2 : els2 = [] := by cases els2 with | nil => rfl | cons _ _ => simp at hfit
      have he1 : els = [] := by cases els with | nil => rfl | cons _ _ => simp at hfit
      subst he2
      obtain ⟨us, hu, hfl⟩ := hs2'.first (P := P)
      obtain ⟨A2, c2, rfl, _⟩ := hs2'.v
      have hsz := run_sizeOf (P := P) (t := e) w
      have hus : us = [] := by have := hfl.len; simpa using this
      subst hus
      have hrun : (Builtin.append_ #[t, t2] ty #[.slice A0 0 0, .slice A2 ([] : List (List PC)).length c2]).run P w = .ok (.slice A0 0 0) w := by
        simp only [List.length_nil] at hu
        cases A0 with
        | none => simp [Builtin.append_, run_underlying' hs.u, run_underlying' hs2.u, hsz, Builtin.lenOf, hu]
        | some A0 => simp [Builtin.append_, run_underlying' hs.u, run_underlying' hs2.u, hsz, Builtin.lenOf, hu, storeCells]
      rw [hrun]
      have hsub : ∀ k o, (O.set r (.row sz (els ++ []))).get k = some o → O.get k = some o := fun k o h => by
        rw [Objs.get_set] at h
        split at h
        · rename_i hkk; subst hkk; cases h; rw [ho, he1]; rfl
        · exact h
      refine hnext _ K ok w ⟨fun q hq => ?_, ?_, ?_, fun _ _ => rfl⟩
      · cases hq
        rw [List.append_nil, he1]
        exact .o (.c (.owN hk))
      · exact hsim.hp.sub hsub
      · exact Fr.weak hsub
    | @ow _ _ _ b _ cs0 e0 fr0 hk hb0 hc0 hn00 =>
      subst hn0
      cases hvA
      rcases hsim.hp.obs r _ ho with ⟨a1, _⟩ | ⟨b', cs, el, fr, a1, a2, a3, a4, a5, a6, a7⟩
      · rw [hk] at a1; cases a1
      rw [hk] at a1
      cases a1
      rw [a2] at hb0
      obtain ⟨rfl, rfl, rfl⟩ : cs = cs0 ∧ el = e0 ∧ fr = fr0 := by cases hb0; exact ⟨rfl, rfl, rfl⟩
      obtain ⟨us, hfl, hrun⟩ := append_in (P := P) (t := t) (t2 := t2) (ty := ty) hs2' a2 a3 hc0 hfit
      rw [hrun]
      simp only [Result.andThen_ok]
      have hbound : els.length * sz + us.length ≤ cs.size := by
        rw [hfl.len, ← Nat.add_mul]
        exact Nat.le_trans (Nat.mul_le_mul_right _ hfit) hc0
      have hspl : ∀ q, (spliceA cs (els.length * sz) us)[q]? = if els.length * sz ≤ q ∧ q < els.length * sz + us.length then us[q - els.length * sz]? else cs[q]? := fun q => spliceA_get _ _ _ _ hbound
      have hkeep : ∀ c', ok c' → c' < w.heap.size → (setBlk w b (.cells (spliceA cs (els.length * sz) us) el fr)).heap[c']? = w.heap[c']? := fun c' hc' _ => by
        rw [setBlk_get, if_neg]
        rintro ⟨rfl, _⟩
        exact hsim.hp.apart r _ _ _ ho hk hc'
      have hu := upd_blockK (L1 := (els ++ els2).length) (ob' := .row sz (els ++ els2)) (cs' := spliceA cs (els.length * sz) us) hsim.hp hm ho hk a2 (spliceA_size _ _ _) (.inr ⟨b, spliceA cs (els.length * sz) us, el, fr, by simp, by rw [setBlk_get, if_pos ⟨rfl, heap_lt a2⟩], by rw [spliceA_size]; exact a3, by rw [List.length_append]; exact hB, by rw [spliceA_size, List.length_append]; exact Nat.le_trans (Nat.mul_le_mul_right _ hfit) hc0, hlenA, fun j i el' x' hj hi => ?_⟩)
      · refine hnext _ _ ok _ ⟨fun q hq => ?_, hu.1, hu.2, fun q hq => ?_⟩
        · cases hq
          rw [show els.length + els2.length = (els ++ els2).length by simp]
          exact .o (.c (.ow (b := b) (cs := spliceA cs (els.length * sz) us) (e := el) (fr := fr) (by simp) (by rw [setBlk_get, if_pos ⟨rfl, heap_lt a2⟩]) (by rw [spliceA_size]; exact hc0) (by rw [List.length_append]; exact hfit)))
        · exact K.put_ne _ fun e => hq (by rw [e]; rfl)
      · rcases Nat.lt_or_ge j els.length with hlt | hge
        · rw [List.getElem?_append_left hlt] at hj
          obtain ⟨u, hu', hr⟩ := a7 j i el' x' hj hi
          have hil : i < sz := by rw [← a6 j el' hj]; exact (List.getElem?_eq_some_iff.1 hi).1
          have hb : j * sz + i < els.length * sz := by
            have : (j + 1) * sz ≤ els.length * sz := Nat.mul_le_mul_right _ hlt
            rw [Nat.add_mul, Nat.one_mul] at this
            omega
          refine ⟨u, by rw [hspl, if_neg (by omega)]; exact hu', hr.mono (fun _ h => h) hkeep (by rw [setBlk_size]; exact Nat.le_refl _)⟩
        · rw [List.getElem?_append_right hge] at hj
          obtain ⟨u, hu', hr⟩ := hfl.get _ i el' x' hj hi
          have hjl : j - els.length < els2.length := (List.getElem?_eq_some_iff.1 hj).1
          have hil : i < sz := by rw [← hs2'.len _ el' hj]; exact (List.getElem?_eq_some_iff.1 hi).1
          have e1 : j * sz = els.length * sz + (j - els.length) * sz := by rw [← Nat.add_mul]; congr 1; omega
          have hb : (j - els.length) * sz + i < us.length := by
            rw [hfl.len]
            have : (j - els.length + 1) * sz ≤ els2.length * sz := Nat.mul_le_mul_right _ hjl
            rw [Nat.add_mul, Nat.one_mul] at this
            omega
          refine ⟨u, by rw [hspl, if_pos (by omega), ← hu']; congr 1; omega, (hr.closed (closedL_get (hc2 el' (List.mem_of_getElem? hj)) i x' hi)).mono (fun _ h => h) hkeep (by rw [setBlk_size]; exact Nat.le_refl _)⟩
  · -- a new block
    obtain ⟨us, us2, cap, rest, hf1, hf2, hcap, hrest, hrun⟩ := append_grow (P := P) (t := t) (t2 := t2) (ty := ty) hs1 hs2' hvA (by omega) hbig hB
    rw [hrun]
    simp only [Result.andThen_ok]
    have hsz : ((us.toArray ++ us2.toArray ++ rest : Array Value)).size = cap * sz := by
      simp [hf1.len, hf2.len, hrest, hz]
      rw [← Nat.add_mul, ← Nat.add_mul]
      congr 1; omega
    have mvF : ∀ {l : List (List PC)} {us : List Value}, Flat K ok w sz l us → Flat K ok w.drew sz l us := fun h => ⟨h.len, h.ones, fun j i el x hj hi => by
      obtain ⟨u, hu, hr⟩ := h.get j i el x hj hi
      exact ⟨u, hu, RelO.mono (w := w) (w' := w.drew) (fun _ h => h) (fun _ _ _ => rfl) (Nat.le_refl _) hr fun r _ => ⟨rfl, fun _ _ _ cs e fr hc => ⟨cs, e, fr, hc, rfl⟩⟩⟩⟩
    have hob : HOb (K.put r (some (w.drew.heap.size, (els ++ els2).length))) ok (w.drew.alloc (.cells (us.toArray ++ us2.toArray ++ rest) e)) r (.row sz (els ++ els2)) :=
      row_new (by rw [List.length_append]; exact hB) (by rw [hsz, List.length_append]; exact Nat.mul_le_mul_right _ hcap) hlenA (flat_join (mvF hf1) (mvF hf2) hc1 hc2 hs2'.len hs1.len fun q u hq hu => by
        have hl : q < (us ++ us2).length := (List.getElem?_eq_some_iff.1 hu).1
        rw [Array.getElem?_append_left (by simpa using hl)]
        simpa using hu)
    have hnb := new_block hsim.hp.drew hm (.cells (us.toArray ++ us2.toArray ++ rest) e) hob
    refine hnext _ _ ok _ ⟨fun q hq => ?_, hnb.1, ?_, fun q hq => ?_⟩
    · cases hq
      rw [show els.length + els2.length = (els ++ els2).length by simp]
      exact .o (.c (.ow (b := w.heap.size) (cs := us.toArray ++ us2.toArray ++ rest) (e := e) (fr := (0, 0)) (by simp) (alloc_new w.drew _) (by rw [hsz]; exact Nat.le_refl _) (by rw [List.length_append]; exact hcap)))
    · have h := hnb.2
      exact ⟨h.size, h.keep, h.okUp, h.okNew, h.own, h.os, h.tape, h.output, h.kind, h.pin, h.hid⟩
    · exact K.put_ne _ fun e => hq (by rw [e]; rfl)
end
end Go.Proofs.YtjpbijdpkdmeaaaGreat.Pv
namespace Go.Proofs.YtjpbijdpkdmeaaaGreat.Pv
open Go
def Env.evs (E : Env) : List Operand → Option (List A1)
  | [] => some []
  | x :: l => match E.ev x with
    | some (.o y) => (Env.evs E l).map (y :: ·)
    | _ => none
theorem evs_rel {N : Cx} {K : Km} {ok : Nat → Prop} {w : World} {E : Env} {O : Objs} {a : Act} (hs : Sim N K ok w E O a) : ∀ {xs : List Operand} {l : List A1}, E.evs xs = some l → RelAs K ok w l (xs.map a.eval)
  | [], l, h => by simp only [Env.evs, Option.some.injEq] at h; subst h; exact RelAs.nil
  | x :: xs, l, h => by
    simp only [Env.evs] at h
    split at h
    · rename_i y hy
      cases hl : Env.evs E xs with
      | none => rw [hl] at h; cases h
      | some l' =>
        rw [hl] at h
        simp only [Option.map_some, Option.some.injEq] at h
        subst h
        have := hs.ev hy
        cases this with | o h => exact RelAs.cons h (evs_rel hs hl)
    · cases h
theorem fold_splice (off : Nat) : ∀ (l : List Value) (n : Nat) (cs : Array Value), (l.zipIdx n).foldl (fun cs p => cs.setIfInBounds (off + p.2) p.1) cs = spliceA cs (off + n) l
  | [], _, _ => rfl
  | v :: l, n, cs => by
    rw [List.zipIdx_cons, List.foldl_cons, fold_splice off l (n + 1)]
    rfl
theorem fill_cons (place : Nat → Option (Nat × Nat)) (cells : Array Value) (i : Nat) (v : Value) (rest : List (Nat × Value)) (off sz : Nat) (h : place i = some (off, sz)) (hs : v.cells.size = sz) (hb : off + sz ≤ cells.size) :
    Instr.fill place cells ((i, v) :: rest) = Instr.fill place (spliceA cells off v.cells.toList) rest := by
  have h1 : ¬ (v.cells.size ≠ sz || off + v.cells.size > cells.size) = true := by simp [hs]; omega
  simp only [Instr.fill, h]
  rw [if_neg h1]
  congr 1
  rw [← Array.foldl_toList, Array.toList_zipIdx]
  have := fold_splice off v.cells.toList 0 cells
  rw [Nat.add_zero] at this
  exact this
def fillP (place : Nat → Option (Nat × Nat)) (cells : List PC) : List (Nat × A1) → Option (List PC)
  | [] => some cells
  | (i, y) :: rest => match place i with
    | some (off, sz) => bif Nat.beq y.cells.length sz && Nat.ble (off + sz) cells.length then fillP place (spl cells off y.cells) rest else none
    | none => none
theorem fillP_rel {K : Km} {ok : Nat → Prop} {w : World} (place : Nat → Option (Nat × Nat)) : ∀ (ps : List (Nat × A1)) (vs : List (Nat × Value)) (cells r : List PC) (cs : Array Value), RelCs K ok w cells cs.toList → ps.map (·.1) = vs.map (·.1) → RelAs K ok w (ps.map (·.2)) (vs.map (·.2)) →
    fillP place cells ps = some r → ∃ rs, Instr.fill place cs vs = some rs ∧ RelCs K ok w r rs.toList
  | [], [], cells, r, cs, h, _, _, hr => by simp only [fillP, Option.some.injEq] at hr; subst hr; exact ⟨cs, rfl, h⟩
  | [], _ :: _, _, _, _, _, h, _, _ => by simp at h
  | _ :: _, [], _, _, _, _, h, _, _ => by simp at h
  | (i, y) :: ps, (i', v) :: vs, cells, r, cs, h, hi, hv, hr => by
    simp only [List.map_cons, List.cons.injEq] at hi
    obtain ⟨rfl, hi⟩ := hi
    obtain ⟨v', us, e, hy, hv'⟩ := hv.head
    simp only [List.map_cons, List.cons.injEq] at e
    obtain ⟨rfl, rfl⟩ := e
    simp only [fillP] at hr
    split at hr
    · rename_i off sz hp
      cases hb : (Nat.beq y.cells.length sz && Nat.ble (off + sz) cells.length) with
      | false => rw [hb] at hr; cases hr
      | true =>
        rw [hb] at hr
        simp only [Bool.and_eq_true] at hb
        have e1 := Nat.eq_of_beq_eq_true hb.1
        have e2 := Nat.le_of_ble_eq_true hb.2
        have hyc := hy.cells
        have hvl : v.cells.size = sz := by have := hyc.len; simp at this; omega
        have hcl : cs.size = cells.length := by have := h.len; simpa using this
        rw [fill_cons place cs i v vs off sz hp hvl (by omega)]
        refine fillP_rel place ps vs _ r _ ?_ hi hv' hr
        rw [spliceA_list cs off _ (by simp [hvl]; omega)]
        exact h.spl hyc off
    · cases hr
theorem fill_ext {p1 p2 : Nat → Option (Nat × Nat)} (h : ∀ i, p1 i = p2 i) (cs : Array Value) (l : List (Nat × Value)) : Instr.fill p1 cs l = Instr.fill p2 cs l := by
  have : p1 = p2 := funext h
  rw [this]
def allSome {α : Type} : List (Option α) → Option (List α)
  | [] => some []
  | some x :: l => (allSome l).map (x :: ·)
  | none :: _ => none
theorem allSome_spec {α : Type} : ∀ {l : List (Option α)} {r : List α}, allSome l = some r → l = r.map some
  | [], r, h => by simp only [allSome, Option.some.injEq] at h; subst h; rfl
  | none :: l, r, h => by simp [allSome] at h
  | some x :: l, r, h => by
    simp only [allSome, Option.map_eq_some_iff] at h
    obtain ⟨r', h1, rfl⟩ := h
    rw [List.map_cons, ← allSome_spec h1]
def placesOf (P : Program) (t : TypeId) : Option (List (Nat × Nat)) :=
  match P.underlying t with
  | some (.struct fs) => allSome (fs.toList.map (fun f => (P.info? f.type).map fun i => (f.offset, i.size)))
  | _ => none
class TPl (P : Program) (t : TypeId) (pl : outParam (List (Nat × Nat))) : Prop where
  u : placesOf P t = some pl
theorem TPl.ex {P : Program} {t : TypeId} {pl : List (Nat × Nat)} (h : TPl P t pl) : ∃ fs, P.underlying t = some (.struct fs) ∧ fs.toList.map (fun f => (P.info? f.type).map fun i => (f.offset, i.size)) = pl.map some := by
  have h := h.u
  unfold placesOf at h
  split at h
  · rename_i fs hu; exact ⟨fs, hu, allSome_spec h⟩
  · cases h
section
variable {P : Program} {E : Env} {O : Objs} {d : Option Tmp} {ty : TypeId} {pos : String} {af : Array Edge} {g : Option (Nat × Bool)}
theorem places_run {fs : List Field} : ∀ {pl : List (Nat × Nat)}, fs.map (fun f => (P.info? f.type).map fun i => (f.offset, i.size)) = pl.map some → ∀ (w : World) , (fs.mapM (fun f => do pure (f.offset, ← sizeOf f.type)) : Sem (List (Nat × Nat))).run P w = .ok pl w := by
  induction fs with
  | nil => intro pl h w; cases pl with | nil => simp | cons _ _ => simp at h
  | cons f fs ih =>
    intro pl h w
    cases pl with
    | nil => simp at h
    | cons p pl =>
      simp only [List.map_cons, List.cons.injEq] at h
      cases hi : P.info? f.type with
      | none => rw [hi] at h; simp at h
      | some i =>
        rw [hi] at h
        simp only [Option.map_some, Option.some.injEq] at h
        have := ih h.2 w
        simp only [List.mapM_cons, Sem.run_bind, Go.sizeOf, typeInfo, run_program, Result.andThen_ok, hi, Sem.run_pure]
        simp only [Go.sizeOf, typeInfo] at this
        rw [this]
        simp [h.1]
theorem Step.build {t sz bt : Nat} {z : List Value} {pl : List (Nat × Nat)} [TI P t sz bt true z] [hpl : TPl P t pl] {parts : Array (Nat × Operand)} {l : List A1} {r : List PC} (hz : scAll z = true) (he : E.evs (parts.toList.map (·.2)) = some l)
    (hf : fillP (pl[·]?) (scsOf z) ((parts.toList.map (·.1)).zip l) = some r) : Step P E O ⟨d, .build t parts, ty, pos, af, g⟩ (some (.ag r)) .no :=
  .val fun _ K ok w a hs => by
    obtain ⟨fs, hu, hp⟩ := hpl.ex
    obtain ⟨zv, h1, h2⟩ := run_zeroValue (P := P) (t := t) w
    have hrel := evs_rel hs he
    have hll : l.length = parts.toList.length := by have := hrel.len; simp at this; simpa using this.symm
    have hm : (fs.mapM (fun f => do pure (f.offset, ← sizeOf f.type)) : Sem (Array (Nat × Nat))).run P w = .ok pl.toArray w := by
      have := places_run (P := P) hp w
      rw [Array.mapM_eq_mapM_toList]
      simp at this ⊢
      rw [this]
      rfl
    obtain ⟨rs, hr1, hr2⟩ := fillP_rel (K := K) (ok := ok) (w := w) (pl[·]?) ((parts.toList.map (·.1)).zip l) ((parts.map fun p => (p.1, a.eval p.2)).toList) (scsOf z) r z.toArray (by simpa using scs_rel hz)
      (by rw [List.map_fst_zip (by simp [hll])]; simp [Function.comp_def]) (by rw [List.map_snd_zip (by simp [hll])]; simpa [Function.comp_def] using hrel) hf
    refine ⟨.agg rs, ?_, .o (.ag hr2)⟩
    have hr1' : Instr.fill (pl.toArray[·]?) z.toArray (parts.map fun p => (p.1, a.eval p.2)).toList = some rs := by rw [← hr1]; exact fill_ext (fun i => by simp) _ _
    simp only [execOp, Instr.build, Sem.run_bind, h1, Result.andThen_ok, run_underlying' hu, hm, h2, hr1', Sem.run_pure]
theorem fill_slice {K : Km} {ok : Nat → Prop} {w : World} (sz : Nat) : ∀ (vs : List (Nat × Value)) (l : List A1) (m : Nat) (cs : Array Value), vs.map (·.1) = List.range' m l.length → RelAs K ok w l (vs.map (·.2)) → (∀ y, y ∈ l → y.cells.length = sz) → (m + l.length) * sz ≤ cs.size →
    ∃ rs, Instr.fill (fun i => some (i * sz, sz)) cs vs = some rs ∧ rs.size = cs.size ∧ (∀ q, q < m * sz → rs[q]? = cs[q]?) ∧
      ∀ (j i : Nat) (y : A1) (x : PC), l[j]? = some y → y.cells[i]? = some x → ∃ u, rs[(m + j) * sz + i]? = some u ∧ RelO K ok w x u
  | [], [], m, cs, _, _, _, _ => ⟨cs, rfl, rfl, fun _ _ => rfl, fun j i y x h => by simp at h⟩
  | [], _ :: _, _, _, h, _, _, _ => by simp [List.range'_succ] at h
  | _ :: _, [], _, _, h, _, _, _ => by simp at h
  | (i0, v) :: vs, y :: l, m, cs, h, hr, hl, hb => by
    simp only [List.map_cons, List.length_cons, List.range'_succ, List.cons.injEq] at h
    obtain ⟨rfl, h⟩ := h
    obtain ⟨v', us, e, hy, hr'⟩ := hr.head
    simp only [List.map_cons, List.cons.injEq] at e
    obtain ⟨rfl, rfl⟩ := e
    have hyc := hy.cells
    have hyl := hl y (by simp)
    have hvl : v.cells.size = sz := by have := hyc.len; simp at this; omega
    have hb' : (i0 + 1) * sz ≤ cs.size := Nat.le_trans (Nat.mul_le_mul_right _ (by simp)) hb
    have hb1 := hb'
    rw [Nat.add_mul, Nat.one_mul] at hb1
    rw [fill_cons _ cs i0 v vs (i0 * sz) sz rfl hvl hb1]
    obtain ⟨rs, r1, r2, r3, r4⟩ := fill_slice sz vs l (i0 + 1) (spliceA cs (i0 * sz) v.cells.toList) h hr' (fun y hy => hl y (by simp [hy])) (by rw [spliceA_size]; simp only [List.length_cons] at hb; rw [show i0 + 1 + l.length = i0 + (l.length + 1) by omega]; exact hb)
    have hspl : ∀ q, (spliceA cs (i0 * sz) v.cells.toList)[q]? = if i0 * sz ≤ q ∧ q < i0 * sz + sz then v.cells.toList[q - i0 * sz]? else cs[q]? := fun q => by
      rw [spliceA_get _ _ _ _ (by simp [hvl]; omega)]; simp only [Array.length_toList, hvl]
    refine ⟨rs, r1, by rw [r2, spliceA_size], fun q hq => ?_, fun j i y' x hj hi => ?_⟩
    · rw [r3 q (by rw [Nat.add_mul]; omega), hspl, if_neg (by omega)]
    · cases j with
      | zero =>
        simp only [List.getElem?_cons_zero, Option.some.injEq] at hj
        subst hj
        obtain ⟨u, hu, hru⟩ := hyc.get i x hi
        have hil : i < sz := by rw [← hyl]; exact (List.getElem?_eq_some_iff.1 hi).1
        refine ⟨u, ?_, hru⟩
        rw [Nat.add_zero, r3 _ (by rw [Nat.add_mul]; omega), hspl, if_pos (by omega), ← hu]
        congr 1; omega
      | succ j =>
        obtain ⟨u, hu, hru⟩ := r4 j i y' x (by simpa using hj) hi
        exact ⟨u, by rw [show i0 + (j + 1) = i0 + 1 + j by omega]; exact hu, hru⟩
theorem Step.buildSlice {t e sz bt len : Nat} {agg : Bool} {z : List Value} [hs : TSl P t e] [TI P e sz bt agg z] {k : Nat} {parts : Array (Nat × Operand)} {l : List A1} (he : E.evs (parts.toList.map (·.2)) = some l)
    (hi : parts.toList.map (·.1) = List.range' 0 l.length) (hln : l.length = len) (hz : z.length = sz) (hl : ∀ y, y ∈ l → y.cells.length = sz) (hc : ∀ y, y ∈ l → closedL y.cells = true) (hb : len * sz ≤ 16777216) (hb2 : len ≤ 16777216) (hm : NoM k O) :
    Step P E O ⟨some k, .buildSlice t len parts, ty, pos, af, g⟩ (some (.c (.ow k sz (l.map A1.cells).length))) (.new k (.row sz (l.map A1.cells))) :=
  .new hm fun _ K ok w a hsim => by
    subst hln
    have hsz := run_sizeOf (P := P) (t := e) w
    obtain ⟨zv, hz1, hz2⟩ := run_zeroValue (P := P) (t := e) w
    have hrel := evs_rel hsim he
    let cs0 : Array Value := (Array.range (l.length * sz)).map (fun q => (if l.length * sz = 0 then (#[] : Array Value) else z.toArray)[q % (if l.length * sz = 0 then (#[] : Array Value) else z.toArray).size]!)
    have hcs0 : cs0.size = l.length * sz := by simp [cs0]
    obtain ⟨rs, r1, r2, r3, r4⟩ := fill_slice (K := K) (ok := ok) (w := w) sz ((parts.map fun p => (p.1, a.eval p.2)).toList) l 0 cs0 (by rw [← hi]; simp [Function.comp_def]) (by simpa [Function.comp_def] using hrel) hl (by rw [Nat.zero_add, hcs0]; exact Nat.le_refl _)
    have hno : ¬ (16777216 < l.length * sz) := by omega
    refine ⟨.slice (some ⟨w.heap.size, 0, none⟩) l.length l.length, rs, e, (l.map A1.cells).length, ?_, row_new (els := l.map A1.cells) (by simp [BIG_eq]; omega) (by simp [r2, hcs0]) (fun j el hj => ?_) (fun j i el x hj hi' => ?_), ?_⟩
    · have hrun : (Instr.buildSlice t l.length (parts.map fun p => (p.1, a.eval p.2))).run P w = .ok (.slice (some ⟨w.heap.size, 0, none⟩) l.length l.length) (w.alloc (.cells rs e)) := by
        by_cases hzero : l.length * sz = 0
        · have r1' := r1
          simp only [cs0, hzero, if_true] at r1'
          simp only [Instr.buildSlice, Sem.run_bind, run_underlying' hs.u, Result.andThen_ok, hsz]
          simp [hzero] at r1' ⊢
          rw [r1']
          simp [newRow]
        · have r1' := r1
          simp only [cs0, if_neg hzero] at r1'
          simp only [Instr.buildSlice, Sem.run_bind, run_underlying' hs.u, Result.andThen_ok, hsz]
          simp [hzero, hno, hz1, hz2] at r1' ⊢
          rw [r1']
          simp [newRow]
      simp only [execOp, Sem.run_bind, hrun, Result.andThen_ok, Sem.run_pure]
    · simp only [List.getElem?_map, Option.map_eq_some_iff] at hj
      obtain ⟨y, hy, rfl⟩ := hj
      exact hl y (List.mem_of_getElem? hy)
    · simp only [List.getElem?_map, Option.map_eq_some_iff] at hj
      obtain ⟨y, hy, rfl⟩ := hj
      obtain ⟨u, hu, hr⟩ := r4 j i y x hy hi'
      rw [Nat.zero_add] at hu
      exact ⟨u, hu, hr.closed (closedL_get (hc y (List.mem_of_getElem? hy)) i x hi')⟩
    · rw [List.length_map]
      exact .o (.c (.ow (b := w.heap.size) (cs := rs) (e := e) (fr := (0, 0)) (if_pos rfl) (alloc_new _ _) (by rw [r2, hcs0]; exact Nat.le_refl _) (Nat.le_refl _)))
def bndV (E : Env) : Option Operand → Option (Option Int)
  | none => some none
  | some x => match E.ev x with
    | some (.c (.sc (.int _ n))) => some (some n)
    | _ => none
theorem bounds_run {N : Cx} {K : Km} {ok : Nat → Prop} {w : World} {a : Act} (hs : Sim N K ok w E O a) {isS : Bool} {len cap : Nat} {lo hi : Option Operand} {l h : Option Int} {l' h' : Nat} (hl : bndV E lo = some l) (hh : bndV E hi = some h) (el : l.getD 0 = l') (eh : h.getD len = h')
    (h1 : l' ≤ h') (h2 : h' ≤ cap) : (Instr.sliceBounds isS len cap (lo.map a.eval) (hi.map a.eval) none).run P w = .ok (l', h', cap) w := by
  have key : ∀ {x : Operand} {n : Int}, bndV E (some x) = some (some n) → ∃ k, a.eval x = .int k n := by
    intro x n hx
    simp only [bndV] at hx
    split at hx
    · rename_i k n' he
      cases hx
      exact ⟨k, (hs.ev he).sc.1⟩
    · cases hx
  cases lo with
  | none =>
    simp only [bndV, Option.some.injEq] at hl
    subst hl
    obtain rfl : l' = 0 := by simp only [Option.getD_none] at el; omega
    cases hi with
    | none =>
      simp only [bndV, Option.some.injEq] at hh
      subst hh
      simp only [Option.getD_none] at eh
      obtain rfl : len = h' := by omega
      simp [Instr.sliceBounds]
    | some y =>
      cases h with
      | none => simp only [bndV] at hh; split at hh <;> cases hh
      | some n =>
        obtain ⟨k, hk⟩ := key hh
        simp only [Option.getD_some] at eh
        subst eh
        simp [Instr.sliceBounds, hk, Instr.sliceBound, asIntOf, h2]
  | some x =>
    cases l with
    | none => simp only [bndV] at hl; split at hl <;> cases hl
    | some n =>
      obtain ⟨k, hk⟩ := key hl
      simp only [Option.getD_some] at el
      subst el
      cases hi with
      | none =>
        simp only [bndV, Option.some.injEq] at hh
        subst hh
        simp only [Option.getD_none] at eh
        obtain rfl : len = h' := by omega
        simp [Instr.sliceBounds, hk, Instr.sliceBound, asIntOf, h1]
      | some y =>
        cases h with
        | none => simp only [bndV] at hh; split at hh <;> cases hh
        | some n' =>
          obtain ⟨k', hk'⟩ := key hh
          simp only [Option.getD_some] at eh
          subst eh
          simp [Instr.sliceBounds, hk, hk', Instr.sliceBound, asIntOf, h1, h2]
theorem Step.sliceSl {t e sz bt : Nat} {agg : Bool} {z : List Value} [hsl : TSl P t e] [TI P e sz bt agg z] {x : Operand} {lo hi : Option Operand} {l h : Option Int} {l' h' : Nat} {els : List (List PC)} (hx : E.ev x = some (.c (.sl sz els))) (hl : bndV E lo = some l) (hh : bndV E hi = some h)
    (el : l.getD 0 = l') (eh : h.getD els.length = h') (h1 : l' ≤ h') (h2 : h' ≤ els.length) : Step P E O ⟨d, .slice t x lo hi none, ty, pos, af, g⟩ (some (.c (.sl sz ((els.drop l').take (h' - l'))))) .no :=
  .val fun N K ok w a hs => by
    have hr := (hs.ev hx).one
    have hsz := run_sizeOf (P := P) (t := e) w
    generalize hev : a.eval x = v at hr
    cases hr with
    | cl hr =>
      have hlen : ((els.drop l').take (h' - l')).length = h' - l' := by simp; omega
      cases hr with
      | @sl0 _ A c =>
        have : h' = 0 := by simpa using h2
        subst this
        have : l' = 0 := by omega
        subst this
        have hb := bounds_run (P := P) (isS := true) (cap := c) hs hl hh el eh (Nat.le_refl _) (Nat.zero_le _)
        refine ⟨.slice (if c = 0 then A else A.map (·.add (0 * sz))) 0 c, ?_, .o (.c (.cl ?_))⟩
        · simp only [List.length_nil] at hb
          simp [execOp, hev, Instr.sliceAt, run_underlying' hsl.u, Instr.slice, hb, hsz]
        · simp only [List.drop_nil, List.take_nil]; exact .sl0
      | @sl _ _ b o c gg hc hB ho hlt hsz' hcell hrr =>
        have hb := bounds_run (P := P) (isS := true) (cap := c) hs hl hh el eh h1 (Nat.le_trans h2 hc)
        refine ⟨.slice (some (if c = l' then ⟨b, o, none⟩ else ⟨b, o + l' * sz, none⟩)) (h' - l') (c - l'), ?_, .o (.c (.cl ?_))⟩
        · simp [execOp, hev, Instr.sliceAt, run_underlying' hsl.u, Instr.slice, hb, hsz, Addr.add_lit]
          by_cases hcl : c = l' <;> simp [hcl]
        · by_cases hcl : c = l'
          · have e0 : h' - l' = 0 := by omega
            rw [if_pos hcl, e0, List.take_zero]
            exact .sl0
          · rw [if_neg hcl]
            have hget : ∀ (j : Nat) (el : List PC), ((els.drop l').take (h' - l'))[j]? = some el → els[l' + j]? = some el := fun j el hj => by
              rw [List.getElem?_take] at hj
              split at hj
              · rwa [List.getElem?_drop] at hj
              · cases hj
            have := Rel.sl (ok := ok) (w := w) (sz := sz) (els := (els.drop l').take (h' - l')) (b := b) (o := o + l' * sz) (c := c - l') (fun j i => gg (l' + j) i) (by rw [hlen]; omega) (by rw [hlen]; omega) ho hlt (fun j el hj => hsz' _ el (hget j el hj))
              (fun j i el x hj hi => by have := hcell (l' + j) i el x (hget j el hj) hi; rw [← this]; congr 2; rw [Nat.add_mul]; omega) (fun j i el x hj hi => hrr _ i el x (hget j el hj) hi)
            rwa [hlen] at this
theorem Step.sliceOw {t e sz bt : Nat} {agg : Bool} {z : List Value} [hsl : TSl P t e] [TI P e sz bt agg z] {x : Operand} {lo hi : Option Operand} {l h : Option Int} {l' h' r n : Nat} (hx : E.ev x = some (.c (.ow r sz n))) (hl : bndV E lo = some l) (hh : bndV E hi = some h)
    (el : l.getD 0 = l') (eh : h.getD n = h') (h1 : l' ≤ h') (h2 : h' ≤ n) (h3 : 0 < n) : Step P E O ⟨d, .slice t x lo hi none, ty, pos, af, g⟩ (some (.c (bif Nat.beq l' h' then .sl sz [] else .os r sz l' (h' - l')))) .no :=
  .val fun N K ok w a hs => by
    have hr := (hs.ev hx).one
    have hsz := run_sizeOf (P := P) (t := e) w
    generalize hev : a.eval x = v at hr
    cases hr with
    | cl hr => cases hr
    | owN hk => omega
    | @ow _ _ _ b c cs e0 fr hk hb hc hn =>
      have hbd := bounds_run (P := P) (isS := true) (cap := c) hs hl hh el eh h1 (Nat.le_trans h2 hn)
      refine ⟨.slice (some (if c = l' then ⟨b, 0, none⟩ else ⟨b, l' * sz, none⟩)) (h' - l') (c - l'), ?_, .o (.c ?_)⟩
      · simp [execOp, hev, Instr.sliceAt, run_underlying' hsl.u, Instr.slice, hbd, hsz, Addr.add_lit]
        by_cases hcl : c = l' <;> simp [hcl]
      · cases hbb : Nat.beq l' h' with
        | true =>
          have e0 : h' - l' = 0 := by have := Nat.eq_of_beq_eq_true hbb; omega
          rw [e0, cond_true]
          exact .cl .sl0
        | false =>
          have : l' ≠ h' := fun e => by subst e; rw [Nat.beq_refl] at hbb; cases hbb
          rw [if_neg (by omega), cond_false]
          exact .os hk hb (by rw [show l' + (c - l') = c by omega]; exact hc) (by omega) (by omega)
theorem Step.sliceOs {t e sz bt : Nat} {agg : Bool} {z : List Value} [hsl : TSl P t e] [TI P e sz bt agg z] {x : Operand} {lo hi : Option Operand} {l h : Option Int} {l' h' r n lo0 : Nat} (hx : E.ev x = some (.c (.os r sz lo0 n))) (hl : bndV E lo = some l) (hh : bndV E hi = some h)
    (el : l.getD 0 = l') (eh : h.getD n = h') (h1 : l' ≤ h') (h2 : h' ≤ n) : Step P E O ⟨d, .slice t x lo hi none, ty, pos, af, g⟩ (some (.c (bif Nat.beq l' h' then .sl sz [] else .os r sz (lo0 + l') (h' - l')))) .no :=
  .val fun N K ok w a hs => by
    have hr := (hs.ev hx).one
    have hsz := run_sizeOf (P := P) (t := e) w
    generalize hev : a.eval x = v at hr
    cases hr with
    | cl hr => cases hr
    | @os _ _ _ _ L b c cs e0 fr hk hb hc hn hL =>
      have hbd := bounds_run (P := P) (isS := true) (cap := c) hs hl hh el eh h1 (Nat.le_trans h2 hn)
      refine ⟨.slice (some (if c = l' then ⟨b, lo0 * sz, none⟩ else ⟨b, lo0 * sz + l' * sz, none⟩)) (h' - l') (c - l'), ?_, .o (.c ?_)⟩
      · simp [execOp, hev, Instr.sliceAt, run_underlying' hsl.u, Instr.slice, hbd, hsz, Addr.add_lit]
        by_cases hcl : c = l' <;> simp [hcl]
      · cases hbb : Nat.beq l' h' with
        | true =>
          have e0 : h' - l' = 0 := by have := Nat.eq_of_beq_eq_true hbb; omega
          rw [e0, cond_true]
          exact .cl .sl0
        | false =>
          have : l' ≠ h' := fun e => by subst e; rw [Nat.beq_refl] at hbb; cases hbb
          rw [if_neg (by omega), cond_false, ← Nat.add_mul]
          exact .os hk hb (by rw [show lo0 + l' + (c - l') = lo0 + c by omega]; exact hc) (by omega) (by omega)
theorem Step.sliceStr {t : TypeId} (ht : P.underlying t = some .string) {x : Operand} {lo hi : Option Operand} {l h : Option Int} {l' h' : Nat} {s : ByteArray} (hx : E.ev x = some (.c (.sc (.string s)))) (hl : bndV E lo = some l) (hh : bndV E hi = some h)
    (el : l.getD 0 = l') (eh : h.getD s.size = h') (h1 : l' ≤ h') (h2 : h' ≤ s.size) : Step P E O ⟨d, .slice t x lo hi none, ty, pos, af, g⟩ (some (.c (.sc (.string (s.extract l' h'))))) .no :=
  .val fun N K ok w a hs => by
    obtain ⟨e1, e2⟩ := (hs.ev hx).sc
    have hb := bounds_run (P := P) (isS := false) (cap := s.size) hs hl hh el eh h1 h2
    refine ⟨.string (s.extract l' h'), by simp [execOp, e1, Instr.sliceAt, run_underlying' ht, Instr.slice, hb], .ofSc ?_⟩
    simp only [scOk] at e2 ⊢
    simp [ByteArray.size_extract]
    omega
theorem Step.indexStr {t : TypeId} (ht : P.underlying t = some .string) {x y : Operand} {s : ByteArray} {k : IntKind} {i : Int} {b : UInt8} (hx : E.ev x = some (.c (.sc (.string s)))) (hy : E.ev y = some (.c (.sc (.int k i)))) (h0 : 0 ≤ i) (h1 : s.data[i.toNat]? = some b) :
    Step P E O ⟨d, .index t x y, ty, pos, af, g⟩ (some (.c (.sc (.int .u8 b.toNat)))) .no :=
  .val fun N K ok w a hs => by
    have e1 := (hs.ev hx).sc.1
    have e2 := (hs.ev hy).sc.1
    have hb : s[i.toNat]? = some b := h1
    refine ⟨.int .u8 b.toNat, by simp [execOp, e1, e2, Instr.index, asIntOf, run_underlying' ht, h0, hb], .ofSc ?_⟩
    have := b.toNat_lt
    simp only [scOk, inR]; omega
theorem Step.strOp {op : BinOp} {t t' : TypeId} {x y : Operand} {p q : ByteArray} {r : Value} (hx : E.ev x = some (.c (.sc (.string p)))) (hy : E.ev y = some (.c (.sc (.string q)))) (h : ∀ w, (Op.stringOp op p q).run P w = .ok r w) (hr : scOk r) :
    Step P E O ⟨d, .binOp op t x y t', ty, pos, af, g⟩ (some (.c (.sc r))) .no :=
  .val fun _ K ok w a hs => by
    have e1 := (hs.ev hx).sc.1
    have e2 := (hs.ev hy).sc.1
    refine ⟨r, ?_, .ofSc hr⟩
    have hg : (eqGuard op t x y (.string p) (.string q)).run P w = .ok () w := by
      unfold eqGuard
      cases op <;> rfl
    have hb : (binOp op t (.string p) (.string q)).run P w = .ok r w := by
      have : binOp op t (.string p) (.string q) = Op.stringOp op p q := by cases op <;> rfl
      rw [this]; exact h w
    simp [execOp, e1, e2, hg, hb]
theorem Step.strEq {t t' : TypeId} {x y : Operand} {p q : ByteArray} (hx : E.ev x = some (.c (.sc (.string p)))) (hy : E.ev y = some (.c (.sc (.string q)))) : Step P E O ⟨d, .binOp .eql t x y t', ty, pos, af, g⟩ (some (.c (.sc (.bool (p.toList == q.toList))))) .no :=
  .strOp hx hy (fun _ => rfl) trivial
theorem Step.strNe {t t' : TypeId} {x y : Operand} {p q : ByteArray} (hx : E.ev x = some (.c (.sc (.string p)))) (hy : E.ev y = some (.c (.sc (.string q)))) : Step P E O ⟨d, .binOp .neq t x y t', ty, pos, af, g⟩ (some (.c (.sc (.bool (!(p.toList == q.toList)))))) .no :=
  .strOp hx hy (fun _ => rfl) trivial
theorem Step.strAdd {t t' : TypeId} {x y : Operand} {p q : ByteArray} (hx : E.ev x = some (.c (.sc (.string p)))) (hy : E.ev y = some (.c (.sc (.string q)))) (hb : p.size + q.size ≤ 140737488355328) : Step P E O ⟨d, .binOp .add t x y t', ty, pos, af, g⟩ (some (.c (.sc (.string (p ++ q))))) .no :=
  .strOp hx hy (fun w => by
    have h1 : ¬ ((IntKind.i64.max : Int) < ((p.size + q.size : Nat) : Int)) := by
      have : IntKind.i64.max = 9223372036854775807 := by decide
      rw [this]; omega
    have h2 : ¬ (((p.size + q.size : Nat) : Int) > IntKind.i64.max) := h1
    show (if ((p.size + q.size : Nat) : Int) > IntKind.i64.max then unsupported (.resourceLimit "string concatenation: a sum of the lengths that is no int") else pure (.string (p ++ q)) : Sem Value).run P w = _
    rw [if_neg h2]; rfl) (by simp only [scOk, BIG_eq, ByteArray.size_append]; exact hb)
theorem Step.field {s f off n : Nat} {ft : TypeId} {sz bt : Nat} {agg : Bool} {z : List Value} [hf : TFld P s f off ft n] [TI P ft sz bt agg z] {x : Operand} {l : List PC} {y : A1} (hx : E.ev x = some (.o (.ag l))) (hl : off + sz ≤ l.length) (hy : mkA agg ((l.drop off).take sz) = some y) :
    Step P E O ⟨d, .field s x f, ty, pos, af, g⟩ (some (.o y)) .no :=
  .val fun _ K ok w a hs => by
    have hr := hs.ev hx
    generalize hev : a.eval x = v at hr
    have hagg := run_isAgg (P := P) (t := ft) w
    have hsz := run_sizeOf (P := P) (t := ft) w
    cases hr with
    | o hr =>
      cases hr with
      | @ag _ cs hr =>
        have hu := hf.u
        unfold fieldInfo at hu
        split at hu
        · rename_i fs hus
          cases hfd : fs[f]? with
          | none => rw [hfd] at hu; cases hu
          | some fd =>
            rw [hfd] at hu
            simp only [Option.bind_some] at hu
            cases hi : P.info? fd.type with
            | none => rw [hi] at hu; cases hu
            | some i =>
              rw [hi] at hu
              simp only [Option.map_some, Option.some.injEq, Prod.mk.injEq] at hu
              obtain ⟨h1, h2, h3⟩ := hu
              subst h2
              subst h1
              have hrel := (hr.drop fd.offset).take sz
              cases agg with
              | true =>
                simp only [mkA, Option.some.injEq] at hy
                subst hy
                refine ⟨.agg (cs.extract fd.offset (fd.offset + sz)), by simp [execOp, hev, Instr.field, run_underlying' hus, hfd, part, hagg, asAgg, hsz], .o (.ag ?_)⟩
                have : (cs.extract fd.offset (fd.offset + sz)).toList = (cs.toList.drop fd.offset).take sz := by simp
                rw [this]; exact hrel
              | false =>
                cases hd : (l.drop fd.offset).take sz with
                | nil => rw [hd] at hy; cases hy
                | cons c l' =>
                  rw [hd] at hy hrel
                  cases l' with
                  | cons _ _ => cases hy
                  | nil =>
                    simp only [mkA, Option.some.injEq] at hy
                    subst hy
                    obtain ⟨u, hu, hru⟩ := hrel.get 0 c rfl
                    have hu' : cs[fd.offset]? = some u := by
                      rw [List.getElem?_take] at hu
                      split at hu
                      · rw [List.getElem?_drop] at hu; simpa using hu
                      · cases hu
                    exact ⟨u, by simp [execOp, hev, Instr.field, run_underlying' hus, hfd, part, hagg, asAgg, hu'], .o (.c hru)⟩
        · cases hu
theorem Step.max2 {t : TypeId} {ts : Array TypeId} {x y : Operand} {k : IntKind} {m n : Int} (hx : E.ev x = some (.c (.sc (.int k m)))) (hy : E.ev y = some (.c (.sc (.int k n)))) : Step P E O ⟨d, .call ⟨.builtin .max, #[x, y], ts⟩, t, pos, af, g⟩ (some (.c (.sc (.int k (if n > m then n else m))))) .no :=
  .val fun _ K ok w a hs => by
    have e1 := (hs.ev hx).sc
    have e2 := (hs.ev hy).sc
    exact ⟨.int k (if n > m then n else m), by simp [execOp, resolve, invoke, builtin, Builtin.max_, e1.1, e2.1, Builtin.max2], .ofSc (by simp only [scOk]; split <;> first | exact e2.2 | exact e1.2)⟩
theorem Step.min2 {t : TypeId} {ts : Array TypeId} {x y : Operand} {k : IntKind} {m n : Int} (hx : E.ev x = some (.c (.sc (.int k m)))) (hy : E.ev y = some (.c (.sc (.int k n)))) : Step P E O ⟨d, .call ⟨.builtin .min, #[x, y], ts⟩, t, pos, af, g⟩ (some (.c (.sc (.int k (if n < m then n else m))))) .no :=
  .val fun _ K ok w a hs => by
    have e1 := (hs.ev hx).sc
    have e2 := (hs.ev hy).sc
    exact ⟨.int k (if n < m then n else m), by simp [execOp, resolve, invoke, builtin, Builtin.min_, e1.1, e2.1, Builtin.min2], .ofSc (by simp only [scOk]; split <;> first | exact e2.2 | exact e1.2)⟩
end
end Go.Proofs.YtjpbijdpkdmeaaaGreat.Pv
