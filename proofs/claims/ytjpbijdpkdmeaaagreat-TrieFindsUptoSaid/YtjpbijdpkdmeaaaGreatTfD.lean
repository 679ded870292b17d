/- Parts of a proof, joined: PvI PvJ PvK. -/
import Derived.Test.YtjpbijdpkdmeaaaGreatTfC
namespace Go.Proofs.YtjpbijdpkdmeaaaGreat.Pv
open Go
def retV : List A1 → AV
  | [x] => .o x
  | l => .tup l
def callable (P : Program) (f : FuncId) : Bool := (P.funcs[f]?).any fun fn => fn.body.isSome && !(fn.name == "runtime.NumGoroutine")
theorem exec_call {P : Program} {f : FuncId} (hc : callable P f = true) (vs : Array Value) (w : World) : (callFunc f vs).run P w = .ok (.enter f vs) w := by
  unfold callable at hc
  cases hf : P.funcs[f]? with
  | none => rw [hf] at hc; cases hc
  | some fn =>
    rw [hf] at hc
    simp only [Option.any_some, Bool.and_eq_true, Bool.not_eq_true'] at hc
    have hb : fn.body ≠ none := by intro h; rw [h] at hc; cases hc.1
    have hne : fn.name ≠ "runtime.NumGoroutine" := by simpa using hc.2
    simp [callFunc, hf, hne, hb]
def CallR (P : Program) (f : FuncId) (vs : Array Value) (w : World) (Q : Ending → World → Prop) : Prop :=
  (callable P f = true ∧ Calls P f vs w Q) ∨ ∃ v w', (callFunc f vs).run P w = .ok (.value v) w' ∧ Q (.returned v) w'
theorem CallR.mono {P : Program} {f : FuncId} {vs : Array Value} {w : World} {Q Q' : Ending → World → Prop} (h : CallR P f vs w Q) (hq : ∀ e w', Q e w' → Q' e w') : CallR P f vs w Q' := by
  rcases h with ⟨h1, h2⟩ | ⟨v, w', h1, h2⟩
  · exact .inl ⟨h1, h2.mono hq⟩
  · exact .inr ⟨v, w', h1, hq _ _ h2⟩
theorem CallR.oper {P : Program} {f : FuncId} {vs : Array Value} {w : World} {o : Oper} {a : Act} {next : Act → World → Prop} {Q : Exit → Act → World → Prop} (he : (execOp a.eval o).run P w = (callFunc f vs).run P w)
    (h : CallR P f vs w fun e w' => ∃ v, e = .returned v ∧ next (a.put o.dst v) w') : o.wp P a w next Q := by
  unfold Oper.wp
  rw [he]
  rcases h with ⟨h1, h2⟩ | ⟨v, w', h1, v', h2, h3⟩
  · rw [exec_call h1]
    refine h2.mono fun e w' h => ?_
    obtain ⟨v, rfl, h⟩ := h
    exact h
  · cases h2
    rw [h1]
    exact h3
structure CtO (P : Program) (f : FuncId) (O : Objs) (args : List A1) (O' : Objs) (res : List A1) : Prop where
  run : ∀ K ok w vs, Hp K ok w O → RelAs K ok w args vs → CallR P f vs.toArray w fun e w' => ∃ v K' ok', e = .returned v ∧ RelV K' ok' w' (retV res) v ∧ Hp K' ok' w' O' ∧ Fr K ok w O K' ok' w' O'
abbrev Ct (P : Program) (f : FuncId) (args res : List A1) : Prop := CtO P f [] args [] res
def A1.closed : A1 → Bool
  | .c x => x.closed
  | .ag l => closedL l
def closedAs : List A1 → Bool
  | [] => true
  | x :: l => x.closed && closedAs l
theorem RelO.reK {K K' : Km} {ok : Nat → Prop} {w : World} {x : PC} {v : Value} (h : RelO K ok w x v) (hc : x.closed = true) : RelO K' ok w x v := .cl (h.closed hc)
theorem RelA.reK {K K' : Km} {ok : Nat → Prop} {w : World} {x : A1} {v : Value} (h : RelA K ok w x v) (hc : x.closed = true) : RelA K' ok w x v := by
  cases h with
  | c h => exact .c (h.reK hc)
  | ag h => exact .ag ⟨h.len, fun i x hx => by
      obtain ⟨u, hu, hr⟩ := h.get i x hx
      exact ⟨u, hu, hr.reK (closedL_get hc i x hx)⟩⟩
theorem closedAs_get : ∀ {l : List A1}, closedAs l = true → ∀ (i : Nat) (x : A1), l[i]? = some x → x.closed = true
  | [], _, i, x, hx => by simp at hx
  | y :: l, h, i, x, hx => by
    simp only [closedAs, Bool.and_eq_true] at h
    cases i with
    | zero => simp at hx; exact hx ▸ h.1
    | succ i => simp at hx; exact closedAs_get h.2 i x hx
theorem RelAs.reK {K K' : Km} {ok : Nat → Prop} {w : World} {l : List A1} {vs : List Value} (h : RelAs K ok w l vs) (hc : closedAs l = true) : RelAs K' ok w l vs :=
  ⟨h.len, fun i x hx => by
    obtain ⟨u, hu, hr⟩ := h.get i x hx
    exact ⟨u, hu, hr.reK (closedAs_get hc i x hx)⟩⟩
theorem RelV.reK {K K' : Km} {ok : Nat → Prop} {w : World} {l : List A1} {v : Value} (h : RelV K ok w (retV l) v) (hc : closedAs l = true) : RelV K' ok w (retV l) v := by
  cases l with
  | nil => cases h with | tup h => exact .tup (RelAs.reK h rfl)
  | cons x l => cases l with
    | nil => cases h with | o h => exact .o (RelA.reK h (by simpa [closedAs] using hc))
    | cons y l => cases h with | tup h => exact .tup (RelAs.reK h hc)
def Km.bare (K : Km) : Km := ⟨K.at_, fun _ => False⟩
theorem Hp.nil {K : Km} {ok : Nat → Prop} {w : World} (h : ∀ b, ok b → b < w.heap.size) : Hp K.bare ok w [] :=
  ⟨fun k o h => by simp [Objs.get] at h, fun k k' o o' b L L' h => by simp [Objs.get] at h, fun k o b L h => by simp [Objs.get] at h, h, fun _ h => h.elim, fun _ h => h.elim, fun k o b L h => by simp [Objs.get] at h⟩
theorem RelO.bare {K : Km} {ok : Nat → Prop} {w : World} {x : PC} {v : Value} (h : RelO K ok w x v) : RelO K.bare ok w x v :=
  h.mono (fun _ h => h) (fun _ _ _ => rfl) (Nat.le_refl _) fun r _ => ⟨rfl, fun _ _ _ cs e fr hc => ⟨cs, e, fr, hc, rfl⟩⟩
theorem RelAs.bare {K : Km} {ok : Nat → Prop} {w : World} {l : List A1} {vs : List Value} (h : RelAs K ok w l vs) : RelAs K.bare ok w l vs :=
  h.mono (fun _ h => h) (fun _ _ _ => rfl) (Nat.le_refl _) fun r _ => ⟨rfl, fun _ _ _ cs e fr hc => ⟨cs, e, fr, hc, rfl⟩⟩
theorem Hp.over {K : Km} {ok ok' : Nat → Prop} {w w' : World} {O : Objs} (hp : Hp K ok w O) (hs : w.heap.size ≤ w'.heap.size) (hb : ∀ b, b < w.heap.size → w'.heap[b]? = w.heap[b]?) (hu : ∀ b, ok b → ok' b) (hn : ∀ b, ok' b → ok b ∨ w.heap.size ≤ b) (hl : ∀ b, ok' b → b < w'.heap.size)
    (ho : w'.os = w.os ∧ w'.tape = w.tape ∧ w'.output = w.output) : Hp K ok' w' O := by
  refine ⟨fun k o h => (hp.obs k o h).mono hu (fun b hb' hlt => hb b hlt) hs rfl (fun b L hK => hb b (own_lt hp h hK)) (fun J _ => ⟨rfl, fun b hb' => hb b (hp.hlt b hb'), ho.1, ho.2.1, ho.2.2, CSh.same hb⟩) (fun r _ => ⟨rfl, fun b _ _ cs e fr hc => ⟨cs, e, fr, (hb b (heap_lt hc)).trans hc, rfl⟩⟩), hp.inj, fun k o b L h hK hok => ?_, hl,
    fun b h => Nat.lt_of_lt_of_le (hp.hlt b h) hs, fun b h hok => ?_, hp.how⟩
  · rcases hn b hok with h1 | h1
    · exact hp.apart k o b L h hK h1
    · have := own_lt hp h hK; omega
  · rcases hn b hok with h1 | h1
    · exact hp.hok b h h1
    · have := hp.hlt b h; omega
section
variable {P : Program} {E : Env} {O : Objs} {d : Option Tmp} {ty : TypeId} {pos : String} {af : Array Edge} {g : Option (Nat × Bool)}
theorem SP.ofCall {K K' : Km} {ok ok' : Nat → Prop} {w w' : World} {v : Value} {res : List A1} (hp : Hp K ok w O) (hr : RelV K' ok' w' (retV res) v) (hcl : closedAs res = true) (hp' : Hp K' ok' w' []) (hf : Fr K.bare ok w [] K' ok' w' []) : SP K ok w O (some (retV res)) .no v K ok' w' := by
  have hkeep : ∀ b, b < w.heap.size → w'.heap[b]? = w.heap[b]? := fun b hb => hf.keep b hb (fun k o L h => by simp [Objs.get] at h) fun h => h
  have hnew : ∀ b, ok' b → ok b ∨ w.heap.size ≤ b := fun b hb => by
    rcases hf.okNew b hb with h | h | ⟨k, o, L, h, _⟩
    · exact .inl h
    · exact .inr h
    · simp [Objs.get] at h
  refine ⟨fun x hx => by cases hx; exact hr.reK hcl, hp.over hf.size hkeep hf.okUp hnew hp'.lt ⟨hf.os, hf.tape, hf.output⟩, ⟨hf.size, fun b hb _ _ => hkeep b hb, hf.okUp, fun b hb => (hnew b hb).imp_right .inl, fun k o b L h1 h2 => .inr ⟨k, o, L, h1, h2⟩, hf.os, hf.tape, hf.output, hf.kind, fun _ _ => rfl, fun _ h => .inl h⟩, fun _ _ => rfl⟩
theorem Step.call {f : FuncId} {args : Array Operand} {ts : Array TypeId} {l res : List A1} (hx : E.evs args.toList = some l) (hct : Ct P f l res) (hcl : closedAs res = true) :
    Step P E O ⟨d, .call ⟨.value (.func f), args, ts⟩, ty, pos, af, g⟩ (some (retV res)) .no := by
  intro N K ok w a next Q hs hn
  have hrel := evs_rel hs hx
  have hrun := hct.run K.bare ok w _ (Hp.nil hs.hp.lt) hrel.bare
  have he : (execOp a.eval ⟨d, .call ⟨.value (.func f), args, ts⟩, ty, pos, af, g⟩).run P w = (callFunc f (args.toList.map a.eval).toArray).run P w := by
    have : (args.toList.map a.eval).toArray = args.map a.eval := by apply Array.ext' ; simp
    rw [this]
    simp [execOp, resolve, Act.eval, Deferred.ofValue, invoke]
  refine CallR.oper he (hrun.mono fun e w' h => ?_)
  obtain ⟨v, K', ok', rfl, hr, hp', hf⟩ := h
  exact ⟨v, rfl, hn v K ok' w' (SP.ofCall hs.hp hr hcl hp' hf)⟩
theorem RelAs.app {K : Km} {ok : Nat → Prop} {w : World} {l m : List A1} {u v : List Value} (h1 : RelAs K ok w l u) (h2 : RelAs K ok w m v) : RelAs K ok w (l ++ m) (u ++ v) :=
  ⟨by rw [List.length_append, List.length_append, h1.len, h2.len], fun i x hx => by
    rcases Nat.lt_or_ge i l.length with hi | hi
    · rw [List.getElem?_append_left hi] at hx
      rw [List.getElem?_append_left (by rw [h1.len]; exact hi)]
      exact h1.get i x hx
    · rw [List.getElem?_append_right hi] at hx
      rw [List.getElem?_append_right (by rw [h1.len]; exact hi), h1.len]
      exact h2.get _ x hx⟩
theorem RelAs.fnA {K : Km} {ok : Nat → Prop} {w : World} {l m : List A1} {u v : List Value} (f : Nat) (h1 : RelAs K ok w l u) (h2 : RelAs K ok w m v) : RelAs K ok w (Pv.fnA f l m) (Pv.fnA f u v) := by
  unfold Pv.fnA
  cases Nat.blt f 1000000 with
  | true => exact h1.app h2
  | false => exact h2.app h1
theorem Step.callV {f : FuncId} {t : Tmp} {caps : List PC} {args : Array Operand} {ts : Array TypeId} {l res : List A1} (hf : E.get t = some (.c (.fn f caps))) (hx : E.evs args.toList = some l) (hct : Ct P (fnF f) (fnA f l (caps.map .c)) res) (hcl : closedAs res = true) :
    Step P E O ⟨d, .call ⟨.value (.tmp t), args, ts⟩, ty, pos, af, g⟩ (some (retV res)) .no := by
  intro N K ok w a next Q hs hn
  have hrel := evs_rel hs hx
  have hfv := (hs.ev (x := .tmp t) hf).one
  generalize hev : a.eval (.tmp t) = v at hfv
  have key : ∃ vcs : List Value, v = .func (.func (fnF f)) (fnL f vcs) (fnR f vcs) ∧ RelAs K ok w (caps.map .c) vcs := by
    cases hfv with
    | cl h =>
      cases h with
      | fn gg hg =>
        refine ⟨_, rfl, ⟨by simp, fun i x hx => ?_⟩⟩
        simp only [List.getElem?_map, Option.map_eq_some_iff] at hx
        obtain ⟨y, hy, rfl⟩ := hx
        have hlt : i < caps.length := (List.getElem?_eq_some_iff.1 hy).1
        exact ⟨gg i, by simp [hlt], .c (.cl (hg i y hy))⟩
    | fn gg hg =>
      refine ⟨_, rfl, ⟨by simp, fun i x hx => ?_⟩⟩
      simp only [List.getElem?_map, Option.map_eq_some_iff] at hx
      obtain ⟨y, hy, rfl⟩ := hx
      have hlt : i < caps.length := (List.getElem?_eq_some_iff.1 hy).1
      exact ⟨gg i, by simp [hlt], .c (hg i y hy)⟩
  obtain ⟨vcs, rfl, hcr⟩ := key
  have hrel2 := hrel.fnA f hcr
  have hrun := hct.run K.bare ok w _ (Hp.nil hs.hp.lt) hrel2.bare
  have he : (execOp a.eval ⟨d, .call ⟨.value (.tmp t), args, ts⟩, ty, pos, af, g⟩).run P w = (callFunc (fnF f) (fnA f (args.toList.map a.eval) vcs).toArray).run P w := by
    rw [← fnA_arr]
    have : (args.toList.map a.eval).toArray = args.map a.eval := by apply Array.ext' ; simp
    rw [this]
    simp [execOp, resolve, hev, Deferred.ofValue, invoke]
  refine CallR.oper he (hrun.mono fun e w' h => ?_)
  obtain ⟨v, K', ok', rfl, hr, hp', hf⟩ := h
  exact ⟨v, rfl, hn v K ok' w' (SP.ofCall hs.hp hr hcl hp' hf)⟩
abbrev viewA (O : Objs) : A1 → A1 := A1.map (viewP O)
def okAll (K : Km) (ok : Nat → Prop) (O : Objs) : Nat → Prop := fun b => ok b ∨ ∃ k o L, O.get k = some o ∧ K k = some (b, L)
theorem viewP_rel {K : Km} {ok : Nat → Prop} {w : World} (hp : Hp K ok w O) {x : PC} {v : Value} (h : RelO K ok w x v) : RelO K (okAll K ok O) w (viewP O x) v := by
  have hmono : ∀ {y : PC} {u : Value}, RelO K ok w y u → RelO K (okAll K ok O) w y u := fun h => h.mono (fun _ h => .inl h) (fun _ _ _ => rfl) (Nat.le_refl _) fun r _ => Shp.refl _ _ _
  cases h with
  | cl h => cases h <;> exact hmono (.cl (by first | exact .sc (by assumption) | exact .sl0 | exact .sl _ (by assumption) (by assumption) (by assumption) (by assumption) (by assumption) (by assumption) (by assumption) | exact .rd _ (by assumption) (by assumption) (by assumption) (by assumption) | exact .fn _ (by assumption) | exact .dead (by assumption) | exact .cb (by assumption)))
  | @ow r sz n b c cs e fr hk hb hc hn =>
    have h0 : RelO K ok w (.ow r sz n) (.slice (some ⟨b, 0, none⟩) n c) := .ow hk hb hc hn
    simp only [viewP]
    split
    · rename_i sz' els ho
      cases hbb : Nat.beq sz sz' with
      | false => exact hmono h0
      | true =>
        have e' := Nat.eq_of_beq_eq_true hbb
        subst e'
        have hs := slC_rel hp h0 (show slC O sz (.ow r sz n) = some els by simp [slC, ho])
        obtain ⟨A, c', hv, hA⟩ := hs.v
        rcases hp.obs r _ ho with ⟨a1, _⟩ | ⟨b', cs', e', fr', a1, a2, a3, a4, a5, a6, a7⟩
        · rw [hk] at a1; cases a1
        · rw [hk] at a1
          cases a1
          by_cases he : els = []
          · subst he; exact .cl .sl0
          · refine .cl (.sl (fun j i => cs'[j * sz + i]?.getD undef) hn a4 (.inr ⟨r, _, _, ho, hk⟩) (heap_lt a2) a6 (fun j i el x hj hi => ?_) fun j i el x hj hi => ?_)
            · obtain ⟨u, hu, hr⟩ := a7 j i el x hj hi
              rw [Nat.zero_add, cell?_of a2 hu, hu]; rfl
            · obtain ⟨u, hu, hr⟩ := a7 j i el x hj hi
              rw [hu]; exact hr.mono (fun _ h => .inl h) (fun _ _ _ => rfl) (Nat.le_refl _)
    · exact hmono h0
  | @owN r sz A hk =>
    have h0 : RelO K ok w (.ow r sz 0) (.slice A 0 0) := .owN hk
    simp only [viewP]
    split
    · rename_i sz' els ho
      cases hbb : Nat.beq sz sz' with
      | false => exact hmono h0
      | true =>
        rcases hp.obs r _ ho with ⟨_, rfl⟩ | ⟨b', cs', e', fr', a1, _⟩
        · exact .cl .sl0
        · rw [hk] at a1; cases a1
    · exact hmono h0
  | @os r sz lo n L b c cs e fr hk hb hc hn hl =>
    have h0 : RelO K ok w (.os r sz lo n) (.slice (some ⟨b, lo * sz, none⟩) n c) := .os hk hb hc hn hl
    simp only [viewP]
    split
    · rename_i sz' els ho
      cases hbb : Nat.beq sz sz' with
      | false => exact hmono h0
      | true =>
        have e' := Nat.eq_of_beq_eq_true hbb
        subst e'
        rcases hp.obs r _ ho with ⟨a1, _⟩ | ⟨b', cs', e', fr', a1, a2, a3, a4, a5, a6, a7⟩
        · rw [hk] at a1; cases a1
        · rw [hk] at a1
          cases a1
          have hlen : ((els.drop lo).take n).length = n := by simp; omega
          have hget : ∀ (j : Nat) (el : List PC), ((els.drop lo).take n)[j]? = some el → els[lo + j]? = some el := fun j el hj => by
            rw [List.getElem?_take] at hj
            split at hj
            · rwa [List.getElem?_drop] at hj
            · cases hj
          have := Rel.sl (ok := okAll K ok O) (w := w) (sz := sz) (els := (els.drop lo).take n) (b := b) (o := lo * sz) (c := c) (fun j i => cs'[(lo + j) * sz + i]?.getD undef) (by rw [hlen]; exact hn) (by rw [hlen]; omega) (.inr ⟨r, _, _, ho, hk⟩) (heap_lt a2) (fun j el hj => a6 _ el (hget j el hj))
            (fun j i el x hj hi => by
              obtain ⟨u, hu, hr⟩ := a7 (lo + j) i el x (hget j el hj) hi
              rw [← Nat.add_assoc, ← Nat.add_mul, cell?_of a2 hu, hu]; rfl)
            (fun j i el x hj hi => by
              obtain ⟨u, hu, hr⟩ := a7 (lo + j) i el x (hget j el hj) hi
              rw [hu]; exact hr.mono (fun _ h => .inl h) (fun _ _ _ => rfl) (Nat.le_refl _))
          rw [hlen] at this
          exact .cl this
    · exact hmono h0
  | @ad k off b L hk =>
    have h0 : RelO K ok w (.ad k off) (.pointer (some ⟨b, off, none⟩)) := .ad hk
    simp only [viewP]
    split
    · rename_i cells ho
      cases hcl : closedL cells with
      | false => exact hmono h0
      | true =>
        obtain ⟨b', cs, e, fr, a1, a2, a3, a4⟩ := hp.obs k _ ho
        rw [hk] at a1
        cases a1
        refine .cl (.rd (fun i => cs[off + i]?.getD undef) (.inr ⟨k, _, _, ho, hk⟩) (heap_lt a2) (fun i x hi => ?_) fun i x hi => ?_)
        · rw [List.getElem?_drop] at hi
          obtain ⟨u, hu, hr⟩ := a4.get _ x hi
          have hu' : cs[off + i]? = some u := by simpa using hu
          rw [cell?_of a2 hu', hu']; rfl
        · rw [List.getElem?_drop] at hi
          obtain ⟨u, hu, hr⟩ := a4.get _ x hi
          have hu' : cs[off + i]? = some u := by simpa using hu
          rw [hu']; exact (hr.closed (closedL_get hcl _ x hi)).mono (fun _ h => .inl h) (fun _ _ _ => rfl) (Nat.le_refl _)
    · exact hmono h0
  | ea hk => exact hmono (.ea hk)
  | fn gg hg => exact hmono (.fn gg hg)
  | mp hk => exact hmono (.mp hk)
  | dead h => exact .dead h
theorem viewAs_rel {K : Km} {ok : Nat → Prop} {w : World} (hp : Hp K ok w O) {l : List A1} {vs : List Value} (h : RelAs K ok w l vs) : RelAs K (okAll K ok O) w (l.map (viewA O)) vs :=
  ⟨by simp [h.len], fun i x hx => by
    simp only [List.getElem?_map, Option.map_eq_some_iff] at hx
    obtain ⟨y, hy, rfl⟩ := hx
    obtain ⟨u, hu, hr⟩ := h.get i y hy
    refine ⟨u, hu, ?_⟩
    cases hr with
    | c hr => exact .c (viewP_rel hp hr)
    | ag hr => exact .ag ⟨by simp [hr.len], fun j z hz => by
        simp only [List.getElem?_map, Option.map_eq_some_iff] at hz
        obtain ⟨z', hz', rfl⟩ := hz
        obtain ⟨u', hu', hr'⟩ := hr.get j z' hz'
        exact ⟨u', hu', viewP_rel hp hr'⟩⟩⟩
def isScP : PC → Bool
  | .sc _ => true
  | _ => false
def isSc : A1 → Bool
  | .c x => isScP x
  | .ag l => l.all isScP
theorem RelO.ofSc {K K' : Km} {ok ok' : Nat → Prop} {w w' : World} {x : PC} {v : Value} (h : RelO K ok w x v) (hx : isScP x = true) : RelO K' ok' w' x v := by
  cases h with
  | cl h => cases h with
    | sc h => exact .cl (.sc h)
    | _ => cases hx
  | _ => cases hx
theorem RelA.ofSc {K K' : Km} {ok ok' : Nat → Prop} {w w' : World} {x : A1} {v : Value} (h : RelA K ok w x v) (hx : isSc x = true) : RelA K' ok' w' x v := by
  cases h with
  | ag h => exact .ag ⟨h.len, fun i y hy => by
      obtain ⟨u, hu, hr⟩ := h.get i y hy
      exact ⟨u, hu, hr.ofSc (List.all_eq_true.1 hx y (List.mem_of_getElem? hy))⟩⟩
  | c h => exact .c (h.ofSc hx)
theorem RelAs.ofSc {K K' : Km} {ok ok' : Nat → Prop} {w w' : World} {l : List A1} {vs : List Value} (h : RelAs K ok w l vs) (hx : l.all isSc = true) : RelAs K' ok' w' l vs :=
  ⟨h.len, fun i x hi => by
    obtain ⟨u, hu, hr⟩ := h.get i x hi
    exact ⟨u, hu, hr.ofSc (List.all_eq_true.1 hx x (List.mem_of_getElem? hi))⟩⟩
theorem RelV.ofScs {K K' : Km} {ok ok' : Nat → Prop} {w w' : World} {l : List A1} {v : Value} (h : RelV K ok w (retV l) v) (hc : l.all isSc = true) : RelV K' ok' w' (retV l) v := by
  cases l with
  | nil => cases h with | tup h => exact .tup (RelAs.ofSc h rfl)
  | cons x l => cases l with
    | nil => cases h with | o h => exact .o (RelA.ofSc h (by simpa using hc))
    | cons y l => cases h with | tup h => exact .tup (RelAs.ofSc h hc)
theorem Step.callS_core {N : Cx} {K : Km} {ok : Nat → Prop} {w : World} {a : Act} {next : Act → World → Prop} {Q : Exit → Act → World → Prop} {o : Oper} (hs : Sim N K ok w E O a) {f : FuncId} {vs : List Value} {l' res : List A1} (hrel : RelAs K (okAll K ok O) w l' vs) (hct : Ct P f l' res) (hcl : res.all isSc = true)
    (he : (execOp a.eval o).run P w = (callFunc f vs.toArray).run P w) (hn : ∀ v K' ok' w', SP K ok w O (some (retV res)) .no v K' ok' w' → next (a.put o.dst v) w') : o.wp P a w next Q := by
  have hlt : ∀ b, okAll K ok O b → b < w.heap.size := fun b hb => by
    rcases hb with hb | ⟨k, o, L, h1, h2⟩
    · exact hs.hp.lt b hb
    · exact own_lt hs.hp h1 h2
  have hrun := hct.run K.bare (okAll K ok O) w _ (Hp.nil hlt) hrel.bare
  refine CallR.oper he (hrun.mono fun e w' h => ?_)
  obtain ⟨v, K', ok', rfl, hr, hp', hf⟩ := h
  have hkeep : ∀ b, b < w.heap.size → w'.heap[b]? = w.heap[b]? := fun b hb => hf.keep b hb (fun k o L h => by simp [Objs.get] at h) fun h => h
  refine ⟨v, rfl, ?_⟩
  exact hn v K ok w' ⟨fun x hx => by cases hx; exact hr.ofScs hcl, hs.hp.over hf.size hkeep (fun _ h => h) (fun _ h => .inl h) (fun b hb => Nat.lt_of_lt_of_le (hs.hp.lt b hb) hf.size) ⟨hf.os, hf.tape, hf.output⟩,
    ⟨hf.size, fun b hb _ _ => hkeep b hb, fun _ h => h, fun _ h => .inl h, fun k o b L h1 h2 => .inr ⟨k, o, L, h1, h2⟩, hf.os, hf.tape, hf.output, hf.kind, fun _ _ => rfl, fun _ h => .inl h⟩, fun _ _ => rfl⟩
theorem Step.callS {f : FuncId} {args : Array Operand} {ts : Array TypeId} {l l' res : List A1} (hx : E.evs args.toList = some l) (hv : l.map (viewA O) = l') (hct : Ct P f l' res) (hcl : res.all isSc = true) :
    Step P E O ⟨d, .call ⟨.value (.func f), args, ts⟩, ty, pos, af, g⟩ (some (retV res)) .no := by
  intro N K ok w a next Q hs hn
  subst hv
  have he : (execOp a.eval ⟨d, .call ⟨.value (.func f), args, ts⟩, ty, pos, af, g⟩).run P w = (callFunc f (args.toList.map a.eval).toArray).run P w := by
    have : (args.toList.map a.eval).toArray = args.map a.eval := by apply Array.ext' ; simp
    rw [this]
    simp [execOp, resolve, Act.eval, Deferred.ofValue, invoke]
  exact Step.callS_core hs (viewAs_rel hs.hp (evs_rel hs hx)) hct hcl he hn
end
def guardV (E : Env) (ops : List Oper) : Option (Nat × Bool) → Option Bool
  | none => some true
  | some (j, want) => match (ops[j]?).bind (·.dst) with
    | some d => match E.get d with
      | some (.c (.sc (.bool b))) => some (b == want)
      | some (.tup []) => some false
      | _ => none
    | none => none
def dstOk (N : Nx) : Option Tmp → Bool
  | none => true
  | some d => Nat.blt d N.n && !(memB d N.fz)
theorem dstOk_spec {N : Nx} {d : Option Tmp} (h : dstOk N d = true) : ∀ t, d = some t → t < N.n ∧ t ∉ N.fz := by
  rintro t rfl
  simp only [dstOk, Bool.and_eq_true, Bool.not_eq_true'] at h
  exact ⟨Nat.lt_of_lt_of_le (Nat.lt_succ_self _) (Nat.le_of_ble_eq_true h.1), memB_spec h.2⟩
section
variable {P : Program} {N : Cx} {E : Env} {O : Objs} {ops rest : List Oper} {o : Oper}
theorem guard_wanted {K : Km} {ok : Nat → Prop} {w : World} {a : Act} (hs : Sim N K ok w E O a) {g : Bool} (hg : guardV E ops o.guard = some g) : Region.wanted o (yielded ops.toArray a.tmps) = g := by
  unfold guardV at hg
  unfold Region.wanted
  split at hg
  · rename_i h; rw [h]; simpa using hg
  · rename_i j want h
    rw [h]
    simp only
    split at hg
    · rename_i d hd
      split at hg
      · rename_i b hb
        obtain ⟨v, hv, hr⟩ := hs.env d _ hb
        have e := hr.sc.1
        subst e
        have : yielded ops.toArray a.tmps j = some b := by
          simp [yielded, hd, hv]
        rw [this]
        simpa using hg
      · rename_i hb
        obtain ⟨v, hv, hr⟩ := hs.env d _ hb
        cases hr with
        | tup hr =>
          have : yielded ops.toArray a.tmps j = none := by
            simp [yielded, hd, hv]
          rw [this]
          simpa using hg
      · cases hg
    · cases hg
abbrev skipV : Option AV := some (.tup [])
theorem SP.skip {K : Km} {ok : Nat → Prop} {w : World} (hp : Hp K ok w O) : SP K ok w O skipV .no undef K ok w := ⟨(fun _ h => by cases h; exact .tup RelAs.nil), hp, Fr.refl _ _ _ _, fun _ _ => rfl⟩
end
section
variable {P : Program} {N : Nx} {E : Env} {O : Objs}
def leP (x y : PC) : Prop := x = y ∨ (x = .sc (.slice none 0 0) ∧ ∃ sz, y = .sl sz []) ∨ y = .dead
def leL : List PC → List PC → Prop
  | [], [] => True
  | x :: l, y :: m => leP x y ∧ leL l m
  | _, _ => False
def leA : A1 → A1 → Prop
  | .c x, .c y => leP x y
  | .ag l, .ag m => leL l m
  | _, _ => False
def leAs : List A1 → List A1 → Prop
  | [], [] => True
  | x :: l, y :: m => leA x y ∧ leAs l m
  | _, _ => False
theorem leL.refl : ∀ l : List PC, leL l l
  | [] => trivial
  | _ :: l => ⟨.inl rfl, leL.refl l⟩
theorem leA.refl : ∀ x : A1, leA x x
  | .c _ => .inl rfl
  | .ag l => leL.refl l
theorem leAs.refl : ∀ l : List A1, leAs l l
  | [] => trivial
  | x :: l => ⟨leA.refl x, leAs.refl l⟩
theorem leP.rel {K : Km} {ok : Nat → Prop} {w : World} {x y : PC} {v : Value} (h : leP x y) (hr : RelO K ok w x v) : RelO K ok w y v := by
  rcases h with rfl | ⟨rfl, sz, rfl⟩ | rfl
  · exact hr
  · cases hr with | cl h => cases h with | sc h => exact .cl .sl0
  · exact .dead hr.one
theorem leL.rel {K : Km} {ok : Nat → Prop} {w : World} : ∀ {l m : List PC} {vs : List Value}, leL l m → RelCs K ok w l vs → RelCs K ok w m vs
  | [], [], _, _, h => h
  | x :: l, y :: m, vs, hl, h => by
    cases vs with
    | nil => have := h.len; simp at this
    | cons v vs =>
      have h1 : RelO K ok w x v := by obtain ⟨u, hu, hr⟩ := h.get 0 x rfl; simp at hu; subst hu; exact hr
      have h2 : RelCs K ok w l vs := ⟨by have := h.len; simpa using this, fun i z hz => by
        obtain ⟨u, hu, hr⟩ := h.get (i + 1) z (by simpa using hz)
        exact ⟨u, by simpa using hu, hr⟩⟩
      exact RelCs.cons (hl.1.rel h1) (leL.rel hl.2 h2)
  | [], _ :: _, _, h, _ => h.elim
  | _ :: _, [], _, h, _ => h.elim
theorem leA.rel {K : Km} {ok : Nat → Prop} {w : World} {x y : A1} {v : Value} (h : leA x y) (hr : RelA K ok w x v) : RelA K ok w y v := by
  cases hr with
  | c hr => cases y with
    | c y => exact .c (leP.rel h hr)
    | ag m => exact h.elim
  | ag hr => cases y with
    | c y => exact h.elim
    | ag m => exact .ag (leL.rel h hr)
theorem leAs.rel {K : Km} {ok : Nat → Prop} {w : World} : ∀ {l m : List A1} {vs : List Value}, leAs l m → RelAs K ok w l vs → RelAs K ok w m vs
  | [], [], _, _, h => h
  | x :: l, y :: m, vs, hl, h => by
    obtain ⟨v, us, rfl, h1, h2⟩ := h.head
    exact RelAs.cons (leA.rel hl.1 h1) (leAs.rel hl.2 h2)
  | [], _ :: _, _, h, _ => h.elim
  | _ :: _, [], _, h, _ => h.elim
theorem leAs.relV {K : Km} {ok : Nat → Prop} {w : World} : ∀ {l m : List A1} {v : Value}, leAs l m → RelV K ok w (retV l) v → RelV K ok w (retV m) v
  | [], [], _, _, hr => hr
  | [x], [y], _, h, hr => by
    cases hr with
    | o h2 => exact .o (leA.rel h.1 h2)
  | x :: x' :: l, y :: y' :: m, v, h, hr => by
    have key : ∀ (z : AV), z = .tup (x :: x' :: l) → RelV K ok w z v → RelV K ok w (.tup (y :: y' :: m)) v := by
      intro z hz h2
      cases h2 with
      | o _ => cases hz
      | tup h3 => cases hz; exact .tup (leAs.rel h h3)
    exact key _ rfl hr
  | [_], _ :: _ :: _, _, h, _ => h.2.elim
  | _ :: _ :: _, [_], _, h, _ => h.2.elim
  | [], _ :: _, _, h, _ => h.elim
  | _ :: _, [], _, h, _ => h.elim
theorem CtO.le {f : FuncId} {O O' : Objs} {args args' res res' : List A1} (h : CtO P f O args' O' res) (ha : leAs args args') (hr : leAs res res') : CtO P f O args O' res' :=
  ⟨fun K ok w vs hp hrel => (h.run K ok w vs hp (ha.rel hrel)).mono fun e w' ⟨v, K', ok', h1, h2, h3⟩ => ⟨v, K', ok', h1, hr.relV h2, h3⟩⟩
def envA : Nat → List A1 → Env
  | _, [] => []
  | i, x :: l => .s i (some (.o x)) :: envA (i + 1) l
theorem envA_get : ∀ (l : List A1) (i t : Nat) (av : AV), (envA i l).get t = some av → ∃ j x, t = i + j ∧ l[j]? = some x ∧ av = .o x
  | [], i, t, av, h => by simp [envA, Env.get] at h
  | x :: l, i, t, av, h => by
    simp only [envA, Env.get] at h
    cases hb : Nat.beq i t with
    | true => rw [hb] at h; cases h; exact ⟨0, x, by have := Nat.eq_of_beq_eq_true hb; omega, rfl, rfl⟩
    | false =>
      rw [hb] at h
      obtain ⟨j, y, h1, h2, h3⟩ := envA_get l (i + 1) t av h
      exact ⟨j + 1, y, by omega, by simpa using h2, h3⟩
def resE (P : Program) (E : Env) (O : Objs) : List ResultVar → List A1 → Prop
  | [], [] => True
  | .tmp t :: rs, x :: xs => E.get t = some (.o x) ∧ resE P E O rs xs
  | .cell t ty :: rs, x :: xs => (∃ p cs sz bt agg z, E.get t = some (.c p) ∧ atC O p = some cs ∧ TI P ty sz bt agg z ∧ sz ≤ cs.length ∧ mkA agg (cs.take sz) = some x) ∧ resE P E O rs xs
  | _, _ => False
def rfun (tmps : Array Value) : ResultVar → Sem Value
  | .tmp t => pure (tmps.getD t undef)
  | .cell c t => do loadVar t (← asAddr (tmps.getD c undef))
theorem results_run {N : Cx} {K : Km} {ok : Nat → Prop} {w : World} {a : Act} (hs : Sim N K ok w E O a) : ∀ {rs : List ResultVar} {xs : List A1}, resE P E O rs xs → ∃ vs, (rs.mapM (rfun a.tmps) : Sem (List Value)).run P w = .ok vs w ∧ RelAs K ok w xs vs
  | [], [], _ => ⟨[], rfl, RelAs.nil⟩
  | [], _ :: _, h => h.elim
  | .tmp _ :: _, [], h => h.elim
  | .cell _ _ :: _, [], h => h.elim
  | .tmp t :: rs, x :: xs, h => by
    obtain ⟨vs, h1, h2⟩ := results_run hs h.2
    obtain ⟨v, hv, hr⟩ := hs.env t _ h.1
    have e : a.tmps.getD t undef = v := by simp [Array.getD_eq_getD_getElem?, hv]
    cases hr with
    | o hr => exact ⟨v :: vs, by simp only [List.mapM_cons, Sem.run_bind, rfun, Sem.run_pure, Result.andThen_ok, h1, e], RelAs.cons hr h2⟩
  | .cell t ty :: rs, x :: xs, h => by
    obtain ⟨vs, h1, h2⟩ := results_run hs h.2
    obtain ⟨p, cs, sz, bt, agg, z, g1, g2, g3, g4, g5⟩ := h.1
    obtain ⟨v, hv, hr⟩ := hs.env t _ g1
    have e : a.tmps.getD t undef = v := by simp [Array.getD_eq_getD_getElem?, hv]
    obtain ⟨ad, u, e2, l1, l2⟩ := load_run (P := P) (t := ty) hs.hp hr.one g2 g4 g5
    subst e2
    have hA : (asAddr (a.tmps.getD t undef)).run P w = .ok ad w := by rw [e]; rfl
    exact ⟨u :: vs, by simp only [List.mapM_cons, Sem.run_bind, rfun, hA, Sem.run_pure, Result.andThen_ok, l1, h1], RelAs.cons l2 h2⟩
theorem marks_leave {fn : Func} {tmps : Array Value} {R : Ending → World → Prop} {B : Nat} : ∀ (Ds : List Nat) (w : World), Ds.Nodup → (∀ D, D ∈ Ds → B ≤ D ∧ w.heap[D]? = some (.deferred (some []))) →
    (∀ w', w.heap.size = w'.heap.size → (∀ b, b ∉ Ds → w'.heap[b]? = w.heap[b]?) → w'.os = w.os → w'.tape = w.tape → w'.output = w.output → LeavesIn Fence.wide 0 P fn tmps R [] .returning w') → LeavesInM Fence.wide 0 P fn tmps R (Ds.map mark) .returning w
  | [], w, _, _, h => h w rfl (fun _ _ => rfl) rfl rfl rfl
  | D :: Ds, w, hn, hm, h => by
    simp only [List.nodup_cons] at hn
    refine ⟨by simp, .inl ⟨D, _, rfl, run_takeDeferred (hm D (by simp)).2, marks_leave Ds _ hn.2 (fun D' hD' => ⟨(hm D' (by simp [hD'])).1, ?_⟩) fun w' h1 h2 h3 h4 h5 => ?_⟩⟩
    · rw [World.putObj_heap_other (fun e => hn.1 (by rw [← e]; exact hD'))]; exact (hm D' (by simp [hD'])).2
    · refine h w' (by rw [← h1]; simp) (fun b hb => ?_) h3 h4 h5
      simp only [List.mem_cons, not_or] at hb
      rw [h2 b hb.2, World.putObj_heap_other hb.1]
theorem Ct.of {f : FuncId} {fn : Func} {c : Code} {args res : List A1} {O O' : Objs} (hf : P.funcs[f]? = some fn) (hb : fn.body = some c) (hn : (fn.name == "runtime.NumGoroutine") = false) (hN : fn.ntmps = N.n) (hl : Nat.ble args.length N.n = true)
    (h : W P N (envA 0 args) O c (fun e E O2 => (match e with | .normal => True | .ret => True | _ => False) ∧ SubO O' O2 ∧ ∃ ys, resE P E O2 fn.results.toList ys ∧ leAs ys res)) (hfz : N.fz = []) : CtO P f O args O' res := by
  refine ⟨fun K ok w vs hp hrel => .inl ⟨by simp [callable, hf, hb, hn], callsIn_wide (n := 0).1 (callsIn_of_wp_marks hf hb trivial ?_)⟩⟩
  have hlen := Nat.le_of_ble_eq_true hl
  have hsim : Sim ⟨N, none, w.heap.size, #[]⟩ K ok w (envA 0 args) O { tmps := vs.toArray ++ Array.replicate (fn.ntmps - vs.toArray.size) undef, defers := [] } := by
    refine ⟨by rw [Array.size_append, Array.size_replicate, hN, List.size_toArray, hrel.len]; show args.length + (N.n - args.length) = N.n; omega, ⟨[], rfl, List.nodup_nil, fun D hD => by simp at hD⟩, Nat.le_refl _, (fun l hl => by cases hl), (fun t ht => by rw [show N.fz = [] from hfz] at ht; simp at ht), hp, fun t av ht => ?_⟩
    obtain ⟨j, x, rfl, hj, rfl⟩ := envA_get args 0 t av ht
    obtain ⟨u, hu, hr⟩ := hrel.get j x hj
    have hlt : j < vs.length := (List.getElem?_eq_some_iff.1 hu).1
    refine ⟨u, ?_, .o hr⟩
    rw [Nat.zero_add, Array.getElem?_append_left (by simpa using hlt)]
    simpa using hu
  refine wpIn_mono (h none w.heap.size #[] K ok w _ hsim) fun e a' w' hpost => ?_
  obtain ⟨E', O2, K', ok', ⟨he, hO, ys, hres, hle⟩, hs', hfr⟩ := hpost
  have fin : LeavesInM Fence.wide 0 P fn a'.tmps (fun e w' => ∃ v K' ok', e = .returned v ∧ RelV K' ok' w' (retV res) v ∧ Hp K' ok' w' O' ∧ Fr K ok w O K' ok' w' O') a'.defers .returning w' := by
    obtain ⟨Ds, hd1, hd2, hd3⟩ := hs'.defers
    rw [hd1]
    refine marks_leave (B := w.heap.size) Ds w' hd2 (fun D hD => ⟨(hd3 D hD).1, (hd3 D hD).2.1⟩) fun w2 z1 z2 z3 z4 z5 => ?_
    have sok : ∀ b, ok' b → w2.heap[b]? = w'.heap[b]? := fun b hb => z2 b fun hD => (hd3 b hD).2.2.1 hb
    have shid : ∀ b, K'.hid b → w2.heap[b]? = w'.heap[b]? := fun b hb => z2 b fun hD => (hd3 b hD).2.2.2 hb
    have sown : ∀ k o b L, O2.get k = some o → K' k = some (b, L) → w2.heap[b]? = w'.heap[b]? := fun k o b L ho hK => z2 b fun hD => def_notOwn hs'.hp (hd3 b hD).2.1 k o L ho hK
    have scell : ∀ (b : Nat) (cs : Array Value) (e : TypeId) (fr : Nat × Nat), w'.heap[b]? = some (Obj.cells cs e fr) → w2.heap[b]? = some (Obj.cells cs e fr) := fun b cs e fr hb => (z2 b fun hD => by have := (hd3 b hD).2.1; rw [hb] at this; cases this).trans hb
    have hsh : ∀ r, Shp K' K' w' w2 r := fun r => ⟨rfl, fun b _ _ cs e fr hb => ⟨cs, e, fr, scell b cs e fr hb, rfl⟩⟩
    have hs2 : Sim ⟨N, none, w.heap.size, #[]⟩ K' ok' w2 E' O2 { a' with defers := [] } :=
      ⟨hs'.size, ⟨[], rfl, List.nodup_nil, fun D hD => by simp at hD⟩, by show w.heap.size ≤ w2.heap.size; rw [← z1]; exact hfr.size, (fun l hl => by cases hl), hs'.old,
        ⟨fun k o h => (hs'.hp.obs k o h).mono (fun _ h => h) (fun b hb _ => sok b hb) (by rw [z1]; exact Nat.le_refl _) rfl (fun b L hK => sown k o b L h hK) (fun J _ => ⟨rfl, shid, z3, z4, z5, fun b cs e fr hb => ⟨cs, e, fr, scell b cs e fr hb, rfl⟩⟩) fun r _ => hsh r,
          hs'.hp.inj, hs'.hp.apart, fun b hb => by rw [← z1]; exact hs'.hp.lt b hb, fun b hb => by rw [← z1]; exact hs'.hp.hlt b hb, hs'.hp.hok, hs'.hp.how⟩,
        fun t av h => by
          obtain ⟨v, hv, hr⟩ := hs'.env t av h
          exact ⟨v, hv, hr.mono (fun _ h => h) (fun b hb _ => sok b hb) (by rw [z1]; exact Nat.le_refl _) fun r _ => hsh r⟩⟩
    have hfr2 : Fr K ok w O K' ok' w2 O2 :=
      ⟨by rw [← z1]; exact hfr.size, fun b hb hk hh => (z2 b fun hD => by have h : w.heap.size ≤ b := (hd3 b hD).1; omega).trans (hfr.keep b hb hk hh), hfr.okUp, hfr.okNew, hfr.own, z3.trans hfr.os, z4.trans hfr.tape, z5.trans hfr.output,
        fun b o hb => by
          obtain ⟨o', h1, h2⟩ := hfr.kind b o hb
          exact ⟨o', (z2 b fun hD => by have h : w.heap.size ≤ b := (hd3 b hD).1; have := (Array.getElem?_eq_some_iff.1 hb).1; omega).trans h1, h2⟩, hfr.pin, hfr.hid⟩
    obtain ⟨us, hu, hru⟩ := results_run hs2 hres
    replace hru := hle.rel hru
    have hru1 : (results fn a'.tmps).run P w2 = .ok (if h : us.toArray.size = 1 then us.toArray[0] else .tuple us.toArray) w2 := by
      have e : results fn a'.tmps = (do let vs ← fn.results.mapM (rfun a'.tmps); pure (if h : vs.size = 1 then vs[0] else .tuple vs)) := rfl
      rw [e, Array.mapM_eq_mapM_toList]
      simp only [Sem.run_bind, Sem.run_map, Sem.run_pure]
      rw [show (List.mapM (rfun a'.tmps) fn.results.toList : Sem (List Value)).run P w2 = .ok us w2 from hu]
      rfl
    refine ⟨_, hru1, _, K', ok', rfl, ?_, hs2.hp.sub hO, hfr2.trans (Fr.weak hO)⟩
    match res, hru with
    | [], hru =>
      have : us = [] := by have := hru.len; simpa using this
      subst this
      exact .tup hru
    | [x], hru =>
      obtain ⟨v, us', rfl, hx, hus⟩ := hru.head
      have : us' = [] := by have := hus.len; simpa using this
      subst this
      exact .o hx
    | x :: y :: l, hru =>
      obtain ⟨v, us', rfl, hx, hus⟩ := hru.head
      obtain ⟨v2, us2, rfl, hx2, hus2⟩ := hus.head
      have : ¬ ((v :: v2 :: us2).toArray.size = 1) := by simp
      rw [dif_neg this]
      exact .tup hru
  cases e with
  | normal => exact fin
  | ret => exact fin
  | _ => exact he.elim
end
end Go.Proofs.YtjpbijdpkdmeaaaGreat.Pv
namespace Go.Proofs.YtjpbijdpkdmeaaaGreat.Pv
open Go
inductive UD where
  | sl (e : Nat)
  | arr (n e : Nat)
  | st (fs : List (Nat × Nat × Nat))
  | str
  | int (k : IntKind)
  | bool
  | ptr (e : Nat)
  | mp (k e : Nat) (D : TypeDesc) (agg : Bool)
  | oth
structure TD where
  und : UD
  sz : Nat
  bt : Nat
  agg : Bool
  z : List Value
inductive Ty where
  | leaf
  | node (k : Nat) (v : TD) (l r : Ty)
  | own (fs : List Nat) (T : Ty)
def Ty.get : Ty → Nat → Option TD
  | .leaf, _ => none
  | .own _ T, t => Ty.get T t
  | .node k v l r, t => bif Nat.beq k t then some v else bif Nat.blt t k then Ty.get l t else Ty.get r t
def UD.ok (P : Program) (t : Nat) : UD → Prop
  | .sl e => TSl P t e
  | .arr n e => TArr P t n e
  | .st fs => (∀ f off ft n, fs[f]? = some (off, ft, n) → TFld P t f off ft n) ∧ TPl P t (fs.map fun x => (x.1, x.2.2))
  | .str => P.underlying t = some .string
  | .int k => P.underlying t = some (.int k)
  | .bool => P.underlying t = some .bool
  | .ptr e => P.underlying t = some (.pointer e)
  | .mp k e D agg => TMap P t k e ∧ P.underlying k = some D ∧ TZ P e agg
  | .oth => True
def TD.ok (P : Program) (t : Nat) (d : TD) : Prop := TI P t d.sz d.bt d.agg d.z ∧ d.und.ok P t
def Ty.ok (P : Program) (T : Ty) : Prop := ∀ t d, T.get t = some d → d.ok P t
def Ty.All (P : Program) : Ty → Prop
  | .leaf => True
  | .node k v l r => v.ok P k ∧ l.All P ∧ r.All P
  | .own _ T => T.All P
theorem Ty.ok_of {P : Program} : ∀ {T : Ty}, T.All P → T.ok P
  | .leaf, _, t, d, h => by simp [Ty.get] at h
  | .own _ T, ha, t, d, h => Ty.ok_of (T := T) ha t d h
  | .node k v l r, ha, t, d, h => by
    simp only [Ty.get] at h
    cases hb : Nat.beq k t with
    | true => rw [hb] at h; cases h; rw [← Nat.eq_of_beq_eq_true hb]; exact ha.1
    | false =>
      rw [hb] at h
      cases hl : Nat.blt t k with
      | true => rw [hl] at h; exact Ty.ok_of ha.2.1 t d h
      | false => rw [hl] at h; exact Ty.ok_of ha.2.2 t d h
theorem Ty.own_ok {P : Program} {T : Ty} (fs : List Nat) (h : T.ok P) : (Ty.own fs T).ok P := h
def ownF : Ty → Nat → Bool
  | .own fs _, f => memB f fs
  | _, _ => false
def kEq : IntKind → IntKind → Bool
  | .i8, .i8 => true | .i16, .i16 => true | .i32, .i32 => true | .i64, .i64 => true
  | .u8, .u8 => true | .u16, .u16 => true | .u32, .u32 => true | .u64, .u64 => true
  | _, _ => false
theorem kEq_spec {a b : IntKind} (h : kEq a b = true) : a = b := by cases a <;> cases b <;> first | rfl | cases h
abbrev Kt := Option AV → Eff → Prop
def Stuck (_ : String) : Prop := False
def BM (X Y : Prop) (b : Bool) : Prop := match b with | true => X | false => Y
theorem BM.out {b : Bool} {X Y : Prop} (h : BM X Y b) : (b = true → X) ∧ (b = false → Y) := by
  cases b with
  | true => exact ⟨fun _ => h, fun h => by cases h⟩
  | false => exact ⟨fun h => (by cases h), fun _ => h⟩
theorem bcase {b : Bool} {X Y : Prop} (h1 : b = true → X) (h2 : b = false → Y) : BM X Y b := by
  cases b with
  | true => exact h1 rfl
  | false => exact h2 rfl
theorem dcase {p : Prop} [Decidable p] {X Y : Prop} (h1 : p → X) (h2 : ¬ p → Y) : BM X Y (decide p) := bcase (fun h => h1 (of_decide_eq_true h)) (fun h => h2 (of_decide_eq_false h))
theorem ecase {m n : Int} {X Y : Prop} (h1 : m = n → X) (h2 : m ≠ n → Y) : BM X Y (m == n) := bcase (fun h => h1 (by simpa using h)) (fun h => h2 (by simpa using h))
theorem ncase {m n : Int} {X Y : Prop} (h1 : m ≠ n → X) (h2 : m = n → Y) : BM X Y (m != n) := bcase (fun h => h1 (by simpa using h)) (fun h => h2 (by simpa using h))
theorem X1 {α : Type} {p q : α → Prop} (a : α) (h1 : p a) (h2 : q a) : ∃ a, p a ∧ q a := ⟨a, h1, h2⟩
theorem wi {n : Int} (h1 : -9223372036854775808 ≤ n) (h2 : n ≤ 9223372036854775807) : IntKind.i64.wrap n = n := wrap_of_inR ⟨h1, h2⟩
def binS (E : Env) (op : BinOp) (x y : Operand) (K : Kt) : Prop :=
  match E.ev x, E.ev y with
  | some (.c (.sc (.int k m))), some (.c (.sc (.int k' n))) =>
    bif kEq k k' then
      match op with
      | .add => ∃ r, k.wrap (m + n) = r ∧ K (some (.c (.sc (.int k r)))) .no
      | .sub => ∃ r, k.wrap (m - n) = r ∧ K (some (.c (.sc (.int k r)))) .no
      | .mul => ∃ r, k.wrap (m * n) = r ∧ K (some (.c (.sc (.int k r)))) .no
      | .quo => n ≠ 0 ∧ ∃ r, m.tdiv n = r ∧ inR k r ∧ K (some (.c (.sc (.int k r)))) .no
      | .rem => n ≠ 0 ∧ ∃ r, m.tmod n = r ∧ inR k r ∧ K (some (.c (.sc (.int k r)))) .no
      | .and => ∃ r, k.wrap (BitVec.ofInt k.bits m &&& BitVec.ofInt k.bits n).toNat = r ∧ K (some (.c (.sc (.int k r)))) .no
      | .or => ∃ r, k.wrap (BitVec.ofInt k.bits m ||| BitVec.ofInt k.bits n).toNat = r ∧ K (some (.c (.sc (.int k r)))) .no
      | .xor => ∃ r, k.wrap (BitVec.ofInt k.bits m ^^^ BitVec.ofInt k.bits n).toNat = r ∧ K (some (.c (.sc (.int k r)))) .no
      | .andNot => ∃ r, k.wrap (BitVec.ofInt k.bits m &&& ~~~ BitVec.ofInt k.bits n).toNat = r ∧ K (some (.c (.sc (.int k r)))) .no
      | .eql => K (some (.c (.sc (.bool (m == n))))) .no
      | .neq => K (some (.c (.sc (.bool (m != n))))) .no
      | .lss => K (some (.c (.sc (.bool (decide (m < n)))))) .no
      | .leq => K (some (.c (.sc (.bool (decide (m ≤ n)))))) .no
      | .gtr => K (some (.c (.sc (.bool (decide (m > n)))))) .no
      | .geq => K (some (.c (.sc (.bool (decide (m ≥ n)))))) .no
      | .shl => 0 ≤ n ∧ ∃ r, k.wrap (m * 2 ^ min n.toNat k.bits) = r ∧ K (some (.c (.sc (.int k r)))) .no
      | .shr => 0 ≤ n ∧ ∃ r, m.fdiv (2 ^ min n.toNat k.bits) = r ∧ inR k r ∧ K (some (.c (.sc (.int k r)))) .no
    else
      match op with
      | .shl => 0 ≤ n ∧ ∃ r, k.wrap (m * 2 ^ min n.toNat k.bits) = r ∧ K (some (.c (.sc (.int k r)))) .no
      | .shr => 0 ≤ n ∧ ∃ r, m.fdiv (2 ^ min n.toNat k.bits) = r ∧ inR k r ∧ K (some (.c (.sc (.int k r)))) .no
      | _ => Stuck "kinds"
  | some (.c (.sc (.string p))), some (.c (.sc (.string q))) =>
    match op with
    | .eql => K (some (.c (.sc (.bool (p.toList == q.toList))))) .no
    | .neq => K (some (.c (.sc (.bool (!(p.toList == q.toList)))))) .no
    | .add => p.size + q.size ≤ 140737488355328 ∧ K (some (.c (.sc (.string (p ++ q))))) .no
    | .lss => K (some (.c (.sc (.bool (Op.bytesLess p.toList q.toList))))) .no
    | _ => Stuck "strings"
  | _, _ => Stuck "binOp"
def loadS (T : Ty) (E : Env) (O : Objs) (t : Nat) (x : Operand) (K : Kt) : Prop :=
  match T.get t, E.ev x with
  | some td, some (.c (.ea r sz i off)) => match O.get r with
    | some (.row sz' els) => bif Nat.beq sz sz' then ∃ el, els[i]? = some el ∧ (match mkA td.agg ((el.drop off).take td.sz) with
      | some y => bif Nat.ble td.sz (el.drop off).length then K (some (.o y)) .no else Stuck "load"
      | none => Stuck "load") else Stuck "load"
    | some (.rowO sz' els _) => bif Nat.beq sz sz' then ∃ el, els[i]? = some el ∧ (match mkA td.agg ((el.drop off).take td.sz) with
      | some y => bif Nat.ble td.sz (el.drop off).length then K (some (.o y)) .no else Stuck "load"
      | none => Stuck "load") else Stuck "load"
    | _ => Stuck "load"
  | some td, some (.c p) => match atC O p with
    | some xs => match mkA td.agg (xs.take td.sz) with
      | some y => bif Nat.ble td.sz xs.length then K (some (.o y)) .no else Stuck "load"
      | none => Stuck "load"
    | none => Stuck "load"
  | _, _ => Stuck "load"
def storeS (T : Ty) (E : Env) (O : Objs) (t : Nat) (x v : Operand) (K : Kt) : Prop :=
  match T.get t, E.ev x, E.ev v with
  | some td, some (.c (.ad k off)), some (.o y) => match O.get k with
    | some (.var cells) => bif Nat.beq y.cells.length td.sz && Nat.ble (off + td.sz) cells.length then K none (.upd k (.var (spl cells off y.cells))) else Stuck "store"
    | _ => Stuck "store"
  | some td, some (.c (.ea r sz i off)), some (.o y) => match O.get r with
    | some (.row sz' els) => bif Nat.beq sz sz' && Nat.beq y.cells.length td.sz && Nat.ble (off + td.sz) sz && closedL y.cells then ∃ el, els[i]? = some el ∧ K none (.upd r (.row sz (els.set i (spl el off y.cells)))) else Stuck "store"
    | some (.rowO sz' els ids) => bif Nat.beq sz sz' && Nat.beq y.cells.length td.sz && Nat.ble (off + td.sz) sz then ∃ el, els[i]? = some el ∧ K none (.upd r (.rowO sz (els.set i (spl el off y.cells)) (idsL y.cells ++ ids))) else Stuck "store"
    | _ => Stuck "store"
  | _, _, _ => Stuck "store"
def noMB (r : Nat) : Objs → Bool
  | [] => Nat.blt r 1000000
  | (_, none) :: O => noMB r O
  | (_, some (.var cells)) :: O => !(mentA r cells) && noMB r O
  | (_, some (.rowO _ _ ids)) :: O => !(memB r ids) && noMB r O
  | (_, some _) :: O => noMB r O
theorem noMB_spec {r : Nat} : ∀ {O : Objs}, noMB r O = true → NoML r O
  | [], h => Nat.lt_of_lt_of_le (Nat.lt_succ_self _) (Nat.le_of_ble_eq_true h)
  | (_, none) :: O, h => noMB_spec (O := O) h
  | (_, some (.var cells)) :: O, h => by
    simp only [noMB, Bool.and_eq_true, Bool.not_eq_true'] at h
    exact ⟨h.1, noMB_spec h.2⟩
  | (_, some (.rowO _ _ ids)) :: O, h => by
    simp only [noMB, Bool.and_eq_true, Bool.not_eq_true'] at h
    exact ⟨h.1, noMB_spec h.2⟩
  | (_, some (.row _ _)) :: O, h => ⟨trivial, noMB_spec (O := O) h⟩
  | (_, some (.mp _ _ _)) :: O, h => ⟨trivial, noMB_spec (O := O) h⟩
  | (_, some (.me _ _)) :: O, h => ⟨trivial, noMB_spec (O := O) h⟩
  | (_, some (.abs _)) :: O, h => ⟨trivial, noMB_spec (O := O) h⟩
def indexS (T : Ty) (E : Env) (t : Nat) (x y : Operand) (K : Kt) : Prop :=
  match T.get t, E.ev x, E.ev y with
  | some ⟨.sl e, _, _, _, _⟩, some (.c (.sl sz els)), some (.c (.sc (.int _ i))) => match T.get e with
    | some td => bif Nat.beq sz td.sz then 0 ≤ i ∧ ∃ el, els[i.toNat]? = some el ∧ K (some (.c (.rd el))) .no else Stuck "index"
    | none => Stuck "index"
  | some ⟨.sl e, _, _, _, _⟩, some (.c (.ow r sz n)), some (.c (.sc (.int _ i))) => match T.get e with
    | some td => bif Nat.beq sz td.sz then 0 ≤ i ∧ i < n ∧ K (some (.c (.ea r sz i.toNat 0))) .no else Stuck "index"
    | none => Stuck "index"
  | some ⟨.sl e, _, _, _, _⟩, some (.c (.os r sz lo n)), some (.c (.sc (.int _ i))) => match T.get e with
    | some td => bif Nat.beq sz td.sz then 0 ≤ i ∧ i < n ∧ K (some (.c (.ea r sz (lo + i.toNat) 0))) .no else Stuck "index"
    | none => Stuck "index"
  | some ⟨.arr n e, _, _, _, _⟩, some (.c (.ad q off)), some (.c (.sc (.int _ i))) => match T.get e with
    | some td => 0 ≤ i ∧ i < n ∧ K (some (.c (.ad q (off + i.toNat * td.sz)))) .no
    | none => Stuck "index"
  | some ⟨.arr n e, _, _, _, _⟩, some (.c (.rd cells)), some (.c (.sc (.int _ i))) => match T.get e with
    | some td => 0 ≤ i ∧ i < n ∧ K (some (.c (.rd (cells.drop (i.toNat * td.sz))))) .no
    | none => Stuck "index"
  | _, _, _ => Stuck "index"
def fieldAddrS (T : Ty) (E : Env) (s : Nat) (x : Operand) (f : Nat) (K : Kt) : Prop :=
  match T.get s, E.ev x with
  | some ⟨.st fs, _, _, _, _⟩, some (.c p) => match fs[f]? with
    | some (off, _, n + 1) => match p with
      | .ad k o => K (some (.c (.ad k (o + off)))) .no
      | .ea r sz i o => K (some (.c (.ea r sz i (o + off)))) .no
      | .rd cells => K (some (.c (.rd (cells.drop off)))) .no
      | _ => Stuck "fieldAddr"
    | _ => Stuck "fieldAddr"
  | _, _ => Stuck "fieldAddr"
def sliceS (T : Ty) (E : Env) (t : Nat) (x : Operand) (lo hi : Option Operand) (K : Kt) : Prop :=
  match T.get t, E.ev x, bndV E lo, bndV E hi with
  | some ⟨.sl e, _, _, _, _⟩, some (.c (.sl sz els)), some l, some h => match T.get e with
    | some td => bif Nat.beq sz td.sz then ∃ l' h' : Nat, l.getD 0 = l' ∧ h.getD els.length = h' ∧ l' ≤ h' ∧ h' ≤ els.length ∧ K (some (.c (.sl sz ((els.drop l').take (h' - l'))))) .no else Stuck "slice"
    | none => Stuck "slice"
  | some ⟨.sl e, _, _, _, _⟩, some (.c (.ow r sz n)), some l, some h => match T.get e with
    | some td => bif Nat.beq sz td.sz then ∃ l' h' : Nat, l.getD 0 = l' ∧ h.getD n = h' ∧ h' ≤ n ∧ 0 < n ∧ ((l' = h' ∧ K (some (.c (.sl sz []))) .no) ∨ (l' < h' ∧ K (some (.c (.os r sz l' (h' - l')))) .no)) else Stuck "slice"
    | none => Stuck "slice"
  | some ⟨.sl e, _, _, _, _⟩, some (.c (.os r sz lo0 n)), some l, some h => match T.get e with
    | some td => bif Nat.beq sz td.sz then ∃ l' h' : Nat, l.getD 0 = l' ∧ h.getD n = h' ∧ h' ≤ n ∧ ((l' = h' ∧ K (some (.c (.sl sz []))) .no) ∨ (l' < h' ∧ K (some (.c (.os r sz (lo0 + l') (h' - l')))) .no)) else Stuck "slice"
    | none => Stuck "slice"
  | some ⟨.str, _, _, _, _⟩, some (.c (.sc (.string s))), some l, some h => ∃ l' h' : Nat, l.getD 0 = l' ∧ h.getD s.size = h' ∧ l' ≤ h' ∧ h' ≤ s.size ∧ K (some (.c (.sc (.string (s.extract l' h'))))) .no
  | _, _, _, _ => Stuck "slice"
def builtinS (T : Ty) (E : Env) (O : Objs) (b : Builtin) (args : List Operand) (ts : List Nat) (K : Kt) : Prop :=
  match b, args, ts with
  | .len, [x], [t] => match T.get t, E.ev x with
    | some ⟨.sl _, _, _, _, _⟩, some (.c p) => match lenC p with
      | some n => n ≤ 140737488355328 ∧ K (some (.c (.sc (.int .i64 n)))) .no
      | none => Stuck "len"
    | some ⟨.str, _, _, _, _⟩, some (.c (.sc (.string s))) => K (some (.c (.sc (.int .i64 s.size)))) .no
    | _, _ => Stuck "len"
  | .append, [x, y], [t, t2] => match T.get t, T.get t2, E.ev x, E.ev y with
    | some ⟨.sl e, _, _, _, _⟩, some ⟨.sl _, _, _, _, _⟩, some (.c (.ow r sz n)), some (.c p2) => match T.get e, O.get r, slC O sz p2 with
      | some td, some (.row sz' els), some els2 => bif Nat.beq sz sz' && Nat.beq sz td.sz && Nat.beq td.z.length sz && noMB r O then
          n = els.length ∧ (els.length + els2.length + 768) * td.bt ≤ 17592186044416 ∧ els.length + els2.length ≤ 35184372088832 ∧ closedLL els ∧ closedLL els2 ∧ K (some (.c (.ow r sz (els ++ els2).length))) (.app r (.row sz (els ++ els2))) else Stuck "append"
      | _, _, _ => Stuck "append"
    | _, _, _, _ => Stuck "append"
  | .max, [x, y], _ => match E.ev x, E.ev y with
    | some (.c (.sc (.int k m))), some (.c (.sc (.int k' n))) => bif kEq k k' then K (some (.c (.sc (.int k (if n > m then n else m))))) .no else Stuck "max"
    | _, _ => Stuck "max"
  | .min, [x, y], _ => match E.ev x, E.ev y with
    | some (.c (.sc (.int k m))), some (.c (.sc (.int k' n))) => bif kEq k k' then K (some (.c (.sc (.int k (if n < m then n else m))))) .no else Stuck "min"
    | _, _ => Stuck "min"
  | _, _, _ => Stuck "builtin"
def callS (P : Program) (E : Env) (O : Objs) (f : FuncId) (more : List A1) (args : List Operand) (K : Kt) : Prop :=
  match E.evs args with
  | some l => bif closedAs (l ++ more) then ∃ res, Ct P f (l ++ more) res ∧ (bif closedAs res then K (some (retV res)) .no else Stuck "call")
    else ∃ res, Ct P f ((l ++ more).map (viewA O)) res ∧ (bif res.all isSc then K (some (retV res)) .no else Stuck "call")
  | none => Stuck "call"
def allLen (sz : Nat) : List A1 → Bool
  | [] => true
  | y :: l => Nat.beq y.cells.length sz && closedL y.cells && allLen sz l
theorem allLen_spec {sz : Nat} : ∀ {l : List A1}, allLen sz l = true → ∀ y, y ∈ l → y.cells.length = sz ∧ closedL y.cells = true
  | [], _, y, h => by simp at h
  | x :: l, h, y, hy => by
    simp only [allLen, Bool.and_eq_true] at h
    simp only [List.mem_cons] at hy
    rcases hy with rfl | hy
    · exact ⟨Nat.eq_of_beq_eq_true h.1.1, h.1.2⟩
    · exact allLen_spec h.2 y hy
def isRange : Nat → List Nat → Bool
  | _, [] => true
  | n, i :: l => Nat.beq i n && isRange (n + 1) l
theorem isRange_spec : ∀ {l : List Nat} {n : Nat}, isRange n l = true → l = List.range' n l.length
  | [], _, _ => rfl
  | i :: l, n, h => by
    simp only [isRange, Bool.and_eq_true] at h
    rw [List.length_cons, List.range'_succ, ← isRange_spec h.2, Nat.eq_of_beq_eq_true h.1]
def opS (P : Program) (T : Ty) (E : Env) (O : Objs) (d : Option Tmp) (op : Op) (K : Kt) : Prop :=
  match op with
  | .move x => match E.ev x with | some a => K (some a) .no | none => Stuck "move"
  | .assign x => match E.ev x with | some a => K (some a) .no | none => Stuck "assign"
  | .pick c x y => match E.ev c with
    | some (.c (.sc (.bool b))) => BM (b := b) (match E.ev x with | some a => K (some a) .no | none => Stuck "pick") (match E.ev y with | some a => K (some a) .no | none => Stuck "pick")
    | _ => Stuck "pick"
  | .alloc t => match T.get t, d with
    | some td, some k => bif scAll td.z && noMB k O then K (some (.c (.ad k 0))) (.new k (.var (scsOf td.z))) else Stuck "alloc"
    | _, _ => Stuck "alloc"
  | .box _ x => match E.ev x, d with
    | some (.o y), some k => bif !(y.ment k) && noMB k O then K (some (.c (.ad k 0))) (.new k (.var y.cells)) else Stuck "box"
    | _, _ => Stuck "box"
  | .build t parts => match T.get t, E.evs (parts.toList.map (·.2)) with
    | some ⟨.st fs, _, _, true, z⟩, some l => match fillP ((fs.map fun x => (x.1, x.2.2))[·]?) (scsOf z) ((parts.toList.map (·.1)).zip l) with
      | some r => bif scAll z then K (some (.ag r)) .no else Stuck "build"
      | none => Stuck "build"
    | _, _ => Stuck "build"
  | .buildSlice t len parts => match T.get t, E.evs (parts.toList.map (·.2)), d with
    | some ⟨.sl e, _, _, _, _⟩, some l, some k => match T.get e with
      | some td => bif isRange 0 (parts.toList.map (·.1)) && Nat.beq l.length len && Nat.beq td.z.length td.sz && allLen td.sz l && Nat.ble (len * td.sz) 16777216 && Nat.ble len 16777216 && noMB k O then
          K (some (.c (.ow k td.sz (l.map A1.cells).length))) (.new k (.row td.sz (l.map A1.cells))) else Stuck "buildSlice"
      | none => Stuck "buildSlice"
    | _, _, _ => Stuck "buildSlice"
  | .makeSlice t x y => match T.get t, E.ev x, E.ev y, d with
    | some ⟨.sl e, _, _, _, _⟩, some (.c (.sc (.int .i64 n))), some (.c (.sc (.int .i64 c))), some k => match T.get e with
      | some td => bif scAll td.z && Nat.beq td.z.length td.sz && noMB k O then 0 ≤ n ∧ n ≤ c ∧ c ≤ 35184372088832 ∧ (td.bt ≤ 8 ∨ c * td.bt ≤ 281474976710656) ∧ K (some (.c (.ow k td.sz n.toNat))) (.new k (.row td.sz (List.replicate n.toNat (scsOf td.z)))) else Stuck "makeSlice"
      | none => Stuck "makeSlice"
    | _, _, _, _ => Stuck "makeSlice"
  | .load t x => loadS T E O t x K
  | .store t x v => storeS T E O t x v K
  | .nilCheck x => match E.ev x with
    | some (.c p) => bif isPtr p then K (some (.c p)) .no else Stuck "nilCheck"
    | _ => Stuck "nilCheck"
  | .binOp op _ x y _ => binS E op x y K
  | .unOp .not _ x => match E.ev x with
    | some (.c (.sc (.bool b))) => K (some (.c (.sc (.bool (!b))))) .no
    | _ => Stuck "not"
  | .unOp .neg _ x => match E.ev x with
    | some (.c (.sc (.int k n))) => ∃ r, 0 - n = r ∧ inR k r ∧ K (some (.c (.sc (.int k r)))) .no
    | _ => Stuck "neg"
  | .unOp .xor _ x => match E.ev x with
    | some (.c (.sc (.int .u64 n))) => ∃ r, IntKind.u64.wrap ((BitVec.ofInt IntKind.u64.bits 18446744073709551615 ^^^ BitVec.ofInt IntKind.u64.bits n).toNat : Int) = r ∧ K (some (.c (.sc (.int .u64 r)))) .no
    | _ => Stuck "cpl"
  | .convert s t x => match T.get s, T.get t, E.ev x with
    | some ⟨.int _, _, _, _, _⟩, some ⟨.int k', _, _, _, _⟩, some (.c (.sc (.int _ n))) => ∃ r, k'.wrap n = r ∧ K (some (.c (.sc (.int k' r)))) .no
    | _, _, _ => Stuck "convert"
  | .makeFunc (.func f) first caps => match first.toList, E.evs caps.toList with
    | [], some l => bif Nat.blt f 1000000 then ∃ xs : List PC, l = xs.map .c ∧ K (some (.c (.fn f xs))) .no else Stuck "makeFunc"
    | _ :: _, some [] => match E.evs first.toList with
      | some l => ∃ xs : List PC, l = xs.map .c ∧ K (some (.c (.fn (1000000 + f) xs))) .no
      | none => Stuck "makeFunc"
    | _, _ => Stuck "makeFunc"
  | .slice t x lo hi none => sliceS T E t x lo hi K
  | .fieldAddr s x f => fieldAddrS T E s x f K
  | .field s x f => match T.get s, E.ev x with
    | some ⟨.st fs, _, _, _, _⟩, some (.o (.ag l)) => match fs[f]? with
      | some (off, ft, _) => match T.get ft with
        | some td => match mkA td.agg ((l.drop off).take td.sz) with
          | some y => bif Nat.ble (off + td.sz) l.length then K (some (.o y)) .no else Stuck "field"
          | none => Stuck "field"
        | none => Stuck "field"
      | none => Stuck "field"
    | _, _ => Stuck "field"
  | .indexAddr t x y => indexS T E t x y K
  | .index t x y => match T.get t, E.ev x, E.ev y with
    | some ⟨.str, _, _, _, _⟩, some (.c (.sc (.string s))), some (.c (.sc (.int _ i))) => 0 ≤ i ∧ ∃ b, s.data[i.toNat]? = some b ∧ K (some (.c (.sc (.int .u8 b.toNat)))) .no
    | _, _, _ => Stuck "index"
  | .extract x i => match E.ev x with
    | some (.tup l) => match l[i]? with | some y => K (some (.o y)) .no | none => Stuck "extract"
    | _ => Stuck "extract"
  | .call ⟨.builtin b, args, ts⟩ => builtinS T E O b args.toList ts.toList K
  | .call ⟨.value (.func f), args, _⟩ => callS P E O f [] args.toList K
  | .call ⟨.value (.tmp t), args, _⟩ => match E.get t, E.evs args.toList with
    | some (.c (.fn f caps)), some l => ∃ res, Ct P (fnF f) (fnA f l (caps.map .c)) res ∧ (bif closedAs res then K (some (retV res)) .no else Stuck "call")
    | _, _ => Stuck "callV"
  | _ => Stuck "op"
end Go.Proofs.YtjpbijdpkdmeaaaGreat.Pv
namespace Go.Proofs.YtjpbijdpkdmeaaaGreat.Pv
open Go
section
variable {P : Program} {T : Ty} {E : Env} {O : Objs} {d : Option Tmp} {ty : TypeId} {pos : String} {af : Array Edge} {g : Option (Nat × Bool)} {K : Kt}
def readsO : Op → Bool
  | .move _ => false
  | .assign _ => false
  | .pick _ _ _ => false
  | .extract _ _ => false
  | .binOp _ _ _ _ _ => false
  | .fieldAddr _ _ _ => false
  | .indexAddr _ _ _ => false
  | .slice _ _ _ _ _ => false
  | _ => true
def Eff.prs : Eff → List (Nat × Ob)
  | .no => []
  | .new k o => [(k, o)]
  | .upd k o => [(k, o)]
  | .app k o => [(k, o)]
  | .apk r o j oj => [(j, oj), (r, o)]
  | .vu _ => []
def Eff.vws : Eff → List Nat
  | .vu ks => ks
  | _ => []
def Eff.keys (eff : Eff) : List Nat := eff.prs.map (·.1)
def prsAt (q : Nat) : List (Nat × Ob) → Option Ob
  | [] => none
  | (k, o) :: l => bif Nat.beq k q then some o else prsAt q l
def Eff.at' (eff : Eff) (q : Nat) : Option Ob := prsAt q eff.prs
def Eff.hk (eff : Eff) (q : Nat) : Prop := (eff.at' q).isSome = true
instance (eff : Eff) (q : Nat) : Decidable (eff.hk q) := inferInstanceAs (Decidable (_ = true))
theorem prsAt_mem {q : Nat} : ∀ {l : List (Nat × Ob)}, (prsAt q l).isSome = true → q ∈ l.map (·.1)
  | [], h => by cases h
  | (k, o) :: l, h => by
    simp only [prsAt] at h
    cases hb : Nat.beq k q with
    | true => rw [← Nat.eq_of_beq_eq_true hb]; simp
    | false => rw [hb] at h; exact List.mem_cons_of_mem _ (prsAt_mem h)
theorem mem_prsAt {q : Nat} : ∀ {l : List (Nat × Ob)}, q ∈ l.map (·.1) → (prsAt q l).isSome = true
  | [], h => by simp at h
  | (k, o) :: l, h => by
    simp only [prsAt]
    cases hb : Nat.beq k q with
    | true => rfl
    | false =>
      simp only [List.map_cons, List.mem_cons] at h
      rcases h with h | h
      · rw [h, Nat.beq_refl] at hb; cases hb
      · exact mem_prsAt h
theorem Eff.hk_mem {eff : Eff} {q : Nat} (h : eff.hk q) : q ∈ eff.keys := prsAt_mem h
theorem Eff.mem_hk {eff : Eff} {q : Nat} (h : q ∈ eff.keys) : eff.hk q := mem_prsAt h
def Eff.sk : Eff → Option Nat
  | .apk _ _ j _ => some j
  | _ => none
def Eff.cut (O : Objs) : Eff → Objs
  | .apk _ _ j oj => O.set j oj
  | _ => O
structure Agr (E : Env) (O : Objs) (E' : Env) (O' : Objs) (op : Op) (eff : Eff) : Prop where
  e : ∀ x a, x ∈ op.operands.toList → E.ev x = some a → E'.ev x = some a
  o : readsO op = true → ∀ x a k, x ∈ op.operands.toList → E.ev x = some a → a.ment k = true → O'.get k = O.get k
  n : ∀ k, eff.id = some k → NoM k (eff.cut O')
  u : ∀ k, eff.hk k → O'.get k = O.get k
  v : ∀ k, k ∈ eff.vws → O'.get k = O.get k
theorem Agr.refl {op : Op} {eff : Eff} (h : ∀ k, eff.id = some k → NoM k (eff.cut O)) : Agr E O E O op eff := ⟨fun _ _ _ h => h, fun _ _ _ _ _ _ _ => rfl, h, fun _ _ => rfl, fun _ _ => rfl⟩
def Out (P : Program) (E : Env) (O : Objs) (o : Oper) (K : Kt) : Prop :=
  ∃ av eff, (∀ E' O', Agr E O E' O' o.op eff → Step P E' O' o av eff) ∧ (∀ k, eff.id = some k → NoM k (eff.cut O)) ∧ K av eff
theorem nn {k : Nat} (h : Eff.id .no = some k) : NoM k (Eff.cut O .no) := by cases h
theorem nv {k : Nat} {ks : List Nat} (h : Eff.id (.vu ks) = some k) : NoM k (Eff.cut O (.vu ks)) := by cases h
theorem nu {k q : Nat} {o : Ob} (h : Eff.id (.upd q o) = some k) : NoM k (Eff.cut O (.upd q o)) := by cases h
theorem nw {k q : Nat} {o : Ob} (hm : NoM q O) (h : Eff.id (.new q o) = some k) : NoM k (Eff.cut O (.new q o)) := by cases h; exact hm
theorem na {k q : Nat} {o : Ob} (hm : NoM q O) (h : Eff.id (.app q o) = some k) : NoM k (Eff.cut O (.app q o)) := by cases h; exact hm
theorem atC_congr {O' : Objs} {p : PC} (h : ∀ k, p.ment k = true → O'.get k = O.get k) : atC O' p = atC O p := by
  cases p with
  | ad k off => simp only [atC, h k (Nat.beq_refl _)]
  | ea r sz i off => simp only [atC, h r (Nat.beq_refl _)]
  | _ => rfl
theorem slC_congr {O' : Objs} {p : PC} {sz : Nat} (h : ∀ k, p.ment k = true → O'.get k = O.get k) : slC O' sz p = slC O sz p := by
  cases p with
  | ow r sz n => simp only [slC, h r (Nat.beq_refl _)]
  | os r sz lo n => simp only [slC, h r (Nat.beq_refl _)]
  | sc v => cases v <;> first | rfl | (rename_i a n c; cases a <;> cases n <;> cases c <;> rfl)
  | _ => rfl
theorem viewP_congr {O' : Objs} {p : PC} (h : ∀ k, p.ment k = true → O'.get k = O.get k) : viewP O' p = viewP O p := by
  cases p with
  | ow r sz n => simp only [viewP, h r (Nat.beq_refl _)]
  | os r sz lo n => simp only [viewP, h r (Nat.beq_refl _)]
  | ad k off => simp only [viewP, h k (Nat.beq_refl _)]
  | _ => rfl
theorem evs_congr {E' : Env} : ∀ {xs : List Operand} {l : List A1}, (∀ x a, x ∈ xs → E.ev x = some a → E'.ev x = some a) → E.evs xs = some l → E'.evs xs = some l
  | [], _, _, h => h
  | x :: xs, l, h, hl => by
    simp only [Env.evs] at hl ⊢
    cases hx : E.ev x with
    | none => rw [hx] at hl; simp at hl
    | some a =>
      cases a with
      | tup _ => rw [hx] at hl; simp at hl
      | o a =>
        cases hxs : E.evs xs with
        | none => rw [hx, hxs] at hl; simp at hl
        | some l' => rw [h x _ (by simp) hx, evs_congr (fun y b hy => h y b (by simp [hy])) hxs]; rw [hx, hxs] at hl; exact hl
theorem bndV_congr {E' : Env} {x : Option Operand} {n : Option Int} (h : ∀ y a, x = some y → E.ev y = some a → E'.ev y = some a) (hb : bndV E x = some n) : bndV E' x = some n := by
  cases x with
  | none => exact hb
  | some y =>
    cases hy : E.ev y with
    | none => simp [bndV, hy] at hb
    | some a => simp only [bndV, h y a rfl hy, hy] at hb ⊢; exact hb
theorem ment_get {r : Nat} : ∀ {l : List PC} {x : PC}, x ∈ l → x.ment r = true → mentA r l = true
  | y :: l, x, hx, hm => by
    simp only [mentA, PC.ment.mentL, Bool.or_eq_true]
    simp only [List.mem_cons] at hx
    rcases hx with rfl | hx
    · exact .inl hm
    · exact .inr (ment_get hx hm)
theorem viewA_congr {O' : Objs} {y : A1} (h : ∀ k, y.ment k = true → O'.get k = O.get k) : viewA O' y = viewA O y := by
  cases y with
  | c x => simp only [A1.map, viewP_congr (O := O) (O' := O') (p := x) h]
  | ag l =>
    simp only [A1.map]
    congr 1
    exact List.map_congr_left fun x hx => viewP_congr fun k hk => h k (ment_get hx hk)
theorem bif_of {c : Bool} {A B : Prop} (h : bif c then A else B) : (c = true ∧ A) ∨ (c = false ∧ B) := by
  cases c with
  | true => exact .inl ⟨rfl, h⟩
  | false => exact .inr ⟨rfl, h⟩
theorem bif_S {c : Bool} {A : Prop} {s : String} (h : bif c then A else Stuck s) : c = true ∧ A := by
  rcases bif_of h with h | h
  · exact h
  · exact h.2.elim
theorem shift_run {op : BinOp} {t t' : TypeId} {x y : Operand} {k k' : IntKind} {m n : Int} {r : Value} (hx : E.ev x = some (.c (.sc (.int k m)))) (hy : E.ev y = some (.c (.sc (.int k' n))))
    (ho : op = .shl ∨ op = .shr) (h : ∀ w, (Op.shift op k m k' n).run P w = .ok r w) (hr : scOk r) : Step P E O ⟨d, .binOp op t x y t', ty, pos, af, g⟩ (some (.c (.sc r))) .no :=
  .val fun _ K ok w a hs => by
    have e1 := (hs.ev hx).sc.1
    have e2 := (hs.ev hy).sc.1
    refine ⟨r, ?_, .ofSc hr⟩
    have hg : (eqGuard op t x y (.int k m) (.int k' n)).run P w = .ok () w := by
      unfold eqGuard
      rcases ho with rfl | rfl <;> rfl
    have hb : (binOp op t (.int k m) (.int k' n)).run P w = .ok r w := by
      have : binOp op t (.int k m) (.int k' n) = Op.shift op k m k' n := by rcases ho with rfl | rfl <;> rfl
      rw [this]; exact h w
    simp [execOp, e1, e2, hg, hb]
theorem binS_sound {op : BinOp} {t t' : TypeId} {x y : Operand} (h : binS E op x y K) : Out P E O ⟨d, .binOp op t x y t', ty, pos, af, g⟩ K := by
  unfold binS at h
  have shl : ∀ {E : Env} {O : Objs} {k k' : IntKind} {m n r : Int}, E.ev x = some (.c (.sc (.int k m))) → E.ev y = some (.c (.sc (.int k' n))) → 0 ≤ n → k.wrap (m * 2 ^ min n.toNat k.bits) = r → Step P E O ⟨d, .binOp .shl t x y t', ty, pos, af, g⟩ (some (.c (.sc (.int k r)))) .no :=
    fun {E O k k' m n r} hx hy h0 h1 => shift_run hx hy (.inl rfl) (fun w => by have hn : ¬ n < 0 := (by omega); simp [Op.shift, hn, h1]) (by rw [← h1]; exact wrap_inR _ _)
  have shr : ∀ {E : Env} {O : Objs} {k k' : IntKind} {m n r : Int}, E.ev x = some (.c (.sc (.int k m))) → E.ev y = some (.c (.sc (.int k' n))) → 0 ≤ n → m.fdiv (2 ^ min n.toNat k.bits) = r → inR k r → Step P E O ⟨d, .binOp .shr t x y t', ty, pos, af, g⟩ (some (.c (.sc (.int k r)))) .no :=
    fun {E O k k' m n r} hx hy h0 h1 h2 => shift_run hx hy (.inr rfl) (fun w => by have hn : ¬ n < 0 := (by omega); simp [Op.shift, hn, h1]) h2
  split at h
  · rename_i k m k' n hx hy
    have hq := bif_of h; clear h; rcases hq with ⟨hk, h⟩ | ⟨hk, h⟩
    · have e := kEq_spec hk
      subst e
      have bits : ∀ {E' : Env} {O' : Objs} {op : BinOp}, Agr E O E' O' (.binOp op t x y t') .no → ∀ (o : BinOp) (r : Int), (∀ w, (binOp o t (.int k m) (.int k n)).run P w = .ok (.int k (k.wrap r)) w) → Step P E' O' ⟨d, .binOp o t x y t', ty, pos, af, g⟩ (some (.c (.sc (.int k (k.wrap r))))) .no := fun A o r h => .bin (A.e _ _ (by simp [Op.operands, Call.operands]) hx) (A.e _ _ (by simp [Op.operands, Call.operands]) hy) h (wrap_inR _ _)
      cases op <;> simp only at h
      case add => obtain ⟨r, hr, h⟩ := h; subst hr; exact ⟨_, _, fun E' O' A => .arithW (A.e _ _ (by simp [Op.operands, Call.operands]) hx) (A.e _ _ (by simp [Op.operands, Call.operands]) hy) rfl, fun _ => nn, h⟩
      case sub => obtain ⟨r, hr, h⟩ := h; subst hr; exact ⟨_, _, fun E' O' A => .arithW (A.e _ _ (by simp [Op.operands, Call.operands]) hx) (A.e _ _ (by simp [Op.operands, Call.operands]) hy) rfl, fun _ => nn, h⟩
      case mul => obtain ⟨r, hr, h⟩ := h; subst hr; exact ⟨_, _, fun E' O' A => .arithW (A.e _ _ (by simp [Op.operands, Call.operands]) hx) (A.e _ _ (by simp [Op.operands, Call.operands]) hy) rfl, fun _ => nn, h⟩
      case quo => obtain ⟨hn, r, hr, hi, h⟩ := h; subst hr; exact ⟨_, _, fun E' O' A => .quo (A.e _ _ (by simp [Op.operands, Call.operands]) hx) (A.e _ _ (by simp [Op.operands, Call.operands]) hy) hn hi, fun _ => nn, h⟩
      case rem => obtain ⟨hn, r, hr, hi, h⟩ := h; subst hr; exact ⟨_, _, fun E' O' A => .rem (A.e _ _ (by simp [Op.operands, Call.operands]) hx) (A.e _ _ (by simp [Op.operands, Call.operands]) hy) hn hi, fun _ => nn, h⟩
      case and => obtain ⟨r, hr, h⟩ := h; subst hr; exact ⟨_, _, fun E' O' A => bits A .and _ (fun w => by simp [binOp, Op.intBits]), fun _ => nn, h⟩
      case or => obtain ⟨r, hr, h⟩ := h; subst hr; exact ⟨_, _, fun E' O' A => bits A .or _ (fun w => by simp [binOp, Op.intBits]), fun _ => nn, h⟩
      case xor => obtain ⟨r, hr, h⟩ := h; subst hr; exact ⟨_, _, fun E' O' A => bits A .xor _ (fun w => by simp [binOp, Op.intBits]), fun _ => nn, h⟩
      case andNot => obtain ⟨r, hr, h⟩ := h; subst hr; exact ⟨_, _, fun E' O' A => bits A .andNot _ (fun w => by simp [binOp, Op.intBits]), fun _ => nn, h⟩
      case shl => obtain ⟨h0, r, hr, h⟩ := h; exact ⟨_, _, fun E' O' A => shl (A.e _ _ (by simp [Op.operands, Call.operands]) hx) (A.e _ _ (by simp [Op.operands, Call.operands]) hy) h0 hr, fun _ => nn, h⟩
      case shr => obtain ⟨h0, r, hr, hi, h⟩ := h; exact ⟨_, _, fun E' O' A => shr (A.e _ _ (by simp [Op.operands, Call.operands]) hx) (A.e _ _ (by simp [Op.operands, Call.operands]) hy) h0 hr hi, fun _ => nn, h⟩
      all_goals exact ⟨_, _, fun E' O' A => .cmp (A.e _ _ (by simp [Op.operands, Call.operands]) hx) (A.e _ _ (by simp [Op.operands, Call.operands]) hy) rfl, fun _ => nn, h⟩
    · cases op <;> simp only at h
      case shl => obtain ⟨h0, r, hr, h⟩ := h; exact ⟨_, _, fun E' O' A => shl (A.e _ _ (by simp [Op.operands, Call.operands]) hx) (A.e _ _ (by simp [Op.operands, Call.operands]) hy) h0 hr, fun _ => nn, h⟩
      case shr => obtain ⟨h0, r, hr, hi, h⟩ := h; exact ⟨_, _, fun E' O' A => shr (A.e _ _ (by simp [Op.operands, Call.operands]) hx) (A.e _ _ (by simp [Op.operands, Call.operands]) hy) h0 hr hi, fun _ => nn, h⟩
      all_goals exact h.elim
  · rename_i p q hx hy
    cases op <;> simp only at h
    case add => exact ⟨_, _, fun E' O' A => .strAdd (A.e _ _ (by simp [Op.operands, Call.operands]) hx) (A.e _ _ (by simp [Op.operands, Call.operands]) hy) h.1, fun _ => nn, h.2⟩
    case eql => exact ⟨_, _, fun E' O' A => .strEq (A.e _ _ (by simp [Op.operands, Call.operands]) hx) (A.e _ _ (by simp [Op.operands, Call.operands]) hy), fun _ => nn, h⟩
    case neq => exact ⟨_, _, fun E' O' A => .strNe (A.e _ _ (by simp [Op.operands, Call.operands]) hx) (A.e _ _ (by simp [Op.operands, Call.operands]) hy), fun _ => nn, h⟩
    case lss => exact ⟨_, _, fun E' O' A => .strOp (A.e _ _ (by simp [Op.operands, Call.operands]) hx) (A.e _ _ (by simp [Op.operands, Call.operands]) hy) (fun _ => rfl) trivial, fun _ => nn, h⟩
    all_goals exact h.elim
  · exact h.elim
theorem loadS_sound (hT : T.ok P) {t : Nat} {x : Operand} (h : loadS T E O t x K) : Out P E O ⟨d, .load t x, ty, pos, af, g⟩ K := by
  unfold loadS at h
  split at h
  · rename_i td r sz i off ht hx
    have hti := (hT _ _ ht).1
    split at h
    · rename_i sz' els ho
      have hq := bif_S h; clear h; obtain ⟨hb, el, hel, h⟩ := hq
      split at h
      · rename_i y hy
        have hq := bif_S h; clear h; obtain ⟨hl, h⟩ := hq
        exact ⟨_, _, fun E' O' A => Step.load (P := P) (t := t) (A.e _ _ (by simp [Op.operands, Call.operands]) hx) ((atC_congr (fun k hk => A.o rfl _ _ k (by simp [Op.operands, Call.operands]) hx hk)).trans (by simp only [atC, ho, hb, cond_true, hel, Option.map_some])) (Nat.le_of_ble_eq_true hl) hy, fun _ => nn, h⟩
      · exact h.elim
    · rename_i sz' els ids ho
      have hq := bif_S h; clear h; obtain ⟨hb, el, hel, h⟩ := hq
      split at h
      · rename_i y hy
        have hq := bif_S h; clear h; obtain ⟨hl, h⟩ := hq
        exact ⟨_, _, fun E' O' A => Step.load (P := P) (t := t) (A.e _ _ (by simp [Op.operands, Call.operands]) hx) ((atC_congr (fun k hk => A.o rfl _ _ k (by simp [Op.operands, Call.operands]) hx hk)).trans (by simp only [atC, ho, hb, cond_true, hel, Option.map_some])) (Nat.le_of_ble_eq_true hl) hy, fun _ => nn, h⟩
      · exact h.elim
    · exact h.elim
  · rename_i td p hneg ht hx
    have hti := (hT _ _ ht).1
    split at h
    · rename_i xs hxs
      split at h
      · rename_i y hy
        have hq := bif_S h; clear h; obtain ⟨hl, h⟩ := hq
        exact ⟨_, _, fun E' O' A => Step.load (P := P) (t := t) (A.e _ _ (by simp [Op.operands, Call.operands]) hx) ((atC_congr (fun k hk => A.o rfl _ _ k (by simp [Op.operands, Call.operands]) hx hk)).trans hxs) (Nat.le_of_ble_eq_true hl) hy, fun _ => nn, h⟩
      · exact h.elim
    · exact h.elim
  · exact h.elim
theorem storeS_sound (hT : T.ok P) {t : Nat} {x v : Operand} (h : storeS T E O t x v K) : Out P E O ⟨d, .store t x v, ty, pos, af, g⟩ K := by
  unfold storeS at h
  split at h
  · rename_i td k off y ht hx hv
    have hti := (hT _ _ ht).1
    split at h
    · rename_i cells ho
      have hq := bif_S h; clear h; obtain ⟨hb, h⟩ := hq
      simp only [Bool.and_eq_true] at hb
      exact ⟨_, _, fun E' O' A => Step.storeAd (P := P) (t := t) (A.e _ _ (by simp [Op.operands, Call.operands]) hx) ((A.o rfl _ _ _ (by simp [Op.operands]) hx (Nat.beq_refl _)).trans ho) (A.e _ _ (by simp [Op.operands, Call.operands]) hv) (Nat.eq_of_beq_eq_true hb.1) (Nat.le_of_ble_eq_true hb.2), fun _ => nu, h⟩
    · exact h.elim
  · rename_i td r sz i off y ht hx hv
    have hti := (hT _ _ ht).1
    split at h
    · rename_i sz' els ho
      have hq := bif_S h; clear h; obtain ⟨hb, el, hel, h⟩ := hq
      simp only [Bool.and_eq_true] at hb
      have e := Nat.eq_of_beq_eq_true hb.1.1.1
      subst e
      exact ⟨_, _, fun E' O' A => Step.storeEa (P := P) (t := t) (A.e _ _ (by simp [Op.operands, Call.operands]) hx) ((A.o rfl _ _ _ (by simp [Op.operands]) hx (Nat.beq_refl _)).trans ho) (A.e _ _ (by simp [Op.operands, Call.operands]) hv) hel (Nat.eq_of_beq_eq_true hb.1.1.2) (Nat.le_of_ble_eq_true hb.1.2) hb.2, fun _ => nu, h⟩
    · rename_i sz' els ids ho
      have hq := bif_S h; clear h; obtain ⟨hb, el, hel, h⟩ := hq
      simp only [Bool.and_eq_true] at hb
      have e := Nat.eq_of_beq_eq_true hb.1.1
      subst e
      exact ⟨_, _, fun E' O' A => Step.storeEaO (P := P) (t := t) (A.e _ _ (by simp [Op.operands, Call.operands]) hx) ((A.o rfl _ _ _ (by simp [Op.operands]) hx (Nat.beq_refl _)).trans ho) (A.e _ _ (by simp [Op.operands, Call.operands]) hv) hel (Nat.eq_of_beq_eq_true hb.1.2) (Nat.le_of_ble_eq_true hb.2), fun _ => nu, h⟩
    · exact h.elim
  · exact h.elim
theorem indexS_sound (hT : T.ok P) {t : Nat} {x y : Operand} (h : indexS T E t x y K) : Out P E O ⟨d, .indexAddr t x y, ty, pos, af, g⟩ K := by
  unfold indexS at h
  split at h
  · rename_i e _ _ _ _ sz els k i ht hx hy
    have hs : TSl P t e := (hT _ _ ht).2
    split at h
    · rename_i td he
      have hti := (hT _ _ he).1
      have hq := bif_S h; clear h; obtain ⟨hb, h0, el, hel, h⟩ := hq
      have e1 := Nat.eq_of_beq_eq_true hb
      subst e1
      exact ⟨_, _, fun E' O' A => Step.indexSl (P := P) (A.e _ _ (by simp [Op.operands, Call.operands]) hx) (A.e _ _ (by simp [Op.operands, Call.operands]) hy) h0 hel, fun _ => nn, h⟩
    · exact h.elim
  · rename_i e _ _ _ _ r sz n k i ht hx hy
    have hs : TSl P t e := (hT _ _ ht).2
    split at h
    · rename_i td he
      have hti := (hT _ _ he).1
      have hq := bif_S h; clear h; obtain ⟨hb, h0, h1, h⟩ := hq
      have e1 := Nat.eq_of_beq_eq_true hb
      subst e1
      exact ⟨_, _, fun E' O' A => Step.indexOw (P := P) (A.e _ _ (by simp [Op.operands, Call.operands]) hx) (A.e _ _ (by simp [Op.operands, Call.operands]) hy) h0 h1, fun _ => nn, h⟩
    · exact h.elim
  · rename_i e _ _ _ _ r sz lo n k i ht hx hy
    have hs : TSl P t e := (hT _ _ ht).2
    split at h
    · rename_i td he
      have hti := (hT _ _ he).1
      have hq := bif_S h; clear h; obtain ⟨hb, h0, h1, h⟩ := hq
      have e1 := Nat.eq_of_beq_eq_true hb
      subst e1
      exact ⟨_, _, fun E' O' A => Step.indexOs (P := P) (A.e _ _ (by simp [Op.operands, Call.operands]) hx) (A.e _ _ (by simp [Op.operands, Call.operands]) hy) h0 h1, fun _ => nn, h⟩
    · exact h.elim
  · rename_i n e _ _ _ _ q off k i ht hx hy
    have hs : TArr P t n e := (hT _ _ ht).2
    split at h
    · rename_i td he
      have hti := (hT _ _ he).1
      obtain ⟨h0, h1, h⟩ := h
      exact ⟨_, _, fun E' O' A => Step.indexArrAd (P := P) (A.e _ _ (by simp [Op.operands, Call.operands]) hx) (A.e _ _ (by simp [Op.operands, Call.operands]) hy) h0 h1, fun _ => nn, h⟩
    · exact h.elim
  · rename_i n e _ _ _ _ cells k i ht hx hy
    have hs : TArr P t n e := (hT _ _ ht).2
    split at h
    · rename_i td he
      have hti := (hT _ _ he).1
      obtain ⟨h0, h1, h⟩ := h
      exact ⟨_, _, fun E' O' A => Step.indexArrRd (P := P) (A.e _ _ (by simp [Op.operands, Call.operands]) hx) (A.e _ _ (by simp [Op.operands, Call.operands]) hy) h0 h1, fun _ => nn, h⟩
    · exact h.elim
  · exact h.elim
theorem fieldAddrS_sound (hT : T.ok P) {s f : Nat} {x : Operand} (h : fieldAddrS T E s x f K) : Out P E O ⟨d, .fieldAddr s x f, ty, pos, af, g⟩ K := by
  unfold fieldAddrS at h
  split at h
  · rename_i fs _ _ _ _ p ht hx
    have hs := ((hT _ _ ht).2 : UD.ok P s (.st fs)).1
    split at h
    · rename_i off ft n hf
      have := hs _ _ _ _ hf
      split at h
      · exact ⟨_, _, fun E' O' A => Step.fieldAd (P := P) (Nat.succ_ne_zero n) (A.e _ _ (by simp [Op.operands, Call.operands]) hx), fun _ => nn, h⟩
      · exact ⟨_, _, fun E' O' A => Step.fieldEa (P := P) (Nat.succ_ne_zero n) (A.e _ _ (by simp [Op.operands, Call.operands]) hx), fun _ => nn, h⟩
      · exact ⟨_, _, fun E' O' A => Step.fieldRd (P := P) (Nat.succ_ne_zero n) (A.e _ _ (by simp [Op.operands, Call.operands]) hx), fun _ => nn, h⟩
      · exact h.elim
    · exact h.elim
  · exact h.elim
theorem sliceS_sound (hT : T.ok P) {t : Nat} {x : Operand} {lo hi : Option Operand} (h : sliceS T E t x lo hi K) : Out P E O ⟨d, .slice t x lo hi none, ty, pos, af, g⟩ K := by
  unfold sliceS at h
  split at h
  · rename_i e _ _ _ _ sz els l hh ht hx hl hhi
    have hs : TSl P t e := (hT _ _ ht).2
    split at h
    · rename_i td he
      have hti := (hT _ _ he).1
      have hq := bif_S h; clear h; obtain ⟨hb, l', h', e1, e2, h1, h2, h⟩ := hq
      have e3 := Nat.eq_of_beq_eq_true hb
      subst e3
      exact ⟨_, _, fun E' O' A => Step.sliceSl (P := P) (A.e _ _ (by simp [Op.operands, Call.operands]) hx) (bndV_congr (fun y _ hy => A.e _ _ (by simp [Op.operands, hy])) hl) (bndV_congr (fun y _ hy => A.e _ _ (by simp [Op.operands, hy])) hhi) e1 e2 h1 h2, fun _ => nn, h⟩
    · exact h.elim
  · rename_i e _ _ _ _ r sz n l hh ht hx hl hhi
    have hs : TSl P t e := (hT _ _ ht).2
    split at h
    · rename_i td he
      have hti := (hT _ _ he).1
      have hq := bif_S h; clear h; obtain ⟨hb, l', h', e1, e2, h2, h3, h⟩ := hq
      have e4 := Nat.eq_of_beq_eq_true hb
      subst e4
      rcases h with ⟨h1, h⟩ | ⟨h1, h⟩
      · exact ⟨_, _, fun E' O' A => (by
          have := Step.sliceOw (P := P) (E := E') (O := O') (t := t) (e := e) (bt := td.bt) (agg := td.agg) (z := td.z) (d := d) (ty := ty) (pos := pos) (af := af) (g := g) (A.e _ _ (by simp [Op.operands, Call.operands]) hx) (bndV_congr (fun y _ hy => A.e _ _ (by simp [Op.operands, hy])) hl) (bndV_congr (fun y _ hy => A.e _ _ (by simp [Op.operands, hy])) hhi) e1 e2 (by omega) h2 h3
          rwa [h1, Nat.beq_refl, cond_true] at this), fun _ => nn, h⟩
      · have hne : Nat.beq l' h' = false := by
          cases hbb : Nat.beq l' h' with
          | false => rfl
          | true => have := Nat.eq_of_beq_eq_true hbb; omega
        exact ⟨_, _, fun E' O' A => (by
          have := Step.sliceOw (P := P) (E := E') (O := O') (t := t) (e := e) (bt := td.bt) (agg := td.agg) (z := td.z) (d := d) (ty := ty) (pos := pos) (af := af) (g := g) (A.e _ _ (by simp [Op.operands, Call.operands]) hx) (bndV_congr (fun y _ hy => A.e _ _ (by simp [Op.operands, hy])) hl) (bndV_congr (fun y _ hy => A.e _ _ (by simp [Op.operands, hy])) hhi) e1 e2 (by omega) h2 h3
          rwa [hne, cond_false] at this), fun _ => nn, h⟩
    · exact h.elim
  · rename_i e _ _ _ _ r sz lo0 n l hh ht hx hl hhi
    have hs : TSl P t e := (hT _ _ ht).2
    split at h
    · rename_i td he
      have hti := (hT _ _ he).1
      have hq := bif_S h; clear h; obtain ⟨hb, l', h', e1, e2, h2, h⟩ := hq
      have e4 := Nat.eq_of_beq_eq_true hb
      subst e4
      rcases h with ⟨h1, h⟩ | ⟨h1, h⟩
      · exact ⟨_, _, fun E' O' A => (by
          have := Step.sliceOs (P := P) (E := E') (O := O') (t := t) (e := e) (bt := td.bt) (agg := td.agg) (z := td.z) (d := d) (ty := ty) (pos := pos) (af := af) (g := g) (A.e _ _ (by simp [Op.operands, Call.operands]) hx) (bndV_congr (fun y _ hy => A.e _ _ (by simp [Op.operands, hy])) hl) (bndV_congr (fun y _ hy => A.e _ _ (by simp [Op.operands, hy])) hhi) e1 e2 (by omega) h2
          rwa [h1, Nat.beq_refl, cond_true] at this), fun _ => nn, h⟩
      · have hne : Nat.beq l' h' = false := by
          cases hbb : Nat.beq l' h' with
          | false => rfl
          | true => have := Nat.eq_of_beq_eq_true hbb; omega
        exact ⟨_, _, fun E' O' A => (by
          have := Step.sliceOs (P := P) (E := E') (O := O') (t := t) (e := e) (bt := td.bt) (agg := td.agg) (z := td.z) (d := d) (ty := ty) (pos := pos) (af := af) (g := g) (A.e _ _ (by simp [Op.operands, Call.operands]) hx) (bndV_congr (fun y _ hy => A.e _ _ (by simp [Op.operands, hy])) hl) (bndV_congr (fun y _ hy => A.e _ _ (by simp [Op.operands, hy])) hhi) e1 e2 (by omega) h2
          rwa [hne, cond_false] at this), fun _ => nn, h⟩
    · exact h.elim
  · rename_i _ _ _ _ s l hh ht hx hl hhi
    obtain ⟨l', h', e1, e2, h1, h2, h⟩ := h
    exact ⟨_, _, fun E' O' A => Step.sliceStr (P := P) (hT _ _ ht).2 (A.e _ _ (by simp [Op.operands, Call.operands]) hx) (bndV_congr (fun y _ hy => A.e _ _ (by simp [Op.operands, hy])) hl) (bndV_congr (fun y _ hy => A.e _ _ (by simp [Op.operands, hy])) hhi) e1 e2 h1 h2, fun _ => nn, h⟩
  · exact h.elim
theorem arr1 {α : Type} {a : Array α} {x : α} (h : a.toList = [x]) : a = #[x] := by cases a; simp at h; rw [h]
theorem arr2 {α : Type} {a : Array α} {x y : α} (h : a.toList = [x, y]) : a = #[x, y] := by cases a; simp at h; rw [h]
theorem builtinS_sound (hT : T.ok P) {b : Builtin} {args : Array Operand} {ts : Array TypeId} (h : builtinS T E O b args.toList ts.toList K) : Out P E O ⟨d, .call ⟨.builtin b, args, ts⟩, ty, pos, af, g⟩ K := by
  unfold builtinS at h
  split at h
  · rename_i x t ha hts
    rw [arr1 ha, arr1 hts]
    split at h
    · rename_i e _ _ _ _ p ht hx
      have hs : TSl P t e := (hT _ _ ht).2
      split at h
      · rename_i n hn
        exact ⟨_, _, fun E' O' A => Step.len (P := P) (A.e _ _ (by simp [Op.operands, Call.operands]) hx) hn (by omega), fun _ => nn, h.2⟩
      · exact h.elim
    · rename_i _ _ _ _ s ht hx
      exact ⟨_, _, fun E' O' A => Step.lenS (P := P) (hT _ _ ht).2 (A.e _ _ (by simp [Op.operands, Call.operands]) hx), fun _ => nn, h⟩
    · exact h.elim
  · rename_i x y t t2 ha hts
    rw [arr2 ha, arr2 hts]
    split at h
    · rename_i e _ _ _ _ e2 _ _ _ _ r sz n p2 ht ht2 hx hy
      have hs : TSl P t e := (hT _ _ ht).2
      have hs2 : TSl P t2 e2 := (hT _ _ ht2).2
      split at h
      · rename_i td sz' els els2 he ho h2
        have hti := (hT _ _ he).1
        have hq := bif_S h; clear h; obtain ⟨hb, hn, h3, h4, h5, h6, h⟩ := hq
        simp only [Bool.and_eq_true] at hb
        have e1 := Nat.eq_of_beq_eq_true hb.1.1.1
        have e2 := Nat.eq_of_beq_eq_true hb.1.1.2
        subst e1
        subst e2
        exact ⟨_, _, fun E' O' A => Step.appOw (P := P) (A.e _ _ (by simp [Op.operands, Call.operands]) hx) ((A.o rfl _ _ _ (by simp [Op.operands, Call.operands]) hx (Nat.beq_refl _)).trans ho) (A.e _ _ (by simp [Op.operands, Call.operands]) hy) ((slC_congr (fun k hk => A.o rfl _ _ k (by simp [Op.operands, Call.operands]) hy hk)).trans h2) hn (Nat.eq_of_beq_eq_true hb.1.2) h3 h4 (A.n _ rfl) h5 h6, fun _ => na (NoM.of (noMB_spec hb.2)), h⟩
      · exact h.elim
    · exact h.elim
  · rename_i x y ts ha
    rw [arr2 ha]
    split at h
    · rename_i k m k' n hx hy
      have hq := bif_S h; clear h; obtain ⟨hk, h⟩ := hq
      have e := kEq_spec hk
      subst e
      exact ⟨_, _, fun E' O' A => Step.max2 (A.e _ _ (by simp [Op.operands, Call.operands]) hx) (A.e _ _ (by simp [Op.operands, Call.operands]) hy), fun _ => nn, h⟩
    · exact h.elim
  · rename_i x y ts ha
    rw [arr2 ha]
    split at h
    · rename_i k m k' n hx hy
      have hq := bif_S h; clear h; obtain ⟨hk, h⟩ := hq
      have e := kEq_spec hk
      subst e
      exact ⟨_, _, fun E' O' A => Step.min2 (A.e _ _ (by simp [Op.operands, Call.operands]) hx) (A.e _ _ (by simp [Op.operands, Call.operands]) hy), fun _ => nn, h⟩
    · exact h.elim
  · exact h.elim
theorem evs_len : ∀ {xs : List Operand} {l : List A1}, E.evs xs = some l → l.length = xs.length
  | [], l, h => by simp only [Env.evs, Option.some.injEq] at h; subst h; rfl
  | x :: xs, l, h => by
    simp only [Env.evs] at h
    split at h
    · cases hl : Env.evs E xs with
      | none => rw [hl] at h; cases h
      | some l' => rw [hl] at h; simp only [Option.map_some, Option.some.injEq] at h; subst h; simp [evs_len hl]
    · cases h
theorem evs_get : ∀ {xs : List Operand} {l : List A1}, E.evs xs = some l → ∀ (i : Nat) (x : Operand), xs[i]? = some x → ∃ y, l[i]? = some y ∧ E.ev x = some (.o y)
  | [], l, h, i, x, hx => by simp at hx
  | x :: xs, l, h, i, x', hx => by
    simp only [Env.evs] at h
    split at h
    · rename_i y hy
      cases hl : Env.evs E xs with
      | none => rw [hl] at h; cases h
      | some l' =>
        rw [hl] at h
        simp only [Option.map_some, Option.some.injEq] at h
        subst h
        cases i with
        | zero => simp at hx; subst hx; exact ⟨y, rfl, hy⟩
        | succ i => simp at hx; simpa using evs_get hl i x' hx
    · cases h
theorem evs_src : ∀ {xs : List Operand} {l : List A1}, E.evs xs = some l → ∀ (i : Nat) (y : A1), l[i]? = some y → ∃ x, xs[i]? = some x ∧ E.ev x = some (.o y)
  | [], l, h, i, y, hy => by simp only [Env.evs, Option.some.injEq] at h; subst h; simp at hy
  | x :: xs, l, h, i, y', hy' => by
    simp only [Env.evs] at h
    split at h
    · rename_i y hy
      cases hl : Env.evs E xs with
      | none => rw [hl] at h; cases h
      | some l' =>
        rw [hl] at h
        simp only [Option.map_some, Option.some.injEq] at h
        subst h
        cases i with
        | zero => simp at hy'; subst hy'; exact ⟨x, rfl, hy⟩
        | succ i => simp at hy'; simpa using evs_src hl i y' hy'
    · cases h
theorem callS_sound {f : FuncId} {args : Array Operand} {ts : Array TypeId} (h : callS P E O f [] args.toList K) : Out P E O ⟨d, .call ⟨.value (.func f), args, ts⟩, ty, pos, af, g⟩ K := by
  unfold callS at h
  split at h
  · rename_i l hl
    simp only [List.append_nil] at h
    have hq := bif_of h; clear h; rcases hq with ⟨_, res, hct, h⟩ | ⟨_, res, hct, h⟩
    · have hq := bif_S h; clear h; obtain ⟨hc, h⟩ := hq
      exact ⟨_, _, fun E' O' A => Step.call (evs_congr (fun y _ hy => A.e _ _ (by simp [Op.operands, Call.operands]; simp at hy; try simp [hy])) hl) hct hc, fun _ => nn, h⟩
    · have hq := bif_S h; clear h; obtain ⟨hc, h⟩ := hq
      exact ⟨_, _, fun E' O' A => Step.callS (evs_congr (fun y _ hy => A.e _ _ (by simp [Op.operands, Call.operands]; simp at hy; try simp [hy])) hl) (List.map_congr_left fun y hy => viewA_congr fun k hk => by obtain ⟨i, hi⟩ := List.mem_iff_getElem?.1 hy; obtain ⟨x, hx, he⟩ := evs_src hl i y hi; exact A.o rfl x _ k (by have := List.mem_of_getElem? hx; simp [Op.operands, Call.operands]; simp at this; simp [this]) he hk) hct hc, fun _ => nn, h⟩
  · exact h.elim
theorem opS_sound (hT : T.ok P) {op : Op} (h : opS P T E O d op K) : Out P E O ⟨d, op, ty, pos, af, g⟩ K := by
  unfold opS at h
  split at h
  · split at h
    · rename_i a ha; exact ⟨_, _, fun E' O' A => .move (A.e _ _ (by simp [Op.operands, Call.operands]) ha), fun _ => nn, h⟩
    · exact h.elim
  · split at h
    · rename_i a ha; exact ⟨_, _, fun E' O' A => .assign (A.e _ _ (by simp [Op.operands, Call.operands]) ha), fun _ => nn, h⟩
    · exact h.elim
  · split at h
    · rename_i b hc
      cases b with
      | true =>
        have h := h.out.1 rfl
        split at h
        · rename_i a ha; exact ⟨_, _, fun E' O' A => .pick (A.e _ _ (by simp [Op.operands, Call.operands]) hc) (fun _ => (A.e _ _ (by simp [Op.operands, Call.operands]) ha)) (fun h => by cases h), fun _ => nn, h⟩
        · exact h.elim
      | false =>
        have h := h.out.2 rfl
        split at h
        · rename_i a ha; exact ⟨_, _, fun E' O' A => .pick (A.e _ _ (by simp [Op.operands, Call.operands]) hc) (fun h => by cases h) (fun _ => (A.e _ _ (by simp [Op.operands, Call.operands]) ha)), fun _ => nn, h⟩
        · exact h.elim
    · exact h.elim
  · split at h
    · rename_i td k ht
      have hti := (hT _ _ ht).1
      have hq := bif_S h; clear h; obtain ⟨hb, h⟩ := hq
      simp only [Bool.and_eq_true] at hb
      exact ⟨_, _, fun E' O' A => Step.alloc (P := P) hb.1 (A.n _ rfl), fun _ => nw (NoM.of (noMB_spec hb.2)), h⟩
    · exact h.elim
  · split at h
    · rename_i y k hx
      have hq := bif_S h; clear h; obtain ⟨hb, h⟩ := hq
      simp only [Bool.and_eq_true, Bool.not_eq_true'] at hb
      exact ⟨_, _, fun E' O' A => Step.box (P := P) (A.e _ _ (by simp [Op.operands, Call.operands]) hx) hb.1 (A.n _ rfl), fun _ => nw (NoM.of (noMB_spec hb.2)), h⟩
    · exact h.elim
  · split at h
    · rename_i fs sz bt z l ht hl
      have hti : TI P _ sz bt true z := (hT _ _ ht).1
      have hpl : TPl P _ (fs.map fun x => (x.1, x.2.2)) := And.right (hT _ _ ht).2
      split at h
      · rename_i r hr
        have hq := bif_S h; clear h; obtain ⟨hb, h⟩ := hq
        exact ⟨_, _, fun E' O' A => Step.build (P := P) hb (evs_congr (fun y _ hy => A.e _ _ (by simp only [Op.operands]; exact hy)) hl) hr, fun _ => nn, h⟩
      · exact h.elim
    · exact h.elim
  · split at h
    · rename_i parts _ _ _ e _ _ _ _ l k ht hl
      have hs : TSl P _ e := (hT _ _ ht).2
      split at h
      · rename_i td he
        have hti := (hT _ _ he).1
        have hq := bif_S h; clear h; obtain ⟨hb, h⟩ := hq
        simp only [Bool.and_eq_true] at hb
        obtain ⟨⟨⟨⟨⟨⟨b1, b2⟩, b3⟩, b4⟩, b5⟩, b6⟩, b7⟩ := hb
        have b2' := Nat.eq_of_beq_eq_true b2
        have hal := allLen_spec b4
        have hlen : (parts.toList.map (·.1)).length = l.length := by rw [evs_len hl]; simp
        exact ⟨_, _, fun E' O' A => Step.buildSlice (P := P) (evs_congr (fun y _ hy => A.e _ _ (by simp only [Op.operands]; exact hy)) hl) (by rw [← hlen]; exact isRange_spec b1) b2' (Nat.eq_of_beq_eq_true b3) (fun y hy => (hal y hy).1) (fun y hy => (hal y hy).2) (Nat.le_of_ble_eq_true b5) (Nat.le_of_ble_eq_true b6) (A.n _ rfl), fun _ => nw (NoM.of (noMB_spec b7)), h⟩
      · exact h.elim
    · exact h.elim
  · split at h
    · rename_i e _ _ _ _ n c k ht hx hy
      have hs : TSl P _ e := (hT _ _ ht).2
      split at h
      · rename_i td he
        have hti := (hT _ _ he).1
        have hq := bif_S h; clear h; obtain ⟨hb, h0, h1, h2, h3, h⟩ := hq
        simp only [Bool.and_eq_true] at hb
        exact ⟨_, _, fun E' O' A => Step.makeSlice (P := P) (A.e _ _ (by simp [Op.operands, Call.operands]) hx) (A.e _ _ (by simp [Op.operands, Call.operands]) hy) hb.1.1 (Nat.eq_of_beq_eq_true hb.1.2) h0 h1 h2 h3 (A.n _ rfl), fun _ => nw (NoM.of (noMB_spec hb.2)), h⟩
      · exact h.elim
    · exact h.elim
  · exact loadS_sound hT h
  · exact storeS_sound hT h
  · split at h
    · rename_i p hx
      have hq := bif_S h; clear h; obtain ⟨hb, h⟩ := hq
      exact ⟨_, _, fun E' O' A => .nilCheck (A.e _ _ (by simp [Op.operands, Call.operands]) hx) hb, fun _ => nn, h⟩
    · exact h.elim
  · exact binS_sound h
  · split at h
    · rename_i b hx; exact ⟨_, _, fun E' O' A => .not (A.e _ _ (by simp [Op.operands, Call.operands]) hx), fun _ => nn, h⟩
    · exact h.elim
  · split at h
    · rename_i k n hx
      obtain ⟨r, hr, hi, h⟩ := h
      subst hr
      exact ⟨_, _, fun E' O' A => .neg (A.e _ _ (by simp [Op.operands, Call.operands]) hx) hi, fun _ => nn, h⟩
    · exact h.elim
  · split at h
    · rename_i n hx
      obtain ⟨r, hr, h⟩ := h
      subst hr
      exact ⟨_, _, fun E' O' A => .cpl (A.e _ _ (by simp [Op.operands, Call.operands]) hx), fun _ => nn, h⟩
    · exact h.elim
  · split at h
    · rename_i k1 _ _ _ _ k' _ _ _ _ k n hs ht hx
      obtain ⟨r, hr, h⟩ := h
      exact ⟨_, _, fun E' O' A => Step.convInt (P := P) (show P.underlying _ = some (.int k1) from (hT _ _ hs).2) (hT _ _ ht).2 (A.e _ _ (by simp [Op.operands, Call.operands]) hx) hr, fun _ => nn, h⟩
    · exact h.elim
  · split at h
    · rename_i f first caps _ _ l hf hl
      have hq := bif_S h; clear h; obtain ⟨hlt, h⟩ := hq
      obtain ⟨xs, rfl, h⟩ := h
      have : first = #[] := by cases first; simpa using hf
      subst this
      refine ⟨_, _, fun E' O' A => Step.makeFunc (P := P) hlt (fun i x hx => ?_) (by have := evs_len hl; simpa using this), fun _ => nn, h⟩
      obtain ⟨y, hy, he⟩ := evs_get hl i x hx
      simp only [List.getElem?_map, Option.map_eq_some_iff] at hy
      obtain ⟨y', hy', rfl⟩ := hy
      exact ⟨y', hy', A.e _ _ (by have := List.mem_of_getElem? hx; simp [Op.operands]; simpa using this) he⟩
    · rename_i f first caps _ _ _ _ _ hc
      split at h
      · rename_i l hl
        obtain ⟨xs, rfl, h⟩ := h
        have : caps = #[] := Array.ext' (List.length_eq_zero_iff.1 (evs_len hc).symm)
        subst this
        refine ⟨_, _, fun E' O' A => Step.makeBound (P := P) (fun i x hx => ?_) (by have := evs_len hl; simpa using this), fun _ => nn, h⟩
        obtain ⟨y, hy, he⟩ := evs_get hl i x hx
        simp only [List.getElem?_map, Option.map_eq_some_iff] at hy
        obtain ⟨y', hy', rfl⟩ := hy
        exact ⟨y', hy', A.e _ _ (by have := List.mem_of_getElem? hx; simp [Op.operands]; simp at this; simp [this]) he⟩
      · exact h.elim
    · exact h.elim
  · exact sliceS_sound hT h
  · exact fieldAddrS_sound hT h
  · split at h
    · rename_i fs _ _ _ _ l ht hx
      have hs := And.left (show _ ∧ TPl P _ (fs.map fun x => (x.1, x.2.2)) from (hT _ _ ht).2)
      split at h
      · rename_i off ft n hf
        have hfl := hs _ _ _ _ hf
        split at h
        · rename_i td htd
          have hti := (hT _ _ htd).1
          split at h
          · rename_i y hy
            have hq := bif_S h; clear h; obtain ⟨hb, h⟩ := hq
            exact ⟨_, _, fun E' O' A => Step.field (P := P) (A.e _ _ (by simp [Op.operands, Call.operands]) hx) (Nat.le_of_ble_eq_true hb) hy, fun _ => nn, h⟩
          · exact h.elim
        · exact h.elim
      · exact h.elim
    · exact h.elim
  · exact indexS_sound hT h
  · split at h
    · rename_i _ _ _ _ s k i ht hx hy
      obtain ⟨h0, b, hb, h⟩ := h
      exact ⟨_, _, fun E' O' A => Step.indexStr (P := P) (hT _ _ ht).2 (A.e _ _ (by simp [Op.operands, Call.operands]) hx) (A.e _ _ (by simp [Op.operands, Call.operands]) hy) h0 hb, fun _ => nn, h⟩
    · exact h.elim
  · split at h
    · rename_i l hx
      split at h
      · rename_i y hy; exact ⟨_, _, fun E' O' A => .extract (A.e _ _ (by simp [Op.operands, Call.operands]) hx) hy, fun _ => nn, h⟩
      · exact h.elim
    · exact h.elim
  · exact builtinS_sound hT h
  · exact callS_sound h
  · split at h
    · rename_i f caps l hf hl
      obtain ⟨res, hct, h⟩ := h
      have hq := bif_S h; clear h; obtain ⟨hc, h⟩ := hq
      exact ⟨_, _, fun E' O' A => Step.callV (A.e (.tmp _) _ (by simp [Op.operands, Call.operands]) hf) (evs_congr (fun y _ hy => A.e _ _ (by simp [Op.operands, Call.operands]; simp at hy; simp [hy])) hl) hct hc, fun _ => nn, h⟩
    · exact h.elim
  · exact h.elim
end
end Go.Proofs.YtjpbijdpkdmeaaaGreat.Pv
