/- Parts of a proof, joined: PvR PvS. -/
import Derived.Test.YtjpbijdpkdmeaaaGreatTfB
import Derived.Laws.IdiomStrings
namespace Go.Proofs.YtjpbijdpkdmeaaaGreat.Pv
open Go
theorem Hp.putNone {K : Km} {ok : Nat → Prop} {w : World} {O : Objs} {r sz : Nat} (hp : Hp K ok w O) (hm : NoM r O) : Hp (K.put r none) ok w (O.set r (.row sz [])) ∧ Fr K ok w O (K.put r none) ok w (O.set r (.row sz [])) := by
  have hKne : ∀ {q : Nat}, q ≠ r → (K.put r none) q = K q := fun h => K.put_ne _ h
  have hKe : (K.put r none) r = none := K.put_self r _
  have old : ∀ {k o}, (O.set r (.row sz [])).get k = some o → k ≠ r → O.get k = some o := fun {k o} h hne => by
    rwa [Objs.get_set, if_neg (fun e => hne e.symm)] at h
  refine ⟨⟨fun k o h => ?_, fun k k' o o' b L L' h1 h2 e1 e2 => ?_, fun k o b L h1 e1 => ?_, hp.lt, hp.hlt, hp.hok, fun k o b L h1 e1 => ?_⟩,
    Nat.le_refl _, fun _ _ _ _ => rfl, fun _ h => h, fun _ h => .inl h, fun k o b L h1 h2 => ?_, rfl, rfl, rfl, fun _ o h => ⟨o, h, SK.refl o⟩, fun q hq => hKne (by have := hm.1; omega), fun _ h => .inl h⟩
  · by_cases hk : k = r
    · subst hk
      rw [Objs.get_set, if_pos rfl] at h
      cases h
      exact .inl ⟨hKe, rfl⟩
    · have ho := old h hk
      refine (hp.obs k o ho).mono (fun _ h => h) (fun _ _ _ => rfl) (Nat.le_refl _) (hKne hk) (fun _ _ _ => rfl) (fun _ _ => ⟨rfl, fun _ _ => rfl, rfl, rfl, rfl, CSh.same fun _ _ => rfl⟩) fun q hq => ⟨?_, fun b _ _ cs e fr hc => ⟨cs, e, fr, hc, rfl⟩⟩
      by_cases hqr : q = r
      · subst hqr; exact absurd (hm.get ho) hq
      · exact hKne hqr
  · by_cases h3 : k = r
    · subst h3; rw [hKe] at e1; cases e1
    · by_cases h4 : k' = r
      · subst h4; rw [hKe] at e2; cases e2
      · rw [hKne h3] at e1
        rw [hKne h4] at e2
        exact hp.inj k k' o o' b L L' (old h1 h3) (old h2 h4) e1 e2
  · by_cases h3 : k = r
    · subst h3; rw [hKe] at e1; cases e1
    · rw [hKne h3] at e1
      exact hp.apart k o b L (old h1 h3) e1
  · by_cases h3 : k = r
    · subst h3; rw [hKe] at e1; cases e1
    · rw [hKne h3] at e1
      exact hp.how k o b L (old h1 h3) e1
  · by_cases h3 : k = r
    · subst h3; rw [hKe] at h2; cases h2
    · rw [hKne h3] at h2
      exact .inr ⟨k, o, L, old h1 h3, h2⟩
theorem Hp.over' {K : Km} {ok : Nat → Prop} {w w' : World} {O : Objs} (hp : Hp K ok w O) (h : w'.heap = w.heap) (ho : w'.os = w.os ∧ w'.tape = w.tape ∧ w'.output = w.output) : Hp K ok w' O := by
  have hb : ∀ b : Nat, w'.heap[b]? = w.heap[b]? := fun b => by rw [h]
  have hs : w'.heap.size = w.heap.size := by rw [h]
  exact ⟨fun k o h => (hp.obs k o h).mono (fun _ h => h) (fun b _ _ => hb b) (by omega) rfl (fun b _ _ => hb b) (fun _ _ => ⟨rfl, fun b _ => hb b, ho.1, ho.2.1, ho.2.2, CSh.same fun b _ => hb b⟩) (fun r _ => ⟨rfl, fun b _ _ cs e fr hc => ⟨cs, e, fr, (hb b).trans hc, rfl⟩⟩), hp.inj, hp.apart, fun b h => by rw [hs]; exact hp.lt b h, fun b h => by rw [hs]; exact hp.hlt b h, hp.hok, hp.how⟩
section
variable {P : Program} {E : Env} {O : Objs} {d : Option Tmp} {ty : TypeId} {pos : String} {af : Array Edge} {g : Option (Nat × Bool)}
theorem Step.newG {o : Oper} {k : Nat} {ob : Ob} {av : AV} (hm : NoM k O) (h : ∀ N K ok w a, Sim N K ok w E O a → ∃ (v : Value) (o' : Obj) (L : Nat) (w1 : World), w1.heap = w.heap ∧ w1.os = w.os ∧ w1.tape = w.tape ∧ w1.output = w.output ∧ (execOp a.eval o).run P w = .ok (.value v) (w1.alloc o') ∧
    HOb (K.put k (some (w.heap.size, L))) ok (w1.alloc o') k ob ∧ RelV (K.put k (some (w.heap.size, L))) ok (w1.alloc o') av v) : Step P E O o (some av) (.new k ob) := by
  intro N K ok w a next Q hs hn
  obtain ⟨v, o', L, w1, z1, z2, z3, z4, h1, h2, h3⟩ := h N K ok w a hs
  unfold Oper.wp
  rw [h1]
  have hp1 : Hp K ok w1 O := hs.hp.over' z1 ⟨z2, z3, z4⟩
  rw [← z1] at h2 h3
  have hb := new_block hp1 hm o' h2
  rw [z1] at hb h2 h3
  have hf := hb.2
  exact hn v _ ok _ ⟨fun x hx => by cases hx; exact h3, hb.1, ⟨by rw [← z1]; exact hf.size, by rw [← z1]; exact hf.keep, hf.okUp, by have := hf.okNew; rw [z1] at this; exact this, by have := hf.own; rw [z1] at this; exact this, hf.os.trans z2, hf.tape.trans z3, hf.output.trans z4, by rw [← z1]; exact hf.kind, hf.pin, by have := hf.hid; rw [z1] at this; exact this⟩, fun r hr => K.put_ne _ fun e => hr (by rw [e]; rfl)⟩
theorem rows_rel {els : List (List PC)} {sz : Nat} {K : Km} {ok : Nat → Prop} {w : World} {us : List Value} (h2 : Flat K ok w sz els us) (hc2 : closedLL els) : ∀ (j i : Nat) (el : List PC) (x : PC), els[j]? = some el → el[i]? = some x → ∃ u, us[j * sz + i]? = some u ∧ Rel ok w x u :=
  fun j i el x hj hi => by
    obtain ⟨u, hu, hr⟩ := h2.get j i el x hj hi
    exact ⟨u, hu, hr.closed (closedL_get (hc2 el (List.mem_of_getElem? hj)) i x hi)⟩
theorem Step.appNil {t t2 e e2 sz bt : Nat} {agg : Bool} {z : List Value} [hs : TSl P t e] [TI P e sz bt agg z] [hs2 : TSl P t2 e2] {x y : Operand} {k : Nat} {els2 : List (List PC)} {p2 : PC} (hx : E.ev x = some (.c (.sc (.slice none 0 0))))
    (hy : E.ev y = some (.c p2)) (h2 : slC O sz p2 = some els2) (hz : z.length = sz) (hbig : (els2.length + 768) * bt ≤ 17592186044416) (hbig2 : els2.length ≤ 35184372088832) (hm : NoM k O) (hc2 : closedLL els2) :
    Step P E O ⟨some k, .call ⟨.builtin .append, #[x, y], #[t, t2]⟩, ty, pos, af, g⟩ (some (.c (.ow k sz els2.length))) (.new k (.row sz els2)) := by
  intro N K ok w a next Q hsim hnext
  have hB : els2.length ≤ BIG := by simp only [BIG_eq]; omega
  have e1 := (hsim.ev hx).sc.1
  have hs2' := slC_rel hsim.hp (hsim.ev hy).one h2
  generalize hev2 : a.eval y = v2 at hs2'
  have hexec : (execOp a.eval ⟨some k, .call ⟨.builtin .append, #[x, y], #[t, t2]⟩, ty, pos, af, g⟩).run P w = ((Builtin.append_ #[t, t2] ty #[.slice none 0 0, v2]).run P w).andThen fun u w' => .ok (.value u) w' := by
    simp [execOp, resolve, invoke, builtin, e1, hev2]
  unfold Oper.wp
  rw [hexec]
  by_cases hne : els2 = []
  · subst hne
    obtain ⟨us, hu, hfl⟩ := hs2'.first (P := P)
    obtain ⟨A2, c2, rfl, _⟩ := hs2'.v
    have hsz := run_sizeOf (P := P) (t := e) w
    have hrun : (Builtin.append_ #[t, t2] ty #[.slice none 0 0, .slice A2 ([] : List (List PC)).length c2]).run P w = .ok (.slice none 0 0) w := by
      simp only [List.length_nil] at hu
      simp [Builtin.append_, run_underlying' hs.u, run_underlying' hs2.u, hsz, Builtin.lenOf, hu]
    rw [hrun]
    obtain ⟨a1, a2⟩ := hsim.hp.putNone (sz := sz) hm
    exact hnext _ _ ok w ⟨fun q hq => by cases hq; exact .o (.c (.owN (K.put_self k _))), a1, a2, fun r hr => K.put_ne _ fun e => hr (by rw [e]; rfl)⟩
  · have hpos : 0 < els2.length := List.length_pos_iff.2 hne
    have hs1 : SlR K ok w sz ([] : List (List PC)) (.slice none 0 0) := ⟨⟨none, 0, rfl, fun h => absurd rfl h⟩, fun j el hj => by simp at hj, by simp⟩
    obtain ⟨us, us2, cap, rest, hf1, hf2, hcap, hrest, hrun⟩ := append_grow (P := P) (t := t) (t2 := t2) (ty := ty) hs1 hs2' (A := none) (c := 0) rfl (by simpa using hpos) (by simpa using hbig) (by simpa using hB)
    rw [hrun]
    simp only [Result.andThen_ok]
    have hus : us = [] := by have := hf1.len; simpa using this
    subst hus
    simp only [List.length_nil, Nat.zero_add] at hcap hrest ⊢
    have hsz : ((([] : List Value).toArray ++ us2.toArray ++ rest : Array Value)).size = cap * sz := by
      simp [hf2.len, hrest, hz]
      rw [← Nat.add_mul]
      congr 1; omega
    have hob : HOb (K.put k (some (w.drew.heap.size, els2.length))) ok (w.drew.alloc (.cells (([] : List Value).toArray ++ us2.toArray ++ rest) e)) k (.row sz els2) :=
      row_new (w := w.drew) hB (by rw [hsz]; exact Nat.mul_le_mul_right _ hcap) hs2'.len fun j i el x hj hi => by
        obtain ⟨u, hu, hr⟩ := rows_rel hf2 hc2 j i el x hj hi
        refine ⟨u, ?_, Rel.mono (w := w) (w' := w.drew) (fun _ h => h) (fun _ _ _ => rfl) (Nat.le_refl _) hr⟩
        rw [Array.getElem?_append_left (by simpa using (List.getElem?_eq_some_iff.1 hu).1)]
        simpa using hu
    have hnb := new_block hsim.hp.drew hm (.cells (([] : List Value).toArray ++ us2.toArray ++ rest) e) hob
    refine hnext _ _ ok _ ⟨fun q hq => ?_, hnb.1, ?_, fun q hq => K.put_ne _ fun e => hq (by rw [e]; rfl)⟩
    · cases hq
      exact .o (.c (.ow (b := w.heap.size) (cs := ([] : List Value).toArray ++ us2.toArray ++ rest) (e := e) (fr := (0, 0)) (K.put_self k _) (alloc_new w.drew _) (by rw [hsz]; exact Nat.le_refl _) hcap))
    · have h := hnb.2
      exact ⟨h.size, h.keep, h.okUp, h.okNew, h.own, h.os, h.tape, h.output, h.kind, h.pin, h.hid⟩
theorem Step.appMake {t ti e sz bt : Nat} {agg : Bool} {z : List Value} {kd : IntKind} [hs : TSl P t e] [TI P e sz bt agg z] (hi : P.underlying ti = some (.int kd)) {x y : Operand} {k : Nat} {n : Int} (hx : E.ev x = some (.c (.sc (.slice none 0 0))))
    (hy : E.ev y = some (.c (.sc (.int .i64 n)))) (hzs : scAll z = true) (hz : z.length = sz) (hsz0 : 0 < sz) (hn : 0 < n) (hbig : n ≤ 1000000) (hbt : bt ≤ 1000) (hm : NoM k O) :
    Step P E O ⟨some k, .call ⟨.builtin .append, #[x, y], #[t, ti]⟩, ty, pos, af, g⟩ (some (.c (.ow k sz n.toNat))) (.new k (.row sz (List.replicate n.toNat (scsOf z)))) := by
  intro N K ok w a next Q hsim hnext
  have e1 := (hsim.ev hx).sc.1
  have e2 := (hsim.ev hy).sc.1
  have hscl : ∀ z : List Value, (scsOf z).length = z.length := by
    intro z; induction z with
    | nil => rfl
    | cons v l ih => simp [scsOf, ih]
  have hexec : (execOp a.eval ⟨some k, .call ⟨.builtin .append, #[x, y], #[t, ti]⟩, ty, pos, af, g⟩).run P w = ((Builtin.append_ #[t, ti] ty #[.slice none 0 0, .int .i64 n]).run P w).andThen fun u w' => .ok (.value u) w' := by
    simp [execOp, resolve, invoke, builtin, e1, e2]
  unfold Oper.wp
  rw [hexec]
  obtain ⟨m, rfl⟩ : ∃ m : Nat, n = (m : Int) := ⟨n.toNat, by omega⟩
  simp only [Int.toNat_natCast] at hnext
  obtain ⟨zv, hz1, hz2⟩ := run_zeroValue (P := P) (t := e) w.drew
  obtain ⟨i, hi1, hi2⟩ := run_typeInfo_bytes (P := P) (t := e) w
  obtain ⟨i', hi1', hi2'⟩ := run_typeInfo_bytes (P := P) (t := e) w.drew
  have hsz := run_sizeOf (P := P) (t := e) w
  have hw : IntKind.i64.wrap (m : Int) = m := wrap_of_inR ⟨by show (-9223372036854775808 : Int) ≤ _; omega, by show _ ≤ (9223372036854775807 : Int); omega⟩
  have hmb : m * bt ≤ 1000000000 := Nat.mul_le_mul (by omega : m ≤ 1000000) hbt
  have hno0 : ¬ ((281474976710656 : Int) < (m : Int) * (bt : Int)) := by
    have : ((m * bt : Nat) : Int) = (m : Int) * (bt : Int) := by simp
    omega
  have hcap := nextslicecap_le (need := m) (old := 0) (by omega)
  have hno : ¬ (281474976710656 < Builtin.nextslicecap m 0 * bt) := by
    have h1 : Builtin.nextslicecap m 0 * bt ≤ 16 * (m + 768) * bt := Nat.mul_le_mul_right _ hcap
    have h2 : 16 * (m + 768) * bt ≤ 16 * (1000000 + 768) * 1000 := Nat.mul_le_mul (by omega) hbt
    omega
  let q : Question := .appendCap m 0 e
  let cap := q.cut (w.tape w.drawn q)
  have hcapge : m ≤ cap := by
    show _ ≤ (Question.appendCap m 0 e).cut _
    simp [Question.cut]
  have hmz : ¬ (m * sz = 0) := by
    have : 0 < m * sz := Nat.mul_pos (by omega) hsz0
    omega
  have hnle : ¬ (m ≤ 0) := by omega
  let cells : Array Value := Builtin.zeroCells z.toArray m ++ Builtin.zeroCells z.toArray (cap - m)
  have hrun : (Builtin.append_ #[t, ti] ty #[.slice none 0 0, .int .i64 (m : Int)]).run P w = .ok (.slice (some ⟨w.heap.size, 0, none⟩) m cap) (w.drew.alloc (.cells cells e)) := by
    have hmax2 : ¬ ((9223372036854775807 : Int) < (m : Int)) := by omega
    have hneg : ¬ ((m : Int) < 0) := by omega
    simp [Builtin.append_, run_underlying' hs.u, run_underlying' hi, hsz, asInt, asIntOf, hw, hneg, hi1, hi2, hno0, hnle, hno, hmax2, hmz, Question.forced, newRow]
    rw [if_neg (by omega), hi1']
    have hs1 : SlR K ok w.drew sz ([] : List (List PC)) (.slice none 0 0) := ⟨⟨none, 0, rfl, fun h => absurd rfl h⟩, fun j el hj => by simp at hj, by simp⟩
    obtain ⟨us, hu, hfl⟩ := hs1.first (P := P)
    have hus : us = [] := by have := hfl.len; simpa using this
    subst hus
    simp only [List.length_nil] at hu
    simp [hu, hz1, hz2, cells, cap, q]
  rw [hrun]
  simp only [Result.andThen_ok]
  have hcs : cells.size = cap * sz := by
    simp [cells, Builtin.zeroCells, hz]
    rw [← Nat.add_mul]
    congr 1; omega
  have hob : HOb (K.put k (some (w.drew.heap.size, m))) ok (w.drew.alloc (.cells cells e)) k (.row sz (List.replicate m (scsOf z))) := by
    have := row_new (w := w.drew) (K := K) (ok := ok) (k := k) (sz := sz) (els := List.replicate m (scsOf z)) (cs := cells) (e := e) (by simp [BIG_eq]; omega) (by rw [List.length_replicate, hcs]; exact Nat.mul_le_mul_right _ hcapge) (fun j el hj => by
      rw [List.getElem?_replicate] at hj
      split at hj
      · cases hj; rw [hscl, hz]
      · cases hj) (fun j q el x' hj hq => by
      rw [List.getElem?_replicate] at hj
      split at hj
      · rename_i hjn
        cases hj
        obtain ⟨u, hu, hr⟩ := (scs_rel (K := K) (ok := ok) (w := w.drew) hzs).get q x' hq
        have hql : q < sz := by rw [← hz]; exact (List.getElem?_eq_some_iff.1 hu).1
        have hb : j * sz + q < m * sz := by
          have : (j + 1) * sz ≤ m * sz := Nat.mul_le_mul_right _ (by omega)
          rw [Nat.add_mul, Nat.one_mul] at this
          omega
        refine ⟨u, ?_, hr.closed (scsOf_closed z x' (List.mem_of_getElem? hq))⟩
        have hmod : (j * sz + q) % sz = q := by rw [Nat.mul_comm, Nat.mul_add_mod]; exact Nat.mod_eq_of_lt hql
        have hu' : z[q]? = some u := hu
        show (Builtin.zeroCells z.toArray m ++ Builtin.zeroCells z.toArray (cap - m))[j * sz + q]? = _
        rw [Array.getElem?_append_left (by simp [Builtin.zeroCells, hz]; exact hb)]
        simp [Builtin.zeroCells, hb, hz, hmod, hu']
      · cases hj)
    rwa [List.length_replicate] at this
  have hnb := new_block hsim.hp.drew hm (.cells cells e) hob
  refine hnext _ _ ok _ ⟨fun q hq => ?_, hnb.1, ?_, fun q hq => K.put_ne _ fun e => hq (by rw [e]; rfl)⟩
  · cases hq
    exact .o (.c (.ow (b := w.heap.size) (cs := cells) (e := e) (fr := (0, 0)) (K.put_self k _) (alloc_new w.drew _) (by rw [hcs]; exact Nat.le_refl _) hcapge))
  · have h := hnb.2
    exact ⟨h.size, h.keep, h.okUp, h.okNew, h.own, h.os, h.tape, h.output, h.kind, h.pin, h.hid⟩
theorem Step.cutNil {t e sz bt : Nat} {agg : Bool} {z : List Value} [hsl : TSl P t e] [TI P e sz bt agg z] {x : Operand} {hi : Option Operand} {h : Option Int} (hx : E.ev x = some (.c (.sc (.slice none 0 0)))) (hh : bndV E hi = some h) (eh : h.getD 0 = 0) :
    Step P E O ⟨d, .slice t x none hi none, ty, pos, af, g⟩ (some (.c (.sc (.slice none 0 0)))) .no :=
  .val fun N K ok w a hs => by
    have e1 := (hs.ev hx).sc.1
    have hsz := run_sizeOf (P := P) (t := e) w
    have hb := bounds_run (P := P) (isS := true) (cap := 0) (len := 0) (l' := 0) (h' := 0) (lo := none) (l := none) hs rfl hh rfl eh (Nat.le_refl _) (Nat.le_refl _)
    simp only [Option.map_none] at hb
    refine ⟨.slice none 0 0, ?_, .ofSc trivial⟩
    simp [execOp, e1, Instr.sliceAt, run_underlying' hsl.u, Instr.slice, hb, hsz]
theorem Step.slice3 {t e sz bt : Nat} {agg : Bool} {z : List Value} [hsl : TSl P t e] [TI P e sz bt agg z] {x hi mx : Operand} {lo : Option Operand} {k n : Nat} {p : PC} {k2 k3 : IntKind} {l : Option Int} (hx : E.ev x = some (.c p)) (hn : lenC p = some n)
    (hl : bndV E lo = some l) (el : l.getD 0 = 0) (hh : E.ev hi = some (.c (.sc (.int k2 0)))) (hm : E.ev mx = some (.c (.sc (.int k3 0)))) (hno : NoM k O) :
    Step P E O ⟨some k, .slice t x lo (some hi) (some mx), ty, pos, af, g⟩ (some (.c (.ow k sz 0))) (.new k (.row sz [])) := by
  intro N K ok w a next Q hs hnext
  obtain ⟨A, c, hv⟩ := lenC_rel (hs.ev hx).one hn
  have e2 := (hs.ev hh).sc.1
  have e3 := (hs.ev hm).sc.1
  have hsz := run_sizeOf (P := P) (t := e) w
  have hb : (Instr.sliceBounds true n c (lo.map a.eval) (some (.int k2 0)) (some (.int k3 0))).run P w = .ok (0, 0, 0) w := by
    cases lo with
    | none => simp [Instr.sliceBounds, Instr.sliceBound, asIntOf]
    | some y =>
      simp only [bndV] at hl
      split at hl
      · rename_i k1 n1 hy
        cases hl
        simp only [Option.getD_some] at el
        subst el
        have e1 := (hs.ev hy).sc.1
        simp [Instr.sliceBounds, Instr.sliceBound, asIntOf, e1]
      · cases hl
  have hrun : (execOp a.eval ⟨some k, .slice t x lo (some hi) (some mx), ty, pos, af, g⟩).run P w = .ok (.value (.slice A 0 0)) w := by
    simp [execOp, Instr.sliceAt, Instr.slice, run_underlying' hsl.u, hv, e2, e3, hb, hsz]
  unfold Oper.wp
  rw [hrun]
  obtain ⟨a1, a2⟩ := hs.hp.putNone (sz := sz) hno
  exact hnext _ _ ok w ⟨fun q hq => by cases hq; exact .o (.c (.owN (K.put_self k _))), a1, a2, fun r hr => K.put_ne _ fun e => hr (by rw [e]; rfl)⟩
theorem Step.trunc {t e sz bt : Nat} {agg : Bool} {z : List Value} [hsl : TSl P t e] [TI P e sz bt agg z] {x : Operand} {lo hi : Option Operand} {l h : Option Int} {r n h' : Nat} {els : List (List PC)} (hx : E.ev x = some (.c (.ow r sz n))) (ho : O.get r = some (.row sz els))
    (hl : bndV E lo = some l) (hh : bndV E hi = some h) (el : l.getD 0 = 0) (eh : h.getD n = h') (hn : n = els.length) (h2 : h' ≤ n) (hm : NoM r O) :
    Step P E O ⟨d, .slice t x lo hi none, ty, pos, af, g⟩ (some (.c (.ow r sz h'))) (.app r (.row sz (els.take h'))) := by
  intro N K ok w a next Q hs hnext
  have hsz := run_sizeOf (P := P) (t := e) w
  have hv := (hs.ev hx).one
  generalize hev : a.eval x = v at hv
  have hlt : (els.take h').length = h' := by simp; omega
  have hrun : ∀ (A : Option Addr) (c : Nat), v = .slice A n c → n ≤ c → (∀ b, A = some b → b.off = 0 ∧ b.spot = none) → (execOp a.eval ⟨d, .slice t x lo hi none, ty, pos, af, g⟩).run P w = .ok (.value (.slice A h' c)) w := by
    intro A c e hc hA
    have hb := bounds_run (P := P) hs (isS := true) (len := n) (cap := c) (l' := 0) (h' := h') hl hh (by simpa using el) (by simpa using eh) (Nat.zero_le _) (by omega)
    subst e
    cases A with
    | none => simp [execOp, Instr.sliceAt, Instr.slice, run_underlying' hsl.u, hev, hb, hsz]
    | some b =>
      obtain ⟨b1, b2⟩ := hA b rfl
      have hadd : b.add 0 = b := by
        obtain ⟨bb, oo, ss⟩ := b
        simp only at b2
        subst b2
        exact Addr.add_lit _ _ _ 
      simp [execOp, Instr.sliceAt, Instr.slice, run_underlying' hsl.u, hev, hb, hsz, hadd]
  cases hv with
  | cl h => cases h
  | @owN _ _ A hk =>
    obtain rfl : h' = 0 := by omega
    have he : els = [] := List.length_eq_zero_iff.1 hn.symm
    subst he
    have hnone : (execOp a.eval ⟨d, .slice t x lo hi none, ty, pos, af, g⟩).run P w = .ok (.value (.slice A 0 0)) w := by
      have hb := bounds_run (P := P) hs (isS := true) (len := 0) (cap := 0) (l' := 0) (h' := 0) hl hh (by simpa using el) (by simpa using eh) (Nat.le_refl _) (Nat.le_refl _)
      simp [execOp, Instr.sliceAt, Instr.slice, run_underlying' hsl.u, hev, hb, hsz]
    unfold Oper.wp
    rw [hnone]
    have hsub : SubO (O.set r (.row sz (([] : List (List PC)).take 0))) O := fun k o h => by
      rw [Objs.get_set] at h
      split at h
      · rename_i hkk; subst hkk; cases h; exact ho
      · exact h
    exact hnext _ K ok w ⟨fun q hq => by cases hq; exact .o (.c (.owN hk)), hs.hp.sub hsub, Fr.weak hsub, fun _ _ => rfl⟩
  | @ow _ _ _ b c cs0 e0 fr0 hk hb0 hc0 hnc =>
    rcases hs.hp.obs r _ ho with ⟨a1, _⟩ | ⟨b', cs, e1, fr, a1, a2, a3, a4, a5, a6, a7⟩
    · rw [hk] at a1; cases a1
    rw [hk] at a1
    cases a1
    rw [a2] at hb0
    cases hb0
    unfold Oper.wp
    rw [hrun _ c rfl hnc fun b hb => by cases hb; exact ⟨rfl, rfl⟩]
    have hle : (els.take h').length * sz ≤ cs0.size := by
      rw [hlt]
      exact Nat.le_trans (Nat.mul_le_mul_right _ (by omega)) a5
    have hget : ∀ (j : Nat) (el : List PC), (els.take h')[j]? = some el → els[j]? = some el := fun j el hj => by
      rw [List.getElem?_take] at hj
      split at hj
      · exact hj
      · cases hj
    have hu := upd_blockG (L1 := h') (ob' := .row sz (els.take h')) (o' := .cells cs0 e0 fr0) hs.hp ho hk a2 (SK.refl _) (.inr hm) (by
      rw [setBlk_same a2]
      exact .inr ⟨b, cs0, e0, fr0, by rw [hlt]; exact K.put_self r _, a2, a3, by rw [hlt]; omega, hle, fun j el hj => a6 j el (hget j el hj), fun j i el x hj hi => a7 j i el x (hget j el hj) hi⟩)
    rw [setBlk_same a2] at hu
    exact hnext _ _ ok w ⟨fun q hq => by
      cases hq
      exact .o (.c (.ow (b := b) (cs := cs0) (e := e0) (fr := fr0) (K.put_self r _) a2 hc0 (by omega))), hu.1, hu.2, fun q hq => K.put_ne _ fun e => hq (by rw [e]; rfl)⟩
def bRow (s : ByteArray) : List (List PC) := s.data.toList.map fun b => [.sc (.int .u8 (b.toNat : Int))]
theorem bRow_len {s : ByteArray} : (bRow s).length = s.size := by simp [bRow]
theorem bRow_get {s : ByteArray} {j : Nat} (h : j < s.data.size) : (bRow s)[j]? = some [.sc (.int .u8 (s.data[j].toNat : Int))] := by
  unfold bRow
  rw [List.getElem?_map, List.getElem?_eq_getElem (by simpa using h)]
  simp
theorem Step.strOfBytes {t t' e sz bt : Nat} {agg : Bool} {z : List Value} [hsl : TSl P t e] [TI P e sz bt agg z] (he : P.underlying e = some (.int .u8)) (ht' : P.underlying t' = some .string) {x : Operand} {p : PC} {s : ByteArray}
    (hx : E.ev x = some (.c p)) (hp : slC O 1 p = some (bRow s)) (hs : s.size ≤ BIG) : Step P E O ⟨d, .convert t t' x, ty, pos, af, g⟩ (some (.c (.sc (.string s)))) .no :=
  .val fun N K ok w a hsim => by
    have h := slC_rel hsim.hp (hsim.ev hx).one hp
    obtain ⟨A, c, hv, hA⟩ := h.v
    refine ⟨.string s, ?_, .ofSc hs⟩
    have hlen : (bRow s).length = s.data.toList.length := by simp [bRow]
    rw [hlen] at hv
    have key : (convert t t' (.slice A s.data.toList.length c)).run P w = .ok (.string ⟨s.data.toList.toArray⟩) w := by
      by_cases hne : bRow s = []
      · have h0 : s.data.toList = [] := by simpa [bRow] using hne
        rw [h0]
        cases A with
        | none => simp [convert, run_underlying' hsl.u, run_underlying' ht', run_underlying' he, Conv.bytesToString]; rfl
        | some A => simp [convert, run_underlying' hsl.u, run_underlying' ht', run_underlying' he, Conv.bytesToString, loadCells, loadCellsFrom]; rfl
      · obtain ⟨b, o, rfl, hc⟩ := hA hne
        refine run_convert_bytes_back w t t' e _ c s.data.toList hsl.u he ht' fun j hj => ?_
        have hj' : (bRow s)[j]? = some [.sc (.int .u8 (s.data.toList[j].toNat : Int))] := by rw [bRow_get (by simpa using hj)]; simp
        obtain ⟨u, hu, hr⟩ := hc j 0 _ _ hj' rfl
        rw [Addr.add_lit]
        have : u = .int .u8 (s.data.toList[j].toNat : Int) := by
          cases hr with | cl hr => cases hr with | sc _ => rfl
        rw [← this]
        simpa using hu
    simp only [execOp, hv, Sem.run_bind, key, Result.andThen_ok, Sem.run_pure]
theorem Step.bytesOfStr {t t' e bt : Nat} {agg : Bool} {z : List Value} [hsl : TSl P t' e] [TI P e 1 bt agg z] (he : P.underlying e = some (.int .u8)) (ht : P.underlying t = some .string) {x : Operand} {k : Nat} {s : ByteArray}
    (hx : E.ev x = some (.c (.sc (.string s)))) (hno : NoM k O) : Step P E O ⟨some k, .convert t t' x, ty, pos, af, g⟩ (some (.c (.ow k 1 s.size))) (.new k (.row 1 (bRow s))) :=
  .newG hno fun N K ok w a hsim => by
    obtain ⟨e1, e2⟩ := (hsim.ev hx).sc
    have hrun := run_bytes_of_string (P := P) w t t' e s ht hsl.u he
    have hcap := grownCap_ge w s.size 0 e
    have hsize : (bytesRow s (grownCap w s.size 0 e)).size = grownCap w s.size 0 e := by
      simp only [bytesRow, Array.size_append, Array.size_map, Array.size_replicate]
      have : s.data.size = s.size := rfl
      omega
    refine ⟨_, .cells (bytesRow s (grownCap w s.size 0 e)) e ((bytesRow s (grownCap w s.size 0 e)).size, (bytesRow s (grownCap w s.size 0 e)).size + 1), s.size, w.drew, rfl, rfl, rfl, rfl, by simp only [execOp, e1, Sem.run_bind, hrun, Result.andThen_ok, Sem.run_pure], ?_, .o (.c (.ow (b := w.heap.size) (cs := bytesRow s (grownCap w s.size 0 e)) (e := e) (fr := ((bytesRow s (grownCap w s.size 0 e)).size, (bytesRow s (grownCap w s.size 0 e)).size + 1)) (K.put_self k _) (alloc_new w.drew _) (by rw [hsize]; omega) hcap))⟩
    refine .inr ⟨w.heap.size, _, _, _, by rw [bRow_len]; exact K.put_self k _, alloc_new w.drew _, fun i hi h => by have h1 := h.1; have h2 := h.2; omega, by rw [bRow_len]; exact e2, by rw [bRow_len, hsize]; omega, fun j el hj => ?_, fun j i el x hj hi => ?_⟩
    · simp only [bRow, List.getElem?_map, Option.map_eq_some_iff] at hj
      obtain ⟨b, _, rfl⟩ := hj
      rfl
    · have hjl : j < s.data.size := by
        have := (List.getElem?_eq_some_iff.1 hj).1
        simpa [bRow] using this
      have hel : el = [.sc (.int .u8 (s.data[j].toNat : Int))] := by
        rw [bRow_get hjl] at hj
        exact (Option.some.inj hj).symm
      subst hel
      have hi0 : i = 0 := by
        have := (List.getElem?_eq_some_iff.1 hi).1
        simp at this; exact this
      subst hi0
      simp only [List.getElem?_cons_zero, Option.some.injEq] at hi
      subst hi
      refine ⟨_, by simpa using bytesRow_at s _ j hjl, .sc ?_⟩
      have := s.data[j].toNat_lt
      exact ⟨by omega, by omega⟩
theorem copy_run {t t2 e e2 sz bt : Nat} {agg : Bool} {z : List Value} [hs : TSl P t e] [TI P e sz bt agg z] [hs2 : TSl P t2 e2] {K : Km} {ok : Nat → Prop} {w : World} {els2 : List (List PC)} {v2 : Value} (h2 : SlR K ok w sz els2 v2) {b o n c m : Nat} {cs : Array Value} {e0 : TypeId} {fr : Nat × Nat}
    (hb : w.heap[b]? = some (.cells cs e0 fr)) (hf : ∀ j, j < cs.size → ¬ (fr.1 ≤ j ∧ j < fr.2)) (hm : m = min els2.length n) (hbd : o + m * sz ≤ cs.size) :
    ∃ us, Flat K ok w sz (els2.take m) us ∧ (Builtin.copy_ #[t, t2] ty #[.slice (some ⟨b, o, none⟩) n c, v2]).run P w = .ok (.int .i64 m) (setBlk w b (.cells (spliceA cs o us) e0 fr)) := by
  obtain ⟨A, c2, rfl, hA⟩ := h2.v
  have hsz := run_sizeOf (P := P) (t := e) w
  have hlen : (els2.take m).length = m := by simp; omega
  have h2' : SlR K ok w sz (els2.take m) (.slice A m c2) := by
    refine ⟨⟨A, c2, by rw [hlen], fun hne => ?_⟩, fun j el hj => ?_, by have := h2.big; omega⟩
    · obtain ⟨b', o', rfl, hc⟩ := hA (fun e => hne (by rw [e]; simp))
      refine ⟨b', o', rfl, fun j i el x hj hi => ?_⟩
      rw [List.getElem?_take] at hj
      split at hj
      · exact hc j i el x hj hi
      · cases hj
    · rw [List.getElem?_take] at hj
      split at hj
      · exact h2.len j el hj
      · cases hj
  obtain ⟨us, hu, hfl⟩ := h2'.first (P := P)
  rw [hlen] at hu
  have hst := run_storeCells (P := P) (o := o) us 0 cs w hb hf (by rw [hfl.len, hlen]; omega) hfl.ones
  have hu' : (Builtin.firstCells sz m (.slice A els2.length c2)).run P w = .ok us.toArray w := by
    cases A <;> exact hu
  have hmin : Nat.min els2.length n = m := by rw [hm]
  refine ⟨us, hfl, ?_⟩
  simp [Builtin.copy_, run_underlying' hs.u, Builtin.lenOf, hsz, hmin, hu', hst, goInt]
theorem Step.copyOw {t t2 e e2 sz bt : Nat} {agg : Bool} {z : List Value} [hs : TSl P t e] [TI P e sz bt agg z] [hs2 : TSl P t2 e2] {x y : Operand} {r n lo m : Nat} {els els2 : List (List PC)} {p1 p2 : PC} (hx : E.ev x = some (.c p1)) (h1 : (p1 = .ow r sz n ∧ lo = 0) ∨ p1 = .os r sz lo n) (ho : O.get r = some (.row sz els))
    (hy : E.ev y = some (.c p2)) (h2 : slC O sz p2 = some els2) (hm : m = min els2.length n) (hle : lo + m ≤ els.length) (hc2 : closedLL els2) :
    Step P E O ⟨d, .call ⟨.builtin .copy, #[x, y], #[t, t2]⟩, ty, pos, af, g⟩ (some (.c (.sc (.int .i64 m)))) (.upd r (.row sz (els.take lo ++ (els2.take m ++ els.drop (lo + m))))) := by
  intro N K ok w a next Q hsim hnext
  have hv1 := (hsim.ev hx).one
  have hs2' := slC_rel hsim.hp (hsim.ev hy).one h2
  generalize hev : a.eval x = v at hv1
  generalize hev2 : a.eval y = v2 at hs2'
  have hexec : (execOp a.eval ⟨d, .call ⟨.builtin .copy, #[x, y], #[t, t2]⟩, ty, pos, af, g⟩).run P w = ((Builtin.copy_ #[t, t2] ty #[v, v2]).run P w).andThen fun u w' => .ok (.value u) w' := by
    simp [execOp, resolve, invoke, builtin, hev, hev2]
  unfold Oper.wp
  rw [hexec]
  have hmi : inR .i64 (m : Int) := by
    have h3 := hs2'.big
    simp only [BIG_eq] at h3
    exact ⟨by omega, by omega⟩
  have hlen2 : (els2.take m).length = m := by simp; omega
  have hlenN : (els.take lo ++ (els2.take m ++ els.drop (lo + m))).length = els.length := by simp; omega
  -- nothing to copy
  have nothing : m = 0 → (els.take lo ++ (els2.take m ++ els.drop (lo + m))) = els := fun h => by subst h; simp
  rcases hsim.hp.obs r _ ho with ⟨k0, hels⟩ | ⟨b', cs, el, fr, a1, a2, a3, a4, a5, a6, a7⟩
  · -- no block
    obtain rfl : m = 0 := by rw [hels] at hle; simp at hle; omega
    have hv : ∃ A, v = .slice A n 0 ∧ n = 0 := by
      rcases h1 with ⟨rfl, _⟩ | rfl
      · cases hv1 with
        | cl h => cases h
        | owN _ => exact ⟨_, rfl, rfl⟩
        | ow hk => rw [k0] at hk; cases hk
      · cases hv1 with
        | cl h => cases h
        | os hk => rw [k0] at hk; cases hk
    obtain ⟨A, rfl, rfl⟩ := hv
    obtain ⟨A2, c2, rfl, _⟩ := hs2'.v
    have hsz := run_sizeOf (P := P) (t := e) w
    have hrun : (Builtin.copy_ #[t, t2] ty #[.slice A 0 0, .slice A2 els2.length c2]).run P w = .ok (.int .i64 0) w := by
      cases A <;> cases A2 <;> simp [Builtin.copy_, run_underlying' hs.u, Builtin.lenOf, hsz, Builtin.firstCells, loadCells, loadCellsFrom, storeCells, goInt]
    rw [hrun]
    have hnn := nothing rfl
    rw [hnn] at hnext
    have hsub : SubO (O.set r (.row sz els)) O := fun k o h => by
      rw [Objs.get_set] at h
      split at h
      · rename_i hkk; subst hkk; cases h; exact ho
      · exact h
    exact hnext _ K ok w ⟨fun q hq => by cases hq; exact .ofSc hmi, hsim.hp.sub hsub, Fr.weak hsub, fun _ _ => rfl⟩
  · have hv : ∃ c, v = .slice (some ⟨b', lo * sz, none⟩) n c := by
      rcases h1 with ⟨rfl, rfl⟩ | rfl
      · cases hv1 with
        | cl h => cases h
        | owN hk => rw [a1] at hk; cases hk
        | ow hk => rw [a1] at hk; cases hk; exact ⟨_, by rw [Nat.zero_mul]⟩
      · cases hv1 with
        | cl h => cases h
        | os hk => rw [a1] at hk; cases hk; exact ⟨_, rfl⟩
    obtain ⟨c, rfl⟩ := hv
    have hbd : lo * sz + m * sz ≤ cs.size := by
      rw [← Nat.add_mul]
      exact Nat.le_trans (Nat.mul_le_mul_right _ hle) a5
    obtain ⟨us, hfl, hrun⟩ := copy_run (P := P) (t := t) (t2 := t2) (ty := ty) (c := c) hs2' a2 a3 hm hbd
    rw [hrun]
    simp only [Result.andThen_ok]
    have husl : us.length = m * sz := by rw [hfl.len, hlen2]
    have hspl : ∀ q, (spliceA cs (lo * sz) us)[q]? = if lo * sz ≤ q ∧ q < lo * sz + us.length then us[q - lo * sz]? else cs[q]? := fun q => spliceA_get _ _ _ _ (by omega)
    have hkeep : ∀ c', ok c' → c' < w.heap.size → (setBlk w b' (.cells (spliceA cs (lo * sz) us) el fr)).heap[c']? = w.heap[c']? := fun c' hc' _ => by
      rw [setBlk_get, if_neg]
      rintro ⟨rfl, _⟩
      exact hsim.hp.apart r _ _ _ ho a1 hc'
    have lenj : ∀ (j : Nat) (el' : List PC), (els2.take m)[j]? = some el' → el'.length = sz := fun j el' hj => by
      rw [List.getElem?_take] at hj
      split at hj
      · exact hs2'.len j el' hj
      · cases hj
    have getj : ∀ (j : Nat), (els.take lo ++ (els2.take m ++ els.drop (lo + m)))[j]? = if lo ≤ j ∧ j < lo + m then (els2.take m)[j - lo]? else els[j]? := fun j => by
      have hlo : lo ≤ els.length := by omega
      have htl : (els.take lo).length = lo := by simp; omega
      rcases Nat.lt_or_ge j lo with h | h
      · rw [if_neg (by omega), List.getElem?_append_left (by omega), List.getElem?_take, if_pos h]
      · rw [List.getElem?_append_right (by omega), htl]
        rcases Nat.lt_or_ge j (lo + m) with h' | h'
        · rw [if_pos ⟨h, h'⟩, List.getElem?_append_left (by omega)]
        · rw [if_neg (by omega), List.getElem?_append_right (by omega), hlen2, List.getElem?_drop]
          congr 1; omega
    have hu := upd_block (K := K) (ok := ok) (ob' := .row sz (els.take lo ++ (els2.take m ++ els.drop (lo + m)))) (cs' := spliceA cs (lo * sz) us) hsim.hp ho a1 a2 (spliceA_size _ _ _)
      (.inr ⟨b', spliceA cs (lo * sz) us, el, fr, by rw [hlenN]; exact a1, by rw [setBlk_get, if_pos ⟨rfl, heap_lt a2⟩], by rw [spliceA_size]; exact a3, by rw [hlenN]; exact a4, by rw [hlenN, spliceA_size]; exact a5, fun j el' hj => ?_, fun j i el' x' hj hi => ?_⟩)
    · exact hnext _ K ok _ ⟨fun q hq => by cases hq; exact .ofSc hmi, hu.1, hu.2.1, fun _ _ => rfl⟩
    · rw [getj] at hj
      split at hj
      · exact lenj _ _ hj
      · exact a6 j el' hj
    · rw [getj] at hj
      split at hj
      · rename_i hin
        have hil : i < sz := by rw [← lenj _ _ hj]; exact (List.getElem?_eq_some_iff.1 hi).1
        obtain ⟨u, hu', hr⟩ := hfl.get (j - lo) i el' x' hj hi
        have hjm : (j - lo) * sz + i < us.length := (List.getElem?_eq_some_iff.1 hu').1
        have e1 : j * sz = lo * sz + (j - lo) * sz := by rw [← Nat.add_mul]; congr 1; omega
        have hel2 : el' ∈ els2 := List.take_subset _ _ (List.mem_of_getElem? hj)
        exact ⟨u, by rw [hspl, if_pos (by omega), ← hu']; congr 1; omega, (hr.closed (closedL_get (hc2 el' hel2) i x' hi)).mono (fun _ h => h) hkeep (by rw [setBlk_size]; exact Nat.le_refl _)⟩
      · rename_i hin
        obtain ⟨u, hu', hr⟩ := a7 j i el' x' hj hi
        have hil : i < sz := by rw [← a6 j el' hj]; exact (List.getElem?_eq_some_iff.1 hi).1
        refine ⟨u, ?_, hr.mono (fun _ h => h) hkeep (by rw [setBlk_size]; exact Nat.le_refl _)⟩
        rw [hspl, if_neg]
        · exact hu'
        · rintro ⟨h3, h4⟩
          rw [husl] at h4
          rcases Nat.lt_or_ge j lo with h5 | h5
          · have : (j + 1) * sz ≤ lo * sz := Nat.mul_le_mul_right _ h5
            rw [Nat.add_mul, Nat.one_mul] at this
            omega
          · have h6 : lo + m ≤ j := by omega
            have : (lo + m) * sz ≤ j * sz := Nat.mul_le_mul_right _ h6
            rw [Nat.add_mul] at this
            omega
theorem scsOf_len : ∀ z : List Value, (scsOf z).length = z.length
  | [] => rfl
  | _ :: l => by simp [scsOf, scsOf_len l]
theorem scAll_one : ∀ {z : List Value}, scAll z = true → ∀ {u : Value}, u ∈ z → one u = true
  | v :: l, h, u, hu => by
    simp only [scAll, Bool.and_eq_true] at h
    rcases List.mem_cons.1 hu with rfl | hu
    · have h0 := h.1
      cases u <;> first | rfl | (simp [scB] at h0)
    · exact scAll_one h.2 hu
theorem clear_run {t e sz bt : Nat} {agg : Bool} {z : List Value} [hs : TSl P t e] [TI P e sz bt agg z] {K : Km} {ok : Nat → Prop} {w : World} {b o n c : Nat} {cs : Array Value} {e0 : TypeId} {fr : Nat × Nat}
    (hb : w.heap[b]? = some (.cells cs e0 fr)) (hf : ∀ j, j < cs.size → ¬ (fr.1 ≤ j ∧ j < fr.2)) (hz : scAll z = true) (hzl : z.length = sz) (hn : 0 < n) (hbd : o + n * sz ≤ cs.size) :
    ∃ us, Flat K ok w sz (List.replicate n (scsOf z)) us ∧ (Builtin.clear_ #[t] ty #[.slice (some ⟨b, o, none⟩) n c]).run P w = .ok (.tuple #[]) (setBlk w b (.cells (spliceA cs o us) e0 fr)) := by
  obtain ⟨zv, hz1, hz2⟩ := run_zeroValue (P := P) (t := e) w
  have hul : (Builtin.zeroCells z.toArray n).toList.length = n * sz := by simp [Builtin.zeroCells, hzl]
  have hfl : Flat K ok w sz (List.replicate n (scsOf z)) (Builtin.zeroCells z.toArray n).toList := by
    refine ⟨by rw [hul, List.length_replicate], fun u hu => ?_, fun j q el x hj hq => ?_⟩
    · obtain ⟨i, hi⟩ := List.mem_iff_getElem?.1 hu
      have hil := (List.getElem?_eq_some_iff.1 hi).1
      rw [hul] at hil
      have hs0 : 0 < sz := by
        rcases Nat.eq_zero_or_pos sz with h | h
        · rw [h, Nat.mul_zero] at hil; omega
        · exact h
      have hq : i % sz < z.length := by rw [hzl]; exact Nat.mod_lt _ hs0
      have e1 : z[i % sz]? = some u := by
        rw [← hi]
        simp [Builtin.zeroCells, hil, hzl, List.getElem?_eq_getElem hq]
      exact scAll_one hz (List.mem_of_getElem? e1)
    · rw [List.getElem?_replicate] at hj
      split at hj
      · rename_i hjn
        cases hj
        obtain ⟨u, hu, hr⟩ := (scs_rel (K := K) (ok := ok) (w := w) hz).get q x hq
        have hql : q < sz := by rw [← hzl]; exact (List.getElem?_eq_some_iff.1 hu).1
        have hb2 : j * sz + q < n * sz := by
          have : (j + 1) * sz ≤ n * sz := Nat.mul_le_mul_right _ (by omega)
          rw [Nat.add_mul, Nat.one_mul] at this
          omega
        have hmod : (j * sz + q) % sz = q := by rw [Nat.mul_comm, Nat.mul_add_mod]; exact Nat.mod_eq_of_lt hql
        have hu' : z[q]? = some u := hu
        exact ⟨u, by simp [Builtin.zeroCells, hb2, hzl, hmod, hu'], hr⟩
      · cases hj
  have hst := run_storeCells (P := P) (o := o) (Builtin.zeroCells z.toArray n).toList 0 cs w hb hf (by rw [hul]; omega) hfl.ones
  refine ⟨_, hfl, ?_⟩
  obtain ⟨m, rfl⟩ : ∃ m, n = m + 1 := ⟨n - 1, by omega⟩
  simp [Builtin.clear_, run_underlying' hs.u, hz1, hz2, hst]
theorem Step.clearOw {t e sz bt : Nat} {agg : Bool} {z : List Value} [hs : TSl P t e] [TI P e sz bt agg z] {x : Operand} {r n lo : Nat} {els : List (List PC)} {p1 : PC} (hx : E.ev x = some (.c p1)) (h1 : (p1 = .ow r sz n ∧ lo = 0) ∨ p1 = .os r sz lo n) (ho : O.get r = some (.row sz els))
    (hz : scAll z = true) (hzl : z.length = sz) (hle : lo + n ≤ els.length) :
    Step P E O ⟨d, .call ⟨.builtin .clear, #[x], #[t]⟩, ty, pos, af, g⟩ none (.upd r (.row sz (els.take lo ++ (List.replicate n (scsOf z) ++ els.drop (lo + n))))) := by
  intro N K ok w a next Q hsim hnext
  have hv1 := (hsim.ev hx).one
  generalize hev : a.eval x = v at hv1
  have hexec : (execOp a.eval ⟨d, .call ⟨.builtin .clear, #[x], #[t]⟩, ty, pos, af, g⟩).run P w = ((Builtin.clear_ #[t] ty #[v]).run P w).andThen fun u w' => .ok (.value u) w' := by
    simp [execOp, resolve, invoke, builtin, hev]
  unfold Oper.wp
  rw [hexec]
  obtain ⟨rep, hrep⟩ : ∃ rep, rep = List.replicate n (scsOf z) := ⟨_, rfl⟩
  rw [← hrep] at hnext
  have hlen2 : rep.length = n := by rw [hrep, List.length_replicate]
  have replen : ∀ (j : Nat) (el' : List PC), rep[j]? = some el' → el'.length = sz := fun j el' hj => by
    rw [hrep, List.getElem?_replicate] at hj
    split at hj
    · cases hj; rw [scsOf_len, hzl]
    · cases hj
  have repcl : ∀ (j : Nat) (el' : List PC) (i : Nat) (x' : PC), rep[j]? = some el' → el'[i]? = some x' → x'.closed = true := fun j el' i x' hj hi => by
    rw [hrep, List.getElem?_replicate] at hj
    split at hj
    · cases hj; exact scsOf_closed z x' (List.mem_of_getElem? hi)
    · cases hj
  have hlenN : (els.take lo ++ (rep ++ els.drop (lo + n))).length = els.length := by simp; omega
  have nothing : n = 0 → (els.take lo ++ (rep ++ els.drop (lo + n))) = els := fun h => by
    subst h; rw [hrep]; simp
  have zero : ∀ (A : Option Addr) (c : Nat), (Builtin.clear_ #[t] ty #[.slice A 0 c]).run P w = .ok (.tuple #[]) w := fun A c => by
    cases A <;> simp [Builtin.clear_, run_underlying' hs.u]
  by_cases hn : n = 0
  · have hv : ∃ A c, v = .slice A 0 c := by
      rcases h1 with ⟨rfl, _⟩ | rfl
      · cases hv1 with
        | cl h => cases h
        | owN _ => exact ⟨_, _, rfl⟩
        | ow _ => exact ⟨_, _, by rw [hn]⟩
      · cases hv1 with
        | cl h => cases h
        | os _ => exact ⟨_, _, by rw [hn]⟩
    obtain ⟨A, c, rfl⟩ := hv
    rw [zero]
    rw [nothing hn] at hnext
    have hsub : SubO (O.set r (.row sz els)) O := fun k o h => by
      rw [Objs.get_set] at h
      split at h
      · rename_i hkk; subst hkk; cases h; exact ho
      · exact h
    exact hnext _ K ok w ⟨fun q hq => (by cases hq), hsim.hp.sub hsub, Fr.weak hsub, fun _ _ => rfl⟩
  have hn0 : 0 < n := by omega
  rcases hsim.hp.obs r _ ho with ⟨k0, hels⟩ | ⟨b', cs, el, fr, a1, a2, a3, a4, a5, a6, a7⟩
  · rw [hels] at hle; simp at hle; omega
  · have hv : ∃ c, v = .slice (some ⟨b', lo * sz, none⟩) n c := by
      rcases h1 with ⟨rfl, rfl⟩ | rfl
      · cases hv1 with
        | cl h => cases h
        | owN hk => rw [a1] at hk; cases hk
        | ow hk => rw [a1] at hk; cases hk; exact ⟨_, by rw [Nat.zero_mul]⟩
      · cases hv1 with
        | cl h => cases h
        | os hk => rw [a1] at hk; cases hk; exact ⟨_, rfl⟩
    obtain ⟨c, rfl⟩ := hv
    have hbd : lo * sz + n * sz ≤ cs.size := by
      rw [← Nat.add_mul]
      exact Nat.le_trans (Nat.mul_le_mul_right _ hle) a5
    obtain ⟨us, hfl, hrun⟩ := clear_run (P := P) (t := t) (ty := ty) (K := K) (ok := ok) (c := c) a2 a3 hz hzl hn0 hbd
    rw [← hrep] at hfl
    rw [hrun]
    simp only [Result.andThen_ok]
    have husl : us.length = n * sz := by rw [hfl.len, hlen2]
    have hspl : ∀ q, (spliceA cs (lo * sz) us)[q]? = if lo * sz ≤ q ∧ q < lo * sz + us.length then us[q - lo * sz]? else cs[q]? := fun q => spliceA_get _ _ _ _ (by omega)
    have hkeep : ∀ c', ok c' → c' < w.heap.size → (setBlk w b' (.cells (spliceA cs (lo * sz) us) el fr)).heap[c']? = w.heap[c']? := fun c' hc' _ => by
      rw [setBlk_get, if_neg]
      rintro ⟨rfl, _⟩
      exact hsim.hp.apart r _ _ _ ho a1 hc'
    have lenj := replen
    have getj : ∀ (j : Nat), (els.take lo ++ (rep ++ els.drop (lo + n)))[j]? = if lo ≤ j ∧ j < lo + n then rep[j - lo]? else els[j]? := fun j => by
      have hlo : lo ≤ els.length := by omega
      have htl : (els.take lo).length = lo := by simp; omega
      rcases Nat.lt_or_ge j lo with h | h
      · rw [if_neg (by omega), List.getElem?_append_left (by omega), List.getElem?_take, if_pos h]
      · rw [List.getElem?_append_right (by omega), htl]
        rcases Nat.lt_or_ge j (lo + n) with h' | h'
        · rw [if_pos ⟨h, h'⟩, List.getElem?_append_left (by omega)]
        · rw [if_neg (by omega), List.getElem?_append_right (by omega), hlen2, List.getElem?_drop]
          congr 1; omega
    have hu := upd_block (K := K) (ok := ok) (ob' := .row sz (els.take lo ++ (rep ++ els.drop (lo + n)))) (cs' := spliceA cs (lo * sz) us) hsim.hp ho a1 a2 (spliceA_size _ _ _)
      (.inr ⟨b', spliceA cs (lo * sz) us, el, fr, by rw [hlenN]; exact a1, by rw [setBlk_get, if_pos ⟨rfl, heap_lt a2⟩], by rw [spliceA_size]; exact a3, by rw [hlenN]; exact a4, by rw [hlenN, spliceA_size]; exact a5, fun j el' hj => ?_, fun j i el' x' hj hi => ?_⟩)
    · exact hnext _ K ok _ ⟨fun q hq => (by cases hq), hu.1, hu.2.1, fun _ _ => rfl⟩
    · rw [getj] at hj
      split at hj
      · exact lenj _ _ hj
      · exact a6 j el' hj
    · rw [getj] at hj
      split at hj
      · rename_i hin
        have hil : i < sz := by rw [← lenj _ _ hj]; exact (List.getElem?_eq_some_iff.1 hi).1
        obtain ⟨u, hu', hr⟩ := hfl.get (j - lo) i el' x' hj hi
        have hjm : (j - lo) * sz + i < us.length := (List.getElem?_eq_some_iff.1 hu').1
        have e1 : j * sz = lo * sz + (j - lo) * sz := by rw [← Nat.add_mul]; congr 1; omega
        exact ⟨u, by rw [hspl, if_pos (by omega), ← hu']; congr 1; omega, (hr.closed (repcl _ _ i x' hj hi)).mono (fun _ h => h) hkeep (by rw [setBlk_size]; exact Nat.le_refl _)⟩
      · rename_i hin
        obtain ⟨u, hu', hr⟩ := a7 j i el' x' hj hi
        have hil : i < sz := by rw [← a6 j el' hj]; exact (List.getElem?_eq_some_iff.1 hi).1
        refine ⟨u, ?_, hr.mono (fun _ h => h) hkeep (by rw [setBlk_size]; exact Nat.le_refl _)⟩
        rw [hspl, if_neg]
        · exact hu'
        · rintro ⟨h3, h4⟩
          rw [husl] at h4
          rcases Nat.lt_or_ge j lo with h5 | h5
          · have : (j + 1) * sz ≤ lo * sz := Nat.mul_le_mul_right _ h5
            rw [Nat.add_mul, Nat.one_mul] at this
            omega
          · have h6 : lo + n ≤ j := by omega
            have : (lo + n) * sz ≤ j * sz := Nat.mul_le_mul_right _ h6
            rw [Nat.add_mul] at this
            omega
def nilP : PC → Option Bool
  | .sc (.pointer none) => some true
  | .rd _ => some false
  | .ad _ _ => some false
  | .ea _ _ _ _ => some false
  | .sc (.map none) => some true
  | .mp _ => some false
  | .sc .nilFunc => some true
  | .fn _ _ => some false
  | _ => none
def nilV : Value → Option (Nat × Bool)
  | .pointer none => some (0, true)
  | .pointer (some _) => some (0, false)
  | .map none => some (1, true)
  | .map (some _) => some (1, false)
  | .nilFunc => some (2, true)
  | .func _ _ _ => some (2, false)
  | _ => none
def nilT : TypeDesc → Option Nat
  | .pointer _ => some 0
  | .map _ _ => some 1
  | .func _ _ _ => some 2
  | _ => none
theorem nilV0 {v : Value} {b : Bool} (h : nilV v = some (0, b)) : (v = .pointer none ∧ b = true) ∨ ∃ a, v = .pointer (some a) ∧ b = false := by
  cases v with
  | pointer a => cases a <;> cases h <;> first | exact .inl ⟨rfl, rfl⟩ | exact .inr ⟨_, rfl, rfl⟩
  | map a => cases a <;> cases h
  | _ => cases h
theorem nilV1 {v : Value} {b : Bool} (h : nilV v = some (1, b)) : (v = .map none ∧ b = true) ∨ ∃ a, v = .map (some a) ∧ b = false := by
  cases v with
  | map a => cases a <;> cases h <;> first | exact .inl ⟨rfl, rfl⟩ | exact .inr ⟨_, rfl, rfl⟩
  | pointer a => cases a <;> cases h
  | _ => cases h
theorem nilV2 {v : Value} {b : Bool} (h : nilV v = some (2, b)) : (v = .nilFunc ∧ b = true) ∨ ∃ x y z, v = .func x y z ∧ b = false := by
  cases v with
  | map a => cases a <;> cases h
  | pointer a => cases a <;> cases h
  | nilFunc => cases h; exact .inl ⟨rfl, rfl⟩
  | func x y z => cases h; exact .inr ⟨_, _, _, rfl, rfl⟩
  | _ => cases h
theorem nil_equal {t : TypeId} {D : TypeDesc} {n : Nat} {x y : Value} {b c : Bool} (ht : P.underlying t = some D) (hD : nilT D = some n) (hx : nilV x = some (n, b)) (hy : nilV y = some (n, c)) (hbc : b = true ∨ c = true) (w : World) :
    (Op.equal t x y).run P w = .ok (b && c) w := by
  unfold Op.equal Op.maxDepth Op.equalIn
  cases D <;> simp only [nilT, Option.some.injEq, reduceCtorEq] at hD <;> subst hD
  · rcases nilV0 hx with ⟨rfl, rfl⟩ | ⟨_, rfl, rfl⟩ <;> rcases nilV0 hy with ⟨rfl, rfl⟩ | ⟨_, rfl, rfl⟩ <;> simp_all [run_underlying' ht]
  · rcases nilV1 hx with ⟨rfl, rfl⟩ | ⟨_, rfl, rfl⟩ <;> rcases nilV1 hy with ⟨rfl, rfl⟩ | ⟨_, rfl, rfl⟩ <;> simp_all [run_underlying' ht]
  · rcases nilV2 hx with ⟨rfl, rfl⟩ | ⟨_, _, _, rfl, rfl⟩ <;> rcases nilV2 hy with ⟨rfl, rfl⟩ | ⟨_, _, _, rfl, rfl⟩ <;> simp_all [run_underlying' ht]
def nilK : PC → Option Nat
  | .sc (.pointer none) => some 0
  | .rd _ => some 0
  | .ad _ _ => some 0
  | .ea _ _ _ _ => some 0
  | .sc (.map none) => some 1
  | .mp _ => some 1
  | .sc .nilFunc => some 2
  | .fn _ _ => some 2
  | _ => none
theorem nilK_rel {K : Km} {ok : Nat → Prop} {w : World} {p : PC} {v : Value} {b : Bool} {n : Nat} (h : RelO K ok w p v) (hb : nilP p = some b) (hn : nilK p = some n) : nilV v = some (n, b) := by
  cases h with
  | cl h =>
    cases h with
    | @sc v h =>
      cases v with
      | pointer a => cases a with
        | none => cases hb; cases hn; rfl
        | some _ => exact h.elim
      | map a => cases a with
        | none => cases hb; cases hn; rfl
        | some _ => exact h.elim
      | nilFunc => cases hb; cases hn; rfl
      | _ => cases hb
    | rd => cases hb; cases hn; rfl
    | fn => cases hb; cases hn; rfl
    | _ => cases hb
  | ad => cases hb; cases hn; rfl
  | ea => cases hb; cases hn; rfl
  | mp => cases hb; cases hn; rfl
  | fn => cases hb; cases hn; rfl
  | _ => cases hb
theorem nilV_guard {v u : Value} {n m : Nat} {b c : Bool} (hx : nilV v = some (n, b)) {op : BinOp} {t : TypeId} {x y : Operand} (w : World) : (eqGuard op t x y v u).run P w = .ok () w := by
  unfold eqGuard
  cases v <;> first | (cases hx; done) | (cases op <;> rfl)
theorem nilV_bin {v u : Value} {n : Nat} {b c : Bool} (hx : nilV v = some (n, b)) {t : TypeId} : binOp .eql t v u = (do pure (.bool (← Op.equal t v u))) ∧ binOp .neq t v u = (do pure (.bool (!(← Op.equal t v u)))) := by
  cases v <;> first | (cases hx; done) | exact ⟨rfl, rfl⟩
theorem Step.isNil {op : BinOp} {t t' : TypeId} {D : TypeDesc} {x y : Operand} {p q : PC} {n : Nat} {b c : Bool} (ht : P.underlying t = some D) (hD : nilT D = some n) (hx : E.ev x = some (.c p)) (hy : E.ev y = some (.c q)) (hp : nilP p = some b) (hq : nilP q = some c) (kp : nilK p = some n) (kq : nilK q = some n) (hbc : b = true ∨ c = true)
    (ho : op = .eql ∨ op = .neq) : Step P E O ⟨d, .binOp op t x y t', ty, pos, af, g⟩ (some (.c (.sc (.bool (match op with | .eql => b && c | _ => !(b && c)))))) .no :=
  .val fun _ K ok w a hs => by
    have h1 := nilK_rel (hs.ev hx).one hp kp
    have h2 := nilK_rel (hs.ev hy).one hq kq
    have he := nil_equal (P := P) ht hD h1 h2 hbc w
    refine ⟨_, ?_, .ofSc trivial⟩
    obtain ⟨b1, b2⟩ := nilV_bin (u := a.eval y) (c := c) h1 (t := t)
    have hg := nilV_guard (P := P) (u := a.eval y) (m := n) (c := c) h1 (op := op) (t := t) (x := x) (y := y) w
    rcases ho with rfl | rfl
    · simp [execOp, hg, b1, he]
    · simp [execOp, hg, b2, he]
theorem Step.indexAgg {t e sz bt n : Nat} {agg : Bool} {z : List Value} [ha : TArr P t n e] [TI P e sz bt agg z] {x y : Operand} {k : IntKind} {i : Int} {l : List PC} {u : A1} (hx : E.ev x = some (.ag l)) (hy : E.ev y = some (.c (.sc (.int k i)))) (h0 : 0 ≤ i) (h1 : i < n)
    (hl : i.toNat * sz + sz ≤ l.length) (hu : mkA agg ((l.drop (i.toNat * sz)).take sz) = some u) : Step P E O ⟨d, .index t x y, ty, pos, af, g⟩ (some (.o u)) .no :=
  .val fun _ K ok w a hs => by
    have hr := hs.ev hx
    have e2 := (hs.ev hy).sc.1
    generalize hev : a.eval x = v at hr
    have hagg := run_isAgg (P := P) (t := e) w
    have hsz := run_sizeOf (P := P) (t := e) w
    cases hr with
    | o hr =>
      cases hr with
      | @ag _ cs hr =>
        have hrel := (hr.drop (i.toNat * sz)).take sz
        cases agg with
        | true =>
          simp only [mkA, Option.some.injEq] at hu
          subst hu
          refine ⟨.agg (cs.extract (i.toNat * sz) (i.toNat * sz + sz)), by simp [execOp, hev, e2, Instr.index, asIntOf, run_underlying' ha.u, h0, h1, part, hagg, hsz], .o (.ag ?_)⟩
          have : (cs.extract (i.toNat * sz) (i.toNat * sz + sz)).toList = (cs.toList.drop (i.toNat * sz)).take sz := by simp
          rw [this]; exact hrel
        | false =>
          cases hd : (l.drop (i.toNat * sz)).take sz with
          | nil => rw [hd] at hu; cases hu
          | cons c l' =>
            rw [hd] at hu hrel
            cases l' with
            | cons _ _ => cases hu
            | nil =>
              cases hu
              obtain ⟨u', hu', hru⟩ := hrel.get 0 c rfl
              rw [List.getElem?_take] at hu'
              split at hu'
              · rw [List.getElem?_drop, Nat.add_zero] at hu'
                have hu2 : cs[i.toNat * sz]? = some u' := by simpa using hu'
                exact ⟨u', by simp [execOp, hev, e2, Instr.index, asIntOf, run_underlying' ha.u, h0, h1, part, hagg, hsz, hu2], .o (.c hru)⟩
              · cases hu'
theorem Step.buildArr {t e n sz bt sz' bt' : Nat} {agg' : Bool} {z z' : List Value} [TI P t sz bt true z] [ha : TArr P t n e] [TI P e sz' bt' agg' z'] {parts : Array (Nat × Operand)} {l : List A1} {r : List PC} (hz : scAll z = true) (he : E.evs (parts.toList.map (·.2)) = some l)
    (hf : fillP (fun i => some (i * sz', sz')) (scsOf z) ((parts.toList.map (·.1)).zip l) = some r) : Step P E O ⟨d, .build t parts, ty, pos, af, g⟩ (some (.ag r)) .no :=
  .val fun _ K ok w a hs => by
    obtain ⟨zv, h1, h2⟩ := run_zeroValue (P := P) (t := t) w
    have hrel := evs_rel hs he
    have hll : l.length = parts.toList.length := by have := hrel.len; simp at this; simpa using this.symm
    have hm := run_sizeOf (P := P) (t := e) w
    obtain ⟨rs, hr1, hr2⟩ := fillP_rel (K := K) (ok := ok) (w := w) (fun i => some (i * sz', sz')) ((parts.toList.map (·.1)).zip l) ((parts.map fun p => (p.1, a.eval p.2)).toList) (scsOf z) r z.toArray (by simpa using scs_rel hz)
      (by rw [List.map_fst_zip (by simp [hll])]; simp [Function.comp_def]) (by rw [List.map_snd_zip (by simp [hll])]; simpa [Function.comp_def] using hrel) hf
    refine ⟨.agg rs, ?_, .o (.ag hr2)⟩
    simp only [execOp, Instr.build, Sem.run_bind, h1, Result.andThen_ok, run_underlying' ha.u, hm, h2, hr1, Sem.run_pure]
end
end Go.Proofs.YtjpbijdpkdmeaaaGreat.Pv
namespace Go.Proofs.YtjpbijdpkdmeaaaGreat.Pv
open Go
class TZ (P : Program) (e : TypeId) (agg : outParam Bool) : Prop where
  u : ((P.info? e).bind (·.zero)).map one = some (!agg)
class TMap (P : Program) (t : TypeId) (k e : outParam TypeId) : Prop where
  u : P.underlying t = some (.map k e)
def keyT : TypeDesc → Bool
  | .int _ => true
  | .string => true
  | _ => false
def findV (D : TypeDesc) (key : Value) : List Value → Nat → Option (Option Nat)
  | [], _ => some none
  | k :: ks, i => match Instr.sameNow D key k with
    | some true => some (some i)
    | some false => findV D key ks (i + 1)
    | none => none
def fnd : Option Nat → Bool
  | some _ => true
  | none => false
def luOk (vs : List (List PC)) (agg : Bool) (z : List Value) : Option Nat → A1 → Prop
  | some j, u => ∃ l, vs[j]? = some l ∧ mkA agg l = some u
  | none, u => mkA agg (scsOf z) = some u
def updMp (agg : Bool) (ks : List Value) (vs : List (List PC)) (key : Value) (l : List PC) : Option Nat → Ob
  | some j => .mp agg ks (vs.set j l)
  | none => .mp agg (ks ++ [key]) (vs ++ [l])
def mapOp (ins : Bool) (t : TypeId) (x y q : Operand) : Op := match ins with | true => .insert t x y q | false => .mapUpdate t x y q
theorem findV_now {D : TypeDesc} {key : Value} : ∀ {ks : List Value} {es : List MapEntry} {i : Nat} {r : Option Nat}, es.map (·.key) = ks → findV D key ks i = some r →
    (∀ j, r = some j → i ≤ j ∧ ∃ e, es[j - i]? = some e ∧ Instr.sameNow D key e.key = some true ∧ Instr.findNow D key es i = some (some (j, e.val))) ∧ (r = none → Instr.findNow D key es i = some none)
  | [], [], i, r, _, h => by
    simp only [findV, Option.some.injEq] at h
    subst h
    exact ⟨fun j hj => (by cases hj), fun _ => rfl⟩
  | [], _ :: _, _, _, he, _ => by cases he
  | _ :: _, [], _, _, he, _ => by cases he
  | k :: ks, e :: es, i, r, he, h => by
    simp only [List.map_cons, List.cons.injEq] at he
    obtain ⟨rfl, he⟩ := he
    simp only [findV] at h
    simp only [Instr.findNow]
    cases hs : Instr.sameNow D key e.key with
    | none => rw [hs] at h; cases h
    | some b =>
      rw [hs] at h
      cases b with
      | true =>
        simp only [Option.some.injEq] at h
        subst h
        exact ⟨fun j hj => by cases hj; exact ⟨Nat.le_refl _, e, by simp, hs, rfl⟩, fun h => by cases h⟩
      | false =>
        obtain ⟨h1, h2⟩ := findV_now he h
        refine ⟨fun j hj => ?_, h2⟩
        obtain ⟨a1, e', a2, a3, a4⟩ := h1 j hj
        refine ⟨by omega, e', ?_, a3, a4⟩
        rw [show j - i = (j - (i + 1)) + 1 by omega, List.getElem?_cons_succ]
        exact a2
theorem bytes_beq (a b : ByteArray) : (a == b) = true ↔ a = b := by
  constructor
  · intro h
    have h2 : (a.data == b.data) = true := h
    have h3 : a.data = b.data := by simpa using h2
    cases a; cases b; simp_all
  · rintro rfl
    show (a.data == a.data) = true
    simp
theorem map_keys {ok : Nat → Prop} {w : World} {agg : Bool} {ks : List Value} {vs : List (List PC)} {es : Array MapEntry} (h : MapR ok w agg ks vs es) : es.toList.map (·.key) = ks := by
  apply List.ext_getElem?
  intro i
  rw [List.getElem?_map]
  cases hk : ks[i]? with
  | none =>
    have : ks.length ≤ i := List.getElem?_eq_none_iff.1 hk
    rw [List.getElem?_eq_none (by simp; have := h.size; omega)]; rfl
  | some k =>
    obtain ⟨e, he, hke⟩ := h.key i k hk
    have : es.toList[i]? = some e := by simpa using he
    rw [this, ← hke]; rfl
theorem ValR.relA {K : Km} {ok : Nat → Prop} {w : World} {agg : Bool} {l : List PC} {v : Value} {y : A1} (h : ValR ok w agg l v) (hy : mkA agg l = some y) : RelA K ok w y v := by
  cases h with
  | c h => simp only [mkA, Option.some.injEq] at hy; subst hy; exact .c (.cl h)
  | ag h1 h2 =>
    simp only [mkA, Option.some.injEq] at hy; subst hy
    exact .ag ⟨by simpa using h1, fun i x hx => by obtain ⟨u, hu, hr⟩ := h2 i x hx; exact ⟨u, by simpa using hu, .cl hr⟩⟩
theorem RelA.valR {K : Km} {ok : Nat → Prop} {w : World} {y : A1} {v : Value} (h : RelA K ok w y v) (hc : closedL y.cells = true) : ∃ agg, mkA agg y.cells = some y ∧ ValR ok w agg y.cells v := by
  cases h with
  | c h => exact ⟨false, rfl, .c (h.closed (by simpa [A1.cells, closedL] using hc))⟩
  | ag h => exact ⟨true, rfl, .ag (by have := h.len; simpa [A1.cells] using this) fun i x hx => by obtain ⟨u, hu, hr⟩ := h.get i x hx; exact ⟨u, by simpa using hu, hr.closed (closedL_get hc i x hx)⟩⟩
section
variable {P : Program} {E : Env} {O : Objs} {d : Option Tmp} {ty : TypeId} {pos : String} {af : Array Edge} {g : Option (Nat × Bool)}
theorem run_checkKey {t : TypeId} {D : TypeDesc} (ht : P.underlying t = some D) (hD : keyT D = true) (b : Bool) (v : Value) (w : World) : (Instr.checkKey b 10000 t v).run P w = .ok () w := by
  unfold Instr.checkKey
  simp only [Sem.run_bind, run_underlying' ht, Result.andThen_ok]
  cases D <;> first | (cases hD; done) | rfl
theorem run_findKey {t : TypeId} {D : TypeDesc} (ht : P.underlying t = some D) {key : Value} {es : List MapEntry} {r : Option (Nat × Value)} (h : Instr.findNow D key es 0 = some r) (w : World) : (Instr.findKey t key es).run P w = .ok r w := by
  unfold Instr.findKey
  simp only [Sem.run_bind, run_underlying' ht, Result.andThen_ok, h, Sem.run_pure]
theorem mp_rel {N : Cx} {K : Km} {ok : Nat → Prop} {w : World} {a : Act} (hs : Sim N K ok w E O a) {x : Operand} {r : Nat} {agg : Bool} {ks : List Value} {vs : List (List PC)} (hx : E.ev x = some (.c (.mp r))) (ho : O.get r = some (.mp agg ks vs)) :
    ∃ b es cl, a.eval x = .map (some b) ∧ K r = some (b, 0) ∧ w.heap[b]? = some (.map es cl) ∧ MapR ok w agg ks vs es := by
  have hv := (hs.ev hx).one
  generalize a.eval x = v at hv
  obtain ⟨b, es, cl, a1, a2, a3⟩ := hs.hp.obs r _ ho
  cases hv with
  | cl h => cases h
  | mp hk => rw [a1] at hk; cases hk; exact ⟨b, es, cl, rfl, a1, a2, a3⟩
theorem Step.makeMap {t k e : TypeId} [TMap P t k e] {q : Nat} {agg : Bool} (hm : NoM q O) : Step P E O ⟨some q, .makeMap t none, ty, pos, af, g⟩ (some (.c (.mp q))) (.new q (.mp agg [] [])) :=
  .newG hm fun N K ok w a hs => by
    refine ⟨.map (some w.heap.size), .map #[] 0, 0, w, rfl, rfl, rfl, rfl, by simp [execOp, Instr.makeMap], ?_, .o (.c (.mp (K.put_self q _)))⟩
    exact ⟨w.heap.size, #[], 0, K.put_self q _, alloc_new w _, ⟨rfl, rfl, fun i k h => by simp at h, fun i l h => by simp at h⟩⟩
theorem Step.makeMapN {t k e : TypeId} [hM : TMap P t k e] {q : Nat} {agg : Bool} {x : Operand} {ki : IntKind} {n : Int} (hx : E.ev x = some (.c (.sc (.int ki n)))) (hm : NoM q O) : Step P E O ⟨some q, .makeMap t (some x), ty, pos, af, g⟩ (some (.c (.mp q))) (.new q (.mp agg [] [])) :=
  .newG hm fun N K ok w a hs => by
    have e1 := (hs.ev hx).sc.1
    refine ⟨.map (some w.heap.size), .map #[] 0, 0, w, rfl, rfl, rfl, rfl, by simp [execOp, Instr.makeMap, e1, run_underlying' hM.u, asInt, asIntOf], ?_, .o (.c (.mp (K.put_self q _)))⟩
    exact ⟨w.heap.size, #[], 0, K.put_self q _, alloc_new w _, ⟨rfl, rfl, fun i k h => by simp at h, fun i l h => by simp at h⟩⟩
theorem Step.lenMap {t k e : TypeId} [hM : TMap P t k e] {x : Operand} {r : Nat} {agg : Bool} {ks : List Value} {vs : List (List PC)} (hx : E.ev x = some (.c (.mp r))) (ho : O.get r = some (.mp agg ks vs)) (hb : ks.length ≤ BIG) :
    Step P E O ⟨d, .call ⟨.builtin .len, #[x], #[t]⟩, ty, pos, af, g⟩ (some (.c (.sc (.int .i64 ks.length)))) .no :=
  .val fun N K ok w a hs => by
    obtain ⟨b, es, cl, h1, h2, h3, h4⟩ := mp_rel hs hx ho
    have hg : (getObj b).run P w = .ok (.map es cl) w := by simp [getObj, Sem.run, h3]
    simp only [BIG_eq] at hb
    refine ⟨_, ?_, .ofSc (show inR .i64 (ks.length : Int) from ⟨by omega, by omega⟩)⟩
    simp [execOp, resolve, invoke, builtin, Builtin.len_, h1, run_underlying' hM.u, hg, goInt, h4.size]
theorem Step.lookup {t kt e : TypeId} {D : TypeDesc} {sz bt : Nat} {agg : Bool} {z : List Value} [hM : TMap P t kt e] [hTI : TI P e sz bt agg z] [hTZ : TZ P e agg] (ht : P.underlying kt = some D) (hD : keyT D = true) {x y : Operand} {key : Value} {r : Nat} {ks : List Value} {vs : List (List PC)} {co : Bool} {res : Option Nat} {u : A1}
    (hx : E.ev x = some (.c (.mp r))) (ho : O.get r = some (.mp agg ks vs)) (hy : E.ev y = some (.c (.sc key))) (hf : findV D key ks 0 = some res) (hz : scAll z = true)
    (hu : luOk vs agg z res u) :
    Step P E O ⟨d, .lookup t x y co, ty, pos, af, g⟩ (some (match co with | true => .tup [u, .c (.sc (.bool (fnd res)))] | false => .o u)) .no :=
  .val fun N K ok w a hs => by
    obtain ⟨b, es, cl, h1, h2, h3, h4⟩ := mp_rel hs hx ho
    have e2 := (hs.ev hy).sc.1
    have hg : (getObj b).run P w = .ok (.map es cl) w := by simp [getObj, Sem.run, h3]
    have hck := fun b => run_checkKey (P := P) ht hD b key w
    obtain ⟨f1, f2⟩ := findV_now (map_keys h4) hf
    have key2 : ∃ v, ((Instr.lookup t (.map (some b)) key co).run P w = .ok (if co then .tuple #[v, .bool (fnd res)] else v) w) ∧ RelA K ok w u v := by
      cases res with
      | some j =>
        obtain ⟨_, en, g1, _, g2⟩ := f1 j rfl
        obtain ⟨l, hl, hul⟩ := hu
        obtain ⟨en', q1, q2⟩ := h4.val j l hl
        have : en' = en := by
          have g1' : es[j]? = some en := by simpa using g1
          rw [q1] at g1'; exact Option.some.inj g1'
        subst this
        refine ⟨en'.val, ?_, q2.relA hul⟩
        have hfk := run_findKey (P := P) ht g2 w
        cases co <;> simp [Instr.lookup, run_underlying' hM.u, hg, hck, hfk, fnd]
      | none =>
        obtain ⟨zv, hz1, hz2⟩ := run_zeroValue (P := P) (t := e) w
        have hagg := run_isAgg (P := P) (t := e) w
        have hfk := run_findKey (P := P) ht (f2 rfl) w
        refine ⟨zv, ?_, ?_⟩
        · cases co <;> simp [Instr.lookup, run_underlying' hM.u, hg, hck, hfk, hz1, fnd]
        · have hone : one zv = !agg := by
            obtain ⟨i, zv', g1, _, _, g4, g5⟩ := hTI.info
            have g := hTZ.u
            rw [g1] at g
            simp only [Option.bind_some, g4, Option.map_some, Option.some.injEq] at g
            have : zv = zv' := by
              simp [zeroValue, typeInfo, g1, g4] at hz1
              exact hz1.symm
            rw [this]; exact g
          have hsr := scs_rel (K := K) (ok := ok) (w := w) hz
          cases hag : agg with
          | true =>
            rw [hag] at hone hu
            simp only [luOk, mkA, Option.some.injEq] at hu
            subst hu
            cases zv with
            | agg cs =>
              have : cs.toList = z := by
                have h5 : (Value.agg cs).cells = cs := rfl
                rw [h5] at hz2
                rw [hz2]
              exact .ag (by rw [this]; exact hsr)
            | tuple vs =>
              have h5 : (Value.tuple vs).cells = #[.tuple vs] := rfl
              rw [h5] at hz2
              have hz3 : z = [.tuple vs] := by
                have := congrArg Array.toList hz2
                simpa using this.symm
              rw [hz3] at hz
              cases hz
            | _ => cases hone
          | false =>
            rw [hag] at hone hu
            rw [cells_one (by simpa using hone)] at hz2
            have hz3 : z = [zv] := by
              have := congrArg Array.toList hz2
              simpa using this.symm
            rw [hz3] at hu
            simp only [luOk, scsOf, mkA, Option.some.injEq] at hu
            subst hu
            rw [hz3] at hz
            simp only [scAll, Bool.and_true] at hz
            exact .c (.cl (.sc (scB_spec hz)))
    obtain ⟨v, k1, k2⟩ := key2
    refine ⟨_, by simp only [execOp, h1, e2, Sem.run_bind, k1, Result.andThen_ok, Sem.run_pure]; rfl, ?_⟩
    cases co with
    | true => exact .tup (RelAs.cons k2 (RelAs.cons (.c (.cl (.sc (v := .bool _) trivial))) RelAs.nil))
    | false => exact .o k2
theorem Step.mapUpdate {ins : Bool} {t kt e : TypeId} {D : TypeDesc} [hM : TMap P t kt e] (ht : P.underlying kt = some D) (hD : keyT D = true) {x y q : Operand} {key : Value} {r : Nat} {agg : Bool} {ks : List Value} {vs : List (List PC)} {res : Option Nat} {u : A1}
    (hx : E.ev x = some (.c (.mp r))) (ho : O.get r = some (.mp agg ks vs)) (hy : E.ev y = some (.c (.sc key))) (hq : E.ev q = some (.o u)) (hu : mkA agg u.cells = some u) (hc : closedL u.cells = true) (hf : findV D key ks 0 = some res) :
    Step P E O ⟨d, mapOp ins t x y q, ty, pos, af, g⟩ none (.upd r (updMp agg ks vs key u.cells res)) := by
  intro N K ok w a next Q hs hnext
  obtain ⟨b, es, cl, h1, h2, h3, h4⟩ := mp_rel hs hx ho
  have e2 := (hs.ev hy).sc.1
  have hg : (getObj b).run P w = .ok (.map es cl) w := by simp [getObj, Sem.run, h3]
  have hck := run_checkKey (P := P) ht hD false key w
  obtain ⟨f1, f2⟩ := findV_now (map_keys h4) hf
  have hqv := hs.ev hq
  generalize hev : a.eval q = v at hqv
  have hval : ValR ok w agg u.cells v := by
    cases hqv with
    | o hr =>
      obtain ⟨agg', g1, g2⟩ := hr.valR hc
      have : agg' = agg := by
        cases agg' <;> cases agg <;> first | rfl | skip
        · cases u with
          | c x => simp [A1.cells, mkA] at hu
          | ag l => cases l with
            | nil => simp [A1.cells, mkA] at g1
            | cons x l => cases l <;> simp [A1.cells, mkA] at g1
        · cases u with
          | c x => simp [A1.cells, mkA] at g1
          | ag l => cases l with
            | nil => simp [A1.cells, mkA] at hu
            | cons x l => cases l <;> simp [A1.cells, mkA] at hu
      rw [← this]; exact g2
  have hset : ∀ (o' : Obj), (setObj b o').run P w = .ok () (setBlk w b o') := fun o' => by simp [setObj, Sem.run, h3, setBlk]
  have hkeep : ∀ (o' : Obj) (c : Nat), ok c → c < w.heap.size → (setBlk w b o').heap[c]? = w.heap[c]? := fun o' c hc' _ => by
    rw [setBlk_get, if_neg]
    rintro ⟨rfl, _⟩
    exact hs.hp.apart r _ _ _ ho h2 hc'
  have fin : ∀ (es' : Array MapEntry) (cl' : Nat) (ks' : List Value) (vs' : List (List PC)), (Instr.mapUpdate t (.map (some b)) key v).run P w = .ok () (setBlk w b (.map es' cl')) → MapR ok w agg ks' vs' es' →
      updMp agg ks vs key u.cells res = .mp agg ks' vs' → Oper.wp P ⟨d, mapOp ins t x y q, ty, pos, af, g⟩ a w next Q := by
    intro es' cl' ks' vs' hrun hm he
    have hexec : (execOp a.eval ⟨d, mapOp ins t x y q, ty, pos, af, g⟩).run P w = .ok .skip (setBlk w b (.map es' cl')) := by
      cases ins <;> simp [mapOp, execOp, h1, e2, hev, hrun]
    unfold Oper.wp
    rw [hexec]
    have hu2 := upd_blockG (L1 := 0) (ob' := .mp agg ks' vs') (o' := .map es' cl') hs.hp ho h2 h3 trivial (.inl rfl) (by
      rw [Km.put_same h2]
      exact ⟨b, es', cl', h2, by rw [setBlk_get, if_pos ⟨rfl, heap_lt h3⟩], hm.mono (fun _ h => h) (hkeep _) (by rw [setBlk_size]; exact Nat.le_refl _)⟩)
    rw [Km.put_same h2] at hu2
    rw [← he] at hu2
    exact hnext undef K ok _ ⟨(fun _ h => by cases h), hu2.1, hu2.2, fun _ _ => rfl⟩
  cases res with
  | some j =>
    obtain ⟨_, en, g1, gs, g2⟩ := f1 j rfl
    have g1' : es[j]? = some en := by simpa using g1
    have hjl : j < es.size := (Array.getElem?_eq_some_iff.1 g1').1
    have hfk := run_findKey (P := P) ht g2 w
    have hsame : Instr.sameNow D key en.key = some true := gs
    have hkey : en.key = key := by
      unfold Instr.sameNow at hsame
      split at hsame
      · split at hsame
        · rename_i hk
          subst hk
          simp only [Option.some.injEq, beq_iff_eq] at hsame
          simp [*]
        · cases hsame
      · simp only [Option.some.injEq] at hsame
        have := (bytes_beq _ _).1 hsame
        subst this
        assumption
      · cases hD
      · cases hsame
    have hst : (Instr.keyThatStays key key).run P w = .ok key w := by
      have : Instr.sameBits 10000 key key = true := by
        unfold Instr.sameNow at hsame
        split at hsame <;> first | (cases hsame; done) | (cases hD; done) | simp [Instr.sameBits, bytes_beq]
      simp [Instr.keyThatStays, this]
    refine fin (es.modify j fun e => { e with key := key, val := v }) cl ks (vs.set j u.cells) ?_ ?_ rfl
    · simp [Instr.mapUpdate, run_underlying' hM.u, hg, hck, hfk, g1', hkey, hst, hset]
    · refine ⟨by simpa using h4.size, by simpa using h4.vals, fun i k hk => ?_, fun i l hl => ?_⟩
      · obtain ⟨e', q1, q2⟩ := h4.key i k hk
        by_cases hij : j = i
        · subst hij
          rw [g1'] at q1
          cases q1
          exact ⟨{ key := key, val := v, born := en.born }, by simp [Array.getElem?_modify, g1'], by rw [← q2, hkey]⟩
        · exact ⟨e', by simp [Array.getElem?_modify, hij, q1], q2⟩
      · rw [List.getElem?_set] at hl
        by_cases hij : j = i
        · subst hij
          rw [if_pos rfl] at hl
          split at hl
          · cases hl
            exact ⟨{ key := key, val := v, born := en.born }, by simp [Array.getElem?_modify, g1'], hval⟩
          · cases hl
        · rw [if_neg hij] at hl
          obtain ⟨e', q1, q2⟩ := h4.val i l hl
          exact ⟨e', by simp [Array.getElem?_modify, hij, q1], q2⟩
  | none =>
    have hfk := run_findKey (P := P) ht (f2 rfl) w
    refine fin (es.push { key := key, val := v, born := cl }) (cl + 1) (ks ++ [key]) (vs ++ [u.cells]) ?_ ?_ rfl
    · simp [Instr.mapUpdate, run_underlying' hM.u, hg, hck, hfk, hset]
    · refine ⟨by simp [h4.size], by simp [h4.vals], fun i k hk => ?_, fun i l hl => ?_⟩
      · rcases Nat.lt_or_ge i ks.length with h | h
        · rw [List.getElem?_append_left h] at hk
          obtain ⟨e', q1, q2⟩ := h4.key i k hk
          exact ⟨e', by rw [Array.getElem?_push, if_neg (by rw [h4.size]; omega)]; exact q1, q2⟩
        · rw [List.getElem?_append_right h] at hk
          have hi : i - ks.length = 0 := by
            have := (List.getElem?_eq_some_iff.1 hk).1
            simp at this; omega
          rw [hi] at hk
          cases hk
          have : i = es.size := by rw [h4.size]; omega
          exact ⟨_, by rw [this, Array.getElem?_push, if_pos rfl], rfl⟩
      · rcases Nat.lt_or_ge i vs.length with h | h
        · rw [List.getElem?_append_left h] at hl
          obtain ⟨e', q1, q2⟩ := h4.val i l hl
          exact ⟨e', by rw [Array.getElem?_push, if_neg (by rw [h4.size, ← h4.vals]; omega)]; exact q1, q2⟩
        · rw [List.getElem?_append_right h] at hl
          have hi : i - vs.length = 0 := by
            have := (List.getElem?_eq_some_iff.1 hl).1
            simp at this; omega
          rw [hi] at hl
          cases hl
          have : i = es.size := by rw [h4.size, ← h4.vals]; omega
          exact ⟨_, by rw [this, Array.getElem?_push, if_pos rfl], hval⟩
end
end Go.Proofs.YtjpbijdpkdmeaaaGreat.Pv
