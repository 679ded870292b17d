/- Parts of a proof, joined: Fe Cq Ct PvX PvY Cu Cw Ej. -/
import Derived.Test.YtpmchgndnhgncaaGreatKbI
namespace Go.Proofs.YtpmchgndnhgncaaGreat.Pv
open Go
end Go.Proofs.YtpmchgndnhgncaaGreat.Pv
namespace Go.Proofs.YtpmchgndnhgncaaGreat.Pv
open Go
def liveC (x : Cnt) : Bool := !(decide (x.2 < 1)) && !(decide (x.1 = [1]))
def tys (l : List Cnt) : Int := ((l.filter liveC).length : Nat)
def tot (l : List Cnt) : Int := ((l.filter liveC).map (·.2)).sum
def num (l : List Cnt) (k : Int) : Int := ((l.filter fun x => liveC x && decide (x.2 = k)).length : Nat)
section
variable {l : List Cnt} {x : Cnt} {k : Int}
theorem tys_1 (h : liveC x = true) : tys (l ++ [x]) = tys l + 1 := by
  unfold tys; rw [List.filter_append, List.length_append, List.filter_cons_of_pos h]; simp
theorem tys_0 (h : liveC x = false) : tys (l ++ [x]) = tys l := by
  unfold tys; rw [List.filter_append, List.length_append, List.filter_cons_of_neg (by simp [h])]; simp
theorem tot_1 (h : liveC x = true) : tot (l ++ [x]) = tot l + x.2 := by
  unfold tot; rw [List.filter_append, List.filter_cons_of_pos h]; simp
theorem tot_0 (h : liveC x = false) : tot (l ++ [x]) = tot l := by
  unfold tot; rw [List.filter_append, List.filter_cons_of_neg (by simp [h])]; simp
theorem num_1 (h : liveC x = true) (hk : x.2 = k) : num (l ++ [x]) k = num l k + 1 := by
  unfold num; rw [List.filter_append, List.length_append, List.filter_cons_of_pos (by simp [h, hk])]; simp
theorem num_0 (h : liveC x = false ∨ x.2 ≠ k) : num (l ++ [x]) k = num l k := by
  unfold num; rw [List.filter_append, List.length_append, List.filter_cons_of_neg (by rcases h with h | h <;> simp [h])]; simp
theorem tot_nonneg (l : List Cnt) : 0 ≤ tot l := by
  unfold tot
  induction l with
  | nil => simp
  | cons x l ih =>
    by_cases h : liveC x = true
    · rw [List.filter_cons_of_pos h, List.map_cons, List.sum_cons]
      have : ¬ x.2 < 1 := by unfold liveC at h; intro h1; rw [decide_eq_true h1] at h; simp at h
      omega
    · rw [List.filter_cons_of_neg h]; exact ih
theorem tot_app (l m : List Cnt) : tot (l ++ m) = tot l + tot m := by
  unfold tot; rw [List.filter_append, List.map_append, List.sum_append]
theorem tot_take (l : List Cnt) (i : Nat) : tot (l.take i) ≤ tot l := by
  have h := tot_app (l.take i) (l.drop i)
  rw [List.take_append_drop] at h
  have := tot_nonneg (l.drop i)
  omega
theorem tys_le (l : List Cnt) : 0 ≤ tys l ∧ tys l ≤ l.length := by
  unfold tys; have := List.length_filter_le liveC l; omega
theorem num_le (l : List Cnt) (k : Int) : 0 ≤ num l k ∧ num l k ≤ l.length := by
  unfold num; have := List.length_filter_le (fun x => liveC x && decide (x.2 = k)) l; omega
end
def cen (l : List Cnt) : List PC := [eI .i64 (tys l), eI .i64 (tot l), eI .i64 (num l 1), eI .i64 (num l 2), eI .i64 (num l 3), eI .i64 (num l 4)]
theorem cen_0 {l : List Cnt} {x : Cnt} (h : liveC x = false) : cen (l ++ [x]) = cen l := by
  unfold cen; rw [tys_0 h, tot_0 h, num_0 (.inl h), num_0 (.inl h), num_0 (.inl h), num_0 (.inl h)]
theorem numE {l : List Cnt} {x : Cnt} {k : Int} (h : liveC x = true) : num (l ++ [x]) k = if x.2 = k then num l k + 1 else num l k := by
  by_cases hk : x.2 = k
  · rw [if_pos hk, num_1 h hk]
  · rw [if_neg hk, num_0 (.inr hk)]
theorem rof24_ct (l : List Cnt) (hl : CLim l) (ht : tot l ≤ 4611686018427387904) : Ct P 31 [.c (cSl l)] [.ag (cen l)] := by
  have hll := hl.len
  refine Ct.go T_ok T_mix (N := 48) Tryz.func31 rfl rfl rfl rfl ?_
  refine loopJ T_ok T_mix (fun i : Nat => i ≤ l.length) (fun i => [(0, .c (cSl l)), (2, .c (.ad 2 0)), (3, .c (.ad 3 0)), (4, .c (nI .i64 i))])
    (fun i => [(2, .var [eI .i64 0, eI .i64 0, eI .i64 0, eI .i64 0, eI .i64 0, eI .i64 0]), (3, .var (cen (l.take i)))]) (fun i => l.length - i)
    0 (by omega) ⟨rfl, rfl, rfl, rfl, trivial⟩ ⟨rfl, rfl, trivial⟩ (fun _ : Unit => True) (fun _ => [(2, .c (.ad 2 0)), (3, .c (.ad 3 0))]) (fun _ => [(2, .var [eI .i64 0, eI .i64 0, eI .i64 0, eI .i64 0, eI .i64 0, eI .i64 0]), (3, .var (cen l))]) (fun i hi => ?_) (fun _ _ => ?_)
  · refine And.intro (by rw [cRow_len]; omega) ?_
    rw [cRow_len]
    refine dcase (fun h5 => ?_) (fun h5 => ?_)
    · have hi' : i < l.length := by omega
      have hxl := hl.at' hi'
      have hx := cRow_get (l := l) (i := (i : Int)) (n := i) rfl hi'
      have hs : l.take (i + 1) = l.take i ++ [l[i]] := List.take_succ_eq_append_getElem hi'
      have t1 := tot_take l (i + 1)
      have t2 := tys_le (l.take i)
      have t3 := tot_nonneg (l.take i)
      have t4 := num_le (l.take i)
      rw [hs] at t1
      rw [List.length_take] at t2
      simp only [List.length_take] at t4
      generalize l[i] = x at *
      generalize l.take i = a at *
      refine And.intro (by omega) (X1 _ hx ?_)
      refine dcase (fun h6 => ?_) (fun h6 => ?_)
      · have hlv : liveC x = false := by unfold liveC; rw [decide_eq_true h6]; rfl
        refine X1 ((i + 1 : Nat) : Int) (wI1 (by omega)) ?_
        exact ⟨i + 1, by omega, by omega, ⟨rfl, rfl, rfl, rfl, trivial⟩, ⟨rfl, by rw [hs, cen_0 hlv]; rfl, trivial⟩⟩
      · refine And.intro (by omega) (X1 _ hx ?_)
        refine X2 .look (X1 _ (ints_ct x.1 [1] hxl (by simp)) ?_)
        refine dcase (fun h7 => ?_) (fun h7 => ?_)
        · have hlv : liveC x = false := by unfold liveC; rw [decide_eq_true h7]; simp
          refine X1 ((i + 1 : Nat) : Int) (wI1 (by omega)) ?_
          exact ⟨i + 1, by omega, by omega, ⟨rfl, rfl, rfl, rfl, trivial⟩, ⟨rfl, by rw [hs, cen_0 hlv]; rfl, trivial⟩⟩
        · have hlv : liveC x = true := by unfold liveC; rw [decide_eq_false h6, decide_eq_false h7]; rfl
          rw [tot_1 hlv] at t1
          refine And.intro (by omega) (And.intro (by omega) ?_)
          refine X1 (tys a + 1) (wI rfl (by omega) (by omega)) ?_
          refine And.intro (by omega) (And.intro (by omega) ?_)
          refine And.intro (by omega) (And.intro (by omega) ?_)
          refine X1 (tot a + x.2) (wI rfl (by omega) (by omega)) ?_
          refine And.intro (by omega) (And.intro (by omega) ?_)
          refine dcase (fun h8 => ?_) (fun h8 => ?_)
          · have h9 : x.2 = 1 ∨ x.2 = 2 ∨ x.2 = 3 ∨ x.2 = 4 := by omega
            rcases h9 with h9 | h9 | h9 | h9
            · have q1 := t4 1
              have hc : cen (a ++ [x]) = [eI .i64 (tys a + 1), eI .i64 (tot a + 1), eI .i64 (num a 1 + 1), eI .i64 (num a 2), eI .i64 (num a 3), eI .i64 (num a 4)] := by
                unfold cen; rw [tys_1 hlv, tot_1 hlv, numE hlv, numE hlv, numE hlv, numE hlv, h9]; simp
              rw [h9] at *
              refine X1 2 (wI (by omega) (by omega) (by omega)) ?_
              refine X1 2 (wI (by omega) (by omega) (by omega)) ?_
              refine And.intro (by omega) (And.intro (by omega) ?_)
              refine X1 (num a 1 + 1) (wI rfl (by omega) (by omega)) ?_
              refine And.intro (by omega) (And.intro (by omega) ?_)
              refine X1 ((i + 1 : Nat) : Int) (wI1 (by omega)) ?_
              exact ⟨i + 1, by omega, by omega, ⟨rfl, rfl, rfl, rfl, trivial⟩, ⟨rfl, by rw [hs, hc]; rfl, trivial⟩⟩
            · have q1 := t4 2
              have hc : cen (a ++ [x]) = [eI .i64 (tys a + 1), eI .i64 (tot a + 2), eI .i64 (num a 1), eI .i64 (num a 2 + 1), eI .i64 (num a 3), eI .i64 (num a 4)] := by
                unfold cen; rw [tys_1 hlv, tot_1 hlv, numE hlv, numE hlv, numE hlv, numE hlv, h9]; simp
              rw [h9] at *
              refine X1 3 (wI (by omega) (by omega) (by omega)) ?_
              refine X1 3 (wI (by omega) (by omega) (by omega)) ?_
              refine And.intro (by omega) (And.intro (by omega) ?_)
              refine X1 (num a 2 + 1) (wI rfl (by omega) (by omega)) ?_
              refine And.intro (by omega) (And.intro (by omega) ?_)
              refine X1 ((i + 1 : Nat) : Int) (wI1 (by omega)) ?_
              exact ⟨i + 1, by omega, by omega, ⟨rfl, rfl, rfl, rfl, trivial⟩, ⟨rfl, by rw [hs, hc]; rfl, trivial⟩⟩
            · have q1 := t4 3
              have hc : cen (a ++ [x]) = [eI .i64 (tys a + 1), eI .i64 (tot a + 3), eI .i64 (num a 1), eI .i64 (num a 2), eI .i64 (num a 3 + 1), eI .i64 (num a 4)] := by
                unfold cen; rw [tys_1 hlv, tot_1 hlv, numE hlv, numE hlv, numE hlv, numE hlv, h9]; simp
              rw [h9] at *
              refine X1 4 (wI (by omega) (by omega) (by omega)) ?_
              refine X1 4 (wI (by omega) (by omega) (by omega)) ?_
              refine And.intro (by omega) (And.intro (by omega) ?_)
              refine X1 (num a 3 + 1) (wI rfl (by omega) (by omega)) ?_
              refine And.intro (by omega) (And.intro (by omega) ?_)
              refine X1 ((i + 1 : Nat) : Int) (wI1 (by omega)) ?_
              exact ⟨i + 1, by omega, by omega, ⟨rfl, rfl, rfl, rfl, trivial⟩, ⟨rfl, by rw [hs, hc]; rfl, trivial⟩⟩
            · have q1 := t4 4
              have hc : cen (a ++ [x]) = [eI .i64 (tys a + 1), eI .i64 (tot a + 4), eI .i64 (num a 1), eI .i64 (num a 2), eI .i64 (num a 3), eI .i64 (num a 4 + 1)] := by
                unfold cen; rw [tys_1 hlv, tot_1 hlv, numE hlv, numE hlv, numE hlv, numE hlv, h9]; simp
              rw [h9] at *
              refine X1 5 (wI (by omega) (by omega) (by omega)) ?_
              refine X1 5 (wI (by omega) (by omega) (by omega)) ?_
              refine And.intro (by omega) (And.intro (by omega) ?_)
              refine X1 (num a 4 + 1) (wI rfl (by omega) (by omega)) ?_
              refine And.intro (by omega) (And.intro (by omega) ?_)
              refine X1 ((i + 1 : Nat) : Int) (wI1 (by omega)) ?_
              exact ⟨i + 1, by omega, by omega, ⟨rfl, rfl, rfl, rfl, trivial⟩, ⟨rfl, by rw [hs, hc]; rfl, trivial⟩⟩
          · have hc : cen (a ++ [x]) = [eI .i64 (tys a + 1), eI .i64 (tot a + x.2), eI .i64 (num a 1), eI .i64 (num a 2), eI .i64 (num a 3), eI .i64 (num a 4)] := by
              unfold cen; rw [tys_1 hlv, tot_1 hlv, num_0 (.inr (by omega)), num_0 (.inr (by omega)), num_0 (.inr (by omega)), num_0 (.inr (by omega))]
            refine X1 ((i + 1 : Nat) : Int) (wI1 (by omega)) ?_
            exact ⟨i + 1, by omega, by omega, ⟨rfl, rfl, rfl, rfl, trivial⟩, ⟨rfl, by rw [hs, hc]; rfl, trivial⟩⟩
    · have e : i = l.length := by omega
      subst e
      rw [List.take_length]
      exact ⟨(), trivial, ⟨rfl, rfl, trivial⟩, ⟨rfl, rfl, trivial⟩⟩
  · exact ⟨trivial, rc rfl, trivial⟩
theorem tot_filter (p : Cnt → Bool) (l : List Cnt) : tot (l.filter p) ≤ tot l := by
  induction l with
  | nil => simp
  | cons x l ih =>
    have h1 : tot (x :: l) = tot [x] + tot l := tot_app [x] l
    have h2 := tot_nonneg [x]
    by_cases h : p x = true
    · have h3 : tot (x :: l.filter p) = tot [x] + tot (l.filter p) := tot_app [x] _
      rw [List.filter_cons_of_pos h]
      omega
    · rw [List.filter_cons_of_neg h]
      omega
def afterP (h : List Int) (x : Cnt) : Bool := decide (x.1.length = h.length + 1) && decide (x.1.take h.length = h)
def after (l : List Cnt) (h : List Int) : List Cnt := l.filter (afterP h)
theorem CLim.filter {l : List Cnt} (h : CLim l) (p : Cnt → Bool) : CLim (l.filter p) :=
  ⟨Nat.le_trans (List.length_filter_le _ _) h.len, fun x hx => h.g x (List.mem_filter.1 hx).1⟩
end Go.Proofs.YtpmchgndnhgncaaGreat.Pv
namespace Go.Proofs.YtpmchgndnhgncaaGreat.Pv
open Go
def cen7 (l : List Cnt) : List PC := [eI .i64 (tys l), eI .i64 (tot l), eI .i64 0, eI .i64 (num l 1), eI .i64 (num l 2), eI .i64 (num l 3), eI .i64 (num l 4)]
theorem cen7_0 {l : List Cnt} {x : Cnt} (h : liveC x = false) : cen7 (l ++ [x]) = cen7 l := by
  unfold cen7; rw [tys_0 h, tot_0 h, num_0 (.inl h), num_0 (.inl h), num_0 (.inl h), num_0 (.inl h)]
theorem add24_ct (a : List Cnt) (x : Cnt) (ha : a.length ≤ 1000000) (hx : x.1.length ≤ 1000000) (ht : tot (a ++ [x]) ≤ 4611686018427387904) :
    CtO P 111 [(1000000, some (.var (cen7 a)))] [.c (.ad 1000000 0), .ag [iSl x.1, eI .i64 x.2]] [(1000000, some (.var (cen7 (a ++ [x]))))] [] := by
  have t2 := tys_le a
  have t3 := tot_nonneg a
  have t4 := num_le a
  refine Ct.io T_ok T_mix (N := 50) Tryz.func111 rfl rfl rfl rfl ?_
  refine dcase (fun h1 => ?_) (fun h1 => ?_)
  · have hlv : liveC x = false := by unfold liveC; rw [decide_eq_true h1]; rfl
    rw [cen7_0 hlv]
    exact ⟨trivial, SubO.of (l := [(1000000, .var _)]) ⟨rfl, trivial⟩, trivial⟩
  · refine And.intro (by rw [iRow_len]; omega) ?_
    rw [iRow_len]
    refine ecase (fun h2 => ?_) (fun h2 => ?_)
    · refine And.intro (by omega) (X1 _ (iRow_getN (n := 0) rfl (by omega)) ?_)
      refine ecase (fun h3 => ?_) (fun h3 => ?_)
      · have hx1 : x.1 = [1] := by
          obtain ⟨g, n⟩ := x
          match g, h2, h3 with
          | [v], _, h3 => simp at h3; simp [h3]
        have hlv : liveC x = false := by unfold liveC; rw [decide_eq_true hx1, Bool.not_true, Bool.and_false]
        rw [cen7_0 hlv]
        exact ⟨trivial, SubO.of (l := [(1000000, .var _)]) ⟨rfl, trivial⟩, trivial⟩
      · have hlv : liveC x = true := by
          have : ¬ x.1 = [1] := fun h => h3 (by rw [h]; rfl)
          unfold liveC; rw [decide_eq_false h1, decide_eq_false this]; rfl
        rw [tot_1 hlv] at ht
        refine X1 (tys a + 1) (wI rfl (by omega) (by omega)) ?_
        refine X1 (tot a + x.2) (wI rfl (by omega) (by omega)) ?_
        refine And.intro rfl ?_
        refine dcase (fun h8 => ?_) (fun h8 => ?_)
        · have h9 : x.2 = 1 ∨ x.2 = 2 ∨ x.2 = 3 ∨ x.2 = 4 := by omega
          rcases h9 with h9 | h9 | h9 | h9
          · have q1 := t4 1
            have hc : cen7 (a ++ [x]) = [eI .i64 (tys a + 1), eI .i64 (tot a + 1), eI .i64 0, eI .i64 (num a 1 + 1), eI .i64 (num a 2), eI .i64 (num a 3), eI .i64 (num a 4)] := by
              unfold cen7; rw [tys_1 hlv, tot_1 hlv, numE hlv, numE hlv, numE hlv, numE hlv, h9]; simp
            rw [hc]
            rw [h9] at *
            refine And.intro (by omega) (And.intro (by omega) ?_)
            refine X1 (num a 1 + 1) (wI rfl (by omega) (by omega)) ?_
            refine And.intro (by omega) (And.intro (by omega) ?_)
            refine And.intro rfl ?_
            exact ⟨trivial, SubO.of (l := [(1000000, .var _)]) ⟨rfl, trivial⟩, trivial⟩
          · have q1 := t4 2
            have hc : cen7 (a ++ [x]) = [eI .i64 (tys a + 1), eI .i64 (tot a + 2), eI .i64 0, eI .i64 (num a 1), eI .i64 (num a 2 + 1), eI .i64 (num a 3), eI .i64 (num a 4)] := by
              unfold cen7; rw [tys_1 hlv, tot_1 hlv, numE hlv, numE hlv, numE hlv, numE hlv, h9]; simp
            rw [hc]
            rw [h9] at *
            refine And.intro (by omega) (And.intro (by omega) ?_)
            refine X1 (num a 2 + 1) (wI rfl (by omega) (by omega)) ?_
            refine And.intro (by omega) (And.intro (by omega) ?_)
            refine And.intro rfl ?_
            exact ⟨trivial, SubO.of (l := [(1000000, .var _)]) ⟨rfl, trivial⟩, trivial⟩
          · have q1 := t4 3
            have hc : cen7 (a ++ [x]) = [eI .i64 (tys a + 1), eI .i64 (tot a + 3), eI .i64 0, eI .i64 (num a 1), eI .i64 (num a 2), eI .i64 (num a 3 + 1), eI .i64 (num a 4)] := by
              unfold cen7; rw [tys_1 hlv, tot_1 hlv, numE hlv, numE hlv, numE hlv, numE hlv, h9]; simp
            rw [hc]
            rw [h9] at *
            refine And.intro (by omega) (And.intro (by omega) ?_)
            refine X1 (num a 3 + 1) (wI rfl (by omega) (by omega)) ?_
            refine And.intro (by omega) (And.intro (by omega) ?_)
            refine And.intro rfl ?_
            exact ⟨trivial, SubO.of (l := [(1000000, .var _)]) ⟨rfl, trivial⟩, trivial⟩
          · have q1 := t4 4
            have hc : cen7 (a ++ [x]) = [eI .i64 (tys a + 1), eI .i64 (tot a + 4), eI .i64 0, eI .i64 (num a 1), eI .i64 (num a 2), eI .i64 (num a 3), eI .i64 (num a 4 + 1)] := by
              unfold cen7; rw [tys_1 hlv, tot_1 hlv, numE hlv, numE hlv, numE hlv, numE hlv, h9]; simp
            rw [hc]
            rw [h9] at *
            refine And.intro (by omega) (And.intro (by omega) ?_)
            refine X1 (num a 4 + 1) (wI rfl (by omega) (by omega)) ?_
            refine And.intro (by omega) (And.intro (by omega) ?_)
            refine And.intro rfl ?_
            exact ⟨trivial, SubO.of (l := [(1000000, .var _)]) ⟨rfl, trivial⟩, trivial⟩
        · have hc : cen7 (a ++ [x]) = [eI .i64 (tys a + 1), eI .i64 (tot a + x.2), eI .i64 0, eI .i64 (num a 1), eI .i64 (num a 2), eI .i64 (num a 3), eI .i64 (num a 4)] := by
            unfold cen7; rw [tys_1 hlv, tot_1 hlv, num_0 (.inr (by omega)), num_0 (.inr (by omega)), num_0 (.inr (by omega)), num_0 (.inr (by omega))]
          rw [hc]
          exact ⟨trivial, SubO.of (l := [(1000000, .var _)]) ⟨rfl, trivial⟩, trivial⟩
    · have hlv : liveC x = true := by
        have : ¬ x.1 = [1] := fun h => h2 (by rw [h]; rfl)
        unfold liveC; rw [decide_eq_false h1, decide_eq_false this]; rfl
      rw [tot_1 hlv] at ht
      refine X1 (tys a + 1) (wI rfl (by omega) (by omega)) ?_
      refine X1 (tot a + x.2) (wI rfl (by omega) (by omega)) ?_
      refine And.intro rfl ?_
      refine dcase (fun h8 => ?_) (fun h8 => ?_)
      · have h9 : x.2 = 1 ∨ x.2 = 2 ∨ x.2 = 3 ∨ x.2 = 4 := by omega
        rcases h9 with h9 | h9 | h9 | h9
        · have q1 := t4 1
          have hc : cen7 (a ++ [x]) = [eI .i64 (tys a + 1), eI .i64 (tot a + 1), eI .i64 0, eI .i64 (num a 1 + 1), eI .i64 (num a 2), eI .i64 (num a 3), eI .i64 (num a 4)] := by
            unfold cen7; rw [tys_1 hlv, tot_1 hlv, numE hlv, numE hlv, numE hlv, numE hlv, h9]; simp
          rw [hc]
          rw [h9] at *
          refine And.intro (by omega) (And.intro (by omega) ?_)
          refine X1 (num a 1 + 1) (wI rfl (by omega) (by omega)) ?_
          refine And.intro (by omega) (And.intro (by omega) ?_)
          refine And.intro rfl ?_
          exact ⟨trivial, SubO.of (l := [(1000000, .var _)]) ⟨rfl, trivial⟩, trivial⟩
        · have q1 := t4 2
          have hc : cen7 (a ++ [x]) = [eI .i64 (tys a + 1), eI .i64 (tot a + 2), eI .i64 0, eI .i64 (num a 1), eI .i64 (num a 2 + 1), eI .i64 (num a 3), eI .i64 (num a 4)] := by
            unfold cen7; rw [tys_1 hlv, tot_1 hlv, numE hlv, numE hlv, numE hlv, numE hlv, h9]; simp
          rw [hc]
          rw [h9] at *
          refine And.intro (by omega) (And.intro (by omega) ?_)
          refine X1 (num a 2 + 1) (wI rfl (by omega) (by omega)) ?_
          refine And.intro (by omega) (And.intro (by omega) ?_)
          refine And.intro rfl ?_
          exact ⟨trivial, SubO.of (l := [(1000000, .var _)]) ⟨rfl, trivial⟩, trivial⟩
        · have q1 := t4 3
          have hc : cen7 (a ++ [x]) = [eI .i64 (tys a + 1), eI .i64 (tot a + 3), eI .i64 0, eI .i64 (num a 1), eI .i64 (num a 2), eI .i64 (num a 3 + 1), eI .i64 (num a 4)] := by
            unfold cen7; rw [tys_1 hlv, tot_1 hlv, numE hlv, numE hlv, numE hlv, numE hlv, h9]; simp
          rw [hc]
          rw [h9] at *
          refine And.intro (by omega) (And.intro (by omega) ?_)
          refine X1 (num a 3 + 1) (wI rfl (by omega) (by omega)) ?_
          refine And.intro (by omega) (And.intro (by omega) ?_)
          refine And.intro rfl ?_
          exact ⟨trivial, SubO.of (l := [(1000000, .var _)]) ⟨rfl, trivial⟩, trivial⟩
        · have q1 := t4 4
          have hc : cen7 (a ++ [x]) = [eI .i64 (tys a + 1), eI .i64 (tot a + 4), eI .i64 0, eI .i64 (num a 1), eI .i64 (num a 2), eI .i64 (num a 3), eI .i64 (num a 4 + 1)] := by
            unfold cen7; rw [tys_1 hlv, tot_1 hlv, numE hlv, numE hlv, numE hlv, numE hlv, h9]; simp
          rw [hc]
          rw [h9] at *
          refine And.intro (by omega) (And.intro (by omega) ?_)
          refine X1 (num a 4 + 1) (wI rfl (by omega) (by omega)) ?_
          refine And.intro (by omega) (And.intro (by omega) ?_)
          refine And.intro rfl ?_
          exact ⟨trivial, SubO.of (l := [(1000000, .var _)]) ⟨rfl, trivial⟩, trivial⟩
      · have hc : cen7 (a ++ [x]) = [eI .i64 (tys a + 1), eI .i64 (tot a + x.2), eI .i64 0, eI .i64 (num a 1), eI .i64 (num a 2), eI .i64 (num a 3), eI .i64 (num a 4)] := by
          unfold cen7; rw [tys_1 hlv, tot_1 hlv, num_0 (.inr (by omega)), num_0 (.inr (by omega)), num_0 (.inr (by omega)), num_0 (.inr (by omega))]
        rw [hc]
        exact ⟨trivial, SubO.of (l := [(1000000, .var _)]) ⟨rfl, trivial⟩, trivial⟩
theorem of24_ct (l : List Cnt) (hl : CLim l) (ht : tot l ≤ 4611686018427387904) : Ct P 65 [.c (cSl l)] [.ag (cen7 l)] := by
  have hll := hl.len
  refine Ct.go T_ok T_mix (N := 16) Tryz.func65 rfl rfl rfl rfl ?_
  refine And.intro (by rw [cRow_len]; omega) ?_
  rw [cRow_len]
  refine loopJ T_ok T_mix (fun i : Nat => i ≤ l.length) (fun i => [(2, .c (.ad 2 0)), (3, .c (.ad 3 0)), (6, .c (cSl l)), (7, .c (nI .i64 l.length)), (8, .c (nI .i64 i))])
    (fun i => [(2, .var [eI .i64 0, eI .i64 0, eI .i64 0, eI .i64 0, eI .i64 0, eI .i64 0, eI .i64 0]), (3, .var (cen7 (l.take i)))]) (fun i => l.length - i)
    0 (by omega) ⟨rfl, rfl, rfl, rfl, rfl, trivial⟩ ⟨rfl, rfl, trivial⟩ (fun _ : Unit => True) (fun _ => [(2, .c (.ad 2 0)), (3, .c (.ad 3 0))])
    (fun _ => [(2, .var [eI .i64 0, eI .i64 0, eI .i64 0, eI .i64 0, eI .i64 0, eI .i64 0, eI .i64 0]), (3, .var (cen7 l))]) (fun i hi => ?_) (fun _ _ => ?_)
  · refine dcase (fun h5 => ?_) (fun h5 => ?_)
    · have hi' : i < l.length := by omega
      have hxl := hl.at' hi'
      have hx := cRow_get (l := l) (i := (i : Int)) (n := i) rfl hi'
      have hs : l.take (i + 1) = l.take i ++ [l[i]] := List.take_succ_eq_append_getElem hi'
      have t1 := tot_take l (i + 1)
      have hal : (l.take i).length ≤ 1000000 := by rw [List.length_take]; omega
      rw [hs] at t1
      generalize l[i] = x at *
      generalize l.take i = a at *
      refine And.intro (by omega) (X1 _ hx ?_)
      refine X2 (.upd 3) ?_
      refine ⟨_, _, add24_ct a x hal hxl (by omega), ?_⟩
      refine X1 ((i + 1 : Nat) : Int) (wI1 (by omega)) ?_
      exact ⟨i + 1, by omega, by omega, ⟨rfl, rfl, rfl, rfl, rfl, trivial⟩, ⟨rfl, by rw [hs]; rfl, trivial⟩⟩
    · have e : i = l.length := by omega
      subst e
      rw [List.take_length]
      exact ⟨(), trivial, ⟨rfl, rfl, trivial⟩, ⟨rfl, rfl, trivial⟩⟩
  · exact ⟨trivial, rc rfl, trivial⟩
end Go.Proofs.YtpmchgndnhgncaaGreat.Pv
namespace Go.Proofs.YtpmchgndnhgncaaGreat.Pv
open Go
def Free (K : Km) (ok : Nat → Prop) (b : Nat) : Prop := ¬ ok b ∧ ¬ K.hid b
theorem Sim.free {N : Cx} {K : Km} {ok : Nat → Prop} {w w' : World} {E : Env} {O : Objs} {a : Act} (hs : Sim N K ok w E O a) (hsz : w.heap.size ≤ w'.heap.size) (hb : ∀ b, (ok b ∨ K.hid b ∨ ∃ k o L, O.get k = some o ∧ K k = some (b, L)) → w'.heap[b]? = w.heap[b]?)
    (hd : ∀ b : Nat, mark b ∈ a.defers → w'.heap[b]? = w.heap[b]?) (hl : ∀ (b : Nat) (r : Loop), N.R = some b → w.heap[b]? = some (Obj.loop r) → ∃ r', w'.heap[b]? = some (Obj.loop r')) (hc : CSh w w') (ho : w'.os = w.os ∧ w'.tape = w.tape ∧ w'.output = w.output) : Sim N K ok w' E O a := by
  have hsh : ∀ r, Shp K K w w' r := fun r => ⟨rfl, fun b _ _ cs e fr h => hc b cs e fr h⟩
  refine ⟨hs.size, ?_, Nat.le_trans hs.base hsz, fun l hR => ?_, hs.old, ⟨fun k o h => ?_, hs.hp.inj, hs.hp.apart, fun b h => Nat.lt_of_lt_of_le (hs.hp.lt b h) hsz, fun b h => Nat.lt_of_lt_of_le (hs.hp.hlt b h) hsz, hs.hp.hok, hs.hp.how⟩, fun t av h => ?_⟩
  · obtain ⟨Ds, h1, h2, h3⟩ := hs.defers
    exact ⟨Ds, h1, h2, fun D hD => ⟨(h3 D hD).1, (hd D (by rw [h1]; exact List.mem_map.2 ⟨D, hD, rfl⟩)).trans (h3 D hD).2.1, (h3 D hD).2.2⟩⟩
  · obtain ⟨r, hr⟩ := hs.rnd l hR
    exact hl l r hR hr
  · exact (hs.hp.obs k o h).mono (fun _ h => h) (fun b h _ => hb b (.inl h)) hsz rfl (fun b L hK => hb b (.inr (.inr ⟨k, o, L, h, hK⟩))) (fun J _ => ⟨rfl, fun b h => hb b (.inr (.inl h)), ho.1, ho.2.1, ho.2.2, hc⟩) fun r _ => hsh r
  · obtain ⟨v, hv, hr⟩ := hs.env t av h
    exact ⟨v, hv, hr.mono (fun _ h => h) (fun b h _ => hb b (.inl h)) hsz fun r _ => hsh r⟩
theorem Sim.putLoop {N : Cx} {K : Km} {ok : Nat → Prop} {w : World} {E : Env} {O : Objs} {a : Act} (hs : Sim N K ok w E O a) {l : Nat} {r : Loop} (hl : w.heap[l]? = some (.loop r)) (hf : Free K ok l) (r' : Loop) : Sim N K ok (w.putObj l (.loop r')) E O a := by
  have hlt := (Array.getElem?_eq_some_iff.1 hl).1
  refine hs.free (by simp) (fun b hb => World.putObj_heap_other ?_) (fun b hb => World.putObj_heap_other ?_) (fun b q _ hb => ?_) (fun b cs e fr hb => ⟨cs, e, fr, (World.putObj_heap_other ?_).trans hb, rfl⟩) ⟨rfl, rfl, rfl⟩
  · rintro rfl
    rcases hb with h | h | ⟨k, o, L, h1, h2⟩
    · exact hf.1 h
    · exact hf.2 h
    · exact loop_notOwn hs.hp hl k o L h1 h2
  · rintro rfl
    obtain ⟨Ds, h1, _, h3⟩ := hs.defers
    rw [h1] at hb
    obtain ⟨D, hD, e⟩ := List.mem_map.1 hb
    have e' : D = b := by simpa [mark] using e
    subst e'
    have := (h3 D hD).2.1
    rw [hl] at this; cases this
  · by_cases e : b = l
    · subst e; exact ⟨r', World.putObj_heap_same hlt⟩
    · exact ⟨q, (World.putObj_heap_other e).trans hb⟩
  · rintro rfl; rw [hl] at hb; cases hb
theorem kind_putLoop {w : World} {l : Nat} {r r' : Loop} (hl : w.heap[l]? = some (.loop r)) (b : Nat) (o : Obj) (hb : w.heap[b]? = some o) : ∃ o', (w.putObj l (.loop r')).heap[b]? = some o' ∧ SK o o' := by
  by_cases e : b = l
  · subst e
    rw [hl] at hb
    cases hb
    exact ⟨_, World.putObj_heap_same (Array.getElem?_eq_some_iff.1 hl).1, r', rfl⟩
  · exact ⟨o, (World.putObj_heap_other e).trans hb, SK.refl o⟩
theorem Sim.okUp {N : Cx} {K : Km} {ok ok' : Nat → Prop} {w : World} {E : Env} {O : Objs} {a : Act} (hs : Sim N K ok w E O a) (h1 : ∀ b, ok b → ok' b) (h2 : ∀ b, ok' b → b < w.heap.size) (h3 : ∀ k o b L, O.get k = some o → K k = some (b, L) → ¬ ok' b) (h4 : ∀ b, K.hid b → ¬ ok' b)
    (h5 : a.defers = []) : Sim N K ok' w E O a := by
  have hsh : ∀ r, Shp K K w w r := fun r => Shp.refl _ _ _
  refine ⟨hs.size, ⟨[], by rw [h5]; rfl, List.nodup_nil, fun D hD => by simp at hD⟩, hs.base, hs.rnd, hs.old, ⟨fun k o h => ?_, hs.hp.inj, h3, h2, hs.hp.hlt, h4, hs.hp.how⟩, fun t av h => ?_⟩
  · exact (hs.hp.obs k o h).mono h1 (fun _ _ _ => rfl) (Nat.le_refl _) rfl (fun _ _ _ => rfl) (fun J _ => ⟨rfl, fun _ _ => rfl, rfl, rfl, rfl, CSh.same fun _ _ => rfl⟩) fun r _ => hsh r
  · obtain ⟨v, hv, hr⟩ := hs.env t av h
    exact ⟨v, hv, hr.mono h1 (fun _ _ _ => rfl) (Nat.le_refl _) fun r _ => hsh r⟩
def jumpQ (Q : PQ) : Code → Env → Objs → Prop
  | .ret, E, O => Q .ret E O
  | .exit j, E, O => Q (.exit j) E O
  | .goto j, E, O => Q (.goto j) E O
  | _, _, _ => False
def roundQ (fz : List Nat) (Q : PQ) (I : Env → Objs → Prop) : PQ
  | .normal, E, O => I E O
  | .ret, E, O => ∃ l lo, AllIn E l ∧ AllInO O lo ∧ (∀ p, p ∈ l → memB p.1 fz = true) ∧ Q .ret (envL l) (objL lo)
  | .exit j, E, O => ∃ l lo, AllIn E l ∧ AllInO O lo ∧ (∀ p, p ∈ l → memB p.1 fz = true) ∧ Q (.exit j) (envL l) (objL lo)
  | .goto j, E, O => ∃ l lo, AllIn E l ∧ AllInO O lo ∧ (∀ p, p ∈ l → memB p.1 fz = true) ∧ Q (.goto j) (envL l) (objL lo)
  | _, _, _ => False
def envP : List Tmp → List A1 → Env
  | t :: ts, x :: xs => .s t (some (.o x)) :: envP ts xs
  | _, _ => []
theorem envL_get : ∀ {l : List (Nat × AV)} {t : Nat} {av : AV}, (envL l).get t = some av → ∃ p, p ∈ l ∧ p.1 = t
  | [], _, _, h => by simp [envL, Env.get] at h
  | (t', a) :: l, t, av, h => by
    simp only [envL, Env.get] at h
    cases hb : Nat.beq t' t with
    | true => exact ⟨(t', a), by simp, Nat.eq_of_beq_eq_true hb⟩
    | false => rw [hb] at h; obtain ⟨p, h1, h2⟩ := envL_get h; exact ⟨p, List.mem_cons_of_mem _ h1, h2⟩
theorem envP_app : ∀ {ps : List Tmp} {xs : List A1} {E : Env} {t : Nat} {av : AV}, Env.get (envP ps xs ++ E) t = some av → (envP ps xs).get t = some av ∨ E.get t = some av
  | [], _, _, _, _, h => .inr (by simpa [envP] using h)
  | _ :: _, [], _, _, _, h => .inr (by simpa [envP] using h)
  | t' :: ts, x :: xs, E, t, av, h => by
    simp only [envP, List.cons_append, Env.get] at h ⊢
    cases hb : Nat.beq t' t with
    | true => rw [hb] at h; exact .inl h
    | false => rw [hb] at h; exact envP_app h
def layP : List Tmp → List Value → Array Value → Array Value
  | t :: ts, v :: vs, a => layP ts vs (a.setIfInBounds t v)
  | _, _, a => a
theorem layP_zip : ∀ (ps : List Tmp) (vs : List Value) (a : Array Value), ((ps.toArray.zip vs.toArray).foldl (fun tmps (x : Tmp × Value) => tmps.setIfInBounds x.1 x.2) a) = layP ps vs a := by
  intro ps vs a
  rw [← Array.foldl_toList]
  have : (ps.toArray.zip vs.toArray).toList = ps.zip vs := by simp
  rw [this]
  induction ps generalizing vs a with
  | nil => simp [layP]
  | cons t ts ih =>
    cases vs with
    | nil => simp [layP]
    | cons v vs => simp only [List.zip_cons_cons, List.foldl_cons, layP]; exact ih vs _ (by simp)
theorem layP_size : ∀ (ps : List Tmp) (vs : List Value) (a : Array Value), (layP ps vs a).size = a.size
  | [], _, _ => rfl
  | _ :: _, [], _ => rfl
  | t :: ts, v :: vs, a => by rw [layP, layP_size ts vs]; simp
theorem layP_other : ∀ {ps : List Tmp} {vs : List Value} {a : Array Value} {t : Nat}, t ∉ ps → (layP ps vs a)[t]? = a[t]?
  | [], _, _, _, _ => rfl
  | _ :: _, [], _, _, _ => rfl
  | t' :: ts, v :: vs, a, t, h => by
    simp only [List.mem_cons, not_or] at h
    rw [layP, layP_other h.2, Array.getElem?_setIfInBounds_ne (fun e => h.1 e.symm)]
theorem layP_env {K : Km} {ok : Nat → Prop} {w : World} : ∀ {ps : List Tmp} {xs : List A1} {vs : List Value} {a : Array Value} {t : Nat} {av : AV}, ps.Nodup → (∀ p, p ∈ ps → p < a.size) → RelAs K ok w xs vs → (envP ps xs).get t = some av → ∃ v, (layP ps vs a)[t]? = some v ∧ RelV K ok w av v
  | [], _, _, _, _, _, _, _, _, h => by simp [envP, Env.get] at h
  | _ :: _, [], _, _, _, _, _, _, _, h => by simp [envP, Env.get] at h
  | t' :: ts, x :: xs, vs, a, t, av, hn, hp, hr, h => by
    obtain ⟨v, us, rfl, hx, hxs⟩ := hr.head
    simp only [List.nodup_cons] at hn
    simp only [envP, Env.get] at h
    cases hb : Nat.beq t' t with
    | true =>
      rw [hb] at h
      cases h
      have e := Nat.eq_of_beq_eq_true hb
      subst e
      refine ⟨v, ?_, .o hx⟩
      rw [layP, layP_other hn.1]
      simp [hp t' (by simp)]
    | false =>
      rw [hb] at h
      exact layP_env (ps := ts) (xs := xs) hn.2 (fun p hp' => by simpa using hp p (List.mem_cons_of_mem _ hp')) hxs h
section
variable {P : Program} {T : Ty} {N : Nx} {E : Env} {O : Objs}
structure RngI (X : Cx) (K0 : Km) (ok0 : Nat → Prop) (w0 : World) (O0 : Objs) (l : Nat) (rec : Loop) (Ds : List Nat) (tmps : Array Value) (E : Env) (O : Objs) (ok F : Nat → Prop) (W : World) (K : Km) (okc : Nat → Prop) : Prop where
  sim : Sim X K okc W E O { tmps := tmps, defers := [] }
  fr : Fr K0 ok0 w0 O0 K okc W O
  rec_ : W.heap[l]? = some (.loop rec)
  new : w0.heap.size ≤ l
  free : Free K okc l
  ds : ∀ D, D ∈ Ds → W.heap[D]? = some (.deferred (some [])) ∧ w0.heap.size ≤ D ∧ Free K okc D ∧ F D
  okF : ∀ b, okc b → ok b ∨ F b
  own : ∀ k o b L, O.get k = some o → K k = some (b, L) → F b
  hid : ∀ b, K.hid b → F b
  lF : F l
  old : ∀ b, b < w0.heap.size → ok0 b ∨ F b
  up : ∀ b, ok0 b → ok b
theorem RngI.stable {X : Cx} {K0 : Km} {ok0 : Nat → Prop} {w0 : World} {O0 : Objs} {l : Nat} {rec : Loop} {Ds : List Nat} {tmps : Array Value} {E : Env} {O : Objs} {ok F ok1 : Nat → Prop} {W W1 : World} {K : Km} {okc : Nat → Prop}
    (h : RngI X K0 ok0 w0 O0 l rec Ds tmps E O ok F W K okc) (h1 : ∀ b, ok b → ok1 b) (h2 : ∀ b, ok b → b < W.heap.size → W1.heap[b]? = W.heap[b]?) (h3 : ∀ b, F b → W1.heap[b]? = W.heap[b]?) (h4 : W.heap.size ≤ W1.heap.size)
    (h5 : W1.os = W.os) (h6 : W1.tape = W.tape) (h7 : W1.output = W.output) (h8 : CSh W W1) (hX : X.R = some l) : RngI X K0 ok0 w0 O0 l rec Ds tmps E O ok1 F W1 K okc := by
  have hokc : ∀ b, okc b → W1.heap[b]? = W.heap[b]? := fun b hb => by
    rcases h.okF b hb with g | g
    · exact h2 b g (h.sim.hp.lt b hb)
    · exact h3 b g
  have hold : ∀ b, b < w0.heap.size → W1.heap[b]? = W.heap[b]? := fun b hb => by
    rcases h.old b hb with g | g
    · exact h2 b (h.up b g) (Nat.lt_of_lt_of_le hb h.fr.size)
    · exact h3 b g
  refine ⟨h.sim.free h4 (fun b hb => ?_) (fun b hb => by simp at hb) (fun b r hR hb => ?_) h8 ⟨h5, h6, h7⟩, ⟨Nat.le_trans h.fr.size h4, fun b hb g1 g2 => (hold b hb).trans (h.fr.keep b hb g1 g2), h.fr.okUp, h.fr.okNew, h.fr.own, h5.trans h.fr.os, h6.trans h.fr.tape, h7.trans h.fr.output, fun b o hb => ?_, h.fr.pin, h.fr.hid⟩,
    (h3 l h.lF).trans h.rec_, h.new, h.free, fun D hD => ?_, fun b hb => (h.okF b hb).imp_left (h1 b), h.own, h.hid, h.lF, h.old, fun b hb => h1 b (h.up b hb)⟩
  · rcases hb with g | g | ⟨k, o, L, g1, g2⟩
    · exact hokc b g
    · exact h3 b (h.hid b g)
    · exact h3 b (h.own k o b L g1 g2)
  · rw [hX] at hR
    cases hR
    exact ⟨rec, (h3 l h.lF).trans h.rec_⟩
  · obtain ⟨o', g1, g2⟩ := h.fr.kind b o hb
    exact ⟨o', (hold b (Array.getElem?_eq_some_iff.1 hb).1).trans g1, g2⟩
  · obtain ⟨g1, g2, g3, g4⟩ := h.ds D hD
    exact ⟨(h3 D g4).trans g1, g2, g3, g4⟩
theorem fn_val {N : Cx} {K : Km} {ok : Nat → Prop} {w : World} {a : Act} (hs : Sim N K ok w E O a) {x : Operand} {f : FuncId} {caps : List PC} (hx : E.ev x = some (.c (.fn f caps))) : ∃ lb : List Value, a.eval x = .func (.func f) #[] lb.toArray ∧ RelAs K ok w (caps.map .c) lb := by
  have hfv := (hs.ev hx).one
  generalize hev : a.eval x = v at hfv
  cases hfv with
  | cl h =>
    cases h with
    | fn gg hg =>
      refine ⟨_, rfl, ⟨by simp, fun i x hx => ?_⟩⟩
      simp only [List.getElem?_map, Option.map_eq_some_iff] at hx
      obtain ⟨y, hy, rfl⟩ := hx
      have hlt : i < caps.length := (List.getElem?_eq_some_iff.1 hy).1
      exact ⟨gg i, by simp [hlt], .c (.cl (hg i y hy))⟩
  | fn gg hg =>
    refine ⟨_, rfl, ⟨by simp, fun i x hx => ?_⟩⟩
    simp only [List.getElem?_map, Option.map_eq_some_iff] at hx
    obtain ⟨y, hy, rfl⟩ := hx
    have hlt : i < caps.length := (List.getElem?_eq_some_iff.1 hy).1
    exact ⟨gg i, by simp [hlt], .c (hg i y hy)⟩
theorem closedAs_caps : ∀ {caps : List PC}, closedL caps = true → closedAs (caps.map A1.c) = true
  | [], _ => rfl
  | x :: l, h => by
    simp only [closedL, Bool.and_eq_true] at h
    simp only [List.map_cons, closedAs, Bool.and_eq_true]
    exact ⟨h.1, closedAs_caps h.2⟩
theorem W.range (hT : T.ok P) (hm : P.follows .mixedOrders = true) {g : Operand} {ps : List Tmp} {assign body : Code} {Q : PQ} {f : FuncId} {fn : Func} {c0 : Code} {caps : List PC} {items : List (List A1)}
    (hg : E.ev g = some (.c (.fn f caps))) (hcl : closedL caps = true) (hf : P.funcs[f]? = some fn) (hb : fn.body = some c0) (hnm : (fn.name == "runtime.NumGoroutine") = false) (hit : CtI P f (caps.map .c) items)
    (hlen : ∀ args, args ∈ items → args.length = ps.length ∧ closedAs args = true) (fz : List Nat) (hps : (nodB ps && ps.all fun t => Nat.blt t N.n && !(memB t fz)) = true)
    {G : Type} (inv : Nat → G → Prop) (sE : Nat → G → List (Nat × AV)) (sO : Nat → G → List (Nat × Ob)) (g0 : G) (h0 : inv 0 g0) (hE : AllIn E (sE 0 g0)) (hO : AllInO O (sO 0 g0)) (hfz : ∀ i g p, p ∈ sE i g → memB p.1 fz = true)
    (round : ∀ i g args, items[i]? = some args → inv i g → codeS P T ⟨N.n, fz⟩ assign (envP ps args ++ envL (sE i g)) (objL (sO i g)) (thenQ (fun E1 O1 => codeS P T ⟨N.n, fz⟩ body E1 O1 (roundQ fz Q (fun E' O' => ∃ g', inv (i + 1) g' ∧ AllIn E' (sE (i + 1) g') ∧ AllInO O' (sO (i + 1) g')))) (fun _ _ _ => False)))
    (after : ∀ g, inv items.length g → Q .normal (envL (sE items.length g)) (objL (sO items.length g))) : W P N E O (.rangeFunc g ps.toArray assign body) Q := by
  intro R B old K ok w a hs
  simp only [Bool.and_eq_true, List.all_eq_true, Bool.not_eq_true'] at hps
  have hpn := nodB_spec hps.1
  have hpl : ∀ t, t ∈ ps → t < a.tmps.size := fun t ht => by
    rw [hs.size]
    exact Nat.lt_of_lt_of_le (Nat.lt_succ_self _) (Nat.le_of_ble_eq_true (hps.2 t ht).1)
  have hpf : ∀ t, memB t fz = true → t ∉ ps := fun t ht hin => by have := (hps.2 t hin).2; rw [ht] at this; cases this
  obtain ⟨lb, hgv, hlb⟩ := fn_val hs hg
  refine wpIn_rangeFunc ?_
  intro fnid _
  have main : ∀ (l : Nat) (Ds : List Nat) (W1 : World) (dd : Nat), (Instr.enterLoop fnid a.tmps ps.toArray assign body R).run P w = .ok (l, Ds.map mark) W1 →
      W1.heap[l]? = some (.loop { state := .ready, pending := none, fn := fnid, tmps := a.tmps, params := ps.toArray, assign := assign, body := body, defers := dd }) → Ds.Nodup → (∀ D, D ∈ Ds → W1.heap[D]? = some (.deferred (some [])) ∧ w.heap.size ≤ D) →
      w.heap.size ≤ l → (∀ b, b < w.heap.size → W1.heap[b]? = w.heap[b]?) → w.heap.size ≤ W1.heap.size → W1.os = w.os → W1.tape = w.tape → W1.output = w.output →
      ∃ (l : Nat) (mk : List Deferred) (w₁ : World) (d : Deferred) (w₁' : World) (f : FuncId) (args : Array Value) (w₂ : World), (Instr.enterLoop fnid a.tmps ps.toArray assign body (FR R).round).run P w = .ok (l, mk) w₁ ∧ (resolve a.eval (rangeCall g l) 0).run P w₁ = .ok d w₁' ∧
        (∀ f', Target.leads P w₁' d.target d.args = some f' → (FR R).fn f') ∧ (invoke d.target d.args).run P w₁' = .ok (.enter f args) w₂ ∧ ((FR R).depth.isSome = true → 1 ≤ 0) ∧
        CallsIn (FR R) (0 - 1) P f args w₂ (rangePost (FR R) 0 P l (Post ⟨N, R, B, old⟩ K ok w O Q) { a with defers := mk ++ a.defers }) := by
    intro l Ds W1 dd he hl hnd hDs hlw hsame hsz z1 z2 z3
    obtain ⟨rec, hrec⟩ : ∃ rec : LoopState → Option Code → Loop, rec = fun st pe => { state := st, pending := pe, fn := fnid, tmps := a.tmps, params := ps.toArray, assign := assign, body := body, defers := dd } := ⟨_, rfl⟩
    have hl1 : W1.heap[l]? = some (.loop (rec .ready none)) := by rw [hrec]; exact hl
    let X1 : Cx := ⟨⟨N.n, fz⟩, some l, 0, a.tmps⟩
    let yv : Value := .func (.yield l) #[] #[]
    let I : Nat → St := fun i ok' F W => ∃ (g : G) (K' : Km) (okc : Nat → Prop), inv i g ∧ RngI X1 K ok w O l (rec .ready none) Ds a.tmps (envL (sE i g)) (objL (sO i g)) ok' F W K' okc
    let Xs : St := fun ok' F W => ∃ (c : Code) (lE : List (Nat × AV)) (lO : List (Nat × Ob)) (K' : Km) (okc : Nat → Prop), jumpQ Q c (envL lE) (objL lO) ∧ RngI X1 K ok w O l (rec .done (some c)) Ds a.tmps (envL lE) (objL lO) ok' F W K' okc
    have hlt1 := (Array.getElem?_eq_some_iff.1 hl1).1
    -- the state when the loop is entered
    have hp1 : Hp K ok W1 O := hs.hp.over hsz hsame (fun _ h => h) (fun _ h => .inl h) (fun b h => Nat.lt_of_lt_of_le (hs.hp.lt b h) hsz) ⟨z1, z2, z3⟩
    have hfr1 : Fr K ok w O K ok W1 O := ⟨hsz, fun b hb _ _ => hsame b hb, fun _ h => h, fun _ h => .inl h, fun k o b L h1 h2 => .inr ⟨k, o, L, h1, h2⟩, z1, z2, z3, kind_same hsame, fun _ _ => rfl, fun _ h => .inl h⟩
    have hsh : ∀ r, Shp K K w W1 r := fun r => ⟨rfl, fun b _ _ cs e fr h => CSh.same hsame b cs e fr h⟩
    have hsub : SubO (objL (sO 0 g0)) O := SubO.of hO
    have hI0 : I 0 ok (fun b => b < W1.heap.size ∧ ¬ ok b) W1 := by
      refine ⟨g0, K, ok, h0, ⟨⟨hs.size, ⟨[], rfl, List.nodup_nil, fun D hD => by simp at hD⟩, Nat.zero_le _, fun l' hl' => ?_, fun t _ => rfl, hp1.sub hsub, fun t av h => ?_⟩, hfr1.trans (Fr.weak hsub), hl1, hlw, ⟨fun h => ?_, fun h => ?_⟩, fun D hD => ⟨(hDs D hD).1, (hDs D hD).2, ⟨fun h => ?_, fun h => ?_⟩, (Array.getElem?_eq_some_iff.1 (hDs D hD).1).1, fun h => ?_⟩,
        fun b h => .inl h, fun k o b L h1 h2 => ⟨own_lt hp1 (hsub _ _ h1) h2, hs.hp.apart k o b L (hsub _ _ h1) h2⟩, fun b h => ⟨hp1.hlt b h, hs.hp.hok b h⟩, ⟨hlt1, fun h => ?_⟩, fun b h => ?_, fun _ h => h⟩⟩
      · cases hl'; exact ⟨_, hl1⟩
      · obtain ⟨v, hv, hr⟩ := hs.env t av (Sub.of hE t av h)
        exact ⟨v, hv, hr.mono (fun _ h => h) (fun b _ hb => hsame b hb) hsz fun r _ => hsh r⟩
      · have := hs.hp.lt l h; omega
      · have := hs.hp.hlt l h; omega
      · have := hs.hp.lt D h; have := (hDs D hD).2; omega
      · have := hs.hp.hlt D h; have := (hDs D hD).2; omega
      · have := hs.hp.lt D h; have := (hDs D hD).2; omega
      · have := hs.hp.lt l h; omega
      · by_cases hb : ok b
        · exact .inl hb
        · exact .inr ⟨Nat.lt_of_lt_of_le h hsz, hb⟩
    have hY : Yields P yv items I Xs := by
      refine ⟨fun i ok' ok1 F W W1 h h1 h2 h3 h4 h5 h6 h7 h8 => ?_, fun ok' ok1 F W W1 h h1 h2 h3 h4 h5 h6 h7 h8 => ?_, ?_⟩
      · obtain ⟨g, K', okc, a1, a2⟩ := h
        exact ⟨g, K', okc, a1, a2.stable h1 h2 h3 h4 h5 h6 h7 h8 rfl⟩
      · obtain ⟨c, lE, lO, K', okc, a1, a2⟩ := h
        exact ⟨c, lE, lO, K', okc, a1, a2.stable h1 h2 h3 h4 h5 h6 h7 h8 rfl⟩
      · intro i args hi ok' F W Ki vs hI hok hFok hFlt hrel
        obtain ⟨g, K', okc, hinv, hr⟩ := hI
        obtain ⟨hal, hac⟩ := hlen args (List.mem_of_getElem? hi)
        have hrel' : RelAs K' ok' W args vs := hrel.reK hac
        have hvl : vs.length = ps.length := by rw [hrel.len, hal]
        refine ⟨l, fnid, layP ps vs a.tmps, assign, body, rfl, ?_, ?_⟩
        · have := run_yield (P := P) (args := vs.toArray) hr.rec_ (by rw [hrec]; simpa using hvl)
          rw [hrec] at this
          rw [this, ← layP_zip]
        -- the round's state
        have hokm : ∀ k o b L, (objL (sO i g)).get k = some o → K' k = some (b, L) → ¬ (okc b ∨ ok' b) := fun k o b L h1 h2 h => by
          rcases h with h | h
          · exact hr.sim.hp.apart k o b L h1 h2 h
          · exact hFok b (hr.own k o b L h1 h2) h
        have hsm : Sim X1 K' (fun b => okc b ∨ ok' b) W (envL (sE i g)) (objL (sO i g)) { tmps := a.tmps, defers := [] } :=
          hr.sim.okUp (fun b h => .inl h) (fun b h => h.elim (hr.sim.hp.lt b) (hok b)) hokm (fun b h h' => h'.elim (hr.sim.hp.hok b h) (hFok b (hr.hid b h))) rfl
        have hsr : Sim X1 K' (fun b => okc b ∨ ok' b) W (envP ps args ++ envL (sE i g)) (objL (sO i g)) { tmps := layP ps vs a.tmps, defers := [] } := by
          refine ⟨by show (layP ps vs a.tmps).size = _; rw [layP_size]; exact hsm.size, ⟨[], rfl, List.nodup_nil, fun D hD => by simp at hD⟩, Nat.zero_le _, hsm.rnd, fun t ht => layP_other (hpf t (memB_of ht)), hsm.hp, fun t av h => ?_⟩
          rcases envP_app h with h | h
          · exact layP_env hpn hpl (hrel'.mono (fun b h => .inr h) (fun _ _ _ => rfl) (Nat.le_refl _) fun r _ => Shp.refl _ _ _) h
          · obtain ⟨p, hp, hpt⟩ := envL_get h
            obtain ⟨v, hv, hrv⟩ := hsm.env t av h
            exact ⟨v, (layP_other (hpf t (by rw [← hpt]; exact hfz i g p hp))).trans hv, hrv⟩
        have hfree1 : Free K' (fun b => okc b ∨ ok' b) l := ⟨fun h => h.elim hr.free.1 fun h => hFok l hr.lF h, hr.free.2⟩
        refine roundIn_of_wpIn (F := Fence.wide) trivial (wpIn_mono (codeS_sound hT hm assign _ _ _ (round i g args hi hinv) (some l) 0 a.tmps K' _ W _ hsr) fun e a1 w1 hp => ?_)
        obtain ⟨E1, O1, K1, ok1, hq, hs1, hf1⟩ := hp
        cases e with
        | normal =>
          have hfl := hf1.free (Array.getElem?_eq_some_iff.1 hr.rec_).1 (loop_notOwn hsr.hp hr.rec_) hfree1.1 hfree1.2
          have hl2 : w1.heap[l]? = some (.loop (rec .ready none)) := hfl.1.trans hr.rec_
          refine ⟨_, run_beginRound hl2 (by rw [hrec]), ?_⟩
          have hl3 : (w1.putObj l (.loop { rec .ready none with state := .busy })).heap[l]? = some (.loop { rec .ready none with state := .busy }) := World.putObj_heap_same (Array.getElem?_eq_some_iff.1 hl2).1
          have hs2 := hs1.putLoop hl2 ⟨hfl.2.1, hfl.2.2⟩ { rec .ready none with state := .busy }
          refine wpIn_mono (codeS_sound hT hm body _ _ _ hq (some l) 0 a.tmps K1 ok1 _ a1 hs2) fun e a2 w2 hp => ?_
          obtain ⟨E2, O2, K2, ok2, hq2, hs3, hf2⟩ := hp
          have hfl2 := hf2.free (Array.getElem?_eq_some_iff.1 hl3).1 (loop_notOwn hs2.hp hl3) hfl.2.1 hfl.2.2
          have hl4 : w2.heap[l]? = some (.loop { rec .ready none with state := .busy }) := hfl2.1.trans hl3
          -- what the round has changed
          have hok'0 : ∀ b, ok' b → ok b ∨ w.heap.size ≤ b := fun b h => by
            rcases Nat.lt_or_ge b w.heap.size with hb | hb
            · rcases hr.old b hb with g | g
              · exact .inl g
              · exact absurd h (hFok b g)
            · exact .inr hb
          have fin : ∀ (jump : Option Code) (lE : List (Nat × AV)) (lO : List (Nat × Ob)), AllIn E2 lE → AllInO O2 lO → (∀ p, p ∈ lE → memB p.1 fz = true) →
              ∃ v w', (Instr.endRound l jump).run P w2 = .ok v w' ∧ v = .bool jump.isNone ∧ FrY F W (fun b => F b ∨ (W.heap.size ≤ b ∧ b < w'.heap.size)) w' ∧
                RngI X1 K ok w O l (rec (if jump.isNone then .ready else .done) jump) Ds a.tmps (envL lE) (objL lO) ok' (fun b => F b ∨ (W.heap.size ≤ b ∧ b < w'.heap.size)) w' K2 ok2 := by
            intro jump lE lO gE gO gz
            have hsW : W.heap.size ≤ w2.heap.size := Nat.le_trans hf1.size (by have := hf2.size; simpa using this)
            have hend := run_endRound (P := P) jump hl4
            refine ⟨_, _, hend, rfl, ?_⟩
            have hrr : ({ { rec .ready none with state := .busy } with state := if jump.isNone then .ready else .done, pending := jump } : Loop) = rec (if jump.isNone then .ready else .done) jump := by rw [hrec]
            rw [hrr]
            have hlt4 := (Array.getElem?_eq_some_iff.1 hl4).1
            -- blocks that stay
            have ownF : ∀ k o b L, (objL (sO i g)).get k = some o → K' k = some (b, L) → F b := hr.own
            have own1 : ∀ k o b L, O1.get k = some o → K1 k = some (b, L) → W.heap.size ≤ b ∨ F b := fun k o b L h1 h2 => by
              rcases hf1.own k o b L h1 h2 with h | ⟨k0, o0, L0, h3, h4⟩
              · exact .inl h
              · exact .inr (hr.own k0 o0 b L0 h3 h4)
            have hid1 : ∀ b, K1.hid b → F b ∨ W.heap.size ≤ b := fun b h => (hf1.hid b h).imp_left (hr.hid b)
            have ok1F : ∀ b, ok1 b → ok' b ∨ F b ∨ W.heap.size ≤ b := fun b h => by
              rcases hf1.okNew b h with (h | h) | h | ⟨k, o, L, h1, h2⟩
              · exact (hr.okF b h).imp_right .inl
              · exact .inl h
              · exact .inr (.inr h)
              · exact .inr (.inl (hr.own k o b L h1 h2))
            have own2 : ∀ k o b L, O2.get k = some o → K2 k = some (b, L) → F b ∨ W.heap.size ≤ b := fun k o b L h1 h2 => by
              rcases hf2.own k o b L h1 h2 with h | ⟨k0, o0, L0, h3, h4⟩
              · exact .inr (Nat.le_trans hf1.size (by simpa using h))
              · exact (own1 k0 o0 b L0 h3 h4).symm
            have hid2 : ∀ b, K2.hid b → F b ∨ W.heap.size ≤ b := fun b h => by
              rcases hf2.hid b h with h | h
              · exact hid1 b h
              · exact .inr (Nat.le_trans hf1.size (by simpa using h))
            have ok2F : ∀ b, ok2 b → ok' b ∨ F b ∨ W.heap.size ≤ b := fun b h => by
              rcases hf2.okNew b h with h | h | ⟨k, o, L, h1, h2⟩
              · exact ok1F b h
              · exact .inr (.inr (Nat.le_trans hf1.size (by simpa using h)))
              · rcases own1 k o b L h1 h2 with h | h
                · exact .inr (.inr h)
                · exact .inr (.inl h)
            have keep1 : ∀ b, b < W.heap.size → ¬ F b → w1.heap[b]? = W.heap[b]? := fun b hb hF => hf1.keep b hb (fun k o L h1 h2 => hF (hr.own k o b L h1 h2)) fun h => hF (hr.hid b h)
            have keep2 : ∀ b, b < W.heap.size → ¬ F b → w2.heap[b]? = W.heap[b]? := fun b hb hF => by
              have hbl : b ≠ l := fun e => hF (by rw [e]; exact hr.lF)
              rw [hf2.keep b (by have := hf1.size; simp; omega) (fun k o L h1 h2 => ?_) (fun h => ?_), World.putObj_heap_other hbl, keep1 b hb hF]
              · rcases own1 k o b L h1 h2 with h | h
                · omega
                · exact hF h
              · rcases hid1 b h with h | h
                · exact hF h
                · omega
            have kind4 : ∀ (b : Nat) (o : Obj), W.heap[b]? = some o → ∃ o', (w2.putObj l (.loop (rec (if jump.isNone then .ready else .done) jump))).heap[b]? = some o' ∧ SK o o' := fun b o hb => by
              obtain ⟨o1, h1, h2⟩ := hf1.kind b o hb
              obtain ⟨o2, h3, h4⟩ := kind_putLoop (r' := { rec .ready none with state := .busy }) hl2 b o1 h1
              obtain ⟨o3, h5, h6⟩ := hf2.kind b o2 h3
              obtain ⟨o4, h7, h8⟩ := kind_putLoop (r' := rec (if jump.isNone then .ready else .done) jump) hl4 b o3 h5
              exact ⟨o4, h7, h2.trans (h4.trans (h6.trans h8))⟩
            refine ⟨⟨by simpa using hsW, fun b hb hF => ?_, fun b h => h.imp_right (·.1), fun b h => ?_, hf2.os.trans hf1.os, hf2.tape.trans hf1.tape, hf2.output.trans hf1.output, kind4⟩, ?_⟩
            · rw [World.putObj_heap_other (fun e => hF (by rw [e]; exact hr.lF))]; exact keep2 b hb hF
            · rcases h with h | h
              · exact Nat.lt_of_lt_of_le (hFlt b h) (by simpa using hsW)
              · exact h.2
            have hs4 := (hs3.weak (Sub.of gE) (SubO.of gO)).putLoop hl4 ⟨hfl2.2.1, hfl2.2.2⟩ (rec (if jump.isNone then .ready else .done) jump)
            have hnewF : ∀ b, F b ∨ W.heap.size ≤ b → b < w2.heap.size → F b ∨ (W.heap.size ≤ b ∧ b < (w2.putObj l (.loop (rec (if jump.isNone then .ready else .done) jump))).heap.size) := fun b h hlt => h.imp_right fun h => ⟨h, by simpa using hlt⟩
            refine ⟨⟨hs3.size.symm ▸ hs.size, ⟨[], rfl, List.nodup_nil, fun D hD => by simp at hD⟩, Nat.zero_le _, hs4.rnd, fun t _ => rfl, hs4.hp, fun t av h => ?_⟩, ?_, World.putObj_heap_same hlt4, hr.new, ⟨hfl2.2.1, hfl2.2.2⟩, fun D hD => ?_, fun b h => ?_, fun k o b L h1 h2 => ?_, fun b h => ?_, .inl hr.lF, fun b h => (hr.old b h).imp_right .inl, hr.up⟩
            · -- slots that the loop began with
              obtain ⟨v, hv, hrv⟩ := hs4.env t av h
              obtain ⟨p, hp, hpt⟩ := envL_get h
              have hz := gz p hp
              have h1 := hs3.old t (memB_mem (by rw [← hpt]; exact hz))
              exact ⟨v, by rw [← h1]; exact hv, hrv⟩
            · -- from the loop's beginning
              have nown1 : ∀ b, (∀ k o L, O.get k = some o → K k ≠ some (b, L)) → b < w.heap.size → ∀ k o L, (objL (sO i g)).get k = some o → K' k ≠ some (b, L) := fun b g1 hb k o L h1 h2 => by
                rcases hr.fr.own k o b L h1 h2 with h | ⟨k0, o0, L0, h3, h4⟩
                · omega
                · exact g1 k0 o0 L0 h3 h4
              have nhid1 : ∀ b, ¬ K.hid b → b < w.heap.size → ¬ K'.hid b := fun b g2 hb h => by
                rcases hr.fr.hid b h with h | h
                · exact g2 h
                · omega
              have hww : w.heap.size ≤ W.heap.size := hr.fr.size
              have hw1 : W.heap.size ≤ w1.heap.size := hf1.size
              have nown2 : ∀ b, (∀ k o L, O.get k = some o → K k ≠ some (b, L)) → b < w.heap.size → ∀ k o L, O1.get k = some o → K1 k ≠ some (b, L) := fun b g1 hb k o L h1 h2 => by
                rcases hf1.own k o b L h1 h2 with h | ⟨k0, o0, L0, h3, h4⟩
                · omega
                · exact nown1 b g1 hb k0 o0 L0 h3 h4
              have nhid2 : ∀ b, ¬ K.hid b → b < w.heap.size → ¬ K1.hid b := fun b g2 hb h => by
                rcases hf1.hid b h with h | h
                · exact nhid1 b g2 hb h
                · omega
              have own0 : ∀ b, (∃ k o L, (objL (sO i g)).get k = some o ∧ K' k = some (b, L)) → w.heap.size ≤ b ∨ ∃ k o L, O.get k = some o ∧ K k = some (b, L) := fun b ⟨k, o, L, h1, h2⟩ => hr.fr.own k o b L h1 h2
              have own01 : ∀ b, (∃ k o L, O1.get k = some o ∧ K1 k = some (b, L)) → w.heap.size ≤ b ∨ ∃ k o L, O.get k = some o ∧ K k = some (b, L) := fun b ⟨k, o, L, h1, h2⟩ => by
                rcases hf1.own k o b L h1 h2 with h | h
                · exact .inl (by omega)
                · exact own0 b h
              refine ⟨Nat.le_trans hr.fr.size (by simpa using hsW), fun b hb g1 g2 => ?_, fun b h => hf2.okUp b (hf1.okUp b (.inl (hr.fr.okUp b h))), fun b h => ?_, fun k o b L g1 g2 => ?_, (hf2.os.trans hf1.os).trans hr.fr.os, (hf2.tape.trans hf1.tape).trans hr.fr.tape, (hf2.output.trans hf1.output).trans hr.fr.output, fun b o hb => ?_, fun r hr' => (hf2.pin r hr').trans ((hf1.pin r hr').trans (hr.fr.pin r hr')), fun b h => ?_⟩
              · have hbl : b ≠ l := by omega
                rw [World.putObj_heap_other hbl, hf2.keep b (by simp; omega) (nown2 b g1 hb) (nhid2 b g2 hb), World.putObj_heap_other hbl, hf1.keep b (by omega) (nown1 b g1 hb) (nhid1 b g2 hb), hr.fr.keep b hb g1 g2]
              · rcases hf2.okNew b h with h | h | h
                · rcases hf1.okNew b h with (h | h) | h | h
                  · exact hr.fr.okNew b h
                  · exact (hok'0 b h).imp_right .inl
                  · exact .inr (.inl (by omega))
                  · exact .inr (own0 b h)
                · exact .inr (.inl (by simp at h; omega))
                · exact .inr (own01 b h)
              · rcases hf2.own k o b L (SubO.of gO k o g1) g2 with h | h
                · exact .inl (by simp at h; omega)
                · exact own01 b h
              · obtain ⟨o1, h1, h2⟩ := hr.fr.kind b o hb
                obtain ⟨o2, h3, h4⟩ := kind4 b o1 h1
                exact ⟨o2, h3, h2.trans h4⟩
              · rcases hf2.hid b h with h | h
                · rcases hf1.hid b h with h | h
                  · exact hr.fr.hid b h
                  · exact .inr (by omega)
                · exact .inr (by simp at h; omega)
            · -- the marks
              obtain ⟨d1, d2, d3, d4⟩ := hr.ds D hD
              have hDl : D ≠ l := by rintro rfl; rw [hr.rec_] at d1; cases d1
              have f1 := hf1.free (Array.getElem?_eq_some_iff.1 d1).1 (def_notOwn hsr.hp d1) (fun h => h.elim d3.1 (hFok D d4)) d3.2
              have e1 : (w1.putObj l (.loop { rec .ready none with state := .busy })).heap[D]? = some (.deferred (some [])) := by rw [World.putObj_heap_other hDl, f1.1, d1]
              have f2 := hf2.free (Array.getElem?_eq_some_iff.1 e1).1 (def_notOwn hs2.hp e1) f1.2.1 f1.2.2
              exact ⟨by rw [World.putObj_heap_other hDl, f2.1, e1], d2, f2.2, .inl d4⟩
            · rcases ok2F b h with h1 | h1
              · exact .inl h1
              · exact .inr (hnewF b h1 (hs3.hp.lt b h))
            · have := own2 k o b L (SubO.of gO k o h1) h2
              exact hnewF b this (own_lt hs3.hp (SubO.of gO k o h1) h2)
            · exact hnewF b (hid2 b h) (hs3.hp.hlt b h)
          -- how the round ends
          have leave : ∀ (c : Code) (lE : List (Nat × AV)) (lO : List (Nat × Ob)), AllIn E2 lE → AllInO O2 lO → (∀ p, p ∈ lE → memB p.1 fz = true) → jumpQ Q c (envL lE) (objL lO) →
              ∃ v w', (Instr.endRound l (some c)).run P w2 = .ok v w' ∧ ∃ b F', Ending.returned v = .returned (.bool b) ∧ FrY F W F' w' ∧ (b = true → I (i + 1) ok' F' w') ∧ (b = false → Xs ok' F' w') := by
            intro c lE lO g1 g2 g3 g4
            obtain ⟨v, w', h1, rfl, h3, h4⟩ := fin (some c) lE lO g1 g2 g3
            exact ⟨_, w', h1, false, _, rfl, h3, (fun h => by cases h), fun _ => ⟨c, lE, lO, K2, ok2, g4, h4⟩⟩
          cases e with
          | normal =>
            obtain ⟨g', q1, q2, q3⟩ := hq2
            obtain ⟨v, w', h1, rfl, h3, h4⟩ := fin none (sE (i + 1) g') (sO (i + 1) g') q2 q3 (fun p hp => hfz _ _ p hp)
            exact ⟨_, w', h1, true, _, rfl, h3, fun _ => ⟨g', K2, ok2, q1, h4⟩, fun h => by cases h⟩
          | ret => obtain ⟨lE, lO, q1, q2, q3, q4⟩ := hq2; exact leave .ret lE lO q1 q2 q3 q4
          | exit j => obtain ⟨lE, lO, q1, q2, q3, q4⟩ := hq2; exact leave (.exit j) lE lO q1 q2 q3 q4
          | goto j => obtain ⟨lE, lO, q1, q2, q3, q4⟩ := hq2; exact leave (.goto j) lE lO q1 q2 q3 q4
          | panic _ => exact hq2.elim
          | outgrown => exact hq2.elim
        | _ => exact hq.elim
    have hfn : callable P f = true := by simp [callable, hf, hb, hnm]
    have hF0 : ∀ b, (b < W1.heap.size ∧ ¬ ok b) → ¬ ok b := fun b h => h.2
    have hp0 : Hp ⟨fun _ => none, fun b => b < W1.heap.size ∧ ¬ ok b⟩ ok W1 [(2000000, some (.abs (I 0)))] := by
      refine ⟨fun k o h => ?_, fun k k' o o' b L L' _ _ e => (by cases e), fun k o b L _ e => (by cases e), hp1.lt, fun b h => h.1, fun b h => h.2, fun k o b L _ e => (by cases e)⟩
      simp only [Objs.get] at h
      cases hb : Nat.beq 2000000 k with
      | false => rw [hb] at h; cases h
      | true =>
        rw [hb] at h
        cases h
        exact ⟨rfl, hY.st 0, hI0⟩
    have hlb1 : RelAs ⟨fun _ => none, fun b => b < W1.heap.size ∧ ¬ ok b⟩ ok W1 (caps.map .c) lb :=
      (hlb.mono (fun _ h => h) (fun b _ hb => hsame b hb) hsz fun r _ => hsh r).reK (closedAs_caps hcl)
    have hrun := (hit yv I Xs rfl hY).run _ ok W1 (yv :: lb) hp0 (RelAs.cons (.c (.cl (.cb rfl))) hlb1)
    have harr : (#[yv] ++ lb.toArray : Array Value) = (yv :: lb).toArray := by apply Array.ext'; simp
    refine ⟨l, Ds.map mark, W1, { target := .fn (.func f) lb.toArray, args := #[yv] }, W1, f, (yv :: lb).toArray, W1, he, ?_, fun _ _ => trivial, ?_, fun h => (by cases h), ?_⟩
    · simp only [resolve, hgv]
      simp [go_sem, yv]
    · rw [← harr]
      simp [invoke, exec_call hfn]
    · refine (FR_calls R _).2 ?_
      rcases hrun with ⟨_, hrun⟩ | ⟨v, w', h, _⟩
      · refine hrun.mono fun e w' hh => ?_
        obtain ⟨v, K', ok', rfl, _, hpE, hfE⟩ := hh
        obtain ⟨_, _, hJ⟩ := hpE.obs 2000000 (.abs fun ok F w => I items.length ok F w ∨ Xs ok F w) rfl
        -- the state behind the loop
        have out : ∀ (st : LoopState) (pe : Option Code) (lE : List (Nat × AV)) (lO : List (Nat × Ob)) (K2 : Km) (okc : Nat → Prop), RngI X1 K ok w O l (rec st pe) Ds a.tmps (envL lE) (objL lO) ok' K'.hid w' K2 okc → st ≠ .busy →
            ∃ w4, (Instr.endLoop l).run P w' = .ok pe w4 ∧ Sim ⟨N, R, B, old⟩ K2 okc w4 (envL lE) (objL lO) { a with defers := Ds.map mark ++ a.defers } ∧ Fr K ok w O K2 okc w4 (objL lO) := by
          intro st pe lE lO K2 okc hr hst
          have hend : (Instr.endLoop l).run P w' = .ok pe (w'.putObj l (.loop { rec st pe with state := .exhausted })) := by
            have h := run_endLoop (P := P) hr.rec_ (by rw [hrec]; exact hst)
            subst hrec
            exact h
          refine ⟨_, hend, ?_⟩
          have hs4 := hr.sim.putLoop hr.rec_ hr.free { rec st pe with state := .exhausted }
          have hfr4 : Fr K ok w O K2 okc (w'.putObj l (.loop { rec st pe with state := .exhausted })) (objL lO) :=
            ⟨by simpa using hr.fr.size, fun b hb g1 g2 => by rw [World.putObj_heap_other (by have := hr.new; omega)]; exact hr.fr.keep b hb g1 g2, hr.fr.okUp, hr.fr.okNew, hr.fr.own, hr.fr.os, hr.fr.tape, hr.fr.output, fun b o hb => by
              obtain ⟨o1, h1, h2⟩ := hr.fr.kind b o hb
              obtain ⟨o2, h3, h4⟩ := kind_putLoop (r' := { rec st pe with state := .exhausted }) hr.rec_ b o1 h1
              exact ⟨o2, h3, h2.trans h4⟩, hr.fr.pin, hr.fr.hid⟩
          refine ⟨⟨hs.size, ?_, Nat.le_trans hs.base hfr4.size, hs.rnd' hfr4, hs.old, hs4.hp, hs4.env⟩, hfr4⟩
          obtain ⟨Ds0, d1, d2, d3⟩ := hs.defers' hfr4
          obtain ⟨Ds1, e1, e2, e3⟩ := hs.defers
          have hDe : Ds0 = Ds1 := by
            have : Ds0.map mark = Ds1.map mark := d1.symm.trans e1
            have inj : ∀ {l m : List Nat}, l.map mark = m.map mark → l = m := by
              intro l
              induction l with
              | nil => intro m h; cases m with
                | nil => rfl
                | cons _ _ => cases h
              | cons x l ih =>
                intro m h
                cases m with
                | nil => cases h
                | cons y m =>
                  simp only [List.map_cons, List.cons.injEq] at h
                  have hxy : x = y := by simpa [mark] using h.1
                  rw [hxy, ih h.2]
            exact inj this
          subst hDe
          refine ⟨Ds ++ Ds0, by simp [d1], ?_, fun D hD => ?_⟩
          · refine List.nodup_append.2 ⟨hnd, d2, fun x hx y hy e => ?_⟩
            subst e
            have := (hDs x hx).2
            have := (Array.getElem?_eq_some_iff.1 (e3 x hy).2.1).1
            omega
          · rcases List.mem_append.1 hD with h | h
            · obtain ⟨g1, g2, g3, g4⟩ := hr.ds D h
              have hDl : D ≠ l := by rintro rfl; rw [hr.rec_] at g1; cases g1
              exact ⟨Nat.le_trans hs.base g2, by rw [World.putObj_heap_other hDl]; exact g1, g3⟩
            · exact d3 D h
        rcases hJ with ⟨g, K2, okc, hinv, hr⟩ | ⟨c, lE, lO, K2, okc, hj, hr⟩
        · obtain ⟨w4, h1, h2, h3⟩ := out .ready none _ _ K2 okc hr (by simp)
          exact ⟨none, w4, h1, _, _, K2, okc, after g hinv, h2, h3⟩
        · obtain ⟨w4, h1, h2, h3⟩ := out .done (some c) _ _ K2 okc hr (by simp)
          refine ⟨some c, w4, h1, ?_⟩
          cases c with
          | ret => exact wpIn_ret ⟨_, _, K2, okc, hj, h2, h3⟩
          | exit j => exact wpIn_exit ⟨_, _, K2, okc, hj, h2, h3⟩
          | goto j => exact wpIn_goto ⟨_, _, K2, okc, hj, h2, h3⟩
          | _ => exact hj.elim
      · rw [exec_call hfn] at h; cases h
  cases hR : R with
  | none =>
    subst hR
    refine main (w.heap.size + 1) [w.heap.size] _ w.heap.size (run_enterLoop_outer _ _ _ _ _) ?_ (by simp) (fun D hD => ?_) (by omega) (fun b hb => ?_) (by simp; try omega) rfl rfl rfl
    · have := World.alloc_heap_new (w.alloc (.deferred (some []))) (.loop { state := .ready, pending := none, fn := fnid, tmps := a.tmps, params := ps.toArray, assign := assign, body := body, defers := w.heap.size })
      rwa [World.size_alloc] at this
    · simp only [List.mem_singleton] at hD
      subst hD
      exact ⟨(RowKit.Below.heap_alloc _ _ _ (by simp)).trans (World.alloc_heap_new w _), Nat.le_refl _⟩
    · rw [RowKit.Below.heap_alloc _ _ _ (by simp; omega), RowKit.Below.heap_alloc _ _ _ hb]
  | some l0 =>
    subst hR
    obtain ⟨r0, hr0⟩ := hs.rnd l0 rfl
    refine main w.heap.size [] _ r0.defers (run_enterLoop_inner hr0 _ _ _ _ _) (World.alloc_heap_new w _) List.nodup_nil (fun D hD => by simp at hD) (Nat.le_refl _) (fun b hb => RowKit.Below.heap_alloc _ _ _ hb) (by simp) rfl rfl rfl
theorem rangeC (hT : T.ok P) (hm : P.follows .mixedOrders = true) {g : Operand} {ps : Array Tmp} {assign body : Code} {Q : PQ} {f : FuncId} {fn : Func} {c0 : Code} {caps : List PC} {items : List (List A1)}
    (hit : CtI P f (caps.map .c) items) (hf : P.funcs[f]? = some fn) (hb : fn.body = some c0) (hnm : (fn.name == "runtime.NumGoroutine") = false)
    (hg : E.ev g = some (.c (.fn f caps))) (hcl : closedL caps = true)
    (hlen : ∀ args, args ∈ items → args.length = ps.toList.length ∧ closedAs args = true) (fz : List Nat) (hps : (nodB ps.toList && ps.toList.all fun t => Nat.blt t N.n && !(memB t fz)) = true)
    {G : Type} (inv : Nat → G → Prop) (sE : Nat → G → List (Nat × AV)) (sO : Nat → G → List (Nat × Ob)) (g0 : G) (h0 : inv 0 g0) (hE : AllIn E (sE 0 g0)) (hO : AllInO O (sO 0 g0)) (hfz : ∀ i g, ((sE i g).all fun p => memB p.1 fz) = true)
    (round : ∀ i g args, items[i]? = some args → inv i g → codeS P T ⟨N.n, fz⟩ assign (envP ps.toList args ++ envL (sE i g)) (objL (sO i g)) (thenQ (fun E1 O1 => codeS P T ⟨N.n, fz⟩ body E1 O1 (roundQ fz Q (fun E' O' => ∃ g', inv (i + 1) g' ∧ AllIn E' (sE (i + 1) g') ∧ AllInO O' (sO (i + 1) g')))) (fun _ _ _ => False)))
    (after : ∀ g, inv items.length g → Q .normal (envL (sE items.length g)) (objL (sO items.length g))) : WI P N E O (.rangeFunc g ps assign body) Q := by
  have h := W.range (P := P) (T := T) (N := N) (E := E) (O := O) (Q := Q) (ps := ps.toList) hT hm hg hcl hf hb hnm hit hlen fz hps inv sE sO g0 h0 hE hO (fun i g p hp => by
    have := hfz i g
    rw [List.all_eq_true] at this
    exact this p hp) round after
  exact .of h
end
end Go.Proofs.YtpmchgndnhgncaaGreat.Pv
namespace Go.Proofs.YtpmchgndnhgncaaGreat.Pv
open Go
section
variable {P : Program} {T : Ty} {N : Nx} {E : Env} {O : Objs} {c : Code} {Q Q' : PQ}
theorem W.post (h : W P N E O c Q) (hq : ∀ (X : Cx) e E' O' K' ok' w' a', Q e E' O' → Sim X K' ok' w' E' O' a' → ∃ E2 O2 K2 ok2, Q' e E2 O2 ∧ Sim X K2 ok2 w' E2 O2 a' ∧ Fr K' ok' w' O' K2 ok2 w' O2) : W P N E O c Q' :=
  fun R B old K ok w a hs => wpIn_mono (h R B old K ok w a hs) fun e a' w' ⟨E', O', K', ok', h1, h2, h3⟩ => by
    obtain ⟨E2, O2, K2, ok2, g1, g2, g3⟩ := hq _ _ _ _ _ _ _ _ h1 h2
    exact ⟨E2, O2, K2, ok2, g1, g2, h3.trans g3⟩
theorem Sim.abs {X : Cx} {K : Km} {ok : Nat → Prop} {w : World} {a : Act} {k : Nat} {J J' : St} (hs : Sim X K ok w E O a) (h : O.get k = some (.abs J)) (hJ : ∀ ok F w, J ok F w → J' ok F w) (hst : Stable J') :
    Sim X K ok w E (O.set k (.abs J')) a ∧ Fr K ok w O K ok w (O.set k (.abs J')) := by
  have hsub : ∀ t o, (O.set k (.abs J')).get t = some o → ∃ o', O.get t = some o' := fun t o g => by
    rw [Objs.get_set] at g
    split at g
    · rename_i e; subst e; exact ⟨_, h⟩
    · exact ⟨o, g⟩
  refine ⟨⟨hs.size, hs.defers, hs.base, hs.rnd, hs.old, ⟨fun t o g => ?_, fun t t' o o' b L L' g1 g2 => ?_, fun t o b L g => ?_, hs.hp.lt, hs.hp.hlt, hs.hp.hok, fun t o b L g => ?_⟩, hs.env⟩,
    ⟨Nat.le_refl _, fun _ _ _ _ => rfl, fun _ h => h, fun _ h => .inl h, fun t o b L g1 g2 => by obtain ⟨o', g3⟩ := hsub t o g1; exact .inr ⟨t, o', L, g3, g2⟩, rfl, rfl, rfl, fun _ o h => ⟨o, h, SK.refl o⟩, fun _ _ => rfl, fun _ h => .inl h⟩⟩
  · rw [Objs.get_set] at g
    split at g
    · rename_i e
      subst e
      cases g
      obtain ⟨a1, _, a3⟩ := hs.hp.obs k _ h
      exact ⟨a1, hst, hJ _ _ _ a3⟩
    · exact hs.hp.obs t o g
  · obtain ⟨p, q1⟩ := hsub t o g1
    obtain ⟨p', q2⟩ := hsub t' o' g2
    exact hs.hp.inj t t' p p' b L L' q1 q2
  · obtain ⟨p, q1⟩ := hsub t o g; exact hs.hp.apart t p b L q1
  · obtain ⟨p, q1⟩ := hsub t o g; exact hs.hp.how t p b L q1
def iterQ (I : Nat → St) (X : St) (n : Nat) : PQ := fun e _ O2 => (match e with | .normal => True | .ret => True | _ => False) ∧ (O2.get 2000000 = some (.abs (I n)) ∨ O2.get 2000000 = some (.abs X))
theorem CtI.go (hT : T.ok P) (hm : P.follows .mixedOrders = true) {f : FuncId} {fn : Func} {args : List A1} {items : List (List A1)} (hf : P.funcs[f]? = some fn) (hb : fn.body = some c) (hn : (fn.name == "runtime.NumGoroutine") = false) (hN : fn.ntmps = N.n) (hl : Nat.ble (args.length + 1) N.n = true) (hr : fn.results.toList = [])
    (h : ∀ (v : Value) (I : Nat → St) (X : St), one v = true → Yields P v items I X → codeS P T N c (envA 0 (.c (.cb v) :: args)) [(2000000, some (.abs (I 0)))] (iterQ I X items.length)) (hfz : N.fz = [] := by rfl) : CtI P f args items := by
  intro v I X hv hY
  refine Ct.of hf hb hn hN hl ((codeS_sound hT hm c _ _ _ (h v I X hv hY)).post fun Y e E' O' K' ok' w' a' hq hs => ?_) hfz
  obtain ⟨h1, h2⟩ := hq
  have hst : Stable (fun ok F w => I items.length ok F w ∨ X ok F w) := fun ok ok1 F w w1 hj g1 g2 g3 g4 g5 g6 g7 g8 =>
    hj.imp (fun hj => hY.st _ ok ok1 F w w1 hj g1 g2 g3 g4 g5 g6 g7 g8) (fun hj => hY.stX ok ok1 F w w1 hj g1 g2 g3 g4 g5 g6 g7 g8)
  have fin : ∀ J : St, O'.get 2000000 = some (.abs J) → (∀ ok F w, J ok F w → I items.length ok F w ∨ X ok F w) → _ := fun J hJ hi => hs.abs hJ hi hst
  have goal : ∃ (J : St), O'.get 2000000 = some (.abs J) ∧ ∀ ok F w, J ok F w → I items.length ok F w ∨ X ok F w := by
    rcases h2 with h2 | h2
    · exact ⟨_, h2, fun _ _ _ h => .inl h⟩
    · exact ⟨_, h2, fun _ _ _ h => .inr h⟩
  obtain ⟨J, hJ, hi⟩ := goal
  obtain ⟨g1, g2⟩ := fin J hJ hi
  refine ⟨E', _, K', ok', ⟨h1, fun k o hk => ?_, [], by rw [hr]; trivial, trivial⟩, g1, g2⟩
  simp only [Objs.get] at hk
  rw [Objs.get_set]
  cases hbq : Nat.beq 2000000 k with
  | true =>
    rw [hbq] at hk
    have e := Nat.eq_of_beq_eq_true hbq
    rw [if_pos e]
    exact hk
  | false => rw [hbq] at hk; cases hk
end
end Go.Proofs.YtpmchgndnhgncaaGreat.Pv
namespace Go.Proofs.YtpmchgndnhgncaaGreat.Pv
open Go
theorem shrN' {x : Nat} (_ : 0 ≤ x) : (x : Int).fdiv (2 ^ min (1 : Int).toNat 64) = ((x / 2 : Nat) : Int) := by
  rw [Int.fdiv_eq_ediv_of_nonneg _ (by decide)]
  show (x : Int) / 2 = _
  omega
theorem bifT {b : Bool} {X Y : Prop} (hb : b = true) (h : X) : (bif b then X else Y) := by subst hb; exact h
theorem closedC {caps : List PC} : closedAs (caps.map .c) = closedL caps := by
  induction caps with
  | nil => rfl
  | cons x l ih => simp only [List.map_cons, closedAs, closedL, ih]; rfl
theorem search_ct (n k : Nat) (hn : n ≤ 1000000) (hk : k ≤ n) {g : FuncId} {caps : List PC} (hcl : closedL caps = true) (p : Nat → Bool) (hp : ∀ i, i < n → Ct P g (.c (nI .i64 i) :: caps.map .c) [.c (.sc (.bool (p i)))]) (h1 : ∀ i, i < k → p i = false) (h2 : ∀ i, k ≤ i → i < n → p i = true) :
    Ct P 155 [.c (nI .i64 n), .c (.fn g caps)] [.c (nI .i64 k)] := by
  refine Ct.go T_ok T_mix (N := 26) Tryz.func155 rfl rfl rfl rfl ?_
  refine loopJ T_ok T_mix (G := Nat × Nat) (fun (i, j) => i ≤ k ∧ k ≤ j ∧ j ≤ n) (fun (i, j) => [(1, .c (.fn g caps)), (5, .c (nI .i64 i)), (6, .c (nI .i64 j))]) (fun _ => []) (fun (i, j) => j - i)
    (0, n) ⟨by omega, hk, by omega⟩ ⟨rfl, rfl, rfl, trivial⟩ trivial (fun _ : Unit => True) (fun _ => [(5, .c (nI .i64 k))]) (fun _ => []) (fun (i, j) hi => ?_) (fun _ _ => ?_)
  · obtain ⟨i1, i2, i3⟩ := hi
    refine dcase (fun h5 => ?_) (fun h5 => ?_)
    · refine X1 ((i + j : Nat) : Int) (wI (by simp) (by omega) (by omega)) ?_
      refine X1 ((i + j : Nat) : Int) (wU rfl (by omega) (by omega)) ?_
      refine And.intro (by omega) (X1 (((i + j) / 2 : Nat) : Int) (shrN' (by omega)) (And.intro ⟨by omega, by omega⟩ ?_))
      refine X1 (((i + j) / 2 : Nat) : Int) (wI rfl (by omega) (by omega)) ?_
      refine bifT ?_ ?_
      · show ((true && closedAs (caps.map .c)) && true) = true
        rw [closedC, hcl]; rfl
      · refine X1 _ (hp ((i + j) / 2) (by omega)) ?_
        refine bcase (fun h6 => ?_) (fun h6 => ?_)
        · have h7 : p ((i + j) / 2) = false := by simpa using h6
          have h8 : (i + j) / 2 < k := by
            apply Nat.lt_of_not_le
            intro hle
            rw [h2 _ hle (by omega)] at h7; cases h7
          refine X1 (((i + j) / 2 + 1 : Nat) : Int) (wI (by simp) (by omega) (by omega)) ?_
          exact ⟨((i + j) / 2 + 1, j), ⟨by omega, i2, i3⟩, by show j - ((i + j) / 2 + 1) < j - i; omega, ⟨rfl, rfl, rfl, trivial⟩, trivial⟩
        · have h7 : p ((i + j) / 2) = true := by simpa using h6
          have h8 : k ≤ (i + j) / 2 := by
            apply Nat.le_of_not_lt
            intro hlt
            rw [h1 _ hlt] at h7; cases h7
          exact ⟨(i, (i + j) / 2), ⟨i1, h8, by omega⟩, by show (i + j) / 2 - i < j - i; omega, ⟨rfl, rfl, rfl, trivial⟩, trivial⟩
    · have e : i = k := by omega
      subst e
      exact ⟨(), trivial, ⟨rfl, trivial⟩, trivial⟩
  · exact ⟨trivial, r1 rfl, trivial⟩
theorem b11_ct (l : List Cnt) (h : List Int) (i : Nat) (hl : CLim l) (hh : h.length ≤ 1000000) (hi : i < l.length) : Ct P 156 [.c (nI .i64 i), .c (.rd [cSl l]), .c (.rd [iSl h])] [.c (.sc (.bool (decide (lexC l[i].1 h > 0))))] := by
  refine Ct.go T_ok T_mix (N := 13) Tryz.func156 rfl rfl rfl rfl ?_
  refine And.intro (by omega) (X1 _ (cRow_get rfl hi) ?_)
  refine X1 _ (gcompare_ct l[i].1 h (hl.at' hi) hh) ?_
  refine And.intro rfl ?_
  exact ⟨trivial, r1 rfl, trivial⟩
theorem cRow_sub {l : List Cnt} {a b : Nat} : ((cRow l).drop a).take b = cRow ((l.drop a).take b) := by simp [cRow, List.map_take, List.map_drop]
def preB (h : List Int) (x : Cnt) : Bool := decide (h.length ≤ x.1.length) && decide (x.1.take h.length = h)
def oneB (h : List Int) (x : Cnt) : Bool := decide (x.1.length = h.length + 1)
abbrev cA (x : Cnt) : List A1 := [.ag [iSl x.1, eI .i64 x.2]]
def behI (M : List Cnt) (h : List Int) : List (List A1) := ((M.takeWhile (preB h)).filter (oneB h)).map cA
theorem tw_take {p : Cnt → Bool} : ∀ {M : List Cnt} {i : Nat}, i ≤ M.length → (∀ x, x ∈ M.take i → p x = true) → M.takeWhile p = M.take i ++ (M.drop i).takeWhile p
  | M, 0, _, _ => by simp
  | [], i + 1, h, _ => by simp at h
  | x :: M, i + 1, h, hp => by
    have h0 := hp x (by simp)
    rw [List.takeWhile_cons_of_pos h0, tw_take (M := M) (i := i) (by simpa using h) (fun y hy => hp y (by simp [hy]))]
    simp
theorem behind_ct (l : List Cnt) (h : List Int) (k : Nat) (hl : CLim l) (hh : h.length ≤ 1000000) (hk : k ≤ l.length) (h1 : ∀ (i : Nat) (hi : i < l.length), i < k → ¬ lexC l[i].1 h > 0) (h2 : ∀ (i : Nat) (hi : i < l.length), k ≤ i → lexC l[i].1 h > 0) :
    CtI P 154 [.c (.rd [cSl l]), .c (.rd [iSl h])] (behI (l.drop k) h) := by
  have hll := hl.len
  refine CtI.go T_ok T_mix (N := 49) Tryz.func154 rfl rfl rfl rfl rfl (fun v I X hv hY => ?_)
  refine And.intro (by rw [cRow_len]; omega) ?_
  rw [cRow_len]
  refine X1 [.rd [cSl l], .rd [iSl h]] rfl ?_
  refine X1 _ (search_ct l.length k (by omega) hk (caps := [.rd [cSl l], .rd [iSl h]]) rfl (fun i => if hi : i < l.length then decide (lexC l[i].1 h > 0) else true) (fun i hi => by simp only [hi, dite_true]; exact b11_ct l h i hl hh hi) (fun i hi => by
    have hi' : i < l.length := by omega
    simp only [hi', dite_true]; exact decide_eq_false (h1 i hi' hi)) (fun i hi hi' => by simp only [hi', dite_true]; exact decide_eq_true (h2 i hi' hi))) ?_
  refine ⟨k, l.length, by simp, by simp [cRow_len], hk, by rw [cRow_len]; omega, ?_⟩
  rw [cRow_sub, List.take_of_length_le (show (l.drop k).length ≤ l.length - k by rw [List.length_drop]; exact Nat.le_refl _)]
  have hM : CLim (l.drop k) := ⟨by rw [List.length_drop]; omega, fun x hx => hl.g x (List.mem_of_mem_drop hx)⟩
  generalize l.drop k = M at *
  have hMl := hM.len
  refine And.intro (by rw [cRow_len]; omega) ?_
  rw [cRow_len]
  refine loopB T_ok T_mix (fun i : Nat => i ≤ M.length ∧ ∀ x, x ∈ M.take i → preB h x = true) (fun i => [(0, .c (.cb v)), (2, .c (.rd [iSl h])), (13, .c (cSl M)), (14, .c (nI .i64 M.length)), (15, .c (nI .i64 i))])
    (fun i => [(2000000, .abs (I ((M.take i).filter (oneB h)).length))]) (fun i => M.length - i) 0 ⟨by omega, fun x hx => by simp at hx⟩ ⟨rfl, rfl, rfl, rfl, rfl, trivial⟩ ⟨rfl, trivial⟩ (fun i hi => ?_)
  · obtain ⟨i1, i2⟩ := hi
    refine dcase (fun h5 => ?_) (fun h5 => ?_)
    · have hi' : i < M.length := by omega
      have hxl := hM.at' hi'
      have hx := cRow_get (l := M) (i := (i : Int)) (n := i) rfl hi'
      have htw := tw_take (p := preB h) i1 i2
      rw [List.drop_eq_getElem_cons hi'] at htw
      have hs : M.take (i + 1) = M.take i ++ [M[i]] := List.take_succ_eq_append_getElem hi'
      have hend : preB h M[i] = false → (behI M h).length = ((M.take i).filter (oneB h)).length := fun hp => by
        rw [List.takeWhile_cons_of_neg (by rw [hp]; simp), List.append_nil] at htw
        unfold behI
        rw [htw, List.length_map]
      have hget : preB h M[i] = true → oneB h M[i] = true → (behI M h)[((M.take i).filter (oneB h)).length]? = some (cA M[i]) := fun hp ho => by
        rw [List.takeWhile_cons_of_pos hp] at htw
        unfold behI
        rw [htw, List.filter_append, List.filter_cons_of_pos ho, List.map_append, List.getElem?_append_right (by simp)]
        simp
      generalize M[i] = x at *
      refine And.intro (by omega) (X1 _ hx ?_)
      refine And.intro (by rw [iRow_len]; omega) ?_
      refine And.intro (by rw [iRow_len]; omega) ?_
      rw [iRow_len, iRow_len]
      refine dcase (fun h6 => ?_) (fun h6 => ?_)
      · refine And.intro rfl ?_
        have hp : preB h x = false := by unfold preB; rw [decide_eq_false (by omega), Bool.false_and]
        exact ⟨trivial, .inl (by rw [hend hp]; rfl)⟩
      · refine And.intro (by rw [iRow_len]; omega) ?_
        rw [iRow_len]
        refine ⟨0, h.length, by simp, by simp, by omega, by rw [iRow_len]; omega, ?_⟩
        rw [iRow_sub, List.drop_zero, Nat.sub_zero]
        refine X1 _ (equal_ct (x.1.take h.length) h (by rw [List.length_take]; omega) hh) ?_
        refine And.intro rfl ?_
        refine bcase (fun h7 => ?_) (fun h7 => ?_)
        · have h7' : ¬ x.1.take h.length = h := by simpa using h7
          have hp : preB h x = false := by unfold preB; rw [decide_eq_false h7', Bool.and_false]
          exact ⟨trivial, .inl (by rw [hend hp]; rfl)⟩
        · have h7' : x.1.take h.length = h := by simpa using h7
          have hp : preB h x = true := by unfold preB; rw [decide_eq_true (by omega), decide_eq_true h7']; rfl
          have hi2 : ∀ y, y ∈ M.take (i + 1) → preB h y = true := fun y hy => by
            rw [hs] at hy
            rcases List.mem_append.1 hy with g | g
            · exact i2 y g
            · rw [List.mem_singleton.1 g]; exact hp
          refine And.intro (by rw [iRow_len]; omega) ?_
          refine And.intro (by rw [iRow_len]; omega) ?_
          rw [iRow_len, iRow_len]
          refine X1 ((h.length + 1 : Nat) : Int) (wI (by simp) (by omega) (by omega)) ?_
          refine ecase (fun h8 => ?_) (fun h8 => ?_)
          · have ho : oneB h x = true := decide_eq_true (by omega)
            refine ⟨behI M h, I, X, ((M.take i).filter (oneB h)).length, hY, rfl, hget hp ho, ?_, ?_⟩
            · refine X1 ((i + 1 : Nat) : Int) (wI1 (by omega)) ?_
              exact ⟨i + 1, ⟨by omega, hi2⟩, by omega, ⟨rfl, rfl, rfl, rfl, rfl, trivial⟩, ⟨by rw [hs, List.filter_append, List.filter_cons_of_pos ho, List.length_append]; rfl, trivial⟩⟩
            · exact ⟨trivial, .inr rfl⟩
          · have ho : oneB h x = false := decide_eq_false (by omega)
            refine X1 ((i + 1 : Nat) : Int) (wI1 (by omega)) ?_
            exact ⟨i + 1, ⟨by omega, hi2⟩, by omega, ⟨rfl, rfl, rfl, rfl, rfl, trivial⟩, ⟨by rw [hs, List.filter_append, List.filter_cons_of_neg (by rw [ho]; simp), List.filter_nil, List.append_nil]; rfl, trivial⟩⟩
    · have e : i = M.length := by omega
      subst e
      have := tw_take (p := preB h) (Nat.le_refl _) i2
      rw [List.drop_length, List.takeWhile_nil, List.append_nil] at this
      refine ⟨trivial, .inl ?_⟩
      unfold behI
      rw [this, List.length_map]
      rfl
theorem behindF_ct (l : List Cnt) (h : List Int) : Ct P 129 [.c (cSl l), .c (iSl h)] [.c (.fn 154 [.rd [cSl l], .rd [iSl h]])] := by
  refine Ct.go T_ok T_mix (N := 6) Tryz.func129 rfl rfl rfl rfl ?_
  refine X1 [.ad 2 0, .ad 3 0] rfl ?_
  exact ⟨trivial, r1 rfl, trivial⟩
def behL (M : List Cnt) (h : List Int) : List Cnt := (M.takeWhile (preB h)).filter (oneB h)
theorem after_ct (l : List Cnt) (h : List Int) (k : Nat) (hl : CLim l) (hh : h.length ≤ 1000000) (hk : k ≤ l.length) (h1 : ∀ (i : Nat) (hi : i < l.length), i < k → ¬ lexC l[i].1 h > 0) (h2 : ∀ (i : Nat) (hi : i < l.length), k ≤ i → lexC l[i].1 h > 0) (ht : tot l ≤ 4611686018427387904) :
    Ct P 85 [.c (cSl l), .c (iSl h)] [.ag (cen7 (behL (l.drop k) h))] := by
  have hB1 : (behL (l.drop k) h).length ≤ 1000000 := by
    have a1 := List.length_filter_le (oneB h) ((l.drop k).takeWhile (preB h))
    have a2 := (List.takeWhile_sublist (l := l.drop k) (preB h)).length_le
    have a3 := hl.len
    rw [List.length_drop] at a2
    unfold behL
    omega
  have hB2 : ∀ x, x ∈ behL (l.drop k) h → x.1.length ≤ 1000000 := fun x hx => hl.g x (List.mem_of_mem_drop ((List.takeWhile_sublist _).subset (List.mem_filter.1 hx).1))
  have hB3 : tot (behL (l.drop k) h) ≤ 4611686018427387904 := by
    have a1 := tot_filter (oneB h) ((l.drop k).takeWhile (preB h))
    have a2 : tot ((l.drop k).takeWhile (preB h)) ≤ tot (l.drop k) := by
      have e := tot_app ((l.drop k).takeWhile (preB h)) ((l.drop k).dropWhile (preB h))
      rw [List.takeWhile_append_dropWhile] at e
      have := tot_nonneg ((l.drop k).dropWhile (preB h))
      omega
    have a3 := tot_app (l.take k) (l.drop k)
    rw [List.take_append_drop] at a3
    have := tot_nonneg (l.take k)
    unfold behL
    omega
  have hit := behind_ct l h k hl hh hk h1 h2
  have hitems : behI (l.drop k) h = (behL (l.drop k) h).map cA := rfl
  refine Ct.go T_ok T_mix (N := 14) Tryz.func85 rfl rfl rfl rfl ?_
  refine X1 _ (behindF_ct l h) ?_
  rw [hitems] at hit
  generalize behL (l.drop k) h = B at *
  refine rangeC T_ok T_mix (caps := [.rd [cSl l], .rd [iSl h]]) hit Tryz.func154 rfl rfl rfl rfl (fun args ha => by
    obtain ⟨x, _, rfl⟩ := List.mem_map.1 ha
    exact ⟨rfl, rfl⟩) [4, 5] rfl (G := Unit) (fun i _ => i ≤ B.length) (fun _ _ => [(4, .c (.ad 4 0)), (5, .c (.ad 5 0))])
    (fun i _ => [(4, .var [eI .i64 0, eI .i64 0, eI .i64 0, eI .i64 0, eI .i64 0, eI .i64 0, eI .i64 0]), (5, .var (cen7 (B.take i)))]) () (by omega) ⟨rfl, rfl, trivial⟩ ⟨rfl, rfl, trivial⟩ (fun _ _ => rfl) (fun i _ args hg hi => ?_) (fun _ hi => ?_)
  · rw [List.getElem?_map] at hg
    cases hx : B[i]? with
    | none => rw [hx] at hg; cases hg
    | some x =>
      rw [hx] at hg
      cases hg
      obtain ⟨hlt, hxe⟩ := List.getElem?_eq_some_iff.1 hx
      have hs : B.take (i + 1) = B.take i ++ [x] := by rw [List.take_succ_eq_append_getElem hlt, hxe]
      have hxl := hB2 x (by rw [← hxe]; exact List.getElem_mem hlt)
      have t1 := tot_take B (i + 1)
      rw [hs] at t1
      refine X2 (.upd 5) ?_
      refine ⟨_, _, add24_ct (B.take i) x (by rw [List.length_take]; omega) hxl (by omega), ?_⟩
      exact ⟨(), by omega, ⟨rfl, rfl, trivial⟩, ⟨rfl, by rw [hs]; rfl, trivial⟩⟩
  · rw [List.length_map, List.take_length]
    exact ⟨trivial, rc rfl, trivial⟩
theorem find1_ct (x : Cnt) (g : List Int) (hx : x.1.length ≤ 1000000) (hg : g.length ≤ 1000000) : Ct P 101 [.ag [iSl x.1, eI .i64 x.2], .c (iSl g)] [.c (eI .i64 (lexC x.1 g))] := by
  refine Ct.go T_ok T_mix (N := 9) Tryz.func101 rfl rfl rfl rfl ?_
  refine X1 _ (gcompare_ct x.1 g hx hg) ?_
  exact ⟨trivial, r1 rfl, trivial⟩
def atK (l : List Cnt) (g : List Int) (k : Nat) : Bool := match l[k]? with | some x => lexC x.1 g == 0 | none => false
theorem bsf_ct (l : List Cnt) (g : List Int) (k : Nat) (hl : CLim l) (hg : g.length ≤ 1000000) (hk : k ≤ l.length) (h1 : ∀ (i : Nat) (hi : i < l.length), i < k → lexC l[i].1 g < 0) (h2 : ∀ (i : Nat) (hi : i < l.length), k ≤ i → ¬ lexC l[i].1 g < 0) :
    Ct P 100 [.c (cSl l), .c (iSl g), .c (.fn 101 [])] [.c (nI .i64 k), .c (.sc (.bool (atK l g k)))] := by
  have hll := hl.len
  refine Ct.go T_ok T_mix (N := 49) Tryz.func100 rfl rfl rfl rfl ?_
  refine And.intro (by rw [cRow_len]; omega) ?_
  rw [cRow_len]
  refine loopJ T_ok T_mix (G := Nat × Nat) (fun (i, j) => i ≤ k ∧ k ≤ j ∧ j ≤ l.length) (fun (i, j) => [(0, .c (cSl l)), (1, .c (iSl g)), (2, .c (.fn 101 [])), (8, .c (nI .i64 l.length)), (9, .c (nI .i64 i)), (10, .c (nI .i64 j))]) (fun _ => []) (fun (i, j) => j - i)
    (0, l.length) ⟨by omega, hk, by omega⟩ ⟨rfl, rfl, rfl, rfl, rfl, rfl, trivial⟩ trivial (fun _ : Unit => True) (fun _ => [(0, .c (cSl l)), (1, .c (iSl g)), (2, .c (.fn 101 [])), (8, .c (nI .i64 l.length)), (9, .c (nI .i64 k))]) (fun _ => []) (fun (i, j) hi => ?_) (fun _ _ => ?_)
  · obtain ⟨i1, i2, i3⟩ := hi
    refine dcase (fun h5 => ?_) (fun h5 => ?_)
    · have hm : (i + j) / 2 < l.length := by omega
      refine X1 ((i + j : Nat) : Int) (wI (by simp) (by omega) (by omega)) ?_
      refine X1 ((i + j : Nat) : Int) (wU rfl (by omega) (by omega)) ?_
      refine And.intro (by omega) (X1 (((i + j) / 2 : Nat) : Int) (shrN' (by omega)) (And.intro ⟨by omega, by omega⟩ ?_))
      refine X1 (((i + j) / 2 : Nat) : Int) (wI rfl (by omega) (by omega)) ?_
      refine And.intro (by omega) (X1 _ (cRow_get rfl hm) ?_)
      refine X1 _ (find1_ct l[(i + j) / 2] g (hl.at' hm) hg) ?_
      refine dcase (fun h6 => ?_) (fun h6 => ?_)
      · have h8 : (i + j) / 2 < k := by
          apply Nat.lt_of_not_le
          intro hle
          exact h2 _ hm hle h6
        refine X1 (((i + j) / 2 + 1 : Nat) : Int) (wI (by simp) (by omega) (by omega)) ?_
        exact ⟨((i + j) / 2 + 1, j), ⟨by omega, i2, i3⟩, by show j - ((i + j) / 2 + 1) < j - i; omega, ⟨rfl, rfl, rfl, rfl, rfl, rfl, trivial⟩, trivial⟩
      · have h8 : k ≤ (i + j) / 2 := by
          apply Nat.le_of_not_lt
          intro hlt
          exact h6 (h1 _ hm hlt)
        exact ⟨(i, (i + j) / 2), ⟨i1, h8, by omega⟩, by show (i + j) / 2 - i < j - i; omega, ⟨rfl, rfl, rfl, rfl, rfl, rfl, trivial⟩, trivial⟩
    · have e : i = k := by omega
      subst e
      exact ⟨(), trivial, ⟨rfl, rfl, rfl, rfl, rfl, trivial⟩, trivial⟩
  · refine dcase (fun h5 => ?_) (fun h5 => ?_)
    · have hm : k < l.length := by omega
      have ha : atK l g k = (lexC l[k].1 g == 0) := by unfold atK; rw [List.getElem?_eq_getElem hm]
      refine And.intro (by omega) (X1 _ (cRow_get rfl hm) ?_)
      refine X1 _ (find1_ct l[k] g (hl.at' hm) hg) ?_
      exact ⟨trivial, r1 rfl, r1 (by rw [ha]; rfl), trivial⟩
    · have ha : atK l g k = false := by unfold atK; rw [List.getElem?_eq_none (by omega)]
      rw [ha]
      exact ⟨trivial, r1 rfl, r1 rfl, trivial⟩
theorem gfind_ct (l : List Cnt) (g : List Int) (k : Nat) (hl : CLim l) (hg : g.length ≤ 1000000) (hk : k ≤ l.length) (h1 : ∀ (i : Nat) (hi : i < l.length), i < k → lexC l[i].1 g < 0) (h2 : ∀ (i : Nat) (hi : i < l.length), k ≤ i → ¬ lexC l[i].1 g < 0) :
    Ct P 58 [.c (cSl l), .c (iSl g)] [.c (eI .i64 (if atK l g k = true then (k : Int) else -1))] := by
  refine Ct.go T_ok T_mix (N := 16) Tryz.func58 rfl rfl rfl rfl ?_
  refine X1 _ (bsf_ct l g k hl hg hk h1 h2) ?_
  refine bcase (fun h => ?_) (fun h => ?_)
  · have h' : ¬ atK l g k = true := by simpa using h
    rw [if_neg h']
    exact ⟨trivial, r1 rfl, trivial⟩
  · have h' : atK l g k = true := by simpa using h
    rw [if_pos h']
    exact ⟨trivial, r1 rfl, trivial⟩
def kU (g : List Int) : List UInt8 := g.flatMap fun v => [UInt8.ofNat (v.toNat / 65536), UInt8.ofNat (v.toNat / 256), UInt8.ofNat v.toNat]
def keyB (g : List Int) : ByteArray := ⟨(kU g).toArray⟩
def bR (l : List UInt8) : List (List PC) := l.map fun b => [.sc (.int .u8 (b.toNat : Int))]
theorem bR_len (l : List UInt8) : (bR l).length = l.length := by simp [bR]
theorem kU_len : ∀ (g : List Int), (kU g).length = 3 * g.length
  | [] => rfl
  | v :: g => by
    have : kU (v :: g) = [UInt8.ofNat (v.toNat / 65536), UInt8.ofNat (v.toNat / 256), UInt8.ofNat v.toNat] ++ kU g := rfl
    rw [this, List.length_append, kU_len g]
    simp; omega
theorem kU_snoc (g : List Int) (v : Int) : kU (g ++ [v]) = kU g ++ [UInt8.ofNat (v.toNat / 65536), UInt8.ofNat (v.toNat / 256), UInt8.ofNat v.toNat] := by
  unfold kU; rw [List.flatMap_append]; simp
theorem bR_closed (l : List UInt8) : closedLL (bR l) := by
  intro el h
  obtain ⟨x, _, rfl⟩ := List.mem_map.1 h
  rfl
def keyOk (g : List Int) : Bool := g.all fun v => decide (0 ≤ v) && decide (v < 16777216)
theorem u8w (n : Nat) : IntKind.u8.wrap (n : Int) = ((UInt8.ofNat n).toNat : Int) := by
  simp [IntKind.wrap, IntKind.signed, IntKind.bits]
theorem shr16 {v : Int} (h : 0 ≤ v) : v.fdiv (2 ^ min (16 : Int).toNat 64) = ((v.toNat / 65536 : Nat) : Int) := by
  rw [Int.fdiv_eq_ediv_of_nonneg _ (by decide)]
  show v / 65536 = _
  omega
theorem shr8 {v : Int} (h : 0 ≤ v) : v.fdiv (2 ^ min (8 : Int).toNat 64) = ((v.toNat / 256 : Nat) : Int) := by
  rw [Int.fdiv_eq_ediv_of_nonneg _ (by decide)]
  show v / 256 = _
  omega
theorem keyT_ct (g : List Int) (hg : g.length ≤ 1000000) : Ct P 84 [.c (iSl g)] [.c (.sc (.string (if keyOk g = true then keyB g else .empty))), .c (eI .i64 (if keyOk g = true then 0 else 8))] := by
  refine Ct.go T_ok T_mix (N := 37) Tryz.func84 rfl rfl rfl rfl ?_
  refine And.intro (by rw [iRow_len]; omega) ?_
  rw [iRow_len]
  refine X1 ((3 * g.length : Nat) : Int) (wI (by simp) (by omega) (by omega)) ?_
  refine And.intro (by omega) (And.intro (by omega) (And.intro (by omega) (And.intro (.inl (by decide)) ?_)))
  refine And.intro (by rw [iRow_len]; omega) ?_
  rw [iRow_len]
  refine loopJ T_ok T_mix (fun i : Nat => i ≤ g.length ∧ keyOk (g.take i) = true) (fun i => [(2, .c (.sc (.string .empty))), (3, .c (eI .i64 0)), (4, .c (.ow 10 1 (3 * i))), (11, .c (iSl g)), (12, .c (nI .i64 g.length)), (13, .c (nI .i64 i))])
    (fun i => [(10, .row 1 (bR (kU (g.take i))))]) (fun i => g.length - i)
    0 ⟨by omega, rfl⟩ ⟨rfl, rfl, rfl, rfl, rfl, rfl, trivial⟩ ⟨rfl, trivial⟩ (fun _ : Unit => keyOk g = true) (fun _ => [(4, .c (.ow 10 1 (3 * g.length)))]) (fun _ => [(10, .row 1 (bR (kU g)))]) (fun i hi => ?_) (fun _ ho => ?_)
  · obtain ⟨i1, i2⟩ := hi
    refine dcase (fun h5 => ?_) (fun h5 => ?_)
    · have hi' : i < g.length := by omega
      have hs : g.take (i + 1) = g.take i ++ [g[i]] := List.take_succ_eq_append_getElem hi'
      have hx : g.getD i 0 = g[i] := by simp [List.getD_eq_getElem?_getD, hi']
      have hmem : g[i] ∈ g := List.getElem_mem hi'
      have hno : ¬ (0 ≤ g[i] ∧ g[i] < 16777216) → ¬ keyOk g = true := fun h hk => by
        unfold keyOk at hk
        rw [List.all_eq_true] at hk
        have := hk _ hmem
        simp only [Bool.and_eq_true, decide_eq_true_eq] at this
        exact h this
      refine And.intro (by omega) (X1 _ (iRow_getN (n := i) rfl hi') ?_)
      rw [hx]
      generalize g[i] = v at *
      refine dcase (fun h6 => ?_) (fun h6 => ?_)
      · have hn := hno (by omega)
        rw [if_neg hn, if_neg hn]
        exact ⟨trivial, r1 rfl, r1 rfl, trivial⟩
      · refine dcase (fun h7 => ?_) (fun h7 => ?_)
        · have hn := hno (by omega)
          rw [if_neg hn, if_neg hn]
          exact ⟨trivial, r1 rfl, r1 rfl, trivial⟩
        · refine And.intro (by omega) (X1 _ (shr16 (by omega)) (And.intro ⟨by omega, by omega⟩ ?_))
          refine X1 _ (u8w (v.toNat / 65536)) ?_
          refine And.intro (by omega) (X1 _ (shr8 (by omega)) (And.intro ⟨by omega, by omega⟩ ?_))
          refine X1 _ (u8w (v.toNat / 256)) ?_
          have hv : v = ((v.toNat : Nat) : Int) := by omega
          refine X1 ((UInt8.ofNat v.toNat).toNat : Int) (by rw [hv]; exact u8w v.toNat) ?_
          have hl : (bR (kU (g.take i))).length = 3 * i := by rw [bR_len, kU_len, List.length_take]; omega
          refine ⟨hl.symm, by rw [hl]; show (3 * i + 3 + 768) * 1 ≤ _; omega, by rw [hl]; show 3 * i + 3 ≤ _; omega, bR_closed _, bR_closed [UInt8.ofNat (v.toNat / 65536), UInt8.ofNat (v.toNat / 256), UInt8.ofNat v.toNat], ?_⟩
          refine X1 ((i + 1 : Nat) : Int) (wI1 (by omega)) ?_
          refine ⟨i + 1, ⟨by omega, ?_⟩, by omega, ⟨rfl, rfl, owE ?_, rfl, rfl, rfl, trivial⟩, ⟨rowE ?_, trivial⟩⟩
          · rw [hs]
            unfold keyOk at i2 ⊢
            rw [List.all_append, i2]
            simp; omega
          · rw [List.length_append, hl]; show 3 * i + 3 = _; omega
          · rw [hs, kU_snoc]; unfold bR; rw [List.map_append]; rfl
    · have e : i = g.length := by omega
      subst e
      rw [List.take_length] at i2 ⊢
      exact ⟨(), i2, ⟨rfl, trivial⟩, ⟨rfl, trivial⟩⟩
  · rw [if_pos ho, if_pos ho]
    refine X1 (keyB g) rfl (And.intro ?_ ?_)
    · show (kU g).toArray.size ≤ _
      simp [kU_len]; omega
    · exact ⟨trivial, r1 rfl, r1 rfl, trivial⟩
end Go.Proofs.YtpmchgndnhgncaaGreat.Pv
