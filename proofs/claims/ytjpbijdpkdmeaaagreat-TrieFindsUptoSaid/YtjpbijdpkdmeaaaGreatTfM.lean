/- Parts of a proof, joined: Nc Nd Ne Cw Ej Soa Ek Sob Soc. -/
import Derived.Test.YtjpbijdpkdmeaaaGreatTfL
import Derived.Sort.AssemblyPlain
namespace Go.Proofs.YtjpbijdpkdmeaaaGreat.Pv
open Go
def prvL (l : List En) (i : Nat) : Option (List Int) := if i = 0 then none else some (l.getD (i - 1) ([], 0, 0)).1
def preL (L : List (List En)) (k : Nat) : Option (List (List Int)) := if k = 0 then none else some (gA L (k - 1))
abbrev lstM (L : List (List En)) (k : Nat) : Bool := ((k : Int) == ((L.length - 1 : Nat) : Int))
theorem lstM_eq {L : List (List En)} {k : Nat} (h : k < L.length) : (L.drop (k + 1)).isEmpty = lstM L k := by
  unfold lstM
  by_cases e : k + 1 = L.length
  · rw [List.drop_eq_nil_of_le (by omega), show k = L.length - 1 by omega]; simp
  · have h1 : (L.drop (k + 1)).isEmpty = false := by
      rw [List.isEmpty_eq_false_iff]
      intro hn
      have := List.drop_eq_nil_iff.1 hn
      omega
    have h2 : ((k : Int) == ((L.length - 1 : Nat) : Int)) = false := by
      rw [beq_eq_false_iff_ne]; omega
    rw [h1, h2]
theorem levE_step {A : Option (List (List Int))} {n W : Nat} {last : Bool} {l : List En} {i : Nat} (hi : i < l.length) :
    levE A n W last (prvL l i) (l.drop i) = if entF n W last l[i] ≠ 0 then entF n W last l[i] else if prevBad (prvL l i) l[i].1 = true then 9 else if preBad A (l[i].1.take (n - 1)) = true then 7 else levE A n W last (prvL l (i + 1)) (l.drop (i + 1)) := by
  have e : prvL l (i + 1) = some l[i].1 := by
    unfold prvL
    rw [if_neg (by omega), Nat.add_sub_cancel, List.getD_eq_getElem?_getD, List.getElem?_eq_getElem hi]; rfl
  rw [List.drop_eq_getElem_cons hi, levE, e]
theorem grE_step {W : Nat} {L : List (List En)} {k : Nat} (hk : k < L.length) :
    grE W (preL L k) k (L.drop k) = if levE (preL L k) (k + 1) W (lstM L k) none L[k] ≠ 0 then levE (preL L k) (k + 1) W (lstM L k) none L[k] else if k = 0 ∧ L[k].length ≠ W then 3 else grE W (preL L (k + 1)) (k + 1) (L.drop (k + 1)) := by
  have e : preL L (k + 1) = some (grm L[k]) := by
    unfold preL gA
    rw [if_neg (by omega), Nat.add_sub_cancel, List.getD_eq_getElem?_getD, List.getElem?_eq_getElem hk]; rfl
  rw [List.drop_eq_getElem_cons hk, grE, e, lstM_eq hk]
theorem gA_at {L : List (List En)} {k : Nat} (hk : k < L.length) : gA L k = grm L[k] := by
  unfold gA
  rw [List.getD_eq_getElem?_getD, List.getElem?_eq_getElem hk]; rfl
structure MdL (m : Md) : Prop where
  w : m.words.length ≤ 9000
  s : ∀ x, x ∈ m.words → x.size ≤ 140737488355328
  l : m.L.length ≤ 1000000
  e : ∀ l, l ∈ m.L → EL l
theorem chkM_1 {m : Md} (h : m.frac < 0 ∨ 12 < m.frac ∨ m.L.length < 1 ∨ 8 < m.L.length) : chkM m = 1 := by unfold chkM; rw [if_pos h]
theorem chkM_2 {m : Md} (h : ¬ (m.frac < 0 ∨ 12 < m.frac ∨ m.L.length < 1 ∨ 8 < m.L.length)) (hw : wrongV m.words ≠ 0) : chkM m = wrongV m.words := by unfold chkM; rw [if_neg h, if_pos hw]
theorem chkM_3 {m : Md} (h : ¬ (m.frac < 0 ∨ 12 < m.frac ∨ m.L.length < 1 ∨ 8 < m.L.length)) (hw : wrongV m.words = 0) : chkM m = grE m.words.length none 0 m.L := by unfold chkM; rw [if_neg h, if_neg (by rw [hw]; simp)]
theorem mcheck_ct (m : Md) (hm : MdL m) : Ct P 54 [mdA m] [.c (eI .i64 (chkM m))] := by
  have hw := hm.w
  have hl := hm.l
  have hof := vof_ct m.words hm.w hm.s
  refine Ct.go T_ok T_mix (N := 116) Tryz.func54 rfl rfl rfl rfl ?_
  refine dcase (fun h1 => ?_) (fun h1 => ?_)
  · exact ⟨trivial, r1 (iE (chkM_1 (.inl h1)).symm), trivial⟩
  refine dcase (fun h2 => ?_) (fun h2 => ?_)
  · exact ⟨trivial, r1 (iE (chkM_1 (.inr (.inl h2))).symm), trivial⟩
  refine And.intro (by rw [eeRow_len]; omega) ?_
  rw [eeRow_len]
  refine dcase (fun h3 => ?_) (fun h3 => ?_)
  · exact ⟨trivial, r1 (iE (chkM_1 (.inr (.inr (.inl (by omega))))).symm), trivial⟩
  refine And.intro (by rw [eeRow_len]; omega) ?_
  rw [eeRow_len]
  refine dcase (fun h4 => ?_) (fun h4 => ?_)
  · exact ⟨trivial, r1 (iE (chkM_1 (.inr (.inr (.inr (by omega))))).symm), trivial⟩
  have hb : ¬ (m.frac < 0 ∨ 12 < m.frac ∨ m.L.length < 1 ∨ 8 < m.L.length) := by omega
  refine X1 _ hof ?_
  refine ncase (fun h5 => ?_) (fun h5 => ?_)
  · exact ⟨trivial, r1 (iE (chkM_2 hb h5).symm), trivial⟩
  have hc := chkM_3 hb h5
  refine And.intro (by rw [eeRow_len]; omega) ?_
  rw [eeRow_len]
  refine loopB T_ok T_mix (fun k : Nat => k ≤ m.L.length ∧ grE m.words.length none 0 m.L = grE m.words.length (preL m.L k) k (m.L.drop k) ∧ ∀ (j : Nat) (hj : j < m.L.length), j < k → RiseG (grm m.L[j]))
    (fun k => [(1, .c (.ad 1 0)), (42, .c (eeSl m.L)), (43, .c (nI .i64 m.L.length)), (44, .c (nI .i64 k))]) (fun _ => [(1, .var [eI .i64 m.frac, sSl m.words, eeSl m.L])]) (fun k => m.L.length - k)
    0 ⟨by omega, rfl, fun j hj h => by omega⟩ ⟨rfl, rfl, rfl, rfl, trivial⟩ ⟨rfl, trivial⟩ (fun k hk => ?_)
  obtain ⟨k1, k2, k3⟩ := hk
  refine dcase (fun h6 => ?_) (fun h6 => ?_)
  · have hk' : k < m.L.length := by omega
    have hel := hm.e _ (List.getElem_mem hk')
    have hstep := grE_step (W := m.words.length) hk'
    have hll := hel.len
    refine And.intro (by omega) (X1 _ (eeRow_get rfl hk') ?_)
    generalize hle : m.L[k] = l at *
    refine And.intro (by rw [eRow_len]; omega) ?_
    rw [eRow_len]
    refine loopJ T_ok T_mix (fun i : Nat => i ≤ l.length ∧ levE (preL m.L k) (k + 1) m.words.length (lstM m.L k) none l = levE (preL m.L k) (k + 1) m.words.length (lstM m.L k) (prvL l i) (l.drop i))
      (fun i => [(1, .c (.ad 1 0)), (5, .c (nI .i64 k)), (6, .c (eSl l)), (42, .c (eeSl m.L)), (43, .c (nI .i64 m.L.length)), (44, .c (nI .i64 k)), (49, .c (eSl l)), (50, .c (nI .i64 l.length)), (51, .c (nI .i64 i))]) (fun _ => [(1, .var [eI .i64 m.frac, sSl m.words, eeSl m.L])]) (fun i => l.length - i)
      0 ⟨by omega, rfl⟩ ⟨rfl, rfl, rfl, rfl, rfl, rfl, rfl, rfl, rfl, trivial⟩ ⟨rfl, trivial⟩ (fun _ : Unit => levE (preL m.L k) (k + 1) m.words.length (lstM m.L k) none l = 0)
      (fun _ => [(1, .c (.ad 1 0)), (5, .c (nI .i64 k)), (6, .c (eSl l)), (42, .c (eeSl m.L)), (43, .c (nI .i64 m.L.length)), (44, .c (nI .i64 k))]) (fun _ => [(1, .var [eI .i64 m.frac, sSl m.words, eeSl m.L])]) (fun i hi => ?_) (fun _ hlev => ?_)
    · obtain ⟨i1, i2⟩ := hi
      refine dcase (fun h7 => ?_) (fun h7 => ?_)
      · have hi' : i < l.length := by omega
        have hent := mentry_ct (k + 1) m.words.length (lstM m.L k) l[i] (hel.at' hi') (by omega)
        have hls := levE_step (A := preL m.L k) (n := k + 1) (W := m.words.length) (last := lstM m.L k) hi'
        have bad : ∀ z : Int, z ≠ 0 → levE (preL m.L k) (k + 1) m.words.length (lstM m.L k) (prvL l i) (l.drop i) = z → chkM m = z := fun z hz he => by
          rw [hc, k2, hstep, i2, he, if_pos hz]
        refine And.intro (by omega) (X1 _ (eRow_get rfl hi') ?_)
        refine X1 ((k + 1 : Nat) : Int) (wI (by simp) (by omega) (by omega)) ?_
        refine And.intro (by rw [sRow_len]; omega) ?_
        rw [sRow_len]
        refine And.intro (by rw [eeRow_len]; omega) ?_
        rw [eeRow_len]
        refine X1 ((m.L.length - 1 : Nat) : Int) (wI (by omega) (by omega) (by omega)) ?_
        refine X1 _ hent ?_
        refine ncase (fun h8 => ?_) (fun h8 => ?_)
        · exact ⟨trivial, r1 (iE (bad _ h8 (by rw [hls, if_pos h8])).symm), trivial⟩
        rw [if_neg (by rw [h8]; simp)] at hls
        obtain ⟨e1, _⟩ := entF_0 h8
        refine dcase (fun h9 => ?_) (fun h9 => ?_)
        · have hi1 : i - 1 < l.length := by omega
          have hpv : prevBad (prvL l i) l[i].1 = decide (lexC l[i - 1].1 l[i].1 ≥ 0) := by
            unfold prvL
            rw [if_neg (by omega), List.getD_eq_getElem?_getD, List.getElem?_eq_getElem hi1]; rfl
          refine X1 ((i - 1 : Nat) : Int) (wI (by omega) (by omega) (by omega)) ?_
          refine And.intro (by omega) (X1 _ (eRow_get rfl hi1) ?_)
          refine X1 _ (gcompare_ct l[i - 1].1 l[i].1 (hel.at' hi1) (hel.at' hi')) ?_
          refine And.intro rfl ?_
          refine dcase (fun h10 => ?_) (fun h10 => ?_)
          · rw [decide_eq_true h10] at hpv
            exact ⟨trivial, r1 (iE (bad 9 (by decide) (by rw [hls, if_pos hpv])).symm), trivial⟩
          rw [decide_eq_false h10] at hpv
          rw [if_neg (by rw [hpv]; simp)] at hls
          refine dcase (fun h11 => ?_) (fun h11 => ?_)
          · have hk1 : k - 1 < m.L.length := by omega
            obtain ⟨kk, hf⟩ := mfind_ct m.L[k - 1] (l[i].1.take k) (hm.e _ (List.getElem_mem hk1)) (k3 _ hk1 (by omega)) (by rw [List.length_take]; omega)
            rw [show iSl (l[i].1.take k) = .sl 1 (((iRow l[i].1).drop 0).take (k - 0)) by rw [iRow_take]] at hf
            have hpb : preBad (preL m.L k) (l[i].1.take (k + 1 - 1)) = !decide (l[i].1.take k ∈ grm m.L[k - 1]) := by
              unfold preL
              rw [if_neg (by omega), gA_at hk1, Nat.add_sub_cancel]
              unfold preBad
              simp
            refine X1 ((k - 1 : Nat) : Int) (wI (by omega) (by omega) (by omega)) ?_
            refine And.intro (by omega) (X1 _ (eeRow_get rfl hk1) ?_)
            refine ⟨0, k, rfl, rfl, by omega, by rw [iRow_len]; omega, ?_⟩
            refine X1 _ hf ?_
            refine And.intro rfl ?_
            refine bcase (fun h12 => ?_) (fun h12 => ?_)
            · rw [h12] at hpb
              exact ⟨trivial, r1 (iE (bad 7 (by decide) (by rw [hls, if_pos hpb])).symm), trivial⟩
            · rw [h12] at hpb
              rw [if_neg (by rw [hpb]; simp)] at hls
              refine X1 ((i + 1 : Nat) : Int) (wI1 (by omega)) ?_
              exact ⟨i + 1, ⟨by omega, by rw [i2, hls]⟩, by omega, ⟨rfl, rfl, rfl, rfl, rfl, rfl, rfl, rfl, rfl, trivial⟩, ⟨rfl, trivial⟩⟩
          · have hpb : preBad (preL m.L k) (l[i].1.take (k + 1 - 1)) = false := by
              unfold preL
              rw [if_pos (by omega)]; rfl
            rw [if_neg (by rw [hpb]; simp)] at hls
            refine X1 ((i + 1 : Nat) : Int) (wI1 (by omega)) ?_
            exact ⟨i + 1, ⟨by omega, by rw [i2, hls]⟩, by omega, ⟨rfl, rfl, rfl, rfl, rfl, rfl, rfl, rfl, rfl, trivial⟩, ⟨rfl, trivial⟩⟩
        · have hpv : prevBad (prvL l i) l[i].1 = false := by
            unfold prvL
            rw [if_pos (by omega)]; rfl
          rw [if_neg (by rw [hpv]; simp)] at hls
          refine And.intro rfl ?_
          refine dcase (fun h11 => ?_) (fun h11 => ?_)
          · have hk1 : k - 1 < m.L.length := by omega
            obtain ⟨kk, hf⟩ := mfind_ct m.L[k - 1] (l[i].1.take k) (hm.e _ (List.getElem_mem hk1)) (k3 _ hk1 (by omega)) (by rw [List.length_take]; omega)
            rw [show iSl (l[i].1.take k) = .sl 1 (((iRow l[i].1).drop 0).take (k - 0)) by rw [iRow_take]] at hf
            have hpb : preBad (preL m.L k) (l[i].1.take (k + 1 - 1)) = !decide (l[i].1.take k ∈ grm m.L[k - 1]) := by
              unfold preL
              rw [if_neg (by omega), gA_at hk1, Nat.add_sub_cancel]
              unfold preBad
              simp
            refine X1 ((k - 1 : Nat) : Int) (wI (by omega) (by omega) (by omega)) ?_
            refine And.intro (by omega) (X1 _ (eeRow_get rfl hk1) ?_)
            refine ⟨0, k, rfl, rfl, by omega, by rw [iRow_len]; omega, ?_⟩
            refine X1 _ hf ?_
            refine And.intro rfl ?_
            refine bcase (fun h12 => ?_) (fun h12 => ?_)
            · rw [h12] at hpb
              exact ⟨trivial, r1 (iE (bad 7 (by decide) (by rw [hls, if_pos hpb])).symm), trivial⟩
            · rw [h12] at hpb
              rw [if_neg (by rw [hpb]; simp)] at hls
              refine X1 ((i + 1 : Nat) : Int) (wI1 (by omega)) ?_
              exact ⟨i + 1, ⟨by omega, by rw [i2, hls]⟩, by omega, ⟨rfl, rfl, rfl, rfl, rfl, rfl, rfl, rfl, rfl, trivial⟩, ⟨rfl, trivial⟩⟩
          · have hpb : preBad (preL m.L k) (l[i].1.take (k + 1 - 1)) = false := by
              unfold preL
              rw [if_pos (by omega)]; rfl
            rw [if_neg (by rw [hpb]; simp)] at hls
            refine X1 ((i + 1 : Nat) : Int) (wI1 (by omega)) ?_
            exact ⟨i + 1, ⟨by omega, by rw [i2, hls]⟩, by omega, ⟨rfl, rfl, rfl, rfl, rfl, rfl, rfl, rfl, rfl, trivial⟩, ⟨rfl, trivial⟩⟩
      · have e : i = l.length := by omega
        subst e
        exact ⟨(), by rw [i2, List.drop_length]; rfl, ⟨rfl, rfl, rfl, rfl, rfl, rfl, trivial⟩, ⟨rfl, trivial⟩⟩
    · rw [if_neg (by rw [hlev]; simp)] at hstep
      have hrise : RiseG (grm l) := (levE_ok hlev).1.r
      have hnext : ∀ (j : Nat) (hj : j < m.L.length), j < k + 1 → RiseG (grm m.L[j]) := fun j hj hjk => by
        by_cases ej : j = k
        · subst ej; rw [hle]; exact hrise
        · exact k3 j hj (by omega)
      refine ecase (fun h8 => ?_) (fun h8 => ?_)
      · refine And.intro (by rw [eRow_len]; omega) ?_
        rw [eRow_len]
        refine And.intro (by rw [sRow_len]; omega) ?_
        rw [sRow_len]
        refine ncase (fun h9 => ?_) (fun h9 => ?_)
        · exact ⟨trivial, r1 (iE (by rw [hc, k2, hstep, if_pos ⟨by omega, by omega⟩])), trivial⟩
        · rw [if_neg (by omega)] at hstep
          refine X1 ((k + 1 : Nat) : Int) (wI (by simp) (by omega) (by omega)) ?_
          exact ⟨k + 1, ⟨by omega, by rw [k2, hstep], hnext⟩, by omega, ⟨rfl, rfl, rfl, rfl, trivial⟩, ⟨rfl, trivial⟩⟩
      · rw [if_neg (by omega)] at hstep
        refine X1 ((k + 1 : Nat) : Int) (wI (by simp) (by omega) (by omega)) ?_
        exact ⟨k + 1, ⟨by omega, by rw [k2, hstep], hnext⟩, by omega, ⟨rfl, rfl, rfl, rfl, trivial⟩, ⟨rfl, trivial⟩⟩
  · have e : k = m.L.length := by omega
    refine joinC T_ok T_mix ?_
    exact ⟨trivial, r1 (iE (by rw [hc, k2, e, List.drop_length]; rfl)), trivial⟩
theorem hasG_neg {A : List (List Int)} {g : List Int} : decide (hasG A g < 0) = !decide (g ∈ A) := by
  unfold hasG
  by_cases h : g ∈ A
  · rw [if_pos h, decide_eq_true h, decide_eq_false (by omega)]; rfl
  · rw [if_neg h, decide_eq_false h]; rfl
theorem rchk_ct (m : Md) (hm : MdL m) : Ct P 9 [mdA m] [.c (eI .i64 (chkM m))] := by
  have hw := hm.w
  have hl := hm.l
  have hof := wrong15_ct m.words (by omega) hm.s
  refine Ct.go T_ok T_mix (N := 117) Tryz.func9 rfl rfl rfl rfl ?_
  refine dcase (fun h1 => ?_) (fun h1 => ?_)
  · exact ⟨trivial, r1 (iE (chkM_1 (.inl h1)).symm), trivial⟩
  refine dcase (fun h2 => ?_) (fun h2 => ?_)
  · exact ⟨trivial, r1 (iE (chkM_1 (.inr (.inl h2))).symm), trivial⟩
  refine And.intro (by rw [eeRow_len]; omega) ?_
  rw [eeRow_len]
  refine dcase (fun h3 => ?_) (fun h3 => ?_)
  · exact ⟨trivial, r1 (iE (chkM_1 (.inr (.inr (.inl (by omega))))).symm), trivial⟩
  refine And.intro (by rw [eeRow_len]; omega) ?_
  rw [eeRow_len]
  refine dcase (fun h4 => ?_) (fun h4 => ?_)
  · exact ⟨trivial, r1 (iE (chkM_1 (.inr (.inr (.inr (by omega))))).symm), trivial⟩
  have hb : ¬ (m.frac < 0 ∨ 12 < m.frac ∨ m.L.length < 1 ∨ 8 < m.L.length) := by omega
  refine X1 _ hof ?_
  refine ncase (fun h5 => ?_) (fun h5 => ?_)
  · exact ⟨trivial, r1 (iE (chkM_2 hb h5).symm), trivial⟩
  have hc := chkM_3 hb h5
  refine loopB T_ok T_mix (fun k : Nat => k ≤ m.L.length ∧ grE m.words.length none 0 m.L = grE m.words.length (preL m.L k) k (m.L.drop k))
    (fun k => [(1, .c (.ad 1 0)), (4, .c (nI .i64 k))]) (fun _ => [(1, .var [eI .i64 m.frac, sSl m.words, eeSl m.L])]) (fun k => m.L.length - k)
    0 ⟨by omega, rfl⟩ ⟨rfl, rfl, trivial⟩ ⟨rfl, trivial⟩ (fun k hk => ?_)
  obtain ⟨k1, k2⟩ := hk
  refine And.intro (by rw [eeRow_len]; omega) ?_
  rw [eeRow_len]
  refine dcase (fun h6 => ?_) (fun h6 => ?_)
  · have hk' : k < m.L.length := by omega
    have hel := hm.e _ (List.getElem_mem hk')
    have hstep := grE_step (W := m.words.length) hk'
    have hll := hel.len
    refine And.intro (by omega) (X1 _ (eeRow_get rfl hk') ?_)
    generalize hle : m.L[k] = l at *
    refine loopJ T_ok T_mix (fun i : Nat => i ≤ l.length ∧ levE (preL m.L k) (k + 1) m.words.length (lstM m.L k) none l = levE (preL m.L k) (k + 1) m.words.length (lstM m.L k) (prvL l i) (l.drop i))
      (fun i => [(1, .c (.ad 1 0)), (4, .c (nI .i64 k)), (5, .c (eSl l)), (6, .c (nI .i64 i))]) (fun _ => [(1, .var [eI .i64 m.frac, sSl m.words, eeSl m.L])]) (fun i => l.length - i)
      0 ⟨by omega, rfl⟩ ⟨rfl, rfl, rfl, rfl, trivial⟩ ⟨rfl, trivial⟩ (fun _ : Unit => levE (preL m.L k) (k + 1) m.words.length (lstM m.L k) none l = 0)
      (fun _ => [(1, .c (.ad 1 0)), (4, .c (nI .i64 k)), (5, .c (eSl l))]) (fun _ => [(1, .var [eI .i64 m.frac, sSl m.words, eeSl m.L])]) (fun i hi => ?_) (fun _ hlev => ?_)
    · obtain ⟨i1, i2⟩ := hi
      refine And.intro (by rw [eRow_len]; omega) ?_
      rw [eRow_len]
      refine dcase (fun h7 => ?_) (fun h7 => ?_)
      · have hi' : i < l.length := by omega
        have hent := rentry_ct (k + 1) m.words.length (lstM m.L k) l[i] (hel.at' hi')
        have hls := levE_step (A := preL m.L k) (n := k + 1) (W := m.words.length) (last := lstM m.L k) hi'
        have bad : ∀ z : Int, z ≠ 0 → levE (preL m.L k) (k + 1) m.words.length (lstM m.L k) (prvL l i) (l.drop i) = z → chkM m = z := fun z hz he => by
          rw [hc, k2, hstep, i2, he, if_pos hz]
        refine And.intro (by omega) (X1 _ (eRow_get rfl hi') ?_)
        refine X1 ((k + 1 : Nat) : Int) (wI (by simp) (by omega) (by omega)) ?_
        refine And.intro (by rw [sRow_len]; omega) ?_
        rw [sRow_len]
        refine And.intro (by rw [eeRow_len]; omega) ?_
        rw [eeRow_len]
        refine X1 ((m.L.length - 1 : Nat) : Int) (wI (by omega) (by omega) (by omega)) ?_
        refine X1 _ hent ?_
        refine And.intro rfl ?_
        refine ncase (fun h8 => ?_) (fun h8 => ?_)
        · exact ⟨trivial, r1 (iE (bad _ h8 (by rw [hls, if_pos h8])).symm), trivial⟩
        rw [if_neg (by rw [h8]; simp)] at hls
        obtain ⟨e1, _⟩ := entF_0 h8
        refine dcase (fun h9 => ?_) (fun h9 => ?_)
        · have hi1 : i - 1 < l.length := by omega
          have hpv : prevBad (prvL l i) l[i].1 = decide (lexC l[i - 1].1 l[i].1 ≥ 0) := by
            unfold prvL
            rw [if_neg (by omega), List.getD_eq_getElem?_getD, List.getElem?_eq_getElem hi1]; rfl
          refine X1 ((i - 1 : Nat) : Int) (wI (by omega) (by omega) (by omega)) ?_
          refine And.intro (by omega) (X1 _ (eRow_get rfl hi1) ?_)
          refine And.intro (by omega) (X1 _ (eRow_get rfl hi') ?_)
          refine X1 _ (rcompare_ct l[i - 1].1 l[i].1 (hel.at' hi1) (hel.at' hi')) ?_
          refine And.intro rfl ?_
          refine dcase (fun h10 => ?_) (fun h10 => ?_)
          · rw [decide_eq_true h10] at hpv
            exact ⟨trivial, r1 (iE (bad 9 (by decide) (by rw [hls, if_pos hpv])).symm), trivial⟩
          rw [decide_eq_false h10] at hpv
          rw [if_neg (by rw [hpv]; simp)] at hls
          refine dcase (fun h11 => ?_) (fun h11 => ?_)
          · have hk1 : k - 1 < m.L.length := by omega
            have hf := rhas_ct m.L[k - 1] (l[i].1.take k) (hm.e _ (List.getElem_mem hk1)) (by rw [List.length_take]; omega)
            rw [show iSl (l[i].1.take k) = .sl 1 (((iRow l[i].1).drop 0).take (k - 0)) by rw [iRow_take]] at hf
            have hpb : preBad (preL m.L k) (l[i].1.take (k + 1 - 1)) = decide (hasG (grm m.L[k - 1]) (l[i].1.take k) < 0) := by
              unfold preL
              rw [if_neg (by omega), gA_at hk1, Nat.add_sub_cancel, hasG_neg]
              unfold preBad
              simp
            refine X1 ((k - 1 : Nat) : Int) (wI (by omega) (by omega) (by omega)) ?_
            refine And.intro (by omega) (X1 _ (eeRow_get rfl hk1) ?_)
            refine And.intro (by omega) (X1 _ (eRow_get rfl hi') ?_)
            refine ⟨0, k, rfl, rfl, by omega, by rw [iRow_len]; omega, ?_⟩
            refine X1 _ hf ?_
            refine And.intro rfl ?_
            refine dcase (fun h12 => ?_) (fun h12 => ?_)
            · rw [decide_eq_true h12] at hpb
              exact ⟨trivial, r1 (iE (bad 7 (by decide) (by rw [hls, if_pos hpb])).symm), trivial⟩
            · rw [decide_eq_false h12] at hpb
              rw [if_neg (by rw [hpb]; simp)] at hls
              refine X1 ((i + 1 : Nat) : Int) (wI1 (by omega)) ?_
              exact ⟨i + 1, ⟨by omega, by rw [i2, hls]⟩, by omega, ⟨rfl, rfl, rfl, rfl, trivial⟩, ⟨rfl, trivial⟩⟩
          · have hpb : preBad (preL m.L k) (l[i].1.take (k + 1 - 1)) = false := by
              unfold preL
              rw [if_pos (by omega)]; rfl
            rw [if_neg (by rw [hpb]; simp)] at hls
            refine And.intro rfl ?_
            refine X1 ((i + 1 : Nat) : Int) (wI1 (by omega)) ?_
            exact ⟨i + 1, ⟨by omega, by rw [i2, hls]⟩, by omega, ⟨rfl, rfl, rfl, rfl, trivial⟩, ⟨rfl, trivial⟩⟩
        · have hpv : prevBad (prvL l i) l[i].1 = false := by
            unfold prvL
            rw [if_pos (by omega)]; rfl
          rw [if_neg (by rw [hpv]; simp)] at hls
          refine And.intro rfl ?_
          refine dcase (fun h11 => ?_) (fun h11 => ?_)
          · have hk1 : k - 1 < m.L.length := by omega
            have hf := rhas_ct m.L[k - 1] (l[i].1.take k) (hm.e _ (List.getElem_mem hk1)) (by rw [List.length_take]; omega)
            rw [show iSl (l[i].1.take k) = .sl 1 (((iRow l[i].1).drop 0).take (k - 0)) by rw [iRow_take]] at hf
            have hpb : preBad (preL m.L k) (l[i].1.take (k + 1 - 1)) = decide (hasG (grm m.L[k - 1]) (l[i].1.take k) < 0) := by
              unfold preL
              rw [if_neg (by omega), gA_at hk1, Nat.add_sub_cancel, hasG_neg]
              unfold preBad
              simp
            refine X1 ((k - 1 : Nat) : Int) (wI (by omega) (by omega) (by omega)) ?_
            refine And.intro (by omega) (X1 _ (eeRow_get rfl hk1) ?_)
            refine And.intro (by omega) (X1 _ (eRow_get rfl hi') ?_)
            refine ⟨0, k, rfl, rfl, by omega, by rw [iRow_len]; omega, ?_⟩
            refine X1 _ hf ?_
            refine And.intro rfl ?_
            refine dcase (fun h12 => ?_) (fun h12 => ?_)
            · rw [decide_eq_true h12] at hpb
              exact ⟨trivial, r1 (iE (bad 7 (by decide) (by rw [hls, if_pos hpb])).symm), trivial⟩
            · rw [decide_eq_false h12] at hpb
              rw [if_neg (by rw [hpb]; simp)] at hls
              refine X1 ((i + 1 : Nat) : Int) (wI1 (by omega)) ?_
              exact ⟨i + 1, ⟨by omega, by rw [i2, hls]⟩, by omega, ⟨rfl, rfl, rfl, rfl, trivial⟩, ⟨rfl, trivial⟩⟩
          · have hpb : preBad (preL m.L k) (l[i].1.take (k + 1 - 1)) = false := by
              unfold preL
              rw [if_pos (by omega)]; rfl
            rw [if_neg (by rw [hpb]; simp)] at hls
            refine And.intro rfl ?_
            refine X1 ((i + 1 : Nat) : Int) (wI1 (by omega)) ?_
            exact ⟨i + 1, ⟨by omega, by rw [i2, hls]⟩, by omega, ⟨rfl, rfl, rfl, rfl, trivial⟩, ⟨rfl, trivial⟩⟩
      · have e : i = l.length := by omega
        subst e
        exact ⟨(), by rw [i2, List.drop_length]; rfl, ⟨rfl, rfl, rfl, trivial⟩, ⟨rfl, trivial⟩⟩
    · rw [if_neg (by rw [hlev]; simp)] at hstep
      refine ecase (fun h8 => ?_) (fun h8 => ?_)
      · refine And.intro (by rw [eRow_len]; omega) ?_
        rw [eRow_len]
        refine And.intro (by rw [sRow_len]; omega) ?_
        rw [sRow_len]
        refine ncase (fun h9 => ?_) (fun h9 => ?_)
        · exact ⟨trivial, r1 (iE (by rw [hc, k2, hstep, if_pos ⟨by omega, by omega⟩])), trivial⟩
        · rw [if_neg (by omega)] at hstep
          refine X1 ((k + 1 : Nat) : Int) (wI (by simp) (by omega) (by omega)) ?_
          exact ⟨k + 1, ⟨by omega, by rw [k2, hstep]⟩, by omega, ⟨rfl, rfl, trivial⟩, ⟨rfl, trivial⟩⟩
      · rw [if_neg (by omega)] at hstep
        refine X1 ((k + 1 : Nat) : Int) (wI (by simp) (by omega) (by omega)) ?_
        exact ⟨k + 1, ⟨by omega, by rw [k2, hstep]⟩, by omega, ⟨rfl, rfl, trivial⟩, ⟨rfl, trivial⟩⟩
  · have e : k = m.L.length := by omega
    refine joinC T_ok T_mix ?_
    exact ⟨trivial, r1 (iE (by rw [hc, k2, e, List.drop_length]; rfl)), trivial⟩
structure MdV (m : Md) : Prop where
  w : m.words.length ≤ 140737488355328
  s : ∀ x, x ∈ m.words → x.size ≤ 140737488355328
  l : m.L.length ≤ 140737488355328
  e : ∀ l, l ∈ m.L → l.length ≤ 140737488355328 ∧ ∀ x, x ∈ l → x.1.length ≤ 140737488355328
theorem Small.mdl {m : Md} (h : Small m) (hv : MdV m) : MdL m := ⟨by have := h.w; omega, hv.s, by have := h.l; omega, fun l hl => ⟨by have := (h.e l hl).1; omega, fun x hx => by have := (h.e l hl).2 x hx; omega⟩⟩
open Classical in
theorem smallM_no {m : Md} (h : ¬ Small m) : smallM m = false := by unfold smallM; exact decide_eq_false h
open Classical in
theorem smallM_yes {m : Md} (h : Small m) : smallM m = true := by unfold smallM; exact decide_eq_true h
theorem sum_take1 {L : List (List En)} {k : Nat} (h : k < L.length) : ((L.take (k + 1)).map List.length).sum = ((L.take k).map List.length).sum + L[k].length := by
  rw [List.take_succ_eq_append_getElem h, List.map_append, List.sum_append]; simp
theorem sum_bd {L : List (List En)} : ∀ k, k ≤ L.length → (∀ (j : Nat) (hj : j < L.length), j < k → L[j].length ≤ 100) → ((L.take k).map List.length).sum ≤ 100 * k
  | 0, _, _ => by simp
  | k + 1, h, hs => by
    have := sum_bd (L := L) k (by omega) (fun j hj hjk => hs j hj (by omega))
    have := hs k (by omega) (by omega)
    rw [sum_take1 (by omega)]; omega
theorem small31_ct (m : Md) (hv : MdV m) : Ct P 8 [mdA m] [.c (.sc (.bool (smallM m)))] := by
  have hw := hv.w
  have hl := hv.l
  refine Ct.go T_ok T_mix (N := 61) Tryz.func8 rfl rfl rfl rfl ?_
  refine And.intro (by rw [sRow_len]; omega) ?_
  rw [sRow_len]
  refine dcase (fun h1 => ?_) (fun h1 => ?_)
  · exact ⟨trivial, r1 (blE (smallM_no fun h => by have := h.w; omega).symm), trivial⟩
  refine And.intro (by rw [eeRow_len]; omega) ?_
  rw [eeRow_len]
  refine dcase (fun h2 => ?_) (fun h2 => ?_)
  · exact ⟨trivial, r1 (blE (smallM_no fun h => by have := h.l; omega).symm), trivial⟩
  refine loopB T_ok T_mix (fun k : Nat => k ≤ m.L.length ∧ ∀ (j : Nat) (hj : j < m.L.length), j < k → smL m.L[j]) (fun k => [(1, .c (.ad 1 0)), (3, .c (nI .i64 ((m.L.take k).map List.length).sum)), (4, .c (nI .i64 k))]) (fun _ => [(1, .var [eI .i64 m.frac, sSl m.words, eeSl m.L])]) (fun k => m.L.length - k)
    0 ⟨by omega, fun j hj h => by omega⟩ ⟨rfl, rfl, rfl, trivial⟩ ⟨rfl, trivial⟩ (fun k hk => ?_)
  obtain ⟨k1, k2⟩ := hk
  have hsb := sum_bd k k1 (fun j hj hjk => (k2 j hj hjk).1)
  refine And.intro (by rw [eeRow_len]; omega) ?_
  rw [eeRow_len]
  refine dcase (fun h3 => ?_) (fun h3 => ?_)
  · have hk' : k < m.L.length := by omega
    have hmem := List.getElem_mem hk'
    obtain ⟨v1, v2⟩ := hv.e _ hmem
    have hst := sum_take1 hk'
    have hno : ¬ smL m.L[k] → smallM m = false := fun hn => smallM_no fun h => hn (h.e _ hmem)
    refine And.intro (by omega) (X1 _ (eeRow_get rfl hk') ?_)
    refine And.intro (by rw [eRow_len]; omega) ?_
    rw [eRow_len]
    refine dcase (fun h4 => ?_) (fun h4 => ?_)
    · exact ⟨trivial, r1 (blE (hno fun h => by have := h.1; omega).symm), trivial⟩
    refine And.intro (by omega) (X1 _ (eeRow_get rfl hk') ?_)
    refine And.intro (by rw [eRow_len]; omega) ?_
    rw [eRow_len]
    refine X1 ((((m.L.take (k + 1)).map List.length).sum : Nat) : Int) (wI (by rw [hst]; simp) (by omega) (by rw [hst]; omega)) ?_
    refine loopB T_ok T_mix (fun i : Nat => i ≤ m.L[k].length ∧ ∀ (j : Nat) (hj : j < m.L[k].length), j < i → m.L[k][j].1.length ≤ 12) (fun i => [(1, .c (.ad 1 0)), (3, .c (nI .i64 ((m.L.take (k + 1)).map List.length).sum)), (4, .c (nI .i64 k)), (5, .c (nI .i64 i))]) (fun _ => [(1, .var [eI .i64 m.frac, sSl m.words, eeSl m.L])]) (fun i => m.L[k].length - i)
      0 ⟨by omega, fun j hj h => by omega⟩ ⟨rfl, rfl, rfl, rfl, trivial⟩ ⟨rfl, trivial⟩ (fun i hi => ?_)
    obtain ⟨i1, i2⟩ := hi
    refine And.intro (by omega) (X1 _ (eeRow_get rfl hk') ?_)
    refine And.intro (by rw [eRow_len]; omega) ?_
    rw [eRow_len]
    refine dcase (fun h5 => ?_) (fun h5 => ?_)
    · have hi' : i < m.L[k].length := by omega
      have := v2 _ (List.getElem_mem hi')
      refine And.intro (by omega) (X1 _ (eeRow_get rfl hk') ?_)
      refine And.intro (by omega) (X1 _ (eRow_get rfl hi') ?_)
      refine And.intro (by rw [iRow_len]; omega) ?_
      rw [iRow_len]
      refine dcase (fun h6 => ?_) (fun h6 => ?_)
      · exact ⟨trivial, r1 (blE (hno fun h => by have := h.2 _ (List.getElem_mem hi'); omega).symm), trivial⟩
      · refine X1 ((i + 1 : Nat) : Int) (wI1 (by omega)) ?_
        refine ⟨i + 1, ⟨by omega, fun j hj hji => ?_⟩, by omega, ⟨rfl, rfl, rfl, rfl, trivial⟩, ⟨rfl, trivial⟩⟩
        by_cases ej : j = i
        · subst ej; omega
        · exact i2 j hj (by omega)
    · have hsm : smL m.L[k] := ⟨by omega, fun x hx => by
        obtain ⟨j, hj, e⟩ := List.mem_iff_getElem.1 hx
        rw [← e]
        exact i2 j hj (by omega)⟩
      refine X1 ((k + 1 : Nat) : Int) (wI (by simp) (by omega) (by omega)) ?_
      refine ⟨k + 1, ⟨by omega, fun j hj hjk => ?_⟩, by omega, ⟨rfl, rfl, rfl, trivial⟩, ⟨rfl, trivial⟩⟩
      by_cases ej : j = k
      · subst ej; exact hsm
      · exact k2 j hj (by omega)
  · have e : k = m.L.length := by omega
    subst e
    refine joinC T_ok T_mix ?_
    rw [List.take_length] at hsb ⊢
    by_cases h5 : (m.L.map List.length).sum ≤ 200
    · have hS : Small m := ⟨by omega, by omega, fun l hl => by
        obtain ⟨j, hj, e⟩ := List.mem_iff_getElem.1 hl
        rw [← e]; exact k2 j hj hj, h5⟩
      exact ⟨trivial, r1 (blE (by rw [smallM_yes hS]; exact decide_eq_true (by omega))), trivial⟩
    · exact ⟨trivial, r1 (blE (by rw [smallM_no fun h => h5 h.n]; exact decide_eq_false (by omega))), trivial⟩
theorem find31_no (m : Md) (g : List Int) (hm : MdL m) (hg : g.length ≤ 1000000) (h1 : ¬ (g.length < 1 ∨ m.L.length < g.length)) (h2 : hasG (gA m.L (g.length - 1)) g < 0) :
    Ct P 14 [mdA m, .c (iSl g)] [.ag [.sc (.slice none 0 0), eI .i64 0, eI .i64 0], .c (.sc (.bool false))] := by
  have hl := hm.l
  have hk : g.length - 1 < m.L.length := by omega
  have hr := rhas_ct m.L[g.length - 1] g (hm.e _ (List.getElem_mem hk)) hg
  rw [← gA_at hk] at hr
  refine Ct.go T_ok T_mix (N := 41) Tryz.func14 rfl rfl rfl rfl ?_
  refine And.intro (by rw [iRow_len]; omega) ?_
  rw [iRow_len]
  refine dcase (fun h3 => ?_) (fun _ => ?_)
  · exfalso; omega
  refine And.intro (by rw [iRow_len]; omega) ?_
  rw [iRow_len]
  refine And.intro (by rw [eeRow_len]; omega) ?_
  rw [eeRow_len]
  refine dcase (fun h3 => ?_) (fun _ => ?_)
  · exfalso; omega
  refine And.intro (by rw [iRow_len]; omega) ?_
  rw [iRow_len]
  refine X1 ((g.length - 1 : Nat) : Int) (wI (by omega) (by omega) (by omega)) ?_
  refine And.intro (by omega) (X1 _ (eeRow_get rfl hk) ?_)
  refine X1 _ hr ?_
  refine dcase (fun _ => ?_) (fun h4 => ?_)
  · exact ⟨trivial, rc rfl, r1 rfl, trivial⟩
  · exact absurd h2 h4
theorem find31_yes (m : Md) (g : List Int) (hm : MdL m) (hg : g.length ≤ 1000000) (h1 : ¬ (g.length < 1 ∨ m.L.length < g.length)) {j : Nat} (h2 : hasG (gA m.L (g.length - 1)) g = j) (hj : j < (m.L.getD (g.length - 1) []).length) :
    Ct P 14 [mdA m, .c (iSl g)] [eA ((m.L.getD (g.length - 1) [])[j]), .c (.sc (.bool true))] := by
  have hl := hm.l
  have hk : g.length - 1 < m.L.length := by omega
  have hgd : m.L.getD (g.length - 1) [] = m.L[g.length - 1] := by rw [List.getD_eq_getElem?_getD, List.getElem?_eq_getElem hk]; rfl
  have hr := rhas_ct m.L[g.length - 1] g (hm.e _ (List.getElem_mem hk)) hg
  rw [← gA_at hk, h2] at hr
  have hj' : j < m.L[g.length - 1].length := by rw [← hgd]; exact hj
  have hll := (hm.e _ (List.getElem_mem hk)).len
  have he : (m.L.getD (g.length - 1) [])[j] = m.L[g.length - 1][j] := by simp only [hgd]
  rw [he]
  refine Ct.go T_ok T_mix (N := 41) Tryz.func14 rfl rfl rfl rfl ?_
  refine And.intro (by rw [iRow_len]; omega) ?_
  rw [iRow_len]
  refine dcase (fun h3 => ?_) (fun _ => ?_)
  · exfalso; omega
  refine And.intro (by rw [iRow_len]; omega) ?_
  rw [iRow_len]
  refine And.intro (by rw [eeRow_len]; omega) ?_
  rw [eeRow_len]
  refine dcase (fun h3 => ?_) (fun _ => ?_)
  · exfalso; omega
  refine And.intro (by rw [iRow_len]; omega) ?_
  rw [iRow_len]
  refine X1 ((g.length - 1 : Nat) : Int) (wI (by omega) (by omega) (by omega)) ?_
  refine And.intro (by omega) (X1 _ (eeRow_get rfl hk) ?_)
  refine X1 _ hr ?_
  refine And.intro (by rw [iRow_len]; omega) ?_
  rw [iRow_len]
  refine X1 ((g.length - 1 : Nat) : Int) (wI (by omega) (by omega) (by omega)) ?_
  refine And.intro (by omega) (X1 _ (eeRow_get rfl hk) ?_)
  refine And.intro (by omega) (X1 _ (eRow_get rfl hj') ?_)
  exact ⟨trivial, rc rfl, r1 rfl, trivial⟩
end Go.Proofs.YtjpbijdpkdmeaaaGreat.Pv
namespace Go.Proofs.YtjpbijdpkdmeaaaGreat.Pv.SrtO
open Go Go.Sort
abbrev El := Int
def SZ : Nat := 1
abbrev EN (x : El) : List PC := [eI .i64 x]
abbrev VL (x : El) : A1 := .c (eI .i64 x)
variable (cm : El → El → Int)
abbrev lt (cm : El → El → Int) (x y : El) : Bool := decide (cm x y < 0)
def row (d : Array El) : List (List PC) := d.toList.map EN
theorem row_get {d : Array El} {i : Int} {n : Nat} (h0 : i = n) (h : n < d.size) : (row d)[i.toNat]? = some (EN d[n]!) := by
  subst h0
  simp [row, h]
theorem row_set {d : Array El} {i : Int} {n : Nat} {y : El} (h0 : i = n) : (row d).set i.toNat (EN y) = row (d.setIfInBounds n y) := by
  subst h0
  simp [row, List.map_set]
theorem swp_size {d : Array El} {i j : Nat} : (swp d i j).size = d.size := by simp [swp]
theorem row_swp {d : Array El} {i j : Int} {m n : Nat} (h1 : i = m) (h2 : j = n) : ((row d).set i.toNat (EN d[n]!)).set j.toNat (EN d[m]!) = row (swp d m n) := by
  rw [row_set h1, row_set h2]; rfl
abbrev dO (d : Array El) : Nat × Option Ob := (1000000, some (.row SZ (row d)))
abbrev dA (d : Array El) : A1 := .c (.ow 1000000 SZ d.size)
abbrev sO (s : Nat) : Nat × Option Ob := (1000001, some (.var [nI .i64 s]))
theorem row_get2 {d : Array El} {i j : Int} {m n : Nat} {y : El} (h0 : i = m) (h1 : j = n) (h : n < d.size) : ((row d).set i.toNat (EN y))[j.toNat]? = some (EN (d.setIfInBounds m y)[n]!) := by
  rw [row_set h0]; exact row_get h1 (by simpa using h)
theorem order2_le (d : Array El) (a b s : Nat) : (order2 (lt cm) d a b s).2.2 ≤ s + 1 ∧ ((order2 (lt cm) d a b s).1 = a ∧ (order2 (lt cm) d a b s).2.1 = b ∨ (order2 (lt cm) d a b s).1 = b ∧ (order2 (lt cm) d a b s).2.1 = a) := by
  unfold order2; split <;> simp
variable (hc : ∀ x y, Ct P 185 [VL x, VL y] [.c (.sc (.bool (decide (cm x y < 0))))])
include hc
theorem order2_ct (d : Array El) (a b s : Nat) (ha : a < d.size) (hb : b < d.size) (hd : d.size ≤ 1000000) (hs : s ≤ 1000000) :
    CtO P 198 [dO d, sO s] [dA d, .c (nI .i64 a), .c (nI .i64 b), .c (.ad 1000001 0)] [dO d, sO (order2 (lt cm) d a b s).2.2] [.c (nI .i64 (order2 (lt cm) d a b s).1), .c (nI .i64 (order2 (lt cm) d a b s).2.1)] := by
  refine Ct.io T_ok T_mix (N := 28) Tryz.func198 rfl rfl rfl rfl ?_
  refine And.intro (by omega) (And.intro (by omega) (X1 _ (row_get rfl hb) ?_))
  refine And.intro (by omega) (And.intro (by omega) (X1 _ (row_get rfl ha) ?_))
  refine X1 _ (hc _ _) ?_
  refine And.intro rfl ?_
  refine dcase (fun h => ?_) (fun h => ?_)
  · have e : order2 (lt cm) d a b s = (b, a, s + 1) := if_pos (decide_eq_true h)
    rw [e]
    refine X1 ((s + 1 : Nat) : Int) (wI (by simp) (by omega) (by omega)) ?_
    exact ⟨trivial, SubO.of (l := [(1000000, .row _ _), (1000001, .var _)]) ⟨rfl, rfl, trivial⟩, r1 rfl, r1 rfl, trivial⟩
  · have e : order2 (lt cm) d a b s = (a, b, s) := if_neg (by simpa using h)
    rw [e]
    exact ⟨trivial, SubO.of (l := [(1000000, .row _ _), (1000001, .var _)]) ⟨rfl, rfl, trivial⟩, r1 rfl, r1 rfl, trivial⟩
theorem median_ct (d : Array El) (a b c s : Nat) (ha : a < d.size) (hb : b < d.size) (hcc : c < d.size) (hd : d.size ≤ 1000000) (hs : s ≤ 1000) :
    CtO P 195 [dO d, sO s] [dA d, .c (nI .i64 a), .c (nI .i64 b), .c (nI .i64 c), .c (.ad 1000001 0)] [dO d, sO (median (lt cm) d a b c s).2] [.c (nI .i64 (median (lt cm) d a b c s).1)] := by
  have l1 := order2_le (cm := cm) d a b s
  have e : median (lt cm) d a b c s = ((order2 (lt cm) d (order2 (lt cm) d a b s).1 (order2 (lt cm) d (order2 (lt cm) d a b s).2.1 c (order2 (lt cm) d a b s).2.2).1 (order2 (lt cm) d (order2 (lt cm) d a b s).2.1 c (order2 (lt cm) d a b s).2.2).2.2).2.1, (order2 (lt cm) d (order2 (lt cm) d a b s).1 (order2 (lt cm) d (order2 (lt cm) d a b s).2.1 c (order2 (lt cm) d a b s).2.2).1 (order2 (lt cm) d (order2 (lt cm) d a b s).2.1 c (order2 (lt cm) d a b s).2.2).2.2).2.2) := rfl
  rw [e]
  have c1 := order2_ct cm hc d a b s ha hb hd (by omega)
  generalize order2 (lt cm) d a b s = p1 at *
  have l2 := order2_le (cm := cm) d p1.2.1 c p1.2.2
  have c2 := order2_ct cm hc d p1.2.1 c p1.2.2 (by omega) hcc hd (by omega)
  generalize order2 (lt cm) d p1.2.1 c p1.2.2 = p2 at *
  have l3 := order2_le (cm := cm) d p1.1 p2.1 p2.2.2
  have c3 := order2_ct cm hc d p1.1 p2.1 p2.2.2 (by omega) (by omega) hd (by omega)
  generalize order2 (lt cm) d p1.1 p2.1 p2.2.2 = p3 at *
  refine Ct.io T_ok T_mix (N := 36) Tryz.func195 rfl rfl rfl rfl ?_
  refine X2 (.own [(1000000, 1000000), (1000001, 1000001)] [(1000000, 1000000), (1000001, 1000001)]) ?_
  refine ⟨_, _, c1, ?_⟩
  refine X2 (.own [(1000000, 1000000), (1000001, 1000001)] [(1000000, 1000000), (1000001, 1000001)]) ?_
  refine ⟨_, _, c2, ?_⟩
  refine X2 (.own [(1000000, 1000000), (1000001, 1000001)] [(1000000, 1000000), (1000001, 1000001)]) ?_
  refine ⟨_, _, c3, ?_⟩
  exact ⟨trivial, SubO.of (l := [(1000000, .row _ _), (1000001, .var _)]) ⟨rfl, rfl, trivial⟩, r1 rfl, trivial⟩
theorem medAdj_ct (d : Array El) (a s : Nat) (ha : 1 ≤ a) (hb : a + 1 < d.size) (hd : d.size ≤ 1000000) (hs : s ≤ 1000) :
    CtO P 194 [dO d, sO s] [dA d, .c (nI .i64 a), .c (.ad 1000001 0)] [dO d, sO (medianAdjacent (lt cm) d a s).2] [.c (nI .i64 (medianAdjacent (lt cm) d a s).1)] := by
  have c1 := median_ct cm hc d (a - 1) a (a + 1) s (by omega) (by omega) (by omega) hd hs
  refine Ct.io T_ok T_mix (N := 15) Tryz.func194 rfl rfl rfl rfl ?_
  refine X1 ((a - 1 : Nat) : Int) (wI (by omega) (by omega) (by omega)) ?_
  refine X1 ((a + 1 : Nat) : Int) (wI (by simp) (by omega) (by omega)) ?_
  refine X2 (.own [(1000000, 1000000), (1000001, 1000001)] [(1000000, 1000000), (1000001, 1000001)]) ?_
  refine ⟨_, _, c1, ?_⟩
  exact ⟨trivial, SubO.of (l := [(1000000, .row _ _), (1000001, .var _)]) ⟨rfl, rfl, trivial⟩, r1 rfl, trivial⟩
omit hc
def hV : Hint → Int
  | .unknown => 0
  | .increasing => 1
  | .decreasing => 2
theorem median_le (d : Array El) (a b c s : Nat) : (median (lt cm) d a b c s).2 ≤ s + 3 ∧ ((median (lt cm) d a b c s).1 = a ∨ (median (lt cm) d a b c s).1 = b ∨ (median (lt cm) d a b c s).1 = c) := by
  have l1 := order2_le cm d a b s
  unfold median
  generalize order2 (lt cm) d a b s = p1 at *
  have l2 := order2_le cm d p1.2.1 c p1.2.2
  simp only
  generalize order2 (lt cm) d p1.2.1 c p1.2.2 = p2 at *
  have l3 := order2_le cm d p1.1 p2.1 p2.2.2
  generalize order2 (lt cm) d p1.1 p2.1 p2.2.2 = p3 at *
  exact ⟨by omega, by omega⟩
theorem quo4 {x : Int} {n : Nat} (h : x = n) : x.tdiv 4 = ((n / 4 : Nat) : Int) := by
  subst h; rw [Int.tdiv_eq_ediv_of_nonneg (by omega)]; omega
include hc
theorem choose_ct (d : Array El) (a b : Nat) (hab : a < b) (hb : b ≤ d.size) (hd : d.size ≤ 1000000) :
    CtO P 182 [dO d] [dA d, .c (nI .i64 a), .c (nI .i64 b)] [dO d] [.c (nI .i64 (choosePivot (lt cm) d a b).1), .c (eI .i64 (hV (choosePivot (lt cm) d a b).2))] := by
  refine Ct.io T_ok T_mix (N := 57) Tryz.func182 rfl rfl rfl rfl ?_
  refine X1 ((b - a : Nat) : Int) (wI (by omega) (by omega) (by omega)) ?_
  refine And.intro (by omega) (X1 _ (quo4 rfl) (And.intro ⟨by omega, by omega⟩ ?_))
  refine X1 (((b - a) / 4 * 1 : Nat) : Int) (wI (by simp) (by omega) (by omega)) ?_
  refine X1 ((a + (b - a) / 4 * 1 : Nat) : Int) (wI (by simp) (by omega) (by omega)) ?_
  refine And.intro (by omega) (X1 _ (quo4 rfl) (And.intro ⟨by omega, by omega⟩ ?_))
  refine X1 (((b - a) / 4 * 2 : Nat) : Int) (wI (by simp) (by omega) (by omega)) ?_
  refine X1 ((a + (b - a) / 4 * 2 : Nat) : Int) (wI (by simp) (by omega) (by omega)) ?_
  refine And.intro (by omega) (X1 _ (quo4 rfl) (And.intro ⟨by omega, by omega⟩ ?_))
  refine X1 (((b - a) / 4 * 3 : Nat) : Int) (wI (by simp) (by omega) (by omega)) ?_
  refine X1 ((a + (b - a) / 4 * 3 : Nat) : Int) (wI (by simp) (by omega) (by omega)) ?_
  refine dcase (fun h8 => ?_) (fun h8 => ?_)
  · refine dcase (fun h50 => ?_) (fun h50 => ?_)
    · have e : choosePivot (lt cm) d a b = ((median (lt cm) d (medianAdjacent (lt cm) d (a + (b - a) / 4 * 1) 0).1 (medianAdjacent (lt cm) d (a + (b - a) / 4 * 2) (medianAdjacent (lt cm) d (a + (b - a) / 4 * 1) 0).2).1 (medianAdjacent (lt cm) d (a + (b - a) / 4 * 3) (medianAdjacent (lt cm) d (a + (b - a) / 4 * 2) (medianAdjacent (lt cm) d (a + (b - a) / 4 * 1) 0).2).2).1 (medianAdjacent (lt cm) d (a + (b - a) / 4 * 3) (medianAdjacent (lt cm) d (a + (b - a) / 4 * 2) (medianAdjacent (lt cm) d (a + (b - a) / 4 * 1) 0).2).2).2).1,
          if (median (lt cm) d (medianAdjacent (lt cm) d (a + (b - a) / 4 * 1) 0).1 (medianAdjacent (lt cm) d (a + (b - a) / 4 * 2) (medianAdjacent (lt cm) d (a + (b - a) / 4 * 1) 0).2).1 (medianAdjacent (lt cm) d (a + (b - a) / 4 * 3) (medianAdjacent (lt cm) d (a + (b - a) / 4 * 2) (medianAdjacent (lt cm) d (a + (b - a) / 4 * 1) 0).2).2).1 (medianAdjacent (lt cm) d (a + (b - a) / 4 * 3) (medianAdjacent (lt cm) d (a + (b - a) / 4 * 2) (medianAdjacent (lt cm) d (a + (b - a) / 4 * 1) 0).2).2).2).2 = 0 then .increasing else
          if (median (lt cm) d (medianAdjacent (lt cm) d (a + (b - a) / 4 * 1) 0).1 (medianAdjacent (lt cm) d (a + (b - a) / 4 * 2) (medianAdjacent (lt cm) d (a + (b - a) / 4 * 1) 0).2).1 (medianAdjacent (lt cm) d (a + (b - a) / 4 * 3) (medianAdjacent (lt cm) d (a + (b - a) / 4 * 2) (medianAdjacent (lt cm) d (a + (b - a) / 4 * 1) 0).2).2).1 (medianAdjacent (lt cm) d (a + (b - a) / 4 * 3) (medianAdjacent (lt cm) d (a + (b - a) / 4 * 2) (medianAdjacent (lt cm) d (a + (b - a) / 4 * 1) 0).2).2).2).2 = 12 then .decreasing else .unknown) := by
        simp only [choosePivot, if_pos (show b - a ≥ 8 by omega), if_pos (show b - a ≥ 50 by omega)]
      rw [e]
      have m1 := median_le cm d (a + (b - a) / 4 * 1 - 1) (a + (b - a) / 4 * 1) (a + (b - a) / 4 * 1 + 1) 0
      change (medianAdjacent (lt cm) d (a + (b - a) / 4 * 1) 0).2 ≤ _ ∧ _ at m1
      have c1 := medAdj_ct cm hc d (a + (b - a) / 4 * 1) 0 (by omega) (by omega) hd (by omega)
      have m1' : (medianAdjacent (lt cm) d (a + (b - a) / 4 * 1) 0).1 < d.size := by
        show (median (lt cm) d _ _ _ _).1 < _
        have := m1.2; omega
      have m1'' := m1.1
      generalize medianAdjacent (lt cm) d (a + (b - a) / 4 * 1) 0 = p1 at *
      have m2 := median_le cm d (a + (b - a) / 4 * 2 - 1) (a + (b - a) / 4 * 2) (a + (b - a) / 4 * 2 + 1) p1.2
      have c2 := medAdj_ct cm hc d (a + (b - a) / 4 * 2) p1.2 (by omega) (by omega) hd (by omega)
      have m2' : (medianAdjacent (lt cm) d (a + (b - a) / 4 * 2) p1.2).1 < d.size := by
        show (median (lt cm) d _ _ _ _).1 < _
        have := m2.2; omega
      have m2'' : (medianAdjacent (lt cm) d (a + (b - a) / 4 * 2) p1.2).2 ≤ p1.2 + 3 := m2.1
      generalize medianAdjacent (lt cm) d (a + (b - a) / 4 * 2) p1.2 = p2 at *
      have m3 := median_le cm d (a + (b - a) / 4 * 3 - 1) (a + (b - a) / 4 * 3) (a + (b - a) / 4 * 3 + 1) p2.2
      have c3 := medAdj_ct cm hc d (a + (b - a) / 4 * 3) p2.2 (by omega) (by omega) hd (by omega)
      have m3' : (medianAdjacent (lt cm) d (a + (b - a) / 4 * 3) p2.2).1 < d.size := by
        show (median (lt cm) d _ _ _ _).1 < _
        have := m3.2; omega
      have m3'' : (medianAdjacent (lt cm) d (a + (b - a) / 4 * 3) p2.2).2 ≤ p2.2 + 3 := m3.1
      generalize medianAdjacent (lt cm) d (a + (b - a) / 4 * 3) p2.2 = p3 at *
      have c4 := median_ct cm hc d p1.1 p2.1 p3.1 p3.2 m1' m2' m3' hd (by omega)
      generalize median (lt cm) d p1.1 p2.1 p3.1 p3.2 = p4 at *
      refine X2 (.own [(1000000, 1000000), (9, 1000001)] [(1000000, 1000000), (1000001, 9)]) ?_
      refine ⟨_, _, c1, ?_⟩
      refine X2 (.own [(1000000, 1000000), (9, 1000001)] [(1000000, 1000000), (1000001, 9)]) ?_
      refine ⟨_, _, c2, ?_⟩
      refine X2 (.own [(1000000, 1000000), (9, 1000001)] [(1000000, 1000000), (1000001, 9)]) ?_
      refine ⟨_, _, c3, ?_⟩
      refine X2 (.own [(1000000, 1000000), (9, 1000001)] [(1000000, 1000000), (1000001, 9)]) ?_
      refine ⟨_, _, c4, ?_⟩
      refine ecase (fun h0 => ?_) (fun h0 => ?_)
      · rw [if_pos (by omega)]
        exact ⟨trivial, SubO.of (l := [(1000000, .row _ _)]) ⟨rfl, trivial⟩, r1 rfl, r1 rfl, trivial⟩
      · rw [if_neg (by omega)]
        refine ecase (fun h1 => ?_) (fun h1 => ?_)
        · rw [if_pos (by omega)]
          exact ⟨trivial, SubO.of (l := [(1000000, .row _ _)]) ⟨rfl, trivial⟩, r1 rfl, r1 rfl, trivial⟩
        · rw [if_neg (by omega)]
          exact ⟨trivial, SubO.of (l := [(1000000, .row _ _)]) ⟨rfl, trivial⟩, r1 rfl, r1 rfl, trivial⟩
    · have e : choosePivot (lt cm) d a b = ((median (lt cm) d (a + (b - a) / 4 * 1) (a + (b - a) / 4 * 2) (a + (b - a) / 4 * 3) 0).1, if (median (lt cm) d (a + (b - a) / 4 * 1) (a + (b - a) / 4 * 2) (a + (b - a) / 4 * 3) 0).2 = 0 then .increasing else if (median (lt cm) d (a + (b - a) / 4 * 1) (a + (b - a) / 4 * 2) (a + (b - a) / 4 * 3) 0).2 = 12 then .decreasing else .unknown) := by
        simp only [choosePivot, if_pos (show b - a ≥ 8 by omega), if_neg (show ¬ (b - a ≥ 50) by omega)]
      rw [e]
      have c1 := median_ct cm hc d (a + (b - a) / 4 * 1) (a + (b - a) / 4 * 2) (a + (b - a) / 4 * 3) 0 (by omega) (by omega) (by omega) hd (by omega)
      generalize median (lt cm) d (a + (b - a) / 4 * 1) (a + (b - a) / 4 * 2) (a + (b - a) / 4 * 3) 0 = p4 at *
      refine X2 (.own [(1000000, 1000000), (9, 1000001)] [(1000000, 1000000), (1000001, 9)]) ?_
      refine ⟨_, _, c1, ?_⟩
      refine ecase (fun h0 => ?_) (fun h0 => ?_)
      · rw [if_pos (by omega)]
        exact ⟨trivial, SubO.of (l := [(1000000, .row _ _)]) ⟨rfl, trivial⟩, r1 rfl, r1 rfl, trivial⟩
      · rw [if_neg (by omega)]
        refine ecase (fun h1 => ?_) (fun h1 => ?_)
        · rw [if_pos (by omega)]
          exact ⟨trivial, SubO.of (l := [(1000000, .row _ _)]) ⟨rfl, trivial⟩, r1 rfl, r1 rfl, trivial⟩
        · rw [if_neg (by omega)]
          exact ⟨trivial, SubO.of (l := [(1000000, .row _ _)]) ⟨rfl, trivial⟩, r1 rfl, r1 rfl, trivial⟩
  · have e : choosePivot (lt cm) d a b = (a + (b - a) / 4 * 2, .increasing) := by
      simp only [choosePivot, if_neg (show ¬ (b - a ≥ 8) by omega), if_true]
    rw [e]
    exact ⟨trivial, SubO.of (l := [(1000000, .row _ _)]) ⟨rfl, trivial⟩, r1 rfl, r1 rfl, trivial⟩
omit hc
theorem reverse_ct (d : Array El) (a b : Nat) (hab : a < b) (hb : b ≤ d.size) (hd : d.size ≤ 1000000) :
    CtO P 183 [dO d] [dA d, .c (nI .i64 a), .c (nI .i64 b)] [dO (reverseRange d a b)] [] := by
  refine Ct.io T_ok T_mix (N := 32) Tryz.func183 rfl rfl rfl rfl ?_
  refine X1 ((b - 1 : Nat) : Int) (wI (by omega) (by omega) (by omega)) ?_
  refine loopB T_ok T_mix (G := Nat × Nat × Array El) (fun (i, j, d') => reverseLoop i j d' = reverseRange d a b ∧ d'.size = d.size ∧ j < d.size) (fun (i, j, _) => [(0, .c (.ow 1000000 SZ d.size)), (6, .c (nI .i64 i)), (7, .c (nI .i64 j))]) (fun (_, _, d') => [(1000000, .row SZ (row d'))]) (fun (i, j, _) => j - i)
    (a, b - 1, d) ⟨rfl, rfl, by omega⟩ ⟨rfl, rfl, rfl, trivial⟩ ⟨rfl, trivial⟩ (fun (i, j, d') hi => ?_)
  obtain ⟨i1, i2, i3⟩ := hi
  refine dcase (fun h5 => ?_) (fun h5 => ?_)
  · rw [reverseLoop, if_pos (by omega)] at i1
    refine And.intro (by omega) (And.intro (by omega) (X1 _ (row_get (n := j) rfl (by omega)) ?_))
    refine And.intro (by omega) (And.intro (by omega) (X1 _ (row_get (n := i) rfl (by omega)) ?_))
    refine And.intro (by omega) (And.intro (by omega) (X1 _ (row_get (n := i) rfl (by omega)) ?_))
    refine And.intro (by omega) (And.intro (by omega) (X1 _ (row_get2 (y := d'[j]!) (m := i) (n := j) rfl rfl (by omega)) ?_))
    refine And.intro rfl ?_
    refine X1 ((i + 1 : Nat) : Int) (wI1 (by omega)) ?_
    refine X1 ((j - 1 : Nat) : Int) (wI (by omega) (by omega) (by omega)) ?_
    exact ⟨(i + 1, j - 1, swp d' i j), ⟨i1, by rw [swp_size]; exact i2, by omega⟩, by show j - 1 - (i + 1) < j - i; omega, ⟨rfl, rfl, rfl, trivial⟩, ⟨rowE (row_swp (m := i) (n := j) rfl rfl), trivial⟩⟩
  · rw [reverseLoop, if_neg (by omega)] at i1
    rw [← i1]
    exact ⟨trivial, SubO.of (l := [(1000000, .row _ _)]) ⟨rfl, trivial⟩, trivial⟩
end Go.Proofs.YtjpbijdpkdmeaaaGreat.Pv.SrtO
namespace Go.Proofs.YtjpbijdpkdmeaaaGreat.Pv
open Go Go.Sort
theorem blen_bits (n : Nat) : bitsLen n = blen n := by
  unfold bitsLen
  split
  · rename_i h; subst h; exact blen_zero.symm
  · rename_i h
    exact (blen_is (Nat.log2_self_le h) Nat.lt_log2_self).symm
theorem len_ct (n : Nat) (hn : n < 18446744073709551616) : Ct P 169 [.c (nI .u64 n)] [.c (nI .i64 (bitsLen n))] := by
  rw [blen_bits]
  refine Ct.go T_ok T_mix (N := 8) Tryz.func169 rfl rfl rfl rfl ?_
  refine X1 _ (len64_ct n hn) ?_
  exact ⟨trivial, r1 rfl, trivial⟩
theorem bits_small {n : Nat} (h : n ≤ 1000000) : bitsLen n ≤ 20 := by rw [blen_bits]; exact blen_le (by omega)
theorem pow2_ct (n : Nat) (hn : n ≤ 1000000) : Ct P 192 [.c (nI .i64 n)] [.c (nI .u64 (1 <<< bitsLen n))] := by
  refine Ct.go T_ok T_mix (N := 7) Tryz.func192 rfl rfl rfl rfl ?_
  have hb := bits_small hn
  refine X1 _ (wU (b := (n : Int)) rfl (by omega) (by omega)) ?_
  refine X1 _ (len_ct n (by omega)) ?_
  have hp : 2 ^ bitsLen n ≤ 2 ^ 20 := Nat.pow_le_pow_right (by omega) hb
  refine And.intro (by omega) (X1 ((1 <<< bitsLen n : Nat) : Int) ?_ ?_)
  · rw [Nat.one_shiftLeft]
    have e : (1 : Int) * 2 ^ min ((bitsLen n : Nat) : Int).toNat IntKind.u64.bits = ((2 ^ bitsLen n : Nat) : Int) := by
      have : min ((bitsLen n : Nat) : Int).toNat IntKind.u64.bits = bitsLen n := by
        show min ((bitsLen n : Nat) : Int).toNat 64 = _
        omega
      rw [this]; simp
    generalize 2 ^ bitsLen n = m at *
    exact wU e (by omega) (by omega)
  · exact ⟨trivial, r1 rfl, trivial⟩
theorem u64lt (x : UInt64) : x.toNat < 18446744073709551616 := x.toNat_lt
theorem shlU (x : UInt64) (k : Nat) (y : UInt64) (hk : k < 64) (h : y.toNat = x.toNat * 2 ^ k % 18446744073709551616) : IntKind.u64.wrap ((x.toNat : Int) * 2 ^ min ((k : Nat) : Int).toNat IntKind.u64.bits) = (y.toNat : Int) := by
  have e : min ((k : Nat) : Int).toNat IntKind.u64.bits = k := by show min ((k : Nat) : Int).toNat 64 = _; omega
  rw [e, h]
  have e2 : (x.toNat : Int) * 2 ^ k = ((x.toNat * 2 ^ k : Nat) : Int) := by simp
  rw [e2]
  simp [IntKind.wrap, IntKind.signed, IntKind.bits]
theorem xorU (x y : UInt64) : IntKind.u64.wrap ((BitVec.ofInt IntKind.u64.bits (x.toNat : Int) ^^^ BitVec.ofInt IntKind.u64.bits (y.toNat : Int)).toNat : Int) = ((x ^^^ y).toNat : Int) := by
  have hx := u64lt x
  have hy := u64lt y
  have e : (BitVec.ofInt IntKind.u64.bits (x.toNat : Int) ^^^ BitVec.ofInt IntKind.u64.bits (y.toNat : Int)).toNat = (x ^^^ y).toNat := by
    show (BitVec.ofInt 64 (x.toNat : Int) ^^^ BitVec.ofInt 64 (y.toNat : Int)).toNat = _
    rw [BitVec.ofInt_natCast, BitVec.ofInt_natCast, BitVec.toNat_xor, BitVec.toNat_ofNat, BitVec.toNat_ofNat, Nat.mod_eq_of_lt (by omega : x.toNat < 2 ^ 64), Nat.mod_eq_of_lt (by omega : y.toNat < 2 ^ 64), UInt64.toNat_xor]
  rw [e]
  have := u64lt (x ^^^ y)
  exact wU rfl (by omega) (by omega)
theorem andU (x : UInt64) {n : Nat} (hn : n < 18446744073709551616) : IntKind.u64.wrap ((BitVec.ofInt IntKind.u64.bits (x.toNat : Int) &&& BitVec.ofInt IntKind.u64.bits (n : Int)).toNat : Int) = ((x.toNat &&& n : Nat) : Int) := by
  have hx := u64lt x
  have e : (BitVec.ofInt IntKind.u64.bits (x.toNat : Int) &&& BitVec.ofInt IntKind.u64.bits (n : Int)).toNat = x.toNat &&& n := by
    show (BitVec.ofInt 64 (x.toNat : Int) &&& BitVec.ofInt 64 (n : Int)).toNat = _
    rw [BitVec.ofInt_natCast, BitVec.ofInt_natCast, BitVec.toNat_and, BitVec.toNat_ofNat, BitVec.toNat_ofNat, Nat.mod_eq_of_lt (by omega : x.toNat < 2 ^ 64), Nat.mod_eq_of_lt (by omega : n < 2 ^ 64)]
  rw [e]
  have : x.toNat &&& n ≤ n := Nat.and_le_right
  exact wU rfl (by omega) (by omega)
theorem next_ct (r : UInt64) : CtO P 193 [(1000000, some (.var [nI .u64 r.toNat]))] [.c (.ad 1000000 0)] [(1000000, some (.var [nI .u64 (xorNext r).toNat]))] [.c (nI .u64 (xorNext r).toNat)] := by
  refine Ct.io T_ok T_mix (N := 33) Tryz.func193 rfl rfl rfl rfl ?_
  refine And.intro (by decide) (X1 ((r <<< 13).toNat : Int) (shlU r 13 (r <<< 13) (by omega) ?_) ?_)
  · rw [UInt64.toNat_shiftLeft]; simp [Nat.shiftLeft_eq]
  refine X1 _ (xorU r (r <<< 13)) ?_
  refine And.intro rfl ?_
  generalize hr1 : r ^^^ (r <<< 13) = s1
  have q1 := u64lt (s1 >>> 7)
  refine And.intro (by decide) (X1 ((s1 >>> 7).toNat : Int) ?_ (And.intro ⟨by omega, by omega⟩ ?_))
  · rw [UInt64.toNat_shiftRight]
    show (s1.toNat : Int).fdiv (2 ^ min ((7 : Nat) : Int).toNat 64) = _
    rw [shrN (by omega), Nat.shiftRight_eq_div_pow]; rfl
  refine X1 _ (xorU s1 (s1 >>> 7)) ?_
  refine And.intro rfl ?_
  generalize hr2 : s1 ^^^ (s1 >>> 7) = s2
  refine And.intro (by decide) (X1 ((s2 <<< 17).toNat : Int) (shlU s2 17 (s2 <<< 17) (by omega) ?_) ?_)
  · rw [UInt64.toNat_shiftLeft]; simp [Nat.shiftLeft_eq]
  refine X1 _ (xorU s2 (s2 <<< 17)) ?_
  refine And.intro rfl ?_
  have e : xorNext r = s2 ^^^ (s2 <<< 17) := by rw [← hr2, ← hr1]; rfl
  rw [e]
  exact ⟨trivial, SubO.of (l := [(1000000, .var _)]) ⟨rfl, trivial⟩, r1 rfl, trivial⟩
end Go.Proofs.YtjpbijdpkdmeaaaGreat.Pv
namespace Go.Proofs.YtjpbijdpkdmeaaaGreat.Pv.SrtO
open Go Go.Sort
section
variable {cm : El → El → Int} {a b : Nat}
theorem insInner_a {j : Nat} {e : Array El} (h : j ≤ a) : insInner (lt cm) a j e = e := by
  cases j with
  | zero => rfl
  | succ j => rw [insInner, if_neg (by simp; omega)]
theorem insInner_b {j : Nat} {e : Array El} (h : ¬ cm e[j]! e[j - 1]! < 0) : insInner (lt cm) a j e = e := by
  cases j with
  | zero => rfl
  | succ j => rw [insInner, if_neg (by simp at h; simp [lt, h])]
theorem insInner_c {j : Nat} {e : Array El} (h : j > a) (h2 : cm e[j]! e[j - 1]! < 0) : insInner (lt cm) a j e = insInner (lt cm) a (j - 1) (swp e j (j - 1)) := by
  cases j with
  | zero => omega
  | succ j =>
    simp only [Nat.add_sub_cancel] at h2 ⊢
    rw [insInner, if_pos (by simp [lt, h2]; omega)]
end
variable (cm : El → El → Int)
variable (hc : ∀ x y, Ct P 185 [VL x, VL y] [.c (.sc (.bool (decide (cm x y < 0))))])
include hc
theorem ins_ct (d : Array El) (a b : Nat) (hab : a ≤ b) (hb : b ≤ d.size) (hd : d.size ≤ 1000000) :
    CtO P 179 [dO d] [dA d, .c (nI .i64 a), .c (nI .i64 b)] [dO (insertionSort (lt cm) d a b)] [] := by
  refine Ct.io T_ok T_mix (N := 49) Tryz.func179 rfl rfl rfl rfl ?_
  refine X1 ((a + 1 : Nat) : Int) (wI (by simp) (by omega) (by omega)) ?_
  refine loopB T_ok T_mix (G := Nat × Array El) (fun (i, e) => insOuter (lt cm) a b i e = insertionSort (lt cm) d a b ∧ e.size = d.size ∧ a + 1 ≤ i) (fun (i, _) => [(0, .c (.ow 1000000 SZ d.size)), (1, .c (nI .i64 a)), (2, .c (nI .i64 b)), (0, .c (.ow 1000000 SZ d.size)), (6, .c (nI .i64 i))]) (fun (_, e) => [(1000000, .row SZ (row e))]) (fun (i, _) => b - i)
    (a + 1, d) ⟨rfl, rfl, by omega⟩ ⟨rfl, rfl, rfl, rfl, rfl, trivial⟩ ⟨rfl, trivial⟩ (fun (i, e0) hi => ?_)
  obtain ⟨i1, i2, i3⟩ := hi
  refine dcase (fun h5 => ?_) (fun h5 => ?_)
  · rw [insOuter, if_pos (by omega)] at i1
    have hib : i < b := by omega
    have done : ∀ e : Array El, insInner (lt cm) a i e0 = e → e.size = d.size → insOuter (lt cm) a b (i + 1) e = insertionSort (lt cm) d a b ∧ e.size = d.size ∧ a + 1 ≤ i + 1 := fun e h1 h2 => ⟨by rw [← h1]; exact i1, h2, by omega⟩
    refine loopB T_ok T_mix (G := Nat × Array El) (fun (j, e) => insInner (lt cm) a j e = insInner (lt cm) a i e0 ∧ e.size = d.size ∧ j ≤ i) (fun (j, _) => [(0, .c (.ow 1000000 SZ d.size)), (1, .c (nI .i64 a)), (2, .c (nI .i64 b)), (0, .c (.ow 1000000 SZ d.size)), (6, .c (nI .i64 i)), (7, .c (nI .i64 j))]) (fun (_, e) => [(1000000, .row SZ (row e))]) (fun (j, _) => j)
      (i, e0) ⟨rfl, i2, by omega⟩ ⟨rfl, rfl, rfl, rfl, rfl, rfl, trivial⟩ ⟨rfl, trivial⟩ (fun (j, e) hj => ?_)
    obtain ⟨j1, j2, j3⟩ := hj
    refine dcase (fun h6 => ?_) (fun h6 => ?_)
    · refine And.intro (by omega) (And.intro (by omega) (X1 _ (row_get (n := j) rfl (by omega)) ?_))
      refine X1 ((j - 1 : Nat) : Int) (wI (by omega) (by omega) (by omega)) ?_
      refine And.intro (by omega) (And.intro (by omega) (X1 _ (row_get (n := j - 1) rfl (by omega)) ?_))
      refine X1 _ (hc _ _) ?_
      refine And.intro rfl ?_
      refine dcase (fun h7 => ?_) (fun h7 => ?_)
      · rw [insInner_c (by omega) h7] at j1
        refine X1 ((j - 1 : Nat) : Int) (wI (by omega) (by omega) (by omega)) ?_
        refine X1 ((j - 1 : Nat) : Int) (wI (by omega) (by omega) (by omega)) ?_
        refine And.intro (by omega) (And.intro (by omega) (X1 _ (row_get (d := e) (n := j - 1) rfl (by omega)) ?_))
        refine And.intro (by omega) (And.intro (by omega) (X1 _ (row_get (d := e) (n := j) rfl (by omega)) ?_))
        refine And.intro (by omega) (And.intro (by omega) (X1 _ (row_get (d := e) (n := j) rfl (by omega)) ?_))
        refine And.intro (by omega) (And.intro (by omega) (X1 _ (row_get2 (d := e) (y := e[j - 1]!) (m := j) (n := j - 1) rfl rfl (by omega)) ?_))
        refine And.intro rfl ?_
        refine X1 ((j - 1 : Nat) : Int) (wI (by omega) (by omega) (by omega)) ?_
        exact ⟨(j - 1, swp e j (j - 1)), ⟨j1, by rw [swp_size]; exact j2, by omega⟩, by show j - 1 < j; omega, ⟨rfl, rfl, rfl, rfl, rfl, rfl, trivial⟩, ⟨rowE (row_swp (m := j) (n := j - 1) rfl rfl), trivial⟩⟩
      · rw [insInner_b h7] at j1
        refine X1 ((i + 1 : Nat) : Int) (wI1 (by omega)) ?_
        exact ⟨(i + 1, e), done e j1.symm j2, by show b - (i + 1) < b - i; omega, ⟨rfl, rfl, rfl, rfl, rfl, trivial⟩, ⟨rfl, trivial⟩⟩
    · refine And.intro rfl ?_
      rw [insInner_a (by omega)] at j1
      refine X1 ((i + 1 : Nat) : Int) (wI1 (by omega)) ?_
      exact ⟨(i + 1, e), done e j1.symm j2, by show b - (i + 1) < b - i; omega, ⟨rfl, rfl, rfl, rfl, rfl, trivial⟩, ⟨rfl, trivial⟩⟩
  · rw [insOuter, if_neg (by omega)] at i1
    rw [← i1]
    exact ⟨trivial, SubO.of (l := [(1000000, .row _ _)]) ⟨rfl, trivial⟩, trivial⟩
omit hc
section
variable {cm : El → El → Int} {hi f r : Nat} {e : Array El}
theorem sift_end (h : ¬ 2 * r + 1 < hi) : siftDown (lt cm) hi f r e = e := by rw [siftDown, dif_pos (by omega)]
theorem sift_r (h : 2 * r + 2 < hi) (h2 : cm e[f + (2 * r + 1)]! e[f + (2 * r + 2)]! < 0) : siftDown (lt cm) hi f r e = if cm e[f + r]! e[f + (2 * r + 2)]! < 0 then siftDown (lt cm) hi f (2 * r + 2) (swp e (f + r) (f + (2 * r + 2))) else e := by
  rw [siftDown, dif_neg (by omega)]
  have e1 : f + (2 * r + 1) + 1 = f + (2 * r + 2) := by omega
  rw [e1, if_pos (by simp [lt, h2]; omega)]
  by_cases h3 : cm e[f + r]! e[f + (2 * r + 2)]! < 0
  · rw [if_pos h3, if_neg (by simp [lt, h3]), dif_pos h]
  · rw [if_neg h3, if_pos (by simp [lt]; omega)]
theorem sift_l (h : 2 * r + 1 < hi) (h2 : ¬ (2 * r + 2 < hi ∧ cm e[f + (2 * r + 1)]! e[f + (2 * r + 2)]! < 0)) : siftDown (lt cm) hi f r e = if cm e[f + r]! e[f + (2 * r + 1)]! < 0 then siftDown (lt cm) hi f (2 * r + 1) (swp e (f + r) (f + (2 * r + 1))) else e := by
  rw [siftDown, dif_neg (by omega)]
  have e1 : f + (2 * r + 1) + 1 = f + (2 * r + 2) := by omega
  rw [e1, if_neg (by simp [lt]; omega)]
  by_cases h3 : cm e[f + r]! e[f + (2 * r + 1)]! < 0
  · rw [if_pos h3, if_neg (by simp [lt, h3])]
  · rw [if_neg h3, if_pos (by simp [lt]; omega)]
end
include hc
theorem sift_ct (d : Array El) (lo hi f : Nat) (il ih : Int) (hil : il = lo) (hih : ih = hi) (hb : f + hi ≤ d.size) (hlo : lo ≤ 1000000) (hd : d.size ≤ 1000000) :
    CtO P 191 [dO d] [dA d, .c (eI .i64 il), .c (eI .i64 ih), .c (nI .i64 f)] [dO (siftDown (lt cm) hi f lo d)] [] := by
  subst hil hih
  refine Ct.io T_ok T_mix (N := 76) Tryz.func191 rfl rfl rfl rfl ?_
  refine loopB T_ok T_mix (G := Nat × Array El) (fun (r, e) => siftDown (lt cm) hi f r e = siftDown (lt cm) hi f lo d ∧ e.size = d.size ∧ r ≤ 1000000) (fun (r, _) => [(0, .c (.ow 1000000 SZ d.size)), (2, .c (nI .i64 hi)), (3, .c (nI .i64 f)), (0, .c (.ow 1000000 SZ d.size)), (8, .c (nI .i64 r))]) (fun (_, e) => [(1000000, .row SZ (row e))]) (fun (r, _) => hi - r)
    (lo, d) ⟨rfl, rfl, hlo⟩ ⟨rfl, rfl, rfl, rfl, rfl, trivial⟩ ⟨rfl, trivial⟩ (fun (r, e) hinv => ?_)
  obtain ⟨i1, i2, i3⟩ := hinv
  refine X1 ((2 * r : Nat) : Int) (wI (by simp) (by omega) (by omega)) ?_
  refine X1 ((2 * r + 1 : Nat) : Int) (wI (by simp) (by omega) (by omega)) ?_
  refine dcase (fun h5 => ?_) (fun h5 => ?_)
  · rw [sift_end (by omega)] at i1
    rw [← i1]
    exact ⟨trivial, SubO.of (l := [(1000000, .row _ _)]) ⟨rfl, trivial⟩, trivial⟩
  · refine X1 ((2 * r + 2 : Nat) : Int) (wI (by simp; omega) (by omega) (by omega)) ?_
    refine dcase (fun h6 => ?_) (fun h6 => ?_)
    · refine X1 ((f + (2 * r + 1) : Nat) : Int) (wI (by simp) (by omega) (by omega)) ?_
      refine And.intro (by omega) (And.intro (by omega) (X1 _ (row_get (n := f + (2 * r + 1)) rfl (by omega)) ?_))
      refine X1 ((f + (2 * r + 1) : Nat) : Int) (wI (by simp) (by omega) (by omega)) ?_
      refine X1 ((f + (2 * r + 2) : Nat) : Int) (wI (by omega) (by omega) (by omega)) ?_
      refine And.intro (by omega) (And.intro (by omega) (X1 _ (row_get (n := f + (2 * r + 2)) rfl (by omega)) ?_))
      refine X1 _ (hc _ _) ?_
      refine And.intro rfl ?_
      refine dcase (fun h7 => ?_) (fun h7 => ?_)
      · rw [sift_r (by omega) h7] at i1
        refine X1 ((2 * r + 2 : Nat) : Int) (wI (by simp; omega) (by omega) (by omega)) ?_
        refine X1 ((f + r : Nat) : Int) (wI (by simp) (by omega) (by omega)) ?_
        refine And.intro (by omega) (And.intro (by omega) (X1 _ (row_get (n := f + r) rfl (by omega)) ?_))
        refine X1 ((f + (2 * r + 2) : Nat) : Int) (wI (by simp) (by omega) (by omega)) ?_
        refine And.intro (by omega) (And.intro (by omega) (X1 _ (row_get (n := f + (2 * r + 2)) rfl (by omega)) ?_))
        refine X1 _ (hc _ _) ?_
        refine And.intro rfl ?_
        refine bcase (fun h9 => ?_) (fun h9 => ?_)
        · have h9' : ¬ cm e[f + r]! e[f + (2 * r + 2)]! < 0 := by simpa using h9
          rw [if_neg h9'] at i1
          rw [← i1]
          exact ⟨trivial, SubO.of (l := [(1000000, .row _ _)]) ⟨rfl, trivial⟩, trivial⟩
        · have h9' : cm e[f + r]! e[f + (2 * r + 2)]! < 0 := by simpa using h9
          rw [if_pos h9'] at i1
          refine X1 ((f + r : Nat) : Int) (wI (by simp) (by omega) (by omega)) ?_
          refine X1 ((f + (2 * r + 2) : Nat) : Int) (wI (by simp) (by omega) (by omega)) ?_
          refine X1 ((f + (2 * r + 2) : Nat) : Int) (wI (by simp) (by omega) (by omega)) ?_
          refine And.intro (by omega) (And.intro (by omega) (X1 _ (row_get (n := f + (2 * r + 2)) rfl (by omega)) ?_))
          refine X1 ((f + r : Nat) : Int) (wI (by simp) (by omega) (by omega)) ?_
          refine And.intro (by omega) (And.intro (by omega) (X1 _ (row_get (n := f + r) rfl (by omega)) ?_))
          refine And.intro (by omega) (And.intro (by omega) (X1 _ (row_get (n := f + r) rfl (by omega)) ?_))
          refine And.intro (by omega) (And.intro (by omega) (X1 _ (row_get2 (y := e[f + (2 * r + 2)]!) (m := f + r) (n := f + (2 * r + 2)) rfl rfl (by omega)) ?_))
          refine And.intro rfl ?_
          exact ⟨(2 * r + 2, swp e (f + r) (f + (2 * r + 2))), ⟨i1, by rw [swp_size]; exact i2, by omega⟩, by show hi - (2 * r + 2) < hi - r; omega, ⟨rfl, rfl, rfl, rfl, rfl, trivial⟩, ⟨rowE (row_swp (m := f + r) (n := f + (2 * r + 2)) rfl rfl), trivial⟩⟩
      · rw [sift_l (by omega) (fun h => h7 h.2)] at i1
        refine X1 ((f + r : Nat) : Int) (wI (by simp) (by omega) (by omega)) ?_
        refine And.intro (by omega) (And.intro (by omega) (X1 _ (row_get (n := f + r) rfl (by omega)) ?_))
        refine X1 ((f + (2 * r + 1) : Nat) : Int) (wI (by simp) (by omega) (by omega)) ?_
        refine And.intro (by omega) (And.intro (by omega) (X1 _ (row_get (n := f + (2 * r + 1)) rfl (by omega)) ?_))
        refine X1 _ (hc _ _) ?_
        refine And.intro rfl ?_
        refine bcase (fun h9 => ?_) (fun h9 => ?_)
        · have h9' : ¬ cm e[f + r]! e[f + (2 * r + 1)]! < 0 := by simpa using h9
          rw [if_neg h9'] at i1
          rw [← i1]
          exact ⟨trivial, SubO.of (l := [(1000000, .row _ _)]) ⟨rfl, trivial⟩, trivial⟩
        · have h9' : cm e[f + r]! e[f + (2 * r + 1)]! < 0 := by simpa using h9
          rw [if_pos h9'] at i1
          refine X1 ((f + r : Nat) : Int) (wI (by simp) (by omega) (by omega)) ?_
          refine X1 ((f + (2 * r + 1) : Nat) : Int) (wI (by simp) (by omega) (by omega)) ?_
          refine X1 ((f + (2 * r + 1) : Nat) : Int) (wI (by simp) (by omega) (by omega)) ?_
          refine And.intro (by omega) (And.intro (by omega) (X1 _ (row_get (n := f + (2 * r + 1)) rfl (by omega)) ?_))
          refine X1 ((f + r : Nat) : Int) (wI (by simp) (by omega) (by omega)) ?_
          refine And.intro (by omega) (And.intro (by omega) (X1 _ (row_get (n := f + r) rfl (by omega)) ?_))
          refine And.intro (by omega) (And.intro (by omega) (X1 _ (row_get (n := f + r) rfl (by omega)) ?_))
          refine And.intro (by omega) (And.intro (by omega) (X1 _ (row_get2 (y := e[f + (2 * r + 1)]!) (m := f + r) (n := f + (2 * r + 1)) rfl rfl (by omega)) ?_))
          refine And.intro rfl ?_
          exact ⟨(2 * r + 1, swp e (f + r) (f + (2 * r + 1))), ⟨i1, by rw [swp_size]; exact i2, by omega⟩, by show hi - (2 * r + 1) < hi - r; omega, ⟨rfl, rfl, rfl, rfl, rfl, trivial⟩, ⟨rowE (row_swp (m := f + r) (n := f + (2 * r + 1)) rfl rfl), trivial⟩⟩
    · refine And.intro rfl ?_
      rw [sift_l (by omega) (fun h => h6 (by omega))] at i1
      refine X1 ((f + r : Nat) : Int) (wI (by simp) (by omega) (by omega)) ?_
      refine And.intro (by omega) (And.intro (by omega) (X1 _ (row_get (n := f + r) rfl (by omega)) ?_))
      refine X1 ((f + (2 * r + 1) : Nat) : Int) (wI (by simp) (by omega) (by omega)) ?_
      refine And.intro (by omega) (And.intro (by omega) (X1 _ (row_get (n := f + (2 * r + 1)) rfl (by omega)) ?_))
      refine X1 _ (hc _ _) ?_
      refine And.intro rfl ?_
      refine bcase (fun h9 => ?_) (fun h9 => ?_)
      · have h9' : ¬ cm e[f + r]! e[f + (2 * r + 1)]! < 0 := by simpa using h9
        rw [if_neg h9'] at i1
        rw [← i1]
        exact ⟨trivial, SubO.of (l := [(1000000, .row _ _)]) ⟨rfl, trivial⟩, trivial⟩
      · have h9' : cm e[f + r]! e[f + (2 * r + 1)]! < 0 := by simpa using h9
        rw [if_pos h9'] at i1
        refine X1 ((f + r : Nat) : Int) (wI (by simp) (by omega) (by omega)) ?_
        refine X1 ((f + (2 * r + 1) : Nat) : Int) (wI (by simp) (by omega) (by omega)) ?_
        refine X1 ((f + (2 * r + 1) : Nat) : Int) (wI (by simp) (by omega) (by omega)) ?_
        refine And.intro (by omega) (And.intro (by omega) (X1 _ (row_get (n := f + (2 * r + 1)) rfl (by omega)) ?_))
        refine X1 ((f + r : Nat) : Int) (wI (by simp) (by omega) (by omega)) ?_
        refine And.intro (by omega) (And.intro (by omega) (X1 _ (row_get (n := f + r) rfl (by omega)) ?_))
        refine And.intro (by omega) (And.intro (by omega) (X1 _ (row_get (n := f + r) rfl (by omega)) ?_))
        refine And.intro (by omega) (And.intro (by omega) (X1 _ (row_get2 (y := e[f + (2 * r + 1)]!) (m := f + r) (n := f + (2 * r + 1)) rfl rfl (by omega)) ?_))
        refine And.intro rfl ?_
        exact ⟨(2 * r + 1, swp e (f + r) (f + (2 * r + 1))), ⟨i1, by rw [swp_size]; exact i2, by omega⟩, by show hi - (2 * r + 1) < hi - r; omega, ⟨rfl, rfl, rfl, rfl, rfl, trivial⟩, ⟨rowE (row_swp (m := f + r) (n := f + (2 * r + 1)) rfl rfl), trivial⟩⟩
omit hc in
theorem sift_size (hi f : Nat) : ∀ (n r : Nat) (e : Array El), hi - r ≤ n → (siftDown (lt cm) hi f r e).size = e.size := by
  intro n
  induction n with
  | zero => intro r e h; rw [sift_end (by omega)]
  | succ n ih =>
    intro r e h
    by_cases h1 : 2 * r + 1 < hi
    · by_cases h2 : 2 * r + 2 < hi ∧ cm e[f + (2 * r + 1)]! e[f + (2 * r + 2)]! < 0
      · rw [sift_r h2.1 h2.2]; split
        · rw [ih _ _ (by omega), swp_size]
        · rfl
      · rw [sift_l h1 h2]; split
        · rw [ih _ _ (by omega), swp_size]
        · rfl
    · rw [sift_end h1]
theorem heap_ct (d : Array El) (a b : Nat) (hab : a < b) (hb : b ≤ d.size) (hd : d.size ≤ 1000000) :
    CtO P 180 [dO d] [dA d, .c (nI .i64 a), .c (nI .i64 b)] [dO (heapSort (lt cm) d a b)] [] := by
  refine Ct.io T_ok T_mix (N := 56) Tryz.func180 rfl rfl rfl rfl ?_
  refine X1 ((b - a : Nat) : Int) (wI (by omega) (by omega) (by omega)) ?_
  refine X1 ((b - a - 1 : Nat) : Int) (wI (by omega) (by omega) (by omega)) ?_
  have q2 : ((b - a - 1 : Nat) : Int).tdiv 2 = (((b - a - 1) / 2 + 1 : Nat) : Int) - 1 := by
    rw [Int.tdiv_eq_ediv_of_nonneg (by omega)]; omega
  refine And.intro (by omega) (X1 _ q2 (And.intro ⟨by omega, by omega⟩ ?_))
  refine loopJ T_ok T_mix (G := Nat × Array El) (fun (k, e) => heapBuild (lt cm) (b - a) a k e = heapBuild (lt cm) (b - a) a ((b - a - 1) / 2 + 1) d ∧ e.size = d.size ∧ k ≤ 1000000) (fun (k, _) => [(0, .c (.ow 1000000 SZ d.size)), (0, .c (.ow 1000000 SZ d.size)), (6, .c (nI .i64 a)), (7, .c (eI .i64 0)), (8, .c (nI .i64 (b - a))), (9, .c (eI .i64 ((k : Int) - 1)))]) (fun (_, e) => [(1000000, .row SZ (row e))]) (fun (k, _) => k)
    ((b - a - 1) / 2 + 1, d) ⟨rfl, rfl, by omega⟩ ⟨rfl, rfl, rfl, rfl, rfl, rfl, trivial⟩ ⟨rfl, trivial⟩
    (G2 := Array El) (fun e => e = heapBuild (lt cm) (b - a) a ((b - a - 1) / 2 + 1) d ∧ e.size = d.size) (fun _ => [(0, .c (.ow 1000000 SZ d.size)), (0, .c (.ow 1000000 SZ d.size)), (6, .c (nI .i64 a)), (7, .c (eI .i64 0)), (8, .c (nI .i64 (b - a)))]) (fun e => [(1000000, .row SZ (row e))]) (fun (k, e) hi => ?_) (fun e0 he => ?_)
  · obtain ⟨i1, i2, i3⟩ := hi
    refine dcase (fun h5 => ?_) (fun h5 => ?_)
    · cases k with
      | zero => omega
      | succ k =>
        refine X2 (.upd 1000000) ?_
        have hs := sift_ct cm hc e k (b - a) a (((k + 1 : Nat) : Int) - 1) ((b - a : Nat) : Int) (by omega) rfl (by omega) (by omega) (by omega)
        rw [dA, i2] at hs
        refine ⟨_, _, hs, ?_⟩
        refine X1 ((k : Int) - 1) (wI (by omega) (by omega) (by omega)) ?_
        rw [heapBuild] at i1
        exact ⟨(k, siftDown (lt cm) (b - a) a k e), ⟨i1, by rw [sift_size cm (b - a) a _ k e (Nat.le_refl _)]; exact i2, by omega⟩, by show k < k + 1; omega, ⟨rfl, rfl, rfl, rfl, rfl, rfl, trivial⟩, ⟨rfl, trivial⟩⟩
    · have hk : k = 0 := by omega
      subst hk
      exact ⟨e, ⟨i1, i2⟩, ⟨rfl, rfl, rfl, rfl, rfl, trivial⟩, ⟨rfl, trivial⟩⟩
  · obtain ⟨e1, e2⟩ := he
    have hpop : heapSort (lt cm) d a b = heapPop (lt cm) a (b - a) e0 := by rw [e1]; rfl
    rw [hpop]
    refine X1 (((b - a : Nat) : Int) - 1) (wI (by omega) (by omega) (by omega)) ?_
    refine loopB T_ok T_mix (G := Nat × Array El) (fun (k, e) => heapPop (lt cm) a k e = heapPop (lt cm) a (b - a) e0 ∧ e.size = d.size ∧ k ≤ b - a) (fun (k, _) => [(0, .c (.ow 1000000 SZ d.size)), (0, .c (.ow 1000000 SZ d.size)), (6, .c (nI .i64 a)), (7, .c (eI .i64 0)), (10, .c (eI .i64 ((k : Int) - 1)))]) (fun (_, e) => [(1000000, .row SZ (row e))]) (fun (k, _) => k)
      (b - a, e0) ⟨rfl, e2, by omega⟩ ⟨rfl, rfl, rfl, rfl, rfl, trivial⟩ ⟨rfl, trivial⟩ (fun (k, e) hi => ?_)
    obtain ⟨i1, i2, i3⟩ := hi
    refine dcase (fun h5 => ?_) (fun h5 => ?_)
    · cases k with
      | zero => omega
      | succ k =>
        refine X1 ((a + k : Nat) : Int) (wI (by omega) (by omega) (by omega)) ?_
        refine X1 ((a + k : Nat) : Int) (wI (by omega) (by omega) (by omega)) ?_
        refine And.intro (by omega) (And.intro (by omega) (X1 _ (row_get (d := e) (n := a + k) rfl (by omega)) ?_))
        refine And.intro (by omega) (And.intro (by omega) (X1 _ (row_get (d := e) (n := a) rfl (by omega)) ?_))
        refine And.intro (by omega) (And.intro (by omega) (X1 _ (row_get (d := e) (n := a) rfl (by omega)) ?_))
        refine And.intro (by omega) (And.intro (by omega) (X1 _ (row_get2 (d := e) (y := e[a + k]!) (m := a) (n := a + k) rfl rfl (by omega)) ?_))
        refine And.intro rfl ?_
        have hs := sift_ct cm hc (swp e a (a + k)) 0 k a 0 (((k + 1 : Nat) : Int) - 1) rfl (by omega) (by rw [swp_size]; omega) (by omega) (by rw [swp_size]; omega)
        rw [dA, swp_size, i2, dO, ← row_swp (i := (a : Int)) (j := ((a + k : Nat) : Int)) rfl rfl] at hs
        refine X2 (.upd 1000000) ?_
        refine ⟨_, _, hs, ?_⟩
        refine X1 ((k : Int) - 1) (wI (by omega) (by omega) (by omega)) ?_
        rw [heapPop] at i1
        exact ⟨(k, siftDown (lt cm) k a 0 (swp e a (a + k))), ⟨i1, by rw [sift_size cm k a _ 0 _ (Nat.le_refl _), swp_size]; exact i2, by omega⟩, by show k < k + 1; omega, ⟨rfl, rfl, rfl, rfl, rfl, trivial⟩, ⟨rfl, trivial⟩⟩
    · have hk : k = 0 := by omega
      subst hk
      rw [← i1]
      exact ⟨trivial, SubO.of (l := [(1000000, .row _ _)]) ⟨rfl, trivial⟩, trivial⟩
end Go.Proofs.YtjpbijdpkdmeaaaGreat.Pv.SrtO
namespace Go.Proofs.YtjpbijdpkdmeaaaGreat.Pv.SrtO
open Go Go.Sort
variable (cm : El → El → Int)
def bst (a len m i0 : Nat) (d : Array El) : Nat → UInt64 × Array El
  | 0 => (UInt64.ofNat len, d)
  | t + 1 => breakStep a len m (bst a len m i0 d t) (i0 + t)
theorem bst_size (a len m i0 : Nat) (d : Array El) : ∀ t, (bst a len m i0 d t).2.size = d.size
  | 0 => rfl
  | t + 1 => by rw [bst, breakStep, swp_size]; exact bst_size a len m i0 d t
theorem break_ct (d : Array El) (a b : Nat) (hab : a + 8 ≤ b) (hb : b ≤ d.size) (hd : d.size ≤ 1000000) :
    CtO P 181 [dO d] [dA d, .c (nI .i64 a), .c (nI .i64 b)] [dO (breakPatterns d a b)] [] := by
  have hbits := bits_small (n := b - a) (by omega)
  have hm1 : 1 <<< bitsLen (b - a) = 2 ^ bitsLen (b - a) := Nat.one_shiftLeft _
  have hm2 : 2 ^ bitsLen (b - a) ≤ 2 * (b - a) := by
    rw [blen_bits]
    have h1 := le_blen (n := b - a) (by omega)
    have h2 : blen (b - a) ≠ 0 := fun h => by
      have := lt_blen (b - a); rw [h] at this; omega
    have h3 : 2 ^ blen (b - a) = 2 * 2 ^ (blen (b - a) - 1) := by
      rw [← Nat.pow_succ']; congr 1; omega
    omega
  have hm3 : 0 < 2 ^ bitsLen (b - a) := Nat.two_pow_pos _
  have hbp : breakPatterns d a b = (bst a (b - a) (1 <<< bitsLen (b - a)) (a + (b - a) / 4 * 2 - 1) d 3).2 := by
    simp only [breakPatterns, if_pos (show b - a ≥ 8 by omega)]; rfl
  have hms : ∀ m, m = 1 <<< bitsLen (b - a) → 0 < m ∧ m ≤ 2 * (b - a) := fun m hm => by rw [hm, hm1]; exact ⟨hm3, hm2⟩
  refine Ct.io T_ok T_mix (N := 65) Tryz.func181 rfl rfl rfl rfl ?_
  refine X1 ((b - a : Nat) : Int) (wI (by omega) (by omega) (by omega)) ?_
  refine dcase (fun h8 => ?_) (fun h8 => absurd (show ((b - a : Nat) : Int) ≥ 8 by omega) h8)
  have hlen : (UInt64.ofNat (b - a)).toNat = b - a := by rw [UInt64.toNat_ofNat']; omega
  refine X1 ((UInt64.ofNat (b - a)).toNat : Int) (by rw [hlen]; exact wU rfl (by omega) (by omega)) ?_
  refine X1 _ (pow2_ct (b - a) (by omega)) ?_
  rw [hbp]
  have hms' := hms _ rfl
  generalize 1 <<< bitsLen (b - a) = m at *
  have q4 : ((b - a : Nat) : Int).tdiv 4 = (((b - a) / 4 : Nat) : Int) := quo4 rfl
  refine And.intro (by omega) (X1 _ q4 (And.intro ⟨by omega, by omega⟩ ?_))
  refine X1 (((b - a) / 4 * 2 : Nat) : Int) (wI (by simp) (by omega) (by omega)) ?_
  refine X1 ((a + (b - a) / 4 * 2 : Nat) : Int) (wI (by simp) (by omega) (by omega)) ?_
  refine X1 ((a + (b - a) / 4 * 2 - 1 : Nat) : Int) (wI (by omega) (by omega) (by omega)) ?_
  refine loopB T_ok T_mix (G := Nat) (fun t => t ≤ 3) (fun t => [(0, .c (.ow 1000000 SZ d.size)), (1, .c (nI .i64 a)), (6, .c (nI .i64 (b - a))), (7, .c (.ad 7 0)), (8, .c (nI .u64 m)), (9, .c (nI .i64 (a + (b - a) / 4 * 2 - 1 + t)))]) (fun t => [(7, .var [nI .u64 (bst a (b - a) m (a + (b - a) / 4 * 2 - 1) d t).1.toNat]), (1000000, .row SZ (row (bst a (b - a) m (a + (b - a) / 4 * 2 - 1) d t).2))]) (fun t => 3 - t)
    0 (by omega) ⟨rfl, rfl, rfl, rfl, rfl, rfl, trivial⟩ ⟨rfl, rfl, trivial⟩ (fun t ht => ?_)
  have hs := bst_size a (b - a) m (a + (b - a) / 4 * 2 - 1) d t
  have hst : bst a (b - a) m (a + (b - a) / 4 * 2 - 1) d (t + 1) = breakStep a (b - a) m (bst a (b - a) m (a + (b - a) / 4 * 2 - 1) d t) (a + (b - a) / 4 * 2 - 1 + t) := rfl
  have hend : t = 3 → (bst a (b - a) m (a + (b - a) / 4 * 2 - 1) d t).2 = (bst a (b - a) m (a + (b - a) / 4 * 2 - 1) d 3).2 := fun h => by rw [h]
  generalize hst' : bst a (b - a) m (a + (b - a) / 4 * 2 - 1) d t = st at *
  obtain ⟨r, e⟩ := st
  simp only at hs
  refine And.intro (by omega) (X1 _ q4 (And.intro ⟨by omega, by omega⟩ ?_))
  refine X1 (((b - a) / 4 * 2 : Nat) : Int) (wI (by simp) (by omega) (by omega)) ?_
  refine X1 ((a + (b - a) / 4 * 2 : Nat) : Int) (wI (by simp) (by omega) (by omega)) ?_
  refine X1 ((a + (b - a) / 4 * 2 + 1 : Nat) : Int) (wI (by simp) (by omega) (by omega)) ?_
  refine dcase (fun h5 => ?_) (fun h5 => ?_)
  · refine X2 (.upd 7) ?_
    refine ⟨_, _, next_ct r, ?_⟩
    refine X1 ((m - 1 : Nat) : Int) (wU (by omega) (by omega) (by omega)) ?_
    refine X1 _ (andU (xorNext r) (n := m - 1) (by omega)) ?_
    have hle : (xorNext r).toNat &&& (m - 1) ≤ m - 1 := Nat.and_le_right
    rw [breakStep] at hst
    simp only at hst
    generalize (xorNext r).toNat &&& (m - 1) = o at *
    refine X1 ((o : Nat) : Int) (wI rfl (by omega) (by omega)) ?_
    refine dcase (fun h6 => ?_) (fun h6 => ?_)
    · rw [if_pos (by omega)] at hst
      refine X1 ((o - (b - a) : Nat) : Int) (wI (by omega) (by omega) (by omega)) ?_
      refine X1 ((a + (o - (b - a)) : Nat) : Int) (wI (by omega) (by omega) (by omega)) ?_
      refine X1 ((a + (o - (b - a)) : Nat) : Int) (wI (by omega) (by omega) (by omega)) ?_
      refine And.intro (by omega) (And.intro (by omega) (X1 _ (row_get (d := e) (n := a + (o - (b - a))) rfl (by omega)) ?_))
      refine And.intro (by omega) (And.intro (by omega) (X1 _ (row_get (d := e) (n := a + (b - a) / 4 * 2 - 1 + t) rfl (by omega)) ?_))
      refine And.intro (by omega) (And.intro (by omega) (X1 _ (row_get (d := e) (n := a + (b - a) / 4 * 2 - 1 + t) rfl (by omega)) ?_))
      refine And.intro (by omega) (And.intro (by omega) (X1 _ (row_get2 (d := e) (y := e[a + (o - (b - a))]!) (m := a + (b - a) / 4 * 2 - 1 + t) (n := a + (o - (b - a))) rfl rfl (by omega)) ?_))
      refine And.intro rfl ?_
      refine X1 ((a + (b - a) / 4 * 2 - 1 + (t + 1) : Nat) : Int) (wI (by omega) (by omega) (by omega)) ?_
      exact ⟨t + 1, by omega, by show 3 - (t + 1) < 3 - t; omega, ⟨rfl, rfl, rfl, rfl, rfl, rfl, trivial⟩, ⟨by rw [hst]; rfl, rowE (by rw [hst]; exact row_swp (m := a + (b - a) / 4 * 2 - 1 + t) (n := a + (o - (b - a))) rfl rfl), trivial⟩⟩
    · rw [if_neg (by omega)] at hst
      refine X1 ((a + o : Nat) : Int) (wI (by omega) (by omega) (by omega)) ?_
      refine X1 ((a + o : Nat) : Int) (wI (by omega) (by omega) (by omega)) ?_
      refine And.intro (by omega) (And.intro (by omega) (X1 _ (row_get (d := e) (n := a + o) rfl (by omega)) ?_))
      refine And.intro (by omega) (And.intro (by omega) (X1 _ (row_get (d := e) (n := a + (b - a) / 4 * 2 - 1 + t) rfl (by omega)) ?_))
      refine And.intro (by omega) (And.intro (by omega) (X1 _ (row_get (d := e) (n := a + (b - a) / 4 * 2 - 1 + t) rfl (by omega)) ?_))
      refine And.intro (by omega) (And.intro (by omega) (X1 _ (row_get2 (d := e) (y := e[a + o]!) (m := a + (b - a) / 4 * 2 - 1 + t) (n := a + o) rfl rfl (by omega)) ?_))
      refine And.intro rfl ?_
      refine X1 ((a + (b - a) / 4 * 2 - 1 + (t + 1) : Nat) : Int) (wI (by omega) (by omega) (by omega)) ?_
      exact ⟨t + 1, by omega, by show 3 - (t + 1) < 3 - t; omega, ⟨rfl, rfl, rfl, rfl, rfl, rfl, trivial⟩, ⟨by rw [hst]; rfl, rowE (by rw [hst]; exact row_swp (m := a + (b - a) / 4 * 2 - 1 + t) (n := a + o) rfl rfl), trivial⟩⟩
  · rw [← hend (by omega)]
    exact ⟨trivial, SubO.of (l := [(1000000, .row _ _)]) ⟨rfl, trivial⟩, trivial⟩
section
variable {cm : El → El → Int} {a b i j : Nat} {e : Array El}
theorem scanS_a (h : ¬ i < b) : scanSorted (lt cm) e b i = i := by rw [scanSorted, if_neg (by simp; omega)]
theorem scanS_b (h : cm e[i]! e[i - 1]! < 0) : scanSorted (lt cm) e b i = i := by rw [scanSorted, if_neg (by simp [lt, h])]
theorem scanS_c (h : i < b) (h2 : ¬ cm e[i]! e[i - 1]! < 0) : scanSorted (lt cm) e b i = scanSorted (lt cm) e b (i + 1) := by rw [scanSorted, if_pos (by simp [lt]; omega)]
theorem shD_a (h : j < 1) : shiftDown (lt cm) j e = e := by
  have : j = 0 := by omega
  subst this; rfl
theorem shD_b (h : ¬ cm e[j]! e[j - 1]! < 0) : shiftDown (lt cm) j e = e := by
  cases j with
  | zero => rfl
  | succ j => simp only [Nat.add_sub_cancel] at h; rw [shiftDown, if_pos (by simp [lt]; omega)]
theorem shD_c (h0 : 1 ≤ j) (h : cm e[j]! e[j - 1]! < 0) : shiftDown (lt cm) j e = shiftDown (lt cm) (j - 1) (swp e j (j - 1)) := by
  cases j with
  | zero => omega
  | succ j => simp only [Nat.add_sub_cancel] at h ⊢; rw [shiftDown, if_neg (by simp [lt, h])]
theorem shU_a (h : ¬ j < b) : shiftUp (lt cm) b j e = e := by rw [shiftUp, if_neg h]
theorem shU_b (h0 : j < b) (h : ¬ cm e[j]! e[j - 1]! < 0) : shiftUp (lt cm) b j e = e := by rw [shiftUp, if_pos h0, if_pos (by simp [lt]; omega)]
theorem shU_c (h0 : j < b) (h : cm e[j]! e[j - 1]! < 0) : shiftUp (lt cm) b j e = shiftUp (lt cm) b (j + 1) (swp e j (j - 1)) := by rw [shiftUp, if_pos h0, if_neg (by simp [lt, h])]
end
variable (hc : ∀ x y, Ct P 185 [VL x, VL y] [.c (.sc (.bool (decide (cm x y < 0))))])
include hc
theorem pIns_ct (d : Array El) (a b : Nat) (hab : a < b) (hb : b ≤ d.size) (hd : d.size ≤ 1000000) :
    CtO P 184 [dO d] [dA d, .c (nI .i64 a), .c (nI .i64 b)] [dO (partialInsertionSort (lt cm) d a b).1] [.c (.sc (.bool (partialInsertionSort (lt cm) d a b).2))] := by
  have key : ∀ F : Array El × Bool, partialIns (lt cm) a b 5 (a + 1) d = F → CtO P 184 [dO d] [dA d, .c (nI .i64 a), .c (nI .i64 b)] [dO F.1] [.c (.sc (.bool F.2))] := by
    intro F hF
    refine Ct.io T_ok T_mix (N := 133) Tryz.func184 rfl rfl rfl rfl ?_
    refine X1 ((a + 1 : Nat) : Int) (wI (by simp) (by omega) (by omega)) ?_
    refine loopJ T_ok T_mix (G := Nat × Nat × Array El) (fun (s, i, e) => s ≤ 5 ∧ partialIns (lt cm) a b (5 - s) i e = F ∧ e.size = d.size ∧ a + 1 ≤ i ∧ i ≤ b) (fun (s, i, _) => [(0, .c (.ow 1000000 SZ d.size)), (1, .c (nI .i64 a)), (2, .c (nI .i64 b)), (0, .c (.ow 1000000 SZ d.size)), (7, .c (nI .i64 i)), (8, .c (nI .i64 s))]) (fun (_, _, e) => [(1000000, .row SZ (row e))]) (fun (s, _, _) => 5 - s)
      (0, a + 1, d) ⟨by omega, hF, rfl, by omega, by omega⟩ ⟨rfl, rfl, rfl, rfl, rfl, rfl, trivial⟩ ⟨rfl, trivial⟩ (G2 := Array El) (fun e => F = (e, false)) (fun _ => []) (fun e => [(1000000, .row SZ (row e))]) (fun (s, i, e0) hi => ?_) (fun e he => ?_)
    · obtain ⟨i1, i2, i3, i4, i5⟩ := hi
      refine dcase (fun h5 => ?_) (fun h5 => ?_)
      · rw [show 5 - s = (4 - s) + 1 by omega, partialIns] at i2
        refine loopJ T_ok T_mix (G := Nat) (fun j => scanSorted (lt cm) e0 b j = scanSorted (lt cm) e0 b i ∧ i ≤ j ∧ j ≤ b) (fun j => [(0, .c (.ow 1000000 SZ d.size)), (1, .c (nI .i64 a)), (2, .c (nI .i64 b)), (0, .c (.ow 1000000 SZ d.size)), (7, .c (nI .i64 j)), (8, .c (nI .i64 s))]) (fun _ => [(1000000, .row SZ (row e0))]) (fun j => b - j)
          i ⟨rfl, by omega, by omega⟩ ⟨rfl, rfl, rfl, rfl, rfl, rfl, trivial⟩ ⟨rfl, trivial⟩ (G2 := Nat) (fun j => scanSorted (lt cm) e0 b i = j ∧ i ≤ j ∧ j ≤ b) (fun j => [(0, .c (.ow 1000000 SZ d.size)), (1, .c (nI .i64 a)), (2, .c (nI .i64 b)), (0, .c (.ow 1000000 SZ d.size)), (7, .c (nI .i64 j)), (8, .c (nI .i64 s))]) (fun _ => [(1000000, .row SZ (row e0))]) (fun j hj => ?_) (fun k hk => ?_)
        · obtain ⟨j1, j2, j3⟩ := hj
          refine dcase (fun h6 => ?_) (fun h6 => ?_)
          · refine And.intro (by omega) (And.intro (by omega) (X1 _ (row_get (n := j) rfl (by omega)) ?_))
            refine X1 ((j - 1 : Nat) : Int) (wI (by omega) (by omega) (by omega)) ?_
            refine And.intro (by omega) (And.intro (by omega) (X1 _ (row_get (n := j - 1) rfl (by omega)) ?_))
            refine X1 _ (hc _ _) ?_
            refine And.intro rfl ?_
            refine bcase (fun h7 => ?_) (fun h7 => ?_)
            · have h7' : ¬ cm e0[j]! e0[j - 1]! < 0 := by simpa using h7
              rw [scanS_c (by omega) h7'] at j1
              refine X1 ((j + 1 : Nat) : Int) (wI (by simp) (by omega) (by omega)) ?_
              exact ⟨j + 1, ⟨j1, by omega, by omega⟩, by omega, ⟨rfl, rfl, rfl, rfl, rfl, rfl, trivial⟩, ⟨rfl, trivial⟩⟩
            · have h7' : cm e0[j]! e0[j - 1]! < 0 := by simpa using h7
              rw [scanS_b h7'] at j1
              exact ⟨j, ⟨j1.symm, j2, j3⟩, ⟨rfl, rfl, rfl, rfl, rfl, rfl, trivial⟩, ⟨rfl, trivial⟩⟩
          · refine And.intro rfl ?_
            rw [scanS_a (by omega)] at j1
            exact ⟨j, ⟨j1.symm, j2, j3⟩, ⟨rfl, rfl, rfl, rfl, rfl, rfl, trivial⟩, ⟨rfl, trivial⟩⟩
        · obtain ⟨k1, k2, k3⟩ := hk
          simp only [k1] at i2
          refine ecase (fun h6 => ?_) (fun h6 => ?_)
          · rw [if_pos (by omega)] at i2
            rw [← i2]
            exact ⟨trivial, SubO.of (l := [(1000000, .row _ _)]) ⟨rfl, trivial⟩, r1 rfl, trivial⟩
          · rw [if_neg (by omega)] at i2
            refine X1 ((b - a : Nat) : Int) (wI (by omega) (by omega) (by omega)) ?_
            refine dcase (fun h7 => ?_) (fun h7 => ?_)
            · rw [if_pos (by omega)] at i2
              rw [← i2]
              exact ⟨trivial, SubO.of (l := [(1000000, .row _ _)]) ⟨rfl, trivial⟩, r1 rfl, trivial⟩
            · rw [if_neg (by omega)] at i2
              refine X1 ((k - 1 : Nat) : Int) (wI (by omega) (by omega) (by omega)) ?_
              refine X1 ((k - 1 : Nat) : Int) (wI (by omega) (by omega) (by omega)) ?_
              refine And.intro (by omega) (And.intro (by omega) (X1 _ (row_get (d := e0) (n := k - 1) rfl (by omega)) ?_))
              refine And.intro (by omega) (And.intro (by omega) (X1 _ (row_get (d := e0) (n := k) rfl (by omega)) ?_))
              refine And.intro (by omega) (And.intro (by omega) (X1 _ (row_get (d := e0) (n := k) rfl (by omega)) ?_))
              refine And.intro (by omega) (And.intro (by omega) (X1 _ (row_get2 (d := e0) (y := e0[k - 1]!) (m := k) (n := k - 1) rfl rfl (by omega)) ?_))
              refine And.intro rfl ?_
              have hrow := row_swp (d := e0) (i := (k : Int)) (j := ((k - 1 : Nat) : Int)) (m := k) (n := k - 1) rfl rfl
              have hsz : (swp e0 k (k - 1)).size = d.size := by rw [swp_size]; exact i3
              generalize swp e0 k (k - 1) = e1 at *
              refine X1 ((k - a : Nat) : Int) (wI (by omega) (by omega) (by omega)) ?_
              refine dcase (fun h8 => ?_) (fun h8 => ?_)
              · rw [if_pos (show k - a ≥ 2 by omega)] at i2
                refine X1 ((k - 1 : Nat) : Int) (wI (by omega) (by omega) (by omega)) ?_
                refine loopB T_ok T_mix (G := Nat × Array El) (fun (j, e) => shiftDown (lt cm) j e = shiftDown (lt cm) (k - 1) e1 ∧ e.size = d.size ∧ j ≤ k - 1) (fun (j, _) => [(0, .c (.ow 1000000 SZ d.size)), (1, .c (nI .i64 a)), (2, .c (nI .i64 b)), (0, .c (.ow 1000000 SZ d.size)), (7, .c (nI .i64 k)), (8, .c (nI .i64 s)), (9, .c (nI .i64 j))]) (fun (_, e) => [(1000000, .row SZ (row e))]) (fun (j, _) => j)
                  (k - 1, e1) ⟨rfl, hsz, by omega⟩ ⟨rfl, rfl, rfl, rfl, rfl, rfl, rfl, trivial⟩ ⟨rowE hrow, trivial⟩ (fun (j, e) hj => ?_)
                obtain ⟨j1, j2, j3⟩ := hj
                refine dcase (fun h9 => ?_) (fun h9 => ?_)
                · refine And.intro (by omega) (And.intro (by omega) (X1 _ (row_get (n := j) rfl (by omega)) ?_))
                  refine X1 ((j - 1 : Nat) : Int) (wI (by omega) (by omega) (by omega)) ?_
                  refine And.intro (by omega) (And.intro (by omega) (X1 _ (row_get (n := j - 1) rfl (by omega)) ?_))
                  refine X1 _ (hc _ _) ?_
                  refine And.intro rfl ?_
                  refine bcase (fun ha => ?_) (fun ha => ?_)
                  · have ha' : ¬ cm e[j]! e[j - 1]! < 0 := by simpa using ha
                    rw [shD_b ha'] at j1
                    rw [← j1] at i2
                    refine X1 ((b - k : Nat) : Int) (wI (by omega) (by omega) (by omega)) ?_
                    refine dcase (fun hb8 => ?_) (fun hb8 => ?_)
                    · rw [if_pos (show b - k ≥ 2 by omega)] at i2
                      refine X1 ((k + 1 : Nat) : Int) (wI (by simp) (by omega) (by omega)) ?_
                      refine loopB T_ok T_mix (G := Nat × Array El) (fun (j, e') => shiftUp (lt cm) b j e' = shiftUp (lt cm) b (k + 1) e ∧ e'.size = d.size ∧ k + 1 ≤ j ∧ j ≤ b) (fun (j, _) => [(0, .c (.ow 1000000 SZ d.size)), (1, .c (nI .i64 a)), (2, .c (nI .i64 b)), (0, .c (.ow 1000000 SZ d.size)), (7, .c (nI .i64 k)), (8, .c (nI .i64 s)), (10, .c (nI .i64 j))]) (fun (_, e') => [(1000000, .row SZ (row e'))]) (fun (j, _) => b - j)
                        (k + 1, e) ⟨rfl, j2, by omega, by omega⟩ ⟨rfl, rfl, rfl, rfl, rfl, rfl, rfl, trivial⟩ ⟨rfl, trivial⟩ (fun (q, e') hq => ?_)
                      obtain ⟨q1, q2, q3, q4⟩ := hq
                      have fin : ∀ e2 : Array El, shiftUp (lt cm) b (k + 1) e = e2 → e2.size = d.size → s + 1 ≤ 5 ∧ partialIns (lt cm) a b (5 - (s + 1)) k e2 = F ∧ e2.size = d.size ∧ a + 1 ≤ k ∧ k ≤ b := fun e2 g1 g2 => ⟨by omega, by rw [← g1, show 5 - (s + 1) = 4 - s by omega]; exact i2, g2, by omega, by omega⟩
                      refine dcase (fun hb9 => ?_) (fun hb9 => ?_)
                      · refine And.intro (by omega) (And.intro (by omega) (X1 _ (row_get (n := q) rfl (by omega)) ?_))
                        refine X1 ((q - 1 : Nat) : Int) (wI (by omega) (by omega) (by omega)) ?_
                        refine And.intro (by omega) (And.intro (by omega) (X1 _ (row_get (n := q - 1) rfl (by omega)) ?_))
                        refine X1 _ (hc _ _) ?_
                        refine And.intro rfl ?_
                        refine bcase (fun hba => ?_) (fun hba => ?_)
                        · have hba' : ¬ cm e'[q]! e'[q - 1]! < 0 := by simpa using hba
                          rw [shU_b (by omega) hba'] at q1
                          refine X1 ((s + 1 : Nat) : Int) (wI (by simp) (by omega) (by omega)) ?_
                          exact ⟨(s + 1, k, e'), fin e' q1.symm q2, by show 5 - (s + 1) < 5 - s; omega, ⟨rfl, rfl, rfl, rfl, rfl, rfl, trivial⟩, ⟨rfl, trivial⟩⟩
                        · have hba' : cm e'[q]! e'[q - 1]! < 0 := by simpa using hba
                          rw [shU_c (by omega) hba'] at q1
                          refine X1 ((q - 1 : Nat) : Int) (wI (by omega) (by omega) (by omega)) ?_
                          refine X1 ((q - 1 : Nat) : Int) (wI (by omega) (by omega) (by omega)) ?_
                          refine And.intro (by omega) (And.intro (by omega) (X1 _ (row_get (d := e') (n := q - 1) rfl (by omega)) ?_))
                          refine And.intro (by omega) (And.intro (by omega) (X1 _ (row_get (d := e') (n := q) rfl (by omega)) ?_))
                          refine And.intro (by omega) (And.intro (by omega) (X1 _ (row_get (d := e') (n := q) rfl (by omega)) ?_))
                          refine And.intro (by omega) (And.intro (by omega) (X1 _ (row_get2 (d := e') (y := e'[q - 1]!) (m := q) (n := q - 1) rfl rfl (by omega)) ?_))
                          refine And.intro rfl ?_
                          refine X1 ((q + 1 : Nat) : Int) (wI (by simp) (by omega) (by omega)) ?_
                          exact ⟨(q + 1, swp e' q (q - 1)), ⟨q1, by rw [swp_size]; exact q2, by omega, by omega⟩, by show b - (q + 1) < b - q; omega, ⟨rfl, rfl, rfl, rfl, rfl, rfl, rfl, trivial⟩, ⟨rowE (row_swp (m := q) (n := q - 1) rfl rfl), trivial⟩⟩
                      · rw [shU_a (by omega)] at q1
                        refine X1 ((s + 1 : Nat) : Int) (wI (by simp) (by omega) (by omega)) ?_
                        exact ⟨(s + 1, k, e'), fin e' q1.symm q2, by show 5 - (s + 1) < 5 - s; omega, ⟨rfl, rfl, rfl, rfl, rfl, rfl, trivial⟩, ⟨rfl, trivial⟩⟩
                    · rw [if_neg (show ¬ b - k ≥ 2 by omega)] at i2
                      refine X1 ((s + 1 : Nat) : Int) (wI (by simp) (by omega) (by omega)) ?_
                      exact ⟨(s + 1, k, e), ⟨by omega, by rw [show 5 - (s + 1) = 4 - s by omega]; exact i2, j2, by omega, by omega⟩, by show 5 - (s + 1) < 5 - s; omega, ⟨rfl, rfl, rfl, rfl, rfl, rfl, trivial⟩, ⟨rfl, trivial⟩⟩
                  · have ha' : cm e[j]! e[j - 1]! < 0 := by simpa using ha
                    rw [shD_c (by omega) ha'] at j1
                    refine X1 ((j - 1 : Nat) : Int) (wI (by omega) (by omega) (by omega)) ?_
                    refine X1 ((j - 1 : Nat) : Int) (wI (by omega) (by omega) (by omega)) ?_
                    refine And.intro (by omega) (And.intro (by omega) (X1 _ (row_get (d := e) (n := j - 1) rfl (by omega)) ?_))
                    refine And.intro (by omega) (And.intro (by omega) (X1 _ (row_get (d := e) (n := j) rfl (by omega)) ?_))
                    refine And.intro (by omega) (And.intro (by omega) (X1 _ (row_get (d := e) (n := j) rfl (by omega)) ?_))
                    refine And.intro (by omega) (And.intro (by omega) (X1 _ (row_get2 (d := e) (y := e[j - 1]!) (m := j) (n := j - 1) rfl rfl (by omega)) ?_))
                    refine And.intro rfl ?_
                    refine X1 ((j - 1 : Nat) : Int) (wI (by omega) (by omega) (by omega)) ?_
                    exact ⟨(j - 1, swp e j (j - 1)), ⟨j1, by rw [swp_size]; exact j2, by omega⟩, by show j - 1 < j; omega, ⟨rfl, rfl, rfl, rfl, rfl, rfl, rfl, trivial⟩, ⟨rowE (row_swp (m := j) (n := j - 1) rfl rfl), trivial⟩⟩
                · rw [shD_a (by omega)] at j1
                  rw [← j1] at i2
                  refine X1 ((b - k : Nat) : Int) (wI (by omega) (by omega) (by omega)) ?_
                  refine dcase (fun hb8 => ?_) (fun hb8 => ?_)
                  · rw [if_pos (show b - k ≥ 2 by omega)] at i2
                    refine X1 ((k + 1 : Nat) : Int) (wI (by simp) (by omega) (by omega)) ?_
                    refine loopB T_ok T_mix (G := Nat × Array El) (fun (j, e') => shiftUp (lt cm) b j e' = shiftUp (lt cm) b (k + 1) e ∧ e'.size = d.size ∧ k + 1 ≤ j ∧ j ≤ b) (fun (j, _) => [(0, .c (.ow 1000000 SZ d.size)), (1, .c (nI .i64 a)), (2, .c (nI .i64 b)), (0, .c (.ow 1000000 SZ d.size)), (7, .c (nI .i64 k)), (8, .c (nI .i64 s)), (10, .c (nI .i64 j))]) (fun (_, e') => [(1000000, .row SZ (row e'))]) (fun (j, _) => b - j)
                      (k + 1, e) ⟨rfl, j2, by omega, by omega⟩ ⟨rfl, rfl, rfl, rfl, rfl, rfl, rfl, trivial⟩ ⟨rfl, trivial⟩ (fun (q, e') hq => ?_)
                    obtain ⟨q1, q2, q3, q4⟩ := hq
                    have fin : ∀ e2 : Array El, shiftUp (lt cm) b (k + 1) e = e2 → e2.size = d.size → s + 1 ≤ 5 ∧ partialIns (lt cm) a b (5 - (s + 1)) k e2 = F ∧ e2.size = d.size ∧ a + 1 ≤ k ∧ k ≤ b := fun e2 g1 g2 => ⟨by omega, by rw [← g1, show 5 - (s + 1) = 4 - s by omega]; exact i2, g2, by omega, by omega⟩
                    refine dcase (fun hb9 => ?_) (fun hb9 => ?_)
                    · refine And.intro (by omega) (And.intro (by omega) (X1 _ (row_get (n := q) rfl (by omega)) ?_))
                      refine X1 ((q - 1 : Nat) : Int) (wI (by omega) (by omega) (by omega)) ?_
                      refine And.intro (by omega) (And.intro (by omega) (X1 _ (row_get (n := q - 1) rfl (by omega)) ?_))
                      refine X1 _ (hc _ _) ?_
                      refine And.intro rfl ?_
                      refine bcase (fun hba => ?_) (fun hba => ?_)
                      · have hba' : ¬ cm e'[q]! e'[q - 1]! < 0 := by simpa using hba
                        rw [shU_b (by omega) hba'] at q1
                        refine X1 ((s + 1 : Nat) : Int) (wI (by simp) (by omega) (by omega)) ?_
                        exact ⟨(s + 1, k, e'), fin e' q1.symm q2, by show 5 - (s + 1) < 5 - s; omega, ⟨rfl, rfl, rfl, rfl, rfl, rfl, trivial⟩, ⟨rfl, trivial⟩⟩
                      · have hba' : cm e'[q]! e'[q - 1]! < 0 := by simpa using hba
                        rw [shU_c (by omega) hba'] at q1
                        refine X1 ((q - 1 : Nat) : Int) (wI (by omega) (by omega) (by omega)) ?_
                        refine X1 ((q - 1 : Nat) : Int) (wI (by omega) (by omega) (by omega)) ?_
                        refine And.intro (by omega) (And.intro (by omega) (X1 _ (row_get (d := e') (n := q - 1) rfl (by omega)) ?_))
                        refine And.intro (by omega) (And.intro (by omega) (X1 _ (row_get (d := e') (n := q) rfl (by omega)) ?_))
                        refine And.intro (by omega) (And.intro (by omega) (X1 _ (row_get (d := e') (n := q) rfl (by omega)) ?_))
                        refine And.intro (by omega) (And.intro (by omega) (X1 _ (row_get2 (d := e') (y := e'[q - 1]!) (m := q) (n := q - 1) rfl rfl (by omega)) ?_))
                        refine And.intro rfl ?_
                        refine X1 ((q + 1 : Nat) : Int) (wI (by simp) (by omega) (by omega)) ?_
                        exact ⟨(q + 1, swp e' q (q - 1)), ⟨q1, by rw [swp_size]; exact q2, by omega, by omega⟩, by show b - (q + 1) < b - q; omega, ⟨rfl, rfl, rfl, rfl, rfl, rfl, rfl, trivial⟩, ⟨rowE (row_swp (m := q) (n := q - 1) rfl rfl), trivial⟩⟩
                    · rw [shU_a (by omega)] at q1
                      refine X1 ((s + 1 : Nat) : Int) (wI (by simp) (by omega) (by omega)) ?_
                      exact ⟨(s + 1, k, e'), fin e' q1.symm q2, by show 5 - (s + 1) < 5 - s; omega, ⟨rfl, rfl, rfl, rfl, rfl, rfl, trivial⟩, ⟨rfl, trivial⟩⟩
                  · rw [if_neg (show ¬ b - k ≥ 2 by omega)] at i2
                    refine X1 ((s + 1 : Nat) : Int) (wI (by simp) (by omega) (by omega)) ?_
                    exact ⟨(s + 1, k, e), ⟨by omega, by rw [show 5 - (s + 1) = 4 - s by omega]; exact i2, j2, by omega, by omega⟩, by show 5 - (s + 1) < 5 - s; omega, ⟨rfl, rfl, rfl, rfl, rfl, rfl, trivial⟩, ⟨rfl, trivial⟩⟩
              · rw [if_neg (show ¬ k - a ≥ 2 by omega)] at i2
                refine X1 ((b - k : Nat) : Int) (wI (by omega) (by omega) (by omega)) ?_
                refine dcase (fun hb8 => ?_) (fun hb8 => ?_)
                · rw [if_pos (show b - k ≥ 2 by omega)] at i2
                  refine X1 ((k + 1 : Nat) : Int) (wI (by simp) (by omega) (by omega)) ?_
                  refine loopB T_ok T_mix (G := Nat × Array El) (fun (j, e') => shiftUp (lt cm) b j e' = shiftUp (lt cm) b (k + 1) e1 ∧ e'.size = d.size ∧ k + 1 ≤ j ∧ j ≤ b) (fun (j, _) => [(0, .c (.ow 1000000 SZ d.size)), (1, .c (nI .i64 a)), (2, .c (nI .i64 b)), (0, .c (.ow 1000000 SZ d.size)), (7, .c (nI .i64 k)), (8, .c (nI .i64 s)), (10, .c (nI .i64 j))]) (fun (_, e') => [(1000000, .row SZ (row e'))]) (fun (j, _) => b - j)
                    (k + 1, e1) ⟨rfl, hsz, by omega, by omega⟩ ⟨rfl, rfl, rfl, rfl, rfl, rfl, rfl, trivial⟩ ⟨rowE hrow, trivial⟩ (fun (q, e') hq => ?_)
                  obtain ⟨q1, q2, q3, q4⟩ := hq
                  have fin : ∀ e2 : Array El, shiftUp (lt cm) b (k + 1) e1 = e2 → e2.size = d.size → s + 1 ≤ 5 ∧ partialIns (lt cm) a b (5 - (s + 1)) k e2 = F ∧ e2.size = d.size ∧ a + 1 ≤ k ∧ k ≤ b := fun e2 g1 g2 => ⟨by omega, by rw [← g1, show 5 - (s + 1) = 4 - s by omega]; exact i2, g2, by omega, by omega⟩
                  refine dcase (fun hb9 => ?_) (fun hb9 => ?_)
                  · refine And.intro (by omega) (And.intro (by omega) (X1 _ (row_get (n := q) rfl (by omega)) ?_))
                    refine X1 ((q - 1 : Nat) : Int) (wI (by omega) (by omega) (by omega)) ?_
                    refine And.intro (by omega) (And.intro (by omega) (X1 _ (row_get (n := q - 1) rfl (by omega)) ?_))
                    refine X1 _ (hc _ _) ?_
                    refine And.intro rfl ?_
                    refine bcase (fun hba => ?_) (fun hba => ?_)
                    · have hba' : ¬ cm e'[q]! e'[q - 1]! < 0 := by simpa using hba
                      rw [shU_b (by omega) hba'] at q1
                      refine X1 ((s + 1 : Nat) : Int) (wI (by simp) (by omega) (by omega)) ?_
                      exact ⟨(s + 1, k, e'), fin e' q1.symm q2, by show 5 - (s + 1) < 5 - s; omega, ⟨rfl, rfl, rfl, rfl, rfl, rfl, trivial⟩, ⟨rfl, trivial⟩⟩
                    · have hba' : cm e'[q]! e'[q - 1]! < 0 := by simpa using hba
                      rw [shU_c (by omega) hba'] at q1
                      refine X1 ((q - 1 : Nat) : Int) (wI (by omega) (by omega) (by omega)) ?_
                      refine X1 ((q - 1 : Nat) : Int) (wI (by omega) (by omega) (by omega)) ?_
                      refine And.intro (by omega) (And.intro (by omega) (X1 _ (row_get (d := e') (n := q - 1) rfl (by omega)) ?_))
                      refine And.intro (by omega) (And.intro (by omega) (X1 _ (row_get (d := e') (n := q) rfl (by omega)) ?_))
                      refine And.intro (by omega) (And.intro (by omega) (X1 _ (row_get (d := e') (n := q) rfl (by omega)) ?_))
                      refine And.intro (by omega) (And.intro (by omega) (X1 _ (row_get2 (d := e') (y := e'[q - 1]!) (m := q) (n := q - 1) rfl rfl (by omega)) ?_))
                      refine And.intro rfl ?_
                      refine X1 ((q + 1 : Nat) : Int) (wI (by simp) (by omega) (by omega)) ?_
                      exact ⟨(q + 1, swp e' q (q - 1)), ⟨q1, by rw [swp_size]; exact q2, by omega, by omega⟩, by show b - (q + 1) < b - q; omega, ⟨rfl, rfl, rfl, rfl, rfl, rfl, rfl, trivial⟩, ⟨rowE (row_swp (m := q) (n := q - 1) rfl rfl), trivial⟩⟩
                  · rw [shU_a (by omega)] at q1
                    refine X1 ((s + 1 : Nat) : Int) (wI (by simp) (by omega) (by omega)) ?_
                    exact ⟨(s + 1, k, e'), fin e' q1.symm q2, by show 5 - (s + 1) < 5 - s; omega, ⟨rfl, rfl, rfl, rfl, rfl, rfl, trivial⟩, ⟨rfl, trivial⟩⟩
                · rw [if_neg (show ¬ b - k ≥ 2 by omega)] at i2
                  refine X1 ((s + 1 : Nat) : Int) (wI (by simp) (by omega) (by omega)) ?_
                  exact ⟨(s + 1, k, e1), ⟨by omega, by rw [show 5 - (s + 1) = 4 - s by omega]; exact i2, hsz, by omega, by omega⟩, by show 5 - (s + 1) < 5 - s; omega, ⟨rfl, rfl, rfl, rfl, rfl, rfl, trivial⟩, ⟨rowE hrow, trivial⟩⟩
      · rw [show 5 - s = 0 by omega, partialIns] at i2
        exact ⟨e0, i2.symm, trivial, ⟨rfl, trivial⟩⟩
    · rw [he]
      exact ⟨trivial, SubO.of (l := [(1000000, .row _ _)]) ⟨rfl, trivial⟩, r1 rfl, trivial⟩
  exact key _ rfl
end Go.Proofs.YtjpbijdpkdmeaaaGreat.Pv.SrtO
