/-
  What is proved: the statement whose theorem stands at the end of this text; the texts before it bear its parts.
-/
import Derived.Test.YtjpbijdpkdmeaaaGreatTfO
import Derived.Test.YtjpbijdpkdmeaaaGreatRows
import Derived.ProofKit
import Derived.OpenShut
import Derived.Carry
import Derived.ChangeMaps5
import Derived.WalkKit
import Derived.JoinedCond
namespace Go.Proofs.YtjpbijdpkdmeaaaGreat.Pv
open Go
abbrev mdO (m : Md) : Ob := .var [eI .i64 m.frac, sSl m.words, eeSl m.L]
noncomputable abbrev levR (m : Md) (i : Nat) : List (List PC) := (List.range i).map (levC m.words.length m.L)
theorem levR_len {m : Md} {i : Nat} : (levR m i).length = i := by simp [levR]
theorem levR_app {m : Md} {i : Nat} : levR m (i + 1) = levR m i ++ [levC m.words.length m.L i] := by unfold levR; rw [List.range_succ, List.map_append]; rfl
theorem levC_closed {m : Md} {i : Nat} : closedL (levC m.words.length m.L i) = true := by
  unfold levC
  by_cases h : i = 0
  · rw [if_pos h]; rfl
  · rw [if_neg h]; rfl
theorem levR_closed {m : Md} {i : Nat} : closedLL (levR m i) := by
  intro el h
  obtain ⟨x, _, rfl⟩ := List.mem_map.1 h
  exact levC_closed
theorem Rt.grin {m : Md} (h : Rt m) {k : Nat} (hk : k + 1 < m.L.length) : GrIn m.L[k] m.L[k + 1] (k + 1) (numT m.words.length m.L (k + 1)) := by
  have h1 := h.at' hk
  have h2 := h.at' (show k < m.L.length by omega)
  have hT := levT h.L hk
  rw [gA_at hk, gA_at (show k < m.L.length by omega)] at hT
  exact ⟨hT, ⟨by omega, by have := h.k; omega⟩, by omega, fun x hx => (h.d.e _ (List.getElem_mem (show k < m.L.length by omega))).g x hx, by omega⟩
theorem Rt.gGe {m : Md} {k : Nat} (hk : k + 1 < m.L.length) : gG m.words.length m.L (k + 1) = levG (grm m.L[k]) (k + 1) (numT m.words.length m.L (k + 1)) (grm m.L[k + 1]) := by
  show levG (gA m.L k) _ _ _ = _
  rw [gA_at hk, gA_at (show k < m.L.length by omega)]
theorem Rt.nil {m : Md} (h : Rt m) {k : Nat} (hk : k + 1 < m.L.length) (h0 : ¬ 0 < m.L[k].length) : m.L[k] = [] ∧ m.L[k + 1] = [] := by
  have e0 : m.L[k] = [] := List.length_eq_zero_iff.1 (by omega)
  refine ⟨e0, ?_⟩
  cases hl : m.L[k + 1] with
  | nil => rfl
  | cons x r =>
    have hx : x.1 ∈ gA m.L (k + 1) := by rw [gA_at hk, hl]; simp
    have := gA_pre h.L hk hx
    rw [gA_at (show k < m.L.length by omega), e0] at this
    simp at this
theorem Rt.grp1 {m : Md} (h : Rt m) {k : Nat} (hk : k + 1 < m.L.length) (hm : mapd m.L (k + 1) = false) : Ct P 62 [.c (eSl m.L[k]), .c (eSl m.L[k + 1]), .c (.fn 58 [])] [.c (ggSl (gG m.words.length m.L (k + 1)))] := by
  rw [Rt.gGe hk]
  by_cases h0 : 0 < m.L[k].length
  · exact groups1_ct _ _ _ _ (h.grin hk) h0 fun x hx => h.last hk hm x (by rw [gA_at hk]; exact hx)
  · obtain ⟨e1, e2⟩ := h.nil hk h0
    rw [e1, e2]
    exact groups0_ct
theorem Rt.grpM {m : Md} (h : Rt m) {k : Nat} (hk : k + 1 < m.L.length) (hm : mapd m.L (k + 1) = true) : Ct P 62 [.c (eSl m.L[k]), .c (eSl m.L[k + 1]), .c (.fn (1000000 + 60) [mpV (pairG m.words.length (gA m.L 1))])] [.c (ggSl (gG m.words.length m.L (k + 1)))] := by
  rw [Rt.gGe hk]
  by_cases h0 : 0 < m.L[k].length
  · exact groupsM_ct _ _ _ _ (h.grin hk) h0 fun x hx => h.rank hk hm x (by rw [gA_at hk]; exact hx)
  · obtain ⟨e1, e2⟩ := h.nil hk h0
    rw [e1, e2]
    exact groups0_ct
theorem varLen {a b c : PC} {k n n' : Nat} (h : n = n') : (some (.var [a, b, c, .ow k 7 n]) : Option Ob) = some (.var [a, b, c, .ow k 7 n']) := by rw [h]
theorem mapd_lo {L : List (List En)} {k : Nat} (h : k < 2) : mapd L k = false := by
  unfold mapd
  rw [decide_eq_false (by omega)]; rfl
set_option maxHeartbeats 4000000 in
theorem build_hi (m : Md) (h : Rt m) (h3 : 3 ≤ m.L.length) : Ct P 11 [mdA m] [.c (trV m), .c (nI .i64 0)] := by
  have hk8 := h.k
  have hck := mcheck_ct m h.d
  rw [h.c] at hck
  have hof := vof_ct m.words h.d.w h.d.s
  rw [(chk_ok h.c).2.1] at hof
  have hpr := pairsOf_ct m h
  have hpv : prsV m.words.length m.L = (mpV (pairG m.words.length (gA m.L 1))) := by unfold prsV; rw [if_neg (by omega)]
  rw [hpv] at hpr
  refine Ct.go T_ok T_mix (N := 89) Tryz.func11 rfl rfl rfl rfl ?_
  refine X1 _ hck ?_
  refine X1 _ hpr ?_
  refine And.intro rfl ?_
  refine X1 _ hof ?_
  refine And.intro (by rw [eeRow_len]; omega) ?_
  rw [eeRow_len]
  refine nilVar (r := 90) (k := 20) (i := 3) (sz := 7) rfl rfl rfl ?_
  refine loopJ T_ok T_mix (fun i : Nat => i ≤ m.L.length) (fun i => [(1, .c (.ad 1 0)), (5, .c (.ad 20 0)), (31, .c (eeSl m.L)), (32, .c (nI .i64 m.L.length)), (33, .c (nI .i64 i))])
    (fun i => [(1, mdO m), (20, .var [eI .i64 m.frac, .dead, (mpV (pairG m.words.length (gA m.L 1))), .ow 90 7 i]), (90, .row 7 (levR m i))]) (fun i => m.L.length - i)
    0 (by omega) ⟨rfl, rfl, rfl, rfl, rfl, trivial⟩ ⟨rfl, rfl, rfl, trivial⟩ (fun _ : Unit => True) (fun _ => [(5, .c (.ad 20 0))]) (fun _ => [(20, .var [eI .i64 m.frac, .dead, (mpV (pairG m.words.length (gA m.L 1))), .ow 90 7 m.L.length]), (90, .row 7 (levR m m.L.length))]) (fun i hi => ?_) (fun _ _ => ?_)
  · refine dcase (fun h1 => ?_) (fun h1 => ?_)
    · have hi' : i < m.L.length := by omega
      have hn := h.at' hi'
      have hgd : m.L.getD i [] = m.L[i] := getDL hi'
      have hco := codesOf_ct m.L[i] (by omega)
      refine And.intro (by omega) (X1 _ (eeRow_get rfl hi') ?_)
      refine X1 _ hco ?_
      refine And.intro (by rw [eRow_len]; omega) ?_
      rw [eRow_len]
      refine dcase (fun h2 => ?_) (fun h2 => ?_)
      · obtain ⟨k, rfl⟩ : ∃ k, i = k + 1 := ⟨i - 1, by omega⟩
        have hk1 : k < m.L.length := by omega
        refine dcase (fun h4 => ?_) (fun h4 => ?_)
        · refine X1 _ (fits_ct m h hi' (by omega)) ?_
          refine bcase (fun hmd => ?_) (fun hmd => ?_)
          · rw [hmd]
            refine X1 [(mpV (pairG m.words.length (gA m.L 1)))] rfl ?_
            refine X1 ((k : Nat) : Int) (wI (by omega) (by omega) (by omega)) ?_
            refine And.intro (by omega) (X1 _ (eeRow_get rfl hk1) ?_)
            refine X1 _ (h.grpM hi' hmd) ?_
            refine X1 _ (rwnew_ct _ (h.rowB hi')) ?_
            refine ⟨levR_len.symm, by rw [levR_len]; show (k + 1 + 1 + 768) * 56 ≤ _; omega, by rw [levR_len]; show k + 1 + 1 ≤ _; omega, levR_closed, one_closed rfl, ?_⟩
            refine And.intro rfl ?_
            have hlev : levC m.words.length m.L (k + 1) = cdsC m.L[k + 1] ++ [nI .i64 m.L[k + 1].length, rwV (gG m.words.length m.L (k + 1)), .sc (.bool true)] := by
              unfold levC
              rw [hgd, if_neg (by omega), hmd]; rfl
            refine X1 ((k + 1 + 1 : Nat) : Int) (wI (by simp) (by omega) (by omega)) ?_
            exact ⟨k + 1 + 1, by omega, by omega, ⟨rfl, rfl, rfl, rfl, rfl, trivial⟩, ⟨rfl, varLen (by rw [List.length_append, levR_len]; rfl), by rw [levR_app (i := k + 1), hlev]; rfl, trivial⟩⟩
          · rw [hmd]
            refine X1 ((k : Nat) : Int) (wI (by omega) (by omega) (by omega)) ?_
            refine And.intro (by omega) (X1 _ (eeRow_get rfl hk1) ?_)
            refine X1 _ (h.grp1 hi' hmd) ?_
            refine X1 _ (rwnew_ct _ (h.rowB hi')) ?_
            refine ⟨levR_len.symm, by rw [levR_len]; show (k + 1 + 1 + 768) * 56 ≤ _; omega, by rw [levR_len]; show k + 1 + 1 ≤ _; omega, levR_closed, one_closed rfl, ?_⟩
            refine And.intro rfl ?_
            have hlev : levC m.words.length m.L (k + 1) = cdsC m.L[k + 1] ++ [nI .i64 m.L[k + 1].length, rwV (gG m.words.length m.L (k + 1)), .sc (.bool false)] := by
              unfold levC
              rw [hgd, if_neg (by omega), hmd]; rfl
            refine X1 ((k + 1 + 1 : Nat) : Int) (wI (by simp) (by omega) (by omega)) ?_
            exact ⟨k + 1 + 1, by omega, by omega, ⟨rfl, rfl, rfl, rfl, rfl, trivial⟩, ⟨rfl, varLen (by rw [List.length_append, levR_len]; rfl), by rw [levR_app (i := k + 1), hlev]; rfl, trivial⟩⟩
        · have hmd : mapd m.L (k + 1) = false := mapd_lo (by omega)
          refine X1 ((k : Nat) : Int) (wI (by omega) (by omega) (by omega)) ?_
          refine And.intro (by omega) (X1 _ (eeRow_get rfl hk1) ?_)
          refine X1 _ (h.grp1 hi' hmd) ?_
          refine X1 _ (rwnew_ct _ (h.rowB hi')) ?_
          refine ⟨levR_len.symm, by rw [levR_len]; show (k + 1 + 1 + 768) * 56 ≤ _; omega, by rw [levR_len]; show k + 1 + 1 ≤ _; omega, levR_closed, one_closed rfl, ?_⟩
          refine And.intro rfl ?_
          have hlev : levC m.words.length m.L (k + 1) = cdsC m.L[k + 1] ++ [nI .i64 m.L[k + 1].length, rwV (gG m.words.length m.L (k + 1)), .sc (.bool false)] := by
            unfold levC
            rw [hgd, if_neg (by omega), hmd]; rfl
          refine X1 ((k + 1 + 1 : Nat) : Int) (wI (by simp) (by omega) (by omega)) ?_
          exact ⟨k + 1 + 1, by omega, by omega, ⟨rfl, rfl, rfl, rfl, rfl, trivial⟩, ⟨rfl, varLen (by rw [List.length_append, levR_len]; rfl), by rw [levR_app (i := k + 1), hlev]; rfl, trivial⟩⟩
      · have e0 : i = 0 := by omega
        have hmd : mapd m.L i = false := mapd_lo (by omega)
        refine ⟨levR_len.symm, by rw [levR_len]; show (i + 1 + 768) * 56 ≤ _; omega, by rw [levR_len]; show i + 1 ≤ _; omega, levR_closed, one_closed rfl, ?_⟩
        refine And.intro rfl ?_
        have hlev : levC m.words.length m.L i = cdsC m.L[i] ++ [nI .i64 m.L[i].length, nilPt, .sc (.bool false)] := by
          unfold levC
          rw [hgd, if_pos e0, hmd]; rfl
        refine X1 ((i + 1 : Nat) : Int) (wI1 (by omega)) ?_
        exact ⟨i + 1, by omega, by omega, ⟨rfl, rfl, rfl, rfl, rfl, trivial⟩, ⟨rfl, varLen (by rw [List.length_append, levR_len]; rfl), by rw [levR_app (i := i), hlev]; rfl, trivial⟩⟩
    · have e : i = m.L.length := by omega
      subst e
      exact ⟨(), trivial, ⟨rfl, trivial⟩, ⟨rfl, rfl, trivial⟩⟩
  · exact ⟨trivial, r1 (by unfold trV; rw [hpv]; rfl), r1 rfl, trivial⟩
set_option maxHeartbeats 4000000 in
theorem build_lo (m : Md) (h : Rt m) (h3 : m.L.length < 3) : Ct P 11 [mdA m] [.c (trV m), .c (nI .i64 0)] := by
  have hk8 := h.k
  have hck := mcheck_ct m h.d
  rw [h.c] at hck
  have hof := vof_ct m.words h.d.w h.d.s
  rw [(chk_ok h.c).2.1] at hof
  have hpr := pairsOf_ct m h
  have hpv : prsV m.words.length m.L = nilPt := by unfold prsV; rw [if_pos h3]
  rw [hpv] at hpr
  refine Ct.go T_ok T_mix (N := 89) Tryz.func11 rfl rfl rfl rfl ?_
  refine X1 _ hck ?_
  refine X1 _ hpr ?_
  refine And.intro rfl ?_
  refine X1 _ hof ?_
  refine And.intro (by rw [eeRow_len]; omega) ?_
  rw [eeRow_len]
  refine nilVar (r := 90) (k := 20) (i := 3) (sz := 7) rfl rfl rfl ?_
  refine loopJ T_ok T_mix (fun i : Nat => i ≤ m.L.length) (fun i => [(1, .c (.ad 1 0)), (5, .c (.ad 20 0)), (31, .c (eeSl m.L)), (32, .c (nI .i64 m.L.length)), (33, .c (nI .i64 i))])
    (fun i => [(1, mdO m), (20, .var [eI .i64 m.frac, .dead, nilPt, .ow 90 7 i]), (90, .row 7 (levR m i))]) (fun i => m.L.length - i)
    0 (by omega) ⟨rfl, rfl, rfl, rfl, rfl, trivial⟩ ⟨rfl, rfl, rfl, trivial⟩ (fun _ : Unit => True) (fun _ => [(5, .c (.ad 20 0))]) (fun _ => [(20, .var [eI .i64 m.frac, .dead, nilPt, .ow 90 7 m.L.length]), (90, .row 7 (levR m m.L.length))]) (fun i hi => ?_) (fun _ _ => ?_)
  · refine dcase (fun h1 => ?_) (fun h1 => ?_)
    · have hi' : i < m.L.length := by omega
      have hn := h.at' hi'
      have hgd : m.L.getD i [] = m.L[i] := getDL hi'
      have hco := codesOf_ct m.L[i] (by omega)
      refine And.intro (by omega) (X1 _ (eeRow_get rfl hi') ?_)
      refine X1 _ hco ?_
      refine And.intro (by rw [eRow_len]; omega) ?_
      rw [eRow_len]
      refine dcase (fun h2 => ?_) (fun h2 => ?_)
      · obtain ⟨k, rfl⟩ : ∃ k, i = k + 1 := ⟨i - 1, by omega⟩
        have hk1 : k < m.L.length := by omega
        refine dcase (fun h4 => ?_) (fun h4 => ?_)
        · exfalso; omega
        · have hmd : mapd m.L (k + 1) = false := mapd_lo (by omega)
          refine X1 ((k : Nat) : Int) (wI (by omega) (by omega) (by omega)) ?_
          refine And.intro (by omega) (X1 _ (eeRow_get rfl hk1) ?_)
          refine X1 _ (h.grp1 hi' hmd) ?_
          refine X1 _ (rwnew_ct _ (h.rowB hi')) ?_
          refine ⟨levR_len.symm, by rw [levR_len]; show (k + 1 + 1 + 768) * 56 ≤ _; omega, by rw [levR_len]; show k + 1 + 1 ≤ _; omega, levR_closed, one_closed rfl, ?_⟩
          refine And.intro rfl ?_
          have hlev : levC m.words.length m.L (k + 1) = cdsC m.L[k + 1] ++ [nI .i64 m.L[k + 1].length, rwV (gG m.words.length m.L (k + 1)), .sc (.bool false)] := by
            unfold levC
            rw [hgd, if_neg (by omega), hmd]; rfl
          refine X1 ((k + 1 + 1 : Nat) : Int) (wI (by simp) (by omega) (by omega)) ?_
          exact ⟨k + 1 + 1, by omega, by omega, ⟨rfl, rfl, rfl, rfl, rfl, trivial⟩, ⟨rfl, varLen (by rw [List.length_append, levR_len]; rfl), by rw [levR_app (i := k + 1), hlev]; rfl, trivial⟩⟩
      · have e0 : i = 0 := by omega
        have hmd : mapd m.L i = false := mapd_lo (by omega)
        refine ⟨levR_len.symm, by rw [levR_len]; show (i + 1 + 768) * 56 ≤ _; omega, by rw [levR_len]; show i + 1 ≤ _; omega, levR_closed, one_closed rfl, ?_⟩
        refine And.intro rfl ?_
        have hlev : levC m.words.length m.L i = cdsC m.L[i] ++ [nI .i64 m.L[i].length, nilPt, .sc (.bool false)] := by
          unfold levC
          rw [hgd, if_pos e0, hmd]; rfl
        refine X1 ((i + 1 : Nat) : Int) (wI1 (by omega)) ?_
        exact ⟨i + 1, by omega, by omega, ⟨rfl, rfl, rfl, rfl, rfl, trivial⟩, ⟨rfl, varLen (by rw [List.length_append, levR_len]; rfl), by rw [levR_app (i := i), hlev]; rfl, trivial⟩⟩
    · have e : i = m.L.length := by omega
      subst e
      exact ⟨(), trivial, ⟨rfl, trivial⟩, ⟨rfl, rfl, trivial⟩⟩
  · exact ⟨trivial, r1 (by unfold trV; rw [hpv]; rfl), r1 rfl, trivial⟩
theorem build_ct (m : Md) (h : Rt m) : Ct P 11 [mdA m] [.c (trV m), .c (nI .i64 0)] := by
  by_cases h3 : m.L.length < 3
  · exact build_lo m h h3
  · exact build_hi m h (by omega)
theorem levR_at {m : Md} {n k : Nat} {i : Int} (h0 : i = k) (h : k < n) : (levR m n)[i.toNat]? = some (levC m.words.length m.L k) := by
  subst h0
  unfold levR
  rw [Int.toNat_natCast, List.getElem?_map, List.getElem?_range h]; rfl
theorem torder_ct (m : Md) (hl : m.L.length ≤ 8) : Ct P 42 [.c (trV m)] [.c (nI .i64 m.L.length)] := by
  refine Ct.go T_ok T_mix (N := 10) Tryz.func42 rfl rfl rfl rfl ?_
  refine And.intro (by show (levR m m.L.length).length ≤ _; rw [levR_len]; omega) ?_
  exact ⟨trivial, r1 (by show some (AV.c (nI .i64 (levR m m.L.length).length)) = _; rw [levR_len]), trivial⟩
def lenT (L : List (List En)) (k : Int) : Nat := if k < 1 ∨ (L.length : Int) < k then 0 else (L.getD (k.toNat - 1) []).length
theorem tlen_ct (m : Md) (hl : m.L.length ≤ 8) (k : Int) : Ct P 34 [.c (trV m), .c (eI .i64 k)] [.c (nI .i64 (lenT m.L k))] := by
  refine Ct.go T_ok T_mix (N := 22) Tryz.func34 rfl rfl rfl rfl ?_
  refine dcase (fun h1 => ?_) (fun h1 => ?_)
  · exact ⟨trivial, r1 (by unfold lenT; rw [if_pos (by omega)]; rfl), trivial⟩
  refine X1 _ (torder_ct m hl) ?_
  refine dcase (fun h2 => ?_) (fun h2 => ?_)
  · exact ⟨trivial, r1 (by unfold lenT; rw [if_pos (by omega)]; rfl), trivial⟩
  obtain ⟨j, rfl⟩ : ∃ j : Nat, k = ((j + 1 : Nat) : Int) := ⟨k.toNat - 1, by omega⟩
  refine X1 ((j : Nat) : Int) (wI (by omega) (by omega) (by omega)) ?_
  refine And.intro (by omega) (X1 _ (levR_at rfl (by omega)) ?_)
  exact ⟨trivial, r1 (by unfold lenT; rw [if_neg (by omega), Int.toNat_natCast, Nat.add_sub_cancel]; rfl), trivial⟩
theorem thas_ct (m : Md) (hl : m.L.length ≤ 8) (k i : Int) : Ct P 65 [.c (trV m), .c (eI .i64 k), .c (eI .i64 i)] [.c (.sc (.bool (decide (0 ≤ i ∧ i < (lenT m.L k : Int)))))] := by
  refine Ct.go T_ok T_mix (N := 16) Tryz.func65 rfl rfl rfl rfl ?_
  refine dcase (fun h1 => ?_) (fun h1 => ?_)
  · refine X1 _ (tlen_ct m hl k) ?_
    exact ⟨trivial, r1 (blE (decide_eq_decide.2 ⟨fun h => ⟨h1, h⟩, fun h => h.2⟩)), trivial⟩
  · exact ⟨trivial, r1 (blE (decide_eq_false (fun h => h1 h.1)).symm), trivial⟩
theorem colat_ct (l : List Int) (hl : l.length ≤ 100000) (i : Nat) (hi : i < l.length) : Ct P 103 [.ag (colC l), .c (nI .i64 i)] [.c (eI .i64 (l.getD i 0))] := by
  have hlv := lvsI_len l
  have hcl := cdF_len l
  have hmem : l.getD i 0 ∈ l := getD_mem_I hi
  have hat := lvs_at hmem
  have hw : cwF l ≤ 64 := blen_le (n := (lvsI l).length - 1) (k := 64) (Nat.lt_of_le_of_lt (show _ ≤ 100000 by omega) (by decide))
  have hp := pat_ct (cwF l) (cdF l) i hw (by omega) (fun x hx => cwF_lt hx) (by omega)
  rw [cdF_at hi] at hp
  have hq := qlevel_ct (lvsI l) _ (by omega) hat
  have e : (lvsI l).getD ((lvsI l).idxOf (l.getD i 0)) 0 = l.getD i 0 := by
    rw [List.getD_eq_getElem?_getD, List.getElem?_eq_getElem hat, List.getElem_idxOf]; rfl
  rw [e] at hq
  refine Ct.go T_ok T_mix (N := 13) Tryz.func103 rfl rfl rfl rfl ?_
  refine X1 _ hp ?_
  refine X1 (((lvsI l).idxOf (l.getD i 0) : Nat) : Int) (wI rfl (by omega) (by omega)) ?_
  refine X1 _ hq ?_
  refine And.intro rfl ?_
  exact ⟨trivial, r1 rfl, trivial⟩
theorem cpair_ct (l : List En) (hl : l.length ≤ 100000) (i : Nat) (hi : i < l.length) : Ct P 66 [.ag (cdsC l), .c (nI .i64 i)] [.c (eI .i64 l[i].2.1), .c (eI .i64 l[i].2.2)] := by
  have h1 := colat_ct (prbs l) (by simpa using hl) i (by simpa using hi)
  have h2 := colat_ct (bcks l) (by simpa using hl) i (by simpa using hi)
  have e1 : (prbs l).getD i 0 = l[i].2.1 := by rw [List.getD_eq_getElem?_getD, List.getElem?_map, List.getElem?_eq_getElem hi]; rfl
  have e2 : (bcks l).getD i 0 = l[i].2.2 := by rw [List.getD_eq_getElem?_getD, List.getElem?_map, List.getElem?_eq_getElem hi]; rfl
  rw [e1] at h1
  rw [e2] at h2
  refine Ct.go T_ok T_mix (N := 14) Tryz.func66 rfl rfl rfl rfl ?_
  refine X1 _ h1 ?_
  refine X1 _ h2 ?_
  refine And.intro rfl ?_
  exact ⟨trivial, r1 rfl, r1 rfl, trivial⟩
theorem tcodes_ct (m : Md) (h : Rt m) (k i : Nat) (hk : k < m.L.length) (hi : i < m.L[k].length) : Ct P 13 [.c (trV m), .c (nI .i64 (k + 1 : Nat)), .c (nI .i64 i)] [.c (eI .i64 m.L[k][i].2.1), .c (eI .i64 m.L[k][i].2.2)] := by
  have hk8 := h.k
  have hn := h.at' hk
  have hln : lenT m.L ((k + 1 : Nat) : Int) = m.L[k].length := by unfold lenT; rw [if_neg (by omega), Int.toNat_natCast, Nat.add_sub_cancel, getDL hk]
  have hh := thas_ct m hk8.2 ((k + 1 : Nat) : Int) (i : Int)
  rw [hln, decide_eq_true (by omega)] at hh
  have hp := cpair_ct m.L[k] (by omega) i hi
  refine Ct.go T_ok T_mix (N := 26) Tryz.func13 rfl rfl rfl rfl ?_
  refine X1 _ hh ?_
  refine X1 ((k : Nat) : Int) (wI (by omega) (by omega) (by omega)) ?_
  refine And.intro (by omega) (X1 _ (levR_at rfl hk) ?_)
  have hp2 : Ct P 66 [.ag (cdsC (m.L.getD k [])), .c (nI .i64 i)] [.c (eI .i64 m.L[k][i].2.1), .c (eI .i64 m.L[k][i].2.2)] := by rw [getDL hk]; exact hp
  refine X1 _ hp2 ?_
  exact ⟨trivial, r1 rfl, r1 rfl, trivial⟩
theorem tcodes_no (m : Md) (h : Rt m) (k i : Int) (hn : ¬ (0 ≤ i ∧ i < (lenT m.L k : Int))) : Ct P 13 [.c (trV m), .c (eI .i64 k), .c (eI .i64 i)] [.c (eI .i64 0), .c (eI .i64 0)] := by
  have hh := thas_ct m h.k.2 k i
  rw [decide_eq_false hn] at hh
  refine Ct.go T_ok T_mix (N := 26) Tryz.func13 rfl rfl rfl rfl ?_
  refine X1 _ hh ?_
  exact ⟨trivial, r1 rfl, r1 rfl, trivial⟩
end Go.Proofs.YtjpbijdpkdmeaaaGreat.Pv
namespace Go.Proofs.YtjpbijdpkdmeaaaGreat.Pv
open Go
section
variable {m : Nat} {lv : List (Nat × Nat)}
theorem Srt2.up (h : Srt2 m lv) : (lv.map (·.1)).Pairwise (· ≤ ·) := by
  rw [List.pairwise_iff_getElem]
  intro i j hi hj hij
  rw [List.length_map] at hi hj
  rw [List.getElem_map, List.getElem_map]
  exact (h.2 i j _ _ hij (List.getElem?_eq_getElem hi) (List.getElem?_eq_getElem hj)).1
theorem addG_len (G : List (List Nat)) (i v : Nat) : (addG G i v).length = G.length := by unfold addG; rw [List.length_set]
theorem grpF_len (m : Nat) (lv : List (Nat × Nat)) : (grpF m lv).length = m := by
  have key : ∀ (lv : List (Nat × Nat)) (G : List (List Nat)), (lv.foldl (fun G x => addG G x.1 x.2) G).length = G.length := by
    intro lv
    induction lv with
    | nil => intro G; rfl
    | cons x lv ih => intro G; rw [List.foldl_cons, ih, addG_len]
  unfold grpF
  rw [key, List.length_replicate]
end
end Go.Proofs.YtjpbijdpkdmeaaaGreat.Pv
namespace Go.Proofs.YtjpbijdpkdmeaaaGreat.Pv
open Go
theorem PairOK.two {W : Nat} {B : List (List Int)} (h : PairOK W B) {p : List Int} (hp : p ∈ B) : 0 ≤ p.getD 0 0 ∧ p.getD 0 0 < W ∧ 0 ≤ p.getD 1 0 ∧ p.getD 1 0 < W := by
  have e := two_of (h.len p hp)
  have h0 := h.w p hp (p.getD 0 0) (by rw [e]; simp)
  have h1 := h.w p hp (p.getD 1 0) (by rw [e]; simp)
  exact ⟨h0.1, h0.2, h1.1, h1.2⟩
end Go.Proofs.YtjpbijdpkdmeaaaGreat.Pv
namespace Go.Proofs.YtjpbijdpkdmeaaaGreat.Pv
open Go
section
variable {W : Nat} {L : List (List En)}
theorem gG_len (k : Nat) : (gG W L k).length = (gA L (k - 1)).length := by unfold gG levG; rw [grpF_len]
end
end Go.Proofs.YtjpbijdpkdmeaaaGreat.Pv
namespace Go.Proofs.YtjpbijdpkdmeaaaGreat.Pv
open Go
theorem prsV_hi {W : Nat} {L : List (List En)} (h : 3 ≤ L.length) : prsV W L = mpV (pairG W (gA L 1)) := by unfold prsV; rw [if_neg (by omega)]
theorem tnumber_ct (m : Md) (h : Rt m) (k : Nat) (hk : k < m.L.length) (a b : Int) : Ct P 64 [.c (trV m), .c (nI .i64 (k + 1 : Nat)), .c (eI .i64 a), .c (eI .i64 b)] [.c (eI .i64 (numI m.words.length m.L k a b))] := by
  have hk8 := h.k
  by_cases hm : mapd m.L k = true
  · obtain ⟨m1, _⟩ := mapd_mem hm
    have hR := h.pairB (show 1 < m.L.length by omega)
    have hr := mrank_ct _ hR a b
    have e : numI m.words.length m.L k a b = rankI (pairG m.words.length (gA m.L 1)) a b := by unfold numI; rw [if_pos hm]
    have hlev : levC m.words.length m.L k = cdsC (m.L.getD k []) ++ [nI .i64 (m.L.getD k []).length, if k = 0 then nilPt else rwV (gG m.words.length m.L k), .sc (.bool true)] := by
      unfold levC
      rw [hm]; rfl
    rw [e]
    unfold trV
    rw [prsV_hi (by omega)]
    refine Ct.go T_ok T_mix (N := 26) Tryz.func64 rfl rfl rfl rfl ?_
    refine X1 ((k : Nat) : Int) (wI (by omega) (by omega) (by omega)) ?_
    refine And.intro (by omega) (X1 _ ((levR_at rfl hk).trans (by rw [hlev])) ?_)
    refine X1 _ hr ?_
    exact ⟨trivial, r1 rfl, trivial⟩
  · have hm' : mapd m.L k = false := by simpa using hm
    have e : numI m.words.length m.L k a b = b := by unfold numI; rw [if_neg hm]
    have hlev : levC m.words.length m.L k = cdsC (m.L.getD k []) ++ [nI .i64 (m.L.getD k []).length, if k = 0 then nilPt else rwV (gG m.words.length m.L k), .sc (.bool false)] := by
      unfold levC
      rw [hm']; rfl
    rw [e]
    refine Ct.go T_ok T_mix (N := 26) Tryz.func64 rfl rfl rfl rfl ?_
    refine X1 ((k : Nat) : Int) (wI (by omega) (by omega) (by omega)) ?_
    refine And.intro (by omega) (X1 _ ((levR_at rfl hk).trans (by rw [hlev])) ?_)
    exact ⟨trivial, r1 rfl, trivial⟩
def findT (L : List (List En)) (g : List Int) : Int := if g.length < 1 ∨ L.length < g.length then -1 else hasG (gA L (g.length - 1)) g
theorem hasG_first {m : Md} (h : Rt m) {v : Int} : hasG (gA m.L 0) [v] = if v < 0 ∨ ((m.L.getD 0 []).length : Int) ≤ v then -1 else v := by
  have hk := h.k
  have hl := lev_at h.L (k := 0) (by omega)
  have hW : (m.L.getD 0 []).length = m.words.length := by
    have := h.L
    cases hL : m.L with
    | nil => rw [hL] at hk; simp at hk
    | cons l r =>
      rw [hL] at this
      exact this.2.1 rfl
  have hf := first_lev hl hW
  have hr := gA_rise h.L (k := 0) (by omega)
  by_cases hv : v < 0 ∨ ((m.L.getD 0 []).length : Int) ≤ v
  · rw [if_pos hv]
    have hn : ¬ [v] ∈ gA m.L 0 := fun hm => by
      have := gA_w h.L (k := 0) (by omega) hm (v := v) (by simp)
      omega
    unfold hasG
    rw [if_neg hn]
  · rw [if_neg hv]
    obtain ⟨j, rfl⟩ : ∃ j : Nat, v = j := ⟨v.toNat, by omega⟩
    have hj : j < (m.L.getD 0 []).length := by omega
    have e : (gA m.L 0)[j]? = some [(j : Int)] := by
      unfold gA
      rw [List.getElem?_map, List.getElem?_eq_getElem hj]
      show some ((m.L.getD 0 [])[j]).1 = _
      rw [hf j _ (List.getElem?_eq_getElem hj)]
    unfold hasG
    rw [if_pos (List.mem_of_getElem? e), rise_idx hr e]
theorem take1 : ∀ {g : List Int}, 1 ≤ g.length → g.take 1 = [g.getD 0 0]
  | _ :: _, _ => rfl
theorem hasG_up {m : Md} (h : Rt m) {g : List Int} {i : Nat} (hi : i < m.L.length) (hl : g.length ≤ m.L.length) (hig : i + 1 ≤ g.length) (hn : hasG (gA m.L i) (g.take (i + 1)) < 0) : hasG (gA m.L (g.length - 1)) g = -1 := by
  have hne : ¬ g ∈ gA m.L (g.length - 1) := fun hm => by
    have := gA_chain h.L (k := g.length - 1) (by omega) hm i (by omega)
    unfold hasG at hn
    rw [if_pos this] at hn
    omega
  unfold hasG
  rw [if_neg hne]
theorem tfind_ct (m : Md) (h : Rt m) (g : List Int) (hg : g.length ≤ 1000000) : Ct P 12 [.c (trV m), .c (iSl g)] [.c (eI .i64 (findT m.L g))] := by
  have hk8 := h.k
  have hw9 := h.d.w
  refine Ct.go T_ok T_mix (N := 73) Tryz.func12 rfl rfl rfl rfl ?_
  refine And.intro (by rw [iRow_len]; omega) ?_
  rw [iRow_len]
  refine dcase (fun h1 => ?_) (fun h1 => ?_)
  · refine And.intro rfl ?_
    exact ⟨trivial, r1 (iE (by unfold findT; rw [if_pos (by omega)])), trivial⟩
  refine And.intro (by rw [iRow_len]; omega) ?_
  rw [iRow_len]
  refine X1 _ (torder_ct m hk8.2) ?_
  refine dcase (fun h2 => ?_) (fun h2 => ?_)
  · refine And.intro rfl ?_
    exact ⟨trivial, r1 (iE (by unfold findT; rw [if_pos (by omega)])), trivial⟩
  have hin : ¬ (g.length < 1 ∨ m.L.length < g.length) := by omega
  have hfi := hasG_first h (v := g.getD 0 0)
  have hg1 : g.take 1 = [g.getD 0 0] := take1 (by omega)
  rw [← hg1] at hfi
  have hF : findT m.L g = hasG (gA m.L (g.length - 1)) g := by unfold findT; rw [if_neg hin]
  have hlow : (g.getD 0 0 < 0 ∨ ((m.L.getD 0 []).length : Int) ≤ g.getD 0 0) → findT m.L g = -1 := fun hv => by
    rw [if_pos hv] at hfi
    rw [hF]
    exact hasG_up h (i := 0) (by omega) (by omega) (by omega) (by show hasG (gA m.L 0) (g.take 1) < 0; rw [hfi]; decide)
  have hget := iRow_getN (l := g) (i := 0) (n := 0) rfl (by omega)
  obtain ⟨v0, hv0⟩ : ∃ v, v = g.getD 0 0 := ⟨_, rfl⟩
  rw [← hv0] at hget hlow
  refine And.intro (by omega) (X1 _ hget ?_)
  conv => whnf
  refine dcase (fun h3 => ?_) (fun h3 => ?_)
  · refine And.intro rfl ?_
    exact ⟨trivial, r1 (iE (hlow (.inl h3)).symm), trivial⟩
  refine And.intro (by omega) (X1 _ hget ?_)
  have hl0 := levR_at (m := m) (n := m.L.length) (k := 0) (i := 0) rfl (by omega)
  refine And.intro (by omega) (X1 _ hl0 ?_)
  refine And.intro rfl ?_
  refine dcase (fun h4 => ?_) (fun h4 => ?_)
  · exact ⟨trivial, r1 (iE (hlow (.inr h4)).symm), trivial⟩
  rw [← hv0, if_neg (by omega)] at hfi
  refine And.intro (by omega) (X1 _ hget ?_)
  refine loopJ T_ok T_mix (fun i : Nat => 1 ≤ i ∧ i ≤ g.length) (fun i => [(0, .c (trV m)), (1, .c (iSl g)), (5, .c (eI .i64 (hasG (gA m.L (i - 1)) (g.take i)))), (6, .c (nI .i64 i))]) (fun _ => []) (fun i => g.length - i)
    1 ⟨by omega, by omega⟩ ⟨rfl, rfl, iE (by rw [← hfi]), rfl, trivial⟩ trivial (fun _ : Unit => True) (fun _ => [(5, .c (eI .i64 (findT m.L g)))]) (fun _ => []) (fun i hi => ?_) (fun _ _ => ?_)
  · obtain ⟨i1, i2⟩ := hi
    obtain ⟨k, rfl⟩ : ∃ k, i = k + 1 := ⟨i - 1, by omega⟩
    refine And.intro (by rw [iRow_len]; omega) ?_
    rw [iRow_len]
    refine dcase (fun h5 => ?_) (fun h5 => ?_)
    · have hk1 : k + 1 < m.L.length := by omega
      obtain ⟨p, hp⟩ : ∃ p, p = hasG (gA m.L (k + 1 - 1)) (g.take (k + 1)) := ⟨_, rfl⟩
      rw [← hp]
      have hp' : p = hasG (gA m.L k) (g.take (k + 1)) := hp
      refine dcase (fun h6 => ?_) (fun h6 => ?_)
      · have hmem : g.take (k + 1) ∈ gA m.L k := by
          apply Classical.byContradiction
          intro hn
          have : p = -1 := by rw [hp']; unfold hasG; rw [if_neg hn]
          omega
        have hpe : p = (((gA m.L k).idxOf (g.take (k + 1)) : Nat) : Int) := by rw [hp']; unfold hasG; rw [if_pos hmem]
        have hR := h.rowB hk1
        have hix : (gA m.L k).idxOf (g.take (k + 1)) < (gG m.words.length m.L (k + 1)).length := by
          rw [gG_len]; exact idx_lt hmem
        have hwh := rwhere_ct _ hR ((gA m.L k).idxOf (g.take (k + 1))) (numI m.words.length m.L (k + 1) (g.getD k 0) (g.getD (k + 1) 0)) hix
        rw [find_step h.L (by omega) hk1 (by omega) hmem] at hwh
        have hlev : levC m.words.length m.L (k + 1) = cdsC (m.L.getD (k + 1) []) ++ [nI .i64 (m.L.getD (k + 1) []).length, rwV (gG m.words.length m.L (k + 1)), .sc (.bool (mapd m.L (k + 1)))] := by
          unfold levC
          rw [if_neg (by omega)]; rfl
        refine And.intro (by omega) (X1 _ ((levR_at rfl hk1).trans (by rw [hlev])) ?_)
        refine X1 ((k + 1 + 1 : Nat) : Int) (wI (by simp) (by omega) (by omega)) ?_
        refine X1 ((k : Nat) : Int) (wI (by omega) (by omega) (by omega)) ?_
        refine And.intro (by omega) (X1 _ (iRow_getN rfl (by omega)) ?_)
        refine And.intro (by omega) (X1 _ (iRow_getN rfl (by omega)) ?_)
        refine X1 _ (tnumber_ct m h (k + 1) hk1 _ _) ?_
        rw [hpe]
        refine X1 _ hwh ?_
        refine And.intro rfl ?_
        refine X1 ((k + 1 + 1 : Nat) : Int) (wI (by simp) (by omega) (by omega)) ?_
        exact ⟨k + 1 + 1, ⟨by omega, by omega⟩, by omega, ⟨rfl, rfl, rfl, rfl, trivial⟩, trivial⟩
      · exact ⟨(), trivial, ⟨iE (by
          have hlt : hasG (gA m.L k) (g.take (k + 1)) < 0 := by rw [hp'] at h6; exact Int.not_le.1 h6
          rw [hF, hasG_up h (i := k) (by omega) (by omega) (by omega) hlt, hp]
          show hasG (gA m.L k) _ = -1
          unfold hasG at hlt ⊢
          split
          · rename_i hh; rw [if_pos hh] at hlt; omega
          · rfl), trivial⟩, trivial⟩
    · have e : k + 1 = g.length := by omega
      exact ⟨(), trivial, ⟨iE (by rw [hF, e, List.take_length]), trivial⟩, trivial⟩
  · exact ⟨trivial, r1 rfl, trivial⟩
theorem lenT_at {L : List (List En)} {k : Nat} (hk : k < L.length) : lenT L ((k + 1 : Nat) : Int) = L[k].length := by
  unfold lenT
  rw [if_neg (by omega), Int.toNat_natCast, Nat.add_sub_cancel, getDL hk]
theorem tkids_ct (m : Md) (h : Rt m) (k i : Nat) (hk : k + 1 < m.L.length) (hi : i < m.L[k].length) : Ct P 33 [.c (trV m), .c (nI .i64 (k + 1 : Nat)), .c (nI .i64 i)]
    [.c (nI .i64 (loG (gG m.words.length m.L (k + 1)) i)), .c (nI .i64 (loG (gG m.words.length m.L (k + 1)) i + ((gG m.words.length m.L (k + 1)).getD i []).length : Nat))] := by
  have hk8 := h.k
  have hh := thas_ct m hk8.2 ((k + 1 : Nat) : Int) (i : Int)
  rw [lenT_at (show k < m.L.length by omega), decide_eq_true (by omega)] at hh
  have hsp := rspan_ct _ (h.rowB hk) i (by rw [gG_len]; show i < (gA m.L k).length; rw [gA_length, getDL (show k < m.L.length by omega)]; exact hi)
  have hlev : levC m.words.length m.L (k + 1) = cdsC (m.L.getD (k + 1) []) ++ [nI .i64 (m.L.getD (k + 1) []).length, rwV (gG m.words.length m.L (k + 1)), .sc (.bool (mapd m.L (k + 1)))] := by
    unfold levC
    rw [if_neg (by omega)]; rfl
  refine Ct.go T_ok T_mix (N := 31) Tryz.func33 rfl rfl rfl rfl ?_
  refine X1 _ hh ?_
  refine X1 _ (torder_ct m hk8.2) ?_
  refine ecase (fun h1 => ?_) (fun h1 => ?_)
  · exfalso; omega
  refine And.intro (by omega) (X1 _ ((levR_at rfl hk).trans (by rw [hlev])) ?_)
  refine X1 _ hsp ?_
  exact ⟨trivial, r1 rfl, r1 rfl, trivial⟩
def oneM : Md := ⟨0, marks15, [[([0], -5, 0), ([1], -9, -3), ([2], -1, 0)], [([1, 0], -2, 0), ([1, 2], -4, 0)]]⟩
theorem one35_ct : Ct P 53 [] [mdA oneM] := by
  refine Ct.go (Ty.own_ok [1000001, 1000003] T_ok) T_mix (N := 16) Tryz.func53 rfl rfl rfl rfl ?_
  exact ⟨trivial, rc rfl, trivial⟩
theorem one_w : wrongV marks15 = 0 := by
  unfold wrongV
  rw [if_neg (by simp [marks15]), if_neg (by simp [marks15])]
  rfl
theorem one_c : chkM oneM = 0 := by
  unfold chkM
  rw [if_neg (by decide), if_neg (by rw [show oneM.words = marks15 from rfl, one_w]; simp)]
  decide
theorem one_rt : Rt oneM where
  d := ⟨by decide, fun x hx => by
    have : ∀ x, x ∈ marks15 → x.size ≤ 140737488355328 := by
      intro x hx
      simp only [marks15, List.mem_cons, List.not_mem_nil, or_false] at hx
      rcases hx with rfl | rfl | rfl
      · show 5 ≤ 140737488355328; omega
      · show 3 ≤ 140737488355328; omega
      · show 4 ≤ 140737488355328; omega
    exact this x hx, by decide, fun l hl => by
    simp only [oneM, List.mem_cons, List.not_mem_nil, or_false] at hl
    rcases hl with rfl | rfl
    · exact ⟨by decide, by decide⟩
    · exact ⟨by decide, by decide⟩⟩
  c := one_c
  n := by decide
theorem live35_ct : Ct P 10 [] [.c (.sc (.bool true))] := by
  have hT := Ty.own_ok [1000001, 1000003] T_ok
  have h := one_rt
  have hk1 := tkids_ct oneM h 0 1 (by decide) (by decide)
  have hk2 := tkids_ct oneM h 0 2 (by decide) (by decide)
  have hf := tfind_ct oneM h [1, 2] (by decide)
  rw [show loG (gG oneM.words.length oneM.L (0 + 1)) 1 = 0 by decide, show 0 + ((gG oneM.words.length oneM.L (0 + 1)).getD 1 []).length = 2 by decide] at hk1
  rw [show loG (gG oneM.words.length oneM.L (0 + 1)) 2 = 2 by decide, show 2 + ((gG oneM.words.length oneM.L (0 + 1)).getD 2 []).length = 2 by decide] at hk2
  rw [show findT oneM.L [1, 2] = 1 by decide] at hf
  refine Ct.go hT T_mix (N := 51) Tryz.func10 rfl rfl rfl rfl ?_
  refine X1 _ one35_ct ?_
  refine X1 _ (build_ct oneM h) ?_
  refine X1 _ hk1 ?_
  refine X1 _ hk2 ?_
  refine X1 _ hf ?_
  refine X1 _ (torder_ct oneM (by decide)) ?_
  exact ⟨trivial, r1 rfl, trivial⟩
end Go.Proofs.YtjpbijdpkdmeaaaGreat.Pv
namespace Go.Proofs.YtjpbijdpkdmeaaaGreat.Pv
open Go
theorem bulk_one {H : Type} (d : DataW H) : 1 ≤ Rows.uptoBulk d := by
  cases d with
  | lit l => cases l <;> simp [Rows.uptoBulk]
  | _ => simp [Rows.uptoBulk]
theorem bulk_part {H : Type} {d : DataW H} {l : List (DataW H)} (h : d ∈ l) : Rows.uptoBulk d ≤ Rows.uptoBulkAll l := by
  induction l with
  | nil => cases h
  | cons x r ih =>
    simp only [Rows.uptoBulkAll]
    cases List.mem_cons.1 h with
    | inl e => subst e; omega
    | inr e => have := ih e; omega
theorem bulk_len {H : Type} (l : List (DataW H)) : l.length ≤ Rows.uptoBulkAll l := by
  induction l with
  | nil => simp [Rows.uptoBulkAll]
  | cons x r ih => have := bulk_one x; simp only [Rows.uptoBulkAll, List.length_cons]; omega
theorem list_of {α : Type} {R : Nat → α → Prop} : ∀ (n : Nat), (∀ i, i < n → ∃ y, R i y) → ∃ l : List α, l.length = n ∧ ∀ (i : Nat) x, l[i]? = some x → R i x
  | 0, _ => ⟨[], rfl, fun i x h => by simp at h⟩
  | n + 1, h => by
    obtain ⟨l, h1, h2⟩ := list_of n fun i hi => h i (by omega)
    obtain ⟨y, hy⟩ := h n (by omega)
    refine ⟨l ++ [y], by simp [h1], fun i x hx => ?_⟩
    rcases Nat.lt_trichotomy i n with hlt | rfl | hgt
    · rw [List.getElem?_append_left (by omega)] at hx; exact h2 i x hx
    · rw [List.getElem?_append_right (by omega), h1, Nat.sub_self] at hx
      cases hx; exact hy
    · rw [List.getElem?_eq_none (by simp; omega)] at hx; cases hx
section
variable {H : Type} {enc : TypeId × Value → H} {W : World} {sp : Nat → Bool} {held : Bool}
abbrev okW (W : World) : Nat → Prop := fun b => b < W.heap.size
theorem rd_slice {t e sz : Nat} (ht : P.underlying t = some (.slice e)) (hc : P.cellsOf e = sz) (hsz : 0 < sz) {α : Type} (R : α → List PC) (hR : ∀ x, (R x).length = sz) (B : Nat) (hB : B ≤ 140737488355328) (Q : α → Prop)
    (elem : ∀ (n : Nat) (cs : List Value) (y : DataW H × List MemPlace), DataW.trod enc P W 0 sp held n e cs = some y → Rows.uptoBulk y.1 ≤ B → ∃ x, Q x ∧ ∀ (i : Nat) c, (R x)[i]? = some c → ∃ u, cs[i]? = some u ∧ Rel (okW W) W c u)
    {fuel : Nat} {cs : List Value} {y : DataW H × List MemPlace} (h : DataW.trod enc P W 0 sp held fuel t cs = some y) (hb : Rows.uptoBulk y.1 ≤ B) :
    ∃ (v : Value) (l : List α), cs = [v] ∧ l.length ≤ B ∧ (∀ x, x ∈ l → Q x) ∧ Rel (okW W) W (.sl sz (l.map R)) v := by
  rcases DataW.trod_slice ht h with ⟨rfl, rfl⟩ | ⟨a, len, cap, elems, rest, n, rfl, rfl, rfl, _, hl, hm, hlen, hel, _⟩
  · exact ⟨_, [], rfl, by simp, fun x hx => by simp at hx, .sl0⟩
  · simp only [Rows.uptoBulk] at hb
    have hlb := bulk_len (elems.map (·.1))
    rw [List.length_map] at hlb
    have each : ∀ i, i < len → ∃ x : α, Q x ∧ ∀ (q : Nat) c, (R x)[q]? = some c → ∃ u, W.cell? ((a.add (i * sz)).add q) = some u ∧ Rel (okW W) W c u := by
      intro i hi
      have h1 := hel i hi
      rw [List.getElem?_eq_getElem (by omega), Option.bind_eq_some_iff] at h1
      obtain ⟨cs', hcs, hy⟩ := h1
      rw [hc] at hcs
      obtain ⟨_, hcl, hcg⟩ := World.cells?_some hcs
      have hbe : Rows.uptoBulk (elems[i]).1 ≤ B := by
        have := bulk_part (d := (elems[i]).1) (l := elems.map (·.1)) (List.mem_map.2 ⟨_, List.getElem_mem _, rfl⟩)
        omega
      obtain ⟨x, hq, hx⟩ := elem n cs' _ hy hbe
      refine ⟨x, hq, fun q c hqc => ?_⟩
      obtain ⟨u, hu, hr⟩ := hx q c hqc
      exact ⟨u, (hcg q (by rw [← hR x]; exact (List.getElem?_eq_some_iff.1 hqc).1)).trans hu, hr⟩
    obtain ⟨l, hll, hlx⟩ := list_of len each
    refine ⟨_, l, rfl, by omega, fun x hx => ?_, ?_⟩
    · obtain ⟨i, hi⟩ := List.mem_iff_getElem?.1 hx
      exact (hlx i x hi).1
    · by_cases h0 : len = 0
      · subst h0
        have : l = [] := List.length_eq_zero_iff.1 hll
        subst this
        exact .sl0
      · obtain ⟨b, off, spot⟩ := a
        have hcell : ∀ (j q : Nat) x c, l[j]? = some x → (R x)[q]? = some c → ∃ u, W.cell? (((⟨b, off, spot⟩ : Addr).add (j * sz)).add q) = some u ∧ Rel (okW W) W c u := fun j q x c hj hq => (hlx j x hj).2 q c hq
        have hpos : 0 < l.length := by rw [hll]; exact Nat.pos_of_ne_zero h0
        obtain ⟨x0, hx0⟩ : ∃ x0, l[0]? = some x0 := ⟨l[0]'hpos, List.getElem?_eq_getElem hpos⟩
        have hposR : 0 < (R x0).length := by rw [hR]; exact hsz
        obtain ⟨c0, hc0⟩ : ∃ c0, (R x0)[0]? = some c0 := ⟨(R x0)[0]'hposR, List.getElem?_eq_getElem hposR⟩
        obtain ⟨u0, hu0, _⟩ := hcell 0 0 _ _ hx0 hc0
        have hu0' : W.cell? ⟨b, off, spot⟩ = some u0 := by simpa [Addr.add] using hu0
        have hspot : spot = none := by simpa using World.cell?_spot hu0'
        subst hspot
        have hblk : b < W.heap.size := by
          unfold World.cell? at hu0'
          cases hbb : W.heap[b]? with
          | none => simp [hbb] at hu0'
          | some o => exact (Array.getElem?_eq_some_iff.1 hbb).1
        have hadd : ∀ j q : Nat, (((⟨b, off, none⟩ : Addr).add (j * sz)).add q) = ⟨b, off + (j * sz + q), none⟩ := fun j q => by
          rw [Addr.add_lit, Addr.add_lit, Nat.add_assoc]
        have hlm : (l.map R).length = len := by rw [List.length_map, hll]
        rw [← hlm]
        have key : ∀ (j i : Nat) (el : List PC) (x : PC), (l.map R)[j]? = some el → el[i]? = some x → ∃ u, W.cell? ⟨b, off + (j * sz + i), none⟩ = some u ∧ Rel (okW W) W x u := fun j i el x hj hi => by
          rw [List.getElem?_map, Option.map_eq_some_iff] at hj
          obtain ⟨z, hz, rfl⟩ := hj
          obtain ⟨u, hu, hr⟩ := hcell j i z x hz hi
          rw [hadd] at hu
          exact ⟨u, hu, hr⟩
        refine .sl (fun j i => (W.cell? ⟨b, off + (j * sz + i), none⟩).getD (.bool true)) (by rw [hlm]; exact hl) (by rw [hlm, BIG_eq]; exact Nat.le_trans (by omega) hB) hblk hblk (fun j el hj => ?_) (fun j i el x hj hi => ?_) (fun j i el x hj hi => ?_)
        · rw [List.getElem?_map, Option.map_eq_some_iff] at hj
          obtain ⟨z, _, rfl⟩ := hj
          exact hR z
        · obtain ⟨u, hu, _⟩ := key j i el x hj hi
          rw [hu]; rfl
        · obtain ⟨u, hu, hr⟩ := key j i el x hj hi
          rw [hu]; exact hr
end
end Go.Proofs.YtjpbijdpkdmeaaaGreat.Pv
namespace Go.Proofs.YtjpbijdpkdmeaaaGreat.Pv
open Go
section
variable {H : Type} {enc : TypeId × Value → H} {W : World} {sp : Nat → Bool} {held : Bool} {B : Nat}
theorem wf_i64 {n : Int} (h : (Lit.int .i64 n).wf = true) : inR .i64 n := by
  have : -9223372036854775808 ≤ n ∧ n ≤ 9223372036854775807 := by simpa [Lit.wf, IntKind.min, IntKind.max, IntKind.signed, IntKind.bits] using h
  exact this
theorem rd_int {n : Nat} {cs : List Value} {y : DataW H × List MemPlace} (h : DataW.trod enc P W 0 sp held n 3 cs = some y) : ∃ z : Int, cs = [.int .i64 z] ∧ Rel (okW W) W (eI .i64 z) (.int .i64 z) := by
  obtain ⟨z, rfl, rfl, hw⟩ := DataW.trod_int Tryz.underlying3 h
  exact ⟨z, rfl, .sc (wf_i64 hw)⟩
theorem rd_ints (hB : B ≤ 140737488355328) {n : Nat} {cs : List Value} {y : DataW H × List MemPlace} (h : DataW.trod enc P W 0 sp held n 26 cs = some y) (hb : Rows.uptoBulk y.1 ≤ B) :
    ∃ (v : Value) (l : List Int), cs = [v] ∧ l.length ≤ B ∧ Rel (okW W) W (iSl l) v := by
  obtain ⟨v, l, h1, h2, _, h4⟩ := rd_slice Tryz.underlying26 (sz := 1) (by kernel_rfl) (by omega) (fun z : Int => [eI .i64 z]) (fun _ => rfl) B hB (fun _ => True) (fun n cs y h _ => by
    obtain ⟨z, rfl, hr⟩ := rd_int h
    refine ⟨z, trivial, fun i c hi => ?_⟩
    cases i with
    | zero => cases hi; exact ⟨_, rfl, hr⟩
    | succ i => simp at hi) h hb
  exact ⟨v, l, h1, h2, h4⟩
end
end Go.Proofs.YtjpbijdpkdmeaaaGreat.Pv
namespace Go.Proofs.YtjpbijdpkdmeaaaGreat.Pv
open Go
structure MdB (B : Nat) (m : Md) : Prop where
  w : m.words.length ≤ B
  s : ∀ x, x ∈ m.words → x.size ≤ B
  l : m.L.length ≤ B
  e : ∀ l, l ∈ m.L → l.length ≤ B ∧ ∀ x, x ∈ l → x.1.length ≤ B
section
variable {H : Type} {enc : TypeId × Value → H} {W : World} {sp : Nat → Bool} {held : Bool} {B : Nat}
theorem rd_strs (hB : B ≤ 140737488355328) {n : Nat} {cs : List Value} {y : DataW H × List MemPlace} (h : DataW.trod enc P W 0 sp held n 22 cs = some y) (hb : Rows.uptoBulk y.1 ≤ B) :
    ∃ (v : Value) (l : List ByteArray), cs = [v] ∧ l.length ≤ B ∧ (∀ s, s ∈ l → s.size ≤ B) ∧ Rel (okW W) W (sSl l) v := by
  refine rd_slice Tryz.underlying22 (sz := 1) (by kernel_rfl) (by omega) (fun s : ByteArray => [sS s]) (fun _ => rfl) B hB (fun s => s.size ≤ B) (fun n cs y h hb => ?_) h hb
  obtain ⟨s, rfl, rfl, _⟩ := DataW.trod_string Tryz.underlying9 h
  simp only [Rows.uptoBulk] at hb
  have hs : s.size ≤ B := by
    have : s.size = s.data.toList.length := rfl
    omega
  refine ⟨s, hs, fun i c hi => ?_⟩
  cases i with
  | zero => cases hi; exact ⟨_, rfl, .sc (show s.size ≤ BIG by rw [BIG_eq]; omega)⟩
  | succ i => simp at hi
theorem len_3 {α : Type} : ∀ {l : List α}, l.length = 3 → ∃ a b c, l = [a, b, c]
  | [], h => by simp at h
  | [_], h => by simp at h
  | [_, _], h => by simp at h
  | [a, b, c], _ => ⟨a, b, c, rfl⟩
  | _ :: _ :: _ :: _ :: _, h => by simp at h
theorem rd_entries (hB : B ≤ 140737488355328) {n : Nat} {cs : List Value} {y : DataW H × List MemPlace} (h : DataW.trod enc P W 0 sp held n 42 cs = some y) (hb : Rows.uptoBulk y.1 ≤ B) :
    ∃ (v : Value) (l : List En), cs = [v] ∧ l.length ≤ B ∧ (∀ x, x ∈ l → x.1.length ≤ B) ∧ Rel (okW W) W (eSl l) v := by
  refine rd_slice Tryz.underlying42 (sz := 3) (by kernel_rfl) (by omega) (fun x : En => [iSl x.1, eI .i64 x.2.1, eI .i64 x.2.2]) (fun _ => rfl) B hB (fun x => x.1.length ≤ B) (fun n cs y h hb => ?_) h hb
  obtain ⟨xs, m, rfl, rfl, hcl, hxl, hf⟩ := DataW.trod_struct Tryz.underlying38 h
  have hc : P.cellsOf 38 = 3 := by kernel_rfl
  have hc22 : P.cellsOf 26 = 1 := by kernel_rfl
  have hc3 : P.cellsOf 3 = 1 := by kernel_rfl
  rw [hc] at hcl
  obtain ⟨c0, c1, c2, rfl⟩ := len_3 hcl
  have hxl2 : xs.length = 3 := hxl
  obtain ⟨x0, x1, x2, rfl⟩ := len_3 hxl2
  have f0 : DataW.trod enc P W 0 sp held m 26 (([c0, c1, c2].drop 0).take (P.cellsOf 26)) = some x0 := hf 0 _ rfl
  have f1 : DataW.trod enc P W 0 sp held m 3 (([c0, c1, c2].drop 1).take (P.cellsOf 3)) = some x1 := hf 1 _ rfl
  have f2 : DataW.trod enc P W 0 sp held m 3 (([c0, c1, c2].drop 2).take (P.cellsOf 3)) = some x2 := hf 2 _ rfl
  rw [hc22] at f0
  rw [hc3] at f1 f2
  simp only [Rows.uptoBulk, Rows.uptoBulkAll, List.map_cons, List.map_nil] at hb
  obtain ⟨v, l, h1, h2, h3⟩ := rd_ints hB f0 (by omega)
  obtain ⟨z, h4, h5⟩ := rd_int f1
  obtain ⟨q, h6, h7⟩ := rd_int f2
  have e0 : c0 = v := by simpa using h1
  have e1 : c1 = .int .i64 z := by simpa using h4
  have e2 : c2 = .int .i64 q := by simpa using h6
  subst e0 e1 e2
  refine ⟨(l, z, q), h2, fun i c hi => ?_⟩
  match i, hi with
  | 0, hi => cases hi; exact ⟨_, rfl, h3⟩
  | 1, hi => cases hi; exact ⟨_, rfl, h5⟩
  | 2, hi => cases hi; exact ⟨_, rfl, h7⟩
  | i + 3, hi => simp at hi
theorem rd_levels (hB : B ≤ 140737488355328) {n : Nat} {cs : List Value} {y : DataW H × List MemPlace} (h : DataW.trod enc P W 0 sp held n 23 cs = some y) (hb : Rows.uptoBulk y.1 ≤ B) :
    ∃ (v : Value) (L : List (List En)), cs = [v] ∧ L.length ≤ B ∧ (∀ l, l ∈ L → l.length ≤ B ∧ ∀ x, x ∈ l → x.1.length ≤ B) ∧ Rel (okW W) W (eeSl L) v :=
  rd_slice Tryz.underlying23 (sz := 1) (by kernel_rfl) (by omega) (fun l : List En => [eSl l]) (fun _ => rfl) B hB (fun l => l.length ≤ B ∧ ∀ x, x ∈ l → x.1.length ≤ B) (fun n cs y h hb => by
    obtain ⟨v, l, rfl, a2, a3, hr⟩ := rd_entries hB h hb
    refine ⟨l, ⟨a2, a3⟩, fun i c hi => ?_⟩
    cases i with
    | zero => cases hi; exact ⟨_, rfl, hr⟩
    | succ i => simp at hi) h hb
theorem rd_model (hB : B ≤ 140737488355328) {n : Nat} {cs : List Value} {y : DataW H × List MemPlace} (h : DataW.trod enc P W 0 sp held n 25 cs = some y) (hb : Rows.uptoBulk y.1 ≤ B) :
    ∃ (m : Md) (v1 v2 : Value), cs = [.int .i64 m.frac, v1, v2] ∧ MdB B m ∧ inR .i64 m.frac ∧ Rel (okW W) W (sSl m.words) v1 ∧ Rel (okW W) W (eeSl m.L) v2 := by
  obtain ⟨xs, k, rfl, rfl, hcl, hxl, hf⟩ := DataW.trod_struct Tryz.underlying25 h
  have hc : P.cellsOf 25 = 3 := by kernel_rfl
  have hc1 : P.cellsOf 22 = 1 := by kernel_rfl
  have hc2 : P.cellsOf 23 = 1 := by kernel_rfl
  have hc3 : P.cellsOf 3 = 1 := by kernel_rfl
  rw [hc] at hcl
  obtain ⟨c0, c1, c2, rfl⟩ := len_3 hcl
  have hxl2 : xs.length = 3 := hxl
  obtain ⟨x0, x1, x2, rfl⟩ := len_3 hxl2
  have f0 : DataW.trod enc P W 0 sp held k 3 (([c0, c1, c2].drop 0).take (P.cellsOf 3)) = some x0 := hf 0 _ rfl
  have f1 : DataW.trod enc P W 0 sp held k 22 (([c0, c1, c2].drop 1).take (P.cellsOf 22)) = some x1 := hf 1 _ rfl
  have f2 : DataW.trod enc P W 0 sp held k 23 (([c0, c1, c2].drop 2).take (P.cellsOf 23)) = some x2 := hf 2 _ rfl
  rw [hc3] at f0
  rw [hc1] at f1
  rw [hc2] at f2
  simp only [Rows.uptoBulk, Rows.uptoBulkAll, List.map_cons, List.map_nil] at hb
  obtain ⟨z, h0, hz, hzw⟩ := DataW.trod_int Tryz.underlying3 f0
  obtain ⟨v1, ws, h1, h2, h3, h4⟩ := rd_strs hB f1 (by omega)
  obtain ⟨v2, L, h5, h6, h7, h8⟩ := rd_levels hB f2 (by omega)
  have e0 : c0 = .int .i64 z := by simpa using h0
  have e1 : c1 = v1 := by simpa using h1
  have e2 : c2 = v2 := by simpa using h5
  subst e0 e1 e2
  exact ⟨⟨z, ws, L⟩, _, _, rfl, ⟨h2, h3, h6, h7⟩, wf_i64 hzw, h4, h8⟩
end
end Go.Proofs.YtjpbijdpkdmeaaaGreat.Pv
namespace Go.Proofs.YtjpbijdpkdmeaaaGreat.Pv
open Go
theorem Small.rt {m : Md} (h : Small m) (hv : MdV m) (hc : chkM m = 0) : Rt m := ⟨h.mdl hv, hc, fun l hl => by have := (h.e l hl).1; omega⟩
theorem hasG_lt {A : List (List Int)} {g : List Int} (h : ¬ hasG A g < 0) : ∃ j : Nat, hasG A g = j ∧ j < A.length := by
  unfold hasG at *
  by_cases hm : g ∈ A
  · rw [if_pos hm]; exact ⟨_, rfl, idx_lt hm⟩
  · rw [if_neg hm] at h; omega
theorem hasG_m1 {A : List (List Int)} {g : List Int} (h : hasG A g < 0) : hasG A g = -1 := by
  unfold hasG at *
  by_cases hm : g ∈ A
  · rw [if_pos hm] at h; omega
  · rw [if_neg hm]
theorem tfinds_ct (m : Md) (g : List Int) (hv : MdV m) (hg : g.length ≤ 140737488355328) : Ct P 3 [mdA m, .c (iSl g)] [.c (.sc (.bool true))] := by
  refine Ct.go T_ok T_mix (N := 90) Tryz.func3 rfl rfl rfl rfl ?_
  refine X1 _ (small31_ct m hv) ?_
  refine bcase (fun h1 => ?_) (fun h1 => ?_)
  · refine X1 _ live35_ct ?_
    exact ⟨trivial, r1 rfl, trivial⟩
  have hs : Small m := by
    apply Classical.byContradiction
    intro hn
    rw [smallM_no hn] at h1; cases h1
  have hd := hs.mdl hv
  refine X1 _ (rchk_ct m hd) ?_
  refine ncase (fun h2 => ?_) (fun h2 => ?_)
  · refine X1 _ live35_ct ?_
    exact ⟨trivial, r1 rfl, trivial⟩
  have h := hs.rt hv h2
  have hk8 := h.k
  refine And.intro (by rw [iRow_len]; omega) ?_
  rw [iRow_len]
  refine dcase (fun h3 => ?_) (fun h3 => ?_)
  · refine X1 _ live35_ct ?_
    exact ⟨trivial, r1 rfl, trivial⟩
  refine X1 _ (build_ct m h) ?_
  refine X1 _ (tfind_ct m h g (by omega)) ?_
  refine And.intro (by rw [iRow_len]; omega) ?_
  rw [iRow_len]
  have out : (g.length < 1 ∨ m.L.length < g.length) → findT m.L g = -1 := fun h => by unfold findT; rw [if_pos h]
  refine dcase (fun h4 => ?_) (fun h4 => ?_)
  · rw [out (by omega)]
    refine X1 _ live35_ct ?_
    exact ⟨trivial, r1 rfl, trivial⟩
  refine And.intro (by rw [iRow_len]; omega) ?_
  rw [iRow_len]
  refine And.intro (by rw [eeRow_len]; omega) ?_
  rw [eeRow_len]
  refine dcase (fun h5 => ?_) (fun h5 => ?_)
  · rw [out (by omega)]
    refine X1 _ live35_ct ?_
    exact ⟨trivial, r1 rfl, trivial⟩
  have hin : ¬ (g.length < 1 ∨ m.L.length < g.length) := by omega
  have hF : findT m.L g = hasG (gA m.L (g.length - 1)) g := by unfold findT; rw [if_neg hin]
  have hkl : g.length - 1 < m.L.length := by omega
  have hr := rhas_ct m.L[g.length - 1] g (hd.e _ (List.getElem_mem hkl)) (by omega)
  rw [← gA_at hkl] at hr
  refine And.intro (by rw [iRow_len]; omega) ?_
  rw [iRow_len, hF]
  by_cases hneg : hasG (gA m.L (g.length - 1)) g < 0
  · have hno := find31_no m g hd (by omega) hin hneg
    rw [hasG_m1 hneg] at hr ⊢
    refine X1 _ (tcodes_no m h g.length (-1) (by omega)) ?_
    refine X1 _ hno ?_
    refine And.intro (by rw [iRow_len]; omega) ?_
    rw [iRow_len]
    refine X1 ((g.length - 1 : Nat) : Int) (wI (by omega) (by omega) (by omega)) ?_
    refine And.intro (by omega) (X1 _ (eeRow_get rfl hkl) ?_)
    refine X1 _ hr ?_
    refine X1 _ live35_ct ?_
    exact ⟨trivial, r1 rfl, trivial⟩
  · obtain ⟨j, hj, hjl⟩ := hasG_lt hneg
    obtain ⟨k, hkg⟩ : ∃ k, g.length = k + 1 := ⟨g.length - 1, by omega⟩
    have hk' : k < m.L.length := by omega
    have hgk : m.L.getD (g.length - 1) [] = m.L[k] := by rw [hkg, Nat.add_sub_cancel, getDL hk']
    have hjl2 : j < (m.L.getD (g.length - 1) []).length := by rw [gA_length] at hjl; exact hjl
    have hjl3 : j < m.L[k].length := by rw [← hgk]; exact hjl2
    have hyes := find31_yes m g hd (by omega) hin hj hjl2
    have he : (m.L.getD (g.length - 1) [])[j] = m.L[k][j] := by simp only [hgk]
    rw [he] at hyes
    rw [hj] at hr ⊢
    have hc := tcodes_ct m h k j hk' hjl3
    rw [hkg]
    refine X1 _ hc ?_
    refine X1 _ hyes ?_
    refine And.intro (by rw [iRow_len]; omega) ?_
    rw [iRow_len]
    refine X1 ((g.length - 1 : Nat) : Int) (wI (by omega) (by omega) (by omega)) ?_
    refine And.intro (by omega) (X1 _ (eeRow_get rfl hkl) ?_)
    refine X1 _ hr ?_
    refine ecase (fun _ => ?_) (fun h => absurd rfl h)
    refine ecase (fun _ => ?_) (fun h => absurd rfl h)
    refine ecase (fun _ => ?_) (fun h => absurd rfl h)
    refine X1 _ live35_ct ?_
    exact ⟨trivial, r1 rfl, trivial⟩
theorem MdB.v {m : Md} (h : MdB 1048576 m) : MdV m :=
  ⟨by have := h.w; omega, fun x hx => by have := h.s x hx; omega, by have := h.l; omega, fun l hl => ⟨by have := (h.e l hl).1; omega, fun x hx => by have := (h.e l hl).2 x hx; omega⟩⟩
theorem tfinds_row (m : Md) (g : List Int) (h : MdB 1048576 m) (_ : inR .i64 m.frac) (hg : g.length ≤ 140737488355328) : Ct P 3 [mdA m, .c (iSl g)] [.c (.sc (.bool true))] := tfinds_ct m g h.v hg
end Go.Proofs.YtjpbijdpkdmeaaaGreat.Pv
namespace Go.Proofs.YtjpbijdpkdmeaaaGreat.trieFinds
open Go Go.ChangeShapes Go.WideShapes Go.ChangeAt Go.RowKit
open Go.Proofs.YtjpbijdpkdmeaaaGreat.Pv (okW)
theorem own : ownKnob Tryz.prog.godebug = none := by kernel_rfl
theorem laidOut : laidOutB Tryz.prog = true := by kernel_rfl
theorem walk (m0 : Pv.Md) (l1 : List Int) (e0 : Pv.MdB 1048576 m0) (f0 : Pv.inR .i64 m0.frac) (e1 : l1.length ≤ 140737488355328) (W : World) (va0 vb0 v1 : Value)
    (h0 : Pv.Rel (okW W) W (Pv.sSl m0.words) va0) (hb0 : Pv.Rel (okW W) W (Pv.eeSl m0.L) vb0) (h1 : Pv.Rel (okW W) W (Pv.iSl l1) v1) :
    Calls Tryz.prog 3 #[.agg #[.int .i64 m0.frac, va0, vb0], v1] W fun e W' => e = .returned (.bool true) ∧ Below W.heap.size W W' := by
  have hct := Pv.tfinds_row m0 l1 e0 f0 e1
  have hrun := hct.run (Pv.Km.bare ⟨fun _ => none, fun _ => False⟩) (okW W) W [.agg #[.int .i64 m0.frac, va0, vb0], v1] (Pv.Hp.nil fun _ hb => hb) (.cons (.ag (.cons (.cl (.sc f0)) (.cons (.cl h0) (.cons (.cl hb0) .nil)))) (.cons (.c (.cl h1)) .nil))
  rcases hrun with ⟨_, hc⟩ | ⟨v, w', hv, _⟩
  · refine hc.mono fun e w' hq => ?_
    obtain ⟨v, K', ok', rfl, hr, hp, hf⟩ := hq
    obtain rfl : v = .bool true := by cases hr with | o hr => cases hr with | c hr => cases hr with | cl hr => cases hr with | sc _ => rfl
    exact ⟨rfl, hf.os, hf.tape, hf.output, hf.size, fun b hb => hf.keep b hb (fun k o L hk => by simp [Pv.Objs.get] at hk) (fun hid => hid)⟩
  · exfalso
    have := Pv.exec_call (P := Tryz.prog) (f := 3) (by kernel_rfl) #[.agg #[.int .i64 m0.frac, va0, vb0], v1] W
    have hv' : (callFunc 3 #[.agg #[.int .i64 m0.frac, va0, vb0], v1]).run Tryz.prog W = .ok (.value v) w' := hv
    rw [this] at hv'
    cases hv'
set_option maxRecDepth 100000 in
theorem contract (H : Type) (enc : TypeId × Value → H) (W : World) (base : Nat) (args : Array Value) (ds gs : List (DataW H)) (before : List MemPlace)
    (hval : ∀ (j : Nat) t v, Tryz.f3.params[j]? = some t → args[j]? = some v → Value.okWide Tryz.prog W .any base t v)
    (hW : DataW.Whole enc Tryz.prog Tryz.f3.params.toList Rows.trieFindsSpec.vars false W args.toList ds gs before) (hk : Rows.uptoSmall H (ds ++ gs) = true) :
    Calls Tryz.prog 3 args W fun e W' => ∃ v, e = .returned v ∧ Rows.trieFindsSpec.post enc Tryz.prog Tryz.f3 false true false false W args v W' := by
  have hW' := hW
  obtain ⟨p, q, hA0, hV, rfl, hfz, hnd⟩ := hW
  have hA : DataW.TrodAll enc Tryz.prog W 0 (fun _ => true) true Tryz.f3.params.toList args.toList ds p := hA0
  rw [Tryz.params3] at hA hval
  obtain ⟨v0, vs0, d0, ds0, p0, q0, hargs0, rfl, rfl, h0, r_0⟩ := trodAll_cons hA
  obtain ⟨v1, vs1, d1, ds1, p1, q1, hargs1, rfl, rfl, h1, r_1⟩ := trodAll_cons r_0
  obtain ⟨rfl, rfl, rfl⟩ := trodAll_nil r_1
  obtain rfl : args = #[v0, v1] := by cases args; simp_all
  obtain ⟨rfl, rfl⟩ := trodVars_none hV
  clear hA0
  have hb : Rows.uptoBulkAll [d0, d1] ≤ 1048576 := by
    have h := of_decide_eq_true hk
    simpa using h
  simp only [Rows.uptoBulkAll] at hb
  obtain ⟨c0, rfl, _⟩ := okWide_struct Tryz.underlying25 (hval 0 25 v0 rfl rfl)
  obtain ⟨n0, t0⟩ := h0
  obtain ⟨a1, m1, c1, rfl⟩ := okWide_slice Tryz.underlying26 (hval 1 26 v1 rfl rfl)
  obtain ⟨n1, t1⟩ := h1
  obtain ⟨B, hB⟩ : ∃ B, B = 1048576 := ⟨_, rfl⟩
  rw [← hB] at hb
  have hBB : B ≤ 140737488355328 := by omega
  obtain ⟨m0, va0, vb0, r0, e0, f0, ra0, rb0⟩ := Pv.rd_model hBB t0 (show Rows.uptoBulk d0 ≤ B by omega)
  obtain rfl : c0 = #[.int .i64 m0.frac, va0, vb0] := by cases c0; simpa [Value.cells] using r0
  obtain ⟨u1, l1, e1, hh1, hr1⟩ := Pv.rd_ints hBB t1 (show Rows.uptoBulk d1 ≤ B by omega)
  have e1' : u1 = .slice a1 m1 c1 := by simpa [Value.cells] using e1.symm
  subst e1'
  refine (walk m0 l1 (hB ▸ e0) f0 (by omega) W _ _ _ ra0 rb0 hr1).mono fun e W' ⟨he, hg⟩ => ?_
  subst he
  refine ⟨_, rfl, _, _, _, [], (p0 ++ (p1 ++ [])), [], hW', ?_, ?_, ?_, hg.frame _, fun h => by cases h⟩
  · exact trodAll_cons_mk (shut_bool Tryz.underlying4 _) trodAll_mk0
  · exact trodAll_cons_mk (Below.trod laidOut (by kernel_rfl) (of_decide_eq_true (by kernel_rfl)) ⟨n0, t0⟩ hg (DataW.trod_lt _ _ _ _ t0)) (trodAll_cons_mk (Below.trod laidOut (by kernel_rfl) (of_decide_eq_true (by kernel_rfl)) ⟨n1, t1⟩ hg (DataW.trod_lt _ _ _ _ t1)) trodAll_mk0)
  · rfl
set_option maxRecDepth 100000 in
theorem lifted (os : Os) (started : os.Started) (H : Type) (enc : TypeId × Value → H) (F : Stop.Interp) :
    ReturnsInHanded {} Tryz.checked os 3 .any ((Rows.OpenSpec.upto Rows.trieFindsSpec).pre6 enc Tryz.prog Tryz.f3 Rows.trieFindsUptoRow.domain false) (((Rows.OpenSpec.upto Rows.trieFindsSpec).at F).post enc Tryz.prog Tryz.f3 false true false false) := by
  refine returnsInHanded_of_cond (C := Tryz.checked) (s := Rows.OpenSpec.upto Rows.trieFindsSpec) (k := Rows.uptoSmall) rfl own started (by kernel_rfl) Tryz.func3
    (OpenSpec.witness (enc := enc) (C := Tryz.checked) (s := Rows.OpenSpec.upto Rows.trieFindsSpec) (k := Rows.uptoSmall) rfl false ⟨#[], #[.agg #[.int .i64 0, .slice none 0 0, .slice none 0 0], .slice none 0 0], []⟩ 8 (by kernel_rfl) (by kernel_rfl) (by kernel_rfl)
      (x := ([.agg [.lit (.int .i64 0), .nil, .nil], .nil], [], [])) (by kernel_rfl) rfl (by kernel_rfl)) ?_
  intro W base args ds gs before hval hW _ hk _
  exact contract H enc W base args ds gs before hval hW hk
theorem over : Rows.trieFindsUptoRow.holds Tryz.pinned (Rows.OpenSpec.upto Rows.trieFindsSpec) :=
  OpenClaim.holds_of_cond 3 Tryz.f3 rfl rfl rfl rfl rfl rfl rfl ⟨rfl, rfl, rfl, rfl, rfl⟩ rfl rfl rfl rfl rfl (by kernel_rfl) Tryz.func3 (by kernel_rfl)
    (of_decide_eq_true (by kernel_rfl)) (by unfold Func.isWrapper; first | (rw [if_pos (by decide +kernel)]; kernel_rfl) | (rw [if_neg (by decide +kernel)]; exact ⟨rfl, rfl⟩))
    (fun os started H enc _ F => lifted os started H enc F)
theorem proved : Rows.TrieFindsUptoSaid :=
  over
end Go.Proofs.YtjpbijdpkdmeaaaGreat.trieFinds
