/-
  What is proved: the statement whose theorem stands at the end of this text; the texts before it bear its parts.
-/
import Derived.Test.YtpmchgndnhgncaaGreatKcO
import Derived.Test.YtpmchgndnhgncaaGreatRows
import Derived.ProofKit
import Derived.OpenShut
import Derived.Carry
import Derived.WalkKit
import Derived.JoinedCond
namespace Go.Proofs.YtpmchgndnhgncaaGreat.Pv
open Go
section
variable {Lc : List (List Cnt)} {words : Int}
abbrev rM (Lc : List (List Cnt)) (words : Int) : A1 := mV Lc words (rRows Lc)
theorem rprob0_ct (h : List Int) (w : Int) (hw : w < 0 ∨ words ≤ w ∨ w = 1) : Ct P 15 [rM Lc words, .c (iSl h), .c (eI .i64 w)] [rP (0, 1)] := by
  refine Ct.go T_ok T_mix (N := 97) Tryz.func15 rfl rfl rfl rfl ?_
  refine dcase (fun h1 => ?_) (fun h1 => ?_)
  · refine X1 _ (rint_ct 0 (by omega)) ?_
    exact ⟨trivial, rc rfl, trivial⟩
  · refine dcase (fun h2 => ?_) (fun h2 => ?_)
    · refine X1 _ (rint_ct 0 (by omega)) ?_
      exact ⟨trivial, rc rfl, trivial⟩
    · refine ecase (fun h3 => ?_) (fun h3 => ?_)
      · refine X1 _ (rint_ct 0 (by omega)) ?_
        exact ⟨trivial, rc rfl, trivial⟩
      · exfalso; omega
theorem rat_nz {l : List Cnt} (a : Int) : at4 (off28 (numN l 1) (numN l 2) (numN l 3) (numN l 4) 1) (off28 (numN l 1) (numN l 2) (numN l 3) (numN l 4) 2) (off28 (numN l 1) (numN l 2) (numN l 3) (numN l 4) 3) a = atN l a := rfl
set_option maxHeartbeats 4000000 in
theorem rprobS_ct (hx : XOk Lc words) (w : Int) (hw : ¬ (w < 0 ∨ words ≤ w ∨ w = 1)) (h : List Int) (hlt : h.length < Lc.length) {p : Nat × Nat} (hp : Bd 30000 p)
    (hz : h.length = 0 → p = p0F words) (hnz : h.length ≠ 0 → Ct P 15 [rM Lc words, .c (iSl (h.drop 1)), .c (eI .i64 w)] [rP p]) :
    Ct P 15 [rM Lc words, .c (iSl h), .c (eI .i64 w)] [rP (stepF Lc w h p)] := by
  have h8 := hx.len8
  have w3 := hx.w3
  have w6 := hx.w6
  have i1 : Bd 63 (1, 1) := int_bd (v := 1) (by omega) (by omega)
  have i2 : Bd 63 ((words - 1).toNat, 1) := int_bd (by omega) (by omega)
  refine Ct.go T_ok T_mix (N := 97) Tryz.func15 rfl rfl rfl rfl ?_
  refine dcase (fun h1 => ?_) (fun h1 => ?_)
  · exfalso; omega
  refine dcase (fun h2 => ?_) (fun h2 => ?_)
  · exfalso; omega
  refine ecase (fun h3 => ?_) (fun h3 => ?_)
  · exfalso; omega
  refine And.intro (by rw [iRow_len]; omega) ?_
  refine And.intro (by rw [ccRow_len]; omega) ?_
  rw [iRow_len, ccRow_len]
  refine dcase (fun h4 => ?_) (fun h4 => ?_)
  · exfalso; omega
  refine X1 _ (rint_ct 1 (by omega)) ?_
  refine X1 (((words - 1).toNat : Nat) : Int) (wI (by omega) (by omega) (by omega)) ?_
  refine X1 _ (rint_ct (words - 1).toNat (by omega)) ?_
  refine X1 _ (fdiv_ct i1 i2 (by show (words - 1).toNat ≠ 0; omega) (by omega) (by omega)) ?_
  refine And.intro rfl ?_
  refine And.intro (by rw [iRow_len]; omega) ?_
  rw [iRow_len]
  refine dcase (fun h5 => ?_) (fun h5 => ?_)
  refine ⟨1, h.length, rfl, by show ((iRow h).length : Int) = _; rw [iRow_len], by omega, by rw [iRow_len]; exact Nat.le_refl _, ?_⟩
  rw [iRow_sub, show (h.drop 1).take (h.length - 1) = h.drop 1 from List.take_of_length_le (by rw [List.length_drop]; omega)]
  refine X1 _ (hnz (by omega)) ?_
  refine And.intro rfl ?_
  rotate_left
  have hp0 := hz (by omega)
  unfold p0F at hp0
  rw [← hp0]
  all_goals
    have hln := hx.lim.at' hlt
    have htn := hx.tot _ (List.getElem_mem hlt)
    have hlv : lvl Lc h = Lc[h.length] := lvl_eq hlt
    have htl := tot_lvl hx h
    have hat : tot (after Lc[h.length] h) ≤ 4611686018427387904 := Int.le_trans (tot_filter _ _) htn
    refine And.intro (by rw [iRow_len]; omega) ?_
    rw [iRow_len]
    refine And.intro (by omega) (X1 _ (ccRow_get rfl hlt) ?_)
    have hra := rafter_ct Lc[h.length] h hln (by omega) htn
    rw [cen_c6, ← hlv] at hra
    rw [← hlv]
    refine X1 _ hra ?_
    refine ⟨by decide, by decide, .c (nI .i64 (totN (after (lvl Lc h) h))), rfl, by show (2 : Nat) ≤ 6; omega, ?_⟩
    refine ecase (fun h6 => ?_) (fun h6 => ?_)
    · have h7 : totN (after (lvl Lc h) h) = 0 := by
        have : ((totN (after (lvl Lc h) h) : Nat) : Int) = 0 := h6
        omega
      unfold stepF
      rw [if_pos h7]
      exact ⟨trivial, rc rfl, trivial⟩
    · have h7 : totN (after (lvl Lc h) h) ≠ 0 := fun h => h6 (congrArg Nat.cast h)
      have hnb := num29_bd hx (h ++ [w])
      have hnum := number29_ct Lc words (rRows Lc) (h ++ [w]) hx.lim (by simp; omega)
      have how := owF_bd hx w h
      have hby := byF_bd hx w h h7
      have hg := rGam_bd hx h
      unfold stepF
      rw [if_neg h7]
      obtain ⟨aN, haN⟩ : ∃ aN : Nat, num29 Lc (h ++ [w]) = aN := ⟨(num29 Lc (h ++ [w])).toNat, by omega⟩
      rw [haN] at hnum hnb
      have eow : owF Lc w h = fSub (aN, 1) (atN (lvl Lc h) aN) := by unfold owF; rw [haN]; rfl
      rw [eow] at how hby ⊢
      have erow : iRow (h ++ [w]) = iRow h ++ [[eI .i64 w]] := by simp [iRow]
      rw [show iSl (h ++ [w]) = .sl 1 (iRow h ++ [[eI .i64 w]]) from congrArg _ erow] at hnum
      refine ⟨rfl, by rw [iRow_len]; show (0 + h.length + 768) * 8 ≤ _; omega, by rw [iRow_len]; show 0 + h.length ≤ _; omega, nil_closed, iRow_closed, ?_⟩
      refine ⟨rfl, by rw [List.length_append, iRow_len]; show (0 + h.length + 1 + 768) * 8 ≤ _; omega, by rw [List.length_append, iRow_len]; show 0 + h.length + 1 ≤ _; omega, iRow_closed, one_closed rfl, ?_⟩
      refine X2 .look (X1 _ hnum ?_)
      refine And.intro rfl ?_
      refine X1 _ (rint_ct aN (by omega)) ?_
      refine And.intro (by rw [iRow_len]; omega) ?_
      rw [iRow_len]
      refine And.intro (by omega) (X1 _ (rRows_get rfl hlt) ?_)
      refine X1 _ (at28_ct _ _ _ _ _) ?_
      have ia : Bd 63 (aN, 1) := int_bd (by omega) (by omega)
      have hab := atN_bd hln (aN : Int)
      have eow2 : fSub (aN, 1) (atN Lc[h.length] aN) = fSub (aN, 1) (atN (lvl Lc h) aN) := by rw [hlv]
      have hown := fsub_ct (k := 63) (m := 500) ia hab (by omega) (by omega)
      rw [eow2] at hown
      refine X1 _ hown ?_
      refine And.intro rfl ?_
      have it : Bd 63 (totN (after (lvl Lc h) h), 1) := int_bd (by omega) (by omega)
      refine X1 _ (rint_ct (totN (after (lvl Lc h) h)) (by omega)) ?_
      refine X1 _ (fdiv_ct how it h7 (by omega) (by omega)) ?_
      refine X1 _ (rgam_ct Lc words h hx.lim hx.tot (by omega)) ?_
      refine X1 _ (fmul_ct hg hp (by omega) (by omega)) ?_
      refine X1 _ (fadd_ct hby (fMul_bd hg hp) (by omega) (by omega)) ?_
      refine And.intro rfl ?_
      exact ⟨trivial, rc rfl, trivial⟩
theorem rprob1_ct (hx : XOk Lc words) (w : Int) (hw : ¬ (w < 0 ∨ words ≤ w ∨ w = 1)) : ∀ (h : List Int), h.length < Lc.length → Ct P 15 [rM Lc words, .c (iSl h), .c (eI .i64 w)] [rP (pF Lc words w h)]
  | [], hlt => rprobS_ct hx w hw [] hlt ((p0F_bd hx).le (by omega)) (fun _ => rfl) (fun h => absurd rfl h)
  | x :: t, hlt => rprobS_ct hx w hw (x :: t) hlt ((pF_bd hx w t).le (by have := hx.len8; simp at hlt; omega)) (fun h => by simp at h) (fun _ => rprob1_ct hx w hw t (by simp at hlt; omega))
end
end Go.Proofs.YtpmchgndnhgncaaGreat.Pv
namespace Go.Proofs.YtpmchgndnhgncaaGreat.Pv
open Go
section
variable {Lc : List (List Cnt)} {words : Int}
theorem rprob_ct (hx : XOk Lc words) (h : List Int) (hl : h.length ≤ 1000000) (w : Int) : Ct P 15 [rM Lc words, .c (iSl h), .c (eI .i64 w)] [rP (probF Lc words h w)] := by
  have h8 := hx.len8
  have h0 := hx.len0
  have hclt := cutH_lt hx h
  unfold probF
  by_cases hw : w < 0 ∨ words ≤ w ∨ w = 1
  · rw [if_pos hw]; exact rprob0_ct h w hw
  rw [if_neg hw]
  by_cases hc : Lc.length ≤ h.length
  · have hrec := rprob1_ct hx w hw (cutH Lc h) hclt
    have e : cutH Lc h = h.drop (h.length - Lc.length + 1) := if_pos hc
    rw [e] at hrec ⊢
    refine Ct.go T_ok T_mix (N := 97) Tryz.func15 rfl rfl rfl rfl ?_
    refine dcase (fun h1 => ?_) (fun h1 => ?_)
    · exfalso; omega
    refine dcase (fun h2 => ?_) (fun h2 => ?_)
    · exfalso; omega
    refine ecase (fun h3 => ?_) (fun h3 => ?_)
    · exfalso; omega
    refine And.intro (by rw [iRow_len]; omega) ?_
    refine And.intro (by rw [ccRow_len]; omega) ?_
    rw [iRow_len, ccRow_len]
    refine dcase (fun h4 => ?_) (fun h4 => ?_)
    · refine And.intro (by rw [iRow_len]; omega) ?_
      refine And.intro (by rw [ccRow_len]; omega) ?_
      rw [iRow_len, ccRow_len]
      refine X1 ((h.length - Lc.length : Nat) : Int) (wI (by omega) (by omega) (by omega)) ?_
      refine X1 ((h.length - Lc.length + 1 : Nat) : Int) (wI (by omega) (by omega) (by omega)) ?_
      refine ⟨h.length - Lc.length + 1, h.length, rfl, by show ((iRow h).length : Int) = _; rw [iRow_len], by omega, by rw [iRow_len]; exact Nat.le_refl _, ?_⟩
      rw [iRow_sub, show (h.drop (h.length - Lc.length + 1)).take (h.length - (h.length - Lc.length + 1)) = h.drop (h.length - Lc.length + 1) from List.take_of_length_le (by rw [List.length_drop]; omega)]
      refine X1 _ hrec ?_
      refine And.intro rfl ?_
      exact ⟨trivial, rc rfl, trivial⟩
    · exfalso; omega
  · have e : cutH Lc h = h := if_neg hc
    rw [e] at hclt ⊢
    exact rprob1_ct hx w hw h hclt
end
end Go.Proofs.YtpmchgndnhgncaaGreat.Pv
namespace Go.Proofs.YtpmchgndnhgncaaGreat.Pv
open Go
theorem CtO.args {P : Program} {f : FuncId} {O O' : Objs} {args args' res : List A1} (h : CtO P f O args O' res) (hw : ∀ K ok w vs, RelAs K ok w args' vs → RelAs K ok w args vs) : CtO P f O args' O' res :=
  ⟨fun K ok w vs hp hr => h.run K ok w vs hp (hw K ok w vs hr)⟩
theorem RelAs.set {K : Km} {ok : Nat → Prop} {w : World} {xs : List A1} {vs : List Value} {i : Nat} {x y : A1} (h : RelAs K ok w xs vs) (hx : xs[i]? = some x) (hw : ∀ u, RelA K ok w x u → RelA K ok w y u) : RelAs K ok w (xs.set i y) vs :=
  ⟨by rw [List.length_set]; exact h.len, fun j z hj => by
    by_cases e : i = j
    · subst e
      rw [List.getElem?_set_self (List.getElem?_eq_some_iff.1 hx).1] at hj
      cases hj
      obtain ⟨u, h1, h2⟩ := h.get i x hx
      exact ⟨u, h1, hw u h2⟩
    · rw [List.getElem?_set_ne e] at hj
      exact h.get j z hj⟩
theorem nil_row {K : Km} {ok : Nat → Prop} {w : World} {sz : Nat} (u : Value) (h : RelA K ok w (.c (.sc (.slice none 0 0))) u) : RelA K ok w (.c (.sl sz [])) u := by
  cases h with
  | c h =>
    cases h with
    | cl h =>
      cases h with
      | sc _ => exact .c (.cl .sl0)
theorem nil_el {K : Km} {ok : Nat → Prop} {w : World} (u : Value) (h : RelA K ok w (.c (.sl 1 [[.sc (.slice none 0 0)]])) u) : RelA K ok w (.c (ccSl [[]])) u := by
  cases h with
  | c h =>
    cases h with
    | cl h =>
      cases h with
      | sl g h1 h2 h3 h4 h5 h6 h7 =>
        refine .c (.cl (.sl g h1 h2 h3 h4 (fun j el hj => ?_) (fun j i el x hj hi => ?_) (fun j i el x hj hi => ?_)))
        · cases j with
          | zero => simp [ccRow] at hj; subst hj; rfl
          | succ j => simp [ccRow] at hj
        · cases j with
          | zero =>
            simp [ccRow] at hj; subst hj
            cases i with
            | zero => exact h6 0 0 _ _ rfl rfl
            | succ i => simp at hi
          | succ j => simp [ccRow] at hj
        · cases j with
          | zero =>
            simp [ccRow] at hj; subst hj
            cases i with
            | zero =>
              simp at hi; subst hi
              have := h7 0 0 _ _ rfl rfl
              generalize g 0 0 = v at *
              cases this with
              | sc _ => exact .sl0
            | succ i => simp at hi
          | succ j => simp [ccRow] at hj
theorem gW_key {words : Int} {g : List Int} (hw : words ≤ 65536) (h : gW words g = 0) : keyOk g = true := by
  unfold gW at h
  split at h
  · cases h
  · rename_i hb
    unfold keyOk
    rw [List.all_eq_true]
    intro v hv
    rw [Bool.and_eq_true, decide_eq_true_eq, decide_eq_true_eq]
    have : ¬ badW words v = true := fun hbad => hb (List.any_eq_true.2 ⟨v, hv, hbad⟩)
    unfold badW at this
    simp at this
    omega
theorem kwL_all {words : Int} : ∀ {l : List Cnt}, kwL words l = 0 → ∀ x, x ∈ l → gW words x.1 = 0
  | [], _, x, hx => by simp at hx
  | y :: l, h, x, hx => by
    unfold kwL at h
    split at h
    · rename_i h1; exact absurd h h1
    · rename_i h1
      rcases List.mem_cons.1 hx with rfl | hx
      · omega
      · exact kwL_all h x hx
theorem kwLL_all {words : Int} : ∀ {L : List (List Cnt)}, kwLL words L = 0 → ∀ l, l ∈ L → kwL words l = 0
  | [], _, l, hl => by simp at hl
  | m :: L, h, l, hl => by
    unfold kwLL at h
    split at h
    · rename_i h1; exact absurd h h1
    · rename_i h1
      rcases List.mem_cons.1 hl with rfl | hl
      · omega
      · exact kwLL_all h l hl
theorem xok_of {L : List (List Cnt)} {words : Int} (hL : CCSum L) (h : wrong29 L words = 0) (hn : ∀ l, l ∈ L → ∀ x, x ∈ l → x.2 ≤ 4611686018427387904) : XOk (counts L) words := by
  obtain ⟨hok, w1, w2, hkw⟩ := wrong29_ok h
  refine ⟨counts_lim hL.lim, hL.tot, fun l hl => counts_rises hok hl, by rw [counts_len]; exact hok.len0, by rw [counts_len]; exact hok.len8, w1, w2, fun l hl x hx => ?_, fun l hl x hx => ?_⟩
  · obtain ⟨n, hlt, rfl⟩ := counts_mem hl
    obtain ⟨y, hy, rfl⟩ := List.mem_map.1 hx
    rw [cnt1_g]
    exact gW_key w2 (kwL_all (kwLL_all hkw _ (List.getElem_mem hlt)) y hy)
  · obtain ⟨n, hlt, rfl⟩ := counts_mem hl
    obtain ⟨y, hy, rfl⟩ := List.mem_map.1 hx
    have h1 := (hok.form n hlt y hy).2
    have h2 := hn _ (List.getElem_mem hlt) y hy
    unfold cnt1
    split
    · have : ahead (L.getD (n + 1) []) y.1 ≤ 1000000 := by
        by_cases h3 : n + 1 < L.length
        · have e : L.getD (n + 1) [] = L[n + 1] := by simp [List.getD_eq_getElem?_getD, h3]
          rw [e]
          exact Nat.le_trans (List.length_filter_le _ _) (hL.lim.at' h3).len
        · have e : L.getD (n + 1) [] = [] := by simp [List.getD_eq_getElem?_getD, List.getElem?_eq_none (Nat.le_of_not_lt h3)]
          rw [e]; simp [ahead]
      show 0 ≤ ((ahead _ _ : Nat) : Int) ∧ ((ahead _ _ : Nat) : Int) ≤ _
      omega
    · show 0 ≤ y.2 ∧ y.2 ≤ _
      omega
end Go.Proofs.YtpmchgndnhgncaaGreat.Pv
namespace Go.Proofs.YtpmchgndnhgncaaGreat.Pv
open Go
abbrev L0 : List (List Cnt) := [[]]
theorem L0_sum : CCSum L0 := by
  refine ⟨⟨by decide, fun l hl => ?_⟩, fun l hl => ?_⟩
  · simp at hl; subst hl; exact ⟨by simp, fun x hx => by simp at hx⟩
  · have : l = [] := by simpa [counts, L0] using hl
    subst this; decide
theorem L0_wrong : wrong29 L0 3 = 0 := by decide
theorem L0_xok : XOk (counts L0) 3 := xok_of L0_sum L0_wrong fun l hl x hx => by simp at hl; subst hl; simp at hx
theorem new_live : CtO P 27 [] [.c (.sl 1 [[.sc (.slice none 0 0)]]), .c (eI .i64 3)] [(36, some (xO L0 3 34)), (34, some (.mp false [] []))] [.c (.ad 36 0), .c (eI .i64 0)] :=
  (new_ok L0 3 L0_sum L0_wrong).args fun K ok w vs h => h.set (i := 0) rfl nil_el
theorem prob_nil {Lc : List (List Cnt)} {words : Int} (hx : XOk Lc words) (m : MM Lc) (w : Int) :
    ∃ m' : MM Lc, CtO P 12 (xOs Lc words m.1.1 m.1.2) [.c (.ad 1000000 0), .c (.sc (.slice none 0 0)), .c (eI .i64 w)] (xOs Lc words m'.1.1 m'.1.2) [qP (probF Lc words [] w)] := by
  obtain ⟨m', h⟩ := kprob_ct hx m [] (by simp) w
  exact ⟨m', h.args fun K ok w' vs hr => hr.set (i := 1) rfl nil_row⟩
abbrev σL : List (Nat × Nat) := [(50, 1000000), (51, 1000001)]
abbrev νL : List (Nat × Nat) := [(1000000, 50), (1000001, 51)]
theorem frac_eq : fracS 1 2 = ⟨#[49, 47, 50]⟩ := by simp [ByteArray.ext_iff, fracS, digS]
theorem frac_half : ((fracS 1 2).toList == (⟨#[49, 47, 50]⟩ : ByteArray).toList) = true := by rw [frac_eq]; exact beq_self_eq_true _
theorem live_ct : Ct P 8 [] [.c (.sc (.bool true))] := by
  obtain ⟨m1, p1⟩ := prob_nil L0_xok ⟨([], []), MOk.nil⟩ 0
  obtain ⟨m2, p2⟩ := prob_nil L0_xok m1 2
  obtain ⟨m3, p3⟩ := prob_nil L0_xok m2 1
  rw [show probF (counts L0) 3 [] 0 = (1, 2) by decide] at p1
  rw [show probF (counts L0) 3 [] 2 = (1, 2) by decide] at p2
  rw [show probF (counts L0) 3 [] 1 = (0, 1) by decide] at p3
  have ht := rtext_ct 1 2 (by decide) (by decide)
  rw [show dn 2 = 2 by decide] at ht
  refine Ct.go (Ty.own_ok [27, 1000001, 1000003] T_ok) T_mix (N := 37) Tryz.func8 rfl rfl rfl rfl ?_
  refine X2 (.own [] [(36, 50), (34, 51)]) ?_
  refine ⟨_, _, new_live, ?_⟩
  refine X2 (.own σL νL) ?_
  refine ⟨_, _, p1, ?_⟩
  refine X1 _ ht ?_
  refine btrue frac_half ?_
  refine X2 (.own σL νL) ?_
  refine ⟨_, _, p2, ?_⟩
  refine X1 _ ht ?_
  refine btrue frac_half ?_
  refine X2 (.own σL νL) ?_
  refine ⟨_, _, p3, ?_⟩
  refine X1 _ (qzero_ct 0 1 (Nat.le_trans (dg_len (k := 1) (by omega) (by omega)) (by omega))) ?_
  refine X2 (.own σL νL) ?_
  refine ⟨_, _, order_ct L0_xok, ?_⟩
  refine X2 (.own σL νL) ?_
  refine ⟨_, _, words_ct, ?_⟩
  exact ⟨trivial, r1 rfl, trivial⟩
end Go.Proofs.YtpmchgndnhgncaaGreat.Pv
namespace Go.Proofs.YtpmchgndnhgncaaGreat.Pv
open Go
theorem small18_lim {l : List Cnt} (h : small18 l 60 12 = true) : l.length ≤ 60 ∧ ∀ x, x ∈ l → x.1.length ≤ 12 := by
  unfold small18 at h
  rw [Bool.and_eq_true, List.all_eq_true] at h
  obtain ⟨h1, h2⟩ := h
  have h3 : (l.length : Int) ≤ 60 := by simpa using h1
  refine ⟨by omega, fun x hx => by have h4 := h2 x hx; have h5 : (x.1.length : Int) ≤ 12 := by simpa using h4
                                   omega⟩
theorem small23_lim {L : List (List Cnt)} (h : small23 L = true) : CCLim L ∧ ∀ l, l ∈ L → l.length ≤ 60 := by
  unfold small23 at h
  rw [Bool.and_eq_true, List.all_eq_true] at h
  obtain ⟨h1, h2⟩ := h
  have h3 : (L.length : Int) ≤ 12 := by simpa using h1
  refine ⟨⟨by omega, fun l hl => ?_⟩, fun l hl => (small18_lim (h2 l hl)).1⟩
  obtain ⟨a1, a2⟩ := small18_lim (h2 l hl)
  exact ⟨by omega, fun x hx => by have := a2 x hx; omega⟩
theorem mayL_le : ∀ {l : List Cnt} {a b : Int}, mayL a l = some b → b ≤ a ∧ ∀ x, x ∈ l → x.2 ≤ a
  | [], a, b, h => by simp [mayL] at h; subst h; exact ⟨Int.le_refl _, fun x hx => by simp at hx⟩
  | y :: l, a, b, h => by
    rw [mayL] at h
    split at h
    · cases h
    · rename_i hy
      obtain ⟨h1, h2⟩ := mayL_le h
      have h3 : mx0 y.2 ≥ 0 := by unfold mx0; split <;> omega
      refine ⟨by omega, fun x hx => ?_⟩
      rcases List.mem_cons.1 hx with rfl | hx
      · omega
      · have := h2 x hx; omega
theorem mayLL_le : ∀ {L : List (List Cnt)} {a : Int}, (mayLL a L).isSome = true → ∀ l, l ∈ L → ∀ x, x ∈ l → x.2 ≤ a
  | [], a, h, l, hl, _, _ => by simp at hl
  | m :: L, a, h, l, hl, x, hx => by
    rw [mayLL] at h
    cases hm : mayL a m with
    | none => rw [hm] at h; cases h
    | some b =>
      rw [hm] at h
      obtain ⟨h1, h2⟩ := mayL_le hm
      rcases List.mem_cons.1 hl with rfl | hl
      · exact h2 x hx
      · have := mayLL_le (show (mayLL b L).isSome = true from h) l hl x hx
        omega
theorem tot_le_mul {M : Int} (hM : 0 ≤ M) : ∀ (l : List Cnt), (∀ x, x ∈ l → x.2 ≤ M) → tot l ≤ l.length * M
  | [], _ => by simp [tot]
  | y :: l, h => by
    have ih := tot_le_mul hM l fun x hx => h x (List.mem_cons_of_mem _ hx)
    have hy := h y (by simp)
    have e : ((y :: l).length : Int) * M = l.length * M + M := by
      rw [List.length_cons]; push_cast; rw [Int.add_mul, Int.one_mul]
    rw [e]
    unfold tot at ih ⊢
    by_cases hl : liveC y = true
    · rw [List.filter_cons_of_pos (p := liveC) hl, List.map_cons, List.sum_cons]; omega
    · rw [List.filter_cons_of_neg (p := liveC) hl]; omega
theorem ccsum_of {L : List (List Cnt)} (h1 : small23 L = true) (h2 : (mayLL 1099511627776 L).isSome = true) : CCSum L ∧ ∀ l, l ∈ L → ∀ x, x ∈ l → x.2 ≤ 4611686018427387904 := by
  obtain ⟨hl, hlen⟩ := small23_lim h1
  have hx := mayLL_le h2
  refine ⟨⟨hl, fun l hm => ?_⟩, fun l hl x hx' => by have := hx l hl x hx'; omega⟩
  obtain ⟨n, hn, rfl⟩ := counts_mem hm
  have hlen' := hlen _ (List.getElem_mem hn)
  have := tot_le_mul (M := 1099511627776) (by omega) (L[n].map (cnt1 L n)) fun x hx' => by
    obtain ⟨y, hy, rfl⟩ := List.mem_map.1 hx'
    have h4 := hx _ (List.getElem_mem hn) y hy
    unfold cnt1
    split
    · have : ahead (L.getD (n + 1) []) y.1 ≤ 1000000 := by
        by_cases h3 : n + 1 < L.length
        · have e : L.getD (n + 1) [] = L[n + 1] := by simp [List.getD_eq_getElem?_getD, h3]
          rw [e]
          exact Nat.le_trans (List.length_filter_le _ _) (hl.at' h3).len
        · have e : L.getD (n + 1) [] = [] := by simp [List.getD_eq_getElem?_getD, List.getElem?_eq_none (Nat.le_of_not_lt h3)]
          rw [e]; simp [ahead]
      show ((ahead _ _ : Nat) : Int) ≤ _
      omega
    · exact h4
  rw [List.length_map] at this
  have h5 : (L[n].length : Int) * 1099511627776 ≤ 60 * 1099511627776 := Int.mul_le_mul_of_nonneg_right (by omega) (by omega)
  omega
end Go.Proofs.YtpmchgndnhgncaaGreat.Pv
namespace Go.Proofs.YtpmchgndnhgncaaGreat.Pv
open Go
theorem isF_ct {k : Nat} {p : Nat × Nat} (hb : Bd k p) (hk : k ≤ 100000) : Ct P 14 [qP p, rP p] [.c (.sc (.bool true))] := by
  have := is26_ct (k := k) p.1 p.2 hb.n (by rw [dn_ne hb.pos]; exact hb.d) hk
  rwa [dn_ne hb.pos] at this
theorem isZ_ct {k : Nat} {p : Nat × Nat} (hb : Bd k (nz p)) (hk : k ≤ 100000) : Ct P 14 [qP p, rP (nz p)] [.c (.sc (.bool true))] := is26_ct (k := k) p.1 p.2 hb.n hb.d hk
theorem isR_ct {l : List Cnt} (hl : CLim l) (k : Nat) (h1 : 1 ≤ k) (h3 : k ≤ 3) : Ct P 14 [qP (roff (numN l 1) (numN l 2) (numN l 3) (numN l 4) k), rP (off28 (numN l 1) (numN l 2) (numN l 3) (numN l 4) k)] [.c (.sc (.bool true))] := by
  have m := fun k => Nat.le_trans (numN_le l k) hl.len
  have rn := roff_nz (m 1) (m 2) (m 3) (m 4) k h1 h3
  have := isZ_ct (k := 500) (p := roff (numN l 1) (numN l 2) (numN l 3) (numN l 4) k) (by rw [rn]; exact off_bd (m 1) (m 2) (m 3) (m 4) k) (by omega)
  rwa [rn] at this
abbrev σK : List (Nat × Nat) := [(200, 1000000), (201, 1000001)]
abbrev νK : List (Nat × Nat) := [(1000000, 200), (1000001, 201)]
set_option maxHeartbeats 8000000 in
theorem kcounts_ct (L : List (List Cnt)) (words : Int) (h : List Int) (hL : WWLim L) (hh : h.length ≤ 140737488355328) : Ct P 6 [.c (ccSl L), .c (eI .i64 words), .c (iSl h)] [.c (.sc (.bool true))] := by
  have hLl := hL.len
  refine Ct.go (Ty.own_ok [27] T_ok) T_mix (N := 148) Tryz.func6 rfl rfl rfl rfl ?_
  refine And.intro (by rw [ccRow_len]; omega) ?_
  rw [ccRow_len]
  refine dcase (fun h1 => ?_) (fun h1 => ?_)
  · refine X1 _ live_ct ?_
    exact ⟨trivial, r1 rfl, trivial⟩
  refine X1 _ (csmall_ct L hL) ?_
  refine bcase (fun h2 => ?_) (fun h2 => ?_)
  · refine X1 _ live_ct ?_
    exact ⟨trivial, r1 rfl, trivial⟩
  have hs : small23 L = true := by simpa using h2
  have hcl := (small23_lim hs).1
  refine X1 _ (may_ct L hcl) ?_
  refine bcase (fun h3 => ?_) (fun h3 => ?_)
  · refine X1 _ live_ct ?_
    exact ⟨trivial, r1 rfl, trivial⟩
  have hm : (mayLL 1099511627776 L).isSome = true := by simpa using h3
  refine And.intro (by rw [iRow_len]; omega) ?_
  rw [iRow_len]
  refine dcase (fun h4 => ?_) (fun h4 => ?_)
  · refine X1 _ live_ct ?_
    exact ⟨trivial, r1 rfl, trivial⟩
  obtain ⟨hsum, hnum⟩ := ccsum_of hs hm
  by_cases hw : wrong29 L words = 0
  · have hx := xok_of hsum hw hnum
    have hok := (wrong29_ok hw).1
    have hwr := wrong29_ct L words hcl
    rw [hw] at hwr
    have h8 := hx.len8
    have hlen := counts_len L
    refine X2 (.own [] [(36, 200), (34, 201)]) ?_
    refine ⟨_, _, new_ok L words hsum hw, ?_⟩
    refine X1 _ hwr ?_
    refine X1 _ (rnew_ct L words hsum (hok.ccform hcl) (by omega)) ?_
    refine loopJ (Ty.own_ok [27] T_ok) T_mix (fun n : Nat => n ≤ L.length) (fun n => [(0, .c (ccSl L)), (2, .c (iSl h)), (7, .c (.ad 200 0)), (10, .c (.ad 10 0)), (11, .c (nI .i64 n))])
      (fun _ => [(10, .var (mM L words).cells), (200, xC (counts L) words 201), (201, .mp false [] [])]) (fun n => L.length - n)
      0 (by omega) ⟨rfl, rfl, rfl, rfl, rfl, trivial⟩ ⟨rfl, rfl, rfl, trivial⟩ (fun _ : Unit => True) (fun _ => [(2, .c (iSl h)), (7, .c (.ad 200 0)), (10, .c (.ad 10 0))])
      (fun _ => [(10, .var (mM L words).cells), (200, xC (counts L) words 201), (201, .mp false [] [])]) (fun n hn => ?_) (fun _ _ => ?_)
    · refine And.intro (by rw [ccRow_len]; omega) ?_
      rw [ccRow_len]
      refine dcase (fun h5 => ?_) (fun h5 => ?_)
      · have hn' : n < (counts L).length := by omega
        have hget := ccRow_get (l := counts L) (i := (n : Int)) (n := n) rfl hn'
        have hset := set_ct (ks := []) (vs := []) hx n (n + 1) rfl hn'
        have hln := hx.lim.at' hn'
        have htn := hx.tot _ (List.getElem_mem hn')
        generalize (counts L)[n] = l at *
        refine And.intro (by omega) (X1 _ hget ?_)
        refine X1 _ (rof24_ct l hln htn) ?_
        refine X1 _ (rset_ct l hln) ?_
        refine X1 ((n + 1 : Nat) : Int) (wI (by simp) (by omega) (by omega)) ?_
        refine X2 (.own σK νK) ?_
        refine ⟨_, _, hset, ?_⟩
        refine loopB (Ty.own_ok [27] T_ok) T_mix (fun i : Nat => i ≤ 4) (fun i => [(0, .c (ccSl L)), (2, .c (iSl h)), (7, .c (.ad 200 0)), (10, .c (.ad 10 0)), (11, .c (nI .i64 n)), (12, .c (.ad 12 0)), (13, .c (.ad 13 0)), (14, .c (nI .i64 i))])
          (fun _ => [(10, .var (mM L words).cells), (200, xC (counts L) words 201), (201, .mp false [] []), (12, .var (rSet l).cells), (13, .var (gSet l).cells)]) (fun i => 4 - i)
          0 (by omega) ⟨rfl, rfl, rfl, rfl, rfl, rfl, rfl, rfl, trivial⟩ ⟨rfl, rfl, rfl, rfl, rfl, trivial⟩ (fun i hi => ?_)
        have hi5 : i = 0 ∨ i = 1 ∨ i = 2 ∨ i = 3 ∨ i = 4 := by omega
        rcases hi5 with rfl | rfl | rfl | rfl | rfl
        · refine And.intro (by decide) (And.intro (by decide) ?_)
          refine And.intro (by decide) (And.intro (by decide) ?_)
          refine X1 _ (isZ_ct (k := 1) (p := (0, 0)) bd01 (by omega)) ?_
          refine And.intro rfl ?_
          refine X1 ((1 : Nat) : Int) (by decide) ?_
          exact ⟨1, by omega, by omega, ⟨rfl, rfl, rfl, rfl, rfl, rfl, rfl, rfl, trivial⟩, ⟨rfl, rfl, rfl, rfl, rfl, trivial⟩⟩
        · refine And.intro (by decide) (And.intro (by decide) ?_)
          refine And.intro (by decide) (And.intro (by decide) ?_)
          refine X1 _ (isR_ct hln 1 (by omega) (by omega)) ?_
          refine And.intro rfl ?_
          refine X1 ((2 : Nat) : Int) (by decide) ?_
          exact ⟨2, by omega, by omega, ⟨rfl, rfl, rfl, rfl, rfl, rfl, rfl, rfl, trivial⟩, ⟨rfl, rfl, rfl, rfl, rfl, trivial⟩⟩
        · refine And.intro (by decide) (And.intro (by decide) ?_)
          refine And.intro (by decide) (And.intro (by decide) ?_)
          refine X1 _ (isR_ct hln 2 (by omega) (by omega)) ?_
          refine And.intro rfl ?_
          refine X1 ((3 : Nat) : Int) (by decide) ?_
          exact ⟨3, by omega, by omega, ⟨rfl, rfl, rfl, rfl, rfl, rfl, rfl, rfl, trivial⟩, ⟨rfl, rfl, rfl, rfl, rfl, trivial⟩⟩
        · refine And.intro (by decide) (And.intro (by decide) ?_)
          refine And.intro (by decide) (And.intro (by decide) ?_)
          refine X1 _ (isR_ct hln 3 (by omega) (by omega)) ?_
          refine And.intro rfl ?_
          refine X1 ((4 : Nat) : Int) (by decide) ?_
          exact ⟨4, by omega, by omega, ⟨rfl, rfl, rfl, rfl, rfl, rfl, rfl, rfl, trivial⟩, ⟨rfl, rfl, rfl, rfl, rfl, trivial⟩⟩
        · refine X1 ((n + 1 : Nat) : Int) (wI (by simp) (by omega) (by omega)) ?_
          exact ⟨n + 1, by omega, by omega, ⟨rfl, rfl, rfl, rfl, rfl, trivial⟩, ⟨rfl, rfl, rfl, trivial⟩⟩
      · exact ⟨(), trivial, ⟨rfl, rfl, rfl, trivial⟩, ⟨rfl, rfl, rfl, trivial⟩⟩
    · refine And.intro (by rw [iRow_len]; omega) ?_
      rw [iRow_len]
      refine ecase (fun h6 => ?_) (fun h6 => ?_)
      · have hl0 : h.length = 0 := by omega
        have hN := number_ct (ks := []) (vs := []) hx h (by omega)
        rw [show num29 (counts L) h = 0 from by rw [num29, if_pos (.inl (by omega))]] at hN
        obtain ⟨ks1, vs1, hm1, hG⟩ := kgamma_ct hx MOk.nil h (by omega)
        have hgb := rGam_bd hx h
        refine X2 (.two 200 201) ?_
        refine ⟨rfl, _, _, hN, ?_⟩
        refine X2 (.two 200 201) ?_
        refine ⟨rfl, _, _, hG, ?_⟩
        refine X1 _ (rgam_ct (counts L) words h hx.lim hx.tot (by omega)) ?_
        refine X1 _ (isF_ct hgb (by omega)) ?_
        refine X1 _ live_ct ?_
        refine And.intro rfl ?_
        exact ⟨trivial, r1 rfl, trivial⟩
      · have hN := number_ct (ks := []) (vs := []) hx h (by omega)
        have hRN := number29_ct (counts L) words (rRows (counts L)) h hx.lim (by omega)
        refine And.intro (by rw [iRow_len]; omega) ?_
        rw [iRow_len]
        refine X1 ((h.length - 1 : Nat) : Int) (wI (by omega) (by omega) (by omega)) ?_
        refine And.intro (by omega) (X1 _ (iRow_getN (n := h.length - 1) rfl (by omega)) ?_)
        refine And.intro (by rw [iRow_len]; omega) ?_
        rw [iRow_len]
        refine X1 ((h.length - 1 : Nat) : Int) (wI (by omega) (by omega) (by omega)) ?_
        refine ⟨0, h.length - 1, rfl, rfl, by omega, by rw [iRow_len]; omega, ?_⟩
        rw [iRow_sub, List.drop_zero, Nat.sub_zero]
        generalize hw' : h.getD (h.length - 1) 0 = w at *
        have hal : (h.take (h.length - 1)).length ≤ 1000000 := by rw [List.length_take]; omega
        generalize h.take (h.length - 1) = ahd at *
        obtain ⟨ks1, vs1, hm1, hG⟩ := kgamma_ct hx MOk.nil ahd hal
        obtain ⟨m2, hP⟩ := kprob_ct hx ⟨(ks1, vs1), hm1⟩ ahd hal w
        have hgb := rGam_bd hx ahd
        have hpb := probF_bd hx ahd w
        refine X2 (.two 200 201) ?_
        refine ⟨rfl, _, _, hN, ?_⟩
        refine X1 _ hRN ?_
        refine ecase (fun _ => ?_) (fun h => absurd rfl h)
        refine X2 (.two 200 201) ?_
        refine ⟨rfl, _, _, hG, ?_⟩
        refine X1 _ (rgam_ct (counts L) words ahd hx.lim hx.tot hal) ?_
        refine X1 _ (isF_ct hgb (by omega)) ?_
        refine X2 (.two 200 201) ?_
        refine ⟨rfl, _, _, hP, ?_⟩
        refine X1 _ (rprob_ct hx ahd hal w) ?_
        refine X1 _ (isF_ct hpb (by omega)) ?_
        refine X1 _ live_ct ?_
        refine And.intro rfl ?_
        exact ⟨trivial, r1 rfl, trivial⟩
  · refine X2 .frz ?_
    refine ⟨_, new_err L words hsum hw, ?_⟩
    refine X1 _ (wrong29_ct L words hcl) ?_
    refine ncase (fun h => absurd rfl h) (fun _ => ?_)
    refine ncase (fun _ => ?_) (fun h => absurd h hw)
    refine X1 _ live_ct ?_
    exact ⟨trivial, r1 rfl, trivial⟩
end Go.Proofs.YtpmchgndnhgncaaGreat.Pv
namespace Go.Proofs.YtpmchgndnhgncaaGreat.Pv
open Go
theorem bulk_one {H : Type} (d : DataW H) : 1 ≤ Rows.uptoBulk d := by
  cases d with
  | lit l => cases l <;> simp [Rows.uptoBulk]
  | _ => simp [Rows.uptoBulk]
theorem bulk_part {H : Type} {d : DataW H} {l : List (DataW H)} (h : d ∈ l) : Rows.uptoBulk d ≤ Rows.uptoBulkAll l := by
  induction l with
  | nil => cases h
  | cons x r ih =>
    simp only [Rows.uptoBulkAll]
    cases List.mem_cons.1 h with
    | inl e => subst e; omega
    | inr e => have := ih e; omega
theorem bulk_len {H : Type} (l : List (DataW H)) : l.length ≤ Rows.uptoBulkAll l := by
  induction l with
  | nil => simp [Rows.uptoBulkAll]
  | cons x r ih => have := bulk_one x; simp only [Rows.uptoBulkAll, List.length_cons]; omega
theorem list_of {α : Type} {R : Nat → α → Prop} : ∀ (n : Nat), (∀ i, i < n → ∃ y, R i y) → ∃ l : List α, l.length = n ∧ ∀ (i : Nat) x, l[i]? = some x → R i x
  | 0, _ => ⟨[], rfl, fun i x h => by simp at h⟩
  | n + 1, h => by
    obtain ⟨l, h1, h2⟩ := list_of n fun i hi => h i (by omega)
    obtain ⟨y, hy⟩ := h n (by omega)
    refine ⟨l ++ [y], by simp [h1], fun i x hx => ?_⟩
    rcases Nat.lt_trichotomy i n with hlt | rfl | hgt
    · rw [List.getElem?_append_left (by omega)] at hx; exact h2 i x hx
    · rw [List.getElem?_append_right (by omega), h1, Nat.sub_self] at hx
      cases hx; exact hy
    · rw [List.getElem?_eq_none (by simp; omega)] at hx; cases hx
section
variable {H : Type} {enc : TypeId × Value → H} {W : World} {sp : Nat → Bool} {held : Bool}
abbrev okW (W : World) : Nat → Prop := fun b => b < W.heap.size
theorem rd_slice {t e sz : Nat} (ht : P.underlying t = some (.slice e)) (hc : P.cellsOf e = sz) (hsz : 0 < sz) {α : Type} (R : α → List PC) (hR : ∀ x, (R x).length = sz) (B : Nat) (hB : B ≤ 140737488355328) (Q : α → Prop)
    (elem : ∀ (n : Nat) (cs : List Value) (y : DataW H × List MemPlace), DataW.trod enc P W 0 sp held n e cs = some y → Rows.uptoBulk y.1 ≤ B → ∃ x, Q x ∧ ∀ (i : Nat) c, (R x)[i]? = some c → ∃ u, cs[i]? = some u ∧ Rel (okW W) W c u)
    {fuel : Nat} {cs : List Value} {y : DataW H × List MemPlace} (h : DataW.trod enc P W 0 sp held fuel t cs = some y) (hb : Rows.uptoBulk y.1 ≤ B) :
    ∃ (v : Value) (l : List α), cs = [v] ∧ l.length ≤ B ∧ (∀ x, x ∈ l → Q x) ∧ Rel (okW W) W (.sl sz (l.map R)) v := by
  rcases DataW.trod_slice ht h with ⟨rfl, rfl⟩ | ⟨a, len, cap, elems, rest, n, rfl, rfl, rfl, _, hl, hm, hlen, hel, _⟩
  · exact ⟨_, [], rfl, by simp, fun x hx => by simp at hx, .sl0⟩
  · simp only [Rows.uptoBulk] at hb
    have hlb := bulk_len (elems.map (·.1))
    rw [List.length_map] at hlb
    have each : ∀ i, i < len → ∃ x : α, Q x ∧ ∀ (q : Nat) c, (R x)[q]? = some c → ∃ u, W.cell? ((a.add (i * sz)).add q) = some u ∧ Rel (okW W) W c u := by
      intro i hi
      have h1 := hel i hi
      rw [List.getElem?_eq_getElem (by omega), Option.bind_eq_some_iff] at h1
      obtain ⟨cs', hcs, hy⟩ := h1
      rw [hc] at hcs
      obtain ⟨_, hcl, hcg⟩ := World.cells?_some hcs
      have hbe : Rows.uptoBulk (elems[i]).1 ≤ B := by
        have := bulk_part (d := (elems[i]).1) (l := elems.map (·.1)) (List.mem_map.2 ⟨_, List.getElem_mem _, rfl⟩)
        omega
      obtain ⟨x, hq, hx⟩ := elem n cs' _ hy hbe
      refine ⟨x, hq, fun q c hqc => ?_⟩
      obtain ⟨u, hu, hr⟩ := hx q c hqc
      exact ⟨u, (hcg q (by rw [← hR x]; exact (List.getElem?_eq_some_iff.1 hqc).1)).trans hu, hr⟩
    obtain ⟨l, hll, hlx⟩ := list_of len each
    refine ⟨_, l, rfl, by omega, fun x hx => ?_, ?_⟩
    · obtain ⟨i, hi⟩ := List.mem_iff_getElem?.1 hx
      exact (hlx i x hi).1
    · by_cases h0 : len = 0
      · subst h0
        have : l = [] := List.length_eq_zero_iff.1 hll
        subst this
        exact .sl0
      · obtain ⟨b, off, spot⟩ := a
        have hcell : ∀ (j q : Nat) x c, l[j]? = some x → (R x)[q]? = some c → ∃ u, W.cell? (((⟨b, off, spot⟩ : Addr).add (j * sz)).add q) = some u ∧ Rel (okW W) W c u := fun j q x c hj hq => (hlx j x hj).2 q c hq
        have hpos : 0 < l.length := by rw [hll]; exact Nat.pos_of_ne_zero h0
        obtain ⟨x0, hx0⟩ : ∃ x0, l[0]? = some x0 := ⟨l[0]'hpos, List.getElem?_eq_getElem hpos⟩
        have hposR : 0 < (R x0).length := by rw [hR]; exact hsz
        obtain ⟨c0, hc0⟩ : ∃ c0, (R x0)[0]? = some c0 := ⟨(R x0)[0]'hposR, List.getElem?_eq_getElem hposR⟩
        obtain ⟨u0, hu0, _⟩ := hcell 0 0 _ _ hx0 hc0
        have hu0' : W.cell? ⟨b, off, spot⟩ = some u0 := by simpa [Addr.add] using hu0
        have hspot : spot = none := by simpa using World.cell?_spot hu0'
        subst hspot
        have hblk : b < W.heap.size := by
          unfold World.cell? at hu0'
          cases hbb : W.heap[b]? with
          | none => simp [hbb] at hu0'
          | some o => exact (Array.getElem?_eq_some_iff.1 hbb).1
        have hadd : ∀ j q : Nat, (((⟨b, off, none⟩ : Addr).add (j * sz)).add q) = ⟨b, off + (j * sz + q), none⟩ := fun j q => by
          rw [Addr.add_lit, Addr.add_lit, Nat.add_assoc]
        have hlm : (l.map R).length = len := by rw [List.length_map, hll]
        rw [← hlm]
        have key : ∀ (j i : Nat) (el : List PC) (x : PC), (l.map R)[j]? = some el → el[i]? = some x → ∃ u, W.cell? ⟨b, off + (j * sz + i), none⟩ = some u ∧ Rel (okW W) W x u := fun j i el x hj hi => by
          rw [List.getElem?_map, Option.map_eq_some_iff] at hj
          obtain ⟨z, hz, rfl⟩ := hj
          obtain ⟨u, hu, hr⟩ := hcell j i z x hz hi
          rw [hadd] at hu
          exact ⟨u, hu, hr⟩
        refine .sl (fun j i => (W.cell? ⟨b, off + (j * sz + i), none⟩).getD (.bool true)) (by rw [hlm]; exact hl) (by rw [hlm, BIG_eq]; exact Nat.le_trans (by omega) hB) hblk hblk (fun j el hj => ?_) (fun j i el x hj hi => ?_) (fun j i el x hj hi => ?_)
        · rw [List.getElem?_map, Option.map_eq_some_iff] at hj
          obtain ⟨z, _, rfl⟩ := hj
          exact hR z
        · obtain ⟨u, hu, _⟩ := key j i el x hj hi
          rw [hu]; rfl
        · obtain ⟨u, hu, hr⟩ := key j i el x hj hi
          rw [hu]; exact hr
end
end Go.Proofs.YtpmchgndnhgncaaGreat.Pv
namespace Go.Proofs.YtpmchgndnhgncaaGreat.Pv
open Go
section
variable {H : Type} {enc : TypeId × Value → H} {W : World} {sp : Nat → Bool} {held : Bool} {B : Nat}
theorem len_two {α : Type} : ∀ {l : List α}, l.length = 2 → ∃ a b, l = [a, b]
  | [], h => by simp at h
  | [_], h => by simp at h
  | [a, b], _ => ⟨a, b, rfl⟩
  | _ :: _ :: _ :: _, h => by simp at h
theorem wf_i64 {n : Int} (h : (Lit.int .i64 n).wf = true) : inR .i64 n := by
  have : -9223372036854775808 ≤ n ∧ n ≤ 9223372036854775807 := by simpa [Lit.wf, IntKind.min, IntKind.max, IntKind.signed, IntKind.bits] using h
  exact this
theorem rd_int {n : Nat} {cs : List Value} {y : DataW H × List MemPlace} (h : DataW.trod enc P W 0 sp held n 3 cs = some y) : ∃ z : Int, cs = [.int .i64 z] ∧ Rel (okW W) W (eI .i64 z) (.int .i64 z) := by
  obtain ⟨z, rfl, rfl, hw⟩ := DataW.trod_int Tryz.underlying3 h
  exact ⟨z, rfl, .sc (wf_i64 hw)⟩
theorem rd_ints (hB : B ≤ 140737488355328) {n : Nat} {cs : List Value} {y : DataW H × List MemPlace} (h : DataW.trod enc P W 0 sp held n 22 cs = some y) (hb : Rows.uptoBulk y.1 ≤ B) :
    ∃ (v : Value) (l : List Int), cs = [v] ∧ l.length ≤ B ∧ Rel (okW W) W (iSl l) v := by
  obtain ⟨v, l, h1, h2, _, h4⟩ := rd_slice Tryz.underlying22 (sz := 1) (by kernel_rfl) (by omega) (fun z : Int => [eI .i64 z]) (fun _ => rfl) B hB (fun _ => True) (fun n cs y h _ => by
    obtain ⟨z, rfl, hr⟩ := rd_int h
    refine ⟨z, trivial, fun i c hi => ?_⟩
    cases i with
    | zero => cases hi; exact ⟨_, rfl, hr⟩
    | succ i => simp at hi) h hb
  exact ⟨v, l, h1, h2, h4⟩
theorem rd_counts (hB : B ≤ 140737488355328) {n : Nat} {cs : List Value} {y : DataW H × List MemPlace} (h : DataW.trod enc P W 0 sp held n 67 cs = some y) (hb : Rows.uptoBulk y.1 ≤ B) :
    ∃ (v : Value) (l : List Cnt), cs = [v] ∧ l.length ≤ B ∧ (∀ x, x ∈ l → x.1.length ≤ B) ∧ Rel (okW W) W (cSl l) v := by
  refine rd_slice Tryz.underlying67 (sz := 2) (by kernel_rfl) (by omega) (fun x : Cnt => [iSl x.1, eI .i64 x.2]) (fun _ => rfl) B hB (fun x => x.1.length ≤ B) (fun n cs y h hb => ?_) h hb
  obtain ⟨xs, m, rfl, rfl, hcl, hxl, hf⟩ := DataW.trod_struct Tryz.underlying98 h
  have hc2 : P.cellsOf 98 = 2 := by kernel_rfl
  have hc22 : P.cellsOf 22 = 1 := by kernel_rfl
  have hc3 : P.cellsOf 3 = 1 := by kernel_rfl
  rw [hc2] at hcl
  obtain ⟨c0, c1, rfl⟩ := len_two hcl
  have hxl2 : xs.length = 2 := hxl
  obtain ⟨x0, x1, rfl⟩ := len_two hxl2
  have f0 : DataW.trod enc P W 0 sp held m 22 (([c0, c1].drop 0).take (P.cellsOf 22)) = some x0 := hf 0 _ rfl
  have f1 : DataW.trod enc P W 0 sp held m 3 (([c0, c1].drop 1).take (P.cellsOf 3)) = some x1 := hf 1 _ rfl
  rw [hc22] at f0
  rw [hc3] at f1
  simp only [Rows.uptoBulk, Rows.uptoBulkAll, List.map_cons, List.map_nil] at hb
  obtain ⟨v, l, h1, h2, h3⟩ := rd_ints hB f0 (by omega)
  obtain ⟨z, h4, h5⟩ := rd_int f1
  have e0 : c0 = v := by simpa using h1
  have e1 : c1 = .int .i64 z := by simpa using h4
  subst e0 e1
  refine ⟨(l, z), h2, fun i c hi => ?_⟩
  cases i with
  | zero => cases hi; exact ⟨_, rfl, h3⟩
  | succ i =>
    cases i with
    | zero => cases hi; exact ⟨_, rfl, h5⟩
    | succ i => simp at hi
theorem rd_lists (hB : B ≤ 140737488355328) {n : Nat} {cs : List Value} {y : DataW H × List MemPlace} (h : DataW.trod enc P W 0 sp held n 26 cs = some y) (hb : Rows.uptoBulk y.1 ≤ B) :
    ∃ (v : Value) (L : List (List Cnt)), cs = [v] ∧ WWLim L ∧ Rel (okW W) W (ccSl L) v := by
  obtain ⟨v, L, h1, h2, h3, h4⟩ := rd_slice Tryz.underlying26 (sz := 1) (by kernel_rfl) (by omega) (fun l : List Cnt => [cSl l]) (fun _ => rfl) B hB (fun l => WLim l) (fun n cs y h hb => by
    obtain ⟨v, l, rfl, a2, a3, hr⟩ := rd_counts hB h hb
    refine ⟨l, ⟨by omega, fun x hx => by have := a3 x hx; omega⟩, fun i c hi => ?_⟩
    cases i with
    | zero => cases hi; exact ⟨_, rfl, hr⟩
    | succ i => simp at hi) h hb
  exact ⟨v, L, h1, ⟨by omega, h3⟩, h4⟩
end
end Go.Proofs.YtpmchgndnhgncaaGreat.Pv
namespace Go.Proofs.YtpmchgndnhgncaaGreat.kneserCounts
open Go Go.ChangeShapes Go.WideShapes Go.ChangeAt Go.RowKit
open Go.Proofs.YtpmchgndnhgncaaGreat.Pv (okW WWLim Cnt)
theorem own : ownKnob Tryz.prog.godebug = none := by kernel_rfl
theorem laidOut : laidOutB Tryz.prog = true := by kernel_rfl
theorem walk (L : List (List Cnt)) (words : Int) (h : List Int) (hL : WWLim L) (hh : h.length ≤ 140737488355328) (W : World) (v0 v1 v2 : Value)
    (h0 : Pv.Rel (okW W) W (Pv.ccSl L) v0) (h1 : Pv.Rel (okW W) W (Pv.eI .i64 words) v1) (h2 : Pv.Rel (okW W) W (Pv.iSl h) v2) :
    Calls Tryz.prog 6 #[v0, v1, v2] W fun e W' => e = .returned (.bool true) ∧ Below W.heap.size W W' := by
  have hct := Pv.kcounts_ct L words h hL hh
  have hrun := hct.run (Pv.Km.bare ⟨fun _ => none, fun _ => False⟩) (okW W) W [v0, v1, v2] (Pv.Hp.nil fun _ hb => hb) (.cons (.c (.cl h0)) (.cons (.c (.cl h1)) (.cons (.c (.cl h2)) .nil)))
  rcases hrun with ⟨_, hc⟩ | ⟨v, w', hv, _⟩
  · refine hc.mono fun e w' hq => ?_
    obtain ⟨v, K', ok', rfl, hr, hp, hf⟩ := hq
    have e1 : v = .bool true := by
      have hr' : Pv.RelV K' ok' w' (.o (.c (.sc (.bool true)))) v := hr
      cases hr' with
      | o hr' =>
        cases hr' with
        | c hr' =>
          cases hr' with
          | cl hr' =>
            cases hr' with
            | sc _ => rfl
    subst e1
    exact ⟨rfl, hf.os, hf.tape, hf.output, hf.size, fun b hb => hf.keep b hb (fun k o L hk => by simp [Pv.Objs.get] at hk) (fun hid => hid)⟩
  · exfalso
    have := Pv.exec_call (P := Tryz.prog) (f := 6) (by kernel_rfl) #[v0, v1, v2] W
    have hv' : (callFunc 6 #[v0, v1, v2]).run Tryz.prog W = .ok (.value v) w' := hv
    rw [this] at hv'
    cases hv'
set_option maxRecDepth 100000 in
theorem contract (H : Type) (enc : TypeId × Value → H) (W : World) (base : Nat) (args : Array Value) (ds gs : List (DataW H)) (before : List MemPlace)
    (hval : ∀ (j : Nat) t v, Tryz.f6.params[j]? = some t → args[j]? = some v → Value.okWide Tryz.prog W .any base t v)
    (hW : DataW.Whole enc Tryz.prog Tryz.f6.params.toList Rows.kneserCountsSpec.vars false W args.toList ds gs before) (hk : Rows.uptoSmall H (ds ++ gs) = true) :
    Calls Tryz.prog 6 args W fun e W' => ∃ v, e = .returned v ∧ Rows.kneserCountsSpec.post enc Tryz.prog Tryz.f6 false true false false W args v W' := by
  have hW' := hW
  obtain ⟨p, q, hA0, hV, rfl, hfz, hnd⟩ := hW
  have hA : DataW.TrodAll enc Tryz.prog W 0 (fun _ => true) true Tryz.f6.params.toList args.toList ds p := hA0
  rw [Tryz.params6] at hA hval
  obtain ⟨v0, vs0, d0, ds0, p0, q0, hargs, rfl, rfl, h0, r0⟩ := trodAll_cons hA
  obtain ⟨v1, vs1, d1, ds1, p1, q1, hargs1, rfl, rfl, h1, r1⟩ := trodAll_cons r0
  obtain ⟨v2, vs2, d2, ds2, p2, q2, hargs2, rfl, rfl, h2, r2⟩ := trodAll_cons r1
  obtain ⟨rfl, rfl, rfl⟩ := trodAll_nil r2
  obtain rfl : args = #[v0, v1, v2] := by cases args; simp_all
  obtain ⟨rfl, rfl⟩ := trodVars_none hV
  clear hA0
  have hb : Rows.uptoBulkAll [d0, d1, d2] ≤ 1048576 := by
    have h := of_decide_eq_true hk
    simpa using h
  simp only [Rows.uptoBulkAll] at hb
  obtain ⟨a0, l0, c0, rfl⟩ := okWide_slice Tryz.underlying26 (hval 0 26 v0 rfl rfl)
  obtain ⟨a2, l2, c2, rfl⟩ := okWide_slice Tryz.underlying22 (hval 2 22 v2 rfl rfl)
  obtain ⟨words, rfl, rfl, rfl, hw1⟩ := open_int Tryz.underlying3 (hval 1 3 v1 rfl rfl) h1
  obtain ⟨n0, t0⟩ := h0
  obtain ⟨n2, t2⟩ := h2
  obtain ⟨B, hB⟩ : ∃ B, B = 1048576 := ⟨_, rfl⟩
  rw [← hB] at hb
  have hb0 : Rows.uptoBulk d0 ≤ B := by omega
  have hb2 : Rows.uptoBulk d2 ≤ B := by omega
  have hBB : B ≤ 140737488355328 := by omega
  obtain ⟨u0, L, e0, hL, hr0⟩ := Pv.rd_lists hBB t0 hb0
  obtain ⟨u2, h, e2, hh, hr2⟩ := Pv.rd_ints hBB t2 hb2
  have e0' : u0 = .slice a0 l0 c0 := by simpa [Value.cells] using e0.symm
  have e2' : u2 = .slice a2 l2 c2 := by simpa [Value.cells] using e2.symm
  subst e0' e2'
  have g0 := fun (W' : World) (hg : Below W.heap.size W W') => Below.trod laidOut (by kernel_rfl) (of_decide_eq_true (by kernel_rfl)) ⟨n0, t0⟩ hg (DataW.trod_lt _ _ _ _ t0)
  have g2 := fun (W' : World) (hg : Below W.heap.size W W') => Below.trod laidOut (by kernel_rfl) (of_decide_eq_true (by kernel_rfl)) ⟨n2, t2⟩ hg (DataW.trod_lt _ _ _ _ t2)
  refine (walk L words h hL (by omega) W _ _ _ hr0 (.sc (Pv.wf_i64 hw1)) hr2).mono fun e W' ⟨he, hg⟩ => ?_
  subst he
  refine ⟨_, rfl, _, _, _, [], p0 ++ ([] ++ (p2 ++ [])), [], hW', ?_, ?_, ?_, hg.frame _, fun h => by cases h⟩
  · exact trodAll_cons_mk (shut_bool Tryz.underlying4 _) trodAll_mk0
  · exact trodAll_cons_mk (g0 W' hg) (trodAll_cons_mk (shut_int Tryz.underlying3 hw1) (trodAll_cons_mk (g2 W' hg) trodAll_mk0))
  · rfl
set_option maxRecDepth 100000 in
theorem lifted (os : Os) (started : os.Started) (H : Type) (enc : TypeId × Value → H) (F : Stop.Interp) :
    ReturnsInHanded {} Tryz.checked os 6 .any ((Rows.OpenSpec.upto Rows.kneserCountsSpec).pre6 enc Tryz.prog Tryz.f6 Rows.kneserCountsUptoRow.domain false) (((Rows.OpenSpec.upto Rows.kneserCountsSpec).at F).post enc Tryz.prog Tryz.f6 false true false false) := by
  refine returnsInHanded_of_cond (C := Tryz.checked) (s := Rows.OpenSpec.upto Rows.kneserCountsSpec) (k := Rows.uptoSmall) rfl own started (by kernel_rfl) Tryz.func6
    (OpenSpec.witness (enc := enc) (C := Tryz.checked) (s := Rows.OpenSpec.upto Rows.kneserCountsSpec) (k := Rows.uptoSmall) rfl false ⟨#[], #[.slice none 0 0, .int .i64 0, .slice none 0 0], []⟩ 8 (by kernel_rfl) (by kernel_rfl) (by kernel_rfl)
      (x := ([.nil, .lit (.int .i64 0), .nil], [], [])) (by kernel_rfl) rfl (by kernel_rfl)) ?_
  intro W base args ds gs before hval hW _ hk _
  exact contract H enc W base args ds gs before hval hW hk
theorem over : Rows.kneserCountsUptoRow.holds Tryz.pinned (Rows.OpenSpec.upto Rows.kneserCountsSpec) :=
  OpenClaim.holds_of_cond 6 Tryz.f6 rfl rfl rfl rfl rfl rfl rfl ⟨rfl, rfl, rfl, rfl, rfl⟩ rfl rfl rfl rfl rfl (by kernel_rfl) Tryz.func6 (by kernel_rfl)
    (of_decide_eq_true (by kernel_rfl)) (by unfold Func.isWrapper; first | (rw [if_pos (by decide +kernel)]; kernel_rfl) | (rw [if_neg (by decide +kernel)]; exact ⟨rfl, rfl⟩))
    (fun os started H enc _ F => lifted os started H enc F)
theorem proved : Rows.KneserCountsUptoSaid :=
  over
end Go.Proofs.YtpmchgndnhgncaaGreat.kneserCounts
