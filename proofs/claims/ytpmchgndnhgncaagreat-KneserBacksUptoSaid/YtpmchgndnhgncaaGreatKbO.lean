/- Parts of a proof, joined: Ew Eg Ex Ey Ez Ff Fg Fh Fi Fj Fk Ch Fl Fm Fn Fo Fp. -/
import Derived.Test.YtpmchgndnhgncaaGreatKbN
import Derived.Test.YtpmchgndnhgncaaGreatRows
import Derived.ProofKit
import Derived.OpenShut
import Derived.Carry
namespace Go.Proofs.YtpmchgndnhgncaaGreat.Pv
open Go
def lvl (Lc : List (List Cnt)) (h : List Int) : List Cnt := Lc.getD h.length []
def offN (l : List Cnt) (k : Nat) : Nat × Nat := off28 (numN l 1) (numN l 2) (numN l 3) (numN l 4) k
def atN (l : List Cnt) (a : Int) : Nat × Nat := at4 (offN l 1) (offN l 2) (offN l 3) a
def owF (Lc : List (List Cnt)) (w : Int) (h : List Int) : Nat × Nat := fSub ((num29 Lc (h ++ [w])).toNat, 1) (atN (lvl Lc h) (num29 Lc (h ++ [w])))
def stepF (Lc : List (List Cnt)) (w : Int) (h : List Int) (p : Nat × Nat) : Nat × Nat :=
  if totN (after (lvl Lc h) h) = 0 then p else fAdd (fDiv (owF Lc w h) (totN (after (lvl Lc h) h), 1)) (fMul (rGam Lc h) p)
def p0F (words : Int) : Nat × Nat := fDiv (1, 1) ((words - 1).toNat, 1)
def pF (Lc : List (List Cnt)) (words w : Int) : List Int → Nat × Nat
  | [] => stepF Lc w [] (p0F words)
  | x :: t => stepF Lc w (x :: t) (pF Lc words w t)
def cutH (Lc : List (List Cnt)) (h : List Int) : List Int := if Lc.length ≤ h.length then h.drop (h.length - Lc.length + 1) else h
def probF (Lc : List (List Cnt)) (words : Int) (h : List Int) (w : Int) : Nat × Nat := if w < 0 ∨ words ≤ w ∨ w = 1 then (0, 1) else pF Lc words w (cutH Lc h)
theorem rGam_bd {Lc : List (List Cnt)} {words : Int} (hx : XOk Lc words) (h : List Int) : Bd 2000 (rGam Lc h) := by
  unfold rGam
  split
  · rename_i hh
    have hln := hx.lim.at' hh
    have htn := hx.tot _ (List.getElem_mem hh)
    have hal : CLim (after Lc[h.length] h) := hln.filter _
    have hat : tot (after Lc[h.length] h) ≤ 4611686018427387904 := Int.le_trans (tot_filter _ _) htn
    have m := fun k => Nat.le_trans (numN_le Lc[h.length] k) hln.len
    have ob := fun k => off_bd (m 1) (m 2) (m 3) (m 4) k
    have ht := totN_le hat
    have hT := tys_lim hal
    have hs := num_sum (after Lc[h.length] h)
    unfold gam28
    split
    · exact (int_bd (v := 1) (k := 1) (by omega) (by omega)).le (by omega)
    · have i := fun n (hn : n ≤ 1000000) => int_bd (v := n) (k := 63) (by omega) (by omega)
      refine (fDiv_bd (fAdd_bd (fAdd_bd (fMul_bd (i _ (by omega)) (ob 1)) (fMul_bd (i _ (by omega)) (ob 2))) (fMul_bd (i _ (by omega)) (ob 3))) (int_bd (k := 63) (by omega) (by omega)) ?_).le (by omega)
      show totN _ ≠ 0
      omega
  · exact (int_bd (v := 1) (k := 1) (by omega) (by omega)).le (by omega)
theorem num29_bd {Lc : List (List Cnt)} {words : Int} (hx : XOk Lc words) (g : List Int) : 0 ≤ num29 Lc g ∧ num29 Lc g ≤ 4611686018427387904 := by
  unfold num29
  split
  · omega
  · rename_i h0
    split
    · omega
    · rename_i h1
      have hn : g.length - 1 < Lc.length := by omega
      have hgd : Lc.getD (g.length - 1) [] = Lc[g.length - 1] := by simp [List.getD_eq_getElem?_getD, hn]
      rw [hgd] at h1 ⊢
      have hf := fidx_lt g Lc[g.length - 1]
      have hk : (fidx g Lc[g.length - 1]).toNat < Lc[g.length - 1].length := by omega
      have := hx.num _ (List.getElem_mem hn) _ (List.getElem_mem hk)
      simp only [List.getD_eq_getElem?_getD, List.getElem?_eq_getElem hk, Option.getD_some]
      exact this
theorem at4_bd {k : Nat} {p1 p2 p3 : Nat × Nat} (h1 : Bd k p1) (h2 : Bd k p2) (h3 : Bd k p3) (hk : 1 ≤ k) (a : Int) : Bd k (at4 p1 p2 p3 a) := by
  unfold at4
  split
  · exact bd01.le hk
  · split
    · exact h1
    · split
      · exact h2
      · exact h3
theorem lvl_eq {Lc : List (List Cnt)} {h : List Int} (hh : h.length < Lc.length) : lvl Lc h = Lc[h.length] := by simp [lvl, List.getD_eq_getElem?_getD, hh]
theorem offN_bd {l : List Cnt} (hl : CLim l) (k : Nat) : Bd 500 (offN l k) :=
  off_bd (Nat.le_trans (numN_le l 1) hl.len) (Nat.le_trans (numN_le l 2) hl.len) (Nat.le_trans (numN_le l 3) hl.len) (Nat.le_trans (numN_le l 4) hl.len) k
theorem lvl_lim {Lc : List (List Cnt)} (hl : CCLim Lc) (h : List Int) : CLim (lvl Lc h) := by
  by_cases hh : h.length < Lc.length
  · rw [lvl_eq hh]; exact hl.at' hh
  · have : lvl Lc h = [] := by simp [lvl, List.getD_eq_getElem?_getD, List.getElem?_eq_none (Nat.le_of_not_lt hh)]
    rw [this]; exact ⟨by simp, fun x hx => by simp at hx⟩
theorem atN_bd {l : List Cnt} (hl : CLim l) (a : Int) : Bd 500 (atN l a) := at4_bd (offN_bd hl 1) (offN_bd hl 2) (offN_bd hl 3) (by omega) a
theorem owF_bd {Lc : List (List Cnt)} {words : Int} (hx : XOk Lc words) (w : Int) (h : List Int) : Bd 600 (owF Lc w h) := by
  have := num29_bd hx (h ++ [w])
  exact (fSub_bd (int_bd (v := (num29 Lc (h ++ [w])).toNat) (k := 63) (by omega) (by omega)) (atN_bd (lvl_lim hx.lim h) _)).le (by omega)
theorem tot_lvl {Lc : List (List Cnt)} {words : Int} (hx : XOk Lc words) (h : List Int) : totN (after (lvl Lc h) h) ≤ 4611686018427387904 := by
  by_cases hh : h.length < Lc.length
  · rw [lvl_eq hh]; exact totN_le (Int.le_trans (tot_filter _ _) (hx.tot _ (List.getElem_mem hh)))
  · have : lvl Lc h = [] := by simp [lvl, List.getD_eq_getElem?_getD, List.getElem?_eq_none (Nat.le_of_not_lt hh)]
    rw [this]; exact Nat.zero_le _
theorem byF_bd {Lc : List (List Cnt)} {words : Int} (hx : XOk Lc words) (w : Int) (h : List Int) (h0 : totN (after (lvl Lc h) h) ≠ 0) : Bd 663 (fDiv (owF Lc w h) (totN (after (lvl Lc h) h), 1)) :=
  fDiv_bd (owF_bd hx w h) (int_bd (k := 63) (by have := tot_lvl hx h; omega) (by omega)) h0
theorem stepF_bd {Lc : List (List Cnt)} {words : Int} (hx : XOk Lc words) (w : Int) (h : List Int) {k : Nat} {p : Nat × Nat} (hp : Bd k p) : Bd (k + 3000) (stepF Lc w h p) := by
  unfold stepF
  split
  · exact hp.le (by omega)
  · rename_i h0
    exact (fAdd_bd (byF_bd hx w h h0) (fMul_bd (rGam_bd hx h) hp)).le (by omega)
theorem p0F_bd {Lc : List (List Cnt)} {words : Int} (hx : XOk Lc words) : Bd 200 (p0F words) := by
  have h3 := hx.w3
  have h6 := hx.w6
  exact (fDiv_bd (int_bd (v := 1) (k := 63) (by omega) (by omega)) (int_bd (v := (words - 1).toNat) (k := 63) (by omega) (by omega)) (by show (words - 1).toNat ≠ 0; omega)).le (by omega)
theorem pF_bd {Lc : List (List Cnt)} {words : Int} (hx : XOk Lc words) (w : Int) : ∀ h : List Int, Bd (200 + 3000 * (h.length + 1)) (pF Lc words w h)
  | [] => (stepF_bd hx w [] (p0F_bd hx)).le (by simp)
  | x :: t => (stepF_bd hx w (x :: t) (pF_bd hx w t)).le (by simp; omega)
def pN (Lc : List (List Cnt)) (words w : Int) (h : List Int) : Nat → Nat × Nat
  | 0 => p0F words
  | n + 1 => pF Lc words w (h.drop (h.length - n))
theorem pN_step {Lc : List (List Cnt)} {words w : Int} {h : List Int} {n : Nat} (hn : n ≤ h.length) : stepF Lc w (h.drop (h.length - n)) (pN Lc words w h n) = pN Lc words w h (n + 1) := by
  cases n with
  | zero => rw [Nat.sub_zero]; simp [pN, pF]
  | succ n =>
    have e : h.drop (h.length - (n + 1)) = h[h.length - (n + 1)] :: h.drop (h.length - n) := by
      rw [List.drop_eq_getElem_cons (by omega)]
      congr 2
      omega
    simp only [pN]
    rw [e, pF]
theorem pN_bd {Lc : List (List Cnt)} {words : Int} (hx : XOk Lc words) (w : Int) (h : List Int) {n : Nat} (hn : n ≤ h.length + 1) : Bd (200 + 3000 * (h.length + 2)) (pN Lc words w h n) := by
  cases n with
  | zero => exact (p0F_bd hx).le (by omega)
  | succ n => exact (pF_bd hx w _).le (by rw [List.length_drop]; omega)
theorem cutH_lt {Lc : List (List Cnt)} {words : Int} (hx : XOk Lc words) (h : List Int) : (cutH Lc h).length < Lc.length := by
  have := hx.len0
  unfold cutH
  split
  · rw [List.length_drop]; omega
  · omega
theorem kby_ct {k : Nat} {p : Nat × Nat} (n : Nat) (h : Bg k p) (hk : k ≤ 2000000) (h0 : n ≠ 0) (hn : n < 9223372036854775808) : Ct P 43 [qP p, .c (nI .i64 n)] [qP (gDiv p (n, 1))] := by
  have hb : Bg 64 (n, 1) := ⟨by show n < 2 ^ 64; omega, by show 1 < 2 ^ 64; omega⟩
  refine Ct.go T_ok T_mix (N := 16) Tryz.func43 rfl rfl rfl rfl ?_
  refine X1 ((n : Nat) : Int) (wU rfl (by omega) (by omega)) ?_
  refine X1 _ (qint_ct n (by omega)) ?_
  refine X1 _ (gdiv_ct h hb h0 hk (by omega)) ?_
  refine And.intro rfl ?_
  exact ⟨trivial, rc rfl, trivial⟩
end Go.Proofs.YtpmchgndnhgncaaGreat.Pv
namespace Go.Proofs.YtpmchgndnhgncaaGreat.Pv
open Go
theorem hkby_ct {k : Nat} {p : Nat × Nat} (n : Nat) (h : Bd k (nz p)) (hk : k ≤ 400000) (h0 : n ≠ 0) (hn : n < 9223372036854775808) : Ct P 43 [qP p, .c (nI .i64 n)] [qP (fDiv (nz p) (n, 1))] := kby_ct n h.bg (by omega) h0 hn
theorem gAt_nz {l : List Cnt} (hl : CLim l) (a : Int) : nz (gAt (0, 0) (roff (numN l 1) (numN l 2) (numN l 3) (numN l 4) 1) (roff (numN l 1) (numN l 2) (numN l 3) (numN l 4) 2) (roff (numN l 1) (numN l 2) (numN l 3) (numN l 4) 3) a) = atN l a := by
  have m := fun k => Nat.le_trans (numN_le l k) hl.len
  have rn := fun k h1 h3 => roff_nz (m 1) (m 2) (m 3) (m 4) k h1 h3
  unfold gAt atN at4 offN
  split
  · rfl
  · split
    · exact rn 1 (by omega) (by omega)
    · split
      · exact rn 2 (by omega) (by omega)
      · exact rn 3 (by omega) (by omega)
abbrev MM (Lc : List (List Cnt)) : Type := { m : List Value × List (List PC) // MOk Lc m.1 m.2 }
section
variable {Lc : List (List Cnt)} {words : Int}
theorem maps (hx : XOk Lc words) (hs : Nat → List Int) (N : Nat) (hh : ∀ n, n < N → (hs n).length < Lc.length) (m0 : MM Lc) :
    ∃ seq : Nat → MM Lc, seq 0 = m0 ∧ ∀ n, n < N → CtO P 44 (xOs Lc words (seq n).1.1 (seq n).1.2) [.c (.ad 1000000 0), .c (iSl (hs n))] (xOs Lc words (seq (n + 1)).1.1 (seq (n + 1)).1.2) [.c (ctxP Lc (hs n))] := by
  have step : ∀ q : MM Lc × Nat, ∃ m' : MM Lc, q.2 < N → CtO P 44 (xOs Lc words q.1.1.1 q.1.1.2) [.c (.ad 1000000 0), .c (iSl (hs q.2))] (xOs Lc words m'.1.1 m'.1.2) [.c (ctxP Lc (hs q.2))] := by
    intro q
    by_cases hn : q.2 < N
    · obtain ⟨ks', vs', h1, h2⟩ := kbehind_ct hx q.1.2 (hs q.2) (hh _ hn)
      exact ⟨⟨(ks', vs'), h1⟩, fun _ => h2⟩
    · exact ⟨q.1, fun h => absurd h hn⟩
  obtain ⟨f, hf⟩ := Classical.axiomOfChoice step
  exact ⟨fun n => Nat.rec m0 (fun n m => f (m, n)) n, rfl, fun n hn => hf (Nat.rec m0 (fun n m => f (m, n)) n, n) hn⟩
theorem kprob0_ct {ks : List Value} {vs : List (List PC)} (h : List Int) (w : Int) (hw : w < 0 ∨ words ≤ w ∨ w = 1) :
    CtO P 12 (xOs Lc words ks vs) [.c (.ad 1000000 0), .c (iSl h), .c (eI .i64 w)] (xOs Lc words ks vs) [qP (0, 1)] := by
  refine Ct.io T_ok T_mix (N := 101) Tryz.func12 rfl rfl rfl rfl ?_
  refine dcase (fun h1 => ?_) (fun h1 => ?_)
  · refine X1 _ (qint_ct 0 (by omega)) ?_
    exact ⟨trivial, xSub rfl rfl, rc rfl, trivial⟩
  · refine X2 (.own σx σx) ?_
    refine ⟨_, _, words_ct, ?_⟩
    refine dcase (fun h2 => ?_) (fun h2 => ?_)
    · refine X1 _ (qint_ct 0 (by omega)) ?_
      exact ⟨trivial, xSub rfl rfl, rc rfl, trivial⟩
    · refine ecase (fun h3 => ?_) (fun h3 => ?_)
      · refine X1 _ (qint_ct 0 (by omega)) ?_
        exact ⟨trivial, xSub rfl rfl, rc rfl, trivial⟩
      · exfalso; omega
set_option maxHeartbeats 4000000 in
theorem kprob1_ct (hx : XOk Lc words) {h : List Int} {w : Int} (hl : h.length ≤ 1000000) (hw : ¬ (w < 0 ∨ words ≤ w ∨ w = 1)) {seq : Nat → MM Lc}
    (hs : ∀ n, n < (cutH Lc h).length + 1 → CtO P 44 (xOs Lc words (seq n).1.1 (seq n).1.2) [.c (.ad 1000000 0), .c (iSl ((cutH Lc h).drop ((cutH Lc h).length - n)))] (xOs Lc words (seq (n + 1)).1.1 (seq (n + 1)).1.2) [.c (ctxP Lc ((cutH Lc h).drop ((cutH Lc h).length - n)))]) :
    CtO P 12 (xOs Lc words (seq 0).1.1 (seq 0).1.2) [.c (.ad 1000000 0), .c (iSl h), .c (eI .i64 w)] (xOs Lc words (seq ((cutH Lc h).length + 1)).1.1 (seq ((cutH Lc h).length + 1)).1.2) [qP (pF Lc words w (cutH Lc h))] := by
  have h8 := hx.len8
  have h0 := hx.len0
  have w3 := hx.w3
  have w6 := hx.w6
  refine Ct.io (Ty.own_ok [45, 1000001] T_ok) T_mix (N := 101) Tryz.func12 rfl rfl rfl rfl ?_
  refine dcase (fun h1 => ?_) (fun h1 => ?_)
  · exfalso; omega
  refine X2 (.own σx σx) ?_
  refine ⟨_, _, words_ct, ?_⟩
  refine dcase (fun h2 => ?_) (fun h2 => ?_)
  · exfalso; omega
  refine ecase (fun h3 => ?_) (fun h3 => ?_)
  · exfalso; omega
  refine And.intro (by rw [iRow_len]; omega) ?_
  rw [iRow_len]
  refine X2 (.own σx σx) ?_
  refine ⟨_, _, order_ct hx, ?_⟩
  have hclt := cutH_lt hx h
  refine dcase (fun hc => ?_) (fun hc => ?_)
  have e : cutH Lc h = h.drop (h.length - Lc.length + 1) := if_pos (by omega)
  refine And.intro (by rw [iRow_len]; omega) ?_
  rw [iRow_len]
  refine X2 (.own σx σx) ?_
  refine ⟨_, _, order_ct hx, ?_⟩
  refine X1 ((h.length - Lc.length : Nat) : Int) (wI (by omega) (by omega) (by omega)) ?_
  refine X1 ((h.length - Lc.length + 1 : Nat) : Int) (wI (by omega) (by omega) (by omega)) ?_
  refine ⟨h.length - Lc.length + 1, h.length, rfl, by show ((iRow h).length : Int) = _; rw [iRow_len], by omega, by rw [iRow_len]; exact Nat.le_refl _, ?_⟩
  rw [iRow_sub, List.take_of_length_le (by rw [List.length_drop]; omega)]
  rw [e] at hs hclt ⊢
  have hl' : (h.drop (h.length - Lc.length + 1)).length ≤ 1000000 := by rw [List.length_drop]; omega
  generalize h.drop (h.length - Lc.length + 1) = h' at *
  rotate_left
  have e : cutH Lc h = h := if_neg (by omega)
  rw [e] at hs hclt ⊢
  have hl' : h.length ≤ 1000000 := hl
  generalize h = h' at *
  all_goals
    refine X1 _ (qint_ct 1 (by omega)) ?_
    refine X1 (((words - 1).toNat : Nat) : Int) (wI (by omega) (by omega) (by omega)) ?_
    refine X1 _ (hkby_ct (p := (1, 1)) (k := 63) (words - 1).toNat (bd1 (n := 1) (by omega)) (by omega) (by omega) (by omega)) ?_
    refine And.intro rfl ?_
    refine loopJ (Ty.own_ok [45, 1000001] T_ok) T_mix (fun n : Nat => n ≤ h'.length + 1) (fun n => [(0, .c (.ad 1000000 0)), (1, .c (iSl h')), (2, .c (eI .i64 w)), (6, .c (.ad 6 0)), (7, .c (.ad 7 0)), (8, .c (nI .i64 n))])
      (fun n => [(6, .var [.sc (.slice none 0 0), .sc (.slice none 0 0)]), (7, .var (qP (pN Lc words w h' n)).cells), (1000000, xC Lc words 1000001), (1000001, .mp false (seq n).1.1 (seq n).1.2)]) (fun n => h'.length + 1 - n)
      0 (by omega) ⟨rfl, rfl, rfl, rfl, rfl, rfl, trivial⟩ ⟨rfl, rfl, rfl, rfl, trivial⟩ (fun _ : Unit => True) (fun _ => [(6, .c (.ad 6 0)), (7, .c (.ad 7 0))])
      (fun _ => [(6, .var [.sc (.slice none 0 0), .sc (.slice none 0 0)]), (7, .var (qP (pF Lc words w h')).cells), (1000000, xC Lc words 1000001), (1000001, .mp false (seq (h'.length + 1)).1.1 (seq (h'.length + 1)).1.2)]) (fun n hn => ?_) (fun _ _ => ?_)
    · refine And.intro (by rw [iRow_len]; omega) ?_
      rw [iRow_len]
      refine dcase (fun h5 => ?_) (fun h5 => ?_)
      · have hn' : n ≤ h'.length := by omega
        have hbeh := hs n (by omega)
        have hstep := pN_step (Lc := Lc) (words := words) (w := w) hn'
        have hpb := pN_bd hx w h' (n := n) (by omega)
        have hnl : (h'.drop (h'.length - n)).length = n := by rw [List.length_drop]; omega
        refine And.intro (by rw [iRow_len]; omega) ?_
        rw [iRow_len]
        refine X1 ((h'.length - n : Nat) : Int) (wI (by omega) (by omega) (by omega)) ?_
        refine ⟨h'.length - n, h'.length, rfl, by show ((iRow h').length : Int) = _; rw [iRow_len], by omega, by rw [iRow_len]; exact Nat.le_refl _, ?_⟩
        rw [iRow_sub, List.take_of_length_le (by rw [hnl]; omega)]
        generalize h'.drop (h'.length - n) = near at *
        refine X2 (.own σx σx) ?_
        refine ⟨_, _, hbeh, ?_⟩
        have hnlt : near.length < Lc.length := by omega
        have hlv : lvl Lc near = Lc[near.length] := lvl_eq hnlt
        have htl := tot_lvl hx near
        refine ecase (fun h6 => ?_) (fun h6 => ?_)
        · have h7 : totN (after (lvl Lc near) near) = 0 := by
            have : ((totN (after (lvl Lc near) near) : Nat) : Int) = 0 := h6
            omega
          unfold stepF at hstep
          rw [if_pos h7] at hstep
          refine X1 ((n + 1 : Nat) : Int) (wI (by simp) (by omega) (by omega)) ?_
          refine ⟨n + 1, by omega, by omega, ⟨rfl, rfl, rfl, rfl, rfl, rfl, trivial⟩, ⟨rfl, by rw [← hstep]; rfl, rfl, rfl, trivial⟩⟩
        · have h7 : totN (after (lvl Lc near) near) ≠ 0 := fun h => h6 (congrArg Nat.cast h)
          unfold stepF at hstep
          rw [if_neg h7] at hstep
          have hnb := num29_bd hx (near ++ [w])
          have hnl2 : (near ++ [w]).length = n + 1 := by simp [hnl]
          refine X2 (.own [] [(5, 68)]) ?_
          refine ⟨_, _, cloneO_ct near (by omega), ?_⟩
          refine ⟨by rw [iRow_len], by rw [iRow_len, hnl]; show (n + 1 + 768) * 8 ≤ _; omega, by rw [iRow_len, hnl]; show n + 1 ≤ _; omega, iRow_closed, one_closed rfl, ?_⟩
          refine X2 (.own [(1000000, 1000000), (1000001, 1000001), (68, 1000002)] [(1000000, 1000000), (1000001, 1000001), (1000002, 68)]) ?_
          refine ⟨_, _, numberO_ct hx (near ++ [w]) _ (by simp [iRow]; rfl) _ (by rw [hnl2]; show ((iRow near) ++ _).length = _; simp [iRow, hnl]) (by omega) (by omega), ?_⟩
          have hbd1 : Bd 63 (nz ((num29 Lc (near ++ [w])).toNat, 1)) := bd1 (by omega)
          have hbd2 : Bd 500 (nz (gAt (0, 0) (roff (numN Lc[near.length] 1) (numN Lc[near.length] 2) (numN Lc[near.length] 3) (numN Lc[near.length] 4) 1) (roff (numN Lc[near.length] 1) (numN Lc[near.length] 2) (numN Lc[near.length] 3) (numN Lc[near.length] 4) 2) (roff (numN Lc[near.length] 1) (numN Lc[near.length] 2) (numN Lc[near.length] 3) (numN Lc[near.length] 4) 3) (num29 Lc (near ++ [w])))) := by
            rw [gAt_nz (hx.lim.at' hnlt)]; exact atN_bd (hx.lim.at' hnlt) _
          have hsub := hsub_ct hbd1 hbd2 (by omega) (by omega)
          have eow : fSub ((num29 Lc (near ++ [w])).toNat, 1) (atN Lc[near.length] (num29 Lc (near ++ [w]))) = owF Lc w near := by unfold owF; rw [hlv]
          rw [gAt_nz (hx.lim.at' hnlt), nz1, eow] at hsub
          have hgr := gRows_get (ls := Lc) (i := (n : Int)) (n := near.length) (by rw [hnl]) hnlt
          refine X1 (((num29 Lc (near ++ [w])).toNat : Nat) : Int) (wU (by omega) (by omega) (by omega)) ?_
          refine X1 _ (qint_ct _ (by omega)) ?_
          refine And.intro (by omega) (X1 _ hgr ?_)
          refine X1 _ (dAt_ct _ _ _ _ _) ?_
          refine X1 _ hsub ?_
          refine And.intro rfl ?_
          have hob : Bd 600 (nz (owF Lc w near)) := by rw [bd_fr (owF_bd hx w near)]; exact owF_bd hx w near
          have hby := hkby_ct (totN (after (lvl Lc near) near)) hob (by omega) h7 (by omega)
          rw [bd_fr (owF_bd hx w near)] at hby
          refine X1 _ hby ?_
          have hg := rGam_bd hx near
          have hmul := hmul_ct (p := rGam Lc near) (q := pN Lc words w h' n) (by rw [bd_fr hg]; exact hg) (by rw [bd_fr hpb]; exact hpb) (by omega) (by omega)
          rw [bd_fr hg, bd_fr hpb] at hmul
          refine X1 _ hmul ?_
          have hb1 := byF_bd hx w near h7
          have hb2 := fMul_bd hg hpb
          have hadd := hadd2_ct (p := fDiv (owF Lc w near) (totN (after (lvl Lc near) near), 1)) (q := fMul (rGam Lc near) (pN Lc words w h' n)) (by rw [bd_fr hb1]; exact hb1) (by rw [bd_fr hb2]; exact hb2) (by rw [bd_fr hb1]; exact fR_red (Nat.mul_ne_zero (owF_bd hx w near).pos h7)) (by omega) (by omega)
          rw [bd_fr hb1, bd_fr hb2] at hadd
          refine X1 _ hadd ?_
          refine And.intro rfl ?_
          refine X1 ((n + 1 : Nat) : Int) (wI (by simp) (by omega) (by omega)) ?_
          refine ⟨n + 1, by omega, by omega, ⟨rfl, rfl, rfl, rfl, rfl, rfl, trivial⟩, ⟨rfl, by rw [← hstep]; rfl, rfl, rfl, trivial⟩⟩
      · have en : n = h'.length + 1 := by omega
        subst en
        have e2 : pN Lc words w h' (h'.length + 1) = pF Lc words w h' := by simp [pN]
        exact ⟨(), trivial, ⟨rfl, rfl, trivial⟩, ⟨rfl, by rw [e2]; rfl, rfl, rfl, trivial⟩⟩
    · exact ⟨trivial, xSub rfl rfl, rc rfl, trivial⟩
theorem kprob_ct (hx : XOk Lc words) (m : MM Lc) (h : List Int) (hl : h.length ≤ 1000000) (w : Int) :
    ∃ m' : MM Lc, CtO P 12 (xOs Lc words m.1.1 m.1.2) [.c (.ad 1000000 0), .c (iSl h), .c (eI .i64 w)] (xOs Lc words m'.1.1 m'.1.2) [qP (probF Lc words h w)] := by
  unfold probF
  by_cases hw : w < 0 ∨ words ≤ w ∨ w = 1
  · rw [if_pos hw]
    exact ⟨m, kprob0_ct h w hw⟩
  · rw [if_neg hw]
    have hclt := cutH_lt hx h
    obtain ⟨seq, h0, hs⟩ := maps hx (fun n => (cutH Lc h).drop ((cutH Lc h).length - n)) ((cutH Lc h).length + 1) (fun n _ => by rw [List.length_drop]; omega) m
    subst h0
    exact ⟨_, kprob1_ct hx hl hw hs⟩
theorem probF_bd (hx : XOk Lc words) (h : List Int) (w : Int) : Bd 30000 (probF Lc words h w) := by
  have h8 := hx.len8
  have hclt := cutH_lt hx h
  unfold probF
  split
  · exact bd01.le (by omega)
  · exact (pF_bd hx w _).le (by omega)
end
end Go.Proofs.YtpmchgndnhgncaaGreat.Pv
namespace Go.Proofs.YtpmchgndnhgncaaGreat.Pv
open Go
section
variable {Lc : List (List Cnt)} {words : Int}
end
end Go.Proofs.YtpmchgndnhgncaaGreat.Pv
namespace Go.Proofs.YtpmchgndnhgncaaGreat.Pv
open Go
section
variable {Lc : List (List Cnt)} {words : Int}
end
end Go.Proofs.YtpmchgndnhgncaaGreat.Pv
namespace Go.Proofs.YtpmchgndnhgncaaGreat.Pv
open Go
theorem CtO.args {P : Program} {f : FuncId} {O O' : Objs} {args args' res : List A1} (h : CtO P f O args O' res) (hw : ∀ K ok w vs, RelAs K ok w args' vs → RelAs K ok w args vs) : CtO P f O args' O' res :=
  ⟨fun K ok w vs hp hr => h.run K ok w vs hp (hw K ok w vs hr)⟩
theorem RelAs.set {K : Km} {ok : Nat → Prop} {w : World} {xs : List A1} {vs : List Value} {i : Nat} {x y : A1} (h : RelAs K ok w xs vs) (hx : xs[i]? = some x) (hw : ∀ u, RelA K ok w x u → RelA K ok w y u) : RelAs K ok w (xs.set i y) vs :=
  ⟨by rw [List.length_set]; exact h.len, fun j z hj => by
    by_cases e : i = j
    · subst e
      rw [List.getElem?_set_self (List.getElem?_eq_some_iff.1 hx).1] at hj
      cases hj
      obtain ⟨u, h1, h2⟩ := h.get i x hx
      exact ⟨u, h1, hw u h2⟩
    · rw [List.getElem?_set_ne e] at hj
      exact h.get j z hj⟩
theorem nil_row {K : Km} {ok : Nat → Prop} {w : World} {sz : Nat} (u : Value) (h : RelA K ok w (.c (.sc (.slice none 0 0))) u) : RelA K ok w (.c (.sl sz [])) u := by
  cases h with
  | c h =>
    cases h with
    | cl h =>
      cases h with
      | sc _ => exact .c (.cl .sl0)
theorem nil_el {K : Km} {ok : Nat → Prop} {w : World} (u : Value) (h : RelA K ok w (.c (.sl 1 [[.sc (.slice none 0 0)]])) u) : RelA K ok w (.c (ccSl [[]])) u := by
  cases h with
  | c h =>
    cases h with
    | cl h =>
      cases h with
      | sl g h1 h2 h3 h4 h5 h6 h7 =>
        refine .c (.cl (.sl g h1 h2 h3 h4 (fun j el hj => ?_) (fun j i el x hj hi => ?_) (fun j i el x hj hi => ?_)))
        · cases j with
          | zero => simp [ccRow] at hj; subst hj; rfl
          | succ j => simp [ccRow] at hj
        · cases j with
          | zero =>
            simp [ccRow] at hj; subst hj
            cases i with
            | zero => exact h6 0 0 _ _ rfl rfl
            | succ i => simp at hi
          | succ j => simp [ccRow] at hj
        · cases j with
          | zero =>
            simp [ccRow] at hj; subst hj
            cases i with
            | zero =>
              simp at hi; subst hi
              have := h7 0 0 _ _ rfl rfl
              generalize g 0 0 = v at *
              cases this with
              | sc _ => exact .sl0
            | succ i => simp at hi
          | succ j => simp [ccRow] at hj
theorem gW_key {words : Int} {g : List Int} (hw : words ≤ 65536) (h : gW words g = 0) : keyOk g = true := by
  unfold gW at h
  split at h
  · cases h
  · rename_i hb
    unfold keyOk
    rw [List.all_eq_true]
    intro v hv
    rw [Bool.and_eq_true, decide_eq_true_eq, decide_eq_true_eq]
    have : ¬ badW words v = true := fun hbad => hb (List.any_eq_true.2 ⟨v, hv, hbad⟩)
    unfold badW at this
    simp at this
    omega
theorem kwL_all {words : Int} : ∀ {l : List Cnt}, kwL words l = 0 → ∀ x, x ∈ l → gW words x.1 = 0
  | [], _, x, hx => by simp at hx
  | y :: l, h, x, hx => by
    unfold kwL at h
    split at h
    · rename_i h1; exact absurd h h1
    · rename_i h1
      rcases List.mem_cons.1 hx with rfl | hx
      · omega
      · exact kwL_all h x hx
theorem kwLL_all {words : Int} : ∀ {L : List (List Cnt)}, kwLL words L = 0 → ∀ l, l ∈ L → kwL words l = 0
  | [], _, l, hl => by simp at hl
  | m :: L, h, l, hl => by
    unfold kwLL at h
    split at h
    · rename_i h1; exact absurd h h1
    · rename_i h1
      rcases List.mem_cons.1 hl with rfl | hl
      · omega
      · exact kwLL_all h l hl
theorem xok_of {L : List (List Cnt)} {words : Int} (hL : CCSum L) (h : wrong29 L words = 0) (hn : ∀ l, l ∈ L → ∀ x, x ∈ l → x.2 ≤ 4611686018427387904) : XOk (counts L) words := by
  obtain ⟨hok, w1, w2, hkw⟩ := wrong29_ok h
  refine ⟨counts_lim hL.lim, hL.tot, fun l hl => counts_rises hok hl, by rw [counts_len]; exact hok.len0, by rw [counts_len]; exact hok.len8, w1, w2, fun l hl x hx => ?_, fun l hl x hx => ?_⟩
  · obtain ⟨n, hlt, rfl⟩ := counts_mem hl
    obtain ⟨y, hy, rfl⟩ := List.mem_map.1 hx
    rw [cnt1_g]
    exact gW_key w2 (kwL_all (kwLL_all hkw _ (List.getElem_mem hlt)) y hy)
  · obtain ⟨n, hlt, rfl⟩ := counts_mem hl
    obtain ⟨y, hy, rfl⟩ := List.mem_map.1 hx
    have h1 := (hok.form n hlt y hy).2
    have h2 := hn _ (List.getElem_mem hlt) y hy
    unfold cnt1
    split
    · have : ahead (L.getD (n + 1) []) y.1 ≤ 1000000 := by
        by_cases h3 : n + 1 < L.length
        · have e : L.getD (n + 1) [] = L[n + 1] := by simp [List.getD_eq_getElem?_getD, h3]
          rw [e]
          exact Nat.le_trans (List.length_filter_le _ _) (hL.lim.at' h3).len
        · have e : L.getD (n + 1) [] = [] := by simp [List.getD_eq_getElem?_getD, List.getElem?_eq_none (Nat.le_of_not_lt h3)]
          rw [e]; simp [ahead]
      show 0 ≤ ((ahead _ _ : Nat) : Int) ∧ ((ahead _ _ : Nat) : Int) ≤ _
      omega
    · show 0 ≤ y.2 ∧ y.2 ≤ _
      omega
abbrev L0 : List (List Cnt) := [[]]
theorem L0_sum : CCSum L0 := by
  refine ⟨⟨by decide, fun l hl => ?_⟩, fun l hl => ?_⟩
  · simp at hl; subst hl; exact ⟨by simp, fun x hx => by simp at hx⟩
  · have : l = [] := by simpa [counts, L0] using hl
    subst this; decide
theorem L0_wrong : wrong29 L0 3 = 0 := by decide
theorem L0_xok : XOk (counts L0) 3 := xok_of L0_sum L0_wrong fun l hl x hx => by simp at hl; subst hl; simp at hx
theorem new_live : CtO P 27 [] [.c (.sl 1 [[.sc (.slice none 0 0)]]), .c (eI .i64 3)] [(36, some (xO L0 3 34)), (34, some (.mp false [] []))] [.c (.ad 36 0), .c (eI .i64 0)] :=
  (new_ok L0 3 L0_sum L0_wrong).args fun K ok w vs h => h.set (i := 0) rfl nil_el
theorem prob_nil {Lc : List (List Cnt)} {words : Int} (hx : XOk Lc words) (m : MM Lc) (w : Int) :
    ∃ m' : MM Lc, CtO P 12 (xOs Lc words m.1.1 m.1.2) [.c (.ad 1000000 0), .c (.sc (.slice none 0 0)), .c (eI .i64 w)] (xOs Lc words m'.1.1 m'.1.2) [qP (probF Lc words [] w)] := by
  obtain ⟨m', h⟩ := kprob_ct hx m [] (by simp) w
  exact ⟨m', h.args fun K ok w' vs hr => hr.set (i := 1) rfl nil_row⟩
abbrev σL : List (Nat × Nat) := [(50, 1000000), (51, 1000001)]
abbrev νL : List (Nat × Nat) := [(1000000, 50), (1000001, 51)]
theorem frac_eq : fracS 1 2 = ⟨#[49, 47, 50]⟩ := by simp [ByteArray.ext_iff, fracS, digS]
theorem frac_half : ((fracS 1 2).toList == (⟨#[49, 47, 50]⟩ : ByteArray).toList) = true := by rw [frac_eq]; exact beq_self_eq_true _
theorem live_ct : Ct P 8 [] [.c (.sc (.bool true))] := by
  obtain ⟨m1, p1⟩ := prob_nil L0_xok ⟨([], []), MOk.nil⟩ 0
  obtain ⟨m2, p2⟩ := prob_nil L0_xok m1 2
  obtain ⟨m3, p3⟩ := prob_nil L0_xok m2 1
  rw [show probF (counts L0) 3 [] 0 = (1, 2) by decide] at p1
  rw [show probF (counts L0) 3 [] 2 = (1, 2) by decide] at p2
  rw [show probF (counts L0) 3 [] 1 = (0, 1) by decide] at p3
  have ht := rtext_ct 1 2 (by decide) (by decide)
  rw [show dn 2 = 2 by decide] at ht
  refine Ct.go (Ty.own_ok [27, 1000001, 1000003] T_ok) T_mix (N := 37) Tryz.func8 rfl rfl rfl rfl ?_
  refine X2 (.own [] [(36, 50), (34, 51)]) ?_
  refine ⟨_, _, new_live, ?_⟩
  refine X2 (.own σL νL) ?_
  refine ⟨_, _, p1, ?_⟩
  refine X1 _ ht ?_
  refine btrue frac_half ?_
  refine X2 (.own σL νL) ?_
  refine ⟨_, _, p2, ?_⟩
  refine X1 _ ht ?_
  refine btrue frac_half ?_
  refine X2 (.own σL νL) ?_
  refine ⟨_, _, p3, ?_⟩
  refine X1 _ (qzero_ct 0 1 (Nat.le_trans (dg_len (k := 1) (by omega) (by omega)) (by omega))) ?_
  refine X2 (.own σL νL) ?_
  refine ⟨_, _, order_ct L0_xok, ?_⟩
  refine X2 (.own σL νL) ?_
  refine ⟨_, _, words_ct, ?_⟩
  exact ⟨trivial, r1 rfl, trivial⟩
theorem tot_le_mul {M : Int} (hM : 0 ≤ M) : ∀ (l : List Cnt), (∀ x, x ∈ l → x.2 ≤ M) → tot l ≤ l.length * M
  | [], _ => by simp [tot]
  | y :: l, h => by
    have ih := tot_le_mul hM l fun x hx => h x (List.mem_cons_of_mem _ hx)
    have hy := h y (by simp)
    have e : ((y :: l).length : Int) * M = l.length * M + M := by
      rw [List.length_cons]; push_cast; rw [Int.add_mul, Int.one_mul]
    rw [e]
    unfold tot at ih ⊢
    by_cases hl : liveC y = true
    · rw [List.filter_cons_of_pos (p := liveC) hl, List.map_cons, List.sum_cons]; omega
    · rw [List.filter_cons_of_neg (p := liveC) hl]; omega
abbrev σK : List (Nat × Nat) := [(200, 1000000), (201, 1000001)]
abbrev νK : List (Nat × Nat) := [(1000000, 200), (1000001, 201)]
end Go.Proofs.YtpmchgndnhgncaaGreat.Pv
namespace Go.Proofs.YtpmchgndnhgncaaGreat.Pv
open Go
theorem bulk_one {H : Type} (d : DataW H) : 1 ≤ Rows.uptoBulk d := by
  cases d with
  | lit l => cases l <;> simp [Rows.uptoBulk]
  | _ => simp [Rows.uptoBulk]
theorem bulk_part {H : Type} {d : DataW H} {l : List (DataW H)} (h : d ∈ l) : Rows.uptoBulk d ≤ Rows.uptoBulkAll l := by
  induction l with
  | nil => cases h
  | cons x r ih =>
    simp only [Rows.uptoBulkAll]
    cases List.mem_cons.1 h with
    | inl e => subst e; omega
    | inr e => have := ih e; omega
theorem bulk_len {H : Type} (l : List (DataW H)) : l.length ≤ Rows.uptoBulkAll l := by
  induction l with
  | nil => simp [Rows.uptoBulkAll]
  | cons x r ih => have := bulk_one x; simp only [Rows.uptoBulkAll, List.length_cons]; omega
theorem list_of {α : Type} {R : Nat → α → Prop} : ∀ (n : Nat), (∀ i, i < n → ∃ y, R i y) → ∃ l : List α, l.length = n ∧ ∀ (i : Nat) x, l[i]? = some x → R i x
  | 0, _ => ⟨[], rfl, fun i x h => by simp at h⟩
  | n + 1, h => by
    obtain ⟨l, h1, h2⟩ := list_of n fun i hi => h i (by omega)
    obtain ⟨y, hy⟩ := h n (by omega)
    refine ⟨l ++ [y], by simp [h1], fun i x hx => ?_⟩
    rcases Nat.lt_trichotomy i n with hlt | rfl | hgt
    · rw [List.getElem?_append_left (by omega)] at hx; exact h2 i x hx
    · rw [List.getElem?_append_right (by omega), h1, Nat.sub_self] at hx
      cases hx; exact hy
    · rw [List.getElem?_eq_none (by simp; omega)] at hx; cases hx
section
variable {H : Type} {enc : TypeId × Value → H} {W : World} {sp : Nat → Bool} {held : Bool}
abbrev okW (W : World) : Nat → Prop := fun b => b < W.heap.size
theorem rd_slice {t e sz : Nat} (ht : P.underlying t = some (.slice e)) (hc : P.cellsOf e = sz) (hsz : 0 < sz) {α : Type} (R : α → List PC) (hR : ∀ x, (R x).length = sz) (B : Nat) (hB : B ≤ 140737488355328) (Q : α → Prop)
    (elem : ∀ (n : Nat) (cs : List Value) (y : DataW H × List MemPlace), DataW.trod enc P W 0 sp held n e cs = some y → Rows.uptoBulk y.1 ≤ B → ∃ x, Q x ∧ ∀ (i : Nat) c, (R x)[i]? = some c → ∃ u, cs[i]? = some u ∧ Rel (okW W) W c u)
    {fuel : Nat} {cs : List Value} {y : DataW H × List MemPlace} (h : DataW.trod enc P W 0 sp held fuel t cs = some y) (hb : Rows.uptoBulk y.1 ≤ B) :
    ∃ (v : Value) (l : List α), cs = [v] ∧ l.length ≤ B ∧ (∀ x, x ∈ l → Q x) ∧ Rel (okW W) W (.sl sz (l.map R)) v := by
  rcases DataW.trod_slice ht h with ⟨rfl, rfl⟩ | ⟨a, len, cap, elems, rest, n, rfl, rfl, rfl, _, hl, hm, hlen, hel, _⟩
  · exact ⟨_, [], rfl, by simp, fun x hx => by simp at hx, .sl0⟩
  · simp only [Rows.uptoBulk] at hb
    have hlb := bulk_len (elems.map (·.1))
    rw [List.length_map] at hlb
    have each : ∀ i, i < len → ∃ x : α, Q x ∧ ∀ (q : Nat) c, (R x)[q]? = some c → ∃ u, W.cell? ((a.add (i * sz)).add q) = some u ∧ Rel (okW W) W c u := by
      intro i hi
      have h1 := hel i hi
      rw [List.getElem?_eq_getElem (by omega), Option.bind_eq_some_iff] at h1
      obtain ⟨cs', hcs, hy⟩ := h1
      rw [hc] at hcs
      obtain ⟨_, hcl, hcg⟩ := World.cells?_some hcs
      have hbe : Rows.uptoBulk (elems[i]).1 ≤ B := by
        have := bulk_part (d := (elems[i]).1) (l := elems.map (·.1)) (List.mem_map.2 ⟨_, List.getElem_mem _, rfl⟩)
        omega
      obtain ⟨x, hq, hx⟩ := elem n cs' _ hy hbe
      refine ⟨x, hq, fun q c hqc => ?_⟩
      obtain ⟨u, hu, hr⟩ := hx q c hqc
      exact ⟨u, (hcg q (by rw [← hR x]; exact (List.getElem?_eq_some_iff.1 hqc).1)).trans hu, hr⟩
    obtain ⟨l, hll, hlx⟩ := list_of len each
    refine ⟨_, l, rfl, by omega, fun x hx => ?_, ?_⟩
    · obtain ⟨i, hi⟩ := List.mem_iff_getElem?.1 hx
      exact (hlx i x hi).1
    · by_cases h0 : len = 0
      · subst h0
        have : l = [] := List.length_eq_zero_iff.1 hll
        subst this
        exact .sl0
      · obtain ⟨b, off, spot⟩ := a
        have hcell : ∀ (j q : Nat) x c, l[j]? = some x → (R x)[q]? = some c → ∃ u, W.cell? (((⟨b, off, spot⟩ : Addr).add (j * sz)).add q) = some u ∧ Rel (okW W) W c u := fun j q x c hj hq => (hlx j x hj).2 q c hq
        have hpos : 0 < l.length := by rw [hll]; exact Nat.pos_of_ne_zero h0
        obtain ⟨x0, hx0⟩ : ∃ x0, l[0]? = some x0 := ⟨l[0]'hpos, List.getElem?_eq_getElem hpos⟩
        have hposR : 0 < (R x0).length := by rw [hR]; exact hsz
        obtain ⟨c0, hc0⟩ : ∃ c0, (R x0)[0]? = some c0 := ⟨(R x0)[0]'hposR, List.getElem?_eq_getElem hposR⟩
        obtain ⟨u0, hu0, _⟩ := hcell 0 0 _ _ hx0 hc0
        have hu0' : W.cell? ⟨b, off, spot⟩ = some u0 := by simpa [Addr.add] using hu0
        have hspot : spot = none := by simpa using World.cell?_spot hu0'
        subst hspot
        have hblk : b < W.heap.size := by
          unfold World.cell? at hu0'
          cases hbb : W.heap[b]? with
          | none => simp [hbb] at hu0'
          | some o => exact (Array.getElem?_eq_some_iff.1 hbb).1
        have hadd : ∀ j q : Nat, (((⟨b, off, none⟩ : Addr).add (j * sz)).add q) = ⟨b, off + (j * sz + q), none⟩ := fun j q => by
          rw [Addr.add_lit, Addr.add_lit, Nat.add_assoc]
        have hlm : (l.map R).length = len := by rw [List.length_map, hll]
        rw [← hlm]
        have key : ∀ (j i : Nat) (el : List PC) (x : PC), (l.map R)[j]? = some el → el[i]? = some x → ∃ u, W.cell? ⟨b, off + (j * sz + i), none⟩ = some u ∧ Rel (okW W) W x u := fun j i el x hj hi => by
          rw [List.getElem?_map, Option.map_eq_some_iff] at hj
          obtain ⟨z, hz, rfl⟩ := hj
          obtain ⟨u, hu, hr⟩ := hcell j i z x hz hi
          rw [hadd] at hu
          exact ⟨u, hu, hr⟩
        refine .sl (fun j i => (W.cell? ⟨b, off + (j * sz + i), none⟩).getD (.bool true)) (by rw [hlm]; exact hl) (by rw [hlm, BIG_eq]; exact Nat.le_trans (by omega) hB) hblk hblk (fun j el hj => ?_) (fun j i el x hj hi => ?_) (fun j i el x hj hi => ?_)
        · rw [List.getElem?_map, Option.map_eq_some_iff] at hj
          obtain ⟨z, _, rfl⟩ := hj
          exact hR z
        · obtain ⟨u, hu, _⟩ := key j i el x hj hi
          rw [hu]; rfl
        · obtain ⟨u, hu, hr⟩ := key j i el x hj hi
          rw [hu]; exact hr
end
end Go.Proofs.YtpmchgndnhgncaaGreat.Pv
namespace Go.Proofs.YtpmchgndnhgncaaGreat.Pv
open Go
section
variable {H : Type} {enc : TypeId × Value → H} {W : World} {sp : Nat → Bool} {held : Bool} {B : Nat}
theorem wf_i64 {n : Int} (h : (Lit.int .i64 n).wf = true) : inR .i64 n := by
  have : -9223372036854775808 ≤ n ∧ n ≤ 9223372036854775807 := by simpa [Lit.wf, IntKind.min, IntKind.max, IntKind.signed, IntKind.bits] using h
  exact this
theorem rd_int {n : Nat} {cs : List Value} {y : DataW H × List MemPlace} (h : DataW.trod enc P W 0 sp held n 3 cs = some y) : ∃ z : Int, cs = [.int .i64 z] ∧ Rel (okW W) W (eI .i64 z) (.int .i64 z) := by
  obtain ⟨z, rfl, rfl, hw⟩ := DataW.trod_int Tryz.underlying3 h
  exact ⟨z, rfl, .sc (wf_i64 hw)⟩
theorem rd_ints (hB : B ≤ 140737488355328) {n : Nat} {cs : List Value} {y : DataW H × List MemPlace} (h : DataW.trod enc P W 0 sp held n 22 cs = some y) (hb : Rows.uptoBulk y.1 ≤ B) :
    ∃ (v : Value) (l : List Int), cs = [v] ∧ l.length ≤ B ∧ Rel (okW W) W (iSl l) v := by
  obtain ⟨v, l, h1, h2, _, h4⟩ := rd_slice Tryz.underlying22 (sz := 1) (by kernel_rfl) (by omega) (fun z : Int => [eI .i64 z]) (fun _ => rfl) B hB (fun _ => True) (fun n cs y h _ => by
    obtain ⟨z, rfl, hr⟩ := rd_int h
    refine ⟨z, trivial, fun i c hi => ?_⟩
    cases i with
    | zero => cases hi; exact ⟨_, rfl, hr⟩
    | succ i => simp at hi) h hb
  exact ⟨v, l, h1, h2, h4⟩
end
end Go.Proofs.YtpmchgndnhgncaaGreat.Pv
namespace Go.Proofs.YtpmchgndnhgncaaGreat.Pv
open Go
def blankI (n : Int) : Bool := n == 9 || n == 11 || n == 12 || n == 13 || n == 32
theorem blE {a b : Bool} (h : a = b) : (some (.c (.sc (.bool a))) : Option AV) = some (.c (.sc (.bool b))) := by rw [h]
theorem blank_ct (n : Int) : Ct P 150 [.c (eI .u8 n)] [.c (.sc (.bool (blankI n)))] := by
  refine Ct.go T_ok T_mix (N := 21) Tryz.func150 rfl rfl rfl rfl ?_
  refine ecase (fun h1 => ?_) (fun h1 => ?_)
  · exact ⟨trivial, r1 (blE (by subst h1; rfl)), trivial⟩
  · refine ecase (fun h2 => ?_) (fun h2 => ?_)
    · exact ⟨trivial, r1 (blE (by subst h2; rfl)), trivial⟩
    · refine ecase (fun h3 => ?_) (fun h3 => ?_)
      · exact ⟨trivial, r1 (blE (by subst h3; rfl)), trivial⟩
      · refine ecase (fun h4 => ?_) (fun h4 => ?_)
        · exact ⟨trivial, r1 (blE (by subst h4; rfl)), trivial⟩
        · exact ⟨trivial, r1 (blE (show (n == 32) = blankI n by simp [blankI, h1, h2, h3, h4])), trivial⟩
abbrev sS (s : ByteArray) : PC := .sc (.string s)
def markB (s : ByteArray) : Bool := (s.toList == (ByteArray.mk #[60, 115, 62]).toList) || (s.toList == (ByteArray.mk #[60, 47, 115, 62]).toList)
theorem mark_ct (s : ByteArray) : Ct P 151 [.c (sS s)] [.c (.sc (.bool (markB s)))] := by
  refine Ct.go T_ok T_mix (N := 9) Tryz.func151 rfl rfl rfl rfl ?_
  refine bcase (fun h1 => ?_) (fun h1 => ?_)
  · exact ⟨trivial, r1 (blE (show true = markB s by unfold markB; rw [show (s.toList == (ByteArray.mk #[60, 115, 62]).toList) = true from h1]; rfl)), trivial⟩
  · exact ⟨trivial, r1 (blE (show (s.toList == (ByteArray.mk #[60, 47, 115, 62]).toList) = markB s by unfold markB; rw [show (s.toList == (ByteArray.mk #[60, 115, 62]).toList) = false from h1]; rfl)), trivial⟩
def sRow (l : List ByteArray) : List (List PC) := l.map fun x => [sS x]
abbrev sSl (l : List ByteArray) : PC := .sl 1 (sRow l)
theorem sRow_len {l : List ByteArray} : (sRow l).length = l.length := by simp [sRow]
theorem sRow_getN {l : List ByteArray} {i : Int} {n : Nat} (h0 : i = n) (h : n < l.length) : (sRow l)[i.toNat]? = some [sS l[n]] := by
  subst h0
  simp [sRow, h]
def find14 (s : ByteArray) : List ByteArray → Int
  | [] => -1
  | y :: l => if (y.toList == s.toList) = true then 0 else if find14 s l < 0 then -1 else find14 s l + 1
theorem find14_spec (s : ByteArray) : ∀ (l : List ByteArray) (i : Nat) (h : i < l.length), (∀ (j : Nat) (hj : j < i), (l[j].toList == s.toList) = false) → (l[i].toList == s.toList) = true → find14 s l = i
  | [], i, h, _, _ => by simp at h
  | y :: l, 0, _, _, h => by simp at h; simp [find14, h]
  | y :: l, i + 1, hi, h1, h => by
    have h0 := h1 0 (by omega)
    have := find14_spec s l i (by simpa using hi) (fun j hj => by simpa using h1 (j + 1) (by omega)) (by simpa using h)
    simp only [List.getElem_cons_zero] at h0
    simp only [find14, this, h0]
    rw [if_neg (by simp), if_neg (by omega)]
    simp
theorem find14_none (s : ByteArray) : ∀ (l : List ByteArray), (∀ (j : Nat) (hj : j < l.length), (l[j].toList == s.toList) = false) → find14 s l = -1
  | [], _ => rfl
  | y :: l, h => by
    have h0 := h 0 (by simp)
    have := find14_none s l (fun j hj => h (j + 1) (Nat.succ_lt_succ hj))
    simp only [List.getElem_cons_zero] at h0
    simp only [find14, this, h0]
    rw [if_neg (by simp), if_pos (by omega)]
theorem find14_ct (l : List ByteArray) (s : ByteArray) (hl : l.length ≤ 1000000) : Ct P 116 [.c (sSl l), .c (sS s)] [.c (eI .i64 (find14 s l))] := by
  refine Ct.go T_ok T_mix (N := 19) Tryz.func116 rfl rfl rfl rfl ?_
  refine loopJ T_ok T_mix (fun i : Nat => i ≤ l.length ∧ ∀ (j : Nat) (hj : j < l.length), j < i → (l[j].toList == s.toList) = false) (fun i => [(0, .c (sSl l)), (1, .c (sS s)), (5, .c (nI .i64 i))]) (fun _ => []) (fun i => l.length - i)
    0 ⟨by omega, fun j _ hj => by omega⟩ ⟨rfl, rfl, rfl, trivial⟩ trivial (fun _ : Unit => find14 s l = -1) (fun _ => []) (fun _ => []) (fun i hi => ?_) (fun _ he => ?_)
  · obtain ⟨h1, h2⟩ := hi
    refine And.intro (by rw [sRow_len]; omega) ?_
    rw [sRow_len]
    refine dcase (fun h5 => ?_) (fun h5 => ?_)
    · refine And.intro (by omega) (X1 _ (sRow_getN rfl (by omega)) ?_)
      refine bcase (fun h6 => ?_) (fun h6 => ?_)
      · exact ⟨trivial, r1 (iE (find14_spec s l i (by omega) (fun j hj => h2 j (by omega) hj) h6).symm), trivial⟩
      · refine X1 ((i + 1 : Nat) : Int) (wI1 (by omega)) ?_
        refine ⟨i + 1, ⟨by omega, fun j hj hji => ?_⟩, by omega, ⟨rfl, rfl, rfl, trivial⟩, trivial⟩
        by_cases e : j = i
        · subst e; exact h6
        · exact h2 j hj (by omega)
    · exact ⟨(), find14_none s l (fun j hj => h2 j hj (by omega)), trivial, trivial⟩
  · exact ⟨trivial, r1 (iE he.symm), trivial⟩
theorem find14_lt (s : ByteArray) (l : List ByteArray) : -1 ≤ find14 s l ∧ find14 s l < l.length := by
  induction l with
  | nil => simp [find14]
  | cons y l ih =>
    simp only [find14, List.length_cons]
    split
    · omega
    · split <;> omega
theorem id15_ct (l : List ByteArray) (s : ByteArray) (hl : l.length ≤ 1000000) : Ct P 153 [.c (sSl l), .c (sS s)] [.c (eI .i64 (if 0 > find14 s l then 0 else find14 s l))] := by
  refine Ct.go T_ok T_mix (N := 9) Tryz.func153 rfl rfl rfl rfl ?_
  refine X1 _ (find14_ct l s hl) ?_
  exact ⟨trivial, r1 rfl, trivial⟩
def id15 (l : List ByteArray) (s : ByteArray) : Int := if 0 > find14 s l then 0 else find14 s l
theorem iApp {l : List Int} {x : Int} : iRow l ++ [[eI .i64 x]] = iRow (l ++ [x]) := by simp [iRow]
theorem ids15_ct (l m : List ByteArray) (hl : l.length ≤ 1000000) (hm : m.length ≤ 1000000) : Ct P 119 [.c (sSl l), .c (sSl m)] [.c (iSl (m.map (id15 l)))] := by
  refine Ct.go T_ok T_mix (N := 23) Tryz.func119 rfl rfl rfl rfl ?_
  refine nilC (r := 50) (t := 5) (sz := 1) rfl rfl ?_
  refine loopJ T_ok T_mix (fun i : Nat => i ≤ m.length) (fun i => [(0, .c (sSl l)), (1, .c (sSl m)), (5, .c (.ow 50 1 i)), (6, .c (nI .i64 i))]) (fun i => [(50, .row 1 (iRow ((m.take i).map (id15 l))))]) (fun i => m.length - i)
    0 (by omega) ⟨rfl, rfl, rfl, rfl, trivial⟩ ⟨rfl, trivial⟩ (fun _ : Unit => True) (fun _ => [(5, .c (.ow 50 1 m.length))]) (fun _ => [(50, .row 1 (iRow (m.map (id15 l))))]) (fun i hi => ?_) (fun _ he => ?_)
  · refine And.intro (by rw [sRow_len]; omega) ?_
    rw [sRow_len]
    refine dcase (fun h5 => ?_) (fun h5 => ?_)
    · refine And.intro (by omega) (X1 _ (sRow_getN rfl (by omega)) ?_)
      refine X1 _ (id15_ct l m[i] hl) ?_
      have e0 : (iRow ((m.take i).map (id15 l))).length = i := by simp [iRow]; omega
      refine ⟨e0.symm, by rw [e0]; show (i + 1 + 768) * 8 ≤ _; omega, by rw [e0]; show i + 1 ≤ _; omega, iRow_closed, c1_closed, ?_⟩
      refine X1 ((i + 1 : Nat) : Int) (wI1 (by omega)) ?_
      have e1 : (m.take (i + 1)).map (id15 l) = (m.take i).map (id15 l) ++ [id15 l m[i]] := by
        rw [List.take_succ_eq_append_getElem (by omega), List.map_append]; rfl
      exact ⟨i + 1, by omega, by omega, ⟨rfl, rfl, owE (by rw [List.length_append, e0]; rfl), rfl, trivial⟩, ⟨rowE (by rw [e1, ← iApp]; rfl), trivial⟩⟩
    · have e : i = m.length := by omega
      subst e
      exact ⟨(), trivial, ⟨rfl, trivial⟩, ⟨rowE (by rw [List.take_length]), trivial⟩⟩
  · exact ⟨trivial, r1 rfl, trivial⟩
def marks15 : List ByteArray := [⟨#[60, 117, 110, 107, 62]⟩, ⟨#[60, 115, 62]⟩, ⟨#[60, 47, 115, 62]⟩]
theorem marks15_ct : Ct P 71 [] [.c (sSl marks15)] := by
  refine Ct.go T_ok T_mix (N := 2) Tryz.func71 rfl rfl rfl rfl ?_
  exact ⟨trivial, r1 rfl, trivial⟩
theorem sRow_closed {l : List ByteArray} : closedLL (sRow l) := by
  intro el h
  obtain ⟨x, _, rfl⟩ := List.mem_map.1 h
  rfl
theorem sRow_app (l : List ByteArray) (x : ByteArray) : sRow (l ++ [x]) = sRow l ++ [[sS x]] := by simp [sRow]
def lnS (s : ByteArray) : Nat → List ByteArray × Nat
  | 0 => ([], 0)
  | i + 1 => if s.data[i]? = some 10 then ((lnS s i).1 ++ [s.extract (lnS s i).2 i], i + 1) else lnS s i
theorem lnS_le (s : ByteArray) : ∀ i, (lnS s i).2 ≤ i ∧ (lnS s i).1.length ≤ i
  | 0 => ⟨Nat.le_refl _, Nat.le_refl _⟩
  | i + 1 => by
    obtain ⟨h1, h2⟩ := lnS_le s i
    unfold lnS
    split
    · exact ⟨Nat.le_refl _, by simp; omega⟩
    · exact ⟨by omega, by omega⟩
def lines13 (s : ByteArray) : List ByteArray := (lnS s s.size).1 ++ [s.extract (lnS s s.size).2 s.size]
theorem lines_ct (s : ByteArray) (hs : s.size ≤ 100000) : Ct P 114 [.c (sS s)] [.c (sSl (lines13 s))] := by
  have e : sRow (lines13 s) = sRow (lnS s s.size).1 ++ [[sS (s.extract (lnS s s.size).2 s.size)]] := by unfold lines13; rw [sRow_app]
  rw [show sSl (lines13 s) = .sl 1 (sRow (lnS s s.size).1 ++ [[sS (s.extract (lnS s s.size).2 s.size)]]) from congrArg _ e]
  refine Ct.go T_ok T_mix (N := 33) Tryz.func114 rfl rfl rfl rfl ?_
  refine nilC (r := 34) (t := 3) (sz := 1) rfl rfl ?_
  refine loopJ T_ok T_mix (fun i : Nat => i ≤ s.size) (fun i => [(0, .c (sS s)), (3, .c (.ow 34 1 (lnS s i).1.length)), (4, .c (nI .i64 (lnS s i).2)), (5, .c (nI .i64 i))]) (fun i => [(34, .row 1 (sRow (lnS s i).1))]) (fun i => s.size - i)
    0 (by omega) ⟨rfl, rfl, rfl, rfl, trivial⟩ ⟨rfl, trivial⟩ (fun _ : Unit => True) (fun _ => [(0, .c (sS s)), (3, .c (.ow 34 1 (lnS s s.size).1.length)), (4, .c (nI .i64 (lnS s s.size).2))]) (fun _ => [(34, .row 1 (sRow (lnS s s.size).1))]) (fun i hi => ?_) (fun _ _ => ?_)
  · obtain ⟨a1, a2⟩ := lnS_le s i
    refine dcase (fun h1 => ?_) (fun h1 => ?_)
    · have hi' : i < s.size := by omega
      have hb : s.data[(i : Int).toNat]? = some s.data[i] := by simp [hi', show i < s.data.size from hi']
      refine And.intro (by omega) (X1 _ hb ?_)
      refine ecase (fun h2 => ?_) (fun h2 => ?_)
      · have h3 : s.data[i]? = some 10 := by
          rw [Array.getElem?_eq_getElem hi']
          congr 1
          have : (s.data[i]).toNat = 10 := by omega
          exact UInt8.toNat_inj.1 this
        have hst : lnS s (i + 1) = ((lnS s i).1 ++ [s.extract (lnS s i).2 i], i + 1) := by rw [lnS, if_pos h3]
        refine ⟨(lnS s i).2, i, rfl, rfl, a1, by omega, ?_⟩
        refine ⟨by rw [sRow_len], by rw [sRow_len]; show ((lnS s i).1.length + 1 + 768) * 16 ≤ _; omega, by rw [sRow_len]; show (lnS s i).1.length + 1 ≤ _; omega, sRow_closed, one_closed rfl, ?_⟩
        refine X1 ((i + 1 : Nat) : Int) (wI1 (by omega)) ?_
        refine X1 ((i + 1 : Nat) : Int) (wI1 (by omega)) ?_
        refine ⟨i + 1, by omega, by omega, ⟨rfl, owE (by rw [hst, List.length_append, List.length_append, sRow_len]; rfl), by rw [hst]; rfl, rfl, trivial⟩, ⟨rowE (by rw [hst, sRow_app]; rfl), trivial⟩⟩
      · have h3 : ¬ s.data[i]? = some 10 := fun h => by
          rw [Array.getElem?_eq_getElem hi', Option.some.injEq] at h
          apply h2
          rw [h]; rfl
        have hst : lnS s (i + 1) = lnS s i := by rw [lnS, if_neg h3]
        refine X1 ((i + 1 : Nat) : Int) (wI1 (by omega)) ?_
        refine ⟨i + 1, by omega, by omega, ⟨rfl, by rw [hst]; rfl, by rw [hst]; rfl, rfl, trivial⟩, ⟨by rw [hst]; rfl, trivial⟩⟩
    · have e : i = s.size := by omega
      subst e
      exact ⟨(), trivial, ⟨rfl, rfl, rfl, trivial⟩, ⟨rfl, trivial⟩⟩
  · obtain ⟨a1, a2⟩ := lnS_le s s.size
    refine ⟨rfl, by rw [sRow_len]; show (0 + (lnS s s.size).1.length + 768) * 16 ≤ _; omega, by rw [sRow_len]; show 0 + (lnS s s.size).1.length ≤ _; omega, nil_closed, sRow_closed, ?_⟩
    refine ⟨(lnS s s.size).2, s.size, rfl, rfl, a1, Nat.le_refl _, ?_⟩
    refine ⟨rfl, by rw [List.length_append, sRow_len]; show (0 + (lnS s s.size).1.length + 1 + 768) * 16 ≤ _; omega, by rw [List.length_append, sRow_len]; show 0 + (lnS s s.size).1.length + 1 ≤ _; omega, sRow_closed, one_closed rfl, ?_⟩
    refine And.intro rfl ?_
    exact ⟨trivial, r1 rfl, trivial⟩
abbrev nbB (b : UInt8) : Bool := !(blankI (b.toNat : Int))
def runL (s : ByteArray) (i : Nat) : Nat := ((s.data.toList.drop i).takeWhile nbB).length
theorem tw_spec {α : Type} {p : α → Bool} : ∀ (l : List α), (∀ (j : Nat) x, j < (l.takeWhile p).length → l[j]? = some x → p x = true) ∧ (∀ x, l[(l.takeWhile p).length]? = some x → p x = false) ∧ (l.takeWhile p).length ≤ l.length
  | [] => ⟨fun j x h => by simp at h, fun x h => by simp at h, by simp⟩
  | y :: l => by
    obtain ⟨h1, h2, h3⟩ := tw_spec (p := p) l
    cases hp : p y with
    | true =>
      rw [List.takeWhile_cons_of_pos hp]
      refine ⟨fun j x hj hx => ?_, fun x hx => ?_, by simp; omega⟩
      · cases j with
        | zero => simp at hx; subst hx; exact hp
        | succ j => exact h1 j x (by simpa using hj) (by simpa using hx)
      · exact h2 x (by simpa using hx)
    | false =>
      rw [List.takeWhile_cons_of_neg (by rw [hp]; simp)]
      exact ⟨fun j x hj => by simp at hj, fun x hx => by simp at hx; subst hx; exact hp, by simp⟩
theorem run_spec (s : ByteArray) (i : Nat) (hi : i ≤ s.size) : i + runL s i ≤ s.size ∧ (∀ j, j < runL s i → ∀ b, s.data[i + j]? = some b → nbB b = true) ∧ ∀ b, s.data[i + runL s i]? = some b → nbB b = false := by
  obtain ⟨h1, h2, h3⟩ := tw_spec (p := nbB) (s.data.toList.drop i)
  have e : ∀ j, (s.data.toList.drop i)[j]? = s.data[i + j]? := fun j => by simp [List.getElem?_drop]
  refine ⟨?_, fun j hj b hb => h1 j b hj (by rw [e]; exact hb), fun b hb => h2 b (by rw [e]; exact hb)⟩
  have : (s.data.toList.drop i).length = s.size - i := by rw [List.length_drop]; rfl
  unfold runL
  omega
abbrev unkS : ByteArray := ⟨#[60, 117, 110, 107, 62]⟩
def wdW (s : ByteArray) (i : Nat) : ByteArray := if runL s i > 255 then unkS else s.extract i (i + runL s i)
def wdF (s : ByteArray) : Nat → Nat → List ByteArray → List ByteArray
  | 0, _, out => out
  | f + 1, i, out => match s.data[i]? with
    | none => out
    | some b => if nbB b = false then wdF s f (i + 1) out else wdF s f (i + runL s i) (if markB (wdW s i) = true then out else out ++ [wdW s i])
def words13 (s : ByteArray) : List ByteArray := wdF s (s.size + 1) 0 []
theorem run_pos {s : ByteArray} {i : Nat} (hi : i < s.size) {b : UInt8} (hb : s.data[i]? = some b) (h : nbB b = true) : 1 ≤ runL s i := by
  obtain ⟨_, _, h3⟩ := run_spec s i (by omega)
  apply Classical.byContradiction
  intro hn
  have e : runL s i = 0 := by omega
  rw [e] at h3
  have := h3 b (by simpa using hb)
  rw [h] at this; cases this
def WordsOk (out : List ByteArray) : Prop := ∀ w, w ∈ out → w.size ≤ 255 ∧ markB w = false
theorem wdW_ok (s : ByteArray) (i : Nat) : (wdW s i).size ≤ 255 := by
  unfold wdW
  split
  · decide
  · have : (s.extract i (i + runL s i)).size ≤ runL s i := by rw [ByteArray.size_extract]; omega
    omega
theorem words13_ct (s : ByteArray) (hs : s.size ≤ 100000) : Ct P 115 [.c (sS s)] [.c (sSl (words13 s))] := by
  refine Ct.go T_ok T_mix (N := 53) Tryz.func115 rfl rfl rfl rfl ?_
  refine nilC (r := 60) (t := 3) (sz := 1) rfl rfl ?_
  refine loopJ T_ok T_mix (G := Nat × List ByteArray × Nat) (fun (i, out, f) => i ≤ s.size ∧ out.length ≤ i ∧ s.size + 1 ≤ i + f ∧ wdF s f i out = words13 s) (fun (i, out, _) => [(0, .c (sS s)), (3, .c (.ow 60 1 out.length)), (4, .c (nI .i64 i))]) (fun (_, out, _) => [(60, .row 1 (sRow out))]) (fun (i, _, _) => s.size - i)
    (0, [], s.size + 1) ⟨by omega, by simp, by omega, rfl⟩ ⟨rfl, rfl, rfl, trivial⟩ ⟨rfl, trivial⟩ (fun _ : Unit => True) (fun _ => [(3, .c (.ow 60 1 (words13 s).length))]) (fun _ => [(60, .row 1 (sRow (words13 s)))]) (fun (i, out, f) hi => ?_) (fun _ _ => ?_)
  · obtain ⟨i1, i2, i3, i4⟩ := hi
    refine dcase (fun h1 => ?_) (fun h1 => ?_)
    · have hi' : i < s.size := by omega
      obtain ⟨f', rfl⟩ : ∃ f', f = f' + 1 := ⟨f - 1, by omega⟩
      have hb : s.data[i]? = some s.data[i] := Array.getElem?_eq_getElem hi'
      generalize s.data[i] = b at *
      rw [wdF, hb] at i4
      simp only at i4
      obtain ⟨r1', r2', r3'⟩ := run_spec s i i1
      refine And.intro (by omega) (X1 b (by rw [Int.toNat_natCast]; exact hb) ?_)
      refine X1 _ (blank_ct _) ?_
      refine bcase (fun h2 => ?_) (fun h2 => ?_)
      · have hn : nbB b = false := by show (!(blankI (b.toNat : Int))) = false; rw [h2]; rfl
        rw [if_pos hn] at i4
        refine X1 ((i + 1 : Nat) : Int) (wI1 (by omega)) ?_
        exact ⟨(i + 1, out, f'), ⟨by omega, by omega, by omega, i4⟩, by show s.size - (i + 1) < s.size - i; omega, ⟨rfl, rfl, rfl, trivial⟩, ⟨rfl, trivial⟩⟩
      · have hn : nbB b = true := by show (!(blankI (b.toNat : Int))) = true; rw [h2]; rfl
        rw [if_neg (by rw [hn]; simp)] at i4
        have hpos := run_pos hi' hb hn
        refine loopJ T_ok T_mix (fun n : Nat => n ≤ runL s i) (fun n => [(0, .c (sS s)), (3, .c (.ow 60 1 out.length)), (4, .c (nI .i64 i)), (5, .c (nI .i64 n))]) (fun _ => [(60, .row 1 (sRow out))]) (fun n => runL s i - n)
          0 (by omega) ⟨rfl, rfl, rfl, rfl, trivial⟩ ⟨rfl, trivial⟩ (fun _ : Unit => True) (fun _ => [(0, .c (sS s)), (3, .c (.ow 60 1 out.length)), (4, .c (nI .i64 i)), (5, .c (nI .i64 (runL s i)))]) (fun _ => [(60, .row 1 (sRow out))]) (fun n hn' => ?_) (fun _ _ => ?_)
        · refine X1 ((s.size - i : Nat) : Int) (wI (by omega) (by omega) (by omega)) ?_
          refine dcase (fun h3 => ?_) (fun h3 => ?_)
          · have hin : i + n < s.size := by omega
            have hbn : s.data[i + n]? = some s.data[i + n] := Array.getElem?_eq_getElem hin
            generalize s.data[i + n] = c at *
            refine X1 ((i + n : Nat) : Int) (wI (by simp) (by omega) (by omega)) ?_
            refine And.intro (by omega) (X1 c (by rw [Int.toNat_natCast]; exact hbn) ?_)
            refine X1 _ (blank_ct _) ?_
            refine bcase (fun h4 => ?_) (fun h4 => ?_)
            · have h5 : nbB c = true := h4
              have hlt : n < runL s i := by
                apply Classical.byContradiction
                intro hge
                have e : n = runL s i := by omega
                subst e
                have := r3' c hbn
                rw [h5] at this; cases this
              refine X1 ((n + 1 : Nat) : Int) (wI (by simp) (by omega) (by omega)) ?_
              exact ⟨n + 1, by omega, by omega, ⟨rfl, rfl, rfl, rfl, trivial⟩, ⟨rfl, trivial⟩⟩
            · have h5 : nbB c = false := h4
              have e : n = runL s i := by
                apply Classical.byContradiction
                intro hne
                have := r2' n (by omega) c hbn
                rw [h5] at this; cases this
              subst e
              exact ⟨(), trivial, ⟨rfl, rfl, rfl, rfl, trivial⟩, ⟨rfl, trivial⟩⟩
          · have e : n = runL s i := by omega
            subst e
            exact ⟨(), trivial, ⟨rfl, rfl, rfl, rfl, trivial⟩, ⟨rfl, trivial⟩⟩
        · refine X1 ((i + runL s i : Nat) : Int) (wI (by simp) (by omega) (by omega)) ?_
          refine ⟨i, i + runL s i, rfl, rfl, by omega, r1', ?_⟩
          refine dcase (fun h6 => ?_) (fun h6 => ?_)
          have ew : wdW s i = unkS := if_pos (by omega)
          rw [ew] at i4
          rotate_left
          have ew : wdW s i = s.extract i (i + runL s i) := if_neg (by omega)
          rw [ew] at i4
          all_goals
            refine X1 _ (mark_ct _) ?_
            refine bcase (fun h7 => ?_) (fun h7 => ?_)
            · rw [if_neg (by simpa using h7)] at i4
              refine ⟨by rw [sRow_len], by rw [sRow_len]; show (out.length + 1 + 768) * 16 ≤ _; omega, by rw [sRow_len]; show out.length + 1 ≤ _; omega, sRow_closed, one_closed rfl, ?_⟩
              refine X1 ((i + runL s i : Nat) : Int) (wI (by simp) (by omega) (by omega)) ?_
              refine ⟨(i + runL s i, _, f'), ⟨r1', by rw [List.length_append]; show out.length + 1 ≤ _; omega, by omega, i4⟩, by show s.size - (i + runL s i) < s.size - i; omega, ⟨rfl, owE (by rw [List.length_append, List.length_append, sRow_len]; rfl), rfl, trivial⟩, ⟨rowE (by rw [sRow_app]; rfl), trivial⟩⟩
            · rw [if_pos (by simpa using h7)] at i4
              refine X1 ((i + runL s i : Nat) : Int) (wI (by simp) (by omega) (by omega)) ?_
              exact ⟨(i + runL s i, out, f'), ⟨r1', by omega, by omega, i4⟩, by show s.size - (i + runL s i) < s.size - i; omega, ⟨rfl, rfl, rfl, trivial⟩, ⟨rfl, trivial⟩⟩
    · have hnone : s.data[i]? = none := Array.getElem?_eq_none (by show s.size ≤ i; omega)
      obtain ⟨f', rfl⟩ : ∃ f', f = f' + 1 := ⟨f - 1, by omega⟩
      rw [wdF, hnone] at i4
      simp only at i4
      subst i4
      exact ⟨(), trivial, ⟨rfl, trivial⟩, ⟨rfl, trivial⟩⟩
  · exact ⟨trivial, r1 rfl, trivial⟩
theorem wdF_ok (s : ByteArray) : ∀ (f i : Nat) (out : List ByteArray), i ≤ s.size → WordsOk out → out.length ≤ i → WordsOk (wdF s f i out) ∧ (wdF s f i out).length ≤ s.size
  | 0, i, out, hi, h, hl => ⟨h, by show out.length ≤ _; omega⟩
  | f + 1, i, out, hi, h, hl => by
    unfold wdF
    cases hb : s.data[i]? with
    | none => exact ⟨h, by show out.length ≤ _; omega⟩
    | some b =>
      have hi' : i < s.size := (Array.getElem?_eq_some_iff.1 hb).1
      simp only
      split
      · exact wdF_ok s f (i + 1) out (by omega) h (by omega)
      · rename_i hn
        have hpos := run_pos hi' hb (by simpa using hn)
        have hr := (run_spec s i hi).1
        refine wdF_ok s f (i + runL s i) _ hr ?_ ?_
        · split
          · exact h
          · rename_i hm
            intro w hw
            rcases List.mem_append.1 hw with hw | hw
            · exact h w hw
            · simp at hw; subst hw
              exact ⟨wdW_ok s i, by simpa using hm⟩
        · split
          · omega
          · rw [List.length_append]; show out.length + 1 ≤ _; omega
theorem words_ok (s : ByteArray) : WordsOk (words13 s) ∧ (words13 s).length ≤ s.size := wdF_ok s _ 0 [] (by omega) (fun w h => by simp at h) (by simp)
def ssRow (L : List (List ByteArray)) : List (List PC) := L.map fun l => [sSl l]
abbrev ssSl (L : List (List ByteArray)) : PC := .sl 1 (ssRow L)
theorem ssRow_len {L : List (List ByteArray)} : (ssRow L).length = L.length := by simp [ssRow]
theorem ssRow_closed {L : List (List ByteArray)} : closedLL (ssRow L) := by
  intro el h
  obtain ⟨x, _, rfl⟩ := List.mem_map.1 h
  rfl
theorem ssRow_app (L : List (List ByteArray)) (l : List ByteArray) : ssRow (L ++ [l]) = ssRow L ++ [[sSl l]] := by simp [ssRow]
theorem ssRow_get {L : List (List ByteArray)} {i : Int} {n : Nat} (h0 : i = n) (h : n < L.length) : (ssRow L)[i.toNat]? = some [sSl L[n]] := by
  subst h0
  simp [ssRow, h]
def allW (l : List ByteArray) : List (List ByteArray) := (l.map words13).filter fun w => decide (w.length > 0)
def all13 (s : ByteArray) : List (List ByteArray) := allW (lines13 s)
theorem allW_snoc (l : List ByteArray) (x : ByteArray) : allW (l ++ [x]) = if (words13 x).length > 0 then allW l ++ [words13 x] else allW l := by
  unfold allW
  rw [List.map_append, List.filter_append]
  by_cases h : (words13 x).length > 0
  · rw [if_pos h]; simp [List.filter_cons, h]
  · rw [if_neg h]; simp [List.filter_cons, h]
theorem lines_sz {s : ByteArray} : (∀ i, ∀ l, l ∈ (lnS s i).1 → l.size ≤ s.size) := by
  intro i
  induction i with
  | zero => intro l h; simp [lnS] at h
  | succ i ih =>
    intro l h
    unfold lnS at h
    split at h
    · rcases List.mem_append.1 h with h | h
      · exact ih l h
      · simp at h; subst h
        rw [ByteArray.size_extract]; omega
    · exact ih l h
theorem lines_bd (s : ByteArray) : (lines13 s).length ≤ s.size + 1 ∧ ∀ l, l ∈ lines13 s → l.size ≤ s.size := by
  unfold lines13
  refine ⟨by rw [List.length_append]; have := (lnS_le s s.size).2; show (lnS s s.size).1.length + 1 ≤ _; omega, fun l h => ?_⟩
  rcases List.mem_append.1 h with h | h
  · exact lines_sz s.size l h
  · simp at h; subst h
    rw [ByteArray.size_extract]; omega
theorem all13_ct (s : ByteArray) (hs : s.size ≤ 100000) : Ct P 72 [.c (sS s)] [.c (ssSl (all13 s))] := by
  obtain ⟨b1, b2⟩ := lines_bd s
  refine Ct.go T_ok T_mix (N := 28) Tryz.func72 rfl rfl rfl rfl ?_
  refine X1 _ (lines_ct s hs) ?_
  unfold all13
  generalize lines13 s = l at *
  refine nilC (r := 34) (t := 3) (sz := 1) rfl rfl ?_
  refine loopJ T_ok T_mix (fun i : Nat => i ≤ l.length) (fun i => [(4, .c (sSl l)), (3, .c (.ow 34 1 (allW (l.take i)).length)), (5, .c (nI .i64 i))]) (fun i => [(34, .row 1 (ssRow (allW (l.take i))))]) (fun i => l.length - i)
    0 (by omega) ⟨rfl, rfl, rfl, trivial⟩ ⟨rfl, trivial⟩ (fun _ : Unit => True) (fun _ => [(3, .c (.ow 34 1 (allW l).length))]) (fun _ => [(34, .row 1 (ssRow (allW l)))]) (fun i hi => ?_) (fun _ _ => ?_)
  · refine And.intro (by rw [sRow_len]; omega) ?_
    rw [sRow_len]
    refine dcase (fun h1 => ?_) (fun h1 => ?_)
    · have hi' : i < l.length := by omega
      have hget := sRow_getN (l := l) (i := (i : Int)) (n := i) rfl hi'
      have hs : l.take (i + 1) = l.take i ++ [l[i]] := List.take_succ_eq_append_getElem hi'
      have hsn := allW_snoc (l.take i) l[i]
      rw [← hs] at hsn
      have hb := b2 l[i] (List.getElem_mem hi')
      have hwl := (words_ok l[i]).2
      have hal : (allW (l.take i)).length ≤ i := by
        have := List.length_filter_le (fun w : List ByteArray => decide (w.length > 0)) ((l.take i).map words13)
        rw [List.length_map, List.length_take] at this
        unfold allW; omega
      generalize l[i] = x at *
      refine And.intro (by omega) (X1 _ hget ?_)
      refine X1 _ (words13_ct x (by omega)) ?_
      refine And.intro (by rw [sRow_len]; omega) ?_
      rw [sRow_len]
      refine dcase (fun h2 => ?_) (fun h2 => ?_)
      · rw [if_pos (by omega)] at hsn
        refine ⟨by rw [ssRow_len], by rw [ssRow_len]; show ((allW (l.take i)).length + 1 + 768) * 24 ≤ _; omega, by rw [ssRow_len]; show (allW (l.take i)).length + 1 ≤ _; omega, ssRow_closed, one_closed rfl, ?_⟩
        refine X1 ((i + 1 : Nat) : Int) (wI1 (by omega)) ?_
        exact ⟨i + 1, by omega, by omega, ⟨rfl, owE (by rw [hsn, List.length_append, List.length_append, ssRow_len]; rfl), rfl, trivial⟩, ⟨rowE (by rw [hsn, ssRow_app]; rfl), trivial⟩⟩
      · rw [if_neg (by omega)] at hsn
        refine X1 ((i + 1 : Nat) : Int) (wI1 (by omega)) ?_
        exact ⟨i + 1, by omega, by omega, ⟨rfl, by rw [hsn]; rfl, rfl, trivial⟩, ⟨by rw [hsn]; rfl, trivial⟩⟩
    · have e : i = l.length := by omega
      subst e
      rw [List.take_length]
      exact ⟨(), trivial, ⟨rfl, trivial⟩, ⟨rfl, trivial⟩⟩
  · exact ⟨trivial, r1 rfl, trivial⟩
def put14 (l : List ByteArray) (s : ByteArray) : List ByteArray := if find14 s l ≥ 0 then l else l ++ [s]
theorem put14_ct (l : List ByteArray) (s : ByteArray) (hl : l.length ≤ 500000) : Ct P 73 [.c (sSl l), .c (sS s)] [.c (sSl (put14 l s))] := by
  unfold put14
  by_cases h0 : find14 s l ≥ 0
  · rw [if_pos h0]
    refine Ct.go T_ok T_mix (N := 16) Tryz.func73 rfl rfl rfl rfl ?_
    refine X1 _ (find14_ct l s (by omega)) ?_
    refine dcase (fun h1 => ?_) (fun h1 => ?_)
    · exact ⟨trivial, r1 rfl, trivial⟩
    · exfalso; omega
  · rw [if_neg h0, show sSl (l ++ [s]) = .sl 1 (sRow l ++ [[sS s]]) from congrArg _ (sRow_app l s)]
    refine Ct.go T_ok T_mix (N := 16) Tryz.func73 rfl rfl rfl rfl ?_
    refine X1 _ (find14_ct l s (by omega)) ?_
    refine dcase (fun h1 => ?_) (fun h1 => ?_)
    · exfalso; omega
    · refine ⟨rfl, by rw [sRow_len]; show (0 + l.length + 768) * 16 ≤ _; omega, by rw [sRow_len]; show 0 + l.length ≤ _; omega, nil_closed, sRow_closed, ?_⟩
      refine ⟨rfl, by rw [List.length_append, sRow_len]; show (0 + l.length + 1 + 768) * 16 ≤ _; omega, by rw [List.length_append, sRow_len]; show 0 + l.length + 1 ≤ _; omega, sRow_closed, one_closed rfl, ?_⟩
      exact ⟨trivial, r1 rfl, trivial⟩
theorem put14_len (l : List ByteArray) (s : ByteArray) : (put14 l s).length ≤ l.length + 1 := by
  unfold put14; split
  · omega
  · simp
def putAll (l : List ByteArray) (ws : List ByteArray) : List ByteArray := ws.foldl put14 l
theorem putAll_snoc (l ws : List ByteArray) (w : ByteArray) : putAll l (ws ++ [w]) = put14 (putAll l ws) w := by simp [putAll, List.foldl_append]
theorem putAll_len : ∀ (ws l : List ByteArray), (putAll l ws).length ≤ l.length + ws.length
  | [], l => by simp [putAll]
  | w :: ws, l => by
    have := putAll_len ws (put14 l w)
    have h2 := put14_len l w
    show (putAll (put14 l w) ws).length ≤ _
    rw [List.length_cons]; omega
def putLL (l : List ByteArray) (L : List (List ByteArray)) : List ByteArray := L.foldl putAll l
theorem putLL_snoc (l : List ByteArray) (L : List (List ByteArray)) (ws : List ByteArray) : putLL l (L ++ [ws]) = putAll (putLL l L) ws := by simp [putLL, List.foldl_append]
theorem putLL_len {n : Nat} : ∀ (L : List (List ByteArray)) (l : List ByteArray), (∀ ws, ws ∈ L → ws.length ≤ n) → (putLL l L).length ≤ l.length + L.length * n
  | [], l, _ => by simp [putLL]
  | ws :: L, l, h => by
    have := putLL_len L (putAll l ws) fun x hx => h x (List.mem_cons_of_mem _ hx)
    have h2 := putAll_len ws l
    have h3 := h ws (by simp)
    show (putLL (putAll l ws) L).length ≤ _
    rw [List.length_cons, Nat.add_mul, Nat.one_mul]; omega
def learn15 (s : ByteArray) : List ByteArray := putLL marks15 (all13 s)
theorem all13_bd (s : ByteArray) : (all13 s).length ≤ s.size + 1 ∧ ∀ ws, ws ∈ all13 s → ws.length ≤ s.size ∧ WordsOk ws := by
  obtain ⟨b1, b2⟩ := lines_bd s
  unfold all13 allW
  refine ⟨?_, fun ws h => ?_⟩
  · have := List.length_filter_le (fun w : List ByteArray => decide (w.length > 0)) ((lines13 s).map words13)
    rw [List.length_map] at this
    omega
  · obtain ⟨h1, _⟩ := List.mem_filter.1 h
    obtain ⟨l, hl, rfl⟩ := List.mem_map.1 h1
    obtain ⟨w1, w2⟩ := words_ok l
    have := b2 l hl
    exact ⟨by omega, w1⟩
theorem learn15_ct (s : ByteArray) (hs : s.size ≤ 500) : Ct P 33 [.c (sS s)] [.c (sSl (learn15 s))] := by
  obtain ⟨b1, b2⟩ := all13_bd s
  have hA := all13_ct s (by omega)
  unfold learn15
  generalize all13 s = L at *
  have hbd : ∀ i, (putLL marks15 (L.take i)).length ≤ 251000 := fun i => by
    have h1 := putLL_len (n := 500) (L.take i) marks15 fun ws h => by have := (b2 ws (List.mem_of_mem_take h)).1; omega
    have h2 : (L.take i).length ≤ 501 := by rw [List.length_take]; omega
    have h3 : (L.take i).length * 500 ≤ 501 * 500 := Nat.mul_le_mul_right _ h2
    have h4 : marks15.length = 3 := rfl
    omega
  refine Ct.go T_ok T_mix (N := 35) Tryz.func33 rfl rfl rfl rfl ?_
  refine X1 _ marks15_ct ?_
  refine X1 _ hA ?_
  refine loopJ T_ok T_mix (fun i : Nat => i ≤ L.length) (fun i => [(4, .c (ssSl L)), (3, .c (sSl (putLL marks15 (L.take i)))), (5, .c (nI .i64 i))]) (fun _ => []) (fun i => L.length - i)
    0 (by omega) ⟨rfl, rfl, rfl, trivial⟩ trivial (fun _ : Unit => True) (fun _ => [(3, .c (sSl (putLL marks15 L)))]) (fun _ => []) (fun i hi => ?_) (fun _ _ => ?_)
  · refine And.intro (by rw [ssRow_len]; omega) ?_
    rw [ssRow_len]
    refine dcase (fun h1 => ?_) (fun h1 => ?_)
    · have hi' : i < L.length := by omega
      have hget := ssRow_get (L := L) (i := (i : Int)) (n := i) rfl hi'
      have hs : L.take (i + 1) = L.take i ++ [L[i]] := List.take_succ_eq_append_getElem hi'
      have hbi := hbd i
      have hwl := (b2 _ (List.getElem_mem hi')).1
      have hsn : putLL marks15 (L.take (i + 1)) = putAll (putLL marks15 (L.take i)) L[i] := by rw [hs, putLL_snoc]
      generalize L[i] = ws at *
      generalize putLL marks15 (L.take i) = l at *
      refine loopB T_ok T_mix (fun k : Nat => k ≤ ws.length) (fun k => [(4, .c (ssSl L)), (3, .c (sSl (putAll l (ws.take k)))), (5, .c (nI .i64 i)), (6, .c (nI .i64 k))]) (fun _ => []) (fun k => ws.length - k)
        0 (by omega) ⟨rfl, rfl, rfl, rfl, trivial⟩ trivial (fun k hk => ?_)
      refine And.intro (by omega) (X1 _ hget ?_)
      refine And.intro (by rw [sRow_len]; omega) ?_
      rw [sRow_len]
      refine dcase (fun h2 => ?_) (fun h2 => ?_)
      · have hk' : k < ws.length := by omega
        have hs2 : ws.take (k + 1) = ws.take k ++ [ws[k]] := List.take_succ_eq_append_getElem hk'
        have hsn2 : putAll l (ws.take (k + 1)) = put14 (putAll l (ws.take k)) ws[k] := by rw [hs2, putAll_snoc]
        have hlen2 := putAll_len (ws.take k) l
        rw [List.length_take] at hlen2
        refine And.intro (by omega) (X1 _ hget ?_)
        refine And.intro (by omega) (X1 _ (sRow_getN (n := k) rfl hk') ?_)
        refine X1 _ (put14_ct _ _ (by omega)) ?_
        refine X1 ((k + 1 : Nat) : Int) (wI (by simp) (by omega) (by omega)) ?_
        exact ⟨k + 1, by omega, by omega, ⟨rfl, by rw [hsn2]; rfl, rfl, rfl, trivial⟩, trivial⟩
      · have e : k = ws.length := by omega
        subst e
        rw [List.take_length, ← hsn]
        refine X1 ((i + 1 : Nat) : Int) (wI1 (by omega)) ?_
        exact ⟨i + 1, by omega, by omega, ⟨rfl, rfl, rfl, trivial⟩, trivial⟩
    · have e : i = L.length := by omega
      subst e
      rw [List.take_length]
      exact ⟨(), trivial, ⟨rfl, trivial⟩, trivial⟩
  · exact ⟨trivial, r1 rfl, trivial⟩
def pad16 (ws l : List ByteArray) : List Int := ([1] ++ l.map (id15 ws)) ++ [2]
theorem pad16_ct (ws l : List ByteArray) (hw : ws.length ≤ 1000000) (hl : l.length ≤ 900000) : Ct P 75 [.c (sSl ws), .c (sSl l)] [.c (iSl (pad16 ws l))] := by
  have e : iRow (pad16 ws l) = ([[eI .i64 1]] ++ iRow (l.map (id15 ws))) ++ [[eI .i64 2]] := by simp [pad16, iRow]
  have hlen : (iRow (l.map (id15 ws))).length = l.length := by simp [iRow]
  have hids := ids15_ct ws l hw (by omega)
  rw [show iSl (pad16 ws l) = .sl 1 (([[eI .i64 1]] ++ iRow (l.map (id15 ws))) ++ [[eI .i64 2]]) from congrArg _ e]
  generalize l.map (id15 ws) = ids at *
  refine Ct.go T_ok T_mix (N := 19) Tryz.func75 rfl rfl rfl rfl ?_
  refine ⟨rfl, by show (0 + 1 + 768) * 8 ≤ _; omega, by show 0 + 1 ≤ _; omega, nil_closed, one_closed rfl, ?_⟩
  refine X1 _ hids ?_
  refine ⟨rfl, by rw [hlen]; show (1 + l.length + 768) * 8 ≤ _; omega, by rw [hlen]; show 1 + l.length ≤ _; omega, one_closed rfl, iRow_closed, ?_⟩
  have hc : closedLL ([[eI .i64 1]] ++ iRow ids) := fun el h => by
    rcases List.mem_append.1 h with h | h
    · simp at h; subst h; rfl
    · exact iRow_closed el h
  have hl2 : ([[eI .i64 1]] ++ iRow ids).length = l.length + 1 := by rw [List.length_append, hlen]; show 1 + l.length = _; omega
  refine ⟨rfl, by show (0 + ([[eI .i64 1]] ++ iRow ids).length + 768) * 8 ≤ _; rw [hl2]; omega, by show 0 + ([[eI .i64 1]] ++ iRow ids).length ≤ _; rw [hl2]; omega, nil_closed, hc, ?_⟩
  refine ⟨rfl, by show (([[eI .i64 1]] ++ iRow ids).length + 1 + 768) * 8 ≤ _; rw [hl2]; omega, by show ([[eI .i64 1]] ++ iRow ids).length + 1 ≤ _; rw [hl2]; omega, hc, one_closed rfl, ?_⟩
  exact ⟨trivial, r1 rfl, trivial⟩
def iiRow (L : List (List Int)) : List (List PC) := L.map fun l => [iSl l]
abbrev iiSl (L : List (List Int)) : PC := .sl 1 (iiRow L)
theorem iiRow_len {L : List (List Int)} : (iiRow L).length = L.length := by simp [iiRow]
theorem iiRow_closed {L : List (List Int)} : closedLL (iiRow L) := by
  intro el h
  obtain ⟨x, _, rfl⟩ := List.mem_map.1 h
  rfl
theorem iiRow_app (L : List (List Int)) (l : List Int) : iiRow (L ++ [l]) = iiRow L ++ [[iSl l]] := by simp [iiRow]
theorem iiRow_get {L : List (List Int)} {i : Int} {n : Nat} (h0 : i = n) (h : n < L.length) : (iiRow L)[i.toNat]? = some [iSl L[n]] := by
  subst h0
  simp [iiRow, h]
def all16 (ws : List ByteArray) (s : ByteArray) : List (List Int) := (all13 s).map (pad16 ws)
theorem all16_ct (ws : List ByteArray) (s : ByteArray) (hw : ws.length ≤ 1000000) (hs : s.size ≤ 100000) : Ct P 35 [.c (sSl ws), .c (sS s)] [.c (iiSl (all16 ws s))] := by
  obtain ⟨b1, b2⟩ := all13_bd s
  have hA := all13_ct s hs
  unfold all16
  generalize all13 s = L at *
  refine Ct.go T_ok T_mix (N := 26) Tryz.func35 rfl rfl rfl rfl ?_
  refine X1 _ hA ?_
  refine nilC (r := 34) (t := 5) (sz := 1) rfl rfl ?_
  refine loopJ T_ok T_mix (fun i : Nat => i ≤ L.length) (fun i => [(0, .c (sSl ws)), (6, .c (ssSl L)), (5, .c (.ow 34 1 i)), (7, .c (nI .i64 i))]) (fun i => [(34, .row 1 (iiRow ((L.take i).map (pad16 ws))))]) (fun i => L.length - i)
    0 (by omega) ⟨rfl, rfl, rfl, rfl, trivial⟩ ⟨rfl, trivial⟩ (fun _ : Unit => True) (fun _ => [(5, .c (.ow 34 1 L.length))]) (fun _ => [(34, .row 1 (iiRow (L.map (pad16 ws))))]) (fun i hi => ?_) (fun _ _ => ?_)
  · refine And.intro (by rw [ssRow_len]; omega) ?_
    rw [ssRow_len]
    refine dcase (fun h1 => ?_) (fun h1 => ?_)
    · have hi' : i < L.length := by omega
      have hget := ssRow_get (L := L) (i := (i : Int)) (n := i) rfl hi'
      have hs : (L.take (i + 1)).map (pad16 ws) = (L.take i).map (pad16 ws) ++ [pad16 ws L[i]] := by rw [List.take_succ_eq_append_getElem hi', List.map_append]; rfl
      have hwl := (b2 _ (List.getElem_mem hi')).1
      have hl : ((L.take i).map (pad16 ws)).length = i := by simp; omega
      generalize L[i] = x at *
      refine And.intro (by omega) (X1 _ hget ?_)
      refine X1 _ (pad16_ct ws x hw (by omega)) ?_
      refine ⟨by rw [iiRow_len, hl], by rw [iiRow_len, hl]; show (i + 1 + 768) * 24 ≤ _; omega, by rw [iiRow_len, hl]; show i + 1 ≤ _; omega, iiRow_closed, one_closed rfl, ?_⟩
      refine X1 ((i + 1 : Nat) : Int) (wI1 (by omega)) ?_
      exact ⟨i + 1, by omega, by omega, ⟨rfl, rfl, owE (by rw [List.length_append, iiRow_len, hl]; rfl), rfl, trivial⟩, ⟨rowE (by rw [hs, iiRow_app]; rfl), trivial⟩⟩
    · have e : i = L.length := by omega
      subst e
      rw [List.take_length]
      exact ⟨(), trivial, ⟨rfl, trivial⟩, ⟨rfl, trivial⟩⟩
  · exact ⟨trivial, r1 rfl, trivial⟩
def grS (p : List Int) (n : Nat) : Nat → List (List Int)
  | 0 => []
  | i + 1 => if n + i ≤ p.length then grS p n i ++ [(p.drop i).take n] else grS p n i
theorem grS_len (p : List Int) (n : Nat) : ∀ i, (grS p n i).length ≤ i
  | 0 => Nat.le_refl _
  | i + 1 => by
    have := grS_len p n i
    unfold grS
    split
    · simp; omega
    · omega
def grams16 (p : List Int) (n : Nat) : List (List Int) := grS p n p.length
theorem grams16_ct (p : List Int) (n : Nat) (h1 : 1 ≤ n) (hn : n ≤ 1000000) (hp : p.length ≤ 900000) : Ct P 152 [.c (iSl p), .c (nI .i64 n)] [.c (iiSl (grams16 p n))] := by
  refine Ct.go T_ok T_mix (N := 32) Tryz.func152 rfl rfl rfl rfl ?_
  refine dcase (fun h => ?_) (fun _ => ?_)
  · exfalso; omega
  refine nilC (r := 34) (t := 5) (sz := 1) rfl rfl ?_
  refine loopJ T_ok T_mix (fun i : Nat => i ≤ p.length) (fun i => [(0, .c (iSl p)), (1, .c (nI .i64 n)), (5, .c (.ow 34 1 (grS p n i).length)), (6, .c (nI .i64 i))]) (fun i => [(34, .row 1 (iiRow (grS p n i)))]) (fun i => p.length - i)
    0 (by omega) ⟨rfl, rfl, rfl, rfl, trivial⟩ ⟨rfl, trivial⟩ (fun _ : Unit => True) (fun _ => [(5, .c (.ow 34 1 (grams16 p n).length))]) (fun _ => [(34, .row 1 (iiRow (grams16 p n)))]) (fun i hi => ?_) (fun _ _ => ?_)
  · refine And.intro (by rw [iRow_len]; omega) ?_
    rw [iRow_len]
    have hgl := grS_len p n i
    refine dcase (fun h2 => ?_) (fun h2 => ?_)
    · refine And.intro (by rw [iRow_len]; omega) ?_
      rw [iRow_len]
      refine X1 ((p.length - i : Nat) : Int) (wI (by omega) (by omega) (by omega)) ?_
      refine dcase (fun h3 => ?_) (fun h3 => ?_)
      · have hst : grS p n (i + 1) = grS p n i ++ [(p.drop i).take n] := by rw [grS, if_pos (by omega)]
        refine X1 ((i + n : Nat) : Int) (wI (by simp) (by omega) (by omega)) ?_
        refine ⟨i, i + n, rfl, rfl, by omega, by rw [iRow_len]; omega, ?_⟩
        rw [iRow_sub, show i + n - i = n by omega]
        refine ⟨by rw [iiRow_len], by rw [iiRow_len]; show ((grS p n i).length + 1 + 768) * 24 ≤ _; omega, by rw [iiRow_len]; show (grS p n i).length + 1 ≤ _; omega, iiRow_closed, one_closed rfl, ?_⟩
        refine X1 ((i + 1 : Nat) : Int) (wI1 (by omega)) ?_
        exact ⟨i + 1, by omega, by omega, ⟨rfl, rfl, owE (by rw [hst, List.length_append, List.length_append, iiRow_len]; rfl), rfl, trivial⟩, ⟨rowE (by rw [hst, iiRow_app]; rfl), trivial⟩⟩
      · have hst : grS p n (i + 1) = grS p n i := by rw [grS, if_neg (by omega)]
        refine X1 ((i + 1 : Nat) : Int) (wI1 (by omega)) ?_
        exact ⟨i + 1, by omega, by omega, ⟨rfl, rfl, by rw [hst]; rfl, rfl, trivial⟩, ⟨by rw [hst]; rfl, trivial⟩⟩
    · have e : i = p.length := by omega
      subst e
      exact ⟨(), trivial, ⟨rfl, trivial⟩, ⟨rfl, trivial⟩⟩
  · exact ⟨trivial, r1 rfl, trivial⟩
end Go.Proofs.YtpmchgndnhgncaaGreat.Pv
