/- Parts of a proof, joined: Ca Cb Cr Cf Cn Co Cp Fd Ed Cs Ee Ea. -/
import Derived.Test.YtpmchgndnhgncaaGreatKbH
namespace Go.Proofs.YtpmchgndnhgncaaGreat.Pv
open Go
theorem trim_ct (l : List Nat) (hl : l.length ≤ 1000000) : Ct P 138 [.c (nSl .i64 l)] [.c (nSl .i64 (trimL l))] := by
  refine Ct.go T_ok T_mix (N := 23) Tryz.func138 rfl rfl rfl rfl ?_
  refine And.intro (by rw [nRow_len]; omega) ?_
  refine loopJ T_ok T_mix (fun n : Nat => n ≤ l.length ∧ trimL l = trimL (l.take n)) (fun n => [(0, .c (nSl .i64 l)), (3, .c (nI .i64 n))]) (fun _ => []) (fun n => n) l.length ⟨Nat.le_refl _, by simp⟩ ⟨rfl, by rw [nRow_len]; rfl, trivial⟩ trivial
    (fun n : Nat => n ≤ l.length ∧ l.take n = trimL l) (fun n => [(0, .c (nSl .i64 l)), (3, .c (nI .i64 n))]) (fun _ => []) (fun n hn => ?_) (fun n hn => ?_)
  · obtain ⟨hn, ht⟩ := hn
    refine dcase (fun h1 => ?_) (fun h1 => ?_)
    · obtain ⟨m, rfl⟩ : ∃ m, n = m + 1 := ⟨n - 1, by omega⟩
      refine X1 (m : Int) (wI (by omega) (by omega) (by omega)) ?_
      refine And.intro (by omega) (X1 _ (nRow_getN rfl (by omega)) ?_)
      refine ecase (fun h2 => ?_) (fun h2 => ?_)
      · refine X1 (m : Int) (wI (by omega) (by omega) (by omega)) ?_
        exact ⟨m, ⟨by omega, ht.trans (trimL_step l hn (by omega))⟩, by omega, ⟨rfl, rfl, trivial⟩, trivial⟩
      · exact ⟨m + 1, ⟨hn, trimL_take l hn ht (.inr (by simpa using h2))⟩, ⟨rfl, rfl, trivial⟩, trivial⟩
    · exact ⟨n, ⟨hn, trimL_take l hn ht (.inl (by omega))⟩, ⟨rfl, rfl, trivial⟩, trivial⟩
  · obtain ⟨hn, ht⟩ := hn
    refine ⟨0, n, rfl, rfl, by omega, by rw [nRow_len]; omega, ?_⟩
    have e : [] ++ ((nRow .i64 l).drop 0).take (n - 0) = nRow .i64 (trimL l) := by rw [List.nil_append, nRow_sub, List.drop_zero, Nat.sub_zero, ht]
    have hle : (((nRow .i64 l).drop 0).take (n - 0)).length ≤ 1000000 := by simp [nRow_len]; omega
    refine ⟨rfl, ?_, ?_, nil_closed, ?_, ?_⟩
    · show (0 + (((nRow .i64 l).drop 0).take (n - 0)).length + 768) * 8 ≤ _
      omega
    · show 0 + (((nRow .i64 l).drop 0).take (n - 0)).length ≤ _
      omega
    · rw [nRow_sub]; exact nRow_closed
    · exact ⟨trivial, r1 (toSl e), trivial⟩
theorem at_ct (l : List Nat) (i : Int) (hl : l.length ≤ 1000000) : Ct P 137 [.c (nSl .i64 l), .c (eI .i64 i)] [.c (nI .i64 (if 0 ≤ i then l.getD i.toNat 0 else 0))] := by
  refine Ct.go T_ok T_mix (N := 17) Tryz.func137 rfl rfl rfl rfl ?_
  refine dcase (fun h1 => ?_) (fun h1 => ?_)
  · rw [if_neg (by omega)]
    exact ⟨trivial, r1 rfl, trivial⟩
  · refine And.intro (by rw [nRow_len]; omega) ?_
    rw [nRow_len]
    refine dcase (fun h2 => ?_) (fun h2 => ?_)
    · have : l.getD i.toNat 0 = 0 := by
        rw [List.getD_eq_getElem?_getD, List.getElem?_eq_none (by omega)]; rfl
      rw [if_pos (by omega), this]
      exact ⟨trivial, r1 rfl, trivial⟩
    · rw [if_pos (by omega)]
      refine And.intro (by omega) (X1 _ (nRow_get (by omega) (by omega)) ?_)
      exact ⟨trivial, r1 rfl, trivial⟩
theorem at_ctN (l : List Nat) (i : Nat) (hl : l.length ≤ 1000000) : Ct P 137 [.c (nSl .i64 l), .c (nI .i64 i)] [.c (nI .i64 (l.getD i 0))] := by
  have := at_ct l i hl
  rwa [if_pos (Int.natCast_nonneg i), Int.toNat_natCast] at this
abbrev dV (n : Nat) : PC := nSl .i64 (dg 256 n)
theorem sub_ct (a b : Nat) (hab : b ≤ a) (hl : (dg 256 a).length ≤ 1000000) : Ct P 98 [.c (dV a), .c (dV b)] [.c (dV (a - b))] := by
  have hlb : (dg 256 b).length ≤ (dg 256 a).length := dg_len_mono (by omega) hab
  refine Ct.go T_ok T_mix (N := 35) Tryz.func98 rfl rfl rfl rfl ?_
  refine nilC (r := 50) (t := 5) (sz := 1) rfl rfl ?_
  refine loopJ T_ok T_mix (fun g : List Nat × Nat => g.1.length ≤ (dg 256 a).length ∧ Dig 256 g.1 ∧ g.2 ≤ 1 ∧ val 256 ((dg 256 a).take g.1.length) + 256 ^ g.1.length * g.2 = val 256 ((dg 256 b).take g.1.length) + val 256 g.1)
    (fun g => [(0, .c (dV a)), (1, .c (dV b)), (5, .c (.ow 50 1 g.1.length)), (6, .c (nI .i64 g.2)), (7, .c (nI .i64 g.1.length))]) (fun g => [(50, .row 1 (nRow .i64 g.1))]) (fun g => (dg 256 a).length - g.1.length)
    ([], 0) ⟨by simp, .nil, by simp, by simp [val]⟩ ⟨rfl, rfl, rfl, rfl, rfl, trivial⟩ ⟨rfl, trivial⟩
    (fun l : List Nat => Dig 256 l ∧ val 256 l = a - b ∧ l.length ≤ 1000000) (fun l => [(5, .c (.ow 50 1 l.length))]) (fun l => [(50, .row 1 (nRow .i64 l))]) (fun g hg => ?_) (fun l hl => ?_)
  · obtain ⟨l, c⟩ := g
    obtain ⟨h1, h2, h3, h4⟩ := hg
    simp only at h1 h2 h3 h4
    refine And.intro (by rw [nRow_len]; omega) ?_
    rw [nRow_len]
    refine dcase (fun h5 => ?_) (fun h5 => ?_)
    · replace h5 : (l.length : Int) < (dg 256 a).length := h5
      refine X1 _ (at_ctN (dg 256 a) l.length hl) ?_
      have hx := (dig_dg (B := 256) (by omega) a).getD (by omega) l.length
      have hy := (dig_dg (B := 256) (by omega) b).getD (by omega) l.length
      have hA := val_take_succ 256 (dg 256 a) l.length
      have hB := val_take_succ 256 (dg 256 b) l.length
      generalize (dg 256 a).getD l.length 0 = x at hx hA ⊢
      generalize hyy : (dg 256 b).getD l.length 0 = y at hy hB
      refine X1 ((256 + x : Nat) : Int) (wI (by omega) (by omega) (by omega)) ?_
      refine X1 _ (at_ctN (dg 256 b) l.length (by omega)) ?_
      rw [hyy]
      refine X1 ((256 + x - y : Nat) : Int) (wI (by omega) (by omega) (by omega)) ?_
      refine X1 ((256 + x - y - c : Nat) : Int) (wI (by omega) (by omega) (by omega)) ?_
      obtain ⟨v, hv⟩ : ∃ v, v = 256 + x - y - c := ⟨_, rfl⟩
      rw [← hv]
      refine And.intro (by omega) (X1 ((v % 256 : Nat) : Int) (by rw [Int.tmod_eq_emod_of_nonneg (by omega)]; omega) (And.intro ⟨by omega, by omega⟩ ?_))
      refine app_row rfl (by simp; omega) c1_closed ?_
      refine And.intro (by omega) (X1 ((v / 256 : Nat) : Int) (by rw [Int.tdiv_eq_ediv_of_nonneg (by omega)]; omega) (And.intro ⟨by omega, by omega⟩ ?_))
      refine X1 ((1 - v / 256 : Nat) : Int) (wI (by omega) (by omega) (by omega)) ?_
      refine X1 ((l.length + 1 : Nat) : Int) (wI (by simp) (by omega) (by omega)) ?_
      refine ⟨(l ++ [v % 256], 1 - v / 256), ⟨by simp <;> omega, h2.snoc (by omega), by simp <;> omega, ?_⟩, by simp <;> omega, ⟨rfl, rfl, owE (by simp [nRow_len]), rfl, iE (by simp), trivial⟩, ⟨rowE (nRow_app (m := [v % 256])), trivial⟩⟩
      simp only [List.length_append, List.length_cons, List.length_nil, hA, hB, val_snoc]
      have key : x + 256 * (1 - v / 256) = v % 256 + y + c := by omega
      have k2 : 256 ^ l.length * (x + 256 * (1 - v / 256)) = 256 ^ l.length * (v % 256 + y + c) := by rw [key]
      rw [Nat.pow_succ, Nat.mul_assoc]
      simp only [Nat.mul_add] at k2
      omega
    · replace h5 : ¬ (l.length : Int) < (dg 256 a).length := h5
      have e : l.length = (dg 256 a).length := by omega
      refine ⟨l, ⟨h2, ?_, by omega⟩, ⟨rfl, trivial⟩, ⟨rfl, trivial⟩⟩
      rw [e, val_take_all (Nat.le_refl _), val_take_all hlb, val_dg (by omega), val_dg (by omega)] at h4
      have h6 := val_lt (by omega : 0 < 256) h2
      rw [e] at h6
      have h7 : c = 0 := by
        rcases Nat.eq_zero_or_pos c with h | h
        · exact h
        · have : c = 1 := by omega
          subst this
          omega
      subst h7
      omega
  · obtain ⟨h1, h2, h3⟩ := hl
    refine X2 .frz ?_
    refine X1 _ (trim_ct l h3) ?_
    rw [trim_dg (by omega) h1, h2]
    exact ⟨trivial, r1 rfl, trivial⟩
theorem small_ct (v : Nat) (hv : v < 18446744073709551616) : Ct P 94 [.c (nI .u64 v)] [.c (dV v)] := by
  refine Ct.go T_ok T_mix (N := 15) Tryz.func94 rfl rfl rfl rfl ?_
  refine nilC (r := 50) (t := 3) (sz := 1) rfl rfl ?_
  refine loopJ T_ok T_mix (fun g : List Nat × Nat => g.2 ≤ v ∧ g.1 ++ dg 256 g.2 = dg 256 v)
    (fun g => [(0, .c (nI .u64 g.2)), (3, .c (.ow 50 1 g.1.length))]) (fun g => [(50, .row 1 (nRow .i64 g.1))]) (fun g => g.2)
    ([], v) ⟨Nat.le_refl _, rfl⟩ ⟨rfl, rfl, trivial⟩ ⟨rfl, trivial⟩
    (fun _ : Unit => True) (fun _ => [(3, .c (.ow 50 1 (dg 256 v).length))]) (fun _ => [(50, .row 1 (nRow .i64 (dg 256 v)))]) (fun g hg => ?_) (fun l _ => ?_)
  · obtain ⟨l, c⟩ := g
    obtain ⟨h1, h2⟩ := hg
    simp only at h1 h2
    refine dcase (fun h5 => ?_) (fun h5 => ?_)
    · replace h5 : (c : Int) > 0 := h5
      refine And.intro (by omega) (X1 ((c % 256 : Nat) : Int) (by show (c : Int).tmod 256 = _; rw [Int.tmod_eq_emod_of_nonneg (by omega)]; omega) (And.intro ⟨by omega, by omega⟩ ?_))
      refine X1 ((c % 256 : Nat) : Int) (wI rfl (by omega) (by omega)) ?_
      have hlen : (dg 256 v).length ≤ 8 := dg_len (by omega) hv
      have hl2 : l.length ≤ 8 := by rw [← h2, List.length_append] at hlen; omega
      refine app_row rfl (by simp; omega) c1_closed ?_
      refine And.intro (by omega) (X1 ((c / 256 : Nat) : Int) (by show (c : Int).tdiv 256 = _; rw [Int.tdiv_eq_ediv_of_nonneg (by omega)]; omega) (And.intro ⟨by omega, by omega⟩ ?_))
      refine ⟨(l ++ [c % 256], c / 256), ⟨by show c / 256 ≤ v; omega, ?_⟩, by show c / 256 < c; omega, ⟨rfl, owE (by simp [nRow_len]), trivial⟩, ⟨rowE (nRow_app (m := [c % 256])), trivial⟩⟩
      rw [← h2, dg_pos (n := c) (by omega) (by omega)]
      simp
    · replace h5 : ¬ (c : Int) > 0 := h5
      have hc : c = 0 := by omega
      subst hc
      rw [dg_zero, List.append_nil] at h2
      subst h2
      exact ⟨(), trivial, ⟨rfl, trivial⟩, ⟨rfl, trivial⟩⟩
  · exact ⟨trivial, r1 rfl, trivial⟩
def cmpN (a b : Nat) : Int := if a < b then -1 else if b < a then 1 else 0
theorem cmp_ct (a b : Nat) (ha : (dg 256 a).length ≤ 1000000) (hb : (dg 256 b).length ≤ 1000000) : Ct P 139 [.c (dV a), .c (dV b)] [.c (eI .i64 (cmpN a b))] := by
  refine Ct.go T_ok T_mix (N := 41) Tryz.func139 rfl rfl rfl rfl ?_
  refine And.intro (by rw [nRow_len]; omega) ?_
  refine And.intro (by rw [nRow_len]; omega) ?_
  rw [nRow_len, nRow_len]
  refine ncase (fun h => ?_) (fun h => ?_)
  · refine And.intro (by rw [nRow_len]; omega) ?_
    refine And.intro (by rw [nRow_len]; omega) ?_
    rw [nRow_len, nRow_len]
    refine dcase (fun h2 => ?_) (fun h2 => ?_)
    · have : a < b := dg_len_lt (B := 256) (by omega) (by omega)
      exact ⟨trivial, r1 (iE (by rw [cmpN, if_pos this])), trivial⟩
    · have : b < a := dg_len_lt (B := 256) (by omega) (by omega : (dg 256 b).length < (dg 256 a).length)
      exact ⟨trivial, r1 (iE (by rw [cmpN, if_neg (by omega), if_pos this])), trivial⟩
  · have hlen : (dg 256 a).length = (dg 256 b).length := by omega
    refine And.intro (by rw [nRow_len]; omega) ?_
    rw [nRow_len]
    refine X1 (((dg 256 a).length : Int) - 1) (wi (by omega) (by omega)) ?_
    refine loopJ T_ok T_mix (fun n : Nat => n ≤ (dg 256 a).length ∧ (dg 256 a).drop n = (dg 256 b).drop n)
      (fun n => [(0, .c (dV a)), (1, .c (dV b)), (5, .c (eI .i64 ((n : Int) - 1)))]) (fun _ => []) (fun n => n)
      (dg 256 a).length ⟨Nat.le_refl _, by rw [List.drop_length, List.drop_eq_nil_of_le (by omega)]⟩ ⟨rfl, rfl, rfl, trivial⟩ trivial
      (fun _ : Unit => a = b) (fun _ => []) (fun _ => []) (fun n hn => ?_) (fun _ he => ?_)
    · obtain ⟨h1, h2⟩ := hn
      refine dcase (fun h5 => ?_) (fun h5 => ?_)
      · obtain ⟨m, rfl⟩ : ∃ m, n = m + 1 := ⟨n - 1, by omega⟩
        have hA := dig_dg (B := 256) (by omega) a
        have hB := dig_dg (B := 256) (by omega) b
        have vA := val_dg (B := 256) (by omega) a
        have vB := val_dg (B := 256) (by omega) b
        refine And.intro (by omega) (X1 _ (nRow_getN (n := m) (by omega) (by omega)) ?_)
        refine And.intro (by omega) (X1 _ (nRow_getN (n := m) (by omega) (by omega)) ?_)
        refine And.intro rfl ?_
        refine dcase (fun h6 => ?_) (fun h6 => ?_)
        · have := val_lt_of (B := 256) (by omega) hA hlen (by omega) h2 (by omega)
          exact ⟨trivial, r1 (iE (by rw [cmpN, if_pos (by omega)])), trivial⟩
        · refine And.intro (by omega) (X1 _ (nRow_getN (n := m) (by omega) (by omega)) ?_)
          refine And.intro (by omega) (X1 _ (nRow_getN (n := m) (by omega) (by omega)) ?_)
          refine And.intro rfl ?_
          refine dcase (fun h7 => ?_) (fun h7 => ?_)
          · have := val_lt_of (B := 256) (by omega) hB hlen.symm (by omega) h2.symm (by omega)
            exact ⟨trivial, r1 (iE (by rw [cmpN, if_neg (by omega), if_pos (by omega)])), trivial⟩
          · refine X1 ((m : Int) - 1) (wI (by omega) (by omega) (by omega)) ?_
            refine ⟨m, ⟨by omega, ?_⟩, by omega, ⟨rfl, rfl, rfl, trivial⟩, trivial⟩
            have e1 : (dg 256 a).getD m 0 = (dg 256 b).getD m 0 := by omega
            rw [List.getD_eq_getElem?_getD, List.getD_eq_getElem?_getD, List.getElem?_eq_getElem (by omega : m < (dg 256 a).length), List.getElem?_eq_getElem (by omega : m < (dg 256 b).length)] at e1
            rw [List.drop_eq_getElem_cons (by omega : m < (dg 256 a).length), List.drop_eq_getElem_cons (by omega : m < (dg 256 b).length), h2]
            simp only [Option.getD_some] at e1
            rw [e1]
      · have hn : n = 0 := by omega
        subst hn
        refine ⟨(), ?_, trivial, trivial⟩
        rw [List.drop_zero, List.drop_zero] at h2
        rw [← val_dg (B := 256) (by omega) a, h2, val_dg (by omega)]
    · exact ⟨trivial, r1 (iE (by rw [cmpN, if_neg (by omega), if_neg (by omega)])), trivial⟩
theorem mul_ctL (la lb : List Nat) (ha : la.length ≤ 400000) (hb : lb.length ≤ 400000) (hA : Dig 256 la) (hB : Dig 256 lb) : Ct P 96 [.c (nSl .i64 la), .c (nSl .i64 lb)] [.c (dV (val 256 la * val 256 lb))] := by
  obtain ⟨b, hb0⟩ : ∃ b, b = val 256 lb := ⟨_, rfl⟩
  have bB : b < 256 ^ lb.length := hb0 ▸ val_lt (by omega) hB
  rw [← hb0]
  refine Ct.go T_ok T_mix (N := 57) Tryz.func96 rfl rfl rfl rfl ?_
  refine And.intro (by rw [nRow_len]; omega) ?_
  refine And.intro (by rw [nRow_len]; omega) ?_
  rw [nRow_len, nRow_len]
  refine X1 ((la.length + lb.length : Nat) : Int) (wI (by omega) (by omega) (by omega)) ?_
  refine X1 ((la.length + lb.length + 1 : Nat) : Int) (wI (by omega) (by omega) (by omega)) ?_
  refine ⟨by omega, by omega, by omega, .inl (by decide), ?_⟩
  refine loopJ T_ok T_mix (fun g : Nat × List Nat => g.1 ≤ la.length ∧ g.2.length = la.length + lb.length + 1 ∧ Dig 256 g.2 ∧ val 256 g.2 = val 256 (la.take g.1) * b)
    (fun (i, out) => [(0, .c (nSl .i64 la)), (1, .c (nSl .i64 lb)), (5, .c (.ow 16 1 (la.length + lb.length + 1))), (6, .c (nI .i64 i))]) (fun (i, out) => [(16, .row 1 (nRow .i64 out))]) (fun (i, out) => la.length - i)
    (0, List.replicate (la.length + lb.length + 1) 0) ⟨by simp, by simp, fun x hx => by rw [List.eq_of_mem_replicate hx]; omega, by simp [val, val_rep]⟩ ⟨rfl, rfl, owE (by omega), rfl, trivial⟩ ⟨rowE (rep_row rfl), trivial⟩
    (fun l : List Nat => l.length ≤ 1000000 ∧ Dig 256 l ∧ val 256 l = val 256 la * b) (fun l => [(5, .c (.ow 16 1 (la.length + lb.length + 1)))]) (fun l => [(16, .row 1 (nRow .i64 l))]) (fun g hg => ?_) (fun l hl => ?_)
  · obtain ⟨i, out⟩ := g
    obtain ⟨h1, h2, h3, h4⟩ := hg
    simp only at h1 h2 h3 h4
    refine And.intro (by rw [nRow_len]; omega) ?_
    rw [nRow_len]
    refine dcase (fun h5 => ?_) (fun h5 => ?_)
    · replace h5 : (i : Int) < la.length := h5
      have hx := hA.getD (by omega) i
      have hT := val_take_succ 256 la i
      generalize hxx : la.getD i 0 = x at hx hT
      have bT : val 256 (la.take (i + 1)) < 256 ^ (i + 1) := by
        have := val_lt (by omega : 0 < 256) (hA.take (n := i + 1))
        rwa [List.length_take, Nat.min_eq_left (by omega)] at this
      refine loopB T_ok T_mix (fun g : Nat × List Nat × Nat => g.1 ≤ lb.length + 1 ∧ g.2.1.length = la.length + lb.length + 1 ∧ Dig 256 g.2.1 ∧ g.2.2 < 256 ∧ val 256 g.2.1 + 256 ^ (i + g.1) * g.2.2 = val 256 (la.take i) * b + 256 ^ i * (x * val 256 (lb.take g.1)))
        (fun (k, o2, c) => [(0, .c (nSl .i64 la)), (1, .c (nSl .i64 lb)), (5, .c (.ow 16 1 (la.length + lb.length + 1))), (6, .c (nI .i64 i)), (7, .c (nI .i64 c)), (8, .c (nI .i64 k))]) (fun (k, o2, c) => [(16, .row 1 (nRow .i64 o2))]) (fun (k, o2, c) => lb.length + 1 - k)
        (0, out, 0) ⟨by simp, h2, h3, by simp, by simp [val, h4]⟩ ⟨rfl, rfl, rfl, rfl, rfl, rfl, trivial⟩ ⟨rfl, trivial⟩ (fun g hg => ?_)
      obtain ⟨k, o2, c⟩ := g
      obtain ⟨g1, g2, g3, g4, g5⟩ := hg
      simp only at g1 g2 g3 g4 g5
      refine And.intro (by rw [nRow_len]; omega) ?_
      rw [nRow_len]
      refine dcase (fun h6 => ?_) (fun h6 => ?_)
      · replace h6 : (k : Int) ≤ lb.length := h6
        have hy := hB.getD (by omega) k
        have hz := g3.getD (by omega) (i + k)
        have hTB := val_take_succ 256 lb k
        have hset := fun v : Nat => val_set (B := 256) (l := o2) (i := i + k) (x := v) (by omega)
        generalize hzz : o2.getD (i + k) 0 = z at hz hset
        refine X1 ((i + k : Nat) : Int) (wI (by simp) (by omega) (by omega)) ?_
        refine And.intro (by omega) (And.intro (by simp <;> omega) ?_)
        refine X1 _ (nRow_getN rfl (by omega)) ?_
        refine And.intro (by omega) (X1 _ (nRow_getN rfl (by omega)) ?_)
        refine X1 _ (at_ctN lb k (by omega)) ?_
        rw [hzz, hxx]
        generalize hyy : lb.getD k 0 = y at hy hTB
        have hxy : x * y ≤ 255 * 255 := Nat.mul_le_mul (by omega) (by omega)
        refine X1 ((x * y : Nat) : Int) (wI (by simp) (by omega) (by omega)) ?_
        refine X1 ((z + x * y : Nat) : Int) (wI (by simp) (by omega) (by omega)) ?_
        refine X1 ((z + x * y + c : Nat) : Int) (wI (by simp) (by omega) (by omega)) ?_
        refine And.intro rfl ?_
        obtain ⟨v, hv⟩ : ∃ v, v = z + x * y + c := ⟨_, rfl⟩
        rw [← hv]
        refine X1 ((i + k : Nat) : Int) (wI (by simp) (by omega) (by omega)) ?_
        refine And.intro (by omega) (X1 ((v % 256 : Nat) : Int) (tmodN rfl) (And.intro ⟨by omega, by omega⟩ ?_))
        refine And.intro (by omega) (And.intro (by simp <;> omega) ?_)
        refine X1 _ (nRow_getN rfl (by omega)) ?_
        refine And.intro (by omega) (X1 ((v / 256 : Nat) : Int) (tdivN rfl) (And.intro ⟨by omega, by omega⟩ ?_))
        refine X1 ((k + 1 : Nat) : Int) (wI (by simp) (by omega) (by omega)) ?_
        refine ⟨(k + 1, o2.set (i + k) (v % 256), v / 256), ⟨by show k + 1 ≤ _; omega, by simp [g2], g3.set (by omega), by show v / 256 < 256; omega, ?_⟩, by show lb.length + 1 - (k + 1) < lb.length + 1 - k; omega, ⟨rfl, rfl, rfl, rfl, rfl, rfl, trivial⟩, ⟨rowE nRow_set, trivial⟩⟩
        show val 256 (o2.set (i + k) (v % 256)) + 256 ^ (i + (k + 1)) * (v / 256) = val 256 (la.take i) * b + 256 ^ i * (x * val 256 (lb.take (k + 1)))
        have hs := hset (v % 256)
        have e1 : 256 ^ (i + (k + 1)) * (v / 256) + 256 ^ (i + k) * (v % 256) = 256 ^ (i + k) * v := by
          rw [← Nat.add_assoc, Nat.pow_succ, Nat.mul_assoc, ← Nat.mul_add]
          congr 1; omega
        have e2 : 256 ^ (i + k) * v = 256 ^ (i + k) * z + 256 ^ (i + k) * (x * y) + 256 ^ (i + k) * c := by rw [hv, Nat.mul_add, Nat.mul_add]
        have e3 : 256 ^ i * (x * val 256 (lb.take (k + 1))) = 256 ^ i * (x * val 256 (lb.take k)) + 256 ^ (i + k) * (x * y) := by
          rw [hTB, Nat.mul_add, Nat.mul_add, Nat.pow_add, Nat.mul_assoc, Nat.mul_left_comm x]
        omega
      · replace h6 : ¬ (k : Int) ≤ lb.length := h6
        have hk : k = lb.length + 1 := by omega
        subst hk
        rw [val_take_all (l := lb) (by omega), ← hb0] at g5
        have e4 : val 256 (la.take (i + 1)) * b = val 256 (la.take i) * b + 256 ^ i * (x * b) := by rw [hT, Nat.add_mul, Nat.mul_assoc]
        have e5 : val 256 (la.take (i + 1)) * b < 256 ^ (i + 1) * 256 ^ lb.length := Nat.mul_lt_mul'' bT bB
        rw [← Nat.pow_add, show i + 1 + lb.length = i + (lb.length + 1) by omega] at e5
        have hc : c = 0 := by
          rcases Nat.eq_zero_or_pos c with h | h
          · exact h
          · have := Nat.mul_le_mul_left (256 ^ (i + (lb.length + 1))) h
            omega
        subst hc
        refine X1 ((i + 1 : Nat) : Int) (wI1 (by omega)) ?_
        exact ⟨(i + 1, o2), ⟨by show i + 1 ≤ _; omega, g2, g3, by show val 256 o2 = val 256 (la.take (i + 1)) * b; omega⟩, by show la.length - (i + 1) < la.length - i; omega, ⟨rfl, rfl, rfl, rfl, trivial⟩, ⟨rfl, trivial⟩⟩
    · replace h5 : ¬ (i : Int) < la.length := h5
      refine ⟨out, ⟨by omega, h3, ?_⟩, ⟨rfl, trivial⟩, ⟨rfl, trivial⟩⟩
      rw [h4, val_take_all (by omega)]
  · obtain ⟨h1, h2, h3⟩ := hl
    refine X2 .frz ?_
    refine X1 _ (trim_ct l h1) ?_
    rw [trim_dg (by omega) h2, h3]
    exact ⟨trivial, r1 rfl, trivial⟩
theorem mul_ct (a b : Nat) (ha : (dg 256 a).length ≤ 400000) (hb : (dg 256 b).length ≤ 400000) : Ct P 96 [.c (dV a), .c (dV b)] [.c (dV (a * b))] := by
  have := mul_ctL (dg 256 a) (dg 256 b) ha hb (dig_dg (by omega) a) (dig_dg (by omega) b)
  rwa [val_dg (by omega), val_dg (by omega)] at this
theorem set_same {l : List Nat} {i : Nat} (h : l.getD i 0 = 0) : l.set i 0 = l := by
  apply List.ext_getElem?
  intro j
  rw [List.getElem?_set]
  by_cases hij : i = j
  · subst hij
    by_cases hl : i < l.length
    · rw [List.getD_eq_getElem?_getD, List.getElem?_eq_getElem hl] at h
      simp only [Option.getD_some] at h
      simp [hl, h]
    · simp [hl]
  · simp [hij]
theorem div_ct (a b : Nat) (hb0 : b ≠ 0) (ha : (dg 256 a).length ≤ 400000) (hb : (dg 256 b).length ≤ 400000) : Ct P 136 [.c (dV a), .c (dV b)] [.c (dV (a / b)), .c (dV (a % b))] := by
  have hA := dig_dg (B := 256) (by omega) a
  have vA := val_dg (B := 256) (by omega) a
  refine Ct.go T_ok T_mix (N := 45) Tryz.func136 rfl rfl rfl rfl ?_
  refine And.intro (by rw [nRow_len]; omega) ?_
  rw [nRow_len]
  refine ⟨by omega, by omega, by omega, .inl (by decide), ?_⟩
  refine And.intro (by rw [nRow_len]; omega) ?_
  rw [nRow_len]
  refine X1 (((dg 256 a).length : Int) - 1) (wi (by omega) (by omega)) ?_
  refine nilS (t := 7) (sz := 1) rfl ?_
  refine loopJ T_ok T_mix (G := Nat × List Nat × Nat) (fun (n, q, r) => n ≤ (dg 256 a).length ∧ q.length = (dg 256 a).length ∧ Dig 256 q ∧ (∀ j, j < n → q.getD j 0 = 0) ∧ r < b ∧ val 256 ((dg 256 a).drop n) = b * val 256 (q.drop n) + r)
    (fun (n, q, r) => [(0, .c (dV a)), (1, .c (dV b)), (6, .c (.ow 11 1 (dg 256 a).length)), (7, .c (dV r)), (8, .c (eI .i64 ((n : Int) - 1)))]) (fun ((n, q, r) : Nat × List Nat × Nat) => [(11, .row 1 (nRow .i64 q))]) (fun (n, q, r) => n)
    ((dg 256 a).length, List.replicate (dg 256 a).length 0, 0) ⟨Nat.le_refl _, by simp, fun x hx => by rw [List.eq_of_mem_replicate hx]; omega, fun j hj => by simp [List.getD_eq_getElem?_getD, List.getElem?_replicate, hj], by omega, by simp [val]⟩
    ⟨rfl, rfl, owE (by omega), toSl (l := dg 256 0) (by rw [dg_zero]; rfl), rfl, trivial⟩ ⟨rowE (rep_row rfl), trivial⟩
    (fun l : List Nat => l.length ≤ 1000000 ∧ Dig 256 l ∧ val 256 l = a / b) (fun l => [(6, .c (.ow 11 1 (dg 256 a).length)), (7, .c (dV (a % b)))]) (fun l => [(11, .row 1 (nRow .i64 l))]) (fun g hg => ?_) (fun l hl => ?_)
  · obtain ⟨n, q, r⟩ := g
    obtain ⟨h1, h2, h3, h4, h5, h6⟩ := hg
    have hlr : (dg 256 r).length ≤ 400000 := Nat.le_trans (dg_len_mono (by omega) (by omega)) hb
    refine dcase (fun h7 => ?_) (fun h7 => ?_)
    · obtain ⟨m, rfl⟩ : ∃ m, n = m + 1 := ⟨n - 1, by omega⟩
      have hx := hA.getD (by omega) m
      have hdrop : val 256 ((dg 256 a).drop m) = (dg 256 a).getD m 0 + 256 * val 256 ((dg 256 a).drop (m + 1)) := by
        rw [List.drop_eq_getElem_cons (by omega), val]
        simp [List.getD_eq_getElem?_getD, (by omega : m < (dg 256 a).length)]
      have hq0 := h4 m (by omega)
      have hdq : ∀ t, val 256 ((q.set m t).drop m) = t + 256 * val 256 (q.drop (m + 1)) := fun t => by
        rw [List.drop_eq_getElem_cons (by simp; omega), val]
        simp [List.drop_set]
      refine And.intro (by omega) (X1 _ (nRow_getN (n := m) (by omega) (by omega)) ?_)
      generalize (dg 256 a).getD m 0 = x at hx hdrop ⊢
      refine app_row (l := [x]) rfl (by simp [nRow_len]; omega) nRow_closed ?_
      refine X2 .frz ?_
      have htr := trim_ct ([x] ++ dg 256 r) (by simp; omega)
      rw [trim_dg (by omega) (Dig.app (.cons hx .nil) (dig_dg (by omega) r)), val_app, val_dg (by omega)] at htr
      have hL : val 256 [x] + 256 ^ [x].length * r = x + 256 * r := by simp [val]
      rw [hL] at htr
      refine X1 _ (show Ct P 138 [.c (.sl 1 (nRow .i64 [x] ++ nRow .i64 (dg 256 r)))] [.c (dV (x + 256 * r))] by rw [nRow_app]; exact htr) ?_
      have hLb : x + 256 * r < 256 * b := by omega
      refine loopB T_ok T_mix (fun t : Nat => t * b ≤ x + 256 * r)
        (fun t => [(0, .c (dV a)), (1, .c (dV b)), (6, .c (.ow 11 1 (dg 256 a).length)), (7, .c (dV (x + 256 * r - t * b))), (8, .c (nI .i64 m))]) (fun t => [(11, .row 1 (nRow .i64 (q.set m t)))]) (fun t => 256 - t)
        0 (by simp) ⟨rfl, rfl, rfl, toSl (by rw [Nat.zero_mul, Nat.sub_zero]), iE (by omega), trivial⟩ ⟨rowE (by rw [set_same hq0]), trivial⟩ (fun t ht => ?_)
      have ht256 : t < 256 := by
        apply Nat.lt_of_not_le
        intro hge
        have := Nat.mul_le_mul_right b hge
        omega
      have hll : (dg 256 (x + 256 * r - t * b)).length ≤ 400001 := by
        have h8 := lt_dg_len (B := 256) (by omega) b
        have : x + 256 * r - t * b < 256 ^ ((dg 256 b).length + 1) := by rw [Nat.pow_succ]; omega
        have := dg_len (B := 256) (by omega) this
        omega
      refine X1 _ (cmp_ct (x + 256 * r - t * b) b (by omega) (by omega)) ?_
      refine dcase (fun h8 => ?_) (fun h8 => ?_)
      · have hge : b ≤ x + 256 * r - t * b := by
          apply Nat.le_of_not_lt
          intro hlt
          rw [cmpN, if_pos hlt] at h8
          omega
        refine X1 _ (sub_ct (x + 256 * r - t * b) b hge (by omega)) ?_
        refine And.intro (by omega) (And.intro (by omega) ?_)
        refine X1 _ (nRow_getN rfl (by simp; omega)) ?_
        have hgt : (q.set m t).getD m 0 = t := by simp [List.getD_eq_getElem?_getD, h2, (by omega : m < (dg 256 a).length)]
        rw [hgt]
        refine X1 ((t + 1 : Nat) : Int) (wI (by simp) (by omega) (by omega)) ?_
        refine And.intro (by omega) (And.intro (by omega) ?_)
        refine X1 _ (nRow_getN rfl (by simp; omega)) ?_
        have hmul : (t + 1) * b = t * b + b := by rw [Nat.add_mul, Nat.one_mul]
        refine ⟨t + 1, by show (t + 1) * b ≤ _; omega, by show 256 - (t + 1) < 256 - t; omega, ⟨rfl, rfl, rfl, toSl (congrArg _ (congrArg _ (by omega))), rfl, trivial⟩, ⟨rowE (nRow_set.trans (congrArg _ (List.set_set ..))), trivial⟩⟩
      · have hlt : x + 256 * r - t * b < b := by
          apply Nat.lt_of_not_le
          intro hge
          apply h8
          rw [cmpN, if_neg (by omega)]
          split <;> omega
        refine X1 ((m : Int) - 1) (wI rfl (by omega) (by omega)) ?_
        refine ⟨(m, q.set m t, x + 256 * r - t * b), ⟨by omega, by simp [h2], h3.set (by omega), fun j hj => ?_, hlt, ?_⟩, by show m < m + 1; omega, ⟨rfl, rfl, rfl, rfl, rfl, trivial⟩, ⟨rfl, trivial⟩⟩
        · have := h4 j (by omega)
          rw [List.getD_eq_getElem?_getD] at this ⊢
          rw [List.getElem?_set_ne (by omega)]; exact this
        · rw [hdrop, hdq, h6]
          simp only [Nat.mul_add]
          have : t * b = b * t := Nat.mul_comm _ _
          have : b * (256 * val 256 (q.drop (m + 1))) = 256 * (b * val 256 (q.drop (m + 1))) := Nat.mul_left_comm _ _ _
          omega
    · have hn : n = 0 := by omega
      subst hn
      rw [List.drop_zero, List.drop_zero, vA] at h6
      have e1 : val 256 q = a / b := by
        rw [h6, Nat.mul_add_div (by omega), Nat.div_eq_of_lt h5]; rfl
      have e2 : r = a % b := by
        rw [h6, Nat.mul_add_mod, Nat.mod_eq_of_lt h5]
      refine ⟨q, ⟨by omega, h3, e1⟩, ⟨rfl, toSl (by rw [e2]), trivial⟩, ⟨rfl, trivial⟩⟩
  · obtain ⟨h1, h2, h3⟩ := hl
    refine X2 .frz ?_
    refine X1 _ (trim_ct l h1) ?_
    rw [trim_dg (by omega) h2, h3]
    exact ⟨trivial, r1 rfl, r1 rfl, trivial⟩
theorem gcd_ct (a b : Nat) (ha : (dg 256 a).length ≤ 400000) (hb : (dg 256 b).length ≤ 400000) : Ct P 135 [.c (dV a), .c (dV b)] [.c (dV (Nat.gcd a b))] := by
  refine Ct.go T_ok T_mix (N := 19) Tryz.func135 rfl rfl rfl rfl ?_
  refine loopJ T_ok T_mix (G := Nat × Nat) (fun (x, y) => Nat.gcd x y = Nat.gcd a b ∧ (dg 256 x).length ≤ 400000 ∧ (dg 256 y).length ≤ 400000) (fun (x, y) => [(0, .c (dV x)), (1, .c (dV y))]) (fun _ => []) (fun (x, y) => y)
    (a, b) ⟨rfl, ha, hb⟩ ⟨rfl, rfl, trivial⟩ trivial (fun _ : Unit => True) (fun _ => [(0, .c (dV (Nat.gcd a b)))]) (fun _ => []) (fun g hg => ?_) (fun _ _ => ?_)
  · obtain ⟨x, y⟩ := g
    obtain ⟨h1, h2, h3⟩ := hg
    refine And.intro (by rw [nRow_len]; omega) ?_
    rw [nRow_len]
    refine dcase (fun h4 => ?_) (fun h4 => ?_)
    · have hy : y ≠ 0 := by
        rintro rfl
        rw [dg_zero] at h4
        simp at h4
      refine X1 _ (div_ct x y hy h2 h3) ?_
      have hlt : x % y < y := Nat.mod_lt _ (by omega)
      exact ⟨(y, x % y), ⟨by rw [← h1, Nat.gcd_comm x y, Nat.gcd_rec y x, Nat.gcd_comm], h3, Nat.le_trans (dg_len_mono (by omega) (by omega)) h3⟩, hlt, ⟨rfl, rfl, trivial⟩, trivial⟩
    · have hy : y = 0 := (dg_nil (B := 256) (by omega)).1 (List.length_eq_zero_iff.1 (by omega))
      subst hy
      rw [Nat.gcd_zero_right] at h1
      exact ⟨(), trivial, ⟨toSl (by rw [h1]), trivial⟩, trivial⟩
  · exact ⟨trivial, r1 rfl, trivial⟩
abbrev rV (n d : Nat) : A1 := .ag [dV n, dV d]
theorem dg_1 : dg 256 1 = [1] := by rw [dg_pos (by omega) (by omega)]; simp [dg_zero]
theorem rof_ct (n d : Nat) (hd : d ≠ 0) (hn : (dg 256 n).length ≤ 400000) (hl : (dg 256 d).length ≤ 400000) : Ct P 95 [.c (dV n), .c (dV d)] [rV (n / Nat.gcd n d) (d / Nat.gcd n d)] := by
  refine Ct.go T_ok T_mix (N := 33) Tryz.func95 rfl rfl rfl rfl ?_
  refine X1 _ (gcd_ct n d hn hl) ?_
  refine And.intro (by rw [nRow_len]; omega) ?_
  rw [nRow_len]
  have hg : Nat.gcd n d ≠ 0 := fun h => hd (Nat.gcd_eq_zero_iff.1 h).2
  have hgl : (dg 256 (Nat.gcd n d)).length ≤ 400000 := Nat.le_trans (dg_len_mono (by omega) (Nat.gcd_le_right n (by omega))) hl
  refine ecase (fun h => ?_) (fun h => ?_)
  · have h0 : n = 0 := (dg_nil (B := 256) (by omega)).1 (List.length_eq_zero_iff.1 (by omega))
    subst h0
    rw [Nat.gcd_zero_left, Nat.zero_div, Nat.div_self (by omega)]
    have e : dV 1 = nSl .i64 [1] := by rw [dV, dg_1]
    have e0 : dV 0 = nSl .i64 [] := by rw [dV, dg_zero]
    rw [rV, e, e0]
    exact ⟨trivial, ⟨_, rfl, .inr ⟨rfl, 1, rfl⟩, .inl rfl, trivial⟩, trivial⟩
  · refine X1 _ (div_ct n _ hg hn hgl) ?_
    refine X1 _ (div_ct d _ hg hl hgl) ?_
    exact ⟨trivial, rc rfl, trivial⟩
theorem rint_ct (v : Nat) (hv : v < 9223372036854775808) : Ct P 50 [.c (nI .i64 v)] [rV v 1] := by
  refine Ct.go T_ok T_mix (N := 8) Tryz.func50 rfl rfl rfl rfl ?_
  refine X1 (v : Int) (wU rfl (by omega) (by omega)) ?_
  refine X1 _ (small_ct v (by omega)) ?_
  have e : dV 1 = nSl .i64 [1] := by rw [dV, dg_1]
  rw [rV, e]
  exact ⟨trivial, rc rfl, trivial⟩
theorem mul_len {a b : Nat} {k m : Nat} (ha : (dg 256 a).length ≤ k) (hb : (dg 256 b).length ≤ m) : (dg 256 (a * b)).length ≤ k + m := by
  apply dg_len (by omega)
  have h1 := lt_dg_len (B := 256) (by omega) a
  have h2 := lt_dg_len (B := 256) (by omega) b
  have h3 : a * b < 256 ^ (dg 256 a).length * 256 ^ (dg 256 b).length := Nat.mul_lt_mul'' h1 h2
  rw [← Nat.pow_add] at h3
  exact Nat.lt_of_lt_of_le h3 (Nat.pow_le_pow_right (by omega) (by omega))
abbrev rR (n d : Nat) : A1 := rV (n / Nat.gcd n d) (d / Nat.gcd n d)
structure Lim (n d : Nat) : Prop where
  pos : d ≠ 0
  n : (dg 256 n).length ≤ 100000
  d : (dg 256 d).length ≤ 100000
theorem rmul_ct (a b c d : Nat) (h1 : Lim a b) (h2 : Lim c d) : Ct P 56 [rV a b, rV c d] [rR (a * c) (b * d)] := by
  refine Ct.go T_ok T_mix (N := 16) Tryz.func56 rfl rfl rfl rfl ?_
  refine X1 _ (mul_ct a c (by have := h1.n; omega) (by have := h2.n; omega)) ?_
  refine X1 _ (mul_ct b d (by have := h1.d; omega) (by have := h2.d; omega)) ?_
  refine X1 _ (rof_ct (a * c) (b * d) (Nat.mul_ne_zero h1.pos h2.pos) (Nat.le_trans (mul_len h1.n h2.n) (by omega)) (Nat.le_trans (mul_len h1.d h2.d) (by omega))) ?_
  refine And.intro rfl ?_
  exact ⟨trivial, rc rfl, trivial⟩
theorem rdiv_ct (a b c d : Nat) (h1 : Lim a b) (h2 : Lim c d) (hc : c ≠ 0) : Ct P 51 [rV a b, rV c d] [rR (a * d) (b * c)] := by
  refine Ct.go T_ok T_mix (N := 16) Tryz.func51 rfl rfl rfl rfl ?_
  refine X1 _ (mul_ct a d (by have := h1.n; omega) (by have := h2.d; omega)) ?_
  refine X1 _ (mul_ct b c (by have := h1.d; omega) (by have := h2.n; omega)) ?_
  refine X1 _ (rof_ct (a * d) (b * c) (Nat.mul_ne_zero h1.pos hc) (Nat.le_trans (mul_len h1.n h2.d) (by omega)) (Nat.le_trans (mul_len h1.d h2.n) (by omega))) ?_
  refine And.intro rfl ?_
  exact ⟨trivial, rc rfl, trivial⟩
theorem rcmp_ct (a b c d : Nat) (h1 : Lim a b) (h2 : Lim c d) : Ct P 97 [rV a b, rV c d] [.c (eI .i64 (cmpN (a * d) (c * b)))] := by
  refine Ct.go T_ok T_mix (N := 16) Tryz.func97 rfl rfl rfl rfl ?_
  refine X1 _ (mul_ct a d (by have := h1.n; omega) (by have := h2.d; omega)) ?_
  refine X1 _ (mul_ct c b (by have := h2.n; omega) (by have := h1.d; omega)) ?_
  refine X1 _ (cmp_ct (a * d) (c * b) (Nat.le_trans (mul_len h1.n h2.d) (by omega)) (Nat.le_trans (mul_len h2.n h1.d) (by omega))) ?_
  refine And.intro rfl ?_
  exact ⟨trivial, r1 rfl, trivial⟩
theorem rless_ct (a b c d : Nat) (h1 : Lim a b) (h2 : Lim c d) : Ct P 53 [rV a b, rV c d] [rR (a * d - c * b) (b * d)] := by
  refine Ct.go T_ok T_mix (N := 27) Tryz.func53 rfl rfl rfl rfl ?_
  refine X1 _ (rcmp_ct a b c d h1 h2) ?_
  refine dcase (fun h => ?_) (fun h => ?_)
  · have hlt : a * d < c * b := by
      unfold cmpN at h
      split at h
      · assumption
      · split at h <;> omega
    refine X1 _ (rint_ct 0 (by omega)) ?_
    have hbd := Nat.mul_ne_zero h1.pos h2.pos
    rw [rR, show a * d - c * b = 0 by omega, Nat.gcd_zero_left, Nat.zero_div, Nat.div_self (by omega)]
    exact ⟨trivial, rc rfl, trivial⟩
  · have hge : c * b ≤ a * d := by
      apply Nat.le_of_not_lt
      intro hlt
      rw [cmpN, if_pos hlt] at h
      omega
    have l1 := mul_len h1.n h2.d
    have l2 := mul_len h1.d h2.d
    refine X1 _ (mul_ct a d (by have := h1.n; omega) (by have := h2.d; omega)) ?_
    refine X1 _ (mul_ct c b (by have := h2.n; omega) (by have := h1.d; omega)) ?_
    refine X1 _ (sub_ct (a * d) (c * b) hge (by omega)) ?_
    refine X1 _ (mul_ct b d (by have := h1.d; omega) (by have := h2.d; omega)) ?_
    refine X1 _ (rof_ct (a * d - c * b) (b * d) (Nat.mul_ne_zero h1.pos h2.pos) (Nat.le_trans (dg_len_mono (by omega) (Nat.sub_le _ _)) (by omega)) (by omega)) ?_
    refine And.intro rfl ?_
    exact ⟨trivial, rc rfl, trivial⟩
def iRow (l : List Int) : List (List PC) := l.map fun x => [eI .i64 x]
abbrev iSl (l : List Int) : PC := .sl 1 (iRow l)
theorem iRow_len {l : List Int} : (iRow l).length = l.length := by simp [iRow]
theorem iRow_getN {l : List Int} {i : Int} {n : Nat} (h0 : i = n) (h : n < l.length) : (iRow l)[i.toNat]? = some [eI .i64 (l.getD n 0)] := by
  subst h0
  simp [iRow, h]
theorem getD_eq_of {l m : List Int} {i : Nat} (hl : i < l.length) (hm : i < m.length) (h : l.getD i 0 = m.getD i 0) : l[i]? = m[i]? := by
  rw [List.getD_eq_getElem?_getD, List.getD_eq_getElem?_getD, List.getElem?_eq_getElem hl, List.getElem?_eq_getElem hm] at h
  rw [List.getElem?_eq_getElem hl, List.getElem?_eq_getElem hm]
  exact congrArg some h
theorem take_eq_succ {l m : List Int} {i : Nat} (hl : i < l.length) (hm : i < m.length) (h0 : l.take i = m.take i) (h : l.getD i 0 = m.getD i 0) : l.take (i + 1) = m.take (i + 1) := by
  rw [List.take_add_one, List.take_add_one, h0, getD_eq_of hl hm h]
theorem equal_ct (l m : List Int) (hl : l.length ≤ 1000000) (hm : m.length ≤ 1000000) : Ct P 146 [.c (iSl l), .c (iSl m)] [.c (.sc (.bool (decide (l = m))))] := by
  refine Ct.go T_ok T_mix (N := 26) Tryz.func146 rfl rfl rfl rfl ?_
  refine And.intro (by rw [iRow_len]; omega) ?_
  refine And.intro (by rw [iRow_len]; omega) ?_
  rw [iRow_len, iRow_len]
  refine ncase (fun h => ?_) (fun h => ?_)
  · have hne : l ≠ m := fun e => h (by rw [e])
    rw [decide_eq_false hne]
    exact ⟨trivial, r1 rfl, trivial⟩
  · refine And.intro (by rw [iRow_len]; omega) ?_
    rw [iRow_len]
    refine loopJ T_ok T_mix (fun i : Nat => i ≤ l.length ∧ l.take i = m.take i) (fun i => [(0, .c (iSl l)), (1, .c (iSl m)), (12, .c (nI .i64 l.length)), (13, .c (nI .i64 i))]) (fun _ => []) (fun i => l.length - i)
      0 ⟨by omega, rfl⟩ ⟨rfl, rfl, rfl, rfl, trivial⟩ trivial (fun _ : Unit => l = m) (fun _ => []) (fun _ => []) (fun i hi => ?_) (fun _ he => ?_)
    · obtain ⟨h1, h2⟩ := hi
      refine dcase (fun h5 => ?_) (fun h5 => ?_)
      · refine And.intro (by omega) (X1 _ (iRow_getN rfl (by omega)) ?_)
        refine And.intro (by omega) (X1 _ (iRow_getN rfl (by omega)) ?_)
        refine And.intro rfl ?_
        refine ncase (fun h6 => ?_) (fun h6 => ?_)
        · have hne : l ≠ m := fun e => h6 (by rw [e])
          rw [decide_eq_false hne]
          exact ⟨trivial, r1 rfl, trivial⟩
        · refine X1 ((i + 1 : Nat) : Int) (wI1 (by omega)) ?_
          exact ⟨i + 1, ⟨by omega, take_eq_succ (by omega) (by omega) h2 h6⟩, by omega, ⟨rfl, rfl, rfl, rfl, trivial⟩, trivial⟩
      · have e : i = l.length := by omega
        subst e
        rw [List.take_length, List.take_of_length_le (by omega)] at h2
        exact ⟨(), h2, trivial, trivial⟩
    · rw [decide_eq_true he]
      exact ⟨trivial, r1 rfl, trivial⟩
theorem ints_ct (l m : List Int) (hl : l.length ≤ 1000000) (hm : m.length ≤ 1000000) : Ct P 69 [.c (iSl l), .c (iSl m)] [.c (.sc (.bool (decide (l = m))))] := by
  refine Ct.go T_ok T_mix (N := 26) Tryz.func69 rfl rfl rfl rfl ?_
  refine And.intro (by rw [iRow_len]; omega) ?_
  refine And.intro (by rw [iRow_len]; omega) ?_
  rw [iRow_len, iRow_len]
  refine ncase (fun h => ?_) (fun h => ?_)
  · have hne : l ≠ m := fun e => h (by rw [e])
    rw [decide_eq_false hne]
    exact ⟨trivial, r1 rfl, trivial⟩
  · refine loopJ T_ok T_mix (fun i : Nat => i ≤ l.length ∧ l.take i = m.take i) (fun i => [(0, .c (iSl l)), (1, .c (iSl m)), (5, .c (nI .i64 i))]) (fun _ => []) (fun i => l.length - i)
      0 ⟨by omega, rfl⟩ ⟨rfl, rfl, rfl, trivial⟩ trivial (fun _ : Unit => l = m) (fun _ => []) (fun _ => []) (fun i hi => ?_) (fun _ he => ?_)
    · obtain ⟨h1, h2⟩ := hi
      refine And.intro (by rw [iRow_len]; omega) ?_
      rw [iRow_len]
      refine dcase (fun h5 => ?_) (fun h5 => ?_)
      · refine And.intro (by omega) (X1 _ (iRow_getN rfl (by omega)) ?_)
        refine And.intro (by omega) (X1 _ (iRow_getN rfl (by omega)) ?_)
        refine And.intro rfl ?_
        refine ncase (fun h6 => ?_) (fun h6 => ?_)
        · have hne : l ≠ m := fun e => h6 (by rw [e])
          rw [decide_eq_false hne]
          exact ⟨trivial, r1 rfl, trivial⟩
        · refine X1 ((i + 1 : Nat) : Int) (wI1 (by omega)) ?_
          exact ⟨i + 1, ⟨by omega, take_eq_succ (by omega) (by omega) h2 h6⟩, by omega, ⟨rfl, rfl, rfl, trivial⟩, trivial⟩
      · have e : i = l.length := by omega
        subst e
        rw [List.take_length, List.take_of_length_le (by omega)] at h2
        exact ⟨(), h2, trivial, trivial⟩
    · rw [decide_eq_true he]
      exact ⟨trivial, r1 rfl, trivial⟩
def idx (x : Int) : List Int → Int
  | [] => -1
  | y :: l => if x = y then 0 else if idx x l < 0 then -1 else idx x l + 1
theorem idx_spec (x : Int) : ∀ (l : List Int) (i : Nat), (∀ j, j < i → l[j]? ≠ some x) → l[i]? = some x → idx x l = i
  | [], i, _, h => by simp at h
  | y :: l, 0, _, h => by simp at h; simp [idx, h]
  | y :: l, i + 1, h1, h => by
    have h0 : y ≠ x := fun e => h1 0 (by omega) (by simp [e])
    have := idx_spec x l i (fun j hj => by simpa using h1 (j + 1) (by omega)) (by simpa using h)
    simp only [idx, this]
    rw [if_neg (fun e => h0 e.symm), if_neg (by omega)]
    simp
theorem idx_none (x : Int) : ∀ (l : List Int), (∀ j : Nat, l[j]? ≠ some x) → idx x l = -1
  | [], _ => rfl
  | y :: l, h => by
    have h0 : y ≠ x := fun e => h 0 (by simp [e])
    have := idx_none x l (fun j => by simpa using h (j + 1))
    simp only [idx, this]
    rw [if_neg (fun e => h0 e.symm), if_pos (by omega)]
theorem index_ct (l : List Int) (x : Int) (hl : l.length ≤ 1000000) : Ct P 149 [.c (iSl l), .c (eI .i64 x)] [.c (eI .i64 (idx x l))] := by
  refine Ct.go T_ok T_mix (N := 19) Tryz.func149 rfl rfl rfl rfl ?_
  refine And.intro (by rw [iRow_len]; omega) ?_
  rw [iRow_len]
  refine loopJ T_ok T_mix (fun i : Nat => i ≤ l.length ∧ ∀ j, j < i → l[j]? ≠ some x) (fun i => [(0, .c (iSl l)), (1, .c (eI .i64 x)), (7, .c (nI .i64 l.length)), (8, .c (nI .i64 i))]) (fun _ => []) (fun i => l.length - i)
    0 ⟨by omega, fun j hj => by omega⟩ ⟨rfl, rfl, rfl, rfl, trivial⟩ trivial (fun _ : Unit => idx x l = -1) (fun _ => []) (fun _ => []) (fun i hi => ?_) (fun _ he => ?_)
  · obtain ⟨h1, h2⟩ := hi
    refine dcase (fun h5 => ?_) (fun h5 => ?_)
    · refine And.intro (by omega) (X1 _ (iRow_getN rfl (by omega)) ?_)
      have hg : l[i]? = some (l.getD i 0) := by simp [List.getD_eq_getElem?_getD, (by omega : i < l.length)]
      refine ecase (fun h6 => ?_) (fun h6 => ?_)
      · exact ⟨trivial, r1 (iE (idx_spec x l i h2 (by rw [hg, h6])).symm), trivial⟩
      · refine X1 ((i + 1 : Nat) : Int) (wI1 (by omega)) ?_
        refine ⟨i + 1, ⟨by omega, fun j hj => ?_⟩, by omega, ⟨rfl, rfl, rfl, rfl, trivial⟩, trivial⟩
        by_cases hji : j = i
        · subst hji
          rw [hg]
          intro e
          exact h6 (Option.some.inj e).symm
        · exact h2 j (by omega)
    · refine ⟨(), idx_none x l (fun j => ?_), trivial, trivial⟩
      by_cases hj : j < i
      · exact h2 j hj
      · rw [List.getElem?_eq_none (by omega)]; simp
  · exact ⟨trivial, r1 (iE he.symm), trivial⟩
theorem contains_ct (l : List Int) (x : Int) (hl : l.length ≤ 1000000) : Ct P 107 [.c (iSl l), .c (eI .i64 x)] [.c (.sc (.bool (decide (idx x l ≥ 0))))] := by
  refine Ct.go T_ok T_mix (N := 9) Tryz.func107 rfl rfl rfl rfl ?_
  refine X1 _ (index_ct l x hl) ?_
  exact ⟨trivial, r1 rfl, trivial⟩
def lexC : List Int → List Int → Int
  | [], [] => 0
  | [], _ :: _ => -1
  | _ :: _, [] => 1
  | x :: l, y :: m => if cmpI x y ≠ 0 then cmpI x y else lexC l m
theorem compare_ct (l m : List Int) (hl : l.length ≤ 1000000) (hm : m.length ≤ 1000000) : Ct P 140 [.c (iSl l), .c (iSl m)] [.c (eI .i64 (lexC l m))] := by
  refine Ct.go T_ok T_mix (N := 36) Tryz.func140 rfl rfl rfl rfl ?_
  refine And.intro (by rw [iRow_len]; omega) ?_
  rw [iRow_len]
  refine loopJ T_ok T_mix (fun i : Nat => i ≤ l.length ∧ i ≤ m.length ∧ lexC l m = lexC (l.drop i) (m.drop i)) (fun i => [(0, .c (iSl l)), (1, .c (iSl m)), (9, .c (iSl l)), (10, .c (nI .i64 l.length)), (11, .c (nI .i64 i))]) (fun _ => []) (fun i => l.length - i)
    0 ⟨by omega, by omega, rfl⟩ ⟨rfl, rfl, rfl, rfl, rfl, trivial⟩ trivial (fun _ : Unit => l.length ≤ m.length ∧ lexC l m = if l.length < m.length then -1 else 0) (fun _ => [(0, .c (iSl l)), (1, .c (iSl m))]) (fun _ => []) (fun i hi => ?_) (fun _ he => ?_)
  · obtain ⟨h1, h2, h3⟩ := hi
    refine dcase (fun h5 => ?_) (fun h5 => ?_)
    · refine And.intro (by omega) (X1 _ (iRow_getN rfl (by omega)) ?_)
      refine And.intro (by rw [iRow_len]; omega) ?_
      rw [iRow_len]
      have dl : l.drop i = l.getD i 0 :: l.drop (i + 1) := by
        rw [List.drop_eq_getElem_cons (by omega)]; simp [List.getD_eq_getElem?_getD, (by omega : i < l.length)]
      refine dcase (fun h6 => ?_) (fun h6 => ?_)
      · have dm : m.drop i = [] := List.drop_eq_nil_of_le (by omega)
        rw [dl, dm, lexC] at h3
        exact ⟨trivial, r1 (iE h3.symm), trivial⟩
      · have dm : m.drop i = m.getD i 0 :: m.drop (i + 1) := by
          rw [List.drop_eq_getElem_cons (by omega)]; simp [List.getD_eq_getElem?_getD, (by omega : i < m.length)]
        rw [dl, dm, lexC] at h3
        refine And.intro (by omega) (X1 _ (iRow_getN rfl (by omega)) ?_)
        refine X1 _ (cmpI_ct _ _) ?_
        refine ncase (fun h7 => ?_) (fun h7 => ?_)
        · rw [if_pos h7] at h3
          exact ⟨trivial, r1 (iE h3.symm), trivial⟩
        · rw [if_neg (fun h => h h7)] at h3
          refine X1 ((i + 1 : Nat) : Int) (wI1 (by omega)) ?_
          exact ⟨i + 1, ⟨by omega, by omega, h3⟩, by omega, ⟨rfl, rfl, rfl, rfl, rfl, trivial⟩, trivial⟩
    · have e : i = l.length := by omega
      subst e
      refine ⟨(), ⟨h2, ?_⟩, ⟨rfl, rfl, trivial⟩, trivial⟩
      rw [h3, List.drop_length]
      cases hd : m.drop l.length with
      | nil =>
        have := List.drop_eq_nil_iff.1 hd
        rw [if_neg (by omega)]; rfl
      | cons y t =>
        have : ¬ m.length ≤ l.length := fun h => by rw [List.drop_eq_nil_of_le h] at hd; cases hd
        rw [if_pos (by omega)]; rfl
  · obtain ⟨h1, h2⟩ := he
    refine And.intro (by rw [iRow_len]; omega) ?_
    refine And.intro (by rw [iRow_len]; omega) ?_
    rw [iRow_len, iRow_len]
    refine dcase (fun h5 => ?_) (fun h5 => ?_)
    · rw [if_pos (by omega)] at h2
      exact ⟨trivial, r1 (iE h2.symm), trivial⟩
    · rw [if_neg (by omega)] at h2
      exact ⟨trivial, r1 (iE h2.symm), trivial⟩
theorem gcompare_ct (l m : List Int) (hl : l.length ≤ 1000000) (hm : m.length ≤ 1000000) : Ct P 102 [.c (iSl l), .c (iSl m)] [.c (eI .i64 (lexC l m))] := by
  refine Ct.go T_ok T_mix (N := 8) Tryz.func102 rfl rfl rfl rfl ?_
  refine X1 _ (compare_ct l m hl hm) ?_
  exact ⟨trivial, r1 rfl, trivial⟩
abbrev Cnt := List Int × Int
def cRow (l : List Cnt) : List (List PC) := l.map fun x => [iSl x.1, eI .i64 x.2]
abbrev cSl (l : List Cnt) : PC := .sl 2 (cRow l)
def ccRow (L : List (List Cnt)) : List (List PC) := L.map fun l => [cSl l]
abbrev ccSl (L : List (List Cnt)) : PC := .sl 1 (ccRow L)
theorem cRow_len {l : List Cnt} : (cRow l).length = l.length := by simp [cRow]
theorem ccRow_len {l : List (List Cnt)} : (ccRow l).length = l.length := by simp [ccRow]
theorem cRow_get {l : List Cnt} {i : Int} {n : Nat} (h0 : i = n) (h : n < l.length) : (cRow l)[i.toNat]? = some [iSl l[n].1, eI .i64 l[n].2] := by
  subst h0
  simp [cRow, h]
theorem ccRow_get {l : List (List Cnt)} {i : Int} {n : Nat} (h0 : i = n) (h : n < l.length) : (ccRow l)[i.toNat]? = some [cSl l[n]] := by
  subst h0
  simp [ccRow, h]
structure CLim (l : List Cnt) : Prop where
  len : l.length ≤ 1000000
  g : ∀ x, x ∈ l → x.1.length ≤ 1000000
structure CCLim (L : List (List Cnt)) : Prop where
  len : L.length ≤ 1000000
  l : ∀ l, l ∈ L → CLim l
theorem CLim.at' {l : List Cnt} (h : CLim l) {i : Nat} (hi : i < l.length) : l[i].1.length ≤ 1000000 := h.g _ (List.getElem_mem hi)
theorem CCLim.at' {L : List (List Cnt)} (h : CCLim L) {i : Nat} (hi : i < L.length) : CLim L[i] := h.l _ (List.getElem_mem hi)
theorem drop_getD {l : List Int} {i : Nat} (h : i < l.length) : l.drop i = l.getD i 0 :: l.drop (i + 1) := by
  rw [List.drop_eq_getElem_cons h]; simp [List.getD_eq_getElem?_getD, h]
theorem lexC_end {l m : List Int} {i : Nat} (h1 : i ≤ l.length) (h2 : i ≤ m.length) (h3 : i = l.length ∨ i = m.length) (h : lexC l m = lexC (l.drop i) (m.drop i)) : lexC l m = if l.length < m.length then -1 else if l.length > m.length then 1 else 0 := by
  rw [h]
  rcases Nat.lt_trichotomy l.length m.length with hl | hl | hl
  · have : i = l.length := by omega
    subst this
    rw [if_pos hl, List.drop_length, drop_getD hl]; rfl
  · have e1 : l.drop i = [] := List.drop_eq_nil_of_le (by omega)
    have e2 : m.drop i = [] := List.drop_eq_nil_of_le (by omega)
    rw [e1, e2, if_neg (by omega), if_neg (by omega)]; rfl
  · have : i = m.length := by omega
    subst this
    rw [if_neg (by omega), if_pos hl, List.drop_length, drop_getD hl]; rfl
theorem rcompare_ct (l m : List Int) (hl : l.length ≤ 1000000) (hm : m.length ≤ 1000000) : Ct P 112 [.c (iSl l), .c (iSl m)] [.c (eI .i64 (lexC l m))] := by
  refine Ct.go T_ok T_mix (N := 46) Tryz.func112 rfl rfl rfl rfl ?_
  refine loopJ T_ok T_mix (fun i : Nat => i ≤ l.length ∧ i ≤ m.length ∧ lexC l m = lexC (l.drop i) (m.drop i)) (fun i => [(0, .c (iSl l)), (1, .c (iSl m)), (5, .c (nI .i64 i))]) (fun _ => []) (fun i => l.length - i)
    0 ⟨by omega, by omega, rfl⟩ ⟨rfl, rfl, rfl, trivial⟩ trivial (fun _ : Unit => lexC l m = if l.length < m.length then -1 else if l.length > m.length then 1 else 0) (fun _ => [(0, .c (iSl l)), (1, .c (iSl m))]) (fun _ => []) (fun i hi => ?_) (fun _ he => ?_)
  · obtain ⟨h1, h2, h3⟩ := hi
    refine And.intro (by rw [iRow_len]; omega) ?_
    rw [iRow_len]
    refine dcase (fun h5 => ?_) (fun h5 => ?_)
    · refine And.intro (by rw [iRow_len]; omega) ?_
      rw [iRow_len]
      refine dcase (fun h6 => ?_) (fun h6 => ?_)
      · have hd := h3
        rw [drop_getD (l := l) (i := i) (by omega), drop_getD (l := m) (i := i) (by omega), lexC] at hd
        refine And.intro (by omega) (X1 _ (iRow_getN rfl (by omega)) ?_)
        refine And.intro (by omega) (X1 _ (iRow_getN rfl (by omega)) ?_)
        refine And.intro rfl ?_
        refine dcase (fun h7 => ?_) (fun h7 => ?_)
        · have e : cmpI (l.getD i 0) (m.getD i 0) = -1 := by rw [cmpI, if_pos h7]
          rw [e, if_pos (by decide)] at hd
          exact ⟨trivial, r1 (iE hd.symm), trivial⟩
        · refine And.intro (by omega) (X1 _ (iRow_getN rfl (by omega)) ?_)
          refine And.intro (by omega) (X1 _ (iRow_getN rfl (by omega)) ?_)
          refine And.intro rfl ?_
          refine dcase (fun h8 => ?_) (fun h8 => ?_)
          · have e : cmpI (l.getD i 0) (m.getD i 0) = 1 := by rw [cmpI, if_neg h7, if_pos h8]
            rw [e, if_pos (by decide)] at hd
            exact ⟨trivial, r1 (iE hd.symm), trivial⟩
          · have e : cmpI (l.getD i 0) (m.getD i 0) = 0 := by rw [cmpI, if_neg h7, if_neg h8]
            rw [e, if_neg (by decide)] at hd
            refine X1 ((i + 1 : Nat) : Int) (wI1 (by omega)) ?_
            exact ⟨i + 1, ⟨by omega, by omega, hd⟩, by omega, ⟨rfl, rfl, rfl, trivial⟩, trivial⟩
      · exact ⟨(), lexC_end h1 h2 (.inr (by omega)) h3, ⟨rfl, rfl, trivial⟩, trivial⟩
    · exact ⟨(), lexC_end h1 h2 (.inl (by omega)) h3, ⟨rfl, rfl, trivial⟩, trivial⟩
  · refine And.intro (by rw [iRow_len]; omega) ?_
    refine And.intro (by rw [iRow_len]; omega) ?_
    rw [iRow_len, iRow_len]
    refine dcase (fun h5 => ?_) (fun h5 => ?_)
    · rw [if_pos (by omega)] at he
      exact ⟨trivial, r1 (iE he.symm), trivial⟩
    · rw [if_neg (by omega)] at he
      refine And.intro (by rw [iRow_len]; omega) ?_
      refine And.intro (by rw [iRow_len]; omega) ?_
      rw [iRow_len, iRow_len]
      refine dcase (fun h6 => ?_) (fun h6 => ?_)
      · rw [if_pos (by omega)] at he
        exact ⟨trivial, r1 (iE he.symm), trivial⟩
      · rw [if_neg (by omega)] at he
        exact ⟨trivial, r1 (iE he.symm), trivial⟩
def fidx (g : List Int) : List Cnt → Int
  | [] => -1
  | x :: l => if x.1 = g then 0 else if fidx g l < 0 then -1 else fidx g l + 1
theorem fidx_spec (g : List Int) : ∀ (l : List Cnt) (i : Nat) (h : i < l.length), (∀ (j : Nat) (hj : j < i), l[j].1 ≠ g) → l[i].1 = g → fidx g l = i
  | [], i, h, _, _ => by simp at h
  | x :: l, 0, _, _, h => by simp at h; simp [fidx, h]
  | x :: l, i + 1, hi, h1, h => by
    have h0 := h1 0 (by omega)
    have := fidx_spec g l i (by simpa using hi) (fun j hj => by simpa using h1 (j + 1) (by omega)) (by simpa using h)
    simp only [List.getElem_cons_zero] at h0
    rw [fidx, if_neg h0, this, if_neg (by omega)]; simp
theorem fidx_none (g : List Int) : ∀ (l : List Cnt), (∀ (j : Nat) (hj : j < l.length), l[j].1 ≠ g) → fidx g l = -1
  | [], _ => rfl
  | x :: l, h => by
    have h0 := h 0 (by simp)
    have := fidx_none g l (fun j hj => h (j + 1) (Nat.succ_lt_succ hj))
    simp only [List.getElem_cons_zero] at h0
    rw [fidx, if_neg h0, this, if_pos (by omega)]
theorem rfind_ct (l : List Cnt) (g : List Int) (hl : CLim l) (hg : g.length ≤ 1000000) : Ct P 60 [.c (cSl l), .c (iSl g)] [.c (eI .i64 (fidx g l))] := by
  have hll := hl.len
  refine Ct.go T_ok T_mix (N := 20) Tryz.func60 rfl rfl rfl rfl ?_
  refine loopJ T_ok T_mix (fun i : Nat => i ≤ l.length ∧ ∀ (j : Nat) (hj : j < l.length), j < i → l[j].1 ≠ g) (fun i => [(0, .c (cSl l)), (1, .c (iSl g)), (5, .c (nI .i64 i))]) (fun _ => []) (fun i => l.length - i)
    0 ⟨by omega, fun j _ hj => by omega⟩ ⟨rfl, rfl, rfl, trivial⟩ trivial (fun _ : Unit => fidx g l = -1) (fun _ => []) (fun _ => []) (fun i hi => ?_) (fun _ he => ?_)
  · obtain ⟨h1, h2⟩ := hi
    refine And.intro (by rw [cRow_len]; omega) ?_
    rw [cRow_len]
    refine dcase (fun h5 => ?_) (fun h5 => ?_)
    · refine And.intro (by omega) (X1 _ (cRow_get rfl (by omega)) ?_)
      refine X1 _ (ints_ct _ g (hl.at' (by omega)) hg) ?_
      refine dcase (fun h6 => ?_) (fun h6 => ?_)
      · exact ⟨trivial, r1 (iE (fidx_spec g l i (by omega) (fun j hj => h2 j (by omega) hj) h6).symm), trivial⟩
      · refine X1 ((i + 1 : Nat) : Int) (wI1 (by omega)) ?_
        refine ⟨i + 1, ⟨by omega, fun j hj hji => ?_⟩, by omega, ⟨rfl, rfl, rfl, trivial⟩, trivial⟩
        by_cases e : j = i
        · subst e; exact h6
        · exact h2 j hj (by omega)
    · exact ⟨(), fidx_none g l (fun j hj => h2 j hj (by omega)), trivial, trivial⟩
  · exact ⟨trivial, r1 (iE he.symm), trivial⟩
theorem blC {a b : Bool} (h : a = b) : (some (.c (.sc (.bool a))) : Option AV) = some (.c (.sc (.bool b))) := by rw [h]
structure WLim (l : List Cnt) : Prop where
  len : l.length ≤ 140737488355328
  g : ∀ x, x ∈ l → x.1.length ≤ 140737488355328
structure WWLim (L : List (List Cnt)) : Prop where
  len : L.length ≤ 140737488355328
  l : ∀ l, l ∈ L → WLim l
theorem WLim.at' {l : List Cnt} (h : WLim l) {i : Nat} (hi : i < l.length) : l[i].1.length ≤ 140737488355328 := h.g _ (List.getElem_mem hi)
theorem WWLim.at' {L : List (List Cnt)} (h : WWLim L) {i : Nat} (hi : i < L.length) : WLim L[i] := h.l _ (List.getElem_mem hi)
def wrongL (n : Nat) : Option (List Int) → List Cnt → Int
  | _, [] => 0
  | p, x :: l => if (x.1.length : Int) ≠ n + 1 then 1 else if x.2 < 1 then 8 else if (match p with | none => false | some q => decide (lexC q x.1 ≥ 0)) = true then 9 else wrongL n (some x.1) l
def wrongLL : Nat → List (List Cnt) → Int
  | _, [] => 0
  | n, l :: ls => if wrongL n none l ≠ 0 then wrongL n none l else wrongLL (n + 1) ls
def wrong (L : List (List Cnt)) : Int := if (L.length : Int) = 0 ∨ (L.length : Int) > 8 then 1 else wrongLL 0 L
def prevG (l : List Cnt) : Nat → Option (List Int)
  | 0 => none
  | i + 1 => (l[i]?).map (·.1)
theorem wrongL_cons {n : Nat} {p : Option (List Int)} {x : Cnt} {l : List Cnt} : wrongL n p (x :: l) = if (x.1.length : Int) ≠ n + 1 then 1 else if x.2 < 1 then 8 else if (match p with | none => false | some q => decide (lexC q x.1 ≥ 0)) = true then 9 else wrongL n (some x.1) l := by cases p <;> rfl
theorem wrongL_nil {n : Nat} {p : Option (List Int)} : wrongL n p [] = 0 := by cases p <;> rfl
theorem wrongL_at {n : Nat} {l : List Cnt} {i : Nat} (h : i < l.length) : wrongL n (prevG l i) (l.drop i) = if (l[i].1.length : Int) ≠ n + 1 then 1 else if l[i].2 < 1 then 8 else if (match prevG l i with | none => false | some q => decide (lexC q l[i].1 ≥ 0)) = true then 9 else wrongL n (prevG l (i + 1)) (l.drop (i + 1)) := by
  have e : prevG l (i + 1) = some l[i].1 := by simp [prevG, h]
  rw [List.drop_eq_getElem_cons h, wrongL_cons, e]
theorem wrongLL_of {n : Nat} {L : List (List Cnt)} (h : n < L.length) {v : Int} (hv : wrongL n none L[n] = v) (h0 : v ≠ 0) : wrongLL n (L.drop n) = v := by
  rw [List.drop_eq_getElem_cons h, wrongLL, hv, if_pos h0]
theorem wrongLL_next {n : Nat} {L : List (List Cnt)} (h : n < L.length) (hv : wrongL n none L[n] = 0) : wrongLL n (L.drop n) = wrongLL (n + 1) (L.drop (n + 1)) := by
  rw [List.drop_eq_getElem_cons h, wrongLL, hv, if_neg (by simp)]
theorem acheck_ct (L : List (List Cnt)) (hL : CCLim L) : Ct P 105 [.c (ccSl L)] [.c (eI .i64 (wrong L))] := by
  have hll := hL.len
  refine Ct.go T_ok T_mix (N := 57) Tryz.func105 rfl rfl rfl rfl ?_
  refine And.intro (by rw [ccRow_len]; omega) ?_
  rw [ccRow_len]
  refine ecase (fun h0 => ?_) (fun h0 => ?_)
  · exact ⟨trivial, r1 (iE (by rw [wrong, if_pos (.inl h0)])), trivial⟩
  refine And.intro (by rw [ccRow_len]; omega) ?_
  rw [ccRow_len]
  refine dcase (fun h1 => ?_) (fun h1 => ?_)
  · exact ⟨trivial, r1 (iE (by rw [wrong, if_pos (.inr h1)])), trivial⟩
  have hw : wrong L = wrongLL 0 L := by rw [wrong, if_neg (by omega)]
  rw [hw]
  refine And.intro (by rw [ccRow_len]; omega) ?_
  rw [ccRow_len]
  refine loopJ T_ok T_mix (fun n : Nat => n ≤ L.length ∧ wrongLL 0 L = wrongLL n (L.drop n)) (fun n => [(15, .c (ccSl L)), (16, .c (nI .i64 L.length)), (17, .c (nI .i64 n))]) (fun _ => []) (fun n => L.length - n)
    0 ⟨by omega, rfl⟩ ⟨rfl, rfl, rfl, trivial⟩ trivial (fun _ : Unit => wrongLL 0 L = 0) (fun _ => []) (fun _ => []) (fun n hi => ?_) (fun _ he => ?_)
  · obtain ⟨h2, h3⟩ := hi
    refine dcase (fun h4 => ?_) (fun h4 => ?_)
    · have hn : n < L.length := by omega
      have hl := hL.at' hn
      have hlen := hl.len
      have hget := ccRow_get (l := L) (i := (n : Int)) (n := n) rfl hn
      have hof := fun v => wrongLL_of (n := n) (L := L) hn (v := v)
      have hnext := wrongLL_next (n := n) (L := L) hn
      generalize L[n] = l at *
      refine And.intro (by omega) (X1 _ hget ?_)
      refine And.intro (by rw [cRow_len]; omega) ?_
      rw [cRow_len]
      refine loopB T_ok T_mix (fun i : Nat => i ≤ l.length ∧ wrongL n none l = wrongL n (prevG l i) (l.drop i)) (fun i => [(3, .c (nI .i64 n)), (4, .c (cSl l)), (15, .c (ccSl L)), (16, .c (nI .i64 L.length)), (17, .c (nI .i64 n)), (22, .c (cSl l)), (23, .c (nI .i64 l.length)), (24, .c (nI .i64 i))]) (fun _ => []) (fun i => l.length - i)
        0 ⟨by omega, rfl⟩ ⟨rfl, rfl, rfl, rfl, rfl, rfl, rfl, rfl, trivial⟩ trivial (fun i hi => ?_)
      · obtain ⟨i1, i2⟩ := hi
        refine dcase (fun h5 => ?_) (fun h5 => ?_)
        · have hi : i < l.length := by omega
          have hxl := hl.at' hi
          have hx := cRow_get (l := l) (i := (i : Int)) (n := i) rfl hi
          rw [wrongL_at hi] at i2
          refine And.intro (by omega) (X1 _ hx ?_)
          refine And.intro (by rw [iRow_len]; omega) ?_
          rw [iRow_len]
          refine X1 ((n + 1 : Nat) : Int) (wI (by simp) (by omega) (by omega)) ?_
          refine ncase (fun h6 => ?_) (fun h6 => ?_)
          · rw [if_pos (by simpa using h6)] at i2
            exact ⟨trivial, r1 (iE (by rw [h3, hof 1 i2 (by decide)])), trivial⟩
          · rw [if_neg (by simpa using h6)] at i2
            refine dcase (fun h7 => ?_) (fun h7 => ?_)
            · rw [if_pos h7] at i2
              exact ⟨trivial, r1 (iE (by rw [h3, hof 8 i2 (by decide)])), trivial⟩
            · rw [if_neg h7] at i2
              refine dcase (fun h8 => ?_) (fun h8 => ?_)
              · obtain ⟨j, rfl⟩ : ∃ j, i = j + 1 := ⟨i - 1, by omega⟩
                have hp : prevG l (j + 1) = some l[j].1 := by simp [prevG, (by omega : j < l.length)]
                rw [hp] at i2
                refine X1 ((j : Nat) : Int) (wI (by omega) (by omega) (by omega)) ?_
                refine And.intro (by omega) (X1 _ (cRow_get rfl (by omega)) ?_)
                refine X1 _ (gcompare_ct l[j].1 l[j + 1].1 (hl.at' (by omega)) hxl) ?_
                refine And.intro rfl ?_
                refine dcase (fun h9 => ?_) (fun h9 => ?_)
                · rw [if_pos (decide_eq_true h9)] at i2
                  exact ⟨trivial, r1 (iE (by rw [h3, hof 9 i2 (by decide)])), trivial⟩
                · rw [if_neg (by simpa using h9)] at i2
                  refine X1 ((j + 1 + 1 : Nat) : Int) (wI (by simp) (by omega) (by omega)) ?_
                  exact ⟨j + 1 + 1, ⟨by omega, i2⟩, by omega, ⟨rfl, rfl, rfl, rfl, rfl, rfl, rfl, rfl, trivial⟩, trivial⟩
              · have e0 : i = 0 := by omega
                subst e0
                rw [if_neg (by simp [prevG])] at i2
                refine And.intro rfl ?_
                refine X1 ((0 + 1 : Nat) : Int) (wI (by simp) (by omega) (by omega)) ?_
                exact ⟨0 + 1, ⟨by omega, i2⟩, by omega, ⟨rfl, rfl, rfl, rfl, rfl, rfl, rfl, rfl, trivial⟩, trivial⟩
        · have e : i = l.length := by omega
          subst e
          rw [List.drop_length, wrongL_nil] at i2
          refine X1 ((n + 1 : Nat) : Int) (wI (by simp) (by omega) (by omega)) ?_
          exact ⟨n + 1, ⟨by omega, by rw [h3, hnext i2]⟩, by omega, ⟨rfl, rfl, rfl, trivial⟩, trivial⟩
    · have e : n = L.length := by omega
      subst e
      rw [List.drop_length] at h3
      exact ⟨(), h3, trivial, trivial⟩
  · rw [he]
    exact ⟨trivial, r1 rfl, trivial⟩
theorem iRow_sub {l : List Int} {a b : Nat} : ((iRow l).drop a).take b = iRow ((l.drop a).take b) := by simp [iRow, List.map_take, List.map_drop]
def ahead (l : List Cnt) (g : List Int) : Nat := (l.filter fun x => decide (x.1.length = g.length + 1) && decide (x.1.drop 1 = g)).length
theorem ahead_ct (l : List Cnt) (g : List Int) (hl : CLim l) (hg : g.length ≤ 1000000) : Ct P 113 [.c (cSl l), .c (iSl g)] [.c (nI .i64 (ahead l g))] := by
  have hll := hl.len
  refine Ct.go T_ok T_mix (N := 36) Tryz.func113 rfl rfl rfl rfl ?_
  refine loopJ T_ok T_mix (fun i : Nat => i ≤ l.length) (fun i => [(0, .c (cSl l)), (1, .c (iSl g)), (5, .c (nI .i64 (ahead (l.take i) g))), (6, .c (nI .i64 i))]) (fun _ => []) (fun i => l.length - i)
    0 (by omega) ⟨rfl, rfl, rfl, rfl, trivial⟩ trivial (fun _ : Unit => True) (fun _ => [(5, .c (nI .i64 (ahead l g)))]) (fun _ => []) (fun i hi => ?_) (fun _ _ => ?_)
  · refine And.intro (by rw [cRow_len]; omega) ?_
    rw [cRow_len]
    refine dcase (fun h5 => ?_) (fun h5 => ?_)
    · have hi' : i < l.length := by omega
      have hxl := hl.at' hi'
      have hx := cRow_get (l := l) (i := (i : Int)) (n := i) rfl hi'
      have hs : ahead (l.take (i + 1)) g = ahead (l.take i) g + (if l[i].1.length = g.length + 1 ∧ l[i].1.drop 1 = g then 1 else 0) := by
        unfold ahead
        rw [List.take_succ_eq_append_getElem hi', List.filter_append, List.length_append]
        congr 1
        by_cases h1 : l[i].1.length = g.length + 1
        · by_cases h2 : l[i].1.drop 1 = g
          · rw [List.filter_cons_of_pos (by rw [decide_eq_true h1, decide_eq_true h2]; rfl), if_pos ⟨h1, h2⟩]; rfl
          · rw [List.filter_cons_of_neg (by rw [decide_eq_true h1, decide_eq_false h2]; simp), if_neg (fun h => h2 h.2)]; rfl
        · rw [List.filter_cons_of_neg (by rw [decide_eq_false h1]; simp), if_neg (fun h => h1 h.1)]; rfl
      have ha : ahead (l.take i) g ≤ i := by
        unfold ahead
        refine Nat.le_trans (List.length_filter_le _ _) ?_
        rw [List.length_take]; omega
      generalize l[i] = x at *
      refine And.intro (by omega) (X1 _ hx ?_)
      refine And.intro (by rw [iRow_len]; omega) ?_
      refine And.intro (by rw [iRow_len]; omega) ?_
      rw [iRow_len, iRow_len]
      refine X1 ((g.length + 1 : Nat) : Int) (wI (by simp) (by omega) (by omega)) ?_
      refine ecase (fun h6 => ?_) (fun h6 => ?_)
      · have h6' : x.1.length = g.length + 1 := by omega
        refine And.intro (by omega) (X1 _ hx ?_)
        refine ⟨1, x.1.length, by simp, by simp [iRow_len], by omega, by rw [iRow_len]; omega, ?_⟩
        rw [iRow_sub, List.take_of_length_le (show (x.1.drop 1).length ≤ x.1.length - 1 by rw [List.length_drop]; exact Nat.le_refl _)]
        refine X1 _ (ints_ct _ g (by rw [List.length_drop]; omega) hg) ?_
        refine dcase (fun h7 => ?_) (fun h7 => ?_)
        · rw [if_pos ⟨h6', h7⟩] at hs
          refine X1 ((ahead (l.take i) g + 1 : Nat) : Int) (wI (by simp) (by omega) (by omega)) ?_
          refine X1 ((i + 1 : Nat) : Int) (wI1 (by omega)) ?_
          exact ⟨i + 1, by omega, by omega, ⟨rfl, rfl, by rw [hs]; rfl, rfl, trivial⟩, trivial⟩
        · rw [if_neg (fun h => h7 h.2)] at hs
          refine X1 ((i + 1 : Nat) : Int) (wI1 (by omega)) ?_
          exact ⟨i + 1, by omega, by omega, ⟨rfl, rfl, by rw [hs]; rfl, rfl, trivial⟩, trivial⟩
      · rw [if_neg (fun h => h6 (by omega))] at hs
        refine X1 ((i + 1 : Nat) : Int) (wI1 (by omega)) ?_
        exact ⟨i + 1, by omega, by omega, ⟨rfl, rfl, by rw [hs]; rfl, rfl, trivial⟩, trivial⟩
    · have e : i = l.length := by omega
      subst e
      rw [List.take_length]
      exact ⟨(), trivial, ⟨rfl, trivial⟩, trivial⟩
  · exact ⟨trivial, r1 rfl, trivial⟩
def cnt1 (L : List (List Cnt)) (n : Nat) (x : Cnt) : Cnt := if n + 1 < L.length ∧ x.1.getD 0 0 ≠ 1 then (x.1, (ahead (L.getD (n + 1) []) x.1 : Int)) else x
def counts (L : List (List Cnt)) : List (List Cnt) := (List.range L.length).map fun n => (L.getD n []).map (cnt1 L n)
structure CCForm (L : List (List Cnt)) : Prop where
  lim : CCLim L
  form : ∀ (n : Nat) (h : n < L.length) (i : Nat) (hi : i < L[n].length), L[n][i].1.length = n + 1
theorem cRow_closed {l : List Cnt} : closedLL (cRow l) := by
  intro el h
  obtain ⟨x, _, rfl⟩ := List.mem_map.1 h
  rfl
theorem ccRow_closed {l : List (List Cnt)} : closedLL (ccRow l) := by
  intro el h
  obtain ⟨x, _, rfl⟩ := List.mem_map.1 h
  rfl
theorem cRow_app {l m : List Cnt} : cRow l ++ cRow m = cRow (l ++ m) := by simp [cRow]
theorem ccRow_app {l m : List (List Cnt)} : ccRow l ++ ccRow m = ccRow (l ++ m) := by simp [ccRow]
theorem one_closed {el : List PC} (h : closedL el = true) : closedLL [el] := by
  intro e he
  simp only [List.mem_singleton] at he
  subst he; exact h
theorem rcounts_ct (L : List (List Cnt)) (hL : CCForm L) (hl8 : L.length ≤ 1000) : Ct P 67 [.c (ccSl L)] [.c (ccSl (counts L))] := by
  refine Ct.go T_ok T_mix (N := 60) Tryz.func67 rfl rfl rfl rfl ?_
  refine nilC (r := 50) (t := 3) (sz := 1) rfl rfl ?_
  refine loopJ T_ok T_mix (fun n : Nat => n ≤ L.length) (fun n => [(0, .c (ccSl L)), (3, .c (.ow 50 1 n)), (4, .c (nI .i64 n))]) (fun n => [(50, .row 1 (ccRow ((List.range n).map fun n => (L.getD n []).map (cnt1 L n))))]) (fun n => L.length - n)
    0 (by omega) ⟨rfl, rfl, rfl, trivial⟩ ⟨rfl, trivial⟩ (fun _ : Unit => True) (fun _ => [(3, .c (.ow 50 1 L.length))]) (fun _ => [(50, .row 1 (ccRow (counts L)))]) (fun n hi => ?_) (fun _ he => ?_)
  · refine And.intro (by rw [ccRow_len]; omega) ?_
    rw [ccRow_len]
    refine dcase (fun h4 => ?_) (fun h4 => ?_)
    · have hn : n < L.length := by omega
      have hl := hL.lim.at' hn
      have hlen := hl.len
      have hget := ccRow_get (l := L) (i := (n : Int)) (n := n) rfl hn
      have hform := hL.form n hn
      have hgd : L.getD n [] = L[n] := by simp [List.getD_eq_getElem?_getD, hn]
      refine nilC (r := 51) (t := 5) (sz := 2) rfl rfl ?_
      refine loopW T_ok T_mix (fun i : Nat => i ≤ L[n].length) (fun i => [(0, .c (ccSl L)), (3, .c (.ow 50 1 n)), (4, .c (nI .i64 n)), (5, .c (.ow 51 2 i)), (6, .c (nI .i64 i))])
        (fun i => [(50, .row 1 (ccRow ((List.range n).map fun n => (L.getD n []).map (cnt1 L n)))), (51, .row 2 (cRow ((L[n].take i).map (cnt1 L n))))]) (fun i => L[n].length - i)
        0 (by omega) ⟨rfl, rfl, rfl, rfl, rfl, trivial⟩ ⟨rfl, rfl, trivial⟩ (fun _ : Unit => True) (fun _ => [(0, .c (ccSl L)), (3, .c (.ow 50 1 n)), (4, .c (nI .i64 n)), (5, .c (.ow 51 2 L[n].length))])
        (fun _ => [(50, .row 1 (ccRow ((List.range n).map fun n => (L.getD n []).map (cnt1 L n)))), (51, .row 2 (cRow (L[n].map (cnt1 L n))))]) (fun i hi => ?_) (fun _ _ => ?_)
      · refine And.intro (by omega) (X1 _ hget ?_)
        refine And.intro (by rw [cRow_len]; omega) ?_
        rw [cRow_len]
        refine dcase (fun h5 => ?_) (fun h5 => ?_)
        · have hi' : i < L[n].length := by omega
          have hxl := hl.at' hi'
          have hxf := hform i hi'
          have hx := cRow_get (l := L[n]) (i := (i : Int)) (n := i) rfl hi'
          have e0 : (cRow ((L[n].take i).map (cnt1 L n))).length = i := by rw [cRow_len, List.length_map, List.length_take]; omega
          have e1 : (L[n].take (i + 1)).map (cnt1 L n) = (L[n].take i).map (cnt1 L n) ++ [cnt1 L n L[n][i]] := by
            rw [List.take_succ_eq_append_getElem hi', List.map_append]; rfl
          generalize L[n][i] = x at *
          refine And.intro (by omega) (X1 _ hget ?_)
          refine And.intro (by omega) (X1 _ hx ?_)
          refine And.intro (by rw [ccRow_len]; omega) ?_
          rw [ccRow_len]
          refine X1 ((L.length : Int) - 1) (wI rfl (by omega) (by omega)) ?_
          refine dcase (fun h6 => ?_) (fun h6 => ?_)
          · refine And.intro (by omega) (X1 _ (iRow_getN (n := 0) rfl (by omega)) ?_)
            refine ncase (fun h7 => ?_) (fun h7 => ?_)
            · have hc : cnt1 L n x = (x.1, (ahead L[n + 1] x.1 : Int)) := by
                have : L.getD (n + 1) [] = L[n + 1] := by simp [List.getD_eq_getElem?_getD, (by omega : n + 1 < L.length)]
                rw [cnt1, if_pos ⟨by omega, h7⟩, this]
              rw [hc] at e1
              refine X1 ((n + 1 : Nat) : Int) (wI (by simp) (by omega) (by omega)) ?_
              refine And.intro (by omega) (X1 _ (ccRow_get rfl (by omega)) ?_)
              refine X1 _ (ahead_ct L[n + 1] x.1 (hL.lim.at' (by omega)) hxl) ?_
              refine And.intro rfl ?_
              refine ⟨e0.symm, by rw [e0]; show (i + 1 + 768) * 32 ≤ _; omega, by rw [e0]; show i + 1 ≤ _; omega, cRow_closed, one_closed rfl, ?_⟩
              refine X1 ((i + 1 : Nat) : Int) (wI1 (by omega)) ?_
              exact ⟨i + 1, by omega, by omega, ⟨rfl, rfl, rfl, owE (by rw [List.length_append, e0]; rfl), rfl, trivial⟩, ⟨rfl, rowE (by rw [e1, ← cRow_app]; rfl), trivial⟩⟩
            · have hc : cnt1 L n x = x := by rw [cnt1, if_neg (fun h => h.2 h7)]
              rw [hc] at e1
              refine ⟨e0.symm, by rw [e0]; show (i + 1 + 768) * 32 ≤ _; omega, by rw [e0]; show i + 1 ≤ _; omega, cRow_closed, one_closed rfl, ?_⟩
              refine X1 ((i + 1 : Nat) : Int) (wI1 (by omega)) ?_
              exact ⟨i + 1, by omega, by omega, ⟨rfl, rfl, rfl, owE (by rw [List.length_append, e0]; rfl), rfl, trivial⟩, ⟨rfl, rowE (by rw [e1, ← cRow_app]; rfl), trivial⟩⟩
          · have hc : cnt1 L n x = x := by rw [cnt1, if_neg (fun h => h6 (by omega))]
            rw [hc] at e1
            refine ⟨e0.symm, by rw [e0]; show (i + 1 + 768) * 32 ≤ _; omega, by rw [e0]; show i + 1 ≤ _; omega, cRow_closed, one_closed rfl, ?_⟩
            refine X1 ((i + 1 : Nat) : Int) (wI1 (by omega)) ?_
            exact ⟨i + 1, by omega, by omega, ⟨rfl, rfl, rfl, owE (by rw [List.length_append, e0]; rfl), rfl, trivial⟩, ⟨rfl, rowE (by rw [e1, ← cRow_app]; rfl), trivial⟩⟩
        · have e : i = L[n].length := by omega
          subst e
          exact ⟨(), trivial, ⟨rfl, rfl, rfl, rfl, trivial⟩, ⟨rfl, rowE (by rw [List.take_length]), trivial⟩⟩
      · refine frzC T_ok T_mix [51] ?_
        have e0 : (ccRow ((List.range n).map fun n => (L.getD n []).map (cnt1 L n))).length = n := by rw [ccRow_len, List.length_map, List.length_range]
        have e1 : (List.range (n + 1)).map (fun n => (L.getD n []).map (cnt1 L n)) = (List.range n).map (fun n => (L.getD n []).map (cnt1 L n)) ++ [L[n].map (cnt1 L n)] := by
          rw [List.range_succ, List.map_append, ← hgd]; rfl
        refine ⟨e0.symm, by rw [e0]; show (n + 1 + 768) * 24 ≤ _; omega, by rw [e0]; show n + 1 ≤ _; omega, ccRow_closed, one_closed rfl, ?_⟩
        refine X1 ((n + 1 : Nat) : Int) (wI (by simp) (by omega) (by omega)) ?_
        exact ⟨n + 1, by omega, by omega, ⟨rfl, owE (by rw [List.length_append, e0]; rfl), rfl, trivial⟩, ⟨rowE (by rw [e1, ← ccRow_app]; rfl), trivial⟩⟩
    · have e : n = L.length := by omega
      subst e
      exact ⟨(), trivial, ⟨rfl, trivial⟩, ⟨rfl, trivial⟩⟩
  · exact ⟨trivial, r1 rfl, trivial⟩
theorem nsub_err (a b : Nat) (hab : a < b) (ha : (dg 18446744073709551616 a).length ≤ 1000000) (hb : (dg 18446744073709551616 b).length ≤ 1000000) : Ct P 87 [nV a, nV b] [nV 0, .c (eI .i64 8)] := by
  refine Ct.go T_ok T_mix (N := 52) Tryz.func87 rfl rfl rfl rfl ?_
  refine X1 _ (ncmp_ct a b ha hb) ?_
  refine btrue (decide_eq_true (by unfold cmpI; rw [if_pos (by omega)]; decide)) ?_
  exact ⟨trivial, ⟨_, rfl, nilNV⟩, r1 rfl, trivial⟩
theorem qless_err (a b c d : Nat) (h1 : LimQ a b) (h2 : LimQ c d) (hlt : a * dn d < c * dn b) : Ct P 46 [qV a b, qV c d] [qV 0 1] := by
  obtain ⟨n1, k1⟩ := h1
  obtain ⟨n2, k2⟩ := h2
  have l1 := dn_len (by omega) k1
  have l2 := dn_len (by omega) k2
  refine Ct.go T_ok T_mix (N := 31) Tryz.func46 rfl rfl rfl rfl ?_
  refine X1 _ (qnum_ct a b) (X1 _ (qden_ct c d (by omega)) (X1 _ (nmul_ct a (dn d) (by omega) (by omega)) ?_))
  refine X1 _ (qnum_ct c d) (X1 _ (qden_ct a b (by omega)) (X1 _ (nmul_ct c (dn b) (by omega) (by omega)) ?_))
  have m1 := nmul_len n1 l2
  have m2 := nmul_len n2 l1
  refine X1 _ (nsub_err _ _ hlt (by omega) (by omega)) ?_
  refine And.intro rfl ?_
  refine X1 _ (qint_ct 0 (by omega)) ?_
  exact ⟨trivial, rc rfl, trivial⟩
def wh (n : Int) : Nat := n.toNat
theorem whole_ct (n : Int) (hn : n < 9223372036854775808) : Ct P 109 [.c (eI .i64 n)] [qV (wh n) 1] := by
  refine Ct.go T_ok T_mix (N := 7) Tryz.func109 rfl rfl rfl rfl ?_
  have e : (if (0 : Int) > n then 0 else n) = ((wh n : Nat) : Int) := by unfold wh; split <;> omega
  have hw : wh n < 18446744073709551616 := by unfold wh; omega
  refine X1 ((wh n : Nat) : Int) (by rw [e]; exact wU rfl (by omega) (by omega)) ?_
  refine X1 _ (qint_ct (wh n) hw) ?_
  exact ⟨trivial, rc rfl, trivial⟩
theorem dby_ct (a b c d : Nat) (h1 : LimQ a b) (h2 : LimQ c d) (hc : c ≠ 0) : Ct P 110 [qV a b, qV c d] [qR (a * dn d) (dn b * c)] := by
  refine Ct.go T_ok T_mix (N := 17) Tryz.func110 rfl rfl rfl rfl ?_
  refine X1 _ (qdiv_ct a b c d h1 h2 hc) ?_
  exact ⟨trivial, rc rfl, trivial⟩
def gR (n d : Nat) : Nat × Nat := (n / Nat.gcd n d, d / Nat.gcd n d)
def gMul (p q : Nat × Nat) : Nat × Nat := gR (p.1 * q.1) (dn p.2 * dn q.2)
def gDiv (p q : Nat × Nat) : Nat × Nat := gR (p.1 * dn q.2) (dn p.2 * q.1)
def gSub (p q : Nat × Nat) : Nat × Nat := if p.1 * dn q.2 < q.1 * dn p.2 then (0, 1) else gR (p.1 * dn q.2 - q.1 * dn p.2) (dn p.2 * dn q.2)
abbrev qP (p : Nat × Nat) : A1 := qV p.1 p.2
structure Bg (k : Nat) (p : Nat × Nat) : Prop where
  n : p.1 < 2 ^ k
  d : p.2 < 2 ^ k
theorem pow_le_w {k n : Nat} (h : k ≤ 64 * n) : 2 ^ k ≤ 18446744073709551616 ^ n := by
  rw [w_pow]
  exact Nat.pow_le_pow_right (by omega) h
theorem Bg.lim {k : Nat} {p : Nat × Nat} (h : Bg k p) (hk : k ≤ 2000000) : LimQ p.1 p.2 := by
  obtain ⟨N, hN⟩ : ∃ N, N = 40000 := ⟨_, rfl⟩
  have e : 2 ^ k ≤ 18446744073709551616 ^ N := pow_le_w (by omega)
  have a1 := dg_len (by omega) (Nat.lt_of_lt_of_le h.n e)
  have a2 := dg_len (by omega) (Nat.lt_of_lt_of_le h.d e)
  rw [hN] at a1 a2
  exact ⟨a1, a2⟩
theorem Bg.dn {k : Nat} {p : Nat × Nat} (h : Bg k p) (hk : 1 ≤ k) : dn p.2 < 2 ^ k := by
  unfold Pv.dn
  split
  · have := Nat.pow_le_pow_right (show 0 < 2 by omega) hk
    omega
  · exact h.d
theorem gmul_ct {k m : Nat} {p q : Nat × Nat} (h1 : Bg k p) (h2 : Bg m q) (hk : k ≤ 2000000) (hm : m ≤ 2000000) : Ct P 24 [qP p, qP q] [qP (gMul p q)] := qmul_ct _ _ _ _ (h1.lim hk) (h2.lim hm)
theorem gdiv_ct {k m : Nat} {p q : Nat × Nat} (h1 : Bg k p) (h2 : Bg m q) (hq : q.1 ≠ 0) (hk : k ≤ 2000000) (hm : m ≤ 2000000) : Ct P 83 [qP p, qP q] [qP (gDiv p q), .c (eI .i64 0)] := qdiv_ct _ _ _ _ (h1.lim hk) (h2.lim hm) hq
theorem gby_ct {k m : Nat} {p q : Nat × Nat} (h1 : Bg k p) (h2 : Bg m q) (hq : q.1 ≠ 0) (hk : k ≤ 2000000) (hm : m ≤ 2000000) : Ct P 110 [qP p, qP q] [qP (gDiv p q)] := dby_ct _ _ _ _ (h1.lim hk) (h2.lim hm) hq
theorem gsub_ct {k m : Nat} {p q : Nat × Nat} (h1 : Bg k p) (h2 : Bg m q) (hk : k ≤ 2000000) (hm : m ≤ 2000000) : Ct P 46 [qP p, qP q] [qP (gSub p q)] := by
  unfold gSub
  split
  · rename_i h
    exact qless_err _ _ _ _ (h1.lim hk) (h2.lim hm) h
  · rename_i h
    exact qless_ct _ _ _ _ (h1.lim hk) (h2.lim hm) (Nat.le_of_not_lt h)
def fR (n d : Nat) : Nat × Nat := (n / Nat.gcd n d, d / Nat.gcd n d)
def fMul (p q : Nat × Nat) : Nat × Nat := fR (p.1 * q.1) (p.2 * q.2)
def fDiv (p q : Nat × Nat) : Nat × Nat := fR (p.1 * q.2) (p.2 * q.1)
def fAdd (p q : Nat × Nat) : Nat × Nat := fR (p.1 * q.2 + q.1 * p.2) (p.2 * q.2)
def fSub (p q : Nat × Nat) : Nat × Nat := fR (p.1 * q.2 - q.1 * p.2) (p.2 * q.2)
structure Bd (k : Nat) (p : Nat × Nat) : Prop where
  pos : p.2 ≠ 0
  n : p.1 < 2 ^ k
  d : p.2 < 2 ^ k
theorem fR_pos {n d : Nat} (h : d ≠ 0) : (fR n d).2 ≠ 0 := by
  have hg : 0 < Nat.gcd n d := Nat.gcd_pos_of_pos_right n (Nat.pos_of_ne_zero h)
  have := Nat.div_pos (Nat.gcd_le_right n (Nat.pos_of_ne_zero h)) hg
  show d / Nat.gcd n d ≠ 0
  omega
theorem fR_bd {n d k : Nat} (h : d ≠ 0) (hn : n < 2 ^ k) (hd : d < 2 ^ k) : Bd k (fR n d) :=
  ⟨fR_pos h, Nat.lt_of_le_of_lt (Nat.div_le_self _ _) hn, Nat.lt_of_le_of_lt (Nat.div_le_self _ _) hd⟩
theorem mul_bd {a b k m : Nat} (ha : a < 2 ^ k) (hb : b < 2 ^ m) : a * b < 2 ^ (k + m) := by
  rw [Nat.pow_add]; exact Nat.mul_lt_mul'' ha hb
theorem Bd.le {k m : Nat} {p : Nat × Nat} (h : Bd k p) (hk : k ≤ m) : Bd m p :=
  ⟨h.pos, Nat.lt_of_lt_of_le h.n (Nat.pow_le_pow_right (by omega) hk), Nat.lt_of_lt_of_le h.d (Nat.pow_le_pow_right (by omega) hk)⟩
theorem fMul_bd {k m : Nat} {p q : Nat × Nat} (h1 : Bd k p) (h2 : Bd m q) : Bd (k + m) (fMul p q) := fR_bd (Nat.mul_ne_zero h1.pos h2.pos) (mul_bd h1.n h2.n) (mul_bd h1.d h2.d)
theorem fDiv_bd {k m : Nat} {p q : Nat × Nat} (h1 : Bd k p) (h2 : Bd m q) (hq : q.1 ≠ 0) : Bd (k + m) (fDiv p q) := fR_bd (Nat.mul_ne_zero h1.pos hq) (mul_bd h1.n h2.d) (mul_bd h1.d h2.n)
theorem fAdd_bd {k m : Nat} {p q : Nat × Nat} (h1 : Bd k p) (h2 : Bd m q) : Bd (k + m + 1) (fAdd p q) := by
  have a1 := mul_bd h1.n h2.d
  have a2 := mul_bd h2.n h1.d
  have a3 := mul_bd h1.d h2.d
  rw [Nat.add_comm m k] at a2
  refine fR_bd (Nat.mul_ne_zero h1.pos h2.pos) ?_ ?_ <;> rw [Nat.pow_succ] <;> omega
theorem fSub_bd {k m : Nat} {p q : Nat × Nat} (h1 : Bd k p) (h2 : Bd m q) : Bd (k + m) (fSub p q) := by
  have a1 := mul_bd h1.n h2.d
  exact fR_bd (Nat.mul_ne_zero h1.pos h2.pos) (by omega) (mul_bd h1.d h2.d)
theorem int_bd {v k : Nat} (h : v < 2 ^ k) (hk : 1 ≤ k) : Bd k (v, 1) :=
  ⟨by simp, h, by show 1 < 2 ^ k; have := Nat.pow_le_pow_right (show 0 < 2 by omega) hk; omega⟩
theorem pow_le_256 {k n : Nat} (h : k ≤ 8 * n) : 2 ^ k ≤ 256 ^ n := by
  rw [show (256 : Nat) = 2 ^ 8 from rfl, ← Nat.pow_mul]
  exact Nat.pow_le_pow_right (by omega) h
theorem Bd.lim {k : Nat} {p : Nat × Nat} (h : Bd k p) (hk : k ≤ 800000) : Lim p.1 p.2 := by
  obtain ⟨N, hN⟩ : ∃ N, N = 100000 := ⟨_, rfl⟩
  have e : 2 ^ k ≤ 256 ^ N := pow_le_256 (by omega)
  have a1 := dg_len (by omega) (Nat.lt_of_lt_of_le h.n e)
  have a2 := dg_len (by omega) (Nat.lt_of_lt_of_le h.d e)
  rw [hN] at a1 a2
  exact ⟨h.pos, a1, a2⟩
abbrev rP (p : Nat × Nat) : A1 := rV p.1 p.2
theorem fmul_ct {k m : Nat} {p q : Nat × Nat} (h1 : Bd k p) (h2 : Bd m q) (hk : k ≤ 400000) (hm : m ≤ 400000) : Ct P 56 [rP p, rP q] [rP (fMul p q)] := rmul_ct _ _ _ _ (h1.lim (by omega)) (h2.lim (by omega))
theorem fdiv_ct {k m : Nat} {p q : Nat × Nat} (h1 : Bd k p) (h2 : Bd m q) (hq : q.1 ≠ 0) (hk : k ≤ 400000) (hm : m ≤ 400000) : Ct P 51 [rP p, rP q] [rP (fDiv p q)] := rdiv_ct _ _ _ _ (h1.lim (by omega)) (h2.lim (by omega)) hq
theorem fsub_ct {k m : Nat} {p q : Nat × Nat} (h1 : Bd k p) (h2 : Bd m q) (hk : k ≤ 400000) (hm : m ≤ 400000) : Ct P 53 [rP p, rP q] [rP (fSub p q)] := rless_ct _ _ _ _ (h1.lim (by omega)) (h2.lim (by omega))
end Go.Proofs.YtpmchgndnhgncaaGreat.Pv
