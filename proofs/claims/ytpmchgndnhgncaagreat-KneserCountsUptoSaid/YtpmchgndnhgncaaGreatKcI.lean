/- Parts of a proof, joined: Cl Cm Ca Cb Cr Cf. -/
import Derived.Test.YtpmchgndnhgncaaGreatKcH
namespace Go.Proofs.YtpmchgndnhgncaaGreat.Pv
open Go
section
variable {t d : List Nat} {x lo : Nat}
theorem sm_take : ∀ i, (sm t d x lo i).s.take lo = t.take lo
  | 0 => rfl
  | i + 1 => by simp only [sm]; rw [List.take_set_of_le (by omega)]; exact sm_take i
theorem sm_drop : ∀ i, (sm t d x lo i).s.drop (lo + i) = t.drop (lo + i)
  | 0 => rfl
  | i + 1 => by
    simp only [sm]
    have h := congrArg (List.drop 1) (sm_drop i)
    rw [List.drop_drop, List.drop_drop] at h
    rw [List.drop_set_of_lt (by omega)]
    exact h
theorem am_take : ∀ i, (am t d x lo i).1.take lo = t.take lo
  | 0 => rfl
  | i + 1 => by simp only [am]; rw [List.take_set_of_le (by omega)]; exact am_take i
theorem am_drop : ∀ i, (am t d x lo i).1.drop (lo + i) = t.drop (lo + i)
  | 0 => rfl
  | i + 1 => by
    simp only [am]
    have h := congrArg (List.drop 1) (am_drop i)
    rw [List.drop_drop, List.drop_drop] at h
    rw [List.drop_set_of_lt (by omega)]
    exact h
theorem drop_small {s : List Nat} {n : Nat} (hs : Dig 18446744073709551616 s) (hz : val 18446744073709551616 (s.drop (lo + n)) = 0) : val 18446744073709551616 (s.drop lo) < 18446744073709551616 ^ n := by
  have h := val_take 18446744073709551616 (s.drop lo) n
  rw [List.drop_drop, hz, Nat.mul_zero, Nat.add_zero] at h
  rw [h]
  refine Nat.lt_of_lt_of_le (val_lt (by omega) hs.drop.take) (Nat.pow_le_pow_right (by omega) ?_)
  rw [List.length_take]; omega
theorem val_at {s : List Nat} (h : lo ≤ s.length) : val 18446744073709551616 s = val 18446744073709551616 (s.take lo) + 18446744073709551616 ^ lo * val 18446744073709551616 (s.drop lo) := by
  have := val_take 18446744073709551616 s lo
  rwa [Nat.min_eq_left h] at this
theorem sub_law (ht : Dig 18446744073709551616 t) (hd : Dig 18446744073709551616 d) (hx : x < 18446744073709551616) (hlen : lo + (d.length + 1) ≤ t.length) (hz : val 18446744073709551616 (t.drop (lo + (d.length + 1))) = 0) :
    (sm t d x lo (d.length + 1)).s.length = t.length ∧ Dig 18446744073709551616 (sm t d x lo (d.length + 1)).s ∧ (sm t d x lo (d.length + 1)).b ≤ 1 ∧
    val 18446744073709551616 ((sm t d x lo (d.length + 1)).s.drop lo) + x * val 18446744073709551616 d = val 18446744073709551616 (t.drop lo) + 18446744073709551616 ^ (d.length + 1) * (sm t d x lo (d.length + 1)).b ∧ val 18446744073709551616 ((sm t d x lo (d.length + 1)).s.drop lo) < 18446744073709551616 ^ (d.length + 1) := by
  obtain ⟨h1, h2, h3, h4, h5⟩ := sm_spec (lo := lo) ht hd hx (d.length + 1) hlen
  have hc : (sm t d x lo (d.length + 1)).c = 0 := by
    obtain ⟨_, _, k3, _, _⟩ := sm_spec (lo := lo) ht hd hx d.length (by omega)
    have hy : d.getD d.length 0 = 0 := by rw [List.getD_eq_getElem?_getD, List.getElem?_eq_none (by omega)]; rfl
    simp only [sm, hy, Nat.mul_zero, Nat.zero_add]
    exact Nat.div_eq_of_lt k3
  have e1 := sm_take (t := t) (d := d) (x := x) (lo := lo) (d.length + 1)
  have e2 := sm_drop (t := t) (d := d) (x := x) (lo := lo) (d.length + 1)
  rw [hc, Nat.zero_add, List.take_of_length_le (by omega)] at h5
  generalize (sm t d x lo (d.length + 1)).s = s at *
  generalize (sm t d x lo (d.length + 1)).b = b at *
  refine ⟨h1, h2, h4, ?_, drop_small h2 (by rw [e2]; exact hz)⟩
  rw [val_at (lo := lo) (s := s) (by omega), val_at (lo := lo) (s := t) (by omega), e1, Nat.pow_add, Nat.mul_assoc, Nat.add_assoc, Nat.add_assoc, ← Nat.mul_add, ← Nat.mul_add] at h5
  exact Nat.eq_of_mul_eq_mul_left (Nat.pow_pos (by omega)) (Nat.add_left_cancel h5)
theorem add_law (ht : Dig 18446744073709551616 t) (hd : Dig 18446744073709551616 d) (hlen : lo + (d.length + 1) ≤ t.length) (hz : val 18446744073709551616 (t.drop (lo + (d.length + 1))) = 0) :
    (am t d 1 lo (d.length + 1)).1.length = t.length ∧ Dig 18446744073709551616 (am t d 1 lo (d.length + 1)).1 ∧ (am t d 1 lo (d.length + 1)).2 ≤ 1 ∧
    val 18446744073709551616 ((am t d 1 lo (d.length + 1)).1.drop lo) + 18446744073709551616 ^ (d.length + 1) * (am t d 1 lo (d.length + 1)).2 = val 18446744073709551616 (t.drop lo) + val 18446744073709551616 d ∧ val 18446744073709551616 ((am t d 1 lo (d.length + 1)).1.drop lo) < 18446744073709551616 ^ (d.length + 1) := by
  obtain ⟨h1, h2, h3, h5⟩ := am_specG (lo := lo) (x := 1) ht hd (by omega) (d.length + 1) hlen
  have h4 := am_one (lo := lo) ht hd (d.length + 1) hlen
  have e1 := am_take (t := t) (d := d) (x := 1) (lo := lo) (d.length + 1)
  have e2 := am_drop (t := t) (d := d) (x := 1) (lo := lo) (d.length + 1)
  rw [List.take_of_length_le (by omega), Nat.one_mul] at h5
  generalize (am t d 1 lo (d.length + 1)).1 = s at *
  generalize (am t d 1 lo (d.length + 1)).2 = b at *
  refine ⟨h1, h2, h4, ?_, drop_small h2 (by rw [e2]; exact hz)⟩
  rw [val_at (lo := lo) (s := s) (by omega), val_at (lo := lo) (s := t) (by omega), e1, Nat.pow_add, Nat.mul_assoc, Nat.add_assoc, Nat.add_assoc, ← Nat.mul_add, ← Nat.mul_add] at h5
  exact Nat.eq_of_mul_eq_mul_left (Nat.pow_pos (by omega)) (Nat.add_left_cancel h5)
end
theorem dg_top {n : Nat} (hn : n ≠ 0) {k : Nat} (hk : (dg 18446744073709551616 n).length = k + 1) : (dg 18446744073709551616 n).getD k 0 ≠ 0 := by
  have h3 := dg_last (B := 18446744073709551616) (by omega) hn
  intro h0
  have h4 := val_take_succ 18446744073709551616 (dg 18446744073709551616 n) k
  rw [h0, Nat.mul_zero, List.take_of_length_le (by omega), val_dg (by omega), Nat.add_zero] at h4
  have h5 := val_lt (by omega : 0 < 18446744073709551616) ((dig_dg (B := 18446744073709551616) (by omega) n).take (n := k))
  rw [List.length_take, Nat.min_eq_left (by omega), ← h4] at h5
  rw [hk, Nat.add_sub_cancel] at h3
  exact absurd h3 (Nat.not_le_of_lt h5)
theorem gs_ge {u d : List Nat} {n : Nat} (hu : Dig 18446744073709551616 u) (hd : Dig 18446744073709551616 d) (hul : u.length = n + 3) (hdl : d.length = n + 2) (ht : d.getD (n + 1) 0 ≠ 0) (hQ : val 18446744073709551616 u / val 18446744073709551616 d < 18446744073709551616) :
    val 18446744073709551616 u / val 18446744073709551616 d ≤ gs (u.getD (n + 2) 0) (u.getD (n + 1) 0) (u.getD n 0) (d.getD (n + 1) 0) (d.getD n 0) ∧ gs (u.getD (n + 2) 0) (u.getD (n + 1) 0) (u.getD n 0) (d.getD (n + 1) 0) (d.getD n 0) < 18446744073709551616 := by
  have k2 := hu.getD (by omega) (n + 2)
  have k1 := hu.getD (by omega) (n + 1)
  have k0 := hu.getD (by omega) n
  have v1 := val_at (lo := n) (s := u) (by omega)
  have v2 := val_at (lo := n) (s := d) (by omega)
  have w1 := val_lt (by omega : 0 < 18446744073709551616) (hu.take (n := n))
  rw [List.length_take, Nat.min_eq_left (by omega)] at w1
  rw [val_drop 18446744073709551616 (l := u) (by omega), val_drop 18446744073709551616 (l := u) (by omega), val_drop 18446744073709551616 (l := u) (by omega), List.drop_eq_nil_of_le (show u.length ≤ n + 1 + 1 + 1 by omega)] at v1
  rw [show n + 1 + 1 = n + 2 by omega] at v1
  rw [val_drop 18446744073709551616 (l := d) (by omega), val_drop 18446744073709551616 (l := d) (by omega), List.drop_eq_nil_of_le (show d.length ≤ n + 1 + 1 by omega)] at v2
  simp only [val, Nat.mul_zero, Nat.add_zero] at v1 v2
  unfold gs
  generalize u.getD (n + 2) 0 = u2 at *
  generalize u.getD (n + 1) 0 = u1 at *
  generalize u.getD n 0 = u0 at *
  generalize d.getD (n + 1) 0 = t at *
  generalize d.getD n 0 = y at *
  generalize val 18446744073709551616 (u.take n) = lu at *
  generalize val 18446744073709551616 (d.take n) = ld at *
  generalize val 18446744073709551616 u = a at *
  generalize val 18446744073709551616 d = b at *
  split
  · exact ⟨by omega, by omega⟩
  · rename_i hlt
    have hp : 0 < t * 18446744073709551616 + y := by omega
    refine ⟨(Nat.le_div_iff_mul_le hp).2 ?_, Nat.div_lt_of_lt_mul (by omega)⟩
    have h1 := Nat.div_mul_le_self a b
    have hb : 18446744073709551616 ^ n * (t * 18446744073709551616 + y) ≤ b := by rw [v2, show t * 18446744073709551616 + y = y + 18446744073709551616 * t by omega]; exact Nat.le_add_left _ _
    have h2 := Nat.mul_le_mul_left (a / b) hb
    have h3 : a < 18446744073709551616 ^ n * ((u2 * 18446744073709551616 + u1) * 18446744073709551616 + u0 + 1) := by
      rw [v1, show (u2 * 18446744073709551616 + u1) * 18446744073709551616 + u0 + 1 = 1 + (u0 + 18446744073709551616 * (u1 + 18446744073709551616 * u2)) by omega, Nat.mul_add _ 1, Nat.mul_one]
      exact Nat.add_lt_add_right w1 _
    have h4 := Nat.lt_of_le_of_lt (Nat.le_trans h2 h1) h3
    rw [Nat.mul_left_comm] at h4
    exact Nat.le_of_lt_succ (Nat.lt_of_mul_lt_mul_left h4)
theorem blB {a b : Bool} (h : a = b) : (some (.c (.sc (.bool a))) : Option AV) = some (.c (.sc (.bool b))) := by rw [h]
theorem ndiv_ct (a b : Nat) (hb : b ≠ 0) (ha : (dg 18446744073709551616 a).length ≤ 100000) (hbl : (dg 18446744073709551616 b).length ≤ 100000) : Ct P 82 [nV a, nV b] [nV (a / b), nV (a % b), .c (eI .i64 0)] := by
  refine Ct.go T_ok T_mix (N := 128) Tryz.func82 rfl rfl rfl rfl ?_
  refine X1 _ (nzero_ct b (by omega)) ?_
  refine bfalse (by simpa using hb) ?_
  refine X1 _ (ncmp_ct a b (by omega) (by omega)) ?_
  refine dcase (fun h1 => ?_) (fun h1 => ?_)
  · have h : a < b := by unfold cmpI at h1; split at h1 <;> (try split at h1) <;> omega
    rw [Nat.div_eq_of_lt h, Nat.mod_eq_of_lt h]
    refine And.intro rfl ?_
    exact ⟨trivial, ⟨_, rfl, nilNV⟩, rc rfl, r1 rfl, trivial⟩
  · have h : b ≤ a := by unfold cmpI at h1; split at h1 <;> (try split at h1) <;> omega
    have hl0 : (dg 18446744073709551616 b).length ≠ 0 := fun h0 => hb ((dg_nil (B := 18446744073709551616) (by omega)).1 (List.length_eq_zero_iff.1 h0))
    refine And.intro (by rw [nRow_len]; omega) ?_
    rw [nRow_len]
    refine ecase (fun h2 => ?_) (fun h2 => ?_)
    · have hw : (dg 18446744073709551616 b).getD 0 0 = b := by
        have hv := val_dg (B := 18446744073709551616) (by omega) b
        have hll : (dg 18446744073709551616 b).length = 1 := by omega
        generalize dg 18446744073709551616 b = l at *
        match l, hll with
        | [w], _ => rw [← hv]; simp [val]
      have hb2 := (dig_dg (B := 18446744073709551616) (by omega) b).getD (by omega) 0
      refine And.intro (by omega) (X1 _ (nRow_getN (n := 0) rfl (by omega)) ?_)
      rw [hw] at hb2 ⊢
      refine X1 _ (nsmall_ct a b (by omega) hb2 (by omega)) ?_
      refine And.intro rfl ?_
      have hm := Nat.mod_lt a (Nat.pos_of_ne_zero hb)
      refine X1 _ (nof_ct (a % b) (by omega)) ?_
      refine And.intro rfl ?_
      exact ⟨trivial, rc rfl, rc rfl, r1 rfl, trivial⟩
    · have hB := dig_dg (B := 18446744073709551616) (by omega) b
      obtain ⟨lb, hlb⟩ : ∃ lb, (dg 18446744073709551616 b).length = lb + 2 := ⟨(dg 18446744073709551616 b).length - 2, by omega⟩
      refine And.intro (by rw [nRow_len]; omega) ?_
      rw [nRow_len]
      refine X1 ((lb + 1 : Nat) : Int) (wI (by omega) (by omega) (by omega)) ?_
      refine And.intro (by omega) (X1 _ (nRow_getN rfl (by omega)) ?_)
      have htop := hB.getD (by omega) (lb + 1)
      have htl : (dg 18446744073709551616 b).getD (lb + 1) 0 ≠ 0 := dg_top hb hlb
      generalize htq : (dg 18446744073709551616 b).getD (lb + 1) 0 = tp at *
      refine X1 _ (lz64_ct tp htop) ?_
      have hbt := blen_le (n := tp) (k := 64) (by omega)
      obtain ⟨s, hs⟩ : ∃ s, s = 64 - blen tp := ⟨_, rfl⟩
      have hbb := blen_top hb
      rw [hlb, show lb + 2 - 1 = lb + 1 by omega, htq] at hbb
      rw [← hs]
      have hbt0 : blen tp ≠ 0 := fun h => by have := lt_blen tp; rw [h] at this; omega
      refine X1 _ (up_ct b s (by omega) (by omega)) ?_
      obtain ⟨la, hla⟩ : ∃ la, la = (dg 18446744073709551616 a).length := ⟨_, rfl⟩
      refine And.intro (by rw [nRow_len]; omega) ?_
      rw [nRow_len]
      refine X1 ((la + 1 : Nat) : Int) (wI (by omega) (by omega) (by omega)) ?_
      refine ⟨by omega, by omega, by omega, .inl (by decide), ?_⟩
      refine X1 _ (up_ct a s (by omega) (by omega)) ?_
      -- the numbers
      have hps := Nat.two_pow_pos s
      obtain ⟨D, hD⟩ : ∃ D, D = b * 2 ^ s := ⟨_, rfl⟩
      obtain ⟨A2, hA2⟩ : ∃ D, D = a * 2 ^ s := ⟨_, rfl⟩
      have hDl : (dg 18446744073709551616 D).length = lb + 2 := by
        apply Nat.le_antisymm
        · apply dg_len (by omega)
          have h1 := Nat.mul_lt_mul_of_pos_right (lt_blen b) hps
          rw [← Nat.pow_add, hbb, show 64 * (lb + 1) + blen tp + s = 64 * (lb + 2) by omega, ← w_pow, ← hD] at h1
          exact h1
        · rw [← hlb]; exact dg_len_mono (by omega) (by rw [hD]; exact Nat.le_mul_of_pos_right _ hps)
      have hA2l : (dg 18446744073709551616 A2).length ≤ la + 1 := by
        apply dg_len (by omega)
        have h1 := lt_dg_len (B := 18446744073709551616) (by omega) a
        rw [← hla] at h1
        have h2 : 2 ^ s ≤ 18446744073709551616 := by
          have := Nat.pow_le_pow_right (show 0 < 2 by omega) (show s ≤ 64 by omega)
          simpa using this
        rw [hA2, Nat.pow_succ]
        exact Nat.lt_of_lt_of_le (Nat.mul_lt_mul_of_pos_right h1 hps) (Nat.mul_le_mul_left _ h2)
      have hlab : lb + 2 ≤ la := by rw [hla, ← hlb]; exact dg_len_mono (by omega) h
      obtain ⟨m0, hm0⟩ : ∃ m0, la + 1 = m0 + (lb + 2) := ⟨la + 1 - (lb + 2), by omega⟩
      have hbig : a * 2 ^ s < 18446744073709551616 ^ m0 * D := by
        have h1 := lt_dg_len (B := 18446744073709551616) (by omega) a
        have h2 := dg_last (B := 18446744073709551616) (by omega) hb
        rw [← hla, show la = m0 + (lb + 1) by omega, Nat.pow_add] at h1
        rw [hlb, show lb + 2 - 1 = lb + 1 by omega] at h2
        have h3 := Nat.lt_of_lt_of_le h1 (Nat.mul_le_mul_left (18446744073709551616 ^ m0) h2)
        rw [hD, ← Nat.mul_assoc]
        exact Nat.mul_lt_mul_of_pos_right h3 hps
      have hD0 : 0 < D := by rw [hD]; exact Nat.mul_pos (by omega) hps
      rw [← hA2, ← hD]
      refine ⟨(dg 18446744073709551616 A2).length, by rw [nRow_len]; simp; omega, by simp; omega, nRow_closed, ?_⟩
      refine And.intro (by rw [nRow_len]; omega) ?_
      rw [nRow_len]
      refine And.intro (by omega) ?_
      refine X1 ((m0 : Nat) : Int) (wI (by omega) (by omega) (by omega)) ?_
      refine ⟨by omega, by omega, by omega, .inl (by decide), ?_⟩
      refine And.intro (by omega) ?_
      refine X1 ((m0 : Int) - 1) (wI (by omega) (by omega) (by omega)) ?_
      have hDd := dig_dg (B := 18446744073709551616) (by omega) D
      have hDv := val_dg (B := 18446744073709551616) (by omega) D
      have hAd := dig_dg (B := 18446744073709551616) (by omega) A2
      have hAv := val_dg (B := 18446744073709551616) (by omega) A2
      have hU0 : val 18446744073709551616 (dg 18446744073709551616 A2 ++ List.replicate (la + 1 - (dg 18446744073709551616 A2).length) 0) = A2 := by rw [val_app, hAv, val_rep, Nat.mul_zero, Nat.add_zero]
      have hU1 : (dg 18446744073709551616 A2 ++ List.replicate (la + 1 - (dg 18446744073709551616 A2).length) 0).length = la + 1 := by simp; omega
      have hU2 : Dig 18446744073709551616 (dg 18446744073709551616 A2 ++ List.replicate (la + 1 - (dg 18446744073709551616 A2).length) 0) := hAd.app fun x hx => by rw [List.eq_of_mem_replicate hx]; omega
      have hU3 : val 18446744073709551616 ((dg 18446744073709551616 A2 ++ List.replicate (la + 1 - (dg 18446744073709551616 A2).length) 0).drop m0) < D := by
        have h1 := val_at (lo := m0) (s := dg 18446744073709551616 A2 ++ List.replicate (la + 1 - (dg 18446744073709551616 A2).length) 0) (by omega)
        rw [hU0] at h1
        rw [← hA2] at hbig
        exact Nat.lt_of_mul_lt_mul_left (Nat.lt_of_le_of_lt (Nat.le_trans (Nat.le_add_left _ _) (Nat.le_of_eq h1.symm)) hbig)
      obtain ⟨dl, hdl⟩ : ∃ dl, dl = dg 18446744073709551616 D := ⟨_, rfl⟩
      rw [← hdl] at hDl hDd hDv ⊢
      refine loopW T_ok T_mix (G := Nat × List Nat × List Nat) (fun (m, u, q) => m ≤ m0 ∧ u.length = la + 1 ∧ Dig 18446744073709551616 u ∧ q.length = m0 ∧ Dig 18446744073709551616 q ∧ val 18446744073709551616 (u.drop m) < D ∧ A2 = D * (18446744073709551616 ^ m * val 18446744073709551616 (q.drop m)) + val 18446744073709551616 u)
        (fun (m, u, q) => [(4, .c (.ad 4 0)), (5, .c (.ad 5 0)), (9, .c (nI .i64 s)), (10, .c (nSl .u64 dl)), (11, .c (.ow 64 1 (la + 1))), (12, .c (nI .i64 (lb + 2 : Nat))), (13, .c (.ow 77 1 m0)), (14, .c (eI .i64 ((m : Int) - 1)))])
        (fun ((m, u, q) : Nat × List Nat × List Nat) => [(4, .var [.sc (.slice none 0 0)]), (5, .var [.sc (.slice none 0 0)]), (64, .row 1 (nRow .u64 u)), (77, .row 1 (nRow .u64 q))]) (fun (m, _, _) => m)
        (m0, dg 18446744073709551616 A2 ++ List.replicate (la + 1 - (dg 18446744073709551616 A2).length) 0, List.replicate m0 0) ⟨by simp, hU1, hU2, by simp, fun x hx => by rw [List.eq_of_mem_replicate hx]; omega, hU3, by simp [hU0, val]⟩
        ⟨rfl, rfl, rfl, (by rw [hdl]; rfl), owE (by omega), iE (by rw [hDl]), owE (by omega), rfl, trivial⟩ ⟨rfl, rfl, rowE (by rw [List.take_zero, List.nil_append, List.take_of_length_le (by rw [nRow_len]; exact Nat.le_refl _), Nat.zero_add, List.drop_replicate]; show _ ++ List.replicate _ [eI .u64 0] = _; simp [nRow]), rowE (rep_row rfl), trivial⟩
        (fun (u, q) => u.length = la + 1 ∧ Dig 18446744073709551616 u ∧ q.length = m0 ∧ Dig 18446744073709551616 q ∧ val 18446744073709551616 q = a / b ∧ val 18446744073709551616 u = a % b * 2 ^ s) (fun _ => [(4, .c (.ad 4 0)), (5, .c (.ad 5 0)), (9, .c (nI .i64 s)), (11, .c (.ow 64 1 (la + 1))), (12, .c (nI .i64 (lb + 2 : Nat))), (13, .c (.ow 77 1 m0))])
        (fun ((u, q) : List Nat × List Nat) => [(4, .var [.sc (.slice none 0 0)]), (5, .var [.sc (.slice none 0 0)]), (64, .row 1 (nRow .u64 u)), (77, .row 1 (nRow .u64 q))]) (fun (m, u, q) hg => ?_) (fun (u, q) hl => ?_)
      · obtain ⟨i1, i2, i3, i4, i5, i6, i7⟩ := hg
        refine dcase (fun h5 => ?_) (fun h5 => ?_)
        · obtain ⟨i, rfl⟩ : ∃ i, m = i + 1 := ⟨m - 1, by omega⟩
          have hui := i3.getD (by omega) i
          have hV := val_drop 18446744073709551616 (l := u) (i := i) (by omega)
          have hDp : D < 18446744073709551616 ^ (lb + 2) := by
            have := lt_dg_len (B := 18446744073709551616) (by omega) D
            rw [← hdl, hDl] at this; exact this
          have hVl : val 18446744073709551616 (u.drop i) < 18446744073709551616 * D := by
            have := Nat.mul_le_mul_left 18446744073709551616 (Nat.succ_le_of_lt i6)
            rw [Nat.mul_succ] at this
            omega
          have hVl2 : val 18446744073709551616 (u.drop i) < 18446744073709551616 ^ (lb + 3) := by
            rw [Nat.pow_succ, Nat.mul_comm]
            exact Nat.lt_trans hVl (Nat.mul_lt_mul_of_pos_left hDp (by omega))
          have hz : val 18446744073709551616 (u.drop (i + (lb + 3))) = 0 := by
            have h1 := val_take 18446744073709551616 (u.drop i) (lb + 3)
            rw [List.drop_drop, List.length_drop, Nat.min_eq_left (by omega)] at h1
            apply Classical.byContradiction
            intro h0
            have := Nat.mul_le_mul_left (18446744073709551616 ^ (lb + 3)) (Nat.pos_of_ne_zero h0)
            rw [Nat.mul_one] at this
            omega
          have hVt : val 18446744073709551616 ((u.drop i).take (lb + 3)) = val 18446744073709551616 (u.drop i) := by
            have h1 := val_take 18446744073709551616 (u.drop i) (lb + 3)
            rw [List.drop_drop, hz, Nat.mul_zero, Nat.add_zero] at h1
            exact h1.symm
          have hQ : val 18446744073709551616 (u.drop i) / D < 18446744073709551616 := Nat.div_lt_of_lt_mul (by rw [Nat.mul_comm]; exact hVl)
          have htl2 := dg_top (n := D) (by omega) (k := lb + 1) (by rw [← hdl, hDl])
          rw [← hdl] at htl2
          obtain ⟨gq1, gq2⟩ := gs_ge (n := lb) (u := (u.drop i).take (lb + 3)) (d := dl) (i3.drop.take) hDd (by rw [List.length_take, List.length_drop]; omega) hDl htl2 (by rw [hVt, hDv]; exact hQ)
          rw [hVt, hDv] at gq1
          have kt := hDd.getD (by omega) (lb + 1)
          have kn := hDd.getD (by omega) lb
          have hg := guess_ct ((u.drop i).take (lb + 3)) (dl.getD (lb + 1) 0) (dl.getD lb 0) lb i3.drop.take (by rw [List.length_take, List.length_drop]; omega) (by rw [List.length_take, List.length_drop]; omega) (by omega) kt kn
          generalize gs (((u.drop i).take (lb + 3)).getD (lb + 2) 0) (((u.drop i).take (lb + 3)).getD (lb + 1) 0) (((u.drop i).take (lb + 3)).getD lb 0) (dl.getD (lb + 1) 0) (dl.getD lb 0) = x0 at *
          generalize hQe : val 18446744073709551616 (u.drop i) / D = Q at *
          have hdm := Nat.div_add_mod (val 18446744073709551616 (u.drop i)) D
          rw [hQe] at hdm
          have hml := Nat.mod_lt (val 18446744073709551616 (u.drop i)) hD0
          obtain ⟨V, hVe⟩ : ∃ V, V = val 18446744073709551616 (u.drop i) := ⟨_, rfl⟩
          rw [← hVe] at hdm hml hVl2
          refine X1 ((i + (lb + 2) : Nat) : Int) (wI (by omega) (by omega) (by omega)) ?_
          refine X1 ((i + (lb + 3) : Nat) : Int) (wI (by omega) (by omega) (by omega)) ?_
          refine .inl ⟨i, i + (lb + 3), by simp, by simp, by omega, by omega, .inr ⟨by omega, ?_⟩⟩
          rw [Nat.add_sub_cancel_left]
          refine X1 ((lb + 1 : Nat) : Int) (wI (by omega) (by omega) (by omega)) ?_
          refine And.intro (by omega) (X1 _ (nRow_getN rfl (by omega)) ?_)
          refine X1 ((lb : Nat) : Int) (wI (by omega) (by omega) (by omega)) ?_
          refine And.intro (by omega) (X1 _ (nRow_getN rfl (by omega)) ?_)
          have hg2 : Ct P 124 [A1.c (.sl 1 (((nRow .u64 u).drop i).take (lb + 3))), .c (nI .u64 (dl.getD (lb + 1) 0)), .c (nI .u64 (dl.getD lb 0))] [.c (nI .u64 x0)] := by rw [nRow_sub]; exact hg
          refine X2 .look (X1 _ hg2 ?_)
          refine And.intro rfl ?_
          refine X2 (.upd 64) ?_
          refine ⟨_, _, subMul_ct u dl x0 i (lb + 3) i3 hDd gq2 (by omega) (by omega) (by omega), ?_⟩
          have hz' : val 18446744073709551616 (u.drop (i + (dl.length + 1))) = 0 := by rw [hDl]; exact hz
          obtain ⟨s1, s2, s3, s4, s5⟩ := sub_law (x := x0) i3 hDd gq2 (by omega) hz'
          have s6 := sm_take (t := u) (d := dl) (x := x0) (lo := i) (dl.length + 1)
          have s7 := sm_drop (t := u) (d := dl) (x := x0) (lo := i) (dl.length + 1)
          rw [← s7] at hz'
          generalize (sm u dl x0 i (dl.length + 1)).s = u1 at *
          generalize (sm u dl x0 i (dl.length + 1)).b = b1 at *
          rw [hDv, hDl, ← hVe] at s4
          rw [hDl] at s5 hz'
          refine loopJ T_ok T_mix (G := List Nat × Nat × Nat) (fun (w, x, o) => w.length = la + 1 ∧ Dig 18446744073709551616 w ∧ w.take i = u.take i ∧ val 18446744073709551616 (w.drop (i + (lb + 3))) = 0 ∧ o ≤ 1 ∧ val 18446744073709551616 (w.drop i) + x * D = V + 18446744073709551616 ^ (lb + 3) * o ∧ val 18446744073709551616 (w.drop i) < 18446744073709551616 ^ (lb + 3) ∧ Q ≤ x ∧ x < 18446744073709551616)
            (fun (w, x, o) => [(4, .c (.ad 4 0)), (5, .c (.ad 5 0)), (9, .c (nI .i64 s)), (10, .c (nSl .u64 dl)), (11, .c (.ow 64 1 (la + 1))), (12, .c (nI .i64 (lb + 2 : Nat))), (13, .c (.ow 77 1 m0)), (14, .c (nI .i64 i)), (15, .c (.os 64 1 i (lb + 3))), (16, .c (nI .u64 x)), (17, .c (.sc (.bool (decide ((o : Int) > 0)))))])
            (fun ((w, x, o) : List Nat × Nat × Nat) => [(4, .var [.sc (.slice none 0 0)]), (5, .var [.sc (.slice none 0 0)]), (64, .row 1 (nRow .u64 w)), (77, .row 1 (nRow .u64 q))]) (fun (_, x, _) => x)
            (u1, x0, b1) ⟨by omega, s2, s6, hz', s3, s4, s5, gq1, gq2⟩ ⟨rfl, rfl, rfl, rfl, rfl, rfl, rfl, iE (by omega), rfl, rfl, rfl, trivial⟩ ⟨rfl, rfl, rfl, rfl, trivial⟩
            (fun w => w.length = la + 1 ∧ Dig 18446744073709551616 w ∧ w.take i = u.take i ∧ val 18446744073709551616 (w.drop i) = V % D)
            (fun _ => [(4, .c (.ad 4 0)), (5, .c (.ad 5 0)), (9, .c (nI .i64 s)), (10, .c (nSl .u64 dl)), (11, .c (.ow 64 1 (la + 1))), (12, .c (nI .i64 (lb + 2 : Nat))), (13, .c (.ow 77 1 m0)), (14, .c (nI .i64 i)), (16, .c (nI .u64 Q))])
            (fun w => [(4, .var [.sc (.slice none 0 0)]), (5, .var [.sc (.slice none 0 0)]), (64, .row 1 (nRow .u64 w)), (77, .row 1 (nRow .u64 q))]) (fun (w, x, o) hi => ?_) (fun w hw => ?_)
          · obtain ⟨j1, j2, j3, j4, j5, j6, j7, j8, j9⟩ := hi
            refine dcase (fun h6 => ?_) (fun h6 => ?_)
            · have ho : o = 1 := by omega
              subst ho
              rw [Nat.mul_one] at j6
              have hgt : Q < x := by
                apply Nat.lt_of_not_le
                intro hle
                have := Nat.mul_le_mul_right D hle
                rw [Nat.mul_comm Q] at this
                omega
              refine X2 (.upd 64) ?_
              refine ⟨_, _, addBack_ct w dl i (lb + 3) j2 hDd (by omega) (by omega) (by omega), ?_⟩
              have jz : val 18446744073709551616 (w.drop (i + (dl.length + 1))) = 0 := by rw [hDl]; exact j4
              obtain ⟨r1', r2, r3, r4, r5⟩ := add_law j2 hDd (by omega) jz
              have r6 := am_take (t := w) (d := dl) (x := 1) (lo := i) (dl.length + 1)
              have r7 := am_drop (t := w) (d := dl) (x := 1) (lo := i) (dl.length + 1)
              rw [← r7] at jz
              generalize (am w dl 1 i (dl.length + 1)).1 = w1 at *
              generalize (am w dl 1 i (dl.length + 1)).2 = c1 at *
              rw [hDv, hDl] at r4
              rw [hDl] at r5 jz
              obtain ⟨p, rfl⟩ : ∃ p, x = p + 1 := ⟨x - 1, by omega⟩
              rw [Nat.add_mul, Nat.one_mul] at j6
              rw [show lb + 2 + 1 = lb + 3 from rfl] at r4
              have heq : val 18446744073709551616 (w1.drop i) + p * D = V + 18446744073709551616 ^ (lb + 3) * (1 - c1) := by
                have hc : c1 = 0 ∨ c1 = 1 := by omega
                rcases hc with rfl | rfl
                · rw [Nat.mul_zero, Nat.add_zero] at r4
                  rw [Nat.mul_one]
                  omega
                · rw [Nat.mul_one] at r4
                  rw [Nat.mul_zero]
                  omega
              refine X1 ((p : Nat) : Int) (wU (by omega) (by omega) (by omega)) ?_
              exact ⟨(w1, p, 1 - c1), ⟨by omega, r2, r6.trans j3, jz, by omega, heq, r5, by omega, by omega⟩, by show p < p + 1; omega, ⟨rfl, rfl, rfl, rfl, rfl, rfl, rfl, rfl, rfl, rfl, blB (by have hc : c1 = 0 ∨ c1 = 1 := by omega
                                                                                                                                                                                                   rcases hc with rfl | rfl <;> rfl), trivial⟩, ⟨rfl, rfl, rfl, rfl, trivial⟩⟩
            · have ho : o = 0 := by omega
              subst ho
              rw [Nat.mul_zero, Nat.add_zero] at j6
              have hle : x ≤ Q := by
                rw [← hQe, ← hVe]
                exact (Nat.le_div_iff_mul_le hD0).2 (by omega)
              have hxe : x = Q := by omega
              subst hxe
              refine ⟨w, ⟨j1, j2, j3, by rw [Nat.mul_comm] at hdm; omega⟩, ⟨rfl, rfl, rfl, rfl, rfl, rfl, rfl, rfl, rfl, trivial⟩, ⟨rfl, rfl, rfl, rfl, trivial⟩⟩
          · obtain ⟨j1, j2, j3, j4⟩ := hw
            refine And.intro (by omega) (And.intro (by omega) ?_)
            refine X1 _ (nRow_getN rfl (by omega)) ?_
            refine X1 ((i : Int) - 1) (wI (by omega) (by omega) (by omega)) ?_
            refine ⟨(i, w, q.set i Q), ⟨by omega, j1, j2, by simp [i4], i5.set hQ, by rw [j4]; exact hml, ?_⟩, by show i < i + 1; omega, ⟨rfl, rfl, rfl, rfl, rfl, rfl, rfl, rfl, trivial⟩, ⟨rfl, rfl, rfl, rowE (by rw [← nRow_set]; rfl), trivial⟩⟩
            have k1 := val_at (lo := i) (s := w) (by omega)
            have k2 := val_at (lo := i) (s := u) (by omega)
            rw [j3, j4] at k1
            rw [← hVe] at k2
            have k3 := congrArg (18446744073709551616 ^ i * ·) hdm
            simp only [Nat.mul_add] at k3
            rw [val_drop_set _ (by omega), i7, k1, k2, Nat.pow_succ, Nat.mul_add, Nat.mul_add D, Nat.mul_assoc, Nat.mul_left_comm D (18446744073709551616 ^ i) Q, ← k3]
            omega
        · have e : m = 0 := by omega
          subst e
          rw [Nat.pow_zero, Nat.one_mul, List.drop_zero] at i7
          rw [List.drop_zero] at i6
          obtain ⟨e1, e2⟩ := dm_uniq i7 i6
          rw [hA2, hD] at e1 e2
          rw [Nat.mul_div_mul_right _ _ hps] at e1
          rw [Nat.mul_mod_mul_right] at e2
          exact ⟨(u, q), ⟨i2, i3, i4, i5, e1, e2⟩, ⟨rfl, rfl, rfl, rfl, rfl, rfl, trivial⟩, ⟨rfl, rfl, rfl, rfl, trivial⟩⟩
      · obtain ⟨i2, i3, i4, i5, e1, e2⟩ := hl
        refine frzC T_ok T_mix [64, 77] ?_
        have hDp : D < 18446744073709551616 ^ (lb + 2) := by
          have := lt_dg_len (B := 18446744073709551616) (by omega) D
          rw [← hdl, hDl] at this; exact this
        have hml : a % b * 2 ^ s < D := by rw [hD]; exact Nat.mul_lt_mul_of_pos_right (Nat.mod_lt _ (by omega)) hps
        have hut : val 18446744073709551616 (u.take (lb + 2)) = a % b * 2 ^ s := by
          have h1 := val_at (lo := lb + 2) (s := u) (by omega)
          have h0 : val 18446744073709551616 (u.drop (lb + 2)) = 0 := by
            apply Classical.byContradiction
            intro h0
            have := Nat.mul_le_mul_left (18446744073709551616 ^ (lb + 2)) (Nat.pos_of_ne_zero h0)
            rw [Nat.mul_one] at this
            omega
          rw [h0, Nat.mul_zero, Nat.add_zero, e2] at h1
          exact h1.symm
        refine X1 _ (ntrim_ct q (by omega)) ?_
        rw [trim_dg (by omega) i5, e1]
        refine ⟨0, lb + 2, by simp, by simp, by omega, by rw [nRow_len]; omega, ?_⟩
        rw [nRow_sub, List.drop_zero, Nat.sub_zero]
        refine X1 _ (cloneU_ct (u.take (lb + 2)) (by rw [List.length_take]; omega)) ?_
        refine X1 _ (ntrim_ct (u.take (lb + 2)) (by rw [List.length_take]; omega)) ?_
        rw [trim_dg (by omega) i3.take, hut]
        have hll : (dg 18446744073709551616 (a % b * 2 ^ s)).length ≤ 1000000 := by
          have := dg_len_mono (B := 18446744073709551616) (by omega) (Nat.le_of_lt hml)
          rw [← hdl, hDl] at this
          omega
        have hd := down_ct (a % b * 2 ^ s) s hll (by omega)
        rw [Nat.mul_div_cancel _ hps] at hd
        refine X1 _ hd ?_
        refine And.intro rfl ?_
        exact ⟨trivial, rc rfl, rc rfl, r1 rfl, trivial⟩
end Go.Proofs.YtpmchgndnhgncaaGreat.Pv
namespace Go.Proofs.YtpmchgndnhgncaaGreat.Pv
open Go
theorem ngcd_ct (a b : Nat) (ha : (dg 18446744073709551616 a).length ≤ 100000) (hb : (dg 18446744073709551616 b).length ≤ 100000) : Ct P 81 [nV a, nV b] [nV (Nat.gcd a b)] := by
  refine Ct.go T_ok T_mix (N := 21) Tryz.func81 rfl rfl rfl rfl ?_
  refine loopJ T_ok T_mix (G := Nat × Nat) (fun (x, y) => Nat.gcd x y = Nat.gcd a b ∧ (dg 18446744073709551616 x).length ≤ 100000 ∧ (dg 18446744073709551616 y).length ≤ 100000) (fun _ => [(2, .c (.ad 2 0)), (3, .c (.ad 3 0)), (4, .c (.ad 4 0))])
    (fun (x, y) => [(2, .var [nSl .u64 (dg 18446744073709551616 x)]), (3, .var [nSl .u64 (dg 18446744073709551616 y)]), (4, .var [.sc (.slice none 0 0)])]) (fun (x, y) => y)
    (a, b) ⟨rfl, ha, hb⟩ ⟨rfl, rfl, rfl, trivial⟩ ⟨rfl, rfl, rfl, trivial⟩ (fun _ : Unit => True) (fun _ => [(2, .c (.ad 2 0)), (4, .c (.ad 4 0))]) (fun _ => [(2, .var [nSl .u64 (dg 18446744073709551616 (Nat.gcd a b))]), (4, .var [.sc (.slice none 0 0)])]) (fun (x, y) hg => ?_) (fun _ _ => ?_)
  · obtain ⟨h1, h2, h3⟩ := hg
    refine X1 _ (nzero_ct y (by omega)) ?_
    refine bcase (fun h => ?_) (fun h => ?_)
    · have hy : y ≠ 0 := by simpa using h
      refine X1 _ (ndiv_ct x y hy h2 h3) ?_
      refine And.intro rfl ?_
      have hlt := Nat.mod_lt x (show 0 < y by omega)
      exact ⟨(y, x % y), ⟨by rw [← h1, Nat.gcd_comm x y, Nat.gcd_rec y x, Nat.gcd_comm], h3, Nat.le_trans (dg_len_mono (by omega) (by omega)) h3⟩, hlt, ⟨rfl, rfl, rfl, trivial⟩, ⟨rfl, rfl, rfl, trivial⟩⟩
    · have hy : y = 0 := by simpa using h
      subst hy
      rw [Nat.gcd_zero_right] at h1
      subst h1
      exact ⟨(), trivial, ⟨rfl, rfl, trivial⟩, ⟨rfl, rfl, trivial⟩⟩
  · exact ⟨trivial, rc rfl, trivial⟩
theorem qone_ct : Ct P 37 [] [nV 1] := by
  refine Ct.go T_ok T_mix (N := 2) Tryz.func37 rfl rfl rfl rfl ?_
  refine X1 _ (nof_ct 1 (by omega)) ?_
  exact ⟨trivial, rc rfl, trivial⟩
abbrev qV (n d : Nat) : A1 := .ag [nSl .u64 (dg 18446744073709551616 n), nSl .u64 (dg 18446744073709551616 d)]
theorem qint_ct (v : Nat) (hv : v < 18446744073709551616) : Ct P 10 [.c (nI .u64 v)] [qV v 1] := by
  refine Ct.go T_ok T_mix (N := 7) Tryz.func10 rfl rfl rfl rfl ?_
  refine X1 _ (nof_ct v hv) ?_
  refine X1 _ qone_ct ?_
  exact ⟨trivial, rc rfl, trivial⟩
theorem qnum_ct (n d : Nat) : Ct P 40 [qV n d] [nV n] := by
  refine Ct.go T_ok T_mix (N := 5) Tryz.func40 rfl rfl rfl rfl ?_
  exact ⟨trivial, rc rfl, trivial⟩
def dn (d : Nat) : Nat := if d = 0 then 1 else d
theorem dn_pos (d : Nat) : dn d ≠ 0 := by unfold dn; split <;> omega
theorem dn_ne {d : Nat} (h : d ≠ 0) : dn d = d := if_neg h
theorem dn_len {d k : Nat} (hk : 1 ≤ k) (h : (dg 18446744073709551616 d).length ≤ k) : (dg 18446744073709551616 (dn d)).length ≤ k := by
  unfold dn
  split
  · exact Nat.le_trans (dg_len (k := 1) (by omega) (by decide)) hk
  · exact h
theorem qden_ct (n d : Nat) (hl : (dg 18446744073709551616 d).length ≤ 1000000) : Ct P 41 [qV n d] [nV (dn d)] := by
  refine Ct.go T_ok T_mix (N := 9) Tryz.func41 rfl rfl rfl rfl ?_
  refine X1 _ (nzero_ct d hl) ?_
  refine bcase (fun h => ?_) (fun h => ?_)
  · have h0 : d = 0 := by simpa using h
    subst h0
    refine X1 _ qone_ct ?_
    exact ⟨trivial, rc rfl, trivial⟩
  · rw [dn_ne (by simpa using h)]
    exact ⟨trivial, rc rfl, trivial⟩
theorem qzero_ct (n d : Nat) (hl : (dg 18446744073709551616 n).length ≤ 1000000) : Ct P 16 [qV n d] [.c (.sc (.bool (n == 0)))] := by
  refine Ct.go T_ok T_mix (N := 6) Tryz.func16 rfl rfl rfl rfl ?_
  refine X1 _ (nzero_ct n hl) ?_
  exact ⟨trivial, r1 rfl, trivial⟩
abbrev qR (n d : Nat) : A1 := qV (n / Nat.gcd n d) (d / Nat.gcd n d)
theorem qmade_ct (n d : Nat) (hd : d ≠ 0) (hn : (dg 18446744073709551616 n).length ≤ 100000) (hl : (dg 18446744073709551616 d).length ≤ 100000) : Ct P 42 [nV n, nV d] [qR n d] := by
  have hg : Nat.gcd n d ≠ 0 := fun h => hd (Nat.gcd_eq_zero_iff.1 h).2
  have hgl : (dg 18446744073709551616 (Nat.gcd n d)).length ≤ 100000 := Nat.le_trans (dg_len_mono (by omega) (Nat.gcd_le_right n (by omega))) hl
  have h1l : (dg 18446744073709551616 1).length ≤ 1000000 := by have := dg_len_mono (B := 18446744073709551616) (by omega) (show 1 ≤ d by omega); omega
  refine Ct.go T_ok T_mix (N := 34) Tryz.func42 rfl rfl rfl rfl ?_
  refine X1 _ (nzero_ct n (by omega)) ?_
  refine bcase (fun h => ?_) (fun h => ?_)
  · have h0 : n = 0 := by simpa using h
    subst h0
    unfold qR qV
    rw [Nat.gcd_zero_left, Nat.zero_div, Nat.div_self (by omega), dg_zero]
    refine X1 _ qone_ct ?_
    exact ⟨trivial, ⟨_, rfl, .inr ⟨rfl, 1, rfl⟩, .inl rfl, trivial⟩, trivial⟩
  · refine X1 _ (ngcd_ct n d hn hl) ?_
    refine X1 _ qone_ct ?_
    refine X1 _ (ncmp_ct _ 1 (by omega) h1l) ?_
    refine And.intro rfl ?_
    refine dcase (fun h2 => ?_) (fun h2 => ?_)
    · refine X1 _ (ndiv_ct n _ hg hn hgl) ?_
      refine X1 _ (ndiv_ct d _ hg hl hgl) ?_
      exact ⟨trivial, rc rfl, trivial⟩
    · have h3 : Nat.gcd n d = 1 := by
        unfold cmpI at h2
        split at h2
        · omega
        · split at h2 <;> omega
      unfold qR
      rw [h3, Nat.div_one, Nat.div_one]
      exact ⟨trivial, rc rfl, trivial⟩
theorem nmul_len {a b k m : Nat} (ha : (dg 18446744073709551616 a).length ≤ k) (hb : (dg 18446744073709551616 b).length ≤ m) : (dg 18446744073709551616 (a * b)).length ≤ k + m := by
  apply dg_len (by omega)
  have h1 := lt_dg_len (B := 18446744073709551616) (by omega) a
  have h2 := lt_dg_len (B := 18446744073709551616) (by omega) b
  have h3 : a * b < 18446744073709551616 ^ (dg 18446744073709551616 a).length * 18446744073709551616 ^ (dg 18446744073709551616 b).length := Nat.mul_lt_mul'' h1 h2
  rw [← Nat.pow_add] at h3
  exact Nat.lt_of_lt_of_le h3 (Nat.pow_le_pow_right (by omega) (by omega))
structure LimQ (n d : Nat) : Prop where
  n : (dg 18446744073709551616 n).length ≤ 40000
  d : (dg 18446744073709551616 d).length ≤ 40000
theorem qcmp_ct (a b c d : Nat) (h1 : LimQ a b) (h2 : LimQ c d) : Ct P 22 [qV a b, qV c d] [.c (eI .i64 (cmpI (a * dn d : Nat) (c * dn b : Nat)))] := by
  obtain ⟨n1, k1⟩ := h1
  obtain ⟨n2, k2⟩ := h2
  have l1 := dn_len (by omega) k1
  have l2 := dn_len (by omega) k2
  have p1 := dn_pos b
  have p2 := dn_pos d
  refine Ct.go T_ok T_mix (N := 16) Tryz.func22 rfl rfl rfl rfl ?_
  refine X1 _ (qnum_ct a b) (X1 _ (qden_ct c d (by omega)) (X1 _ (nmul_ct a (dn d) (by omega) (by omega)) ?_))
  refine X1 _ (qnum_ct c d) (X1 _ (qden_ct a b (by omega)) (X1 _ (nmul_ct c (dn b) (by omega) (by omega)) ?_))
  refine X1 _ (ncmp_ct _ _ (Nat.le_trans (nmul_len n1 l2) (by omega)) (Nat.le_trans (nmul_len n2 l1) (by omega))) ?_
  refine And.intro rfl ?_
  exact ⟨trivial, r1 rfl, trivial⟩
theorem qmul_ct (a b c d : Nat) (h1 : LimQ a b) (h2 : LimQ c d) : Ct P 24 [qV a b, qV c d] [qR (a * c) (dn b * dn d)] := by
  obtain ⟨n1, k1⟩ := h1
  obtain ⟨n2, k2⟩ := h2
  have l1 := dn_len (by omega) k1
  have l2 := dn_len (by omega) k2
  have p1 := dn_pos b
  have p2 := dn_pos d
  refine Ct.go T_ok T_mix (N := 16) Tryz.func24 rfl rfl rfl rfl ?_
  refine X1 _ (qnum_ct a b) (X1 _ (qnum_ct c d) (X1 _ (nmul_ct a c (by omega) (by omega)) ?_))
  refine X1 _ (qden_ct a b (by omega)) (X1 _ (qden_ct c d (by omega)) (X1 _ (nmul_ct (dn b) (dn d) (by omega) (by omega)) ?_))
  refine X1 _ (qmade_ct _ _ (Nat.mul_ne_zero p1 p2) (Nat.le_trans (nmul_len n1 n2) (by omega)) (Nat.le_trans (nmul_len l1 l2) (by omega))) ?_
  refine And.intro rfl ?_
  exact ⟨trivial, rc rfl, trivial⟩
theorem qdiv_ct (a b c d : Nat) (h1 : LimQ a b) (h2 : LimQ c d) (hc : c ≠ 0) : Ct P 83 [qV a b, qV c d] [qR (a * dn d) (dn b * c), .c (eI .i64 0)] := by
  obtain ⟨n1, k1⟩ := h1
  obtain ⟨n2, k2⟩ := h2
  have l1 := dn_len (by omega) k1
  have l2 := dn_len (by omega) k2
  have p1 := dn_pos b
  have p2 := dn_pos d
  refine Ct.go T_ok T_mix (N := 20) Tryz.func83 rfl rfl rfl rfl ?_
  refine X1 _ (qzero_ct c d (by omega)) ?_
  refine bfalse (by simpa using hc) ?_
  refine X1 _ (qnum_ct a b) (X1 _ (qden_ct c d (by omega)) (X1 _ (nmul_ct a (dn d) (by omega) (by omega)) ?_))
  refine X1 _ (qden_ct a b (by omega)) (X1 _ (qnum_ct c d) (X1 _ (nmul_ct (dn b) c (by omega) (by omega)) ?_))
  refine X1 _ (qmade_ct _ _ (Nat.mul_ne_zero p1 hc) (Nat.le_trans (nmul_len n1 l2) (by omega)) (Nat.le_trans (nmul_len l1 n2) (by omega))) ?_
  refine And.intro rfl ?_
  exact ⟨trivial, rc rfl, r1 rfl, trivial⟩
theorem qless_ct (a b c d : Nat) (h1 : LimQ a b) (h2 : LimQ c d) (hle : c * dn b ≤ a * dn d) : Ct P 46 [qV a b, qV c d] [qR (a * dn d - c * dn b) (dn b * dn d)] := by
  obtain ⟨n1, k1⟩ := h1
  obtain ⟨n2, k2⟩ := h2
  have l1 := dn_len (by omega) k1
  have l2 := dn_len (by omega) k2
  have p1 := dn_pos b
  have p2 := dn_pos d
  refine Ct.go T_ok T_mix (N := 31) Tryz.func46 rfl rfl rfl rfl ?_
  refine X1 _ (qnum_ct a b) (X1 _ (qden_ct c d (by omega)) (X1 _ (nmul_ct a (dn d) (by omega) (by omega)) ?_))
  refine X1 _ (qnum_ct c d) (X1 _ (qden_ct a b (by omega)) (X1 _ (nmul_ct c (dn b) (by omega) (by omega)) ?_))
  have hl := nmul_len n1 l2
  refine X1 _ (nsub_ct _ _ hle (by omega)) ?_
  refine And.intro rfl ?_
  refine X1 _ (qden_ct a b (by omega)) (X1 _ (qden_ct c d (by omega)) (X1 _ (nmul_ct (dn b) (dn d) (by omega) (by omega)) ?_))
  have hl3 := dg_len_mono (B := 18446744073709551616) (by omega) (Nat.sub_le (a * dn d) (c * dn b))
  refine X1 _ (qmade_ct _ _ (Nat.mul_ne_zero p1 p2) (by omega) (Nat.le_trans (nmul_len l1 l2) (by omega))) ?_
  refine And.intro rfl ?_
  exact ⟨trivial, rc rfl, trivial⟩
def qAdd (o x : Nat × Nat) : Nat × Nat := ((o.1 * dn x.2 + x.1 * dn o.2) / Nat.gcd (o.1 * dn x.2 + x.1 * dn o.2) (dn o.2 * dn x.2), dn o.2 * dn x.2 / Nat.gcd (o.1 * dn x.2 + x.1 * dn o.2) (dn o.2 * dn x.2))
def qRow (l : List (Nat × Nat)) : List (List PC) := l.map fun x => [nSl .u64 (dg 18446744073709551616 x.1), nSl .u64 (dg 18446744073709551616 x.2)]
theorem qRow_len {l : List (Nat × Nat)} : (qRow l).length = l.length := by simp [qRow]
theorem qRow_get {l : List (Nat × Nat)} {i : Int} {n : Nat} (h0 : i = n) (h : n < l.length) : (qRow l)[i.toNat]? = some [nSl .u64 (dg 18446744073709551616 l[n].1), nSl .u64 (dg 18446744073709551616 l[n].2)] := by
  subst h0
  simp [qRow, h]
theorem qadd_ct (l : List (Nat × Nat)) (hl : l.length ≤ 1000000) (h1 : ∀ (i : Nat) (h : i < l.length), LimQ l[i].1 l[i].2) (h2 : ∀ i, i ≤ l.length → LimQ ((l.take i).foldl qAdd (0, 1)).1 ((l.take i).foldl qAdd (0, 1)).2) :
    Ct P 11 [.c (.sl 2 (qRow l))] [qV (l.foldl qAdd (0, 1)).1 (l.foldl qAdd (0, 1)).2] := by
  refine Ct.go T_ok T_mix (N := 34) Tryz.func11 rfl rfl rfl rfl ?_
  refine X1 _ (qint_ct 0 (by omega)) ?_
  refine And.intro (by rw [qRow_len]; omega) ?_
  rw [qRow_len]
  refine loopJ T_ok T_mix (fun i : Nat => i ≤ l.length) (fun i => [(2, .c (.ad 2 0)), (3, .c (.ad 3 0)), (8, .c (.sl 2 (qRow l))), (9, .c (nI .i64 l.length)), (10, .c (nI .i64 i))])
    (fun i => [(2, .var [.sc (.slice none 0 0), .sc (.slice none 0 0)]), (3, .var [nSl .u64 (dg 18446744073709551616 ((l.take i).foldl qAdd (0, 1)).1), nSl .u64 (dg 18446744073709551616 ((l.take i).foldl qAdd (0, 1)).2)])]) (fun i => l.length - i)
    0 (by omega) ⟨rfl, rfl, rfl, rfl, rfl, trivial⟩ ⟨rfl, rfl, trivial⟩ (fun _ : Unit => True) (fun _ => [(2, .c (.ad 2 0)), (3, .c (.ad 3 0))])
    (fun _ => [(2, .var [.sc (.slice none 0 0), .sc (.slice none 0 0)]), (3, .var [nSl .u64 (dg 18446744073709551616 (l.foldl qAdd (0, 1)).1), nSl .u64 (dg 18446744073709551616 (l.foldl qAdd (0, 1)).2)])]) (fun i hi => ?_) (fun _ _ => ?_)
  · refine dcase (fun h5 => ?_) (fun h5 => ?_)
    · have hs : (l.take (i + 1)).foldl qAdd (0, 1) = qAdd ((l.take i).foldl qAdd (0, 1)) l[i] := by
        rw [List.take_succ_eq_append_getElem (by omega), List.foldl_append]; rfl
      obtain ⟨n1, k1⟩ := h2 i hi
      obtain ⟨n2, k2⟩ := h1 i (by omega)
      have hq := qRow_get (l := l) (i := (i : Int)) (n := i) rfl (by omega)
      generalize (l.take i).foldl qAdd (0, 1) = o at *
      generalize l[i] = x at *
      have l1 := dn_len (by omega) k1
      have l2 := dn_len (by omega) k2
      have p1 := dn_pos o.2
      have p2 := dn_pos x.2
      refine And.intro (by omega) (X1 _ hq ?_)
      refine X1 _ (qnum_ct o.1 o.2) (X1 _ (qden_ct x.1 x.2 (by omega)) (X1 _ (nmul_ct o.1 (dn x.2) (by omega) (by omega)) ?_))
      refine X1 _ (qnum_ct x.1 x.2) (X1 _ (qden_ct o.1 o.2 (by omega)) (X1 _ (nmul_ct x.1 (dn o.2) (by omega) (by omega)) ?_))
      have m1 := nmul_len n1 l2
      have m2 := nmul_len n2 l1
      refine X1 _ (nadd_ct _ _ (by omega) (by omega)) ?_
      refine And.intro rfl ?_
      refine X1 _ (qden_ct o.1 o.2 (by omega)) (X1 _ (qden_ct x.1 x.2 (by omega)) (X1 _ (nmul_ct (dn o.2) (dn x.2) (by omega) (by omega)) ?_))
      have m3 := nadd_len m1 m2
      refine X1 _ (qmade_ct _ _ (Nat.mul_ne_zero p1 p2) (by omega) (Nat.le_trans (nmul_len l1 l2) (by omega))) ?_
      refine And.intro rfl ?_
      refine X1 ((i + 1 : Nat) : Int) (wI (by simp) (by omega) (by omega)) ?_
      exact ⟨i + 1, by omega, by omega, ⟨rfl, rfl, rfl, rfl, rfl, trivial⟩, ⟨rfl, by rw [hs]; rfl, trivial⟩⟩
    · have e : i = l.length := by omega
      subst e
      rw [List.take_length]
      exact ⟨(), trivial, ⟨rfl, rfl, trivial⟩, ⟨rfl, rfl, trivial⟩⟩
  · exact ⟨trivial, rc rfl, trivial⟩
end Go.Proofs.YtpmchgndnhgncaaGreat.Pv
namespace Go.Proofs.YtpmchgndnhgncaaGreat.Pv
open Go
theorem trim_ct (l : List Nat) (hl : l.length ≤ 1000000) : Ct P 138 [.c (nSl .i64 l)] [.c (nSl .i64 (trimL l))] := by
  refine Ct.go T_ok T_mix (N := 23) Tryz.func138 rfl rfl rfl rfl ?_
  refine And.intro (by rw [nRow_len]; omega) ?_
  refine loopJ T_ok T_mix (fun n : Nat => n ≤ l.length ∧ trimL l = trimL (l.take n)) (fun n => [(0, .c (nSl .i64 l)), (3, .c (nI .i64 n))]) (fun _ => []) (fun n => n) l.length ⟨Nat.le_refl _, by simp⟩ ⟨rfl, by rw [nRow_len]; rfl, trivial⟩ trivial
    (fun n : Nat => n ≤ l.length ∧ l.take n = trimL l) (fun n => [(0, .c (nSl .i64 l)), (3, .c (nI .i64 n))]) (fun _ => []) (fun n hn => ?_) (fun n hn => ?_)
  · obtain ⟨hn, ht⟩ := hn
    refine dcase (fun h1 => ?_) (fun h1 => ?_)
    · obtain ⟨m, rfl⟩ : ∃ m, n = m + 1 := ⟨n - 1, by omega⟩
      refine X1 (m : Int) (wI (by omega) (by omega) (by omega)) ?_
      refine And.intro (by omega) (X1 _ (nRow_getN rfl (by omega)) ?_)
      refine ecase (fun h2 => ?_) (fun h2 => ?_)
      · refine X1 (m : Int) (wI (by omega) (by omega) (by omega)) ?_
        exact ⟨m, ⟨by omega, ht.trans (trimL_step l hn (by omega))⟩, by omega, ⟨rfl, rfl, trivial⟩, trivial⟩
      · exact ⟨m + 1, ⟨hn, trimL_take l hn ht (.inr (by simpa using h2))⟩, ⟨rfl, rfl, trivial⟩, trivial⟩
    · exact ⟨n, ⟨hn, trimL_take l hn ht (.inl (by omega))⟩, ⟨rfl, rfl, trivial⟩, trivial⟩
  · obtain ⟨hn, ht⟩ := hn
    refine ⟨0, n, rfl, rfl, by omega, by rw [nRow_len]; omega, ?_⟩
    have e : [] ++ ((nRow .i64 l).drop 0).take (n - 0) = nRow .i64 (trimL l) := by rw [List.nil_append, nRow_sub, List.drop_zero, Nat.sub_zero, ht]
    have hle : (((nRow .i64 l).drop 0).take (n - 0)).length ≤ 1000000 := by simp [nRow_len]; omega
    refine ⟨rfl, ?_, ?_, nil_closed, ?_, ?_⟩
    · show (0 + (((nRow .i64 l).drop 0).take (n - 0)).length + 768) * 8 ≤ _
      omega
    · show 0 + (((nRow .i64 l).drop 0).take (n - 0)).length ≤ _
      omega
    · rw [nRow_sub]; exact nRow_closed
    · exact ⟨trivial, r1 (toSl e), trivial⟩
theorem at_ct (l : List Nat) (i : Int) (hl : l.length ≤ 1000000) : Ct P 137 [.c (nSl .i64 l), .c (eI .i64 i)] [.c (nI .i64 (if 0 ≤ i then l.getD i.toNat 0 else 0))] := by
  refine Ct.go T_ok T_mix (N := 17) Tryz.func137 rfl rfl rfl rfl ?_
  refine dcase (fun h1 => ?_) (fun h1 => ?_)
  · rw [if_neg (by omega)]
    exact ⟨trivial, r1 rfl, trivial⟩
  · refine And.intro (by rw [nRow_len]; omega) ?_
    rw [nRow_len]
    refine dcase (fun h2 => ?_) (fun h2 => ?_)
    · have : l.getD i.toNat 0 = 0 := by
        rw [List.getD_eq_getElem?_getD, List.getElem?_eq_none (by omega)]; rfl
      rw [if_pos (by omega), this]
      exact ⟨trivial, r1 rfl, trivial⟩
    · rw [if_pos (by omega)]
      refine And.intro (by omega) (X1 _ (nRow_get (by omega) (by omega)) ?_)
      exact ⟨trivial, r1 rfl, trivial⟩
theorem at_ctN (l : List Nat) (i : Nat) (hl : l.length ≤ 1000000) : Ct P 137 [.c (nSl .i64 l), .c (nI .i64 i)] [.c (nI .i64 (l.getD i 0))] := by
  have := at_ct l i hl
  rwa [if_pos (Int.natCast_nonneg i), Int.toNat_natCast] at this
abbrev dV (n : Nat) : PC := nSl .i64 (dg 256 n)
theorem sub_ct (a b : Nat) (hab : b ≤ a) (hl : (dg 256 a).length ≤ 1000000) : Ct P 98 [.c (dV a), .c (dV b)] [.c (dV (a - b))] := by
  have hlb : (dg 256 b).length ≤ (dg 256 a).length := dg_len_mono (by omega) hab
  refine Ct.go T_ok T_mix (N := 35) Tryz.func98 rfl rfl rfl rfl ?_
  refine nilC (r := 50) (t := 5) (sz := 1) rfl rfl ?_
  refine loopJ T_ok T_mix (fun g : List Nat × Nat => g.1.length ≤ (dg 256 a).length ∧ Dig 256 g.1 ∧ g.2 ≤ 1 ∧ val 256 ((dg 256 a).take g.1.length) + 256 ^ g.1.length * g.2 = val 256 ((dg 256 b).take g.1.length) + val 256 g.1)
    (fun g => [(0, .c (dV a)), (1, .c (dV b)), (5, .c (.ow 50 1 g.1.length)), (6, .c (nI .i64 g.2)), (7, .c (nI .i64 g.1.length))]) (fun g => [(50, .row 1 (nRow .i64 g.1))]) (fun g => (dg 256 a).length - g.1.length)
    ([], 0) ⟨by simp, .nil, by simp, by simp [val]⟩ ⟨rfl, rfl, rfl, rfl, rfl, trivial⟩ ⟨rfl, trivial⟩
    (fun l : List Nat => Dig 256 l ∧ val 256 l = a - b ∧ l.length ≤ 1000000) (fun l => [(5, .c (.ow 50 1 l.length))]) (fun l => [(50, .row 1 (nRow .i64 l))]) (fun g hg => ?_) (fun l hl => ?_)
  · obtain ⟨l, c⟩ := g
    obtain ⟨h1, h2, h3, h4⟩ := hg
    simp only at h1 h2 h3 h4
    refine And.intro (by rw [nRow_len]; omega) ?_
    rw [nRow_len]
    refine dcase (fun h5 => ?_) (fun h5 => ?_)
    · replace h5 : (l.length : Int) < (dg 256 a).length := h5
      refine X1 _ (at_ctN (dg 256 a) l.length hl) ?_
      have hx := (dig_dg (B := 256) (by omega) a).getD (by omega) l.length
      have hy := (dig_dg (B := 256) (by omega) b).getD (by omega) l.length
      have hA := val_take_succ 256 (dg 256 a) l.length
      have hB := val_take_succ 256 (dg 256 b) l.length
      generalize (dg 256 a).getD l.length 0 = x at hx hA ⊢
      generalize hyy : (dg 256 b).getD l.length 0 = y at hy hB
      refine X1 ((256 + x : Nat) : Int) (wI (by omega) (by omega) (by omega)) ?_
      refine X1 _ (at_ctN (dg 256 b) l.length (by omega)) ?_
      rw [hyy]
      refine X1 ((256 + x - y : Nat) : Int) (wI (by omega) (by omega) (by omega)) ?_
      refine X1 ((256 + x - y - c : Nat) : Int) (wI (by omega) (by omega) (by omega)) ?_
      obtain ⟨v, hv⟩ : ∃ v, v = 256 + x - y - c := ⟨_, rfl⟩
      rw [← hv]
      refine And.intro (by omega) (X1 ((v % 256 : Nat) : Int) (by rw [Int.tmod_eq_emod_of_nonneg (by omega)]; omega) (And.intro ⟨by omega, by omega⟩ ?_))
      refine app_row rfl (by simp; omega) c1_closed ?_
      refine And.intro (by omega) (X1 ((v / 256 : Nat) : Int) (by rw [Int.tdiv_eq_ediv_of_nonneg (by omega)]; omega) (And.intro ⟨by omega, by omega⟩ ?_))
      refine X1 ((1 - v / 256 : Nat) : Int) (wI (by omega) (by omega) (by omega)) ?_
      refine X1 ((l.length + 1 : Nat) : Int) (wI (by simp) (by omega) (by omega)) ?_
      refine ⟨(l ++ [v % 256], 1 - v / 256), ⟨by simp <;> omega, h2.snoc (by omega), by simp <;> omega, ?_⟩, by simp <;> omega, ⟨rfl, rfl, owE (by simp [nRow_len]), rfl, iE (by simp), trivial⟩, ⟨rowE (nRow_app (m := [v % 256])), trivial⟩⟩
      simp only [List.length_append, List.length_cons, List.length_nil, hA, hB, val_snoc]
      have key : x + 256 * (1 - v / 256) = v % 256 + y + c := by omega
      have k2 : 256 ^ l.length * (x + 256 * (1 - v / 256)) = 256 ^ l.length * (v % 256 + y + c) := by rw [key]
      rw [Nat.pow_succ, Nat.mul_assoc]
      simp only [Nat.mul_add] at k2
      omega
    · replace h5 : ¬ (l.length : Int) < (dg 256 a).length := h5
      have e : l.length = (dg 256 a).length := by omega
      refine ⟨l, ⟨h2, ?_, by omega⟩, ⟨rfl, trivial⟩, ⟨rfl, trivial⟩⟩
      rw [e, val_take_all (Nat.le_refl _), val_take_all hlb, val_dg (by omega), val_dg (by omega)] at h4
      have h6 := val_lt (by omega : 0 < 256) h2
      rw [e] at h6
      have h7 : c = 0 := by
        rcases Nat.eq_zero_or_pos c with h | h
        · exact h
        · have : c = 1 := by omega
          subst this
          omega
      subst h7
      omega
  · obtain ⟨h1, h2, h3⟩ := hl
    refine X2 .frz ?_
    refine X1 _ (trim_ct l h3) ?_
    rw [trim_dg (by omega) h1, h2]
    exact ⟨trivial, r1 rfl, trivial⟩
theorem small_ct (v : Nat) (hv : v < 18446744073709551616) : Ct P 94 [.c (nI .u64 v)] [.c (dV v)] := by
  refine Ct.go T_ok T_mix (N := 15) Tryz.func94 rfl rfl rfl rfl ?_
  refine nilC (r := 50) (t := 3) (sz := 1) rfl rfl ?_
  refine loopJ T_ok T_mix (fun g : List Nat × Nat => g.2 ≤ v ∧ g.1 ++ dg 256 g.2 = dg 256 v)
    (fun g => [(0, .c (nI .u64 g.2)), (3, .c (.ow 50 1 g.1.length))]) (fun g => [(50, .row 1 (nRow .i64 g.1))]) (fun g => g.2)
    ([], v) ⟨Nat.le_refl _, rfl⟩ ⟨rfl, rfl, trivial⟩ ⟨rfl, trivial⟩
    (fun _ : Unit => True) (fun _ => [(3, .c (.ow 50 1 (dg 256 v).length))]) (fun _ => [(50, .row 1 (nRow .i64 (dg 256 v)))]) (fun g hg => ?_) (fun l _ => ?_)
  · obtain ⟨l, c⟩ := g
    obtain ⟨h1, h2⟩ := hg
    simp only at h1 h2
    refine dcase (fun h5 => ?_) (fun h5 => ?_)
    · replace h5 : (c : Int) > 0 := h5
      refine And.intro (by omega) (X1 ((c % 256 : Nat) : Int) (by show (c : Int).tmod 256 = _; rw [Int.tmod_eq_emod_of_nonneg (by omega)]; omega) (And.intro ⟨by omega, by omega⟩ ?_))
      refine X1 ((c % 256 : Nat) : Int) (wI rfl (by omega) (by omega)) ?_
      have hlen : (dg 256 v).length ≤ 8 := dg_len (by omega) hv
      have hl2 : l.length ≤ 8 := by rw [← h2, List.length_append] at hlen; omega
      refine app_row rfl (by simp; omega) c1_closed ?_
      refine And.intro (by omega) (X1 ((c / 256 : Nat) : Int) (by show (c : Int).tdiv 256 = _; rw [Int.tdiv_eq_ediv_of_nonneg (by omega)]; omega) (And.intro ⟨by omega, by omega⟩ ?_))
      refine ⟨(l ++ [c % 256], c / 256), ⟨by show c / 256 ≤ v; omega, ?_⟩, by show c / 256 < c; omega, ⟨rfl, owE (by simp [nRow_len]), trivial⟩, ⟨rowE (nRow_app (m := [c % 256])), trivial⟩⟩
      rw [← h2, dg_pos (n := c) (by omega) (by omega)]
      simp
    · replace h5 : ¬ (c : Int) > 0 := h5
      have hc : c = 0 := by omega
      subst hc
      rw [dg_zero, List.append_nil] at h2
      subst h2
      exact ⟨(), trivial, ⟨rfl, trivial⟩, ⟨rfl, trivial⟩⟩
  · exact ⟨trivial, r1 rfl, trivial⟩
def cmpN (a b : Nat) : Int := if a < b then -1 else if b < a then 1 else 0
theorem cmp_ct (a b : Nat) (ha : (dg 256 a).length ≤ 1000000) (hb : (dg 256 b).length ≤ 1000000) : Ct P 139 [.c (dV a), .c (dV b)] [.c (eI .i64 (cmpN a b))] := by
  refine Ct.go T_ok T_mix (N := 41) Tryz.func139 rfl rfl rfl rfl ?_
  refine And.intro (by rw [nRow_len]; omega) ?_
  refine And.intro (by rw [nRow_len]; omega) ?_
  rw [nRow_len, nRow_len]
  refine ncase (fun h => ?_) (fun h => ?_)
  · refine And.intro (by rw [nRow_len]; omega) ?_
    refine And.intro (by rw [nRow_len]; omega) ?_
    rw [nRow_len, nRow_len]
    refine dcase (fun h2 => ?_) (fun h2 => ?_)
    · have : a < b := dg_len_lt (B := 256) (by omega) (by omega)
      exact ⟨trivial, r1 (iE (by rw [cmpN, if_pos this])), trivial⟩
    · have : b < a := dg_len_lt (B := 256) (by omega) (by omega : (dg 256 b).length < (dg 256 a).length)
      exact ⟨trivial, r1 (iE (by rw [cmpN, if_neg (by omega), if_pos this])), trivial⟩
  · have hlen : (dg 256 a).length = (dg 256 b).length := by omega
    refine And.intro (by rw [nRow_len]; omega) ?_
    rw [nRow_len]
    refine X1 (((dg 256 a).length : Int) - 1) (wi (by omega) (by omega)) ?_
    refine loopJ T_ok T_mix (fun n : Nat => n ≤ (dg 256 a).length ∧ (dg 256 a).drop n = (dg 256 b).drop n)
      (fun n => [(0, .c (dV a)), (1, .c (dV b)), (5, .c (eI .i64 ((n : Int) - 1)))]) (fun _ => []) (fun n => n)
      (dg 256 a).length ⟨Nat.le_refl _, by rw [List.drop_length, List.drop_eq_nil_of_le (by omega)]⟩ ⟨rfl, rfl, rfl, trivial⟩ trivial
      (fun _ : Unit => a = b) (fun _ => []) (fun _ => []) (fun n hn => ?_) (fun _ he => ?_)
    · obtain ⟨h1, h2⟩ := hn
      refine dcase (fun h5 => ?_) (fun h5 => ?_)
      · obtain ⟨m, rfl⟩ : ∃ m, n = m + 1 := ⟨n - 1, by omega⟩
        have hA := dig_dg (B := 256) (by omega) a
        have hB := dig_dg (B := 256) (by omega) b
        have vA := val_dg (B := 256) (by omega) a
        have vB := val_dg (B := 256) (by omega) b
        refine And.intro (by omega) (X1 _ (nRow_getN (n := m) (by omega) (by omega)) ?_)
        refine And.intro (by omega) (X1 _ (nRow_getN (n := m) (by omega) (by omega)) ?_)
        refine And.intro rfl ?_
        refine dcase (fun h6 => ?_) (fun h6 => ?_)
        · have := val_lt_of (B := 256) (by omega) hA hlen (by omega) h2 (by omega)
          exact ⟨trivial, r1 (iE (by rw [cmpN, if_pos (by omega)])), trivial⟩
        · refine And.intro (by omega) (X1 _ (nRow_getN (n := m) (by omega) (by omega)) ?_)
          refine And.intro (by omega) (X1 _ (nRow_getN (n := m) (by omega) (by omega)) ?_)
          refine And.intro rfl ?_
          refine dcase (fun h7 => ?_) (fun h7 => ?_)
          · have := val_lt_of (B := 256) (by omega) hB hlen.symm (by omega) h2.symm (by omega)
            exact ⟨trivial, r1 (iE (by rw [cmpN, if_neg (by omega), if_pos (by omega)])), trivial⟩
          · refine X1 ((m : Int) - 1) (wI (by omega) (by omega) (by omega)) ?_
            refine ⟨m, ⟨by omega, ?_⟩, by omega, ⟨rfl, rfl, rfl, trivial⟩, trivial⟩
            have e1 : (dg 256 a).getD m 0 = (dg 256 b).getD m 0 := by omega
            rw [List.getD_eq_getElem?_getD, List.getD_eq_getElem?_getD, List.getElem?_eq_getElem (by omega : m < (dg 256 a).length), List.getElem?_eq_getElem (by omega : m < (dg 256 b).length)] at e1
            rw [List.drop_eq_getElem_cons (by omega : m < (dg 256 a).length), List.drop_eq_getElem_cons (by omega : m < (dg 256 b).length), h2]
            simp only [Option.getD_some] at e1
            rw [e1]
      · have hn : n = 0 := by omega
        subst hn
        refine ⟨(), ?_, trivial, trivial⟩
        rw [List.drop_zero, List.drop_zero] at h2
        rw [← val_dg (B := 256) (by omega) a, h2, val_dg (by omega)]
    · exact ⟨trivial, r1 (iE (by rw [cmpN, if_neg (by omega), if_neg (by omega)])), trivial⟩
theorem mul_ctL (la lb : List Nat) (ha : la.length ≤ 400000) (hb : lb.length ≤ 400000) (hA : Dig 256 la) (hB : Dig 256 lb) : Ct P 96 [.c (nSl .i64 la), .c (nSl .i64 lb)] [.c (dV (val 256 la * val 256 lb))] := by
  obtain ⟨b, hb0⟩ : ∃ b, b = val 256 lb := ⟨_, rfl⟩
  have bB : b < 256 ^ lb.length := hb0 ▸ val_lt (by omega) hB
  rw [← hb0]
  refine Ct.go T_ok T_mix (N := 57) Tryz.func96 rfl rfl rfl rfl ?_
  refine And.intro (by rw [nRow_len]; omega) ?_
  refine And.intro (by rw [nRow_len]; omega) ?_
  rw [nRow_len, nRow_len]
  refine X1 ((la.length + lb.length : Nat) : Int) (wI (by omega) (by omega) (by omega)) ?_
  refine X1 ((la.length + lb.length + 1 : Nat) : Int) (wI (by omega) (by omega) (by omega)) ?_
  refine ⟨by omega, by omega, by omega, .inl (by decide), ?_⟩
  refine loopJ T_ok T_mix (fun g : Nat × List Nat => g.1 ≤ la.length ∧ g.2.length = la.length + lb.length + 1 ∧ Dig 256 g.2 ∧ val 256 g.2 = val 256 (la.take g.1) * b)
    (fun (i, out) => [(0, .c (nSl .i64 la)), (1, .c (nSl .i64 lb)), (5, .c (.ow 16 1 (la.length + lb.length + 1))), (6, .c (nI .i64 i))]) (fun (i, out) => [(16, .row 1 (nRow .i64 out))]) (fun (i, out) => la.length - i)
    (0, List.replicate (la.length + lb.length + 1) 0) ⟨by simp, by simp, fun x hx => by rw [List.eq_of_mem_replicate hx]; omega, by simp [val, val_rep]⟩ ⟨rfl, rfl, owE (by omega), rfl, trivial⟩ ⟨rowE (rep_row rfl), trivial⟩
    (fun l : List Nat => l.length ≤ 1000000 ∧ Dig 256 l ∧ val 256 l = val 256 la * b) (fun l => [(5, .c (.ow 16 1 (la.length + lb.length + 1)))]) (fun l => [(16, .row 1 (nRow .i64 l))]) (fun g hg => ?_) (fun l hl => ?_)
  · obtain ⟨i, out⟩ := g
    obtain ⟨h1, h2, h3, h4⟩ := hg
    simp only at h1 h2 h3 h4
    refine And.intro (by rw [nRow_len]; omega) ?_
    rw [nRow_len]
    refine dcase (fun h5 => ?_) (fun h5 => ?_)
    · replace h5 : (i : Int) < la.length := h5
      have hx := hA.getD (by omega) i
      have hT := val_take_succ 256 la i
      generalize hxx : la.getD i 0 = x at hx hT
      have bT : val 256 (la.take (i + 1)) < 256 ^ (i + 1) := by
        have := val_lt (by omega : 0 < 256) (hA.take (n := i + 1))
        rwa [List.length_take, Nat.min_eq_left (by omega)] at this
      refine loopB T_ok T_mix (fun g : Nat × List Nat × Nat => g.1 ≤ lb.length + 1 ∧ g.2.1.length = la.length + lb.length + 1 ∧ Dig 256 g.2.1 ∧ g.2.2 < 256 ∧ val 256 g.2.1 + 256 ^ (i + g.1) * g.2.2 = val 256 (la.take i) * b + 256 ^ i * (x * val 256 (lb.take g.1)))
        (fun (k, o2, c) => [(0, .c (nSl .i64 la)), (1, .c (nSl .i64 lb)), (5, .c (.ow 16 1 (la.length + lb.length + 1))), (6, .c (nI .i64 i)), (7, .c (nI .i64 c)), (8, .c (nI .i64 k))]) (fun (k, o2, c) => [(16, .row 1 (nRow .i64 o2))]) (fun (k, o2, c) => lb.length + 1 - k)
        (0, out, 0) ⟨by simp, h2, h3, by simp, by simp [val, h4]⟩ ⟨rfl, rfl, rfl, rfl, rfl, rfl, trivial⟩ ⟨rfl, trivial⟩ (fun g hg => ?_)
      obtain ⟨k, o2, c⟩ := g
      obtain ⟨g1, g2, g3, g4, g5⟩ := hg
      simp only at g1 g2 g3 g4 g5
      refine And.intro (by rw [nRow_len]; omega) ?_
      rw [nRow_len]
      refine dcase (fun h6 => ?_) (fun h6 => ?_)
      · replace h6 : (k : Int) ≤ lb.length := h6
        have hy := hB.getD (by omega) k
        have hz := g3.getD (by omega) (i + k)
        have hTB := val_take_succ 256 lb k
        have hset := fun v : Nat => val_set (B := 256) (l := o2) (i := i + k) (x := v) (by omega)
        generalize hzz : o2.getD (i + k) 0 = z at hz hset
        refine X1 ((i + k : Nat) : Int) (wI (by simp) (by omega) (by omega)) ?_
        refine And.intro (by omega) (And.intro (by simp <;> omega) ?_)
        refine X1 _ (nRow_getN rfl (by omega)) ?_
        refine And.intro (by omega) (X1 _ (nRow_getN rfl (by omega)) ?_)
        refine X1 _ (at_ctN lb k (by omega)) ?_
        rw [hzz, hxx]
        generalize hyy : lb.getD k 0 = y at hy hTB
        have hxy : x * y ≤ 255 * 255 := Nat.mul_le_mul (by omega) (by omega)
        refine X1 ((x * y : Nat) : Int) (wI (by simp) (by omega) (by omega)) ?_
        refine X1 ((z + x * y : Nat) : Int) (wI (by simp) (by omega) (by omega)) ?_
        refine X1 ((z + x * y + c : Nat) : Int) (wI (by simp) (by omega) (by omega)) ?_
        refine And.intro rfl ?_
        obtain ⟨v, hv⟩ : ∃ v, v = z + x * y + c := ⟨_, rfl⟩
        rw [← hv]
        refine X1 ((i + k : Nat) : Int) (wI (by simp) (by omega) (by omega)) ?_
        refine And.intro (by omega) (X1 ((v % 256 : Nat) : Int) (tmodN rfl) (And.intro ⟨by omega, by omega⟩ ?_))
        refine And.intro (by omega) (And.intro (by simp <;> omega) ?_)
        refine X1 _ (nRow_getN rfl (by omega)) ?_
        refine And.intro (by omega) (X1 ((v / 256 : Nat) : Int) (tdivN rfl) (And.intro ⟨by omega, by omega⟩ ?_))
        refine X1 ((k + 1 : Nat) : Int) (wI (by simp) (by omega) (by omega)) ?_
        refine ⟨(k + 1, o2.set (i + k) (v % 256), v / 256), ⟨by show k + 1 ≤ _; omega, by simp [g2], g3.set (by omega), by show v / 256 < 256; omega, ?_⟩, by show lb.length + 1 - (k + 1) < lb.length + 1 - k; omega, ⟨rfl, rfl, rfl, rfl, rfl, rfl, trivial⟩, ⟨rowE nRow_set, trivial⟩⟩
        show val 256 (o2.set (i + k) (v % 256)) + 256 ^ (i + (k + 1)) * (v / 256) = val 256 (la.take i) * b + 256 ^ i * (x * val 256 (lb.take (k + 1)))
        have hs := hset (v % 256)
        have e1 : 256 ^ (i + (k + 1)) * (v / 256) + 256 ^ (i + k) * (v % 256) = 256 ^ (i + k) * v := by
          rw [← Nat.add_assoc, Nat.pow_succ, Nat.mul_assoc, ← Nat.mul_add]
          congr 1; omega
        have e2 : 256 ^ (i + k) * v = 256 ^ (i + k) * z + 256 ^ (i + k) * (x * y) + 256 ^ (i + k) * c := by rw [hv, Nat.mul_add, Nat.mul_add]
        have e3 : 256 ^ i * (x * val 256 (lb.take (k + 1))) = 256 ^ i * (x * val 256 (lb.take k)) + 256 ^ (i + k) * (x * y) := by
          rw [hTB, Nat.mul_add, Nat.mul_add, Nat.pow_add, Nat.mul_assoc, Nat.mul_left_comm x]
        omega
      · replace h6 : ¬ (k : Int) ≤ lb.length := h6
        have hk : k = lb.length + 1 := by omega
        subst hk
        rw [val_take_all (l := lb) (by omega), ← hb0] at g5
        have e4 : val 256 (la.take (i + 1)) * b = val 256 (la.take i) * b + 256 ^ i * (x * b) := by rw [hT, Nat.add_mul, Nat.mul_assoc]
        have e5 : val 256 (la.take (i + 1)) * b < 256 ^ (i + 1) * 256 ^ lb.length := Nat.mul_lt_mul'' bT bB
        rw [← Nat.pow_add, show i + 1 + lb.length = i + (lb.length + 1) by omega] at e5
        have hc : c = 0 := by
          rcases Nat.eq_zero_or_pos c with h | h
          · exact h
          · have := Nat.mul_le_mul_left (256 ^ (i + (lb.length + 1))) h
            omega
        subst hc
        refine X1 ((i + 1 : Nat) : Int) (wI (by simp) (by omega) (by omega)) ?_
        exact ⟨(i + 1, o2), ⟨by show i + 1 ≤ _; omega, g2, g3, by show val 256 o2 = val 256 (la.take (i + 1)) * b; omega⟩, by show la.length - (i + 1) < la.length - i; omega, ⟨rfl, rfl, rfl, rfl, trivial⟩, ⟨rfl, trivial⟩⟩
    · replace h5 : ¬ (i : Int) < la.length := h5
      refine ⟨out, ⟨by omega, h3, ?_⟩, ⟨rfl, trivial⟩, ⟨rfl, trivial⟩⟩
      rw [h4, val_take_all (by omega)]
  · obtain ⟨h1, h2, h3⟩ := hl
    refine X2 .frz ?_
    refine X1 _ (trim_ct l h1) ?_
    rw [trim_dg (by omega) h2, h3]
    exact ⟨trivial, r1 rfl, trivial⟩
theorem mul_ct (a b : Nat) (ha : (dg 256 a).length ≤ 400000) (hb : (dg 256 b).length ≤ 400000) : Ct P 96 [.c (dV a), .c (dV b)] [.c (dV (a * b))] := by
  have := mul_ctL (dg 256 a) (dg 256 b) ha hb (dig_dg (by omega) a) (dig_dg (by omega) b)
  rwa [val_dg (by omega), val_dg (by omega)] at this
theorem set_same {l : List Nat} {i : Nat} (h : l.getD i 0 = 0) : l.set i 0 = l := by
  apply List.ext_getElem?
  intro j
  rw [List.getElem?_set]
  by_cases hij : i = j
  · subst hij
    by_cases hl : i < l.length
    · rw [List.getD_eq_getElem?_getD, List.getElem?_eq_getElem hl] at h
      simp only [Option.getD_some] at h
      simp [hl, h]
    · simp [hl]
  · simp [hij]
theorem div_ct (a b : Nat) (hb0 : b ≠ 0) (ha : (dg 256 a).length ≤ 400000) (hb : (dg 256 b).length ≤ 400000) : Ct P 136 [.c (dV a), .c (dV b)] [.c (dV (a / b)), .c (dV (a % b))] := by
  have hA := dig_dg (B := 256) (by omega) a
  have vA := val_dg (B := 256) (by omega) a
  refine Ct.go T_ok T_mix (N := 45) Tryz.func136 rfl rfl rfl rfl ?_
  refine And.intro (by rw [nRow_len]; omega) ?_
  rw [nRow_len]
  refine ⟨by omega, by omega, by omega, .inl (by decide), ?_⟩
  refine And.intro (by rw [nRow_len]; omega) ?_
  rw [nRow_len]
  refine X1 (((dg 256 a).length : Int) - 1) (wi (by omega) (by omega)) ?_
  refine nilS (t := 7) (sz := 1) rfl ?_
  refine loopJ T_ok T_mix (G := Nat × List Nat × Nat) (fun (n, q, r) => n ≤ (dg 256 a).length ∧ q.length = (dg 256 a).length ∧ Dig 256 q ∧ (∀ j, j < n → q.getD j 0 = 0) ∧ r < b ∧ val 256 ((dg 256 a).drop n) = b * val 256 (q.drop n) + r)
    (fun (n, q, r) => [(0, .c (dV a)), (1, .c (dV b)), (6, .c (.ow 11 1 (dg 256 a).length)), (7, .c (dV r)), (8, .c (eI .i64 ((n : Int) - 1)))]) (fun ((n, q, r) : Nat × List Nat × Nat) => [(11, .row 1 (nRow .i64 q))]) (fun (n, q, r) => n)
    ((dg 256 a).length, List.replicate (dg 256 a).length 0, 0) ⟨Nat.le_refl _, by simp, fun x hx => by rw [List.eq_of_mem_replicate hx]; omega, fun j hj => by simp [List.getD_eq_getElem?_getD, List.getElem?_replicate, hj], by omega, by simp [val]⟩
    ⟨rfl, rfl, owE (by omega), toSl (l := dg 256 0) (by rw [dg_zero]; rfl), rfl, trivial⟩ ⟨rowE (rep_row rfl), trivial⟩
    (fun l : List Nat => l.length ≤ 1000000 ∧ Dig 256 l ∧ val 256 l = a / b) (fun l => [(6, .c (.ow 11 1 (dg 256 a).length)), (7, .c (dV (a % b)))]) (fun l => [(11, .row 1 (nRow .i64 l))]) (fun g hg => ?_) (fun l hl => ?_)
  · obtain ⟨n, q, r⟩ := g
    obtain ⟨h1, h2, h3, h4, h5, h6⟩ := hg
    have hlr : (dg 256 r).length ≤ 400000 := Nat.le_trans (dg_len_mono (by omega) (by omega)) hb
    refine dcase (fun h7 => ?_) (fun h7 => ?_)
    · obtain ⟨m, rfl⟩ : ∃ m, n = m + 1 := ⟨n - 1, by omega⟩
      have hx := hA.getD (by omega) m
      have hdrop : val 256 ((dg 256 a).drop m) = (dg 256 a).getD m 0 + 256 * val 256 ((dg 256 a).drop (m + 1)) := by
        rw [List.drop_eq_getElem_cons (by omega), val]
        simp [List.getD_eq_getElem?_getD, (by omega : m < (dg 256 a).length)]
      have hq0 := h4 m (by omega)
      have hdq : ∀ t, val 256 ((q.set m t).drop m) = t + 256 * val 256 (q.drop (m + 1)) := fun t => by
        rw [List.drop_eq_getElem_cons (by simp; omega), val]
        simp [List.drop_set]
      refine And.intro (by omega) (X1 _ (nRow_getN (n := m) (by omega) (by omega)) ?_)
      generalize (dg 256 a).getD m 0 = x at hx hdrop ⊢
      refine app_row (l := [x]) rfl (by simp [nRow_len]; omega) nRow_closed ?_
      refine X2 .frz ?_
      have htr := trim_ct ([x] ++ dg 256 r) (by simp; omega)
      rw [trim_dg (by omega) (Dig.app (.cons hx .nil) (dig_dg (by omega) r)), val_app, val_dg (by omega)] at htr
      have hL : val 256 [x] + 256 ^ [x].length * r = x + 256 * r := by simp [val]
      rw [hL] at htr
      refine X1 _ (show Ct P 138 [.c (.sl 1 (nRow .i64 [x] ++ nRow .i64 (dg 256 r)))] [.c (dV (x + 256 * r))] by rw [nRow_app]; exact htr) ?_
      have hLb : x + 256 * r < 256 * b := by omega
      refine loopB T_ok T_mix (fun t : Nat => t * b ≤ x + 256 * r)
        (fun t => [(0, .c (dV a)), (1, .c (dV b)), (6, .c (.ow 11 1 (dg 256 a).length)), (7, .c (dV (x + 256 * r - t * b))), (8, .c (nI .i64 m))]) (fun t => [(11, .row 1 (nRow .i64 (q.set m t)))]) (fun t => 256 - t)
        0 (by simp) ⟨rfl, rfl, rfl, toSl (by rw [Nat.zero_mul, Nat.sub_zero]), iE (by omega), trivial⟩ ⟨rowE (by rw [set_same hq0]), trivial⟩ (fun t ht => ?_)
      have ht256 : t < 256 := by
        apply Nat.lt_of_not_le
        intro hge
        have := Nat.mul_le_mul_right b hge
        omega
      have hll : (dg 256 (x + 256 * r - t * b)).length ≤ 400001 := by
        have h8 := lt_dg_len (B := 256) (by omega) b
        have : x + 256 * r - t * b < 256 ^ ((dg 256 b).length + 1) := by rw [Nat.pow_succ]; omega
        have := dg_len (B := 256) (by omega) this
        omega
      refine X1 _ (cmp_ct (x + 256 * r - t * b) b (by omega) (by omega)) ?_
      refine dcase (fun h8 => ?_) (fun h8 => ?_)
      · have hge : b ≤ x + 256 * r - t * b := by
          apply Nat.le_of_not_lt
          intro hlt
          rw [cmpN, if_pos hlt] at h8
          omega
        refine X1 _ (sub_ct (x + 256 * r - t * b) b hge (by omega)) ?_
        refine And.intro (by omega) (And.intro (by omega) ?_)
        refine X1 _ (nRow_getN rfl (by simp; omega)) ?_
        have hgt : (q.set m t).getD m 0 = t := by simp [List.getD_eq_getElem?_getD, h2, (by omega : m < (dg 256 a).length)]
        rw [hgt]
        refine X1 ((t + 1 : Nat) : Int) (wI (by simp) (by omega) (by omega)) ?_
        refine And.intro (by omega) (And.intro (by omega) ?_)
        refine X1 _ (nRow_getN rfl (by simp; omega)) ?_
        have hmul : (t + 1) * b = t * b + b := by rw [Nat.add_mul, Nat.one_mul]
        refine ⟨t + 1, by show (t + 1) * b ≤ _; omega, by show 256 - (t + 1) < 256 - t; omega, ⟨rfl, rfl, rfl, toSl (congrArg _ (congrArg _ (by omega))), rfl, trivial⟩, ⟨rowE (nRow_set.trans (congrArg _ (List.set_set ..))), trivial⟩⟩
      · have hlt : x + 256 * r - t * b < b := by
          apply Nat.lt_of_not_le
          intro hge
          apply h8
          rw [cmpN, if_neg (by omega)]
          split <;> omega
        refine X1 ((m : Int) - 1) (wI rfl (by omega) (by omega)) ?_
        refine ⟨(m, q.set m t, x + 256 * r - t * b), ⟨by omega, by simp [h2], h3.set (by omega), fun j hj => ?_, hlt, ?_⟩, by show m < m + 1; omega, ⟨rfl, rfl, rfl, rfl, rfl, trivial⟩, ⟨rfl, trivial⟩⟩
        · have := h4 j (by omega)
          rw [List.getD_eq_getElem?_getD] at this ⊢
          rw [List.getElem?_set_ne (by omega)]; exact this
        · rw [hdrop, hdq, h6]
          simp only [Nat.mul_add]
          have : t * b = b * t := Nat.mul_comm _ _
          have : b * (256 * val 256 (q.drop (m + 1))) = 256 * (b * val 256 (q.drop (m + 1))) := Nat.mul_left_comm _ _ _
          omega
    · have hn : n = 0 := by omega
      subst hn
      rw [List.drop_zero, List.drop_zero, vA] at h6
      have e1 : val 256 q = a / b := by
        rw [h6, Nat.mul_add_div (by omega), Nat.div_eq_of_lt h5]; rfl
      have e2 : r = a % b := by
        rw [h6, Nat.mul_add_mod, Nat.mod_eq_of_lt h5]
      refine ⟨q, ⟨by omega, h3, e1⟩, ⟨rfl, toSl (by rw [e2]), trivial⟩, ⟨rfl, trivial⟩⟩
  · obtain ⟨h1, h2, h3⟩ := hl
    refine X2 .frz ?_
    refine X1 _ (trim_ct l h1) ?_
    rw [trim_dg (by omega) h2, h3]
    exact ⟨trivial, r1 rfl, r1 rfl, trivial⟩
theorem gcd_ct (a b : Nat) (ha : (dg 256 a).length ≤ 400000) (hb : (dg 256 b).length ≤ 400000) : Ct P 135 [.c (dV a), .c (dV b)] [.c (dV (Nat.gcd a b))] := by
  refine Ct.go T_ok T_mix (N := 19) Tryz.func135 rfl rfl rfl rfl ?_
  refine loopJ T_ok T_mix (G := Nat × Nat) (fun (x, y) => Nat.gcd x y = Nat.gcd a b ∧ (dg 256 x).length ≤ 400000 ∧ (dg 256 y).length ≤ 400000) (fun (x, y) => [(0, .c (dV x)), (1, .c (dV y))]) (fun _ => []) (fun (x, y) => y)
    (a, b) ⟨rfl, ha, hb⟩ ⟨rfl, rfl, trivial⟩ trivial (fun _ : Unit => True) (fun _ => [(0, .c (dV (Nat.gcd a b)))]) (fun _ => []) (fun g hg => ?_) (fun _ _ => ?_)
  · obtain ⟨x, y⟩ := g
    obtain ⟨h1, h2, h3⟩ := hg
    refine And.intro (by rw [nRow_len]; omega) ?_
    rw [nRow_len]
    refine dcase (fun h4 => ?_) (fun h4 => ?_)
    · have hy : y ≠ 0 := by
        rintro rfl
        rw [dg_zero] at h4
        simp at h4
      refine X1 _ (div_ct x y hy h2 h3) ?_
      have hlt : x % y < y := Nat.mod_lt _ (by omega)
      exact ⟨(y, x % y), ⟨by rw [← h1, Nat.gcd_comm x y, Nat.gcd_rec y x, Nat.gcd_comm], h3, Nat.le_trans (dg_len_mono (by omega) (by omega)) h3⟩, hlt, ⟨rfl, rfl, trivial⟩, trivial⟩
    · have hy : y = 0 := (dg_nil (B := 256) (by omega)).1 (List.length_eq_zero_iff.1 (by omega))
      subst hy
      rw [Nat.gcd_zero_right] at h1
      exact ⟨(), trivial, ⟨toSl (by rw [h1]), trivial⟩, trivial⟩
  · exact ⟨trivial, r1 rfl, trivial⟩
end Go.Proofs.YtpmchgndnhgncaaGreat.Pv
namespace Go.Proofs.YtpmchgndnhgncaaGreat.Pv
open Go
abbrev rV (n d : Nat) : A1 := .ag [dV n, dV d]
theorem dg_1 : dg 256 1 = [1] := by rw [dg_pos (by omega) (by omega)]; simp [dg_zero]
theorem rof_ct (n d : Nat) (hd : d ≠ 0) (hn : (dg 256 n).length ≤ 400000) (hl : (dg 256 d).length ≤ 400000) : Ct P 95 [.c (dV n), .c (dV d)] [rV (n / Nat.gcd n d) (d / Nat.gcd n d)] := by
  refine Ct.go T_ok T_mix (N := 33) Tryz.func95 rfl rfl rfl rfl ?_
  refine X1 _ (gcd_ct n d hn hl) ?_
  refine And.intro (by rw [nRow_len]; omega) ?_
  rw [nRow_len]
  have hg : Nat.gcd n d ≠ 0 := fun h => hd (Nat.gcd_eq_zero_iff.1 h).2
  have hgl : (dg 256 (Nat.gcd n d)).length ≤ 400000 := Nat.le_trans (dg_len_mono (by omega) (Nat.gcd_le_right n (by omega))) hl
  refine ecase (fun h => ?_) (fun h => ?_)
  · have h0 : n = 0 := (dg_nil (B := 256) (by omega)).1 (List.length_eq_zero_iff.1 (by omega))
    subst h0
    rw [Nat.gcd_zero_left, Nat.zero_div, Nat.div_self (by omega)]
    have e : dV 1 = nSl .i64 [1] := by rw [dV, dg_1]
    have e0 : dV 0 = nSl .i64 [] := by rw [dV, dg_zero]
    rw [rV, e, e0]
    exact ⟨trivial, ⟨_, rfl, .inr ⟨rfl, 1, rfl⟩, .inl rfl, trivial⟩, trivial⟩
  · refine X1 _ (div_ct n _ hg hn hgl) ?_
    refine X1 _ (div_ct d _ hg hl hgl) ?_
    exact ⟨trivial, rc rfl, trivial⟩
theorem rint_ct (v : Nat) (hv : v < 9223372036854775808) : Ct P 50 [.c (nI .i64 v)] [rV v 1] := by
  refine Ct.go T_ok T_mix (N := 8) Tryz.func50 rfl rfl rfl rfl ?_
  refine X1 (v : Int) (wU rfl (by omega) (by omega)) ?_
  refine X1 _ (small_ct v (by omega)) ?_
  have e : dV 1 = nSl .i64 [1] := by rw [dV, dg_1]
  rw [rV, e]
  exact ⟨trivial, rc rfl, trivial⟩
theorem mul_len {a b : Nat} {k m : Nat} (ha : (dg 256 a).length ≤ k) (hb : (dg 256 b).length ≤ m) : (dg 256 (a * b)).length ≤ k + m := by
  apply dg_len (by omega)
  have h1 := lt_dg_len (B := 256) (by omega) a
  have h2 := lt_dg_len (B := 256) (by omega) b
  have h3 : a * b < 256 ^ (dg 256 a).length * 256 ^ (dg 256 b).length := Nat.mul_lt_mul'' h1 h2
  rw [← Nat.pow_add] at h3
  exact Nat.lt_of_lt_of_le h3 (Nat.pow_le_pow_right (by omega) (by omega))
abbrev rR (n d : Nat) : A1 := rV (n / Nat.gcd n d) (d / Nat.gcd n d)
structure Lim (n d : Nat) : Prop where
  pos : d ≠ 0
  n : (dg 256 n).length ≤ 100000
  d : (dg 256 d).length ≤ 100000
theorem rmul_ct (a b c d : Nat) (h1 : Lim a b) (h2 : Lim c d) : Ct P 56 [rV a b, rV c d] [rR (a * c) (b * d)] := by
  refine Ct.go T_ok T_mix (N := 16) Tryz.func56 rfl rfl rfl rfl ?_
  refine X1 _ (mul_ct a c (by have := h1.n; omega) (by have := h2.n; omega)) ?_
  refine X1 _ (mul_ct b d (by have := h1.d; omega) (by have := h2.d; omega)) ?_
  refine X1 _ (rof_ct (a * c) (b * d) (Nat.mul_ne_zero h1.pos h2.pos) (Nat.le_trans (mul_len h1.n h2.n) (by omega)) (Nat.le_trans (mul_len h1.d h2.d) (by omega))) ?_
  refine And.intro rfl ?_
  exact ⟨trivial, rc rfl, trivial⟩
theorem rdiv_ct (a b c d : Nat) (h1 : Lim a b) (h2 : Lim c d) (hc : c ≠ 0) : Ct P 51 [rV a b, rV c d] [rR (a * d) (b * c)] := by
  refine Ct.go T_ok T_mix (N := 16) Tryz.func51 rfl rfl rfl rfl ?_
  refine X1 _ (mul_ct a d (by have := h1.n; omega) (by have := h2.d; omega)) ?_
  refine X1 _ (mul_ct b c (by have := h1.d; omega) (by have := h2.n; omega)) ?_
  refine X1 _ (rof_ct (a * d) (b * c) (Nat.mul_ne_zero h1.pos hc) (Nat.le_trans (mul_len h1.n h2.d) (by omega)) (Nat.le_trans (mul_len h1.d h2.n) (by omega))) ?_
  refine And.intro rfl ?_
  exact ⟨trivial, rc rfl, trivial⟩
theorem rcmp_ct (a b c d : Nat) (h1 : Lim a b) (h2 : Lim c d) : Ct P 97 [rV a b, rV c d] [.c (eI .i64 (cmpN (a * d) (c * b)))] := by
  refine Ct.go T_ok T_mix (N := 16) Tryz.func97 rfl rfl rfl rfl ?_
  refine X1 _ (mul_ct a d (by have := h1.n; omega) (by have := h2.d; omega)) ?_
  refine X1 _ (mul_ct c b (by have := h2.n; omega) (by have := h1.d; omega)) ?_
  refine X1 _ (cmp_ct (a * d) (c * b) (Nat.le_trans (mul_len h1.n h2.d) (by omega)) (Nat.le_trans (mul_len h2.n h1.d) (by omega))) ?_
  refine And.intro rfl ?_
  exact ⟨trivial, r1 rfl, trivial⟩
theorem rless_ct (a b c d : Nat) (h1 : Lim a b) (h2 : Lim c d) : Ct P 53 [rV a b, rV c d] [rR (a * d - c * b) (b * d)] := by
  refine Ct.go T_ok T_mix (N := 27) Tryz.func53 rfl rfl rfl rfl ?_
  refine X1 _ (rcmp_ct a b c d h1 h2) ?_
  refine dcase (fun h => ?_) (fun h => ?_)
  · have hlt : a * d < c * b := by
      unfold cmpN at h
      split at h
      · assumption
      · split at h <;> omega
    refine X1 _ (rint_ct 0 (by omega)) ?_
    have hbd := Nat.mul_ne_zero h1.pos h2.pos
    rw [rR, show a * d - c * b = 0 by omega, Nat.gcd_zero_left, Nat.zero_div, Nat.div_self (by omega)]
    exact ⟨trivial, rc rfl, trivial⟩
  · have hge : c * b ≤ a * d := by
      apply Nat.le_of_not_lt
      intro hlt
      rw [cmpN, if_pos hlt] at h
      omega
    have l1 := mul_len h1.n h2.d
    have l2 := mul_len h1.d h2.d
    refine X1 _ (mul_ct a d (by have := h1.n; omega) (by have := h2.d; omega)) ?_
    refine X1 _ (mul_ct c b (by have := h2.n; omega) (by have := h1.d; omega)) ?_
    refine X1 _ (sub_ct (a * d) (c * b) hge (by omega)) ?_
    refine X1 _ (mul_ct b d (by have := h1.d; omega) (by have := h2.d; omega)) ?_
    refine X1 _ (rof_ct (a * d - c * b) (b * d) (Nat.mul_ne_zero h1.pos h2.pos) (Nat.le_trans (dg_len_mono (by omega) (Nat.sub_le _ _)) (by omega)) (by omega)) ?_
    refine And.intro rfl ?_
    exact ⟨trivial, rc rfl, trivial⟩
end Go.Proofs.YtpmchgndnhgncaaGreat.Pv
namespace Go.Proofs.YtpmchgndnhgncaaGreat.Pv
open Go
theorem add25_ct (a b : Nat) (ha : (dg 256 a).length ≤ 900000) (hb : (dg 256 b).length ≤ 900000) : Ct P 99 [.c (dV a), .c (dV b)] [.c (dV (a + b))] := by
  obtain ⟨m, hm⟩ : ∃ m, m = max (dg 256 a).length (dg 256 b).length := ⟨_, rfl⟩
  have hma : (dg 256 a).length ≤ m := by rw [hm]; exact Nat.le_max_left _ _
  have hmb : (dg 256 b).length ≤ m := by rw [hm]; exact Nat.le_max_right _ _
  have hml : m ≤ 900000 := by rw [hm]; exact Nat.max_le.2 ⟨ha, hb⟩
  have hmx : (if ((dg 256 b).length : Int) > ((dg 256 a).length : Int) then ((dg 256 b).length : Int) else ((dg 256 a).length : Int)) = (m : Int) := by
    rw [hm]; split <;> omega
  have hab : a + b < 256 ^ (m + 1) := by
    have h1 := lt_dg_len (B := 256) (by omega) a
    have h2 := lt_dg_len (B := 256) (by omega) b
    have h3 := Nat.pow_le_pow_right (show 0 < 256 by omega) hma
    have h4 := Nat.pow_le_pow_right (show 0 < 256 by omega) hmb
    rw [Nat.pow_succ]; omega
  refine Ct.go T_ok T_mix (N := 36) Tryz.func99 rfl rfl rfl rfl ?_
  refine nilC (r := 50) (t := 5) (sz := 1) rfl rfl ?_
  refine loopJ T_ok T_mix (G := List Nat × Nat) (fun (l, c) => l.length ≤ m + 1 ∧ Dig 256 l ∧ c ≤ 1 ∧ val 256 l + 256 ^ l.length * c = val 256 ((dg 256 a).take l.length) + val 256 ((dg 256 b).take l.length))
    (fun (l, c) => [(0, .c (dV a)), (1, .c (dV b)), (5, .c (.ow 50 1 l.length)), (6, .c (nI .i64 c)), (7, .c (nI .i64 l.length))]) (fun ((l, _) : List Nat × Nat) => [(50, .row 1 (nRow .i64 l))]) (fun (l, _) => m + 1 - l.length)
    ([], 0) ⟨by simp, .nil, by simp, by simp [val]⟩ ⟨rfl, rfl, rfl, rfl, rfl, trivial⟩ ⟨rfl, trivial⟩
    (fun l : List Nat => Dig 256 l ∧ val 256 l = a + b ∧ l.length ≤ 1000000) (fun l => [(5, .c (.ow 50 1 l.length))]) (fun l => [(50, .row 1 (nRow .i64 l))]) (fun (l, c) hg => ?_) (fun l hl => ?_)
  · obtain ⟨h1, h2, h3, h4⟩ := hg
    refine And.intro (by rw [nRow_len]; omega) ?_
    refine And.intro (by rw [nRow_len]; omega) ?_
    rw [nRow_len, nRow_len]
    refine dcase (fun h5 => ?_) (fun h5 => ?_)
    · rw [hmx] at h5
      refine X1 _ (at_ctN (dg 256 a) l.length (by omega)) ?_
      refine X1 _ (at_ctN (dg 256 b) l.length (by omega)) ?_
      have hx := (dig_dg (B := 256) (by omega) a).getD (by omega) l.length
      have hy := (dig_dg (B := 256) (by omega) b).getD (by omega) l.length
      have hA := val_take_succ 256 (dg 256 a) l.length
      have hB := val_take_succ 256 (dg 256 b) l.length
      generalize (dg 256 a).getD l.length 0 = x at hx hA ⊢
      generalize (dg 256 b).getD l.length 0 = y at hy hB ⊢
      refine X1 ((x + y : Nat) : Int) (wI (by omega) (by omega) (by omega)) ?_
      refine X1 ((x + y + c : Nat) : Int) (wI (by omega) (by omega) (by omega)) ?_
      obtain ⟨v, hv⟩ : ∃ v, v = x + y + c := ⟨_, rfl⟩
      rw [← hv]
      refine And.intro (by omega) (X1 ((v % 256 : Nat) : Int) (by rw [Int.tmod_eq_emod_of_nonneg (by omega)]; omega) (And.intro ⟨by omega, by omega⟩ ?_))
      refine app_row rfl (by simp; omega) c1_closed ?_
      refine And.intro (by omega) (X1 ((v / 256 : Nat) : Int) (by rw [Int.tdiv_eq_ediv_of_nonneg (by omega)]; omega) (And.intro ⟨by omega, by omega⟩ ?_))
      refine X1 ((l.length + 1 : Nat) : Int) (wI (by simp) (by omega) (by omega)) ?_
      refine ⟨(l ++ [v % 256], v / 256), ⟨by simp <;> omega, h2.snoc (by omega), by omega, ?_⟩, by simp <;> omega, ⟨rfl, rfl, owE (by simp [nRow_len]), rfl, iE (by simp), trivial⟩, ⟨rowE (nRow_app (m := [v % 256])), trivial⟩⟩
      simp only [List.length_append, List.length_cons, List.length_nil, hA, hB, val_snoc]
      have key : v % 256 + 256 * (v / 256) = x + y + c := by omega
      have k2 : 256 ^ l.length * (v % 256 + 256 * (v / 256)) = 256 ^ l.length * (x + y + c) := by rw [key]
      rw [Nat.zero_add, Nat.pow_succ, Nat.mul_assoc]
      simp only [Nat.mul_add] at k2
      omega
    · rw [hmx] at h5
      have e : l.length = m + 1 := by omega
      refine ⟨l, ⟨h2, ?_, by omega⟩, ⟨rfl, trivial⟩, ⟨rfl, trivial⟩⟩
      rw [e, val_take_all (by omega), val_take_all (by omega), val_dg (by omega), val_dg (by omega)] at h4
      have h7 : c = 0 := by
        rcases Nat.eq_zero_or_pos c with h | h
        · exact h
        · have : c = 1 := by omega
          subst this
          omega
      subst h7
      omega
  · obtain ⟨h1, h2, h3⟩ := hl
    refine X2 .frz ?_
    refine X1 _ (trim_ct l h3) ?_
    rw [trim_dg (by omega) h1, h2]
    exact ⟨trivial, r1 rfl, trivial⟩
theorem add_len {a b k : Nat} (ha : (dg 256 a).length ≤ k) (hb : (dg 256 b).length ≤ k) : (dg 256 (a + b)).length ≤ k + 1 := by
  apply dg_len (by omega)
  have h1 := lt_dg_len (B := 256) (by omega) a
  have h2 := lt_dg_len (B := 256) (by omega) b
  have h3 := Nat.pow_le_pow_right (show 0 < 256 by omega) ha
  have h4 := Nat.pow_le_pow_right (show 0 < 256 by omega) hb
  rw [Nat.pow_succ]; omega
theorem radd_ct (a b c d : Nat) (h1 : Lim a b) (h2 : Lim c d) : Ct P 55 [rV a b, rV c d] [rR (a * d + c * b) (b * d)] := by
  obtain ⟨p1, n1, l1⟩ := h1
  obtain ⟨p2, n2, l2⟩ := h2
  have m1 := mul_len n1 l2
  have m2 := mul_len n2 l1
  have m3 := mul_len l1 l2
  have m4 := add_len m1 m2
  refine Ct.go T_ok T_mix (N := 22) Tryz.func55 rfl rfl rfl rfl ?_
  refine X1 _ (mul_ct a d (by omega) (by omega)) ?_
  refine X1 _ (mul_ct c b (by omega) (by omega)) ?_
  refine X1 _ (add25_ct _ _ (by omega) (by omega)) ?_
  refine X1 _ (mul_ct b d (by omega) (by omega)) ?_
  refine X1 _ (rof_ct _ _ (Nat.mul_ne_zero p1 p2) (by omega) (by omega)) ?_
  refine And.intro rfl ?_
  exact ⟨trivial, rc rfl, trivial⟩
end Go.Proofs.YtpmchgndnhgncaaGreat.Pv
namespace Go.Proofs.YtpmchgndnhgncaaGreat.Pv
open Go
def iRow (l : List Int) : List (List PC) := l.map fun x => [eI .i64 x]
abbrev iSl (l : List Int) : PC := .sl 1 (iRow l)
theorem iRow_len {l : List Int} : (iRow l).length = l.length := by simp [iRow]
theorem iRow_getN {l : List Int} {i : Int} {n : Nat} (h0 : i = n) (h : n < l.length) : (iRow l)[i.toNat]? = some [eI .i64 (l.getD n 0)] := by
  subst h0
  simp [iRow, h]
theorem getD_eq_of {l m : List Int} {i : Nat} (hl : i < l.length) (hm : i < m.length) (h : l.getD i 0 = m.getD i 0) : l[i]? = m[i]? := by
  rw [List.getD_eq_getElem?_getD, List.getD_eq_getElem?_getD, List.getElem?_eq_getElem hl, List.getElem?_eq_getElem hm] at h
  rw [List.getElem?_eq_getElem hl, List.getElem?_eq_getElem hm]
  exact congrArg some h
theorem take_eq_succ {l m : List Int} {i : Nat} (hl : i < l.length) (hm : i < m.length) (h0 : l.take i = m.take i) (h : l.getD i 0 = m.getD i 0) : l.take (i + 1) = m.take (i + 1) := by
  rw [List.take_add_one, List.take_add_one, h0, getD_eq_of hl hm h]
theorem equal_ct (l m : List Int) (hl : l.length ≤ 1000000) (hm : m.length ≤ 1000000) : Ct P 146 [.c (iSl l), .c (iSl m)] [.c (.sc (.bool (decide (l = m))))] := by
  refine Ct.go T_ok T_mix (N := 26) Tryz.func146 rfl rfl rfl rfl ?_
  refine And.intro (by rw [iRow_len]; omega) ?_
  refine And.intro (by rw [iRow_len]; omega) ?_
  rw [iRow_len, iRow_len]
  refine ncase (fun h => ?_) (fun h => ?_)
  · have hne : l ≠ m := fun e => h (by rw [e])
    rw [decide_eq_false hne]
    exact ⟨trivial, r1 rfl, trivial⟩
  · refine And.intro (by rw [iRow_len]; omega) ?_
    rw [iRow_len]
    refine loopJ T_ok T_mix (fun i : Nat => i ≤ l.length ∧ l.take i = m.take i) (fun i => [(0, .c (iSl l)), (1, .c (iSl m)), (12, .c (nI .i64 l.length)), (13, .c (nI .i64 i))]) (fun _ => []) (fun i => l.length - i)
      0 ⟨by omega, rfl⟩ ⟨rfl, rfl, rfl, rfl, trivial⟩ trivial (fun _ : Unit => l = m) (fun _ => []) (fun _ => []) (fun i hi => ?_) (fun _ he => ?_)
    · obtain ⟨h1, h2⟩ := hi
      refine dcase (fun h5 => ?_) (fun h5 => ?_)
      · refine And.intro (by omega) (X1 _ (iRow_getN rfl (by omega)) ?_)
        refine And.intro (by omega) (X1 _ (iRow_getN rfl (by omega)) ?_)
        refine And.intro rfl ?_
        refine ncase (fun h6 => ?_) (fun h6 => ?_)
        · have hne : l ≠ m := fun e => h6 (by rw [e])
          rw [decide_eq_false hne]
          exact ⟨trivial, r1 rfl, trivial⟩
        · refine X1 ((i + 1 : Nat) : Int) (wI (by simp) (by omega) (by omega)) ?_
          exact ⟨i + 1, ⟨by omega, take_eq_succ (by omega) (by omega) h2 h6⟩, by omega, ⟨rfl, rfl, rfl, rfl, trivial⟩, trivial⟩
      · have e : i = l.length := by omega
        subst e
        rw [List.take_length, List.take_of_length_le (by omega)] at h2
        exact ⟨(), h2, trivial, trivial⟩
    · rw [decide_eq_true he]
      exact ⟨trivial, r1 rfl, trivial⟩
theorem ints_ct (l m : List Int) (hl : l.length ≤ 1000000) (hm : m.length ≤ 1000000) : Ct P 69 [.c (iSl l), .c (iSl m)] [.c (.sc (.bool (decide (l = m))))] := by
  refine Ct.go T_ok T_mix (N := 26) Tryz.func69 rfl rfl rfl rfl ?_
  refine And.intro (by rw [iRow_len]; omega) ?_
  refine And.intro (by rw [iRow_len]; omega) ?_
  rw [iRow_len, iRow_len]
  refine ncase (fun h => ?_) (fun h => ?_)
  · have hne : l ≠ m := fun e => h (by rw [e])
    rw [decide_eq_false hne]
    exact ⟨trivial, r1 rfl, trivial⟩
  · refine loopJ T_ok T_mix (fun i : Nat => i ≤ l.length ∧ l.take i = m.take i) (fun i => [(0, .c (iSl l)), (1, .c (iSl m)), (5, .c (nI .i64 i))]) (fun _ => []) (fun i => l.length - i)
      0 ⟨by omega, rfl⟩ ⟨rfl, rfl, rfl, trivial⟩ trivial (fun _ : Unit => l = m) (fun _ => []) (fun _ => []) (fun i hi => ?_) (fun _ he => ?_)
    · obtain ⟨h1, h2⟩ := hi
      refine And.intro (by rw [iRow_len]; omega) ?_
      rw [iRow_len]
      refine dcase (fun h5 => ?_) (fun h5 => ?_)
      · refine And.intro (by omega) (X1 _ (iRow_getN rfl (by omega)) ?_)
        refine And.intro (by omega) (X1 _ (iRow_getN rfl (by omega)) ?_)
        refine And.intro rfl ?_
        refine ncase (fun h6 => ?_) (fun h6 => ?_)
        · have hne : l ≠ m := fun e => h6 (by rw [e])
          rw [decide_eq_false hne]
          exact ⟨trivial, r1 rfl, trivial⟩
        · refine X1 ((i + 1 : Nat) : Int) (wI (by simp) (by omega) (by omega)) ?_
          exact ⟨i + 1, ⟨by omega, take_eq_succ (by omega) (by omega) h2 h6⟩, by omega, ⟨rfl, rfl, rfl, trivial⟩, trivial⟩
      · have e : i = l.length := by omega
        subst e
        rw [List.take_length, List.take_of_length_le (by omega)] at h2
        exact ⟨(), h2, trivial, trivial⟩
    · rw [decide_eq_true he]
      exact ⟨trivial, r1 rfl, trivial⟩
def idx (x : Int) : List Int → Int
  | [] => -1
  | y :: l => if x = y then 0 else if idx x l < 0 then -1 else idx x l + 1
theorem idx_spec (x : Int) : ∀ (l : List Int) (i : Nat), (∀ j, j < i → l[j]? ≠ some x) → l[i]? = some x → idx x l = i
  | [], i, _, h => by simp at h
  | y :: l, 0, _, h => by simp at h; simp [idx, h]
  | y :: l, i + 1, h1, h => by
    have h0 : y ≠ x := fun e => h1 0 (by omega) (by simp [e])
    have := idx_spec x l i (fun j hj => by simpa using h1 (j + 1) (by omega)) (by simpa using h)
    simp only [idx, this]
    rw [if_neg (fun e => h0 e.symm), if_neg (by omega)]
    simp
theorem idx_none (x : Int) : ∀ (l : List Int), (∀ j : Nat, l[j]? ≠ some x) → idx x l = -1
  | [], _ => rfl
  | y :: l, h => by
    have h0 : y ≠ x := fun e => h 0 (by simp [e])
    have := idx_none x l (fun j => by simpa using h (j + 1))
    simp only [idx, this]
    rw [if_neg (fun e => h0 e.symm), if_pos (by omega)]
theorem index_ct (l : List Int) (x : Int) (hl : l.length ≤ 1000000) : Ct P 149 [.c (iSl l), .c (eI .i64 x)] [.c (eI .i64 (idx x l))] := by
  refine Ct.go T_ok T_mix (N := 19) Tryz.func149 rfl rfl rfl rfl ?_
  refine And.intro (by rw [iRow_len]; omega) ?_
  rw [iRow_len]
  refine loopJ T_ok T_mix (fun i : Nat => i ≤ l.length ∧ ∀ j, j < i → l[j]? ≠ some x) (fun i => [(0, .c (iSl l)), (1, .c (eI .i64 x)), (7, .c (nI .i64 l.length)), (8, .c (nI .i64 i))]) (fun _ => []) (fun i => l.length - i)
    0 ⟨by omega, fun j hj => by omega⟩ ⟨rfl, rfl, rfl, rfl, trivial⟩ trivial (fun _ : Unit => idx x l = -1) (fun _ => []) (fun _ => []) (fun i hi => ?_) (fun _ he => ?_)
  · obtain ⟨h1, h2⟩ := hi
    refine dcase (fun h5 => ?_) (fun h5 => ?_)
    · refine And.intro (by omega) (X1 _ (iRow_getN rfl (by omega)) ?_)
      have hg : l[i]? = some (l.getD i 0) := by simp [List.getD_eq_getElem?_getD, (by omega : i < l.length)]
      refine ecase (fun h6 => ?_) (fun h6 => ?_)
      · exact ⟨trivial, r1 (iE (idx_spec x l i h2 (by rw [hg, h6])).symm), trivial⟩
      · refine X1 ((i + 1 : Nat) : Int) (wI (by simp) (by omega) (by omega)) ?_
        refine ⟨i + 1, ⟨by omega, fun j hj => ?_⟩, by omega, ⟨rfl, rfl, rfl, rfl, trivial⟩, trivial⟩
        by_cases hji : j = i
        · subst hji
          rw [hg]
          intro e
          exact h6 (Option.some.inj e).symm
        · exact h2 j (by omega)
    · refine ⟨(), idx_none x l (fun j => ?_), trivial, trivial⟩
      by_cases hj : j < i
      · exact h2 j hj
      · rw [List.getElem?_eq_none (by omega)]; simp
  · exact ⟨trivial, r1 (iE he.symm), trivial⟩
theorem contains_ct (l : List Int) (x : Int) (hl : l.length ≤ 1000000) : Ct P 107 [.c (iSl l), .c (eI .i64 x)] [.c (.sc (.bool (decide (idx x l ≥ 0))))] := by
  refine Ct.go T_ok T_mix (N := 9) Tryz.func107 rfl rfl rfl rfl ?_
  refine X1 _ (index_ct l x hl) ?_
  exact ⟨trivial, r1 rfl, trivial⟩
def lexC : List Int → List Int → Int
  | [], [] => 0
  | [], _ :: _ => -1
  | _ :: _, [] => 1
  | x :: l, y :: m => if cmpI x y ≠ 0 then cmpI x y else lexC l m
theorem compare_ct (l m : List Int) (hl : l.length ≤ 1000000) (hm : m.length ≤ 1000000) : Ct P 140 [.c (iSl l), .c (iSl m)] [.c (eI .i64 (lexC l m))] := by
  refine Ct.go T_ok T_mix (N := 36) Tryz.func140 rfl rfl rfl rfl ?_
  refine And.intro (by rw [iRow_len]; omega) ?_
  rw [iRow_len]
  refine loopJ T_ok T_mix (fun i : Nat => i ≤ l.length ∧ i ≤ m.length ∧ lexC l m = lexC (l.drop i) (m.drop i)) (fun i => [(0, .c (iSl l)), (1, .c (iSl m)), (9, .c (iSl l)), (10, .c (nI .i64 l.length)), (11, .c (nI .i64 i))]) (fun _ => []) (fun i => l.length - i)
    0 ⟨by omega, by omega, rfl⟩ ⟨rfl, rfl, rfl, rfl, rfl, trivial⟩ trivial (fun _ : Unit => l.length ≤ m.length ∧ lexC l m = if l.length < m.length then -1 else 0) (fun _ => [(0, .c (iSl l)), (1, .c (iSl m))]) (fun _ => []) (fun i hi => ?_) (fun _ he => ?_)
  · obtain ⟨h1, h2, h3⟩ := hi
    refine dcase (fun h5 => ?_) (fun h5 => ?_)
    · refine And.intro (by omega) (X1 _ (iRow_getN rfl (by omega)) ?_)
      refine And.intro (by rw [iRow_len]; omega) ?_
      rw [iRow_len]
      have dl : l.drop i = l.getD i 0 :: l.drop (i + 1) := by
        rw [List.drop_eq_getElem_cons (by omega)]; simp [List.getD_eq_getElem?_getD, (by omega : i < l.length)]
      refine dcase (fun h6 => ?_) (fun h6 => ?_)
      · have dm : m.drop i = [] := List.drop_eq_nil_of_le (by omega)
        rw [dl, dm, lexC] at h3
        exact ⟨trivial, r1 (iE h3.symm), trivial⟩
      · have dm : m.drop i = m.getD i 0 :: m.drop (i + 1) := by
          rw [List.drop_eq_getElem_cons (by omega)]; simp [List.getD_eq_getElem?_getD, (by omega : i < m.length)]
        rw [dl, dm, lexC] at h3
        refine And.intro (by omega) (X1 _ (iRow_getN rfl (by omega)) ?_)
        refine X1 _ (cmpI_ct _ _) ?_
        refine ncase (fun h7 => ?_) (fun h7 => ?_)
        · rw [if_pos h7] at h3
          exact ⟨trivial, r1 (iE h3.symm), trivial⟩
        · rw [if_neg (fun h => h h7)] at h3
          refine X1 ((i + 1 : Nat) : Int) (wI (by simp) (by omega) (by omega)) ?_
          exact ⟨i + 1, ⟨by omega, by omega, h3⟩, by omega, ⟨rfl, rfl, rfl, rfl, rfl, trivial⟩, trivial⟩
    · have e : i = l.length := by omega
      subst e
      refine ⟨(), ⟨h2, ?_⟩, ⟨rfl, rfl, trivial⟩, trivial⟩
      rw [h3, List.drop_length]
      cases hd : m.drop l.length with
      | nil =>
        have := List.drop_eq_nil_iff.1 hd
        rw [if_neg (by omega)]; rfl
      | cons y t =>
        have : ¬ m.length ≤ l.length := fun h => by rw [List.drop_eq_nil_of_le h] at hd; cases hd
        rw [if_pos (by omega)]; rfl
  · obtain ⟨h1, h2⟩ := he
    refine And.intro (by rw [iRow_len]; omega) ?_
    refine And.intro (by rw [iRow_len]; omega) ?_
    rw [iRow_len, iRow_len]
    refine dcase (fun h5 => ?_) (fun h5 => ?_)
    · rw [if_pos (by omega)] at h2
      exact ⟨trivial, r1 (iE h2.symm), trivial⟩
    · rw [if_neg (by omega)] at h2
      exact ⟨trivial, r1 (iE h2.symm), trivial⟩
theorem gcompare_ct (l m : List Int) (hl : l.length ≤ 1000000) (hm : m.length ≤ 1000000) : Ct P 102 [.c (iSl l), .c (iSl m)] [.c (eI .i64 (lexC l m))] := by
  refine Ct.go T_ok T_mix (N := 8) Tryz.func102 rfl rfl rfl rfl ?_
  refine X1 _ (compare_ct l m hl hm) ?_
  exact ⟨trivial, r1 rfl, trivial⟩
end Go.Proofs.YtpmchgndnhgncaaGreat.Pv
