/- Parts of a proof, joined: Ci Cj Ck Cl Cm. -/
import Derived.Test.YtpmchgndnhgncaaGreatKbG
namespace Go.Proofs.YtpmchgndnhgncaaGreat.Pv
open Go
section
variable {u d1 d0 x q r : Nat}
theorem dv_le (h : q * d1 + r = u) (ht : q * d0 ≤ 4294967296 * r + x) (hp : 0 < d1 * 4294967296 + d0) (hq : (u * 4294967296 + x) / (d1 * 4294967296 + d0) ≤ q) : (u * 4294967296 + x) / (d1 * 4294967296 + d0) = q := by
  refine Nat.le_antisymm hq ((Nat.le_div_iff_mul_le hp).2 ?_)
  have e : q * (d1 * 4294967296 + d0) = q * d1 * 4294967296 + q * d0 := by rw [Nat.mul_add, Nat.mul_assoc]
  omega
theorem dv_gt (h : q * d1 + r = u) (ht : 4294967296 * r + x < q * d0) : (u * 4294967296 + x) / (d1 * 4294967296 + d0) < q := by
  apply Nat.div_lt_of_lt_mul
  have e : (d1 * 4294967296 + d0) * q = q * d1 * 4294967296 + q * d0 := by rw [Nat.mul_comm, Nat.mul_add, Nat.mul_assoc]
  omega
theorem dv_lt (hu : u < d1 * 4294967296 + d0) (hx : x < 4294967296) : (u * 4294967296 + x) / (d1 * 4294967296 + d0) < 4294967296 := by
  apply Nat.div_lt_of_lt_mul
  have : (u + 1) * 4294967296 ≤ (d1 * 4294967296 + d0) * 4294967296 := Nat.mul_le_mul_right _ hu
  omega
theorem dv_0 (hd : 2147483648 ≤ d1) (hd0 : d0 < 4294967296) (hu : u < d1 * 4294967296 + d0) (hx : x < 4294967296) :
    u / d1 * d1 + u % d1 = u ∧ (u * 4294967296 + x) / (d1 * 4294967296 + d0) ≤ u / d1 ∧ u / d1 ≤ 4294967297 ∧ u % d1 < d1 := by
  have h0 := Nat.div_add_mod u d1
  have hm := Nat.mod_lt u (show 0 < d1 by omega)
  refine ⟨by rw [Nat.mul_comm]; exact h0, ?_, ?_, hm⟩
  · refine Nat.le_of_lt_succ (Nat.div_lt_of_lt_mul ?_)
    have e : (d1 * 4294967296 + d0) * (u / d1 + 1) = d1 * (u / d1) * 4294967296 + d1 * 4294967296 + d0 * (u / d1 + 1) := by
      rw [Nat.add_mul, Nat.mul_assoc, Nat.mul_comm 4294967296, ← Nat.mul_assoc, Nat.mul_add, Nat.mul_one, Nat.add_mul]
    show u * 4294967296 + x < (d1 * 4294967296 + d0) * (u / d1 + 1)
    omega
  · have h1 : d0 < d1 * 2 := by omega
    have e : d1 * (4294967296 + 2) = d1 * 4294967296 + d1 * 2 := Nat.mul_add _ _ _
    have h2 : u < d1 * (4294967296 + 2) := by rw [e]; exact Nat.lt_trans hu (Nat.add_lt_add_left h1 _)
    have h3 : u / d1 < 4294967296 + 2 := Nat.div_lt_of_lt_mul h2
    clear h2 e
    omega
end
theorem dv_step {u d1 d0 x q r T : Nat} (hd0 : d0 < 4294967296) (hp : 0 < d1 * 4294967296 + d0) (hT : T = (u * 4294967296 + x) / (d1 * 4294967296 + d0)) (h : q * d1 + r = u) (hq : q ≤ 4294967297) (ht : T < q) :
    (q - 1) * d1 + (r + d1) = u ∧ (4294967296 ≤ r + d1 → T = q - 1) := by
  obtain ⟨p, rfl⟩ : ∃ p, q = p + 1 := ⟨q - 1, by omega⟩
  rw [Nat.add_mul, Nat.one_mul] at h
  rw [Nat.add_sub_cancel]
  have e : p * d1 + (r + d1) = u := by omega
  refine ⟨e, fun hr => ?_⟩
  rw [hT]
  refine dv_le e ?_ hp (by omega)
  have h1 : p * d0 ≤ 4294967296 * d0 := Nat.mul_le_mul_right _ (by omega)
  have h2 : 4294967296 * d0 ≤ 4294967296 * (r + d1) := Nat.mul_le_mul_left _ (by omega)
  omega
theorem wE (n : Int) : IntKind.u64.wrap n = n % 18446744073709551616 := by simp [IntKind.wrap, IntKind.bits, IntKind.signed]
theorem dv_rem {u x q y r : Nat} (h : u * 4294967296 + x = q * y + r) (hr : r < 18446744073709551616) : IntKind.u64.wrap (IntKind.u64.wrap (IntKind.u64.wrap ((u : Int) * 4294967296) + (x : Int)) - IntKind.u64.wrap ((q : Int) * (y : Int))) = (r : Int) := by
  rw [← Int.natCast_mul q y, wE, wE, wE, wE]
  omega
theorem orU {x y : Nat} (hx : x < 18446744073709551616) (hy : y < 18446744073709551616) : IntKind.u64.wrap ((BitVec.ofInt IntKind.u64.bits (x : Int) ||| BitVec.ofInt IntKind.u64.bits (y : Int)).toNat : Int) = ((x ||| y : Nat) : Int) := by
  have e : (BitVec.ofInt IntKind.u64.bits (x : Int) ||| BitVec.ofInt IntKind.u64.bits (y : Int)).toNat = x ||| y := by
    show (BitVec.ofInt 64 (x : Int) ||| BitVec.ofInt 64 (y : Int)).toNat = _
    rw [BitVec.ofInt_natCast, BitVec.ofInt_natCast, BitVec.toNat_or, BitVec.toNat_ofNat, BitVec.toNat_ofNat, Nat.mod_eq_of_lt (by omega : x < 2 ^ 64), Nat.mod_eq_of_lt (by omega : y < 2 ^ 64)]
  have h := Nat.or_lt_two_pow (x := x) (y := y) (n := 64) (by omega) (by omega)
  rw [e, modU, Nat.mod_eq_of_lt]
  simpa using h
theorem inU {n : Nat} (h : n ≤ 18446744073709551615) : inR .u64 (n : Int) := ⟨Int.natCast_nonneg n, Int.ofNat_le.2 h⟩
theorem shlN {x k : Nat} (h : k ≤ 64) : IntKind.u64.wrap ((x : Int) * 2 ^ min ((k : Nat) : Int).toNat IntKind.u64.bits) = ((x * 2 ^ k % 18446744073709551616 : Nat) : Int) := by
  show IntKind.u64.wrap ((x : Int) * 2 ^ min ((k : Nat) : Int).toNat 64) = _
  rw [Int.toNat_natCast, Nat.min_eq_left h, ← modU]
  simp
theorem dv_two {u x1 x0 y a b c d : Nat} (hy : 0 < y) (e1 : y * a + b = u * 4294967296 + x1) (hc : (b * 4294967296 + x0) / y = c) (hd : (b * 4294967296 + x0) % y = d) : (u * 18446744073709551616 + (x1 * 4294967296 + x0)) / y = a * 4294967296 + c ∧
    (u * 18446744073709551616 + (x1 * 4294967296 + x0)) % y = d := by
  have e : u * 18446744073709551616 + (x1 * 4294967296 + x0) = b * 4294967296 + x0 + y * (a * 4294967296) := by rw [← Nat.mul_assoc]; omega
  rw [e, Nat.add_mul_div_left _ _ hy, Nat.add_mul_mod_self_left, hc, hd]
  exact ⟨Nat.add_comm _ _, rfl⟩
theorem dv_sh {hi lo y s : Nat} (hlo : lo < 18446744073709551616) (hhi : hi < y) (hy : y < 2 ^ (64 - s)) (hs : s ≤ 64) :
    hi * 2 ^ s < 18446744073709551616 ∧ (hi * 2 ^ s ||| lo / 2 ^ (64 - s)) = hi * 2 ^ s + lo / 2 ^ (64 - s) ∧ (hi * 2 ^ s + lo / 2 ^ (64 - s)) * 18446744073709551616 + lo * 2 ^ s % 18446744073709551616 = (hi * 18446744073709551616 + lo) * 2 ^ s ∧ hi * 2 ^ s + lo / 2 ^ (64 - s) < y * 2 ^ s ∧ y * 2 ^ s < 18446744073709551616 := by
  have e64 : 2 ^ s * 2 ^ (64 - s) = 18446744073709551616 := by rw [← Nat.pow_add, show s + (64 - s) = 64 by omega]
  have hp : 0 < 2 ^ s := Nat.two_pow_pos s
  have hp2 : 0 < 2 ^ (64 - s) := Nat.two_pow_pos _
  generalize 2 ^ (64 - s) = b at *
  have hq : lo / b < 2 ^ s := Nat.div_lt_of_lt_mul (by rw [Nat.mul_comm, e64]; exact hlo)
  have hor : (hi * 2 ^ s ||| lo / b) = hi * 2 ^ s + lo / b := by
    rw [Nat.mul_comm]; exact (Nat.two_pow_add_eq_or_of_lt hq hi).symm
  rw [hor]
  generalize 2 ^ s = a at *
  have h1 : (hi + 1) * a ≤ y * a := Nat.mul_le_mul_right _ hhi
  rw [Nat.add_mul, Nat.one_mul] at h1
  have h2 : (y + 1) * a ≤ b * a := Nat.mul_le_mul_right _ hy
  rw [Nat.mul_comm b, e64, Nat.add_mul, Nat.one_mul] at h2
  have h3 : lo * a % 18446744073709551616 = lo % b * a := by
    have hlt : lo % b * a < 18446744073709551616 := by
      rw [← e64, Nat.mul_comm a]; exact Nat.mul_lt_mul_of_pos_right (Nat.mod_lt _ hp2) hp
    have : lo * a = lo % b * a + 18446744073709551616 * (lo / b) := by
      conv => lhs; rw [← Nat.div_add_mod lo b]
      rw [Nat.add_mul, ← e64, Nat.mul_comm b, Nat.mul_assoc, Nat.mul_comm b, Nat.mul_comm (lo / b)]
      omega
    rw [this, Nat.add_mul_mod_self_left, Nat.mod_eq_of_lt hlt]
  have h4 : lo * a = lo % b * a + 18446744073709551616 * (lo / b) := by
    conv => lhs; rw [← Nat.div_add_mod lo b]
    rw [Nat.add_mul, ← e64, Nat.mul_comm b, Nat.mul_assoc, Nat.mul_comm b, Nat.mul_comm (lo / b)]
    omega
  refine ⟨by omega, rfl, ?_, by omega, by omega⟩
  rw [h3, Nat.add_mul (hi * 18446744073709551616), Nat.mul_right_comm]
  omega
theorem div64_ct (hi lo y : Nat) (hhi : hi < y) (hlo : lo < 18446744073709551616) (hy : y < 18446744073709551616) : Ct P 132 [.c (nI .u64 hi), .c (nI .u64 lo), .c (nI .u64 y)] [.c (nI .u64 ((hi * 18446744073709551616 + lo) / y)), .c (nI .u64 ((hi * 18446744073709551616 + lo) % y))] := by
  refine Ct.go T_ok T_mix (N := 135) Tryz.func132 rfl rfl rfl rfl ?_
  refine ecase (fun h => ?_) (fun _ => ?_)
  · omega
  refine dcase (fun h => ?_) (fun _ => ?_)
  · omega
  refine ecase (fun h0 => ?_) (fun h0 => ?_)
  · have e0 : hi = 0 := by omega
    subst e0
    rw [Nat.zero_mul, Nat.zero_add]
    have hl := Nat.div_le_self lo y
    have hm := Nat.mod_lt lo hhi
    refine And.intro (by omega) (X1 ((lo / y : Nat) : Int) (tdivN rfl) (And.intro (inU (by omega)) ?_))
    refine And.intro (by omega) (X1 ((lo % y : Nat) : Int) (tmodN rfl) (And.intro (inU (by omega)) ?_))
    refine And.intro rfl ?_
    exact ⟨trivial, r1 rfl, r1 rfl, trivial⟩
  · have hbl := blen_le (n := y) (k := 64) (by omega)
    obtain ⟨s, hs⟩ : ∃ s, s = 64 - blen y := ⟨_, rfl⟩
    have hy2 : y < 2 ^ (64 - s) := by rw [hs, show 64 - (64 - blen y) = blen y by omega]; exact lt_blen y
    obtain ⟨hs1, hs2, hs3, hs4, hs5⟩ := dv_sh hlo hhi hy2 (by omega)
    have htop : 9223372036854775808 ≤ y * 2 ^ s := by
      have h1 := le_blen (n := y) (by omega)
      have h2 : blen y ≠ 0 := fun h => by have := lt_blen y; rw [h] at this; omega
      have h3 := Nat.mul_le_mul_right (2 ^ s) h1
      rw [← Nat.pow_add, show blen y - 1 + s = 63 by omega] at h3
      omega
    have hps := Nat.two_pow_pos s
    have hq : (hi * 18446744073709551616 + lo) / y = (hi * 18446744073709551616 + lo) * 2 ^ s / (y * 2 ^ s) := (Nat.mul_div_mul_right _ _ hps).symm
    have hr : (hi * 18446744073709551616 + lo) % y = (hi * 18446744073709551616 + lo) * 2 ^ s % (y * 2 ^ s) / 2 ^ s := by rw [Nat.mul_mod_mul_right, Nat.mul_div_cancel _ hps]
    rw [hq, hr, ← hs3]
    clear hq hr hs3
    obtain ⟨Y, hY⟩ : ∃ Y, Y = y * 2 ^ s := ⟨_, rfl⟩
    obtain ⟨U, hU⟩ : ∃ U, U = hi * 2 ^ s + lo / 2 ^ (64 - s) := ⟨_, rfl⟩
    obtain ⟨L, hL⟩ : ∃ L, L = lo * 2 ^ s % 18446744073709551616 := ⟨_, rfl⟩
    have hLl : L < 18446744073709551616 := by rw [hL]; exact Nat.mod_lt _ (by decide)
    rw [← hY, ← hU, ← hL]
    rw [← hY, ← hU] at hs4
    rw [← hY] at hs5 htop
    refine X1 _ (lz64_ct y hy) ?_
    refine X1 ((s : Nat) : Int) (wU (by omega) (by omega) (by omega)) ?_
    refine And.intro (by omega) (X1 ((Y : Nat) : Int) (by rw [shlN (by omega), ← hY, Nat.mod_eq_of_lt hs5]) ?_)
    obtain ⟨d1, hd1⟩ : ∃ d, d = Y / 4294967296 := ⟨_, rfl⟩
    obtain ⟨d0, hd0⟩ : ∃ d, d = Y % 4294967296 := ⟨_, rfl⟩
    obtain ⟨x1, hx1⟩ : ∃ d, d = L / 4294967296 := ⟨_, rfl⟩
    obtain ⟨x0, hx0⟩ : ∃ d, d = L % 4294967296 := ⟨_, rfl⟩
    have hYd : Y = d1 * 4294967296 + d0 := by omega
    have hLx : L = x1 * 4294967296 + x0 := by omega
    refine And.intro (by omega) (X1 ((d1 : Nat) : Int) (by rw [hd1]; exact shrN (k := 32) (by decide)) (And.intro (inU (by omega)) ?_))
    refine X1 ((d0 : Nat) : Int) (by rw [hd0]; exact and32 hs5) ?_
    have hle : lo / 2 ^ (64 - s) ≤ lo := Nat.div_le_self _ _
    refine And.intro (by omega) (X1 ((hi * 2 ^ s : Nat) : Int) (by rw [shlN (by omega), Nat.mod_eq_of_lt hs1]) ?_)
    refine X1 ((64 - s : Nat) : Int) (wU (by omega) (by omega) (by omega)) ?_
    refine And.intro (by omega) (X1 ((lo / 2 ^ (64 - s) : Nat) : Int) (shrN (k := 64 - s) (by omega)) (And.intro (inU (by omega)) ?_))
    refine X1 ((U : Nat) : Int) (by rw [orU hs1 (by omega), hs2, hU]) ?_
    refine And.intro (by omega) (X1 ((L : Nat) : Int) (by rw [shlN (by omega), hL]) ?_)
    refine And.intro (by omega) (X1 ((x1 : Nat) : Int) (by rw [hx1]; exact shrN (k := 32) (by decide)) (And.intro (inU (by omega)) ?_))
    refine X1 ((x0 : Nat) : Int) (by rw [hx0]; exact and32 hLl) ?_
    have hd1' : 2147483648 ≤ d1 := by omega
    have hd0' : d0 < 4294967296 := by omega
    have hx1' : x1 < 4294967296 := by omega
    have hx0' : x0 < 4294967296 := by omega
    rw [hYd] at hs4
    obtain ⟨g1, g2, g3, g4⟩ := dv_0 hd1' hd0' hs4 hx1'
    have hT := dv_lt hs4 hx1'
    have hUl : U / d1 * d1 ≤ U := by omega
    refine And.intro (by omega) (X1 ((U / d1 : Nat) : Int) (tdivN rfl) (And.intro (inU (by omega)) ?_))
    refine X1 ((U / d1 * d1 : Nat) : Int) (by rw [← Int.natCast_mul, modU, Nat.mod_eq_of_lt (by omega)]) ?_
    refine X1 ((U % d1 : Nat) : Int) (wU (by omega) (Int.natCast_nonneg _) (by omega)) ?_
    have hY0 : 0 < Y := by omega
    obtain ⟨T, hT'⟩ : ∃ T, T = (U * 4294967296 + x1) / Y := ⟨_, rfl⟩
    obtain ⟨R, hR⟩ : ∃ R, R = (U * 4294967296 + x1) % Y := ⟨_, rfl⟩
    rw [← hYd, ← hT'] at g2 hT
    have hTd : T = (U * 4294967296 + x1) / (d1 * 4294967296 + d0) := by rw [hT', hYd]
    have hRl : R < Y := by rw [hR]; exact Nat.mod_lt _ hY0
    refine loopJ T_ok T_mix (G := Nat × Nat) (fun (q, r) => q * d1 + r = U ∧ T ≤ q ∧ q ≤ 4294967297 ∧ r < 4294967296)
      (fun (q, r) => [(2, .c (nI .u64 Y)), (8, .c (nI .u64 s)), (9, .c (nI .u64 d1)), (10, .c (nI .u64 d0)), (11, .c (nI .u64 U)), (13, .c (nI .u64 x1)), (14, .c (nI .u64 x0)), (15, .c (nI .u64 q)), (16, .c (nI .u64 r))]) (fun _ => []) (fun (q, _) => q)
      (U / d1, U % d1) ⟨g1, g2, g3, by omega⟩ ⟨rfl, rfl, rfl, rfl, rfl, rfl, rfl, rfl, rfl, trivial⟩ trivial
      (fun _ : Unit => True) (fun _ => [(2, .c (nI .u64 Y)), (8, .c (nI .u64 s)), (9, .c (nI .u64 d1)), (10, .c (nI .u64 d0)), (11, .c (nI .u64 U)), (13, .c (nI .u64 x1)), (14, .c (nI .u64 x0)), (15, .c (nI .u64 T))]) (fun _ => []) (fun (q, r) hi => ?_) (fun _ _ => ?_)
    · obtain ⟨k1, k2, k3, k4⟩ := hi
      refine dcase (fun h1 => ?_) (fun h1 => ?_)
      · have hlt : T < q := by omega
        obtain ⟨m1, m2⟩ := dv_step hd0' (by omega) hTd k1 k3 hlt
        refine X1 ((q - 1 : Nat) : Int) (wU (by omega) (by omega) (by omega)) ?_
        refine X1 ((r + d1 : Nat) : Int) (wU (by omega) (by omega) (by omega)) ?_
        refine dcase (fun h2 => ?_) (fun h2 => ?_)
        · exact ⟨(), trivial, ⟨rfl, rfl, rfl, rfl, rfl, rfl, rfl, iE (by rw [m2 (by omega)]), trivial⟩, trivial⟩
        · exact ⟨(q - 1, r + d1), ⟨m1, by omega, by omega, by omega⟩, by show q - 1 < q; omega, ⟨rfl, rfl, rfl, rfl, rfl, rfl, rfl, rfl, rfl, trivial⟩, trivial⟩
      · have hqd : q * d0 ≤ 4294967295 * 4294967295 := Nat.mul_le_mul (by omega) (by omega)
        refine X1 ((q * d0 : Nat) : Int) (by rw [← Int.natCast_mul, modU, Nat.mod_eq_of_lt (by omega)]) ?_
        refine X1 ((4294967296 * r : Nat) : Int) (wU (by omega) (by omega) (by omega)) ?_
        refine X1 ((4294967296 * r + x1 : Nat) : Int) (wU (by omega) (by omega) (by omega)) ?_
        refine dcase (fun h3 => ?_) (fun h3 => ?_)
        · have hlt : T < q := by rw [hTd]; exact dv_gt k1 (Int.ofNat_lt.1 h3)
          obtain ⟨m1, m2⟩ := dv_step hd0' (by omega) hTd k1 k3 hlt
          refine X1 ((q - 1 : Nat) : Int) (wU (by omega) (by omega) (by omega)) ?_
          refine X1 ((r + d1 : Nat) : Int) (wU (by omega) (by omega) (by omega)) ?_
          refine dcase (fun h2 => ?_) (fun h2 => ?_)
          · exact ⟨(), trivial, ⟨rfl, rfl, rfl, rfl, rfl, rfl, rfl, iE (by rw [m2 (by omega)]), trivial⟩, trivial⟩
          · exact ⟨(q - 1, r + d1), ⟨m1, by omega, by omega, by omega⟩, by show q - 1 < q; omega, ⟨rfl, rfl, rfl, rfl, rfl, rfl, rfl, rfl, rfl, trivial⟩, trivial⟩
        · have he : T = q := by rw [hTd]; exact dv_le k1 (by have := fun h => h3 (Int.ofNat_lt.2 h); omega) (by omega) (by rw [← hTd]; exact k2)
          exact ⟨(), trivial, ⟨rfl, rfl, rfl, rfl, rfl, rfl, rfl, iE (by rw [he]), trivial⟩, trivial⟩
    · have hUm : U * 4294967296 + x1 = T * Y + R := by
        have := Nat.div_add_mod (U * 4294967296 + x1) Y
        rw [← hT', ← hR, Nat.mul_comm] at this
        exact this.symm
      refine X1 _ rfl ?_
      refine X1 _ rfl ?_
      refine X1 _ rfl ?_
      refine X1 ((R : Nat) : Int) (dv_rem hUm (by omega)) ?_
      have hs4' := hRl
      rw [hYd] at hs4'
      obtain ⟨f1, f2, f3, f4⟩ := dv_0 hd1' hd0' hs4' hx0'
      have hT2 := dv_lt hs4' hx0'
      have hUl2 : R / d1 * d1 ≤ R := by omega
      refine And.intro (by omega) (X1 ((R / d1 : Nat) : Int) (tdivN rfl) (And.intro (inU (by omega)) ?_))
      refine X1 ((R / d1 * d1 : Nat) : Int) (by rw [← Int.natCast_mul, modU, Nat.mod_eq_of_lt (by omega)]) ?_
      refine X1 ((R % d1 : Nat) : Int) (wU (by omega) (Int.natCast_nonneg _) (by omega)) ?_
      obtain ⟨T2, hT2'⟩ : ∃ T, T = (R * 4294967296 + x0) / Y := ⟨_, rfl⟩
      obtain ⟨R2, hR2⟩ : ∃ T, T = (R * 4294967296 + x0) % Y := ⟨_, rfl⟩
      rw [← hYd, ← hT2'] at f2 hT2
      have hT2d : T2 = (R * 4294967296 + x0) / (d1 * 4294967296 + d0) := by rw [hT2', hYd]
      have hR2l : R2 < Y := by rw [hR2]; exact Nat.mod_lt _ hY0
      refine loopJ T_ok T_mix (G := Nat × Nat) (fun (q, r) => q * d1 + r = R ∧ T2 ≤ q ∧ q ≤ 4294967297 ∧ r < 4294967296)
        (fun (q, r) => [(2, .c (nI .u64 Y)), (8, .c (nI .u64 s)), (9, .c (nI .u64 d1)), (10, .c (nI .u64 d0)), (14, .c (nI .u64 x0)), (15, .c (nI .u64 T)), (17, .c (nI .u64 R)), (18, .c (nI .u64 q)), (16, .c (nI .u64 r))]) (fun _ => []) (fun (q, _) => q)
        (R / d1, R % d1) ⟨f1, f2, f3, by omega⟩ ⟨rfl, rfl, rfl, rfl, rfl, rfl, rfl, rfl, rfl, trivial⟩ trivial
        (fun _ : Unit => True) (fun _ => [(2, .c (nI .u64 Y)), (8, .c (nI .u64 s)), (14, .c (nI .u64 x0)), (15, .c (nI .u64 T)), (17, .c (nI .u64 R)), (18, .c (nI .u64 T2))]) (fun _ => []) (fun (q, r) hi => ?_) (fun _ _ => ?_)
      · obtain ⟨k1, k2, k3, k4⟩ := hi
        refine dcase (fun h1 => ?_) (fun h1 => ?_)
        · have hlt : T2 < q := by omega
          obtain ⟨m1, m2⟩ := dv_step hd0' (by omega) hT2d k1 k3 hlt
          refine X1 ((q - 1 : Nat) : Int) (wU (by omega) (by omega) (by omega)) ?_
          refine X1 ((r + d1 : Nat) : Int) (wU (by omega) (by omega) (by omega)) ?_
          refine dcase (fun h2 => ?_) (fun h2 => ?_)
          · exact ⟨(), trivial, ⟨rfl, rfl, rfl, rfl, rfl, iE (by rw [m2 (by omega)]), trivial⟩, trivial⟩
          · exact ⟨(q - 1, r + d1), ⟨m1, by omega, by omega, by omega⟩, by show q - 1 < q; omega, ⟨rfl, rfl, rfl, rfl, rfl, rfl, rfl, rfl, rfl, trivial⟩, trivial⟩
        · have hqd : q * d0 ≤ 4294967295 * 4294967295 := Nat.mul_le_mul (by omega) (by omega)
          refine X1 ((q * d0 : Nat) : Int) (by rw [← Int.natCast_mul, modU, Nat.mod_eq_of_lt (by omega)]) ?_
          refine X1 ((4294967296 * r : Nat) : Int) (wU (by omega) (by omega) (by omega)) ?_
          refine X1 ((4294967296 * r + x0 : Nat) : Int) (wU (by omega) (by omega) (by omega)) ?_
          refine dcase (fun h3 => ?_) (fun h3 => ?_)
          · have hlt : T2 < q := by rw [hT2d]; exact dv_gt k1 (Int.ofNat_lt.1 h3)
            obtain ⟨m1, m2⟩ := dv_step hd0' (by omega) hT2d k1 k3 hlt
            refine X1 ((q - 1 : Nat) : Int) (wU (by omega) (by omega) (by omega)) ?_
            refine X1 ((r + d1 : Nat) : Int) (wU (by omega) (by omega) (by omega)) ?_
            refine dcase (fun h2 => ?_) (fun h2 => ?_)
            · exact ⟨(), trivial, ⟨rfl, rfl, rfl, rfl, rfl, iE (by rw [m2 (by omega)]), trivial⟩, trivial⟩
            · exact ⟨(q - 1, r + d1), ⟨m1, by omega, by omega, by omega⟩, by show q - 1 < q; omega, ⟨rfl, rfl, rfl, rfl, rfl, rfl, rfl, rfl, rfl, trivial⟩, trivial⟩
          · have he : T2 = q := by rw [hT2d]; exact dv_le k1 (by have := fun h => h3 (Int.ofNat_lt.2 h); omega) (by omega) (by rw [← hT2d]; exact k2)
            exact ⟨(), trivial, ⟨rfl, rfl, rfl, rfl, rfl, iE (by rw [he]), trivial⟩, trivial⟩
      · have hRm : R * 4294967296 + x0 = T2 * Y + R2 := by
          have := Nat.div_add_mod (R * 4294967296 + x0) Y
          rw [← hT2', ← hR2, Nat.mul_comm] at this
          exact this.symm
        obtain ⟨z1, z2⟩ := dv_two (u := U) (x1 := x1) (x0 := x0) hY0 (by rw [Nat.mul_comm, ← hUm]) hT2'.symm hR2.symm
        refine X1 ((T * 4294967296 : Nat) : Int) (wU (by omega) (by omega) (by omega)) ?_
        refine X1 ((T * 4294967296 + T2 : Nat) : Int) (wU (by omega) (by omega) (by omega)) ?_
        refine X1 _ rfl ?_
        refine X1 _ rfl ?_
        refine X1 _ rfl ?_
        refine X1 ((R2 : Nat) : Int) (dv_rem hRm (by omega)) ?_
        have hle2 : R2 / 2 ^ s ≤ R2 := Nat.div_le_self _ _
        refine And.intro (by omega) (X1 ((R2 / 2 ^ s : Nat) : Int) (shrN (k := s) (by omega)) (And.intro (inU (by omega)) ?_))
        rw [hLx]
        exact ⟨trivial, r1 (iE (by rw [z1])), r1 (iE (by rw [z2])), trivial⟩
end Go.Proofs.YtpmchgndnhgncaaGreat.Pv
namespace Go.Proofs.YtpmchgndnhgncaaGreat.Pv
open Go
theorem val_drop (B : Nat) {l : List Nat} {i : Nat} (h : i < l.length) : val B (l.drop i) = l.getD i 0 + B * val B (l.drop (i + 1)) := by
  rw [List.drop_eq_getElem_cons h, val, List.getD_eq_getElem?_getD, List.getElem?_eq_getElem h]
  rfl
theorem val_drop_set (B : Nat) {l : List Nat} {i x : Nat} (h : i < l.length) : val B ((l.set i x).drop i) = x + B * val B (l.drop (i + 1)) := by
  rw [val_drop B (by simpa using h)]
  congr 1
  · simp [List.getD_eq_getElem?_getD, h]
  · rw [List.drop_set_of_lt (by omega)]
theorem dm_uniq {a d q r : Nat} (h : a = d * q + r) (hr : r < d) : q = a / d ∧ r = a % d := by
  subst h
  rw [Nat.mul_add_div (by omega), Nat.mul_add_mod, Nat.div_eq_of_lt hr, Nat.mod_eq_of_lt hr]
  exact ⟨rfl, rfl⟩
theorem nsmall_ct (a d : Nat) (hd : 0 < d) (hd2 : d < 18446744073709551616) (ha : (dg 18446744073709551616 a).length ≤ 1000000) : Ct P 88 [nV a, .c (nI .u64 d)] [nV (a / d), .c (nI .u64 (a % d))] := by
  have hA := dig_dg (B := 18446744073709551616) (by omega) a
  have vA := val_dg (B := 18446744073709551616) (by omega) a
  refine Ct.go T_ok T_mix (N := 38) Tryz.func88 rfl rfl rfl rfl ?_
  refine And.intro (by rw [nRow_len]; omega) ?_
  rw [nRow_len]
  refine ⟨by omega, by omega, by omega, .inl (by decide), ?_⟩
  refine And.intro (by rw [nRow_len]; omega) ?_
  rw [nRow_len]
  refine X1 (((dg 18446744073709551616 a).length : Int) - 1) (wI rfl (by omega) (by omega)) ?_
  refine loopJ T_ok T_mix (G := Nat × List Nat × Nat) (fun (n, out, c) => n ≤ (dg 18446744073709551616 a).length ∧ out.length = (dg 18446744073709551616 a).length ∧ Dig 18446744073709551616 out ∧ c < d ∧ val 18446744073709551616 ((dg 18446744073709551616 a).drop n) = d * val 18446744073709551616 (out.drop n) + c)
    (fun (n, out, c) => [(1, .c (nI .u64 d)), (2, .c (.ad 2 0)), (4, .c (.ad 4 0)), (6, .c (.ow 12 1 (dg 18446744073709551616 a).length)), (7, .c (nI .u64 c)), (8, .c (eI .i64 ((n : Int) - 1)))])
    (fun ((n, out, c) : Nat × List Nat × Nat) => [(2, .var [nSl .u64 (dg 18446744073709551616 a)]), (4, .var [.sc (.slice none 0 0)]), (12, .row 1 (nRow .u64 out))]) (fun (n, out, c) => n)
    ((dg 18446744073709551616 a).length, List.replicate (dg 18446744073709551616 a).length 0, 0) ⟨by simp, by simp, fun x hx => by rw [List.eq_of_mem_replicate hx]; omega, hd, by simp [val]⟩
    ⟨rfl, rfl, rfl, owE (by omega), rfl, rfl, trivial⟩ ⟨rfl, rfl, rowE (rep_row rfl), trivial⟩
    (fun l : List Nat => Dig 18446744073709551616 l ∧ val 18446744073709551616 l = a / d ∧ l.length ≤ 1000000) (fun l => [(4, .c (.ad 4 0)), (6, .c (.ow 12 1 (dg 18446744073709551616 a).length)), (7, .c (nI .u64 (a % d)))]) (fun l => [(4, .var [.sc (.slice none 0 0)]), (12, .row 1 (nRow .u64 l))]) (fun g hg => ?_) (fun l hl => ?_)
  · obtain ⟨n, out, c⟩ := g
    obtain ⟨h1, h2, h3, h4, h6⟩ := hg
    refine dcase (fun h5 => ?_) (fun h5 => ?_)
    · obtain ⟨i, rfl⟩ : ∃ i, n = i + 1 := ⟨n - 1, by omega⟩
      have hx := hA.getD (by omega) i
      have hD := val_drop 18446744073709551616 (l := dg 18446744073709551616 a) (i := i) (by omega)
      refine And.intro (by omega) (X1 _ (nRow_getN (n := i) (by omega) (by omega)) ?_)
      generalize (dg 18446744073709551616 a).getD i 0 = x at hx hD ⊢
      refine X1 _ (div64_ct c x d h4 hx hd2) ?_
      have hm := Nat.mod_lt (c * 18446744073709551616 + x) hd
      have hdm := Nat.div_add_mod (c * 18446744073709551616 + x) d
      have hq : (c * 18446744073709551616 + x) / d < 18446744073709551616 := by
        refine Nat.div_lt_of_lt_mul ?_
        have := Nat.mul_le_mul_right 18446744073709551616 (Nat.succ_le_of_lt h4)
        omega
      generalize (c * 18446744073709551616 + x) / d = q at *
      generalize (c * 18446744073709551616 + x) % d = r at *
      refine And.intro (by omega) (And.intro (by omega) ?_)
      refine X1 _ (nRow_getN (n := i) (by omega) (by omega)) ?_
      refine X1 ((i : Int) - 1) (wI (by omega) (by omega) (by omega)) ?_
      refine ⟨(i, out.set i q, r), ⟨by omega, by simp [h2], h3.set hq, hm, ?_⟩, by show i < i + 1; omega, ⟨rfl, rfl, rfl, rfl, rfl, rfl, trivial⟩, ⟨rfl, rfl, rowE (by rw [← nRow_set, show (((i + 1 : Nat) : Int) - 1).toNat = i by omega]; rfl), trivial⟩⟩
      have hs := val_drop_set 18446744073709551616 (l := out) (i := i) (x := q) (by omega)
      rw [hD, h6, hs, Nat.mul_add, Nat.mul_add, Nat.mul_left_comm d]
      omega
    · have e : n = 0 := by omega
      subst e
      rw [List.drop_zero, List.drop_zero, vA] at h6
      obtain ⟨e1, e2⟩ := dm_uniq h6 h4
      exact ⟨out, ⟨h3, e1, by omega⟩, ⟨rfl, rfl, iE (by rw [e2]), trivial⟩, ⟨rfl, rfl, trivial⟩⟩
  · obtain ⟨h1, h2, h3⟩ := hl
    refine X2 .frz ?_
    refine X1 _ (ntrim_ct l h3) ?_
    rw [trim_dg (by omega) h1, h2]
    exact ⟨trivial, rc rfl, r1 rfl, trivial⟩
theorem sh_split {x s : Nat} (hx : x < 18446744073709551616) (hs : s ≤ 64) : x * 2 ^ s % 18446744073709551616 = x % 2 ^ (64 - s) * 2 ^ s ∧ x * 2 ^ s = x % 2 ^ (64 - s) * 2 ^ s + 18446744073709551616 * (x / 2 ^ (64 - s)) ∧ x / 2 ^ (64 - s) < 2 ^ s := by
  have e64 : 2 ^ s * 2 ^ (64 - s) = 18446744073709551616 := by rw [← Nat.pow_add, show s + (64 - s) = 64 by omega]
  have hp : 0 < 2 ^ s := Nat.two_pow_pos s
  have hp2 : 0 < 2 ^ (64 - s) := Nat.two_pow_pos _
  generalize 2 ^ (64 - s) = b at *
  generalize 2 ^ s = a at *
  have h4 : x * a = x % b * a + 18446744073709551616 * (x / b) := by
    conv => lhs; rw [← Nat.div_add_mod x b]
    rw [Nat.add_mul, ← e64, Nat.mul_comm b, Nat.mul_assoc, Nat.mul_comm b, Nat.mul_comm (x / b)]
    omega
  have hlt : x % b * a < 18446744073709551616 := by
    rw [← e64, Nat.mul_comm a]; exact Nat.mul_lt_mul_of_pos_right (Nat.mod_lt _ hp2) hp
  refine ⟨by rw [h4, Nat.add_mul_mod_self_left, Nat.mod_eq_of_lt hlt], h4, Nat.div_lt_of_lt_mul (by rw [Nat.mul_comm, e64]; exact hx)⟩
theorem or_low {v m s : Nat} (hv : v < 2 ^ s) : (v ||| m * 2 ^ s) = v + m * 2 ^ s := by
  rw [Nat.or_comm, Nat.mul_comm, ← Nat.two_pow_add_eq_or_of_lt hv, Nat.add_comm]
theorem val_up {out : List Nat} {j s x v : Nat} (hx : x < 18446744073709551616) (hs : s ≤ 64) (hj : j + 1 < out.length) (hv : v = out.getD j 0) (h0 : out.getD (j + 1) 0 = 0) (hl : v < 2 ^ s) :
    val 18446744073709551616 ((out.set j (v ||| x * 2 ^ s % 18446744073709551616)).set (j + 1) (x / 2 ^ (64 - s))) = val 18446744073709551616 out + 18446744073709551616 ^ j * (x * 2 ^ s) := by
  obtain ⟨g1, g2, g3⟩ := sh_split hx hs
  rw [g1, or_low hl, g2]
  have e1 := val_set (B := 18446744073709551616) (l := out) (i := j) (x := v + x % 2 ^ (64 - s) * 2 ^ s) (by omega)
  have e2 := val_set (B := 18446744073709551616) (l := out.set j (v + x % 2 ^ (64 - s) * 2 ^ s)) (i := j + 1) (x := x / 2 ^ (64 - s)) (by simpa using hj)
  rw [getD_set_ne (by omega), h0, Nat.mul_zero, Nat.add_zero] at e2
  rw [← hv] at e1
  rw [e2, Nat.pow_succ, Nat.mul_assoc]
  simp only [Nat.mul_add] at e1 ⊢
  omega
theorem or_lt {v m : Nat} (hv : v < 18446744073709551616) (hm : m < 18446744073709551616) : (v ||| m) < 18446744073709551616 := Nat.or_lt_two_pow (n := 64) (by omega) (by omega)
theorem getD_set_eq {l : List Nat} {i v : Nat} (h : i < l.length) : (l.set i v).getD i 0 = v := by simp [List.getD_eq_getElem?_getD, h]
theorem nRow_setget {k : IntKind} {l : List Nat} {i x n : Nat} {j : Int} (h0 : j = n) (h : n < l.length) : ((nRow k l).set i [nI k x])[j.toNat]? = some [nI k ((l.set i x).getD n 0)] := by
  rw [nRow_set]; exact nRow_getN h0 (by simpa using h)
theorem nRow_same {k : IntKind} {l : List Nat} {i x n : Nat} {j : Int} (h0 : j = n) (h1 : i = n) (h : n < l.length) : ((nRow k l).set i [nI k x])[j.toNat]? = some [nI k x] := by
  subst h0; subst h1
  simp [nRow_len, h]
theorem up_ct (a n : Nat) (ha : (dg 18446744073709551616 a).length ≤ 400000) (hn : n ≤ 1000000) : Ct P 123 [nV a, .c (nI .i64 n)] [nV (a * 2 ^ n)] := by
  have hA := dig_dg (B := 18446744073709551616) (by omega) a
  have vA := val_dg (B := 18446744073709551616) (by omega) a
  refine Ct.go T_ok T_mix (N := 63) Tryz.func123 rfl rfl rfl rfl ?_
  refine dcase (fun h0 => ?_) (fun h0 => ?_)
  · have : n = 0 := by omega
    subst this
    rw [Nat.pow_zero, Nat.mul_one]
    exact ⟨trivial, rc rfl, trivial⟩
  · refine X1 _ (nzero_ct a (by omega)) ?_
    refine bcase (fun h1 => ?_) (fun h1 => ?_)
    · have : a = 0 := by simpa using h1
      subst this
      rw [Nat.zero_mul]
      exact ⟨trivial, rc rfl, trivial⟩
    · obtain ⟨k, hk⟩ : ∃ k, k = n / 64 := ⟨_, rfl⟩
      obtain ⟨s, hs⟩ : ∃ s, s = n % 64 := ⟨_, rfl⟩
      refine And.intro (by omega) (X1 ((k : Nat) : Int) (by rw [hk]; exact tdivN rfl) (And.intro ⟨by omega, by omega⟩ ?_))
      refine And.intro (by omega) (X1 ((s : Nat) : Int) (by rw [hs]; exact tmodN rfl) (And.intro ⟨by omega, by omega⟩ ?_))
      refine X1 ((s : Nat) : Int) (wU rfl (by omega) (by omega)) ?_
      refine And.intro (by rw [nRow_len]; omega) ?_
      rw [nRow_len]
      refine X1 (((dg 18446744073709551616 a).length + k : Nat) : Int) (wI (by simp) (by omega) (by omega)) ?_
      refine X1 (((dg 18446744073709551616 a).length + k + 1 : Nat) : Int) (wI (by simp) (by omega) (by omega)) ?_
      refine ⟨by omega, by omega, by omega, .inl (by decide), ?_⟩
      refine And.intro (by rw [nRow_len]; omega) ?_
      rw [nRow_len]
      have e2n : 2 ^ n = 18446744073709551616 ^ k * 2 ^ s := by rw [w_pow, ← Nat.pow_add, show 64 * k + s = n by omega]
      obtain ⟨A, eA⟩ : ∃ A, A = dg 18446744073709551616 a := ⟨_, rfl⟩
      rw [← eA] at hA vA ha
      rw [← eA]
      refine loopJ T_ok T_mix (G := Nat × List Nat) (fun (i, out) => i ≤ A.length ∧ out.length = A.length + k + 1 ∧ Dig 18446744073709551616 out ∧ (∀ j, i + k < j → out.getD j 0 = 0) ∧ out.getD (i + k) 0 < 2 ^ s ∧ val 18446744073709551616 out = val 18446744073709551616 (A.take i) * 2 ^ n)
        (fun (i, out) => [(2, .c (.ad 2 0)), (4, .c (.ad 4 0)), (5, .c (nI .i64 k)), (6, .c (nI .u64 s)), (7, .c (.ow 28 1 (A.length + k + 1))), (30, .c (nSl .u64 A)), (31, .c (nI .i64 A.length)), (32, .c (nI .i64 i))])
        (fun ((i, out) : Nat × List Nat) => [(2, .var [nSl .u64 A]), (4, .var [.sc (.slice none 0 0)]), (28, .row 1 (nRow .u64 out))]) (fun (i, _) => A.length - i)
        (0, List.replicate (A.length + k + 1) 0) ⟨by simp, by simp, fun x hx => by rw [List.eq_of_mem_replicate hx]; omega, fun j _ => by simp [List.getD_eq_getElem?_getD, List.getElem?_replicate]; split <;> rfl, by
          have : (List.replicate (A.length + k + 1) 0).getD (0 + k) 0 = 0 := by simp [List.getD_eq_getElem?_getD, List.getElem?_replicate]; split <;> rfl
          rw [this]; exact Nat.two_pow_pos s, by simp [val, val_rep]⟩
        ⟨rfl, rfl, rfl, rfl, owE (by omega), (by rw [eA]; rfl), (by rw [eA]; rfl), rfl, trivial⟩ ⟨(by rw [eA]; rfl), rfl, rowE (rep_row rfl), trivial⟩
        (fun l : List Nat => Dig 18446744073709551616 l ∧ val 18446744073709551616 l = a * 2 ^ n ∧ l.length ≤ 1000000) (fun l => [(4, .c (.ad 4 0)), (7, .c (.ow 28 1 (A.length + k + 1)))]) (fun l => [(4, .var [.sc (.slice none 0 0)]), (28, .row 1 (nRow .u64 l))]) (fun g hg => ?_) (fun l hl => ?_)
      · obtain ⟨i, out⟩ := g
        obtain ⟨h1, h2, h3, h4, h5, h6⟩ := hg
        refine dcase (fun h7 => ?_) (fun h7 => ?_)
        · have hx := hA.getD (by omega) i
          have hT := val_take_succ 18446744073709551616 A i
          refine And.intro (by omega) (X1 _ (nRow_getN rfl (by omega)) ?_)
          generalize A.getD i 0 = x at hx hT ⊢
          have hv := h3.getD (by omega) (i + k)
          refine X1 ((i + k : Nat) : Int) (wI (by simp) (by omega) (by omega)) ?_
          refine And.intro (by omega) (And.intro (by omega) ?_)
          refine X1 _ (nRow_getN rfl (by omega)) ?_
          have hvu := val_up (out := out) (j := i + k) (s := s) (x := x) hx (by omega) (by omega) rfl (h4 _ (by omega)) h5
          have hor : (out.getD (i + k) 0 ||| x * 2 ^ s % 18446744073709551616) < 18446744073709551616 := or_lt hv (Nat.mod_lt _ (by decide))
          have hsp := sh_split hx (s := s) (by omega)
          generalize out.getD (i + k) 0 = v at *
          refine And.intro (by omega) (X1 _ (shlN (by omega)) ?_)
          refine X1 _ (orU hv (Nat.mod_lt _ (by decide))) ?_
          refine And.intro (by omega) (And.intro (by omega) ?_)
          refine X1 _ (nRow_getN rfl (by omega)) ?_
          have hlow : x / 2 ^ (64 - s) ≤ x := Nat.div_le_self _ _
          refine dcase (fun h8 => ?_) (fun h8 => ?_)
          · refine X1 ((i + k : Nat) : Int) (wI (by simp) (by omega) (by omega)) ?_
            refine X1 ((i + k + 1 : Nat) : Int) (wI (by simp) (by omega) (by omega)) ?_
            refine X1 ((64 - s : Nat) : Int) (wU (by omega) (by omega) (by omega)) ?_
            refine And.intro (by omega) (X1 ((x / 2 ^ (64 - s) : Nat) : Int) (shrN (k := 64 - s) (by omega)) (And.intro (inU (by omega)) ?_))
            refine And.intro (by omega) (And.intro (by omega) ?_)
            refine X1 _ (nRow_setget rfl (by omega)) ?_
            refine X1 ((i + 1 : Nat) : Int) (wI1 (by omega)) ?_
            refine ⟨(i + 1, (out.set (i + k) (v ||| x * 2 ^ s % 18446744073709551616)).set (i + k + 1) (x / 2 ^ (64 - s))), ⟨by omega, by simp [h2], (h3.set hor).set (by omega), fun j hj => by rw [getD_set_ne (by omega), getD_set_ne (by omega)]; exact h4 j (by omega), by rw [show i + 1 + k = i + k + 1 by omega, getD_set_eq (by simp; omega)]; exact hsp.2.2, ?_⟩, by show _ - (i + 1) < _ - i; omega, ⟨rfl, rfl, rfl, rfl, rfl, rfl, rfl, rfl, trivial⟩, ⟨rfl, rfl, rowE (by rw [← nRow_set, ← nRow_set]; rfl), trivial⟩⟩
            rw [hvu, h6, hT, Nat.add_mul, e2n, Nat.pow_add]
            congr 1
            simp only [Nat.mul_assoc, Nat.mul_left_comm, Nat.mul_comm]
          · have e0 : s = 0 := by omega
            have hz : x / 2 ^ (64 - s) = 0 := by rw [e0]; exact Nat.div_eq_of_lt (by omega)
            rw [hz] at hvu
            have hs2 := val_set (B := 18446744073709551616) (l := out.set (i + k) (v ||| x * 2 ^ s % 18446744073709551616)) (i := i + k + 1) (x := 0) (by simp; omega)
            rw [getD_set_ne (by omega), h4 _ (by omega), Nat.mul_zero, Nat.add_zero, Nat.add_zero, hvu] at hs2
            refine X1 ((i + 1 : Nat) : Int) (wI1 (by omega)) ?_
            refine ⟨(i + 1, out.set (i + k) (v ||| x * 2 ^ s % 18446744073709551616)), ⟨by omega, by simp [h2], h3.set hor, fun j hj => by rw [getD_set_ne (by omega)]; exact h4 j (by omega), by rw [getD_set_ne (by omega), h4 _ (by omega)]; exact Nat.two_pow_pos s, ?_⟩, by show _ - (i + 1) < _ - i; omega, ⟨rfl, rfl, rfl, rfl, rfl, rfl, rfl, rfl, trivial⟩, ⟨rfl, rfl, rowE (by rw [← nRow_set]; rfl), trivial⟩⟩
            rw [Nat.add_zero] at hs2
            rw [← hs2, h6, hT, Nat.add_mul, e2n, Nat.pow_add]
            congr 1
            simp only [Nat.mul_assoc, Nat.mul_left_comm, Nat.mul_comm]
        · have e : i = A.length := by omega
          subst e
          rw [val_take_all (Nat.le_refl _), vA] at h6
          exact ⟨out, ⟨h3, h6, by omega⟩, ⟨rfl, rfl, trivial⟩, ⟨rfl, rfl, trivial⟩⟩
      · obtain ⟨h1, h2, h3⟩ := hl
        refine X2 .frz ?_
        refine X1 _ (ntrim_ct l h3) ?_
        rw [trim_dg (by omega) h1, h2]
        exact ⟨trivial, rc rfl, trivial⟩
theorem word_split {x y s v w : Nat} (hx : x < 18446744073709551616) (hy : y < 18446744073709551616) (hs : s < 64) (hv : v = y + 18446744073709551616 * w) :
    (x + 18446744073709551616 * v) / 2 ^ s = (x / 2 ^ s ||| y * 2 ^ (64 - s) % 18446744073709551616) + 18446744073709551616 * (v / 2 ^ s) ∧ x / 2 ^ s < 2 ^ (64 - s) := by
  have e64 : 2 ^ s * 2 ^ (64 - s) = 18446744073709551616 := by rw [← Nat.pow_add, show s + (64 - s) = 64 by omega]
  have hp : 0 < 2 ^ s := Nat.two_pow_pos s
  obtain ⟨g1, _, _⟩ := sh_split hy (s := 64 - s) (by omega)
  have hxl : x / 2 ^ s < 2 ^ (64 - s) := Nat.div_lt_of_lt_mul (by rw [e64]; exact hx)
  rw [g1, or_low hxl, show 64 - (64 - s) = s by omega]
  refine ⟨?_, hxl⟩
  generalize 2 ^ (64 - s) = b at *
  generalize 2 ^ s = a at *
  have h1 : v % a = y % a := by
    rw [hv, ← e64, Nat.mul_assoc, Nat.add_mul_mod_self_left]
  have h2 := Nat.div_add_mod v a
  have h3 : x + 18446744073709551616 * v = x + a * (y % a * b + 18446744073709551616 * (v / a)) := by
    conv => lhs; rw [← h2, h1]
    rw [Nat.mul_add, Nat.mul_add, ← e64, Nat.mul_comm (y % a) b, ← Nat.mul_assoc a b, ← Nat.mul_assoc (a * b) a, Nat.mul_comm (a * b) a, Nat.mul_assoc a (a * b)]
    omega
  rw [h3, Nat.add_mul_div_left _ _ hp, Nat.add_assoc]
theorem nilNV : leA (.ag [.sc (.slice none 0 0)]) (nV 0) := by
  unfold nV
  rw [dg_zero]
  exact ⟨.inr ⟨rfl, 1, rfl⟩, trivial⟩
theorem down_ct (a n : Nat) (ha : (dg 18446744073709551616 a).length ≤ 1000000) (hn : n ≤ 100000000) : Ct P 127 [nV a, .c (nI .i64 n)] [nV (a / 2 ^ n)] := by
  have hA := dig_dg (B := 18446744073709551616) (by omega) a
  have vA := val_dg (B := 18446744073709551616) (by omega) a
  refine Ct.go T_ok T_mix (N := 76) Tryz.func127 rfl rfl rfl rfl ?_
  have e : (if (0 : Int) > ((n : Nat) : Int) then 0 else ((n : Nat) : Int)) = n := if_neg (by omega)
  refine X1 _ (nbits_ct a ha) ?_
  refine dcase (fun h0 => ?_) (fun h0 => ?_)
  · rw [e] at h0
    have : a / 2 ^ n = 0 := Nat.div_eq_of_lt (Nat.lt_of_lt_of_le (lt_blen a) (Nat.pow_le_pow_right (by omega) (by omega)))
    rw [this]
    exact ⟨trivial, ⟨_, rfl, nilNV⟩, trivial⟩
  · rw [e] at h0 ⊢
    have hb := blen_len a
    obtain ⟨k, hk⟩ : ∃ k, k = n / 64 := ⟨_, rfl⟩
    obtain ⟨s, hs⟩ : ∃ s, s = n % 64 := ⟨_, rfl⟩
    refine And.intro (by omega) (X1 ((k : Nat) : Int) (by rw [hk]; exact tdivN rfl) (And.intro ⟨by omega, by omega⟩ ?_))
    refine And.intro (by omega) (X1 ((s : Nat) : Int) (by rw [hs]; exact tmodN rfl) (And.intro ⟨by omega, by omega⟩ ?_))
    refine X1 ((s : Nat) : Int) (wU rfl (by omega) (by omega)) ?_
    have hkl : k < (dg 18446744073709551616 a).length := by omega
    refine And.intro (by rw [nRow_len]; omega) ?_
    rw [nRow_len]
    refine X1 (((dg 18446744073709551616 a).length - k : Nat) : Int) (wI (by omega) (by omega) (by omega)) ?_
    refine ⟨by omega, by omega, by omega, .inl (by decide), ?_⟩
    refine And.intro (by omega) ?_
    obtain ⟨A, eA⟩ : ∃ A, A = dg 18446744073709551616 a := ⟨_, rfl⟩
    rw [← eA] at hA vA ha hkl
    rw [← eA]
    have hV : ∀ i, k + i < A.length → (val 18446744073709551616 (A.drop (k + i))) / 2 ^ s = (A.getD (k + i) 0 / 2 ^ s ||| A.getD (k + i + 1) 0 * 2 ^ (64 - s) % 18446744073709551616) + 18446744073709551616 * (val 18446744073709551616 (A.drop (k + i + 1)) / 2 ^ s) ∧ (A.getD (k + i) 0 / 2 ^ s ||| A.getD (k + i + 1) 0 * 2 ^ (64 - s) % 18446744073709551616) < 18446744073709551616 := fun i hi => by
      have hx := hA.getD (by omega) (k + i)
      have hy := hA.getD (by omega) (k + i + 1)
      have hle := Nat.div_le_self (A.getD (k + i) 0) (2 ^ s)
      refine ⟨?_, or_lt (by omega) (Nat.mod_lt _ (by decide))⟩
      rw [val_drop _ hi]
      rcases Nat.lt_or_ge (k + i + 1) A.length with h | h
      · exact (word_split hx hy (by omega) (val_drop _ h)).1
      · have e1 : A.getD (k + i + 1) 0 = 0 := by rw [List.getD_eq_getElem?_getD, List.getElem?_eq_none h]; rfl
        exact (word_split (w := 0) hx hy (by omega) (by rw [e1, List.drop_eq_nil_of_le h]; rfl)).1
    have hfin : a / 2 ^ n = val 18446744073709551616 (A.drop k) / 2 ^ s := by
      have h1 := val_take 18446744073709551616 A k
      have h2 := val_lt (by omega : 0 < 18446744073709551616) (hA.take (n := k))
      rw [List.length_take, Nat.min_eq_left (by omega)] at h2
      rw [Nat.min_eq_left (by omega), vA] at h1
      rw [show n = 64 * k + s by omega, Nat.pow_add, ← w_pow, ← Nat.div_div_eq_div_mul, h1, Nat.add_mul_div_left _ _ (Nat.pow_pos (by omega)), Nat.div_eq_of_lt h2, Nat.zero_add]
    rw [hfin]
    refine loopJ T_ok T_mix (G := Nat × List Nat) (fun (i, out) => i ≤ A.length - k ∧ out.length = A.length - k ∧ Dig 18446744073709551616 out ∧ val 18446744073709551616 (out.take i) + 18446744073709551616 ^ i * (val 18446744073709551616 (A.drop (k + i)) / 2 ^ s) = val 18446744073709551616 (A.drop k) / 2 ^ s)
      (fun (i, out) => [(2, .c (.ad 2 0)), (4, .c (.ad 4 0)), (5, .c (nI .i64 k)), (6, .c (nI .u64 s)), (7, .c (.ow 26 1 (A.length - k))), (28, .c (nI .i64 (A.length - k : Nat))), (29, .c (nI .i64 i))])
      (fun ((i, out) : Nat × List Nat) => [(2, .var [nSl .u64 A]), (4, .var [.sc (.slice none 0 0)]), (26, .row 1 (nRow .u64 out))]) (fun (i, _) => A.length - i)
      (0, List.replicate (A.length - k) 0) ⟨by simp, by simp, fun x hx => by rw [List.eq_of_mem_replicate hx]; omega, by simp [val]⟩
      ⟨rfl, rfl, rfl, rfl, owE (by omega), rfl, rfl, trivial⟩ ⟨(by rw [eA]; rfl), rfl, rowE (rep_row rfl), trivial⟩
      (fun l : List Nat => Dig 18446744073709551616 l ∧ val 18446744073709551616 l = val 18446744073709551616 (A.drop k) / 2 ^ s ∧ l.length ≤ 1000000) (fun l => [(4, .c (.ad 4 0)), (7, .c (.ow 26 1 (A.length - k)))]) (fun l => [(4, .var [.sc (.slice none 0 0)]), (26, .row 1 (nRow .u64 l))]) (fun g hg => ?_) (fun l hl => ?_)
    · obtain ⟨i, out⟩ := g
      obtain ⟨h1, h2, h3, h4⟩ := hg
      refine dcase (fun h7 => ?_) (fun h7 => ?_)
      · obtain ⟨v1, v2⟩ := hV i (by omega)
        have hx := hA.getD (by omega) (k + i)
        have hlow : A.getD (k + i) 0 / 2 ^ s ≤ A.getD (k + i) 0 := Nat.div_le_self _ _
        refine X1 ((k + i : Nat) : Int) (wI (by omega) (by omega) (by omega)) ?_
        refine And.intro (by omega) (X1 _ (nRow_getN rfl (by omega)) ?_)
        refine And.intro (by omega) (X1 ((A.getD (k + i) 0 / 2 ^ s : Nat) : Int) (shrN (k := s) (by omega)) (And.intro (inU (by omega)) ?_))
        refine And.intro (by omega) (And.intro (by omega) ?_)
        refine X1 _ (nRow_getN rfl (by omega)) ?_
        have hset : ∀ w, w < 18446744073709551616 → w = (A.getD (k + i) 0 / 2 ^ s ||| A.getD (k + i + 1) 0 * 2 ^ (64 - s) % 18446744073709551616) → val 18446744073709551616 ((out.set i w).take (i + 1)) + 18446744073709551616 ^ (i + 1) * (val 18446744073709551616 (A.drop (k + (i + 1))) / 2 ^ s) = val 18446744073709551616 (A.drop k) / 2 ^ s := fun w _ hw => by
          rw [val_take_set _ _ (by omega), ← h4, v1, ← hw, Nat.pow_succ, Nat.mul_add, Nat.mul_assoc, ← Nat.add_assoc k i 1]
          omega
        refine dcase (fun h8 => ?_) (fun h8 => ?_)
        · refine X1 ((k + i : Nat) : Int) (wI (by omega) (by omega) (by omega)) ?_
          refine X1 ((k + i + 1 : Nat) : Int) (wI (by omega) (by omega) (by omega)) ?_
          refine And.intro (by rw [nRow_len]; omega) ?_
          rw [nRow_len]
          refine dcase (fun h9 => ?_) (fun h9 => ?_)
          · refine And.intro (by omega) (And.intro (by omega) ?_)
            refine X1 _ (nRow_same rfl rfl (by omega)) ?_
            refine X1 ((k + i : Nat) : Int) (wI (by omega) (by omega) (by omega)) ?_
            refine X1 ((k + i + 1 : Nat) : Int) (wI (by omega) (by omega) (by omega)) ?_
            refine And.intro (by omega) (X1 _ (nRow_getN rfl (by omega)) ?_)
            refine X1 ((64 - s : Nat) : Int) (wU (by omega) (by omega) (by omega)) ?_
            refine And.intro (by omega) (X1 _ (shlN (k := 64 - s) (by omega)) ?_)
            refine X1 _ (orU (by omega) (Nat.mod_lt _ (by decide))) ?_
            refine And.intro (by omega) (And.intro (by omega) ?_)
            refine X1 _ (nRow_setget rfl (by omega)) ?_
            refine And.intro rfl ?_
            refine X1 ((i + 1 : Nat) : Int) (wI1 (by omega)) ?_
            refine ⟨(i + 1, out.set i (A.getD (k + i) 0 / 2 ^ s ||| A.getD (k + i + 1) 0 * 2 ^ (64 - s) % 18446744073709551616)), ⟨by omega, by simp [h2], h3.set v2, hset _ v2 rfl⟩, by show _ - (i + 1) < _ - i; omega, ⟨rfl, rfl, rfl, rfl, rfl, rfl, rfl, trivial⟩, ⟨rfl, rfl, rowE ?_, trivial⟩⟩
            have e1 : out.set i (A.getD (k + i) 0 / 2 ^ s ||| A.getD (k + i + 1) 0 * 2 ^ (64 - s) % 18446744073709551616) = (out.set i (A.getD (k + i) 0 / 2 ^ s)).set i (A.getD (k + i) 0 / 2 ^ s ||| A.getD (k + i + 1) 0 * 2 ^ (64 - s) % 18446744073709551616) := by rw [List.set_set]
            rw [e1, ← nRow_set, ← nRow_set]
            rfl
          · have e0 : A.getD (k + i + 1) 0 = 0 := by rw [List.getD_eq_getElem?_getD, List.getElem?_eq_none (by omega)]; rfl
            have e1 : (A.getD (k + i) 0 / 2 ^ s ||| A.getD (k + i + 1) 0 * 2 ^ (64 - s) % 18446744073709551616) = A.getD (k + i) 0 / 2 ^ s := by rw [e0]; simp
            refine X1 ((i + 1 : Nat) : Int) (wI1 (by omega)) ?_
            refine ⟨(i + 1, out.set i (A.getD (k + i) 0 / 2 ^ s)), ⟨by omega, by simp [h2], h3.set (by omega), hset _ (by omega) e1.symm⟩, by show _ - (i + 1) < _ - i; omega, ⟨rfl, rfl, rfl, rfl, rfl, rfl, rfl, trivial⟩, ⟨rfl, rfl, rowE ?_, trivial⟩⟩
            rw [← nRow_set]
            rfl
        · have e0 : s = 0 := by omega
          have e1 : (A.getD (k + i) 0 / 2 ^ s ||| A.getD (k + i + 1) 0 * 2 ^ (64 - s) % 18446744073709551616) = A.getD (k + i) 0 / 2 ^ s := by
            rw [e0, show 2 ^ (64 - 0) = 18446744073709551616 from rfl, Nat.mul_mod_left]; simp
          refine X1 ((i + 1 : Nat) : Int) (wI1 (by omega)) ?_
          refine ⟨(i + 1, out.set i (A.getD (k + i) 0 / 2 ^ s)), ⟨by omega, by simp [h2], h3.set (by omega), hset _ (by omega) e1.symm⟩, by show _ - (i + 1) < _ - i; omega, ⟨rfl, rfl, rfl, rfl, rfl, rfl, rfl, trivial⟩, ⟨rfl, rfl, rowE ?_, trivial⟩⟩
          rw [← nRow_set]
          rfl
      · have e : i = A.length - k := by omega
        subst e
        rw [List.take_of_length_le (by omega), List.drop_eq_nil_of_le (by omega)] at h4
        simp only [val, Nat.zero_div, Nat.mul_zero, Nat.add_zero] at h4
        exact ⟨out, ⟨h3, h4, by omega⟩, ⟨rfl, rfl, trivial⟩, ⟨rfl, rfl, trivial⟩⟩
    · obtain ⟨h1, h2, h3⟩ := hl
      refine X2 .frz ?_
      refine X1 _ (ntrim_ct l h3) ?_
      rw [trim_dg (by omega) h1, h2]
      exact ⟨trivial, rc rfl, trivial⟩
end Go.Proofs.YtpmchgndnhgncaaGreat.Pv
namespace Go.Proofs.YtpmchgndnhgncaaGreat.Pv
open Go
theorem cloneU_ct (l : List Nat) (hl : l.length ≤ 1000000) : Ct P 128 [.c (nSl .u64 l)] [.c (nSl .u64 l)] := by
  refine Ct.go T_ok T_mix (N := 8) Tryz.func128 rfl rfl rfl rfl ?_
  intro b hb
  cases b with
  | true =>
    have : l = [] := List.length_eq_zero_iff.1 (by have := hb rfl; rwa [nRow_len] at this)
    subst this
    exact ⟨trivial, ⟨_, rfl, .inr ⟨rfl, 1, rfl⟩⟩, trivial⟩
  | false =>
    refine ⟨rfl, by rw [nRow_len]; show (0 + l.length + 768) * 8 ≤ _; omega, by rw [nRow_len]; show 0 + l.length ≤ _; omega, nil_closed, nRow_closed, ?_⟩
    exact ⟨trivial, r1 rfl, trivial⟩
section
variable {u d1 d0 x q r : Nat}
theorem dw_le (h : q * d1 + r = u) (ht : q * d0 ≤ 18446744073709551616 * r + x) (hp : 0 < d1 * 18446744073709551616 + d0) (hq : (u * 18446744073709551616 + x) / (d1 * 18446744073709551616 + d0) ≤ q) : (u * 18446744073709551616 + x) / (d1 * 18446744073709551616 + d0) = q := by
  refine Nat.le_antisymm hq ((Nat.le_div_iff_mul_le hp).2 ?_)
  have e : q * (d1 * 18446744073709551616 + d0) = q * d1 * 18446744073709551616 + q * d0 := by rw [Nat.mul_add, Nat.mul_assoc]
  omega
theorem dw_gt (h : q * d1 + r = u) (ht : 18446744073709551616 * r + x < q * d0) : (u * 18446744073709551616 + x) / (d1 * 18446744073709551616 + d0) < q := by
  apply Nat.div_lt_of_lt_mul
  have e : (d1 * 18446744073709551616 + d0) * q = q * d1 * 18446744073709551616 + q * d0 := by rw [Nat.mul_comm, Nat.mul_add, Nat.mul_assoc]
  omega
theorem dw_0 (hd : 0 < d1) (hx : x < 18446744073709551616) : (u * 18446744073709551616 + x) / (d1 * 18446744073709551616 + d0) ≤ u / d1 := by
  have h0 := Nat.div_add_mod u d1
  have hm := Nat.mod_lt u hd
  refine Nat.le_of_lt_succ (Nat.div_lt_of_lt_mul ?_)
  have e : (d1 * 18446744073709551616 + d0) * (u / d1 + 1) = d1 * (u / d1) * 18446744073709551616 + d1 * 18446744073709551616 + d0 * (u / d1 + 1) := by
    rw [Nat.add_mul, Nat.mul_assoc, Nat.mul_comm 18446744073709551616, ← Nat.mul_assoc, Nat.mul_add, Nat.mul_one, Nat.add_mul]
  show u * 18446744073709551616 + x < (d1 * 18446744073709551616 + d0) * (u / d1 + 1)
  omega
theorem dw_step {T : Nat} (hd0 : d0 < 18446744073709551616) (hp : 0 < d1 * 18446744073709551616 + d0) (hT : T = (u * 18446744073709551616 + x) / (d1 * 18446744073709551616 + d0)) (h : q * d1 + r = u) (hq : q < 18446744073709551616) (ht : T < q) :
    (q - 1) * d1 + (r + d1) = u ∧ (18446744073709551616 ≤ r + d1 → T = q - 1) := by
  obtain ⟨p, rfl⟩ : ∃ p, q = p + 1 := ⟨q - 1, by omega⟩
  rw [Nat.add_mul, Nat.one_mul] at h
  rw [Nat.add_sub_cancel]
  have e : p * d1 + (r + d1) = u := by omega
  refine ⟨e, fun hr => ?_⟩
  rw [hT]
  refine dw_le e ?_ hp (by omega)
  have h1 : p * d0 ≤ 18446744073709551616 * d0 := Nat.mul_le_mul_right _ (by omega)
  have h2 : 18446744073709551616 * d0 ≤ 18446744073709551616 * (r + d1) := Nat.mul_le_mul_left _ (by omega)
  omega
end
def gs (u2 u1 u0 top next : Nat) : Nat := if top ≤ u2 then 18446744073709551615 else ((u2 * 18446744073709551616 + u1) * 18446744073709551616 + u0) / (top * 18446744073709551616 + next)
theorem guess_ct (u : List Nat) (top next n : Nat) (hu : Dig 18446744073709551616 u) (hn : u.length = n + 3) (hb : u.length ≤ 1000000) (h1 : 0 < top) (h2 : top < 18446744073709551616) (h3 : next < 18446744073709551616) :
    Ct P 124 [.c (nSl .u64 u), .c (nI .u64 top), .c (nI .u64 next)] [.c (nI .u64 (gs (u.getD (n + 2) 0) (u.getD (n + 1) 0) (u.getD n 0) top next))] := by
  have k2 := hu.getD (by omega) (n + 2)
  have k1 := hu.getD (by omega) (n + 1)
  have k0 := hu.getD (by omega) n
  refine Ct.go T_ok T_mix (N := 72) Tryz.func124 rfl rfl rfl rfl ?_
  refine And.intro (by rw [nRow_len]; omega) ?_
  rw [nRow_len]
  refine X1 ((n + 2 : Nat) : Int) (wI (by omega) (by omega) (by omega)) ?_
  refine And.intro (by omega) (X1 _ (nRow_getN rfl (by omega)) ?_)
  refine dcase (fun h0 => ?_) (fun h0 => ?_)
  · exact ⟨trivial, r1 (iE (by rw [gs, if_pos (by omega)]; rfl)), trivial⟩
  · rw [gs, if_neg (by omega)]
    refine X1 ((n + 2 : Nat) : Int) (wI (by omega) (by omega) (by omega)) ?_
    refine And.intro (by omega) (X1 _ (nRow_getN rfl (by omega)) ?_)
    refine X1 ((n + 1 : Nat) : Int) (wI (by omega) (by omega) (by omega)) ?_
    refine And.intro (by omega) (X1 _ (nRow_getN rfl (by omega)) ?_)
    generalize u.getD (n + 2) 0 = u2 at *
    generalize u.getD (n + 1) 0 = u1 at *
    refine X1 _ (div64_ct u2 u1 top (by omega) k1 h2) ?_
    refine And.intro rfl ?_
    have hw := Nat.mod_lt (u2 * 18446744073709551616 + u1) h1
    have hdm := Nat.div_add_mod (u2 * 18446744073709551616 + u1) top
    rw [Nat.mul_comm] at hdm
    have hq0 : (u2 * 18446744073709551616 + u1) / top < 18446744073709551616 := by
      refine Nat.div_lt_of_lt_mul ?_
      have := Nat.mul_le_mul_right 18446744073709551616 (show u2 + 1 ≤ top by omega)
      omega
    obtain ⟨T, hT⟩ : ∃ T, T = ((u2 * 18446744073709551616 + u1) * 18446744073709551616 + u.getD n 0) / (top * 18446744073709551616 + next) := ⟨_, rfl⟩
    have hT0 : T ≤ (u2 * 18446744073709551616 + u1) / top := by rw [hT]; exact dw_0 h1 k0
    rw [← hT]
    obtain ⟨A, hA⟩ : ∃ A, A = u2 * 18446744073709551616 + u1 := ⟨_, rfl⟩
    rw [← hA] at hw hdm hq0 hT hT0 ⊢
    refine loopB T_ok T_mix (G := Nat × Nat) (fun (q, r) => q * top + r = A ∧ T ≤ q ∧ q < 18446744073709551616 ∧ r < 18446744073709551616)
      (fun (q, r) => [(0, .c (nSl .u64 u)), (1, .c (nI .u64 top)), (2, .c (nI .u64 next)), (7, .c (nI .i64 (n + 3 : Nat))), (8, .c (nI .u64 q)), (9, .c (nI .u64 r))]) (fun _ => []) (fun (q, _) => q)
      (A / top, A % top) ⟨hdm, hT0, hq0, by omega⟩ ⟨rfl, rfl, rfl, iE (by rw [hn]), rfl, rfl, trivial⟩ trivial (fun (q, r) hi => ?_)
    obtain ⟨i1, i2, i3, i4⟩ := hi
    refine X1 _ (mul64_ct q next i3 h3) ?_
    have hml := Nat.div_add_mod (q * next) 18446744073709551616
    have hmm := Nat.mod_lt (q * next) (show 0 < 18446744073709551616 by decide)
    generalize q * next / 18446744073709551616 = hi at *
    generalize q * next % 18446744073709551616 = lo at *
    refine dcase (fun h4 => ?_) (fun h4 => ?_)
    · have e : T = q := by rw [hT]; exact dw_le i1 (by omega) (by omega) (by rw [← hT]; exact i2)
      exact ⟨trivial, r1 (iE (by rw [e])), trivial⟩
    · refine ecase (fun h5 => ?_) (fun h5 => ?_)
      · have e5 : hi = r := Int.ofNat_inj.1 h5
        refine X1 ((n : Nat) : Int) (wI (by omega) (by omega) (by omega)) ?_
        refine And.intro (by omega) (X1 _ (nRow_getN rfl (by omega)) ?_)
        refine dcase (fun h7 => ?_) (fun h7 => ?_)
        · have e7 : lo ≤ u.getD n 0 := Int.ofNat_le.1 h7
          have e : T = q := by rw [hT]; exact dw_le i1 (by rw [← hml, e5]; exact Nat.add_le_add_left e7 _) (by omega) (by rw [← hT]; exact i2)
          exact ⟨trivial, r1 (iE (by rw [e])), trivial⟩
        · have e7 : u.getD n 0 < lo := Int.ofNat_lt.1 (Int.not_le.1 h7)
          have hlt : T < q := by rw [hT]; exact dw_gt i1 (by rw [← hml, e5]; exact Nat.add_lt_add_left e7 _)
          obtain ⟨m1, m2⟩ := dw_step h3 (by omega) hT i1 i3 hlt
          refine X1 ((q - 1 : Nat) : Int) (wU (by omega) (by omega) (by omega)) ?_
          refine X1 _ (add64_ct r top 0 i4 h2 (by omega)) ?_
          refine dcase (fun h6 => ?_) (fun h6 => ?_)
          · exact ⟨trivial, r1 (iE (by rw [m2 (by omega)])), trivial⟩
          · exact ⟨(q - 1, r + top), ⟨m1, by omega, by omega, by omega⟩, by show q - 1 < q; omega, ⟨rfl, rfl, rfl, rfl, rfl, iE (by rw [Nat.mod_eq_of_lt (by omega)]; rfl), trivial⟩, trivial⟩
      · have hlt : T < q := by rw [hT]; exact dw_gt i1 (by omega)
        obtain ⟨m1, m2⟩ := dw_step h3 (by omega) hT i1 i3 hlt
        refine X1 ((q - 1 : Nat) : Int) (wU (by omega) (by omega) (by omega)) ?_
        refine X1 _ (add64_ct r top 0 i4 h2 (by omega)) ?_
        refine dcase (fun h6 => ?_) (fun h6 => ?_)
        · exact ⟨trivial, r1 (iE (by rw [m2 (by omega)])), trivial⟩
        · exact ⟨(q - 1, r + top), ⟨m1, by omega, by omega, by omega⟩, by show q - 1 < q; omega, ⟨rfl, rfl, rfl, rfl, rfl, iE (by rw [Nat.mod_eq_of_lt (by omega)]; rfl), trivial⟩, trivial⟩
end Go.Proofs.YtpmchgndnhgncaaGreat.Pv
namespace Go.Proofs.YtpmchgndnhgncaaGreat.Pv
open Go
section
variable {t d : List Nat} {x lo : Nat}
theorem sm_take : ∀ i, (sm t d x lo i).s.take lo = t.take lo
  | 0 => rfl
  | i + 1 => by simp only [sm]; rw [List.take_set_of_le (by omega)]; exact sm_take i
theorem sm_drop : ∀ i, (sm t d x lo i).s.drop (lo + i) = t.drop (lo + i)
  | 0 => rfl
  | i + 1 => by
    simp only [sm]
    have h := congrArg (List.drop 1) (sm_drop i)
    rw [List.drop_drop, List.drop_drop] at h
    rw [List.drop_set_of_lt (by omega)]
    exact h
theorem am_take : ∀ i, (am t d x lo i).1.take lo = t.take lo
  | 0 => rfl
  | i + 1 => by simp only [am]; rw [List.take_set_of_le (by omega)]; exact am_take i
theorem am_drop : ∀ i, (am t d x lo i).1.drop (lo + i) = t.drop (lo + i)
  | 0 => rfl
  | i + 1 => by
    simp only [am]
    have h := congrArg (List.drop 1) (am_drop i)
    rw [List.drop_drop, List.drop_drop] at h
    rw [List.drop_set_of_lt (by omega)]
    exact h
theorem drop_small {s : List Nat} {n : Nat} (hs : Dig 18446744073709551616 s) (hz : val 18446744073709551616 (s.drop (lo + n)) = 0) : val 18446744073709551616 (s.drop lo) < 18446744073709551616 ^ n := by
  have h := val_take 18446744073709551616 (s.drop lo) n
  rw [List.drop_drop, hz, Nat.mul_zero, Nat.add_zero] at h
  rw [h]
  refine Nat.lt_of_lt_of_le (val_lt (by omega) hs.drop.take) (Nat.pow_le_pow_right (by omega) ?_)
  rw [List.length_take]; omega
theorem val_at {s : List Nat} (h : lo ≤ s.length) : val 18446744073709551616 s = val 18446744073709551616 (s.take lo) + 18446744073709551616 ^ lo * val 18446744073709551616 (s.drop lo) := by
  have := val_take 18446744073709551616 s lo
  rwa [Nat.min_eq_left h] at this
theorem sub_law (ht : Dig 18446744073709551616 t) (hd : Dig 18446744073709551616 d) (hx : x < 18446744073709551616) (hlen : lo + (d.length + 1) ≤ t.length) (hz : val 18446744073709551616 (t.drop (lo + (d.length + 1))) = 0) :
    (sm t d x lo (d.length + 1)).s.length = t.length ∧ Dig 18446744073709551616 (sm t d x lo (d.length + 1)).s ∧ (sm t d x lo (d.length + 1)).b ≤ 1 ∧
    val 18446744073709551616 ((sm t d x lo (d.length + 1)).s.drop lo) + x * val 18446744073709551616 d = val 18446744073709551616 (t.drop lo) + 18446744073709551616 ^ (d.length + 1) * (sm t d x lo (d.length + 1)).b ∧ val 18446744073709551616 ((sm t d x lo (d.length + 1)).s.drop lo) < 18446744073709551616 ^ (d.length + 1) := by
  obtain ⟨h1, h2, h3, h4, h5⟩ := sm_spec (lo := lo) ht hd hx (d.length + 1) hlen
  have hc : (sm t d x lo (d.length + 1)).c = 0 := by
    obtain ⟨_, _, k3, _, _⟩ := sm_spec (lo := lo) ht hd hx d.length (by omega)
    have hy : d.getD d.length 0 = 0 := by rw [List.getD_eq_getElem?_getD, List.getElem?_eq_none (by omega)]; rfl
    simp only [sm, hy, Nat.mul_zero, Nat.zero_add]
    exact Nat.div_eq_of_lt k3
  have e1 := sm_take (t := t) (d := d) (x := x) (lo := lo) (d.length + 1)
  have e2 := sm_drop (t := t) (d := d) (x := x) (lo := lo) (d.length + 1)
  rw [hc, Nat.zero_add, List.take_of_length_le (by omega)] at h5
  generalize (sm t d x lo (d.length + 1)).s = s at *
  generalize (sm t d x lo (d.length + 1)).b = b at *
  refine ⟨h1, h2, h4, ?_, drop_small h2 (by rw [e2]; exact hz)⟩
  rw [val_at (lo := lo) (s := s) (by omega), val_at (lo := lo) (s := t) (by omega), e1, Nat.pow_add, Nat.mul_assoc, Nat.add_assoc, Nat.add_assoc, ← Nat.mul_add, ← Nat.mul_add] at h5
  exact Nat.eq_of_mul_eq_mul_left (Nat.pow_pos (by omega)) (Nat.add_left_cancel h5)
theorem add_law (ht : Dig 18446744073709551616 t) (hd : Dig 18446744073709551616 d) (hlen : lo + (d.length + 1) ≤ t.length) (hz : val 18446744073709551616 (t.drop (lo + (d.length + 1))) = 0) :
    (am t d 1 lo (d.length + 1)).1.length = t.length ∧ Dig 18446744073709551616 (am t d 1 lo (d.length + 1)).1 ∧ (am t d 1 lo (d.length + 1)).2 ≤ 1 ∧
    val 18446744073709551616 ((am t d 1 lo (d.length + 1)).1.drop lo) + 18446744073709551616 ^ (d.length + 1) * (am t d 1 lo (d.length + 1)).2 = val 18446744073709551616 (t.drop lo) + val 18446744073709551616 d ∧ val 18446744073709551616 ((am t d 1 lo (d.length + 1)).1.drop lo) < 18446744073709551616 ^ (d.length + 1) := by
  obtain ⟨h1, h2, h3, h5⟩ := am_specG (lo := lo) (x := 1) ht hd (by omega) (d.length + 1) hlen
  have h4 := am_one (lo := lo) ht hd (d.length + 1) hlen
  have e1 := am_take (t := t) (d := d) (x := 1) (lo := lo) (d.length + 1)
  have e2 := am_drop (t := t) (d := d) (x := 1) (lo := lo) (d.length + 1)
  rw [List.take_of_length_le (by omega), Nat.one_mul] at h5
  generalize (am t d 1 lo (d.length + 1)).1 = s at *
  generalize (am t d 1 lo (d.length + 1)).2 = b at *
  refine ⟨h1, h2, h4, ?_, drop_small h2 (by rw [e2]; exact hz)⟩
  rw [val_at (lo := lo) (s := s) (by omega), val_at (lo := lo) (s := t) (by omega), e1, Nat.pow_add, Nat.mul_assoc, Nat.add_assoc, Nat.add_assoc, ← Nat.mul_add, ← Nat.mul_add] at h5
  exact Nat.eq_of_mul_eq_mul_left (Nat.pow_pos (by omega)) (Nat.add_left_cancel h5)
end
theorem dg_top {n : Nat} (hn : n ≠ 0) {k : Nat} (hk : (dg 18446744073709551616 n).length = k + 1) : (dg 18446744073709551616 n).getD k 0 ≠ 0 := by
  have h3 := dg_last (B := 18446744073709551616) (by omega) hn
  intro h0
  have h4 := val_take_succ 18446744073709551616 (dg 18446744073709551616 n) k
  rw [h0, Nat.mul_zero, List.take_of_length_le (by omega), val_dg (by omega), Nat.add_zero] at h4
  have h5 := val_lt (by omega : 0 < 18446744073709551616) ((dig_dg (B := 18446744073709551616) (by omega) n).take (n := k))
  rw [List.length_take, Nat.min_eq_left (by omega), ← h4] at h5
  rw [hk, Nat.add_sub_cancel] at h3
  exact absurd h3 (Nat.not_le_of_lt h5)
theorem gs_ge {u d : List Nat} {n : Nat} (hu : Dig 18446744073709551616 u) (hd : Dig 18446744073709551616 d) (hul : u.length = n + 3) (hdl : d.length = n + 2) (ht : d.getD (n + 1) 0 ≠ 0) (hQ : val 18446744073709551616 u / val 18446744073709551616 d < 18446744073709551616) :
    val 18446744073709551616 u / val 18446744073709551616 d ≤ gs (u.getD (n + 2) 0) (u.getD (n + 1) 0) (u.getD n 0) (d.getD (n + 1) 0) (d.getD n 0) ∧ gs (u.getD (n + 2) 0) (u.getD (n + 1) 0) (u.getD n 0) (d.getD (n + 1) 0) (d.getD n 0) < 18446744073709551616 := by
  have k2 := hu.getD (by omega) (n + 2)
  have k1 := hu.getD (by omega) (n + 1)
  have k0 := hu.getD (by omega) n
  have v1 := val_at (lo := n) (s := u) (by omega)
  have v2 := val_at (lo := n) (s := d) (by omega)
  have w1 := val_lt (by omega : 0 < 18446744073709551616) (hu.take (n := n))
  rw [List.length_take, Nat.min_eq_left (by omega)] at w1
  rw [val_drop 18446744073709551616 (l := u) (by omega), val_drop 18446744073709551616 (l := u) (by omega), val_drop 18446744073709551616 (l := u) (by omega), List.drop_eq_nil_of_le (show u.length ≤ n + 1 + 1 + 1 by omega)] at v1
  rw [show n + 1 + 1 = n + 2 by omega] at v1
  rw [val_drop 18446744073709551616 (l := d) (by omega), val_drop 18446744073709551616 (l := d) (by omega), List.drop_eq_nil_of_le (show d.length ≤ n + 1 + 1 by omega)] at v2
  simp only [val, Nat.mul_zero, Nat.add_zero] at v1 v2
  unfold gs
  generalize u.getD (n + 2) 0 = u2 at *
  generalize u.getD (n + 1) 0 = u1 at *
  generalize u.getD n 0 = u0 at *
  generalize d.getD (n + 1) 0 = t at *
  generalize d.getD n 0 = y at *
  generalize val 18446744073709551616 (u.take n) = lu at *
  generalize val 18446744073709551616 (d.take n) = ld at *
  generalize val 18446744073709551616 u = a at *
  generalize val 18446744073709551616 d = b at *
  split
  · exact ⟨by omega, by omega⟩
  · rename_i hlt
    have hp : 0 < t * 18446744073709551616 + y := by omega
    refine ⟨(Nat.le_div_iff_mul_le hp).2 ?_, Nat.div_lt_of_lt_mul (by omega)⟩
    have h1 := Nat.div_mul_le_self a b
    have hb : 18446744073709551616 ^ n * (t * 18446744073709551616 + y) ≤ b := by rw [v2, show t * 18446744073709551616 + y = y + 18446744073709551616 * t by omega]; exact Nat.le_add_left _ _
    have h2 := Nat.mul_le_mul_left (a / b) hb
    have h3 : a < 18446744073709551616 ^ n * ((u2 * 18446744073709551616 + u1) * 18446744073709551616 + u0 + 1) := by
      rw [v1, show (u2 * 18446744073709551616 + u1) * 18446744073709551616 + u0 + 1 = 1 + (u0 + 18446744073709551616 * (u1 + 18446744073709551616 * u2)) by omega, Nat.mul_add _ 1, Nat.mul_one]
      exact Nat.add_lt_add_right w1 _
    have h4 := Nat.lt_of_le_of_lt (Nat.le_trans h2 h1) h3
    rw [Nat.mul_left_comm] at h4
    exact Nat.le_of_lt_succ (Nat.lt_of_mul_lt_mul_left h4)
theorem blB {a b : Bool} (h : a = b) : (some (.c (.sc (.bool a))) : Option AV) = some (.c (.sc (.bool b))) := by rw [h]
theorem ndiv_ct (a b : Nat) (hb : b ≠ 0) (ha : (dg 18446744073709551616 a).length ≤ 100000) (hbl : (dg 18446744073709551616 b).length ≤ 100000) : Ct P 82 [nV a, nV b] [nV (a / b), nV (a % b), .c (eI .i64 0)] := by
  refine Ct.go T_ok T_mix (N := 128) Tryz.func82 rfl rfl rfl rfl ?_
  refine X1 _ (nzero_ct b (by omega)) ?_
  refine bfalse (by simpa using hb) ?_
  refine X1 _ (ncmp_ct a b (by omega) (by omega)) ?_
  refine dcase (fun h1 => ?_) (fun h1 => ?_)
  · have h : a < b := by unfold cmpI at h1; split at h1 <;> (try split at h1) <;> omega
    rw [Nat.div_eq_of_lt h, Nat.mod_eq_of_lt h]
    refine And.intro rfl ?_
    exact ⟨trivial, ⟨_, rfl, nilNV⟩, rc rfl, r1 rfl, trivial⟩
  · have h : b ≤ a := by unfold cmpI at h1; split at h1 <;> (try split at h1) <;> omega
    have hl0 : (dg 18446744073709551616 b).length ≠ 0 := fun h0 => hb ((dg_nil (B := 18446744073709551616) (by omega)).1 (List.length_eq_zero_iff.1 h0))
    refine And.intro (by rw [nRow_len]; omega) ?_
    rw [nRow_len]
    refine ecase (fun h2 => ?_) (fun h2 => ?_)
    · have hw : (dg 18446744073709551616 b).getD 0 0 = b := by
        have hv := val_dg (B := 18446744073709551616) (by omega) b
        have hll : (dg 18446744073709551616 b).length = 1 := by omega
        generalize dg 18446744073709551616 b = l at *
        match l, hll with
        | [w], _ => rw [← hv]; simp [val]
      have hb2 := (dig_dg (B := 18446744073709551616) (by omega) b).getD (by omega) 0
      refine And.intro (by omega) (X1 _ (nRow_getN (n := 0) rfl (by omega)) ?_)
      rw [hw] at hb2 ⊢
      refine X1 _ (nsmall_ct a b (by omega) hb2 (by omega)) ?_
      refine And.intro rfl ?_
      have hm := Nat.mod_lt a (Nat.pos_of_ne_zero hb)
      refine X1 _ (nof_ct (a % b) (by omega)) ?_
      refine And.intro rfl ?_
      exact ⟨trivial, rc rfl, rc rfl, r1 rfl, trivial⟩
    · have hB := dig_dg (B := 18446744073709551616) (by omega) b
      obtain ⟨lb, hlb⟩ : ∃ lb, (dg 18446744073709551616 b).length = lb + 2 := ⟨(dg 18446744073709551616 b).length - 2, by omega⟩
      refine And.intro (by rw [nRow_len]; omega) ?_
      rw [nRow_len]
      refine X1 ((lb + 1 : Nat) : Int) (wI (by omega) (by omega) (by omega)) ?_
      refine And.intro (by omega) (X1 _ (nRow_getN rfl (by omega)) ?_)
      have htop := hB.getD (by omega) (lb + 1)
      have htl : (dg 18446744073709551616 b).getD (lb + 1) 0 ≠ 0 := dg_top hb hlb
      generalize htq : (dg 18446744073709551616 b).getD (lb + 1) 0 = tp at *
      refine X1 _ (lz64_ct tp htop) ?_
      have hbt := blen_le (n := tp) (k := 64) (by omega)
      obtain ⟨s, hs⟩ : ∃ s, s = 64 - blen tp := ⟨_, rfl⟩
      have hbb := blen_top hb
      rw [hlb, show lb + 2 - 1 = lb + 1 by omega, htq] at hbb
      rw [← hs]
      have hbt0 : blen tp ≠ 0 := fun h => by have := lt_blen tp; rw [h] at this; omega
      refine X1 _ (up_ct b s (by omega) (by omega)) ?_
      obtain ⟨la, hla⟩ : ∃ la, la = (dg 18446744073709551616 a).length := ⟨_, rfl⟩
      refine And.intro (by rw [nRow_len]; omega) ?_
      rw [nRow_len]
      refine X1 ((la + 1 : Nat) : Int) (wI (by omega) (by omega) (by omega)) ?_
      refine ⟨by omega, by omega, by omega, .inl (by decide), ?_⟩
      refine X1 _ (up_ct a s (by omega) (by omega)) ?_
      -- the numbers
      have hps := Nat.two_pow_pos s
      obtain ⟨D, hD⟩ : ∃ D, D = b * 2 ^ s := ⟨_, rfl⟩
      obtain ⟨A2, hA2⟩ : ∃ D, D = a * 2 ^ s := ⟨_, rfl⟩
      have hDl : (dg 18446744073709551616 D).length = lb + 2 := by
        apply Nat.le_antisymm
        · apply dg_len (by omega)
          have h1 := Nat.mul_lt_mul_of_pos_right (lt_blen b) hps
          rw [← Nat.pow_add, hbb, show 64 * (lb + 1) + blen tp + s = 64 * (lb + 2) by omega, ← w_pow, ← hD] at h1
          exact h1
        · rw [← hlb]; exact dg_len_mono (by omega) (by rw [hD]; exact Nat.le_mul_of_pos_right _ hps)
      have hA2l : (dg 18446744073709551616 A2).length ≤ la + 1 := by
        apply dg_len (by omega)
        have h1 := lt_dg_len (B := 18446744073709551616) (by omega) a
        rw [← hla] at h1
        have h2 : 2 ^ s ≤ 18446744073709551616 := by
          have := Nat.pow_le_pow_right (show 0 < 2 by omega) (show s ≤ 64 by omega)
          simpa using this
        rw [hA2, Nat.pow_succ]
        exact Nat.lt_of_lt_of_le (Nat.mul_lt_mul_of_pos_right h1 hps) (Nat.mul_le_mul_left _ h2)
      have hlab : lb + 2 ≤ la := by rw [hla, ← hlb]; exact dg_len_mono (by omega) h
      obtain ⟨m0, hm0⟩ : ∃ m0, la + 1 = m0 + (lb + 2) := ⟨la + 1 - (lb + 2), by omega⟩
      have hbig : a * 2 ^ s < 18446744073709551616 ^ m0 * D := by
        have h1 := lt_dg_len (B := 18446744073709551616) (by omega) a
        have h2 := dg_last (B := 18446744073709551616) (by omega) hb
        rw [← hla, show la = m0 + (lb + 1) by omega, Nat.pow_add] at h1
        rw [hlb, show lb + 2 - 1 = lb + 1 by omega] at h2
        have h3 := Nat.lt_of_lt_of_le h1 (Nat.mul_le_mul_left (18446744073709551616 ^ m0) h2)
        rw [hD, ← Nat.mul_assoc]
        exact Nat.mul_lt_mul_of_pos_right h3 hps
      have hD0 : 0 < D := by rw [hD]; exact Nat.mul_pos (by omega) hps
      rw [← hA2, ← hD]
      refine ⟨(dg 18446744073709551616 A2).length, by rw [nRow_len]; simp; omega, by simp; omega, nRow_closed, ?_⟩
      refine And.intro (by rw [nRow_len]; omega) ?_
      rw [nRow_len]
      refine And.intro (by omega) ?_
      refine X1 ((m0 : Nat) : Int) (wI (by omega) (by omega) (by omega)) ?_
      refine ⟨by omega, by omega, by omega, .inl (by decide), ?_⟩
      refine And.intro (by omega) ?_
      refine X1 ((m0 : Int) - 1) (wI (by omega) (by omega) (by omega)) ?_
      have hDd := dig_dg (B := 18446744073709551616) (by omega) D
      have hDv := val_dg (B := 18446744073709551616) (by omega) D
      have hAd := dig_dg (B := 18446744073709551616) (by omega) A2
      have hAv := val_dg (B := 18446744073709551616) (by omega) A2
      have hU0 : val 18446744073709551616 (dg 18446744073709551616 A2 ++ List.replicate (la + 1 - (dg 18446744073709551616 A2).length) 0) = A2 := by rw [val_app, hAv, val_rep, Nat.mul_zero, Nat.add_zero]
      have hU1 : (dg 18446744073709551616 A2 ++ List.replicate (la + 1 - (dg 18446744073709551616 A2).length) 0).length = la + 1 := by simp; omega
      have hU2 : Dig 18446744073709551616 (dg 18446744073709551616 A2 ++ List.replicate (la + 1 - (dg 18446744073709551616 A2).length) 0) := hAd.app fun x hx => by rw [List.eq_of_mem_replicate hx]; omega
      have hU3 : val 18446744073709551616 ((dg 18446744073709551616 A2 ++ List.replicate (la + 1 - (dg 18446744073709551616 A2).length) 0).drop m0) < D := by
        have h1 := val_at (lo := m0) (s := dg 18446744073709551616 A2 ++ List.replicate (la + 1 - (dg 18446744073709551616 A2).length) 0) (by omega)
        rw [hU0] at h1
        rw [← hA2] at hbig
        exact Nat.lt_of_mul_lt_mul_left (Nat.lt_of_le_of_lt (Nat.le_trans (Nat.le_add_left _ _) (Nat.le_of_eq h1.symm)) hbig)
      obtain ⟨dl, hdl⟩ : ∃ dl, dl = dg 18446744073709551616 D := ⟨_, rfl⟩
      rw [← hdl] at hDl hDd hDv ⊢
      refine loopW T_ok T_mix (G := Nat × List Nat × List Nat) (fun (m, u, q) => m ≤ m0 ∧ u.length = la + 1 ∧ Dig 18446744073709551616 u ∧ q.length = m0 ∧ Dig 18446744073709551616 q ∧ val 18446744073709551616 (u.drop m) < D ∧ A2 = D * (18446744073709551616 ^ m * val 18446744073709551616 (q.drop m)) + val 18446744073709551616 u)
        (fun (m, u, q) => [(4, .c (.ad 4 0)), (5, .c (.ad 5 0)), (9, .c (nI .i64 s)), (10, .c (nSl .u64 dl)), (11, .c (.ow 64 1 (la + 1))), (12, .c (nI .i64 (lb + 2 : Nat))), (13, .c (.ow 77 1 m0)), (14, .c (eI .i64 ((m : Int) - 1)))])
        (fun ((m, u, q) : Nat × List Nat × List Nat) => [(4, .var [.sc (.slice none 0 0)]), (5, .var [.sc (.slice none 0 0)]), (64, .row 1 (nRow .u64 u)), (77, .row 1 (nRow .u64 q))]) (fun (m, _, _) => m)
        (m0, dg 18446744073709551616 A2 ++ List.replicate (la + 1 - (dg 18446744073709551616 A2).length) 0, List.replicate m0 0) ⟨by simp, hU1, hU2, by simp, fun x hx => by rw [List.eq_of_mem_replicate hx]; omega, hU3, by simp [hU0, val]⟩
        ⟨rfl, rfl, rfl, (by rw [hdl]; rfl), owE (by omega), iE (by rw [hDl]), owE (by omega), rfl, trivial⟩ ⟨rfl, rfl, rowE (by rw [List.take_zero, List.nil_append, List.take_of_length_le (by rw [nRow_len]; exact Nat.le_refl _), Nat.zero_add, List.drop_replicate]; show _ ++ List.replicate _ [eI .u64 0] = _; simp [nRow]), rowE (rep_row rfl), trivial⟩
        (fun (u, q) => u.length = la + 1 ∧ Dig 18446744073709551616 u ∧ q.length = m0 ∧ Dig 18446744073709551616 q ∧ val 18446744073709551616 q = a / b ∧ val 18446744073709551616 u = a % b * 2 ^ s) (fun _ => [(4, .c (.ad 4 0)), (5, .c (.ad 5 0)), (9, .c (nI .i64 s)), (11, .c (.ow 64 1 (la + 1))), (12, .c (nI .i64 (lb + 2 : Nat))), (13, .c (.ow 77 1 m0))])
        (fun ((u, q) : List Nat × List Nat) => [(4, .var [.sc (.slice none 0 0)]), (5, .var [.sc (.slice none 0 0)]), (64, .row 1 (nRow .u64 u)), (77, .row 1 (nRow .u64 q))]) (fun (m, u, q) hg => ?_) (fun (u, q) hl => ?_)
      · obtain ⟨i1, i2, i3, i4, i5, i6, i7⟩ := hg
        refine dcase (fun h5 => ?_) (fun h5 => ?_)
        · obtain ⟨i, rfl⟩ : ∃ i, m = i + 1 := ⟨m - 1, by omega⟩
          have hui := i3.getD (by omega) i
          have hV := val_drop 18446744073709551616 (l := u) (i := i) (by omega)
          have hDp : D < 18446744073709551616 ^ (lb + 2) := by
            have := lt_dg_len (B := 18446744073709551616) (by omega) D
            rw [← hdl, hDl] at this; exact this
          have hVl : val 18446744073709551616 (u.drop i) < 18446744073709551616 * D := by
            have := Nat.mul_le_mul_left 18446744073709551616 (Nat.succ_le_of_lt i6)
            rw [Nat.mul_succ] at this
            omega
          have hVl2 : val 18446744073709551616 (u.drop i) < 18446744073709551616 ^ (lb + 3) := by
            rw [Nat.pow_succ, Nat.mul_comm]
            exact Nat.lt_trans hVl (Nat.mul_lt_mul_of_pos_left hDp (by omega))
          have hz : val 18446744073709551616 (u.drop (i + (lb + 3))) = 0 := by
            have h1 := val_take 18446744073709551616 (u.drop i) (lb + 3)
            rw [List.drop_drop, List.length_drop, Nat.min_eq_left (by omega)] at h1
            apply Classical.byContradiction
            intro h0
            have := Nat.mul_le_mul_left (18446744073709551616 ^ (lb + 3)) (Nat.pos_of_ne_zero h0)
            rw [Nat.mul_one] at this
            omega
          have hVt : val 18446744073709551616 ((u.drop i).take (lb + 3)) = val 18446744073709551616 (u.drop i) := by
            have h1 := val_take 18446744073709551616 (u.drop i) (lb + 3)
            rw [List.drop_drop, hz, Nat.mul_zero, Nat.add_zero] at h1
            exact h1.symm
          have hQ : val 18446744073709551616 (u.drop i) / D < 18446744073709551616 := Nat.div_lt_of_lt_mul (by rw [Nat.mul_comm]; exact hVl)
          have htl2 := dg_top (n := D) (by omega) (k := lb + 1) (by rw [← hdl, hDl])
          rw [← hdl] at htl2
          obtain ⟨gq1, gq2⟩ := gs_ge (n := lb) (u := (u.drop i).take (lb + 3)) (d := dl) (i3.drop.take) hDd (by rw [List.length_take, List.length_drop]; omega) hDl htl2 (by rw [hVt, hDv]; exact hQ)
          rw [hVt, hDv] at gq1
          have kt := hDd.getD (by omega) (lb + 1)
          have kn := hDd.getD (by omega) lb
          have hg := guess_ct ((u.drop i).take (lb + 3)) (dl.getD (lb + 1) 0) (dl.getD lb 0) lb i3.drop.take (by rw [List.length_take, List.length_drop]; omega) (by rw [List.length_take, List.length_drop]; omega) (by omega) kt kn
          generalize gs (((u.drop i).take (lb + 3)).getD (lb + 2) 0) (((u.drop i).take (lb + 3)).getD (lb + 1) 0) (((u.drop i).take (lb + 3)).getD lb 0) (dl.getD (lb + 1) 0) (dl.getD lb 0) = x0 at *
          generalize hQe : val 18446744073709551616 (u.drop i) / D = Q at *
          have hdm := Nat.div_add_mod (val 18446744073709551616 (u.drop i)) D
          rw [hQe] at hdm
          have hml := Nat.mod_lt (val 18446744073709551616 (u.drop i)) hD0
          obtain ⟨V, hVe⟩ : ∃ V, V = val 18446744073709551616 (u.drop i) := ⟨_, rfl⟩
          rw [← hVe] at hdm hml hVl2
          refine X1 ((i + (lb + 2) : Nat) : Int) (wI (by omega) (by omega) (by omega)) ?_
          refine X1 ((i + (lb + 3) : Nat) : Int) (wI (by omega) (by omega) (by omega)) ?_
          refine .inl ⟨i, i + (lb + 3), by simp, by simp, by omega, by omega, .inr ⟨by omega, ?_⟩⟩
          rw [Nat.add_sub_cancel_left]
          refine X1 ((lb + 1 : Nat) : Int) (wI (by omega) (by omega) (by omega)) ?_
          refine And.intro (by omega) (X1 _ (nRow_getN rfl (by omega)) ?_)
          refine X1 ((lb : Nat) : Int) (wI (by omega) (by omega) (by omega)) ?_
          refine And.intro (by omega) (X1 _ (nRow_getN rfl (by omega)) ?_)
          have hg2 : Ct P 124 [A1.c (.sl 1 (((nRow .u64 u).drop i).take (lb + 3))), .c (nI .u64 (dl.getD (lb + 1) 0)), .c (nI .u64 (dl.getD lb 0))] [.c (nI .u64 x0)] := by rw [nRow_sub]; exact hg
          refine X2 .look (X1 _ hg2 ?_)
          refine And.intro rfl ?_
          refine X2 (.upd 64) ?_
          refine ⟨_, _, subMul_ct u dl x0 i (lb + 3) i3 hDd gq2 (by omega) (by omega) (by omega), ?_⟩
          have hz' : val 18446744073709551616 (u.drop (i + (dl.length + 1))) = 0 := by rw [hDl]; exact hz
          obtain ⟨s1, s2, s3, s4, s5⟩ := sub_law (x := x0) i3 hDd gq2 (by omega) hz'
          have s6 := sm_take (t := u) (d := dl) (x := x0) (lo := i) (dl.length + 1)
          have s7 := sm_drop (t := u) (d := dl) (x := x0) (lo := i) (dl.length + 1)
          rw [← s7] at hz'
          generalize (sm u dl x0 i (dl.length + 1)).s = u1 at *
          generalize (sm u dl x0 i (dl.length + 1)).b = b1 at *
          rw [hDv, hDl, ← hVe] at s4
          rw [hDl] at s5 hz'
          refine loopJ T_ok T_mix (G := List Nat × Nat × Nat) (fun (w, x, o) => w.length = la + 1 ∧ Dig 18446744073709551616 w ∧ w.take i = u.take i ∧ val 18446744073709551616 (w.drop (i + (lb + 3))) = 0 ∧ o ≤ 1 ∧ val 18446744073709551616 (w.drop i) + x * D = V + 18446744073709551616 ^ (lb + 3) * o ∧ val 18446744073709551616 (w.drop i) < 18446744073709551616 ^ (lb + 3) ∧ Q ≤ x ∧ x < 18446744073709551616)
            (fun (w, x, o) => [(4, .c (.ad 4 0)), (5, .c (.ad 5 0)), (9, .c (nI .i64 s)), (10, .c (nSl .u64 dl)), (11, .c (.ow 64 1 (la + 1))), (12, .c (nI .i64 (lb + 2 : Nat))), (13, .c (.ow 77 1 m0)), (14, .c (nI .i64 i)), (15, .c (.os 64 1 i (lb + 3))), (16, .c (nI .u64 x)), (17, .c (.sc (.bool (decide ((o : Int) > 0)))))])
            (fun ((w, x, o) : List Nat × Nat × Nat) => [(4, .var [.sc (.slice none 0 0)]), (5, .var [.sc (.slice none 0 0)]), (64, .row 1 (nRow .u64 w)), (77, .row 1 (nRow .u64 q))]) (fun (_, x, _) => x)
            (u1, x0, b1) ⟨by omega, s2, s6, hz', s3, s4, s5, gq1, gq2⟩ ⟨rfl, rfl, rfl, rfl, rfl, rfl, rfl, iE (by omega), rfl, rfl, rfl, trivial⟩ ⟨rfl, rfl, rfl, rfl, trivial⟩
            (fun w => w.length = la + 1 ∧ Dig 18446744073709551616 w ∧ w.take i = u.take i ∧ val 18446744073709551616 (w.drop i) = V % D)
            (fun _ => [(4, .c (.ad 4 0)), (5, .c (.ad 5 0)), (9, .c (nI .i64 s)), (10, .c (nSl .u64 dl)), (11, .c (.ow 64 1 (la + 1))), (12, .c (nI .i64 (lb + 2 : Nat))), (13, .c (.ow 77 1 m0)), (14, .c (nI .i64 i)), (16, .c (nI .u64 Q))])
            (fun w => [(4, .var [.sc (.slice none 0 0)]), (5, .var [.sc (.slice none 0 0)]), (64, .row 1 (nRow .u64 w)), (77, .row 1 (nRow .u64 q))]) (fun (w, x, o) hi => ?_) (fun w hw => ?_)
          · obtain ⟨j1, j2, j3, j4, j5, j6, j7, j8, j9⟩ := hi
            refine dcase (fun h6 => ?_) (fun h6 => ?_)
            · have ho : o = 1 := by omega
              subst ho
              rw [Nat.mul_one] at j6
              have hgt : Q < x := by
                apply Nat.lt_of_not_le
                intro hle
                have := Nat.mul_le_mul_right D hle
                rw [Nat.mul_comm Q] at this
                omega
              refine X2 (.upd 64) ?_
              refine ⟨_, _, addBack_ct w dl i (lb + 3) j2 hDd (by omega) (by omega) (by omega), ?_⟩
              have jz : val 18446744073709551616 (w.drop (i + (dl.length + 1))) = 0 := by rw [hDl]; exact j4
              obtain ⟨r1', r2, r3, r4, r5⟩ := add_law j2 hDd (by omega) jz
              have r6 := am_take (t := w) (d := dl) (x := 1) (lo := i) (dl.length + 1)
              have r7 := am_drop (t := w) (d := dl) (x := 1) (lo := i) (dl.length + 1)
              rw [← r7] at jz
              generalize (am w dl 1 i (dl.length + 1)).1 = w1 at *
              generalize (am w dl 1 i (dl.length + 1)).2 = c1 at *
              rw [hDv, hDl] at r4
              rw [hDl] at r5 jz
              obtain ⟨p, rfl⟩ : ∃ p, x = p + 1 := ⟨x - 1, by omega⟩
              rw [Nat.add_mul, Nat.one_mul] at j6
              rw [show lb + 2 + 1 = lb + 3 from rfl] at r4
              have heq : val 18446744073709551616 (w1.drop i) + p * D = V + 18446744073709551616 ^ (lb + 3) * (1 - c1) := by
                have hc : c1 = 0 ∨ c1 = 1 := by omega
                rcases hc with rfl | rfl
                · rw [Nat.mul_zero, Nat.add_zero] at r4
                  rw [Nat.mul_one]
                  omega
                · rw [Nat.mul_one] at r4
                  rw [Nat.mul_zero]
                  omega
              refine X1 ((p : Nat) : Int) (wU (by omega) (by omega) (by omega)) ?_
              exact ⟨(w1, p, 1 - c1), ⟨by omega, r2, r6.trans j3, jz, by omega, heq, r5, by omega, by omega⟩, by show p < p + 1; omega, ⟨rfl, rfl, rfl, rfl, rfl, rfl, rfl, rfl, rfl, rfl, blB (by have hc : c1 = 0 ∨ c1 = 1 := by omega
                                                                                                                                                                                                   rcases hc with rfl | rfl <;> rfl), trivial⟩, ⟨rfl, rfl, rfl, rfl, trivial⟩⟩
            · have ho : o = 0 := by omega
              subst ho
              rw [Nat.mul_zero, Nat.add_zero] at j6
              have hle : x ≤ Q := by
                rw [← hQe, ← hVe]
                exact (Nat.le_div_iff_mul_le hD0).2 (by omega)
              have hxe : x = Q := by omega
              subst hxe
              refine ⟨w, ⟨j1, j2, j3, by rw [Nat.mul_comm] at hdm; omega⟩, ⟨rfl, rfl, rfl, rfl, rfl, rfl, rfl, rfl, rfl, trivial⟩, ⟨rfl, rfl, rfl, rfl, trivial⟩⟩
          · obtain ⟨j1, j2, j3, j4⟩ := hw
            refine And.intro (by omega) (And.intro (by omega) ?_)
            refine X1 _ (nRow_getN rfl (by omega)) ?_
            refine X1 ((i : Int) - 1) (wI (by omega) (by omega) (by omega)) ?_
            refine ⟨(i, w, q.set i Q), ⟨by omega, j1, j2, by simp [i4], i5.set hQ, by rw [j4]; exact hml, ?_⟩, by show i < i + 1; omega, ⟨rfl, rfl, rfl, rfl, rfl, rfl, rfl, rfl, trivial⟩, ⟨rfl, rfl, rfl, rowE (by rw [← nRow_set]; rfl), trivial⟩⟩
            have k1 := val_at (lo := i) (s := w) (by omega)
            have k2 := val_at (lo := i) (s := u) (by omega)
            rw [j3, j4] at k1
            rw [← hVe] at k2
            have k3 := congrArg (18446744073709551616 ^ i * ·) hdm
            simp only [Nat.mul_add] at k3
            rw [val_drop_set _ (by omega), i7, k1, k2, Nat.pow_succ, Nat.mul_add, Nat.mul_add D, Nat.mul_assoc, Nat.mul_left_comm D (18446744073709551616 ^ i) Q, ← k3]
            omega
        · have e : m = 0 := by omega
          subst e
          rw [Nat.pow_zero, Nat.one_mul, List.drop_zero] at i7
          rw [List.drop_zero] at i6
          obtain ⟨e1, e2⟩ := dm_uniq i7 i6
          rw [hA2, hD] at e1 e2
          rw [Nat.mul_div_mul_right _ _ hps] at e1
          rw [Nat.mul_mod_mul_right] at e2
          exact ⟨(u, q), ⟨i2, i3, i4, i5, e1, e2⟩, ⟨rfl, rfl, rfl, rfl, rfl, rfl, trivial⟩, ⟨rfl, rfl, rfl, rfl, trivial⟩⟩
      · obtain ⟨i2, i3, i4, i5, e1, e2⟩ := hl
        refine frzC T_ok T_mix [64, 77] ?_
        have hDp : D < 18446744073709551616 ^ (lb + 2) := by
          have := lt_dg_len (B := 18446744073709551616) (by omega) D
          rw [← hdl, hDl] at this; exact this
        have hml : a % b * 2 ^ s < D := by rw [hD]; exact Nat.mul_lt_mul_of_pos_right (Nat.mod_lt _ (by omega)) hps
        have hut : val 18446744073709551616 (u.take (lb + 2)) = a % b * 2 ^ s := by
          have h1 := val_at (lo := lb + 2) (s := u) (by omega)
          have h0 : val 18446744073709551616 (u.drop (lb + 2)) = 0 := by
            apply Classical.byContradiction
            intro h0
            have := Nat.mul_le_mul_left (18446744073709551616 ^ (lb + 2)) (Nat.pos_of_ne_zero h0)
            rw [Nat.mul_one] at this
            omega
          rw [h0, Nat.mul_zero, Nat.add_zero, e2] at h1
          exact h1.symm
        refine X1 _ (ntrim_ct q (by omega)) ?_
        rw [trim_dg (by omega) i5, e1]
        refine ⟨0, lb + 2, by simp, by simp, by omega, by rw [nRow_len]; omega, ?_⟩
        rw [nRow_sub, List.drop_zero, Nat.sub_zero]
        refine X1 _ (cloneU_ct (u.take (lb + 2)) (by rw [List.length_take]; omega)) ?_
        refine X1 _ (ntrim_ct (u.take (lb + 2)) (by rw [List.length_take]; omega)) ?_
        rw [trim_dg (by omega) i3.take, hut]
        have hll : (dg 18446744073709551616 (a % b * 2 ^ s)).length ≤ 1000000 := by
          have := dg_len_mono (B := 18446744073709551616) (by omega) (Nat.le_of_lt hml)
          rw [← hdl, hDl] at this
          omega
        have hd := down_ct (a % b * 2 ^ s) s hll (by omega)
        rw [Nat.mul_div_cancel _ hps] at hd
        refine X1 _ hd ?_
        refine And.intro rfl ?_
        exact ⟨trivial, rc rfl, rc rfl, r1 rfl, trivial⟩
end Go.Proofs.YtpmchgndnhgncaaGreat.Pv
namespace Go.Proofs.YtpmchgndnhgncaaGreat.Pv
open Go
theorem ngcd_ct (a b : Nat) (ha : (dg 18446744073709551616 a).length ≤ 100000) (hb : (dg 18446744073709551616 b).length ≤ 100000) : Ct P 81 [nV a, nV b] [nV (Nat.gcd a b)] := by
  refine Ct.go T_ok T_mix (N := 21) Tryz.func81 rfl rfl rfl rfl ?_
  refine loopJ T_ok T_mix (G := Nat × Nat) (fun (x, y) => Nat.gcd x y = Nat.gcd a b ∧ (dg 18446744073709551616 x).length ≤ 100000 ∧ (dg 18446744073709551616 y).length ≤ 100000) (fun _ => [(2, .c (.ad 2 0)), (3, .c (.ad 3 0)), (4, .c (.ad 4 0))])
    (fun (x, y) => [(2, .var [nSl .u64 (dg 18446744073709551616 x)]), (3, .var [nSl .u64 (dg 18446744073709551616 y)]), (4, .var [.sc (.slice none 0 0)])]) (fun (x, y) => y)
    (a, b) ⟨rfl, ha, hb⟩ ⟨rfl, rfl, rfl, trivial⟩ ⟨rfl, rfl, rfl, trivial⟩ (fun _ : Unit => True) (fun _ => [(2, .c (.ad 2 0)), (4, .c (.ad 4 0))]) (fun _ => [(2, .var [nSl .u64 (dg 18446744073709551616 (Nat.gcd a b))]), (4, .var [.sc (.slice none 0 0)])]) (fun (x, y) hg => ?_) (fun _ _ => ?_)
  · obtain ⟨h1, h2, h3⟩ := hg
    refine X1 _ (nzero_ct y (by omega)) ?_
    refine bcase (fun h => ?_) (fun h => ?_)
    · have hy : y ≠ 0 := by simpa using h
      refine X1 _ (ndiv_ct x y hy h2 h3) ?_
      refine And.intro rfl ?_
      have hlt := Nat.mod_lt x (show 0 < y by omega)
      exact ⟨(y, x % y), ⟨by rw [← h1, Nat.gcd_comm x y, Nat.gcd_rec y x, Nat.gcd_comm], h3, Nat.le_trans (dg_len_mono (by omega) (by omega)) h3⟩, hlt, ⟨rfl, rfl, rfl, trivial⟩, ⟨rfl, rfl, rfl, trivial⟩⟩
    · have hy : y = 0 := by simpa using h
      subst hy
      rw [Nat.gcd_zero_right] at h1
      subst h1
      exact ⟨(), trivial, ⟨rfl, rfl, trivial⟩, ⟨rfl, rfl, trivial⟩⟩
  · exact ⟨trivial, rc rfl, trivial⟩
theorem qone_ct : Ct P 37 [] [nV 1] := by
  refine Ct.go T_ok T_mix (N := 2) Tryz.func37 rfl rfl rfl rfl ?_
  refine X1 _ (nof_ct 1 (by omega)) ?_
  exact ⟨trivial, rc rfl, trivial⟩
abbrev qV (n d : Nat) : A1 := .ag [nSl .u64 (dg 18446744073709551616 n), nSl .u64 (dg 18446744073709551616 d)]
theorem qint_ct (v : Nat) (hv : v < 18446744073709551616) : Ct P 10 [.c (nI .u64 v)] [qV v 1] := by
  refine Ct.go T_ok T_mix (N := 7) Tryz.func10 rfl rfl rfl rfl ?_
  refine X1 _ (nof_ct v hv) ?_
  refine X1 _ qone_ct ?_
  exact ⟨trivial, rc rfl, trivial⟩
theorem qnum_ct (n d : Nat) : Ct P 40 [qV n d] [nV n] := by
  refine Ct.go T_ok T_mix (N := 5) Tryz.func40 rfl rfl rfl rfl ?_
  exact ⟨trivial, rc rfl, trivial⟩
def dn (d : Nat) : Nat := if d = 0 then 1 else d
theorem dn_pos (d : Nat) : dn d ≠ 0 := by unfold dn; split <;> omega
theorem dn_ne {d : Nat} (h : d ≠ 0) : dn d = d := if_neg h
theorem dn_len {d k : Nat} (hk : 1 ≤ k) (h : (dg 18446744073709551616 d).length ≤ k) : (dg 18446744073709551616 (dn d)).length ≤ k := by
  unfold dn
  split
  · exact Nat.le_trans (dg_len (k := 1) (by omega) (by decide)) hk
  · exact h
theorem qden_ct (n d : Nat) (hl : (dg 18446744073709551616 d).length ≤ 1000000) : Ct P 41 [qV n d] [nV (dn d)] := by
  refine Ct.go T_ok T_mix (N := 9) Tryz.func41 rfl rfl rfl rfl ?_
  refine X1 _ (nzero_ct d hl) ?_
  refine bcase (fun h => ?_) (fun h => ?_)
  · have h0 : d = 0 := by simpa using h
    subst h0
    refine X1 _ qone_ct ?_
    exact ⟨trivial, rc rfl, trivial⟩
  · rw [dn_ne (by simpa using h)]
    exact ⟨trivial, rc rfl, trivial⟩
theorem qzero_ct (n d : Nat) (hl : (dg 18446744073709551616 n).length ≤ 1000000) : Ct P 16 [qV n d] [.c (.sc (.bool (n == 0)))] := by
  refine Ct.go T_ok T_mix (N := 6) Tryz.func16 rfl rfl rfl rfl ?_
  refine X1 _ (nzero_ct n hl) ?_
  exact ⟨trivial, r1 rfl, trivial⟩
abbrev qR (n d : Nat) : A1 := qV (n / Nat.gcd n d) (d / Nat.gcd n d)
theorem qmade_ct (n d : Nat) (hd : d ≠ 0) (hn : (dg 18446744073709551616 n).length ≤ 100000) (hl : (dg 18446744073709551616 d).length ≤ 100000) : Ct P 42 [nV n, nV d] [qR n d] := by
  have hg : Nat.gcd n d ≠ 0 := fun h => hd (Nat.gcd_eq_zero_iff.1 h).2
  have hgl : (dg 18446744073709551616 (Nat.gcd n d)).length ≤ 100000 := Nat.le_trans (dg_len_mono (by omega) (Nat.gcd_le_right n (by omega))) hl
  have h1l : (dg 18446744073709551616 1).length ≤ 1000000 := by have := dg_len_mono (B := 18446744073709551616) (by omega) (show 1 ≤ d by omega); omega
  refine Ct.go T_ok T_mix (N := 34) Tryz.func42 rfl rfl rfl rfl ?_
  refine X1 _ (nzero_ct n (by omega)) ?_
  refine bcase (fun h => ?_) (fun h => ?_)
  · have h0 : n = 0 := by simpa using h
    subst h0
    unfold qR qV
    rw [Nat.gcd_zero_left, Nat.zero_div, Nat.div_self (by omega), dg_zero]
    refine X1 _ qone_ct ?_
    exact ⟨trivial, ⟨_, rfl, .inr ⟨rfl, 1, rfl⟩, .inl rfl, trivial⟩, trivial⟩
  · refine X1 _ (ngcd_ct n d hn hl) ?_
    refine X1 _ qone_ct ?_
    refine X1 _ (ncmp_ct _ 1 (by omega) h1l) ?_
    refine And.intro rfl ?_
    refine dcase (fun h2 => ?_) (fun h2 => ?_)
    · refine X1 _ (ndiv_ct n _ hg hn hgl) ?_
      refine X1 _ (ndiv_ct d _ hg hl hgl) ?_
      exact ⟨trivial, rc rfl, trivial⟩
    · have h3 : Nat.gcd n d = 1 := by
        unfold cmpI at h2
        split at h2
        · omega
        · split at h2 <;> omega
      unfold qR
      rw [h3, Nat.div_one, Nat.div_one]
      exact ⟨trivial, rc rfl, trivial⟩
theorem nmul_len {a b k m : Nat} (ha : (dg 18446744073709551616 a).length ≤ k) (hb : (dg 18446744073709551616 b).length ≤ m) : (dg 18446744073709551616 (a * b)).length ≤ k + m := by
  apply dg_len (by omega)
  have h1 := lt_dg_len (B := 18446744073709551616) (by omega) a
  have h2 := lt_dg_len (B := 18446744073709551616) (by omega) b
  have h3 : a * b < 18446744073709551616 ^ (dg 18446744073709551616 a).length * 18446744073709551616 ^ (dg 18446744073709551616 b).length := Nat.mul_lt_mul'' h1 h2
  rw [← Nat.pow_add] at h3
  exact Nat.lt_of_lt_of_le h3 (Nat.pow_le_pow_right (by omega) (by omega))
structure LimQ (n d : Nat) : Prop where
  n : (dg 18446744073709551616 n).length ≤ 40000
  d : (dg 18446744073709551616 d).length ≤ 40000
theorem qcmp_ct (a b c d : Nat) (h1 : LimQ a b) (h2 : LimQ c d) : Ct P 22 [qV a b, qV c d] [.c (eI .i64 (cmpI (a * dn d : Nat) (c * dn b : Nat)))] := by
  obtain ⟨n1, k1⟩ := h1
  obtain ⟨n2, k2⟩ := h2
  have l1 := dn_len (by omega) k1
  have l2 := dn_len (by omega) k2
  have p1 := dn_pos b
  have p2 := dn_pos d
  refine Ct.go T_ok T_mix (N := 16) Tryz.func22 rfl rfl rfl rfl ?_
  refine X1 _ (qnum_ct a b) (X1 _ (qden_ct c d (by omega)) (X1 _ (nmul_ct a (dn d) (by omega) (by omega)) ?_))
  refine X1 _ (qnum_ct c d) (X1 _ (qden_ct a b (by omega)) (X1 _ (nmul_ct c (dn b) (by omega) (by omega)) ?_))
  refine X1 _ (ncmp_ct _ _ (Nat.le_trans (nmul_len n1 l2) (by omega)) (Nat.le_trans (nmul_len n2 l1) (by omega))) ?_
  refine And.intro rfl ?_
  exact ⟨trivial, r1 rfl, trivial⟩
theorem qmul_ct (a b c d : Nat) (h1 : LimQ a b) (h2 : LimQ c d) : Ct P 24 [qV a b, qV c d] [qR (a * c) (dn b * dn d)] := by
  obtain ⟨n1, k1⟩ := h1
  obtain ⟨n2, k2⟩ := h2
  have l1 := dn_len (by omega) k1
  have l2 := dn_len (by omega) k2
  have p1 := dn_pos b
  have p2 := dn_pos d
  refine Ct.go T_ok T_mix (N := 16) Tryz.func24 rfl rfl rfl rfl ?_
  refine X1 _ (qnum_ct a b) (X1 _ (qnum_ct c d) (X1 _ (nmul_ct a c (by omega) (by omega)) ?_))
  refine X1 _ (qden_ct a b (by omega)) (X1 _ (qden_ct c d (by omega)) (X1 _ (nmul_ct (dn b) (dn d) (by omega) (by omega)) ?_))
  refine X1 _ (qmade_ct _ _ (Nat.mul_ne_zero p1 p2) (Nat.le_trans (nmul_len n1 n2) (by omega)) (Nat.le_trans (nmul_len l1 l2) (by omega))) ?_
  refine And.intro rfl ?_
  exact ⟨trivial, rc rfl, trivial⟩
theorem qdiv_ct (a b c d : Nat) (h1 : LimQ a b) (h2 : LimQ c d) (hc : c ≠ 0) : Ct P 83 [qV a b, qV c d] [qR (a * dn d) (dn b * c), .c (eI .i64 0)] := by
  obtain ⟨n1, k1⟩ := h1
  obtain ⟨n2, k2⟩ := h2
  have l1 := dn_len (by omega) k1
  have l2 := dn_len (by omega) k2
  have p1 := dn_pos b
  have p2 := dn_pos d
  refine Ct.go T_ok T_mix (N := 20) Tryz.func83 rfl rfl rfl rfl ?_
  refine X1 _ (qzero_ct c d (by omega)) ?_
  refine bfalse (by simpa using hc) ?_
  refine X1 _ (qnum_ct a b) (X1 _ (qden_ct c d (by omega)) (X1 _ (nmul_ct a (dn d) (by omega) (by omega)) ?_))
  refine X1 _ (qden_ct a b (by omega)) (X1 _ (qnum_ct c d) (X1 _ (nmul_ct (dn b) c (by omega) (by omega)) ?_))
  refine X1 _ (qmade_ct _ _ (Nat.mul_ne_zero p1 hc) (Nat.le_trans (nmul_len n1 l2) (by omega)) (Nat.le_trans (nmul_len l1 n2) (by omega))) ?_
  refine And.intro rfl ?_
  exact ⟨trivial, rc rfl, r1 rfl, trivial⟩
theorem qless_ct (a b c d : Nat) (h1 : LimQ a b) (h2 : LimQ c d) (hle : c * dn b ≤ a * dn d) : Ct P 46 [qV a b, qV c d] [qR (a * dn d - c * dn b) (dn b * dn d)] := by
  obtain ⟨n1, k1⟩ := h1
  obtain ⟨n2, k2⟩ := h2
  have l1 := dn_len (by omega) k1
  have l2 := dn_len (by omega) k2
  have p1 := dn_pos b
  have p2 := dn_pos d
  refine Ct.go T_ok T_mix (N := 31) Tryz.func46 rfl rfl rfl rfl ?_
  refine X1 _ (qnum_ct a b) (X1 _ (qden_ct c d (by omega)) (X1 _ (nmul_ct a (dn d) (by omega) (by omega)) ?_))
  refine X1 _ (qnum_ct c d) (X1 _ (qden_ct a b (by omega)) (X1 _ (nmul_ct c (dn b) (by omega) (by omega)) ?_))
  have hl := nmul_len n1 l2
  refine X1 _ (nsub_ct _ _ hle (by omega)) ?_
  refine And.intro rfl ?_
  refine X1 _ (qden_ct a b (by omega)) (X1 _ (qden_ct c d (by omega)) (X1 _ (nmul_ct (dn b) (dn d) (by omega) (by omega)) ?_))
  have hl3 := dg_len_mono (B := 18446744073709551616) (by omega) (Nat.sub_le (a * dn d) (c * dn b))
  refine X1 _ (qmade_ct _ _ (Nat.mul_ne_zero p1 p2) (by omega) (Nat.le_trans (nmul_len l1 l2) (by omega))) ?_
  refine And.intro rfl ?_
  exact ⟨trivial, rc rfl, trivial⟩
def qAdd (o x : Nat × Nat) : Nat × Nat := ((o.1 * dn x.2 + x.1 * dn o.2) / Nat.gcd (o.1 * dn x.2 + x.1 * dn o.2) (dn o.2 * dn x.2), dn o.2 * dn x.2 / Nat.gcd (o.1 * dn x.2 + x.1 * dn o.2) (dn o.2 * dn x.2))
def qRow (l : List (Nat × Nat)) : List (List PC) := l.map fun x => [nSl .u64 (dg 18446744073709551616 x.1), nSl .u64 (dg 18446744073709551616 x.2)]
theorem qRow_len {l : List (Nat × Nat)} : (qRow l).length = l.length := by simp [qRow]
theorem qRow_get {l : List (Nat × Nat)} {i : Int} {n : Nat} (h0 : i = n) (h : n < l.length) : (qRow l)[i.toNat]? = some [nSl .u64 (dg 18446744073709551616 l[n].1), nSl .u64 (dg 18446744073709551616 l[n].2)] := by
  subst h0
  simp [qRow, h]
theorem qadd_ct (l : List (Nat × Nat)) (hl : l.length ≤ 1000000) (h1 : ∀ (i : Nat) (h : i < l.length), LimQ l[i].1 l[i].2) (h2 : ∀ i, i ≤ l.length → LimQ ((l.take i).foldl qAdd (0, 1)).1 ((l.take i).foldl qAdd (0, 1)).2) :
    Ct P 11 [.c (.sl 2 (qRow l))] [qV (l.foldl qAdd (0, 1)).1 (l.foldl qAdd (0, 1)).2] := by
  refine Ct.go T_ok T_mix (N := 34) Tryz.func11 rfl rfl rfl rfl ?_
  refine X1 _ (qint_ct 0 (by omega)) ?_
  refine And.intro (by rw [qRow_len]; omega) ?_
  rw [qRow_len]
  refine loopJ T_ok T_mix (fun i : Nat => i ≤ l.length) (fun i => [(2, .c (.ad 2 0)), (3, .c (.ad 3 0)), (8, .c (.sl 2 (qRow l))), (9, .c (nI .i64 l.length)), (10, .c (nI .i64 i))])
    (fun i => [(2, .var [.sc (.slice none 0 0), .sc (.slice none 0 0)]), (3, .var [nSl .u64 (dg 18446744073709551616 ((l.take i).foldl qAdd (0, 1)).1), nSl .u64 (dg 18446744073709551616 ((l.take i).foldl qAdd (0, 1)).2)])]) (fun i => l.length - i)
    0 (by omega) ⟨rfl, rfl, rfl, rfl, rfl, trivial⟩ ⟨rfl, rfl, trivial⟩ (fun _ : Unit => True) (fun _ => [(2, .c (.ad 2 0)), (3, .c (.ad 3 0))])
    (fun _ => [(2, .var [.sc (.slice none 0 0), .sc (.slice none 0 0)]), (3, .var [nSl .u64 (dg 18446744073709551616 (l.foldl qAdd (0, 1)).1), nSl .u64 (dg 18446744073709551616 (l.foldl qAdd (0, 1)).2)])]) (fun i hi => ?_) (fun _ _ => ?_)
  · refine dcase (fun h5 => ?_) (fun h5 => ?_)
    · have hs : (l.take (i + 1)).foldl qAdd (0, 1) = qAdd ((l.take i).foldl qAdd (0, 1)) l[i] := by
        rw [List.take_succ_eq_append_getElem (by omega), List.foldl_append]; rfl
      obtain ⟨n1, k1⟩ := h2 i hi
      obtain ⟨n2, k2⟩ := h1 i (by omega)
      have hq := qRow_get (l := l) (i := (i : Int)) (n := i) rfl (by omega)
      generalize (l.take i).foldl qAdd (0, 1) = o at *
      generalize l[i] = x at *
      have l1 := dn_len (by omega) k1
      have l2 := dn_len (by omega) k2
      have p1 := dn_pos o.2
      have p2 := dn_pos x.2
      refine And.intro (by omega) (X1 _ hq ?_)
      refine X1 _ (qnum_ct o.1 o.2) (X1 _ (qden_ct x.1 x.2 (by omega)) (X1 _ (nmul_ct o.1 (dn x.2) (by omega) (by omega)) ?_))
      refine X1 _ (qnum_ct x.1 x.2) (X1 _ (qden_ct o.1 o.2 (by omega)) (X1 _ (nmul_ct x.1 (dn o.2) (by omega) (by omega)) ?_))
      have m1 := nmul_len n1 l2
      have m2 := nmul_len n2 l1
      refine X1 _ (nadd_ct _ _ (by omega) (by omega)) ?_
      refine And.intro rfl ?_
      refine X1 _ (qden_ct o.1 o.2 (by omega)) (X1 _ (qden_ct x.1 x.2 (by omega)) (X1 _ (nmul_ct (dn o.2) (dn x.2) (by omega) (by omega)) ?_))
      have m3 := nadd_len m1 m2
      refine X1 _ (qmade_ct _ _ (Nat.mul_ne_zero p1 p2) (by omega) (Nat.le_trans (nmul_len l1 l2) (by omega))) ?_
      refine And.intro rfl ?_
      refine X1 ((i + 1 : Nat) : Int) (wI1 (by omega)) ?_
      exact ⟨i + 1, by omega, by omega, ⟨rfl, rfl, rfl, rfl, rfl, trivial⟩, ⟨rfl, by rw [hs]; rfl, trivial⟩⟩
    · have e : i = l.length := by omega
      subst e
      rw [List.take_length]
      exact ⟨(), trivial, ⟨rfl, rfl, trivial⟩, ⟨rfl, rfl, trivial⟩⟩
  · exact ⟨trivial, rc rfl, trivial⟩
end Go.Proofs.YtpmchgndnhgncaaGreat.Pv
