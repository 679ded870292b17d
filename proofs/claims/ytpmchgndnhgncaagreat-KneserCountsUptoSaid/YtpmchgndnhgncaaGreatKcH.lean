/- Parts of a proof, joined: Ce Cg Ci Cj Ck. -/
import Derived.Test.YtpmchgndnhgncaaGreatKcG
namespace Go.Proofs.YtpmchgndnhgncaaGreat.Pv
open Go
theorem and32 {x : Nat} (hx : x < 18446744073709551616) : IntKind.u64.wrap ((BitVec.ofInt IntKind.u64.bits (x : Int) &&& BitVec.ofInt IntKind.u64.bits 4294967295).toNat : Int) = ((x % 4294967296 : Nat) : Int) := by
  have e : (BitVec.ofInt IntKind.u64.bits (x : Int) &&& BitVec.ofInt IntKind.u64.bits 4294967295).toNat = x % 4294967296 := by
    show (BitVec.ofInt 64 (x : Int) &&& BitVec.ofInt 64 ((4294967295 : Nat) : Int)).toNat = _
    rw [BitVec.ofInt_natCast, BitVec.ofInt_natCast, BitVec.toNat_and, BitVec.toNat_ofNat, BitVec.toNat_ofNat, Nat.mod_eq_of_lt (by omega : x < 2 ^ 64), Nat.mod_eq_of_lt (by omega : 4294967295 < 2 ^ 64)]
    exact Nat.and_two_pow_sub_one_eq_mod x 32
  rw [e]
  exact wU rfl (by omega) (by omega)
theorem modU {n : Nat} : IntKind.u64.wrap (n : Int) = ((n % 18446744073709551616 : Nat) : Int) := by
  simp [IntKind.wrap, IntKind.bits, IntKind.signed]
theorem mul64_ct (x y : Nat) (hx : x < 18446744073709551616) (hy : y < 18446744073709551616) : Ct P 121 [.c (nI .u64 x), .c (nI .u64 y)] [.c (nI .u64 (x * y / 18446744073709551616)), .c (nI .u64 (x * y % 18446744073709551616))] := by
  have q : x * y = (x / 4294967296) * (y / 4294967296) * 18446744073709551616 + (x / 4294967296) * (y % 4294967296) * 4294967296 + (x % 4294967296) * (y / 4294967296) * 4294967296 + (x % 4294967296) * (y % 4294967296) := by
    conv => lhs; rw [← Nat.div_add_mod x 4294967296, ← Nat.div_add_mod y 4294967296]
    simp only [Nat.mul_add, Nat.add_mul]
    have e1 : 4294967296 * (x / 4294967296) * (4294967296 * (y / 4294967296)) = (x / 4294967296) * (y / 4294967296) * 18446744073709551616 := by
      rw [Nat.mul_mul_mul_comm, Nat.mul_comm (4294967296 * 4294967296)]
    have e2 : x % 4294967296 * (4294967296 * (y / 4294967296)) = (x % 4294967296) * (y / 4294967296) * 4294967296 := by rw [Nat.mul_left_comm, Nat.mul_comm 4294967296]
    have e3 : 4294967296 * (x / 4294967296) * (y % 4294967296) = (x / 4294967296) * (y % 4294967296) * 4294967296 := by rw [Nat.mul_assoc, Nat.mul_comm 4294967296]
    omega
  refine Ct.go T_ok T_mix (N := 51) Tryz.func121 rfl rfl rfl rfl ?_
  refine X1 _ (and32 hx) ?_
  refine And.intro (by omega) (X1 ((x / 4294967296 : Nat) : Int) (shrN (k := 32) (by decide)) (And.intro ⟨by omega, by omega⟩ ?_))
  refine X1 _ (and32 hy) ?_
  refine And.intro (by omega) (X1 ((y / 4294967296 : Nat) : Int) (shrN (k := 32) (by decide)) (And.intro ⟨by omega, by omega⟩ ?_))
  have hx0 : x % 4294967296 < 4294967296 := by omega
  have hx1 : x / 4294967296 < 4294967296 := by omega
  have hy0 : y % 4294967296 < 4294967296 := by omega
  have hy1 : y / 4294967296 < 4294967296 := by omega
  generalize x % 4294967296 = x0 at *
  generalize x / 4294967296 = x1 at *
  generalize y % 4294967296 = y0 at *
  generalize y / 4294967296 = y1 at *
  have l00 : x0 * y0 ≤ 4294967295 * 4294967295 := Nat.mul_le_mul (by omega) (by omega)
  have l01 : x0 * y1 ≤ 4294967295 * 4294967295 := Nat.mul_le_mul (by omega) (by omega)
  have l10 : x1 * y0 ≤ 4294967295 * 4294967295 := Nat.mul_le_mul (by omega) (by omega)
  have l11 : x1 * y1 ≤ 4294967295 * 4294967295 := Nat.mul_le_mul (by omega) (by omega)
  refine X1 ((x0 * y0 : Nat) : Int) (wU (by simp) (by omega) (by omega)) ?_
  refine X1 ((x1 * y0 : Nat) : Int) (wU (by simp) (by omega) (by omega)) ?_
  refine And.intro (by omega) (X1 ((x0 * y0 / 4294967296 : Nat) : Int) (shrN (k := 32) (by decide)) (And.intro ⟨by omega, by omega⟩ ?_))
  obtain ⟨t, ht⟩ : ∃ t, t = x1 * y0 + x0 * y0 / 4294967296 := ⟨_, rfl⟩
  refine X1 ((t : Nat) : Int) (wU (by rw [ht]; simp) (by omega) (by omega)) ?_
  refine X1 _ (and32 (by omega)) ?_
  refine And.intro (by omega) (X1 ((t / 4294967296 : Nat) : Int) (shrN (k := 32) (by decide)) (And.intro ⟨by omega, by omega⟩ ?_))
  refine X1 ((x0 * y1 : Nat) : Int) (wU (by simp) (by omega) (by omega)) ?_
  obtain ⟨u, hu⟩ : ∃ u, u = t % 4294967296 + x0 * y1 := ⟨_, rfl⟩
  refine X1 ((u : Nat) : Int) (wU (by rw [hu]; simp) (by omega) (by omega)) ?_
  refine X1 ((x1 * y1 : Nat) : Int) (wU (by simp) (by omega) (by omega)) ?_
  refine X1 ((x1 * y1 + t / 4294967296 : Nat) : Int) (wU (by simp) (by omega) (by omega)) ?_
  refine And.intro (by omega) (X1 ((u / 4294967296 : Nat) : Int) (shrN (k := 32) (by decide)) (And.intro ⟨by omega, by omega⟩ ?_))
  refine X1 ((x1 * y1 + t / 4294967296 + u / 4294967296 : Nat) : Int) (wU (by simp) (by omega) (by omega)) ?_
  refine X1 ((x * y % 18446744073709551616 : Nat) : Int) (by rw [← modU]; simp) ?_
  exact ⟨trivial, r1 (iE (by rw [show x * y / 18446744073709551616 = x1 * y1 + t / 4294967296 + u / 4294967296 by omega])), r1 rfl, trivial⟩
theorem nadd_len {a b k : Nat} (ha : (dg 18446744073709551616 a).length ≤ k) (hb : (dg 18446744073709551616 b).length ≤ k) : (dg 18446744073709551616 (a + b)).length ≤ k + 1 := by
  apply dg_len (by omega)
  have h1 := Nat.lt_of_lt_of_le (lt_dg_len (B := 18446744073709551616) (by omega) a) (Nat.pow_le_pow_right (by omega) ha)
  have h2 := Nat.lt_of_lt_of_le (lt_dg_len (B := 18446744073709551616) (by omega) b) (Nat.pow_le_pow_right (by omega) hb)
  rw [Nat.pow_succ]
  omega
theorem nadd_ct (a0 b0 : Nat) (ha : (dg 18446744073709551616 a0).length ≤ 400000) (hb : (dg 18446744073709551616 b0).length ≤ 400000) : Ct P 38 [nV a0, nV b0] [nV (a0 + b0)] := by
  refine Ct.go T_ok T_mix (N := 59) Tryz.func38 rfl rfl rfl rfl ?_
  refine X1 _ (nlonger_ct a0 b0 (by omega) (by omega)) ?_
  obtain ⟨a, hae⟩ : ∃ a, a = if blen a0 < blen b0 then b0 else a0 := ⟨_, rfl⟩
  obtain ⟨b, hbe⟩ : ∃ b, b = if blen a0 < blen b0 then a0 else b0 := ⟨_, rfl⟩
  rw [← hae, ← hbe]
  have hsum : a0 + b0 = a + b := by rw [hae, hbe]; split <;> omega
  have hla : (dg 18446744073709551616 a).length ≤ 400000 := by rw [hae]; split <;> assumption
  have hlb : (dg 18446744073709551616 b).length ≤ (dg 18446744073709551616 a).length := by
    apply dg_len (by omega)
    have h1 : blen b ≤ blen a := by rw [hae, hbe]; split <;> omega
    have h2 := blen_len a
    rw [w_pow]
    exact Nat.lt_of_lt_of_le (lt_blen b) (Nat.pow_le_pow_right (by omega) (by omega))
  rw [hsum]
  clear hae hbe hsum ha hb
  refine And.intro (by rw [nRow_len]; omega) ?_
  rw [nRow_len]
  refine X1 (((dg 18446744073709551616 a).length + 1 : Nat) : Int) (wI (by simp) (by omega) (by omega)) ?_
  refine ⟨by omega, by omega, by omega, .inl (by decide), ?_⟩
  refine And.intro (by rw [nRow_len]; omega) ?_
  rw [nRow_len]
  refine loopJ T_ok T_mix (G := Nat × List Nat × Nat) (fun (i, out, c) => i ≤ (dg 18446744073709551616 a).length ∧ out.length = (dg 18446744073709551616 a).length + 1 ∧ Dig 18446744073709551616 out ∧ c ≤ 1 ∧ val 18446744073709551616 ((dg 18446744073709551616 a).take i) + val 18446744073709551616 ((dg 18446744073709551616 b).take i) = val 18446744073709551616 (out.take i) + 18446744073709551616 ^ i * c)
    (fun (i, out, c) => [(2, .c (.ad 2 0)), (3, .c (.ad 3 0)), (4, .c (.ad 4 0)), (5, .c (.ow 19 1 ((dg 18446744073709551616 a).length + 1))), (6, .c (nI .u64 c)), (22, .c (nI .i64 (dg 18446744073709551616 a).length)), (23, .c (nI .i64 i))])
    (fun ((i, out, c) : Nat × List Nat × Nat) => [(2, .var [nSl .u64 (dg 18446744073709551616 a)]), (3, .var [nSl .u64 (dg 18446744073709551616 b)]), (4, .var [.sc (.slice none 0 0)]), (19, .row 1 (nRow .u64 out))]) (fun (i, out, c) => (dg 18446744073709551616 a).length - i)
    (0, List.replicate ((dg 18446744073709551616 a).length + 1) 0, 0) ⟨by simp, by simp, fun x hx => by rw [List.eq_of_mem_replicate hx]; omega, by simp, by simp [val]⟩
    ⟨rfl, rfl, rfl, owE (by omega), rfl, rfl, rfl, trivial⟩ ⟨rfl, rfl, rfl, rowE (rep_row rfl), trivial⟩
    (G2 := List Nat × Nat) (fun (l, c) => Dig 18446744073709551616 l ∧ c ≤ 1 ∧ val 18446744073709551616 (l.take (dg 18446744073709551616 a).length) + 18446744073709551616 ^ (dg 18446744073709551616 a).length * c = a + b ∧ l.length = (dg 18446744073709551616 a).length + 1) (fun (l, c) => [(2, .c (.ad 2 0)), (4, .c (.ad 4 0)), (5, .c (.ow 19 1 ((dg 18446744073709551616 a).length + 1))), (6, .c (nI .u64 c))])
    (fun ((l, c) : List Nat × Nat) => [(2, .var [nSl .u64 (dg 18446744073709551616 a)]), (4, .var [.sc (.slice none 0 0)]), (19, .row 1 (nRow .u64 l))]) (fun g hg => ?_) (fun g hg => ?_)
  · obtain ⟨i, out, c⟩ := g
    obtain ⟨h1, h2, h6, h3, h4⟩ := hg
    refine dcase (fun h5 => ?_) (fun h5 => ?_)
    · have hx := (dig_dg (B := 18446744073709551616) (by omega) a).getD (by omega) i
      have hy := (dig_dg (B := 18446744073709551616) (by omega) b).getD (by omega) i
      have hA := val_take_succ 18446744073709551616 (dg 18446744073709551616 a) i
      have hB := val_take_succ 18446744073709551616 (dg 18446744073709551616 b) i
      generalize hxx : (dg 18446744073709551616 a).getD i 0 = x at hx hA
      refine And.intro (by rw [nRow_len]; omega) ?_
      rw [nRow_len]
      refine dcase (fun h7 => And.intro (by omega) (X1 _ (nRow_getN rfl (by omega)) ?_)) (fun h7 => ?_)
      · generalize hyy : (dg 18446744073709551616 b).getD i 0 = y at hy hB ⊢
        refine And.intro (by omega) (X1 _ (nRow_getN rfl (by omega)) ?_)
        rw [hxx]
        refine X1 _ (add64_ct x y c hx (by omega) h3) ?_
        refine And.intro (by omega) (And.intro (by simp <;> omega) ?_)
        refine X1 _ (nRow_getN rfl (by omega)) ?_
        refine X1 ((i + 1 : Nat) : Int) (wI (by simp) (by omega) (by omega)) ?_
        refine ⟨(i + 1, out.set i ((x + y + c) % 18446744073709551616), (x + y + c) / 18446744073709551616), ⟨by omega, by simp [h2], h6.set (by omega), by omega, ?_⟩, by show _ - (i + 1) < _ - i; omega, ⟨rfl, rfl, rfl, rfl, rfl, rfl, rfl, trivial⟩, ⟨rfl, rfl, rfl, rowE nRow_set, trivial⟩⟩
        have hst := val_take_set 18446744073709551616 out (i := i) (v := (x + y + c) % 18446744073709551616) (by omega)
        rw [hst, hA, hB]
        have key : x + y + c = (x + y + c) % 18446744073709551616 + 18446744073709551616 * ((x + y + c) / 18446744073709551616) := by omega
        have k2 := congrArg (18446744073709551616 ^ i * ·) key
        simp only [Nat.mul_add] at k2
        rw [Nat.pow_succ, Nat.mul_assoc]
        omega
      · have hyy : (dg 18446744073709551616 b).getD i 0 = 0 := by rw [List.getD_eq_getElem?_getD, List.getElem?_eq_none (by omega)]; rfl
        rw [hyy] at hB
        refine And.intro (by omega) (X1 _ (nRow_getN rfl (by omega)) ?_)
        rw [hxx]
        refine X1 _ (add64_ct x 0 c hx (by omega) h3) ?_
        refine And.intro (by omega) (And.intro (by simp <;> omega) ?_)
        refine X1 _ (nRow_getN rfl (by omega)) ?_
        refine X1 ((i + 1 : Nat) : Int) (wI (by simp) (by omega) (by omega)) ?_
        refine ⟨(i + 1, out.set i ((x + 0 + c) % 18446744073709551616), (x + 0 + c) / 18446744073709551616), ⟨by omega, by simp [h2], h6.set (by omega), by omega, ?_⟩, by show _ - (i + 1) < _ - i; omega, ⟨rfl, rfl, rfl, rfl, rfl, rfl, rfl, trivial⟩, ⟨rfl, rfl, rfl, rowE nRow_set, trivial⟩⟩
        have hst := val_take_set 18446744073709551616 out (i := i) (v := (x + 0 + c) % 18446744073709551616) (by omega)
        rw [hst, hA, hB]
        have key : x + 0 + c = (x + 0 + c) % 18446744073709551616 + 18446744073709551616 * ((x + 0 + c) / 18446744073709551616) := by omega
        have k2 := congrArg (18446744073709551616 ^ i * ·) key
        simp only [Nat.mul_add] at k2
        rw [Nat.pow_succ, Nat.mul_assoc]
        omega
    · have e : i = (dg 18446744073709551616 a).length := by omega
      subst e
      refine ⟨(out, c), ⟨h6, h3, ?_, h2⟩, ⟨rfl, rfl, rfl, rfl, trivial⟩, ⟨rfl, rfl, rfl, trivial⟩⟩
      rw [val_take_all (Nat.le_refl _), val_take_all hlb, val_dg (by omega), val_dg (by omega)] at h4
      exact h4.symm
  · obtain ⟨l, c⟩ := g
    obtain ⟨h1, h2, h3, h4⟩ := hg
    refine And.intro (by rw [nRow_len]; omega) ?_
    rw [nRow_len]
    refine And.intro (by omega) (And.intro (by omega) ?_)
    refine X1 _ (nRow_getN rfl (by omega)) ?_
    refine X2 .frz ?_
    have hv := val_take_set 18446744073709551616 l (i := (dg 18446744073709551616 a).length) (v := c) (by omega)
    rw [val_take_all (by simp; omega), h3] at hv
    have ht := ntrim_ct (l.set (dg 18446744073709551616 a).length c) (by simp; omega)
    rw [trim_dg (by omega) (h1.set (by omega)), hv] at ht
    refine X1 _ (show Ct P 76 [.c (.sl 1 ((nRow .u64 l).set (dg 18446744073709551616 a).length [nI .u64 c]))] [nV (a + b)] by rw [nRow_set]; exact ht) ?_
    exact ⟨trivial, rc rfl, trivial⟩
theorem nRow_getA {k : IntKind} {l : List Nat} {a n : Nat} (h0 : a = n) (h : n < l.length) : (nRow k l)[a]? = some [nI k (l.getD n 0)] := by
  subst h0
  simp [nRow, h]
def am (t l : List Nat) (x lo : Nat) : Nat → List Nat × Nat
  | 0 => (t, 0)
  | i + 1 => ((am t l x lo i).1.set (lo + i) (((am t l x lo i).1.getD (lo + i) 0 + x * l.getD i 0 + (am t l x lo i).2) % 18446744073709551616), ((am t l x lo i).1.getD (lo + i) 0 + x * l.getD i 0 + (am t l x lo i).2) / 18446744073709551616)
theorem am_specG {t l : List Nat} {x lo : Nat} (ht : Dig 18446744073709551616 t) (hl : Dig 18446744073709551616 l) (hx : x < 18446744073709551616) : ∀ i, lo + i ≤ t.length →
    (am t l x lo i).1.length = t.length ∧ Dig 18446744073709551616 (am t l x lo i).1 ∧ (am t l x lo i).2 < 18446744073709551616 ∧ val 18446744073709551616 (am t l x lo i).1 + 18446744073709551616 ^ (lo + i) * (am t l x lo i).2 = val 18446744073709551616 t + 18446744073709551616 ^ lo * (x * val 18446744073709551616 (l.take i))
  | 0, _ => ⟨rfl, ht, by show 0 < 18446744073709551616; omega, by simp [am, val]⟩
  | i + 1, hi => by
    obtain ⟨h1, h2, h3, h4⟩ := am_specG (lo := lo) ht hl hx i (by omega)
    simp only [am]
    generalize (am t l x lo i).1 = s at *
    generalize (am t l x lo i).2 = c at *
    have hz := h2.getD (by omega) (lo + i)
    have hy := hl.getD (by omega) i
    have hT := val_take_succ 18446744073709551616 l i
    have hset := fun v : Nat => val_set (B := 18446744073709551616) (l := s) (i := lo + i) (x := v) (by omega)
    generalize s.getD (lo + i) 0 = z at *
    generalize l.getD i 0 = y at *
    have hxy : x * y ≤ 18446744073709551615 * 18446744073709551615 := Nat.mul_le_mul (by omega) (by omega)
    obtain ⟨v, hv⟩ : ∃ v, v = z + x * y + c := ⟨_, rfl⟩
    rw [← hv]
    refine ⟨by simp [h1], h2.set (by omega), by omega, ?_⟩
    have hs := hset (v % 18446744073709551616)
    have e1 : 18446744073709551616 ^ (lo + (i + 1)) * (v / 18446744073709551616) + 18446744073709551616 ^ (lo + i) * (v % 18446744073709551616) = 18446744073709551616 ^ (lo + i) * v := by
      rw [← Nat.add_assoc, Nat.pow_succ, Nat.mul_assoc, ← Nat.mul_add]
      congr 1; omega
    have e2 : 18446744073709551616 ^ (lo + i) * v = 18446744073709551616 ^ (lo + i) * z + 18446744073709551616 ^ (lo + i) * (x * y) + 18446744073709551616 ^ (lo + i) * c := by rw [hv, Nat.mul_add, Nat.mul_add]
    have e3 : 18446744073709551616 ^ lo * (x * val 18446744073709551616 (l.take (i + 1))) = 18446744073709551616 ^ lo * (x * val 18446744073709551616 (l.take i)) + 18446744073709551616 ^ (lo + i) * (x * y) := by
      rw [hT, Nat.mul_add, Nat.mul_add, Nat.pow_add, Nat.mul_assoc, Nat.mul_left_comm x]
    omega
theorem am_spec {t l : List Nat} {x lo : Nat} (ht : Dig 18446744073709551616 t) (hl : Dig 18446744073709551616 l) (hx : x < 18446744073709551616) (hlen : lo + l.length ≤ t.length) (i : Nat) (hi : i ≤ l.length) :
    (am t l x lo i).1.length = t.length ∧ Dig 18446744073709551616 (am t l x lo i).1 ∧ (am t l x lo i).2 < 18446744073709551616 ∧ val 18446744073709551616 (am t l x lo i).1 + 18446744073709551616 ^ (lo + i) * (am t l x lo i).2 = val 18446744073709551616 t + 18446744073709551616 ^ lo * (x * val 18446744073709551616 (l.take i)) := am_specG (lo := lo) ht hl hx i (by omega)
theorem am_one {t l : List Nat} {lo : Nat} (ht : Dig 18446744073709551616 t) (hl : Dig 18446744073709551616 l) : ∀ i, lo + i ≤ t.length → (am t l 1 lo i).2 ≤ 1
  | 0, _ => Nat.zero_le _
  | i + 1, hi => by
    have h1 := am_one (lo := lo) ht hl i (by omega)
    obtain ⟨_, h2, _, _⟩ := am_specG (lo := lo) (x := 1) ht hl (by omega) i (by omega)
    have hz := h2.getD (by omega) (lo + i)
    have hy := hl.getD (by omega) i
    simp only [am]
    omega
theorem addMul_ct (t l : List Nat) (x lo n : Nat) (ht : Dig 18446744073709551616 t) (hl : Dig 18446744073709551616 l) (hx : x < 18446744073709551616) (hlen : lo + n ≤ t.length) (hn : l.length ≤ n) (hb : t.length ≤ 1000000) :
    CtO P 80 [(1000000, some (.row 1 (nRow .u64 t)))] [.c (.os 1000000 1 lo n), .c (nSl .u64 l), .c (nI .u64 x)] [(1000000, some (.row 1 (nRow .u64 (am t l x lo l.length).1)))] [.c (nI .u64 (am t l x lo l.length).2)] := by
  refine Ct.io T_ok T_mix (N := 52) Tryz.func80 rfl rfl rfl rfl ?_
  refine And.intro (by rw [nRow_len]; omega) ?_
  rw [nRow_len]
  refine loopJ T_ok T_mix (fun i : Nat => i ≤ l.length) (fun i => [(0, .c (.os 1000000 1 lo n)), (2, .c (nI .u64 x)), (7, .c (nI .u64 (am t l x lo i).2)), (13, .c (nSl .u64 l)), (14, .c (nI .i64 l.length)), (15, .c (nI .i64 i))])
    (fun i => [(1000000, .row 1 (nRow .u64 (am t l x lo i).1))]) (fun i => l.length - i) 0 (by omega) ⟨rfl, rfl, rfl, rfl, rfl, rfl, trivial⟩ ⟨rfl, trivial⟩
    (fun _ : Unit => True) (fun _ => [(7, .c (nI .u64 (am t l x lo l.length).2))]) (fun _ => [(1000000, .row 1 (nRow .u64 (am t l x lo l.length).1))]) (fun i hi => ?_) (fun _ _ => ?_)
  · refine dcase (fun h5 => ?_) (fun h5 => ?_)
    · obtain ⟨h1, h2, h3, h4⟩ := am_spec (lo := lo) ht hl hx (by omega) i hi
      have hz := h2.getD (by omega) (lo + i)
      have hy := hl.getD (by omega) i
      have hxy : x * l.getD i 0 ≤ 18446744073709551615 * 18446744073709551615 := Nat.mul_le_mul (by omega) (by omega)
      refine And.intro (by omega) (X1 _ (nRow_getN rfl (by omega)) ?_)
      refine X1 _ (mul64_ct x (l.getD i 0) hx hy) ?_
      refine X1 _ (add64_ct _ _ 0 (by omega) h3 (by omega)) ?_
      refine X1 ((x * l.getD i 0 / 18446744073709551616 + (x * l.getD i 0 % 18446744073709551616 + (am t l x lo i).2 + 0) / 18446744073709551616 : Nat) : Int) (wU (by simp) (by omega) (by omega)) ?_
      refine And.intro (by omega) (And.intro (by omega) ?_)
      refine X1 _ (nRow_getA (n := lo + i) (by omega) (by omega)) ?_
      refine X1 _ (add64_ct _ _ 0 hz (by omega) (by omega)) ?_
      refine And.intro (by omega) (And.intro (by omega) ?_)
      refine X1 _ (nRow_getA (n := lo + i) (by omega) (by omega)) ?_
      have hs : am t l x lo (i + 1) = ((am t l x lo i).1.set (lo + i) (((am t l x lo i).1.getD (lo + i) 0 + x * l.getD i 0 + (am t l x lo i).2) % 18446744073709551616), ((am t l x lo i).1.getD (lo + i) 0 + x * l.getD i 0 + (am t l x lo i).2) / 18446744073709551616) := rfl
      have e1 : (am t l x lo (i + 1)).1 = (am t l x lo i).1.set (lo + i) (((am t l x lo i).1.getD (lo + i) 0 + (x * l.getD i 0 % 18446744073709551616 + (am t l x lo i).2 + 0) % 18446744073709551616 + 0) % 18446744073709551616) := by
        rw [hs]; show List.set _ _ _ = _; congr 1; omega
      have e2 : (am t l x lo (i + 1)).2 = x * l.getD i 0 / 18446744073709551616 + (x * l.getD i 0 % 18446744073709551616 + (am t l x lo i).2 + 0) / 18446744073709551616 + ((am t l x lo i).1.getD (lo + i) 0 + (x * l.getD i 0 % 18446744073709551616 + (am t l x lo i).2 + 0) % 18446744073709551616 + 0) / 18446744073709551616 := by
        rw [hs]; show (_ : Nat) / _ = _; omega
      refine X1 (((am t l x lo (i + 1)).2 : Nat) : Int) (wU (by rw [e2]; simp) (by omega) (by omega)) ?_
      refine X1 ((i + 1 : Nat) : Int) (wI (by simp) (by omega) (by omega)) ?_
      refine ⟨i + 1, by omega, by omega, ⟨rfl, rfl, rfl, rfl, rfl, rfl, trivial⟩, ⟨rowE ?_, trivial⟩⟩
      rw [e1, ← nRow_set]
      rfl
    · have e : i = l.length := by omega
      subst e
      exact ⟨(), trivial, ⟨rfl, trivial⟩, ⟨rfl, trivial⟩⟩
  · exact ⟨trivial, SubO.of (l := [(1000000, .row 1 (nRow .u64 (am t l x lo l.length).1))]) ⟨rfl, trivial⟩, r1 rfl, trivial⟩
theorem getD_set_ne {l : List Nat} {i j v : Nat} (h : i ≠ j) : (l.set i v).getD j 0 = l.getD j 0 := by
  rw [List.getD_eq_getElem?_getD, List.getD_eq_getElem?_getD, List.getElem?_set_ne h]
theorem am_high {t l : List Nat} {x lo : Nat} : ∀ {i j : Nat}, lo + i ≤ j → (am t l x lo i).1.getD j 0 = t.getD j 0
  | 0, j, _ => rfl
  | i + 1, j, h => by
    simp only [am]
    rw [getD_set_ne (by omega)]
    exact am_high (by omega)
theorem nmul_ct (a b : Nat) (ha : (dg 18446744073709551616 a).length ≤ 400000) (hb : (dg 18446744073709551616 b).length ≤ 400000) : Ct P 39 [nV a, nV b] [nV (a * b)] := by
  refine Ct.go T_ok T_mix (N := 41) Tryz.func39 rfl rfl rfl rfl ?_
  refine And.intro (by rw [nRow_len]; omega) ?_
  refine And.intro (by rw [nRow_len]; omega) ?_
  rw [nRow_len, nRow_len]
  refine X1 (((dg 18446744073709551616 a).length + (dg 18446744073709551616 b).length : Nat) : Int) (wI (by simp) (by omega) (by omega)) ?_
  refine ⟨by omega, by omega, by omega, .inl (by decide), ?_⟩
  refine And.intro (by rw [nRow_len]; omega) ?_
  rw [nRow_len]
  have hA := dig_dg (B := 18446744073709551616) (by omega) a
  have hB := dig_dg (B := 18446744073709551616) (by omega) b
  have vA := val_dg (B := 18446744073709551616) (by omega) a
  have vB := val_dg (B := 18446744073709551616) (by omega) b
  refine loopJ T_ok T_mix (G := Nat × List Nat) (fun (i, out) => i ≤ (dg 18446744073709551616 a).length ∧ out.length = (dg 18446744073709551616 a).length + (dg 18446744073709551616 b).length ∧ Dig 18446744073709551616 out ∧ (∀ j, i + (dg 18446744073709551616 b).length ≤ j → out.getD j 0 = 0) ∧ val 18446744073709551616 out = val 18446744073709551616 ((dg 18446744073709551616 a).take i) * b)
    (fun (i, out) => [(2, .c (.ad 2 0)), (3, .c (.ad 3 0)), (4, .c (.ad 4 0)), (5, .c (.ow 15 1 ((dg 18446744073709551616 a).length + (dg 18446744073709551616 b).length))), (17, .c (nSl .u64 (dg 18446744073709551616 a))), (18, .c (nI .i64 (dg 18446744073709551616 a).length)), (19, .c (nI .i64 i))])
    (fun ((i, out) : Nat × List Nat) => [(2, .var [nSl .u64 (dg 18446744073709551616 a)]), (3, .var [nSl .u64 (dg 18446744073709551616 b)]), (4, .var [.sc (.slice none 0 0)]), (15, .row 1 (nRow .u64 out))]) (fun (i, out) => (dg 18446744073709551616 a).length - i)
    (0, List.replicate ((dg 18446744073709551616 a).length + (dg 18446744073709551616 b).length) 0) ⟨by simp, by simp, fun x hx => by rw [List.eq_of_mem_replicate hx]; omega, fun j _ => by simp [List.getD_eq_getElem?_getD, List.getElem?_replicate]; split <;> rfl, by simp [val, val_rep]⟩
    ⟨rfl, rfl, rfl, owE (by omega), rfl, rfl, rfl, trivial⟩ ⟨rfl, rfl, rfl, rowE (rep_row rfl), trivial⟩
    (fun l : List Nat => Dig 18446744073709551616 l ∧ val 18446744073709551616 l = a * b ∧ l.length ≤ 1000000) (fun l => [(4, .c (.ad 4 0)), (5, .c (.ow 15 1 ((dg 18446744073709551616 a).length + (dg 18446744073709551616 b).length)))])
    (fun l => [(4, .var [.sc (.slice none 0 0)]), (15, .row 1 (nRow .u64 l))]) (fun g hg => ?_) (fun l hl => ?_)
  · obtain ⟨i, out⟩ := g
    obtain ⟨h1, h2, h3, h4, h6⟩ := hg
    refine dcase (fun h5 => ?_) (fun h5 => ?_)
    · have hx := hA.getD (by omega) i
      have hT := val_take_succ 18446744073709551616 (dg 18446744073709551616 a) i
      refine And.intro (by omega) (X1 _ (nRow_getN rfl (by omega)) ?_)
      generalize (dg 18446744073709551616 a).getD i 0 = x at hx hT ⊢
      refine And.intro (by rw [nRow_len]; omega) ?_
      rw [nRow_len]
      refine X1 ((i + (dg 18446744073709551616 b).length : Nat) : Int) (wI (by simp) (by omega) (by omega)) ?_
      refine ⟨i, (dg 18446744073709551616 a).length + (dg 18446744073709551616 b).length, rfl, rfl, by omega, by omega, .inr ⟨by omega, ?_⟩⟩
      refine X2 (.upd 15) ?_
      refine ⟨_, _, addMul_ct out (dg 18446744073709551616 b) x i ((dg 18446744073709551616 a).length + (dg 18446744073709551616 b).length - i) h3 hB hx (by omega) (by omega) (by omega), ?_⟩
      obtain ⟨g1, g2, g3, g4⟩ := am_spec (t := out) (l := dg 18446744073709551616 b) (x := x) (lo := i) h3 hB hx (by omega) (dg 18446744073709551616 b).length (by omega)
      have g5 : (am out (dg 18446744073709551616 b) x i (dg 18446744073709551616 b).length).1.getD (i + (dg 18446744073709551616 b).length) 0 = 0 := (am_high (by omega)).trans (h4 _ (by omega))
      have g6 : ∀ j, i + 1 + (dg 18446744073709551616 b).length ≤ j → (am out (dg 18446744073709551616 b) x i (dg 18446744073709551616 b).length).1.getD j 0 = 0 := fun j hj => (am_high (by omega)).trans (h4 _ (by omega))
      rw [val_take_all (l := dg 18446744073709551616 b) (by omega), vB] at g4
      generalize (am out (dg 18446744073709551616 b) x i (dg 18446744073709551616 b).length).1 = o2 at *
      generalize (am out (dg 18446744073709551616 b) x i (dg 18446744073709551616 b).length).2 = c at *
      refine And.intro (by omega) (And.intro (by omega) ?_)
      refine X1 _ (nRow_getN rfl (by omega)) ?_
      refine And.intro rfl ?_
      refine X1 ((i + 1 : Nat) : Int) (wI (by simp) (by omega) (by omega)) ?_
      have hs := val_set (B := 18446744073709551616) (l := o2) (i := i + (dg 18446744073709551616 b).length) (x := c) (by omega)
      rw [g5] at hs
      refine ⟨(i + 1, o2.set (i + (dg 18446744073709551616 b).length) c), ⟨by omega, by simp [g1, h2], g2.set g3, fun j hj => by rw [getD_set_ne (by omega)]; exact g6 j (by omega), ?_⟩, by show _ - (i + 1) < _ - i; omega, ⟨rfl, rfl, rfl, rfl, rfl, rfl, rfl, trivial⟩, ⟨rfl, rfl, rfl, rowE nRow_set, trivial⟩⟩
      rw [hT, Nat.add_mul, Nat.mul_assoc, ← h6]
      omega
    · have e : i = (dg 18446744073709551616 a).length := by omega
      subst e
      rw [val_take_all (Nat.le_refl _), vA] at h6
      exact ⟨out, ⟨h3, h6, by omega⟩, ⟨rfl, rfl, trivial⟩, ⟨rfl, rfl, trivial⟩⟩
  · obtain ⟨h1, h2, h3⟩ := hl
    refine X2 .frz ?_
    refine X1 _ (ntrim_ct l h3) ?_
    rw [trim_dg (by omega) h1, h2]
    exact ⟨trivial, rc rfl, trivial⟩
theorem addBack_ct (t l : List Nat) (lo n : Nat) (ht : Dig 18446744073709551616 t) (hl : Dig 18446744073709551616 l) (hlen : lo + n ≤ t.length) (hn : l.length < n) (hb : t.length ≤ 1000000) :
    CtO P 126 [(1000000, some (.row 1 (nRow .u64 t)))] [.c (.os 1000000 1 lo n), .c (nSl .u64 l)] [(1000000, some (.row 1 (nRow .u64 (am t l 1 lo (l.length + 1)).1)))] [.c (.sc (.bool (decide (((am t l 1 lo (l.length + 1)).2 : Int) > 0))))] := by
  have stepE : ∀ i, (am t l 1 lo (i + 1)).1 = (am t l 1 lo i).1.set (lo + i) (((am t l 1 lo i).1.getD (lo + i) 0 + l.getD i 0 + (am t l 1 lo i).2) % 18446744073709551616) := fun i => by simp only [am, Nat.one_mul]
  have stepC : ∀ i, (am t l 1 lo (i + 1)).2 = ((am t l 1 lo i).1.getD (lo + i) 0 + l.getD i 0 + (am t l 1 lo i).2) / 18446744073709551616 := fun i => by simp only [am, Nat.one_mul]
  refine Ct.io T_ok T_mix (N := 45) Tryz.func126 rfl rfl rfl rfl ?_
  refine And.intro (by rw [nRow_len]; omega) ?_
  rw [nRow_len]
  refine loopJ T_ok T_mix (fun i : Nat => i ≤ l.length) (fun i => [(0, .c (.os 1000000 1 lo n)), (1, .c (nSl .u64 l)), (5, .c (nI .u64 (am t l 1 lo i).2)), (8, .c (nSl .u64 l)), (9, .c (nI .i64 l.length)), (10, .c (nI .i64 i))])
    (fun i => [(1000000, .row 1 (nRow .u64 (am t l 1 lo i).1))]) (fun i => l.length - i) 0 (by omega) ⟨rfl, rfl, rfl, rfl, rfl, rfl, trivial⟩ ⟨rfl, trivial⟩
    (fun _ : Unit => True) (fun _ => [(0, .c (.os 1000000 1 lo n)), (1, .c (nSl .u64 l)), (5, .c (nI .u64 (am t l 1 lo l.length).2))]) (fun _ => [(1000000, .row 1 (nRow .u64 (am t l 1 lo l.length).1))]) (fun i hi => ?_) (fun _ _ => ?_)
  · refine dcase (fun h5 => ?_) (fun h5 => ?_)
    · obtain ⟨h1, h2, h3, h4⟩ := am_specG (lo := lo) (x := 1) ht hl (by omega) i (by omega)
      have h6 := am_one (lo := lo) ht hl i (by omega)
      have hz := h2.getD (by omega) (lo + i)
      have hy := hl.getD (by omega) i
      refine And.intro (by omega) (X1 _ (nRow_getN rfl (by omega)) ?_)
      refine And.intro (by omega) (And.intro (by omega) ?_)
      refine X1 _ (nRow_getA (n := lo + i) (by omega) (by omega)) ?_
      refine X1 _ (add64_ct _ _ _ hz hy h6) ?_
      refine And.intro (by omega) (And.intro (by omega) ?_)
      refine X1 _ (nRow_getA (n := lo + i) (by omega) (by omega)) ?_
      refine X1 ((i + 1 : Nat) : Int) (wI (by simp) (by omega) (by omega)) ?_
      refine ⟨i + 1, by omega, by omega, ⟨rfl, rfl, iE (by rw [stepC]), rfl, rfl, rfl, trivial⟩, ⟨rowE ?_, trivial⟩⟩
      rw [stepE, ← nRow_set]
      rfl
    · have e : i = l.length := by omega
      subst e
      exact ⟨(), trivial, ⟨rfl, rfl, rfl, trivial⟩, ⟨rfl, trivial⟩⟩
  · obtain ⟨h1, h2, h3, h4⟩ := am_specG (lo := lo) (x := 1) ht hl (by omega) l.length (by omega)
    have h6 := am_one (lo := lo) ht hl l.length (by omega)
    have hz := h2.getD (by omega) (lo + l.length)
    have hy : l.getD l.length 0 = 0 := by rw [List.getD_eq_getElem?_getD, List.getElem?_eq_none (by omega)]; rfl
    refine And.intro (by rw [nRow_len]; omega) ?_
    refine And.intro (by rw [nRow_len]; omega) ?_
    rw [nRow_len]
    refine And.intro (by omega) (And.intro (by omega) ?_)
    refine X1 _ (nRow_getA (n := lo + l.length) (by omega) (by omega)) ?_
    refine X1 _ (add64_ct _ 0 _ hz (by omega) h6) ?_
    refine And.intro (by omega) (And.intro (by omega) ?_)
    refine X1 _ (nRow_getA (n := lo + l.length) (by omega) (by omega)) ?_
    have e1 : (nRow .u64 (am t l 1 lo l.length).1).set (lo + l.length) [nI .u64 (((am t l 1 lo l.length).1.getD (lo + l.length) 0 + 0 + (am t l 1 lo l.length).2) % 18446744073709551616)] = nRow .u64 (am t l 1 lo (l.length + 1)).1 := by
      rw [nRow_set, stepE, hy]
    have e2 : (am t l 1 lo (l.length + 1)).2 = ((am t l 1 lo l.length).1.getD (lo + l.length) 0 + 0 + (am t l 1 lo l.length).2) / 18446744073709551616 := by rw [stepC, hy]
    rw [e2, ← e1]
    exact ⟨trivial, SubO.of (l := [(1000000, .row 1 _)]) ⟨rfl, trivial⟩, r1 rfl, trivial⟩
end Go.Proofs.YtpmchgndnhgncaaGreat.Pv
namespace Go.Proofs.YtpmchgndnhgncaaGreat.Pv
open Go
structure SM where
  s : List Nat
  c : Nat
  b : Nat
def sm (t l : List Nat) (x lo : Nat) : Nat → SM
  | 0 => ⟨t, 0, 0⟩
  | i + 1 => ⟨(sm t l x lo i).s.set (lo + i) (((sm t l x lo i).s.getD (lo + i) 0 + 18446744073709551616 - (x * l.getD i 0 + (sm t l x lo i).c) % 18446744073709551616 - (sm t l x lo i).b) % 18446744073709551616),
      (x * l.getD i 0 + (sm t l x lo i).c) / 18446744073709551616, if (sm t l x lo i).s.getD (lo + i) 0 < (x * l.getD i 0 + (sm t l x lo i).c) % 18446744073709551616 + (sm t l x lo i).b then 1 else 0⟩
theorem sm_spec {t l : List Nat} {x lo : Nat} (ht : Dig 18446744073709551616 t) (hl : Dig 18446744073709551616 l) (hx : x < 18446744073709551616) : ∀ i, lo + i ≤ t.length →
    (sm t l x lo i).s.length = t.length ∧ Dig 18446744073709551616 (sm t l x lo i).s ∧ (sm t l x lo i).c < 18446744073709551616 ∧ (sm t l x lo i).b ≤ 1 ∧ val 18446744073709551616 (sm t l x lo i).s + 18446744073709551616 ^ lo * (x * val 18446744073709551616 (l.take i)) = val 18446744073709551616 t + 18446744073709551616 ^ (lo + i) * ((sm t l x lo i).c + (sm t l x lo i).b)
  | 0, _ => ⟨rfl, ht, by show 0 < 18446744073709551616; omega, Nat.zero_le _, by simp [sm, val]⟩
  | i + 1, hi => by
    obtain ⟨h1, h2, h3, h5, h4⟩ := sm_spec (lo := lo) ht hl hx i (by omega)
    simp only [sm]
    generalize (sm t l x lo i).s = s at *
    generalize (sm t l x lo i).c = c at *
    generalize (sm t l x lo i).b = b at *
    have hz := h2.getD (by omega) (lo + i)
    have hy := hl.getD (by omega) i
    have hT := val_take_succ 18446744073709551616 l i
    have hset := fun v : Nat => val_set (B := 18446744073709551616) (l := s) (i := lo + i) (x := v) (by omega)
    generalize s.getD (lo + i) 0 = z at *
    generalize l.getD i 0 = y at *
    have hxy : x * y ≤ 18446744073709551615 * 18446744073709551615 := Nat.mul_le_mul (by omega) (by omega)
    obtain ⟨p, hp⟩ : ∃ p, p = x * y + c := ⟨_, rfl⟩
    rw [← hp]
    refine ⟨by simp [h1], h2.set (by omega), by omega, by split <;> omega, ?_⟩
    obtain ⟨r, hr⟩ : ∃ r, r = (z + 18446744073709551616 - p % 18446744073709551616 - b) % 18446744073709551616 := ⟨_, rfl⟩
    obtain ⟨b', hb'⟩ : ∃ b', b' = if z < p % 18446744073709551616 + b then 1 else 0 := ⟨_, rfl⟩
    rw [← hr, ← hb']
    have k1 : r + p + b = z + 18446744073709551616 * (p / 18446744073709551616 + b') := by
      rw [hr, hb']; split <;> omega
    have k2 := congrArg (18446744073709551616 ^ (lo + i) * ·) k1
    simp only [Nat.mul_add] at k2
    have hs := hset r
    have e3 : 18446744073709551616 ^ lo * (x * val 18446744073709551616 (l.take (i + 1))) = 18446744073709551616 ^ lo * (x * val 18446744073709551616 (l.take i)) + 18446744073709551616 ^ (lo + i) * (x * y) := by
      rw [hT, Nat.mul_add, Nat.mul_add, Nat.pow_add, Nat.mul_assoc, Nat.mul_left_comm x]
    have e4 : 18446744073709551616 ^ (lo + i) * p = 18446744073709551616 ^ (lo + i) * (x * y) + 18446744073709551616 ^ (lo + i) * c := by rw [hp, Nat.mul_add]
    rw [← Nat.add_assoc lo i 1, Nat.pow_succ, Nat.mul_assoc, e3]
    simp only [Nat.mul_add] at h4 ⊢
    omega
theorem subMul_ct (t l : List Nat) (x lo n : Nat) (ht : Dig 18446744073709551616 t) (hl : Dig 18446744073709551616 l) (hx : x < 18446744073709551616) (hlen : lo + n ≤ t.length) (hn : l.length < n) (hb : t.length ≤ 1000000) :
    CtO P 125 [(1000000, some (.row 1 (nRow .u64 t)))] [.c (.os 1000000 1 lo n), .c (nSl .u64 l), .c (nI .u64 x)] [(1000000, some (.row 1 (nRow .u64 (sm t l x lo (l.length + 1)).s)))] [.c (.sc (.bool (decide (((sm t l x lo (l.length + 1)).b : Int) > 0))))] := by
  refine Ct.io T_ok T_mix (N := 68) Tryz.func125 rfl rfl rfl rfl ?_
  refine And.intro (by rw [nRow_len]; omega) ?_
  rw [nRow_len]
  refine loopJ T_ok T_mix (fun i : Nat => i ≤ l.length) (fun i => [(0, .c (.os 1000000 1 lo n)), (1, .c (nSl .u64 l)), (2, .c (nI .u64 x)), (7, .c (nI .u64 (sm t l x lo i).c)), (8, .c (nI .u64 (sm t l x lo i).b)), (15, .c (nSl .u64 l)), (16, .c (nI .i64 l.length)), (17, .c (nI .i64 i))])
    (fun i => [(1000000, .row 1 (nRow .u64 (sm t l x lo i).s))]) (fun i => l.length - i) 0 (by omega) ⟨rfl, rfl, rfl, rfl, rfl, rfl, rfl, rfl, trivial⟩ ⟨rfl, trivial⟩
    (fun _ : Unit => True) (fun _ => [(0, .c (.os 1000000 1 lo n)), (1, .c (nSl .u64 l)), (7, .c (nI .u64 (sm t l x lo l.length).c)), (8, .c (nI .u64 (sm t l x lo l.length).b))]) (fun _ => [(1000000, .row 1 (nRow .u64 (sm t l x lo l.length).s))]) (fun i hi => ?_) (fun _ _ => ?_)
  · refine dcase (fun h5 => ?_) (fun h5 => ?_)
    · obtain ⟨h1, h2, h3, h6, h4⟩ := sm_spec (lo := lo) ht hl hx i (by omega)
      have hz := h2.getD (by omega) (lo + i)
      have hy := hl.getD (by omega) i
      have hxy : x * l.getD i 0 ≤ 18446744073709551615 * 18446744073709551615 := Nat.mul_le_mul (by omega) (by omega)
      have hs : sm t l x lo (i + 1) = ⟨(sm t l x lo i).s.set (lo + i) (((sm t l x lo i).s.getD (lo + i) 0 + 18446744073709551616 - (x * l.getD i 0 + (sm t l x lo i).c) % 18446744073709551616 - (sm t l x lo i).b) % 18446744073709551616),
        (x * l.getD i 0 + (sm t l x lo i).c) / 18446744073709551616, if (sm t l x lo i).s.getD (lo + i) 0 < (x * l.getD i 0 + (sm t l x lo i).c) % 18446744073709551616 + (sm t l x lo i).b then 1 else 0⟩ := rfl
      have em : (x * l.getD i 0 % 18446744073709551616 + (sm t l x lo i).c + 0) % 18446744073709551616 = (x * l.getD i 0 + (sm t l x lo i).c) % 18446744073709551616 := by omega
      refine And.intro (by omega) (X1 _ (nRow_getN rfl (by omega)) ?_)
      refine X1 _ (mul64_ct x (l.getD i 0) hx hy) ?_
      refine X1 _ (add64_ct _ _ 0 (by omega) h3 (by omega)) ?_
      rw [em]
      refine X1 (((sm t l x lo (i + 1)).c : Nat) : Int) (wU (by rw [hs]; show _ = (((x * l.getD i 0 + (sm t l x lo i).c) / 18446744073709551616 : Nat) : Int); omega) (by omega) (by rw [hs]; show (((x * l.getD i 0 + (sm t l x lo i).c) / 18446744073709551616 : Nat) : Int) ≤ _; omega)) ?_
      refine And.intro (by omega) (And.intro (by omega) ?_)
      refine X1 _ (nRow_getA (n := lo + i) (by omega) (by omega)) ?_
      refine X1 _ (sub64_ct _ _ _ hz (by omega) h6) ?_
      refine And.intro (by omega) (And.intro (by omega) ?_)
      refine X1 _ (nRow_getA (n := lo + i) (by omega) (by omega)) ?_
      refine X1 ((i + 1 : Nat) : Int) (wI (by simp) (by omega) (by omega)) ?_
      refine ⟨i + 1, by omega, by omega, ⟨rfl, rfl, rfl, rfl, rfl, rfl, rfl, rfl, trivial⟩, ⟨rowE ?_, trivial⟩⟩
      rw [hs, ← nRow_set]
      rfl
    · have e : i = l.length := by omega
      subst e
      exact ⟨(), trivial, ⟨rfl, rfl, rfl, rfl, trivial⟩, ⟨rfl, trivial⟩⟩
  · obtain ⟨h1, h2, h3, h6, h4⟩ := sm_spec (lo := lo) ht hl hx l.length (by omega)
    have hz := h2.getD (by omega) (lo + l.length)
    have hy : l.getD l.length 0 = 0 := by rw [List.getD_eq_getElem?_getD, List.getElem?_eq_none (by omega)]; rfl
    refine And.intro (by rw [nRow_len]; omega) ?_
    rw [nRow_len]
    refine And.intro (by omega) (And.intro (by omega) ?_)
    refine X1 _ (nRow_getA (n := lo + l.length) (by omega) (by omega)) ?_
    refine X1 _ (sub64_ct _ _ _ hz h3 h6) ?_
    refine And.intro (by omega) (And.intro (by omega) ?_)
    refine X1 _ (nRow_getA (n := lo + l.length) (by omega) (by omega)) ?_
    have ec : (x * l.getD l.length 0 + (sm t l x lo l.length).c) % 18446744073709551616 = (sm t l x lo l.length).c := by rw [hy, Nat.mul_zero, Nat.zero_add, Nat.mod_eq_of_lt h3]
    have e1 : nRow .u64 (sm t l x lo (l.length + 1)).s = (nRow .u64 (sm t l x lo l.length).s).set (lo + l.length) [nI .u64 (((sm t l x lo l.length).s.getD (lo + l.length) 0 + 18446744073709551616 - (sm t l x lo l.length).c - (sm t l x lo l.length).b) % 18446744073709551616)] := by
      rw [nRow_set]; simp only [sm, ec]
    have e2 : (sm t l x lo (l.length + 1)).b = if (sm t l x lo l.length).s.getD (lo + l.length) 0 < (sm t l x lo l.length).c + (sm t l x lo l.length).b then 1 else 0 := by simp only [sm, ec]
    rw [e1, e2]
    exact ⟨trivial, SubO.of (l := [(1000000, .row 1 _)]) ⟨rfl, trivial⟩, r1 rfl, trivial⟩
end Go.Proofs.YtpmchgndnhgncaaGreat.Pv
namespace Go.Proofs.YtpmchgndnhgncaaGreat.Pv
open Go
section
variable {u d1 d0 x q r : Nat}
theorem dv_le (h : q * d1 + r = u) (ht : q * d0 ≤ 4294967296 * r + x) (hp : 0 < d1 * 4294967296 + d0) (hq : (u * 4294967296 + x) / (d1 * 4294967296 + d0) ≤ q) : (u * 4294967296 + x) / (d1 * 4294967296 + d0) = q := by
  refine Nat.le_antisymm hq ((Nat.le_div_iff_mul_le hp).2 ?_)
  have e : q * (d1 * 4294967296 + d0) = q * d1 * 4294967296 + q * d0 := by rw [Nat.mul_add, Nat.mul_assoc]
  omega
theorem dv_gt (h : q * d1 + r = u) (ht : 4294967296 * r + x < q * d0) : (u * 4294967296 + x) / (d1 * 4294967296 + d0) < q := by
  apply Nat.div_lt_of_lt_mul
  have e : (d1 * 4294967296 + d0) * q = q * d1 * 4294967296 + q * d0 := by rw [Nat.mul_comm, Nat.mul_add, Nat.mul_assoc]
  omega
theorem dv_lt (hu : u < d1 * 4294967296 + d0) (hx : x < 4294967296) : (u * 4294967296 + x) / (d1 * 4294967296 + d0) < 4294967296 := by
  apply Nat.div_lt_of_lt_mul
  have : (u + 1) * 4294967296 ≤ (d1 * 4294967296 + d0) * 4294967296 := Nat.mul_le_mul_right _ hu
  omega
theorem dv_0 (hd : 2147483648 ≤ d1) (hd0 : d0 < 4294967296) (hu : u < d1 * 4294967296 + d0) (hx : x < 4294967296) :
    u / d1 * d1 + u % d1 = u ∧ (u * 4294967296 + x) / (d1 * 4294967296 + d0) ≤ u / d1 ∧ u / d1 ≤ 4294967297 ∧ u % d1 < d1 := by
  have h0 := Nat.div_add_mod u d1
  have hm := Nat.mod_lt u (show 0 < d1 by omega)
  refine ⟨by rw [Nat.mul_comm]; exact h0, ?_, ?_, hm⟩
  · refine Nat.le_of_lt_succ (Nat.div_lt_of_lt_mul ?_)
    have e : (d1 * 4294967296 + d0) * (u / d1 + 1) = d1 * (u / d1) * 4294967296 + d1 * 4294967296 + d0 * (u / d1 + 1) := by
      rw [Nat.add_mul, Nat.mul_assoc, Nat.mul_comm 4294967296, ← Nat.mul_assoc, Nat.mul_add, Nat.mul_one, Nat.add_mul]
    show u * 4294967296 + x < (d1 * 4294967296 + d0) * (u / d1 + 1)
    omega
  · have h1 : d0 < d1 * 2 := by omega
    have e : d1 * (4294967296 + 2) = d1 * 4294967296 + d1 * 2 := Nat.mul_add _ _ _
    have h2 : u < d1 * (4294967296 + 2) := by rw [e]; exact Nat.lt_trans hu (Nat.add_lt_add_left h1 _)
    have h3 : u / d1 < 4294967296 + 2 := Nat.div_lt_of_lt_mul h2
    clear h2 e
    omega
end
theorem dv_step {u d1 d0 x q r T : Nat} (hd0 : d0 < 4294967296) (hp : 0 < d1 * 4294967296 + d0) (hT : T = (u * 4294967296 + x) / (d1 * 4294967296 + d0)) (h : q * d1 + r = u) (hq : q ≤ 4294967297) (ht : T < q) :
    (q - 1) * d1 + (r + d1) = u ∧ (4294967296 ≤ r + d1 → T = q - 1) := by
  obtain ⟨p, rfl⟩ : ∃ p, q = p + 1 := ⟨q - 1, by omega⟩
  rw [Nat.add_mul, Nat.one_mul] at h
  rw [Nat.add_sub_cancel]
  have e : p * d1 + (r + d1) = u := by omega
  refine ⟨e, fun hr => ?_⟩
  rw [hT]
  refine dv_le e ?_ hp (by omega)
  have h1 : p * d0 ≤ 4294967296 * d0 := Nat.mul_le_mul_right _ (by omega)
  have h2 : 4294967296 * d0 ≤ 4294967296 * (r + d1) := Nat.mul_le_mul_left _ (by omega)
  omega
theorem wE (n : Int) : IntKind.u64.wrap n = n % 18446744073709551616 := by simp [IntKind.wrap, IntKind.bits, IntKind.signed]
theorem dv_rem {u x q y r : Nat} (h : u * 4294967296 + x = q * y + r) (hr : r < 18446744073709551616) : IntKind.u64.wrap (IntKind.u64.wrap (IntKind.u64.wrap ((u : Int) * 4294967296) + (x : Int)) - IntKind.u64.wrap ((q : Int) * (y : Int))) = (r : Int) := by
  rw [← Int.natCast_mul q y, wE, wE, wE, wE]
  omega
theorem orU {x y : Nat} (hx : x < 18446744073709551616) (hy : y < 18446744073709551616) : IntKind.u64.wrap ((BitVec.ofInt IntKind.u64.bits (x : Int) ||| BitVec.ofInt IntKind.u64.bits (y : Int)).toNat : Int) = ((x ||| y : Nat) : Int) := by
  have e : (BitVec.ofInt IntKind.u64.bits (x : Int) ||| BitVec.ofInt IntKind.u64.bits (y : Int)).toNat = x ||| y := by
    show (BitVec.ofInt 64 (x : Int) ||| BitVec.ofInt 64 (y : Int)).toNat = _
    rw [BitVec.ofInt_natCast, BitVec.ofInt_natCast, BitVec.toNat_or, BitVec.toNat_ofNat, BitVec.toNat_ofNat, Nat.mod_eq_of_lt (by omega : x < 2 ^ 64), Nat.mod_eq_of_lt (by omega : y < 2 ^ 64)]
  have h := Nat.or_lt_two_pow (x := x) (y := y) (n := 64) (by omega) (by omega)
  rw [e, modU, Nat.mod_eq_of_lt]
  simpa using h
theorem inU {n : Nat} (h : n ≤ 18446744073709551615) : inR .u64 (n : Int) := ⟨Int.natCast_nonneg n, Int.ofNat_le.2 h⟩
theorem shlN {x k : Nat} (h : k ≤ 64) : IntKind.u64.wrap ((x : Int) * 2 ^ min ((k : Nat) : Int).toNat IntKind.u64.bits) = ((x * 2 ^ k % 18446744073709551616 : Nat) : Int) := by
  show IntKind.u64.wrap ((x : Int) * 2 ^ min ((k : Nat) : Int).toNat 64) = _
  rw [Int.toNat_natCast, Nat.min_eq_left h, ← modU]
  simp
theorem dv_two {u x1 x0 y a b c d : Nat} (hy : 0 < y) (e1 : y * a + b = u * 4294967296 + x1) (hc : (b * 4294967296 + x0) / y = c) (hd : (b * 4294967296 + x0) % y = d) : (u * 18446744073709551616 + (x1 * 4294967296 + x0)) / y = a * 4294967296 + c ∧
    (u * 18446744073709551616 + (x1 * 4294967296 + x0)) % y = d := by
  have e : u * 18446744073709551616 + (x1 * 4294967296 + x0) = b * 4294967296 + x0 + y * (a * 4294967296) := by rw [← Nat.mul_assoc]; omega
  rw [e, Nat.add_mul_div_left _ _ hy, Nat.add_mul_mod_self_left, hc, hd]
  exact ⟨Nat.add_comm _ _, rfl⟩
theorem dv_sh {hi lo y s : Nat} (hlo : lo < 18446744073709551616) (hhi : hi < y) (hy : y < 2 ^ (64 - s)) (hs : s ≤ 64) :
    hi * 2 ^ s < 18446744073709551616 ∧ (hi * 2 ^ s ||| lo / 2 ^ (64 - s)) = hi * 2 ^ s + lo / 2 ^ (64 - s) ∧ (hi * 2 ^ s + lo / 2 ^ (64 - s)) * 18446744073709551616 + lo * 2 ^ s % 18446744073709551616 = (hi * 18446744073709551616 + lo) * 2 ^ s ∧ hi * 2 ^ s + lo / 2 ^ (64 - s) < y * 2 ^ s ∧ y * 2 ^ s < 18446744073709551616 := by
  have e64 : 2 ^ s * 2 ^ (64 - s) = 18446744073709551616 := by rw [← Nat.pow_add, show s + (64 - s) = 64 by omega]
  have hp : 0 < 2 ^ s := Nat.two_pow_pos s
  have hp2 : 0 < 2 ^ (64 - s) := Nat.two_pow_pos _
  generalize 2 ^ (64 - s) = b at *
  have hq : lo / b < 2 ^ s := Nat.div_lt_of_lt_mul (by rw [Nat.mul_comm, e64]; exact hlo)
  have hor : (hi * 2 ^ s ||| lo / b) = hi * 2 ^ s + lo / b := by
    rw [Nat.mul_comm]; exact (Nat.two_pow_add_eq_or_of_lt hq hi).symm
  rw [hor]
  generalize 2 ^ s = a at *
  have h1 : (hi + 1) * a ≤ y * a := Nat.mul_le_mul_right _ hhi
  rw [Nat.add_mul, Nat.one_mul] at h1
  have h2 : (y + 1) * a ≤ b * a := Nat.mul_le_mul_right _ hy
  rw [Nat.mul_comm b, e64, Nat.add_mul, Nat.one_mul] at h2
  have h3 : lo * a % 18446744073709551616 = lo % b * a := by
    have hlt : lo % b * a < 18446744073709551616 := by
      rw [← e64, Nat.mul_comm a]; exact Nat.mul_lt_mul_of_pos_right (Nat.mod_lt _ hp2) hp
    have : lo * a = lo % b * a + 18446744073709551616 * (lo / b) := by
      conv => lhs; rw [← Nat.div_add_mod lo b]
      rw [Nat.add_mul, ← e64, Nat.mul_comm b, Nat.mul_assoc, Nat.mul_comm b, Nat.mul_comm (lo / b)]
      omega
    rw [this, Nat.add_mul_mod_self_left, Nat.mod_eq_of_lt hlt]
  have h4 : lo * a = lo % b * a + 18446744073709551616 * (lo / b) := by
    conv => lhs; rw [← Nat.div_add_mod lo b]
    rw [Nat.add_mul, ← e64, Nat.mul_comm b, Nat.mul_assoc, Nat.mul_comm b, Nat.mul_comm (lo / b)]
    omega
  refine ⟨by omega, rfl, ?_, by omega, by omega⟩
  rw [h3, Nat.add_mul (hi * 18446744073709551616), Nat.mul_right_comm]
  omega
theorem div64_ct (hi lo y : Nat) (hhi : hi < y) (hlo : lo < 18446744073709551616) (hy : y < 18446744073709551616) : Ct P 132 [.c (nI .u64 hi), .c (nI .u64 lo), .c (nI .u64 y)] [.c (nI .u64 ((hi * 18446744073709551616 + lo) / y)), .c (nI .u64 ((hi * 18446744073709551616 + lo) % y))] := by
  refine Ct.go T_ok T_mix (N := 135) Tryz.func132 rfl rfl rfl rfl ?_
  refine ecase (fun h => ?_) (fun _ => ?_)
  · omega
  refine dcase (fun h => ?_) (fun _ => ?_)
  · omega
  refine ecase (fun h0 => ?_) (fun h0 => ?_)
  · have e0 : hi = 0 := by omega
    subst e0
    rw [Nat.zero_mul, Nat.zero_add]
    have hl := Nat.div_le_self lo y
    have hm := Nat.mod_lt lo hhi
    refine And.intro (by omega) (X1 ((lo / y : Nat) : Int) (tdivN rfl) (And.intro (inU (by omega)) ?_))
    refine And.intro (by omega) (X1 ((lo % y : Nat) : Int) (tmodN rfl) (And.intro (inU (by omega)) ?_))
    refine And.intro rfl ?_
    exact ⟨trivial, r1 rfl, r1 rfl, trivial⟩
  · have hbl := blen_le (n := y) (k := 64) (by omega)
    obtain ⟨s, hs⟩ : ∃ s, s = 64 - blen y := ⟨_, rfl⟩
    have hy2 : y < 2 ^ (64 - s) := by rw [hs, show 64 - (64 - blen y) = blen y by omega]; exact lt_blen y
    obtain ⟨hs1, hs2, hs3, hs4, hs5⟩ := dv_sh hlo hhi hy2 (by omega)
    have htop : 9223372036854775808 ≤ y * 2 ^ s := by
      have h1 := le_blen (n := y) (by omega)
      have h2 : blen y ≠ 0 := fun h => by have := lt_blen y; rw [h] at this; omega
      have h3 := Nat.mul_le_mul_right (2 ^ s) h1
      rw [← Nat.pow_add, show blen y - 1 + s = 63 by omega] at h3
      omega
    have hps := Nat.two_pow_pos s
    have hq : (hi * 18446744073709551616 + lo) / y = (hi * 18446744073709551616 + lo) * 2 ^ s / (y * 2 ^ s) := (Nat.mul_div_mul_right _ _ hps).symm
    have hr : (hi * 18446744073709551616 + lo) % y = (hi * 18446744073709551616 + lo) * 2 ^ s % (y * 2 ^ s) / 2 ^ s := by rw [Nat.mul_mod_mul_right, Nat.mul_div_cancel _ hps]
    rw [hq, hr, ← hs3]
    clear hq hr hs3
    obtain ⟨Y, hY⟩ : ∃ Y, Y = y * 2 ^ s := ⟨_, rfl⟩
    obtain ⟨U, hU⟩ : ∃ U, U = hi * 2 ^ s + lo / 2 ^ (64 - s) := ⟨_, rfl⟩
    obtain ⟨L, hL⟩ : ∃ L, L = lo * 2 ^ s % 18446744073709551616 := ⟨_, rfl⟩
    have hLl : L < 18446744073709551616 := by rw [hL]; exact Nat.mod_lt _ (by decide)
    rw [← hY, ← hU, ← hL]
    rw [← hY, ← hU] at hs4
    rw [← hY] at hs5 htop
    refine X1 _ (lz64_ct y hy) ?_
    refine X1 ((s : Nat) : Int) (wU (by omega) (by omega) (by omega)) ?_
    refine And.intro (by omega) (X1 ((Y : Nat) : Int) (by rw [shlN (by omega), ← hY, Nat.mod_eq_of_lt hs5]) ?_)
    obtain ⟨d1, hd1⟩ : ∃ d, d = Y / 4294967296 := ⟨_, rfl⟩
    obtain ⟨d0, hd0⟩ : ∃ d, d = Y % 4294967296 := ⟨_, rfl⟩
    obtain ⟨x1, hx1⟩ : ∃ d, d = L / 4294967296 := ⟨_, rfl⟩
    obtain ⟨x0, hx0⟩ : ∃ d, d = L % 4294967296 := ⟨_, rfl⟩
    have hYd : Y = d1 * 4294967296 + d0 := by omega
    have hLx : L = x1 * 4294967296 + x0 := by omega
    refine And.intro (by omega) (X1 ((d1 : Nat) : Int) (by rw [hd1]; exact shrN (k := 32) (by decide)) (And.intro (inU (by omega)) ?_))
    refine X1 ((d0 : Nat) : Int) (by rw [hd0]; exact and32 hs5) ?_
    have hle : lo / 2 ^ (64 - s) ≤ lo := Nat.div_le_self _ _
    refine And.intro (by omega) (X1 ((hi * 2 ^ s : Nat) : Int) (by rw [shlN (by omega), Nat.mod_eq_of_lt hs1]) ?_)
    refine X1 ((64 - s : Nat) : Int) (wU (by omega) (by omega) (by omega)) ?_
    refine And.intro (by omega) (X1 ((lo / 2 ^ (64 - s) : Nat) : Int) (shrN (k := 64 - s) (by omega)) (And.intro (inU (by omega)) ?_))
    refine X1 ((U : Nat) : Int) (by rw [orU hs1 (by omega), hs2, hU]) ?_
    refine And.intro (by omega) (X1 ((L : Nat) : Int) (by rw [shlN (by omega), hL]) ?_)
    refine And.intro (by omega) (X1 ((x1 : Nat) : Int) (by rw [hx1]; exact shrN (k := 32) (by decide)) (And.intro (inU (by omega)) ?_))
    refine X1 ((x0 : Nat) : Int) (by rw [hx0]; exact and32 hLl) ?_
    have hd1' : 2147483648 ≤ d1 := by omega
    have hd0' : d0 < 4294967296 := by omega
    have hx1' : x1 < 4294967296 := by omega
    have hx0' : x0 < 4294967296 := by omega
    rw [hYd] at hs4
    obtain ⟨g1, g2, g3, g4⟩ := dv_0 hd1' hd0' hs4 hx1'
    have hT := dv_lt hs4 hx1'
    have hUl : U / d1 * d1 ≤ U := by omega
    refine And.intro (by omega) (X1 ((U / d1 : Nat) : Int) (tdivN rfl) (And.intro (inU (by omega)) ?_))
    refine X1 ((U / d1 * d1 : Nat) : Int) (by rw [← Int.natCast_mul, modU, Nat.mod_eq_of_lt (by omega)]) ?_
    refine X1 ((U % d1 : Nat) : Int) (wU (by omega) (Int.natCast_nonneg _) (by omega)) ?_
    have hY0 : 0 < Y := by omega
    obtain ⟨T, hT'⟩ : ∃ T, T = (U * 4294967296 + x1) / Y := ⟨_, rfl⟩
    obtain ⟨R, hR⟩ : ∃ R, R = (U * 4294967296 + x1) % Y := ⟨_, rfl⟩
    rw [← hYd, ← hT'] at g2 hT
    have hTd : T = (U * 4294967296 + x1) / (d1 * 4294967296 + d0) := by rw [hT', hYd]
    have hRl : R < Y := by rw [hR]; exact Nat.mod_lt _ hY0
    refine loopJ T_ok T_mix (G := Nat × Nat) (fun (q, r) => q * d1 + r = U ∧ T ≤ q ∧ q ≤ 4294967297 ∧ r < 4294967296)
      (fun (q, r) => [(2, .c (nI .u64 Y)), (8, .c (nI .u64 s)), (9, .c (nI .u64 d1)), (10, .c (nI .u64 d0)), (11, .c (nI .u64 U)), (13, .c (nI .u64 x1)), (14, .c (nI .u64 x0)), (15, .c (nI .u64 q)), (16, .c (nI .u64 r))]) (fun _ => []) (fun (q, _) => q)
      (U / d1, U % d1) ⟨g1, g2, g3, by omega⟩ ⟨rfl, rfl, rfl, rfl, rfl, rfl, rfl, rfl, rfl, trivial⟩ trivial
      (fun _ : Unit => True) (fun _ => [(2, .c (nI .u64 Y)), (8, .c (nI .u64 s)), (9, .c (nI .u64 d1)), (10, .c (nI .u64 d0)), (11, .c (nI .u64 U)), (13, .c (nI .u64 x1)), (14, .c (nI .u64 x0)), (15, .c (nI .u64 T))]) (fun _ => []) (fun (q, r) hi => ?_) (fun _ _ => ?_)
    · obtain ⟨k1, k2, k3, k4⟩ := hi
      refine dcase (fun h1 => ?_) (fun h1 => ?_)
      · have hlt : T < q := by omega
        obtain ⟨m1, m2⟩ := dv_step hd0' (by omega) hTd k1 k3 hlt
        refine X1 ((q - 1 : Nat) : Int) (wU (by omega) (by omega) (by omega)) ?_
        refine X1 ((r + d1 : Nat) : Int) (wU (by omega) (by omega) (by omega)) ?_
        refine dcase (fun h2 => ?_) (fun h2 => ?_)
        · exact ⟨(), trivial, ⟨rfl, rfl, rfl, rfl, rfl, rfl, rfl, iE (by rw [m2 (by omega)]), trivial⟩, trivial⟩
        · exact ⟨(q - 1, r + d1), ⟨m1, by omega, by omega, by omega⟩, by show q - 1 < q; omega, ⟨rfl, rfl, rfl, rfl, rfl, rfl, rfl, rfl, rfl, trivial⟩, trivial⟩
      · have hqd : q * d0 ≤ 4294967295 * 4294967295 := Nat.mul_le_mul (by omega) (by omega)
        refine X1 ((q * d0 : Nat) : Int) (by rw [← Int.natCast_mul, modU, Nat.mod_eq_of_lt (by omega)]) ?_
        refine X1 ((4294967296 * r : Nat) : Int) (wU (by omega) (by omega) (by omega)) ?_
        refine X1 ((4294967296 * r + x1 : Nat) : Int) (wU (by omega) (by omega) (by omega)) ?_
        refine dcase (fun h3 => ?_) (fun h3 => ?_)
        · have hlt : T < q := by rw [hTd]; exact dv_gt k1 (Int.ofNat_lt.1 h3)
          obtain ⟨m1, m2⟩ := dv_step hd0' (by omega) hTd k1 k3 hlt
          refine X1 ((q - 1 : Nat) : Int) (wU (by omega) (by omega) (by omega)) ?_
          refine X1 ((r + d1 : Nat) : Int) (wU (by omega) (by omega) (by omega)) ?_
          refine dcase (fun h2 => ?_) (fun h2 => ?_)
          · exact ⟨(), trivial, ⟨rfl, rfl, rfl, rfl, rfl, rfl, rfl, iE (by rw [m2 (by omega)]), trivial⟩, trivial⟩
          · exact ⟨(q - 1, r + d1), ⟨m1, by omega, by omega, by omega⟩, by show q - 1 < q; omega, ⟨rfl, rfl, rfl, rfl, rfl, rfl, rfl, rfl, rfl, trivial⟩, trivial⟩
        · have he : T = q := by rw [hTd]; exact dv_le k1 (by have := fun h => h3 (Int.ofNat_lt.2 h); omega) (by omega) (by rw [← hTd]; exact k2)
          exact ⟨(), trivial, ⟨rfl, rfl, rfl, rfl, rfl, rfl, rfl, iE (by rw [he]), trivial⟩, trivial⟩
    · have hUm : U * 4294967296 + x1 = T * Y + R := by
        have := Nat.div_add_mod (U * 4294967296 + x1) Y
        rw [← hT', ← hR, Nat.mul_comm] at this
        exact this.symm
      refine X1 _ rfl ?_
      refine X1 _ rfl ?_
      refine X1 _ rfl ?_
      refine X1 ((R : Nat) : Int) (dv_rem hUm (by omega)) ?_
      have hs4' := hRl
      rw [hYd] at hs4'
      obtain ⟨f1, f2, f3, f4⟩ := dv_0 hd1' hd0' hs4' hx0'
      have hT2 := dv_lt hs4' hx0'
      have hUl2 : R / d1 * d1 ≤ R := by omega
      refine And.intro (by omega) (X1 ((R / d1 : Nat) : Int) (tdivN rfl) (And.intro (inU (by omega)) ?_))
      refine X1 ((R / d1 * d1 : Nat) : Int) (by rw [← Int.natCast_mul, modU, Nat.mod_eq_of_lt (by omega)]) ?_
      refine X1 ((R % d1 : Nat) : Int) (wU (by omega) (Int.natCast_nonneg _) (by omega)) ?_
      obtain ⟨T2, hT2'⟩ : ∃ T, T = (R * 4294967296 + x0) / Y := ⟨_, rfl⟩
      obtain ⟨R2, hR2⟩ : ∃ T, T = (R * 4294967296 + x0) % Y := ⟨_, rfl⟩
      rw [← hYd, ← hT2'] at f2 hT2
      have hT2d : T2 = (R * 4294967296 + x0) / (d1 * 4294967296 + d0) := by rw [hT2', hYd]
      have hR2l : R2 < Y := by rw [hR2]; exact Nat.mod_lt _ hY0
      refine loopJ T_ok T_mix (G := Nat × Nat) (fun (q, r) => q * d1 + r = R ∧ T2 ≤ q ∧ q ≤ 4294967297 ∧ r < 4294967296)
        (fun (q, r) => [(2, .c (nI .u64 Y)), (8, .c (nI .u64 s)), (9, .c (nI .u64 d1)), (10, .c (nI .u64 d0)), (14, .c (nI .u64 x0)), (15, .c (nI .u64 T)), (17, .c (nI .u64 R)), (18, .c (nI .u64 q)), (16, .c (nI .u64 r))]) (fun _ => []) (fun (q, _) => q)
        (R / d1, R % d1) ⟨f1, f2, f3, by omega⟩ ⟨rfl, rfl, rfl, rfl, rfl, rfl, rfl, rfl, rfl, trivial⟩ trivial
        (fun _ : Unit => True) (fun _ => [(2, .c (nI .u64 Y)), (8, .c (nI .u64 s)), (14, .c (nI .u64 x0)), (15, .c (nI .u64 T)), (17, .c (nI .u64 R)), (18, .c (nI .u64 T2))]) (fun _ => []) (fun (q, r) hi => ?_) (fun _ _ => ?_)
      · obtain ⟨k1, k2, k3, k4⟩ := hi
        refine dcase (fun h1 => ?_) (fun h1 => ?_)
        · have hlt : T2 < q := by omega
          obtain ⟨m1, m2⟩ := dv_step hd0' (by omega) hT2d k1 k3 hlt
          refine X1 ((q - 1 : Nat) : Int) (wU (by omega) (by omega) (by omega)) ?_
          refine X1 ((r + d1 : Nat) : Int) (wU (by omega) (by omega) (by omega)) ?_
          refine dcase (fun h2 => ?_) (fun h2 => ?_)
          · exact ⟨(), trivial, ⟨rfl, rfl, rfl, rfl, rfl, iE (by rw [m2 (by omega)]), trivial⟩, trivial⟩
          · exact ⟨(q - 1, r + d1), ⟨m1, by omega, by omega, by omega⟩, by show q - 1 < q; omega, ⟨rfl, rfl, rfl, rfl, rfl, rfl, rfl, rfl, rfl, trivial⟩, trivial⟩
        · have hqd : q * d0 ≤ 4294967295 * 4294967295 := Nat.mul_le_mul (by omega) (by omega)
          refine X1 ((q * d0 : Nat) : Int) (by rw [← Int.natCast_mul, modU, Nat.mod_eq_of_lt (by omega)]) ?_
          refine X1 ((4294967296 * r : Nat) : Int) (wU (by omega) (by omega) (by omega)) ?_
          refine X1 ((4294967296 * r + x0 : Nat) : Int) (wU (by omega) (by omega) (by omega)) ?_
          refine dcase (fun h3 => ?_) (fun h3 => ?_)
          · have hlt : T2 < q := by rw [hT2d]; exact dv_gt k1 (Int.ofNat_lt.1 h3)
            obtain ⟨m1, m2⟩ := dv_step hd0' (by omega) hT2d k1 k3 hlt
            refine X1 ((q - 1 : Nat) : Int) (wU (by omega) (by omega) (by omega)) ?_
            refine X1 ((r + d1 : Nat) : Int) (wU (by omega) (by omega) (by omega)) ?_
            refine dcase (fun h2 => ?_) (fun h2 => ?_)
            · exact ⟨(), trivial, ⟨rfl, rfl, rfl, rfl, rfl, iE (by rw [m2 (by omega)]), trivial⟩, trivial⟩
            · exact ⟨(q - 1, r + d1), ⟨m1, by omega, by omega, by omega⟩, by show q - 1 < q; omega, ⟨rfl, rfl, rfl, rfl, rfl, rfl, rfl, rfl, rfl, trivial⟩, trivial⟩
          · have he : T2 = q := by rw [hT2d]; exact dv_le k1 (by have := fun h => h3 (Int.ofNat_lt.2 h); omega) (by omega) (by rw [← hT2d]; exact k2)
            exact ⟨(), trivial, ⟨rfl, rfl, rfl, rfl, rfl, iE (by rw [he]), trivial⟩, trivial⟩
      · have hRm : R * 4294967296 + x0 = T2 * Y + R2 := by
          have := Nat.div_add_mod (R * 4294967296 + x0) Y
          rw [← hT2', ← hR2, Nat.mul_comm] at this
          exact this.symm
        obtain ⟨z1, z2⟩ := dv_two (u := U) (x1 := x1) (x0 := x0) hY0 (by rw [Nat.mul_comm, ← hUm]) hT2'.symm hR2.symm
        refine X1 ((T * 4294967296 : Nat) : Int) (wU (by omega) (by omega) (by omega)) ?_
        refine X1 ((T * 4294967296 + T2 : Nat) : Int) (wU (by omega) (by omega) (by omega)) ?_
        refine X1 _ rfl ?_
        refine X1 _ rfl ?_
        refine X1 _ rfl ?_
        refine X1 ((R2 : Nat) : Int) (dv_rem hRm (by omega)) ?_
        have hle2 : R2 / 2 ^ s ≤ R2 := Nat.div_le_self _ _
        refine And.intro (by omega) (X1 ((R2 / 2 ^ s : Nat) : Int) (shrN (k := s) (by omega)) (And.intro (inU (by omega)) ?_))
        rw [hLx]
        exact ⟨trivial, r1 (iE (by rw [z1])), r1 (iE (by rw [z2])), trivial⟩
end Go.Proofs.YtpmchgndnhgncaaGreat.Pv
namespace Go.Proofs.YtpmchgndnhgncaaGreat.Pv
open Go
theorem val_drop (B : Nat) {l : List Nat} {i : Nat} (h : i < l.length) : val B (l.drop i) = l.getD i 0 + B * val B (l.drop (i + 1)) := by
  rw [List.drop_eq_getElem_cons h, val, List.getD_eq_getElem?_getD, List.getElem?_eq_getElem h]
  rfl
theorem val_drop_set (B : Nat) {l : List Nat} {i x : Nat} (h : i < l.length) : val B ((l.set i x).drop i) = x + B * val B (l.drop (i + 1)) := by
  rw [val_drop B (by simpa using h)]
  congr 1
  · simp [List.getD_eq_getElem?_getD, h]
  · rw [List.drop_set_of_lt (by omega)]
theorem dm_uniq {a d q r : Nat} (h : a = d * q + r) (hr : r < d) : q = a / d ∧ r = a % d := by
  subst h
  rw [Nat.mul_add_div (by omega), Nat.mul_add_mod, Nat.div_eq_of_lt hr, Nat.mod_eq_of_lt hr]
  exact ⟨rfl, rfl⟩
theorem nsmall_ct (a d : Nat) (hd : 0 < d) (hd2 : d < 18446744073709551616) (ha : (dg 18446744073709551616 a).length ≤ 1000000) : Ct P 88 [nV a, .c (nI .u64 d)] [nV (a / d), .c (nI .u64 (a % d))] := by
  have hA := dig_dg (B := 18446744073709551616) (by omega) a
  have vA := val_dg (B := 18446744073709551616) (by omega) a
  refine Ct.go T_ok T_mix (N := 38) Tryz.func88 rfl rfl rfl rfl ?_
  refine And.intro (by rw [nRow_len]; omega) ?_
  rw [nRow_len]
  refine ⟨by omega, by omega, by omega, .inl (by decide), ?_⟩
  refine And.intro (by rw [nRow_len]; omega) ?_
  rw [nRow_len]
  refine X1 (((dg 18446744073709551616 a).length : Int) - 1) (wI rfl (by omega) (by omega)) ?_
  refine loopJ T_ok T_mix (G := Nat × List Nat × Nat) (fun (n, out, c) => n ≤ (dg 18446744073709551616 a).length ∧ out.length = (dg 18446744073709551616 a).length ∧ Dig 18446744073709551616 out ∧ c < d ∧ val 18446744073709551616 ((dg 18446744073709551616 a).drop n) = d * val 18446744073709551616 (out.drop n) + c)
    (fun (n, out, c) => [(1, .c (nI .u64 d)), (2, .c (.ad 2 0)), (4, .c (.ad 4 0)), (6, .c (.ow 12 1 (dg 18446744073709551616 a).length)), (7, .c (nI .u64 c)), (8, .c (eI .i64 ((n : Int) - 1)))])
    (fun ((n, out, c) : Nat × List Nat × Nat) => [(2, .var [nSl .u64 (dg 18446744073709551616 a)]), (4, .var [.sc (.slice none 0 0)]), (12, .row 1 (nRow .u64 out))]) (fun (n, out, c) => n)
    ((dg 18446744073709551616 a).length, List.replicate (dg 18446744073709551616 a).length 0, 0) ⟨by simp, by simp, fun x hx => by rw [List.eq_of_mem_replicate hx]; omega, hd, by simp [val]⟩
    ⟨rfl, rfl, rfl, owE (by omega), rfl, rfl, trivial⟩ ⟨rfl, rfl, rowE (rep_row rfl), trivial⟩
    (fun l : List Nat => Dig 18446744073709551616 l ∧ val 18446744073709551616 l = a / d ∧ l.length ≤ 1000000) (fun l => [(4, .c (.ad 4 0)), (6, .c (.ow 12 1 (dg 18446744073709551616 a).length)), (7, .c (nI .u64 (a % d)))]) (fun l => [(4, .var [.sc (.slice none 0 0)]), (12, .row 1 (nRow .u64 l))]) (fun g hg => ?_) (fun l hl => ?_)
  · obtain ⟨n, out, c⟩ := g
    obtain ⟨h1, h2, h3, h4, h6⟩ := hg
    refine dcase (fun h5 => ?_) (fun h5 => ?_)
    · obtain ⟨i, rfl⟩ : ∃ i, n = i + 1 := ⟨n - 1, by omega⟩
      have hx := hA.getD (by omega) i
      have hD := val_drop 18446744073709551616 (l := dg 18446744073709551616 a) (i := i) (by omega)
      refine And.intro (by omega) (X1 _ (nRow_getN (n := i) (by omega) (by omega)) ?_)
      generalize (dg 18446744073709551616 a).getD i 0 = x at hx hD ⊢
      refine X1 _ (div64_ct c x d h4 hx hd2) ?_
      have hm := Nat.mod_lt (c * 18446744073709551616 + x) hd
      have hdm := Nat.div_add_mod (c * 18446744073709551616 + x) d
      have hq : (c * 18446744073709551616 + x) / d < 18446744073709551616 := by
        refine Nat.div_lt_of_lt_mul ?_
        have := Nat.mul_le_mul_right 18446744073709551616 (Nat.succ_le_of_lt h4)
        omega
      generalize (c * 18446744073709551616 + x) / d = q at *
      generalize (c * 18446744073709551616 + x) % d = r at *
      refine And.intro (by omega) (And.intro (by omega) ?_)
      refine X1 _ (nRow_getN (n := i) (by omega) (by omega)) ?_
      refine X1 ((i : Int) - 1) (wI (by omega) (by omega) (by omega)) ?_
      refine ⟨(i, out.set i q, r), ⟨by omega, by simp [h2], h3.set hq, hm, ?_⟩, by show i < i + 1; omega, ⟨rfl, rfl, rfl, rfl, rfl, rfl, trivial⟩, ⟨rfl, rfl, rowE (by rw [← nRow_set, show (((i + 1 : Nat) : Int) - 1).toNat = i by omega]; rfl), trivial⟩⟩
      have hs := val_drop_set 18446744073709551616 (l := out) (i := i) (x := q) (by omega)
      rw [hD, h6, hs, Nat.mul_add, Nat.mul_add, Nat.mul_left_comm d]
      omega
    · have e : n = 0 := by omega
      subst e
      rw [List.drop_zero, List.drop_zero, vA] at h6
      obtain ⟨e1, e2⟩ := dm_uniq h6 h4
      exact ⟨out, ⟨h3, e1, by omega⟩, ⟨rfl, rfl, iE (by rw [e2]), trivial⟩, ⟨rfl, rfl, trivial⟩⟩
  · obtain ⟨h1, h2, h3⟩ := hl
    refine X2 .frz ?_
    refine X1 _ (ntrim_ct l h3) ?_
    rw [trim_dg (by omega) h1, h2]
    exact ⟨trivial, rc rfl, r1 rfl, trivial⟩
theorem sh_split {x s : Nat} (hx : x < 18446744073709551616) (hs : s ≤ 64) : x * 2 ^ s % 18446744073709551616 = x % 2 ^ (64 - s) * 2 ^ s ∧ x * 2 ^ s = x % 2 ^ (64 - s) * 2 ^ s + 18446744073709551616 * (x / 2 ^ (64 - s)) ∧ x / 2 ^ (64 - s) < 2 ^ s := by
  have e64 : 2 ^ s * 2 ^ (64 - s) = 18446744073709551616 := by rw [← Nat.pow_add, show s + (64 - s) = 64 by omega]
  have hp : 0 < 2 ^ s := Nat.two_pow_pos s
  have hp2 : 0 < 2 ^ (64 - s) := Nat.two_pow_pos _
  generalize 2 ^ (64 - s) = b at *
  generalize 2 ^ s = a at *
  have h4 : x * a = x % b * a + 18446744073709551616 * (x / b) := by
    conv => lhs; rw [← Nat.div_add_mod x b]
    rw [Nat.add_mul, ← e64, Nat.mul_comm b, Nat.mul_assoc, Nat.mul_comm b, Nat.mul_comm (x / b)]
    omega
  have hlt : x % b * a < 18446744073709551616 := by
    rw [← e64, Nat.mul_comm a]; exact Nat.mul_lt_mul_of_pos_right (Nat.mod_lt _ hp2) hp
  refine ⟨by rw [h4, Nat.add_mul_mod_self_left, Nat.mod_eq_of_lt hlt], h4, Nat.div_lt_of_lt_mul (by rw [Nat.mul_comm, e64]; exact hx)⟩
theorem or_low {v m s : Nat} (hv : v < 2 ^ s) : (v ||| m * 2 ^ s) = v + m * 2 ^ s := by
  rw [Nat.or_comm, Nat.mul_comm, ← Nat.two_pow_add_eq_or_of_lt hv, Nat.add_comm]
theorem val_up {out : List Nat} {j s x v : Nat} (hx : x < 18446744073709551616) (hs : s ≤ 64) (hj : j + 1 < out.length) (hv : v = out.getD j 0) (h0 : out.getD (j + 1) 0 = 0) (hl : v < 2 ^ s) :
    val 18446744073709551616 ((out.set j (v ||| x * 2 ^ s % 18446744073709551616)).set (j + 1) (x / 2 ^ (64 - s))) = val 18446744073709551616 out + 18446744073709551616 ^ j * (x * 2 ^ s) := by
  obtain ⟨g1, g2, g3⟩ := sh_split hx hs
  rw [g1, or_low hl, g2]
  have e1 := val_set (B := 18446744073709551616) (l := out) (i := j) (x := v + x % 2 ^ (64 - s) * 2 ^ s) (by omega)
  have e2 := val_set (B := 18446744073709551616) (l := out.set j (v + x % 2 ^ (64 - s) * 2 ^ s)) (i := j + 1) (x := x / 2 ^ (64 - s)) (by simpa using hj)
  rw [getD_set_ne (by omega), h0, Nat.mul_zero, Nat.add_zero] at e2
  rw [← hv] at e1
  rw [e2, Nat.pow_succ, Nat.mul_assoc]
  simp only [Nat.mul_add] at e1 ⊢
  omega
theorem or_lt {v m : Nat} (hv : v < 18446744073709551616) (hm : m < 18446744073709551616) : (v ||| m) < 18446744073709551616 := Nat.or_lt_two_pow (n := 64) (by omega) (by omega)
theorem getD_set_eq {l : List Nat} {i v : Nat} (h : i < l.length) : (l.set i v).getD i 0 = v := by simp [List.getD_eq_getElem?_getD, h]
theorem nRow_setget {k : IntKind} {l : List Nat} {i x n : Nat} {j : Int} (h0 : j = n) (h : n < l.length) : ((nRow k l).set i [nI k x])[j.toNat]? = some [nI k ((l.set i x).getD n 0)] := by
  rw [nRow_set]; exact nRow_getN h0 (by simpa using h)
theorem nRow_same {k : IntKind} {l : List Nat} {i x n : Nat} {j : Int} (h0 : j = n) (h1 : i = n) (h : n < l.length) : ((nRow k l).set i [nI k x])[j.toNat]? = some [nI k x] := by
  subst h0; subst h1
  simp [nRow_len, h]
theorem up_ct (a n : Nat) (ha : (dg 18446744073709551616 a).length ≤ 400000) (hn : n ≤ 1000000) : Ct P 123 [nV a, .c (nI .i64 n)] [nV (a * 2 ^ n)] := by
  have hA := dig_dg (B := 18446744073709551616) (by omega) a
  have vA := val_dg (B := 18446744073709551616) (by omega) a
  refine Ct.go T_ok T_mix (N := 63) Tryz.func123 rfl rfl rfl rfl ?_
  refine dcase (fun h0 => ?_) (fun h0 => ?_)
  · have : n = 0 := by omega
    subst this
    rw [Nat.pow_zero, Nat.mul_one]
    exact ⟨trivial, rc rfl, trivial⟩
  · refine X1 _ (nzero_ct a (by omega)) ?_
    refine bcase (fun h1 => ?_) (fun h1 => ?_)
    · have : a = 0 := by simpa using h1
      subst this
      rw [Nat.zero_mul]
      exact ⟨trivial, rc rfl, trivial⟩
    · obtain ⟨k, hk⟩ : ∃ k, k = n / 64 := ⟨_, rfl⟩
      obtain ⟨s, hs⟩ : ∃ s, s = n % 64 := ⟨_, rfl⟩
      refine And.intro (by omega) (X1 ((k : Nat) : Int) (by rw [hk]; exact tdivN rfl) (And.intro ⟨by omega, by omega⟩ ?_))
      refine And.intro (by omega) (X1 ((s : Nat) : Int) (by rw [hs]; exact tmodN rfl) (And.intro ⟨by omega, by omega⟩ ?_))
      refine X1 ((s : Nat) : Int) (wU rfl (by omega) (by omega)) ?_
      refine And.intro (by rw [nRow_len]; omega) ?_
      rw [nRow_len]
      refine X1 (((dg 18446744073709551616 a).length + k : Nat) : Int) (wI (by simp) (by omega) (by omega)) ?_
      refine X1 (((dg 18446744073709551616 a).length + k + 1 : Nat) : Int) (wI (by simp) (by omega) (by omega)) ?_
      refine ⟨by omega, by omega, by omega, .inl (by decide), ?_⟩
      refine And.intro (by rw [nRow_len]; omega) ?_
      rw [nRow_len]
      have e2n : 2 ^ n = 18446744073709551616 ^ k * 2 ^ s := by rw [w_pow, ← Nat.pow_add, show 64 * k + s = n by omega]
      obtain ⟨A, eA⟩ : ∃ A, A = dg 18446744073709551616 a := ⟨_, rfl⟩
      rw [← eA] at hA vA ha
      rw [← eA]
      refine loopJ T_ok T_mix (G := Nat × List Nat) (fun (i, out) => i ≤ A.length ∧ out.length = A.length + k + 1 ∧ Dig 18446744073709551616 out ∧ (∀ j, i + k < j → out.getD j 0 = 0) ∧ out.getD (i + k) 0 < 2 ^ s ∧ val 18446744073709551616 out = val 18446744073709551616 (A.take i) * 2 ^ n)
        (fun (i, out) => [(2, .c (.ad 2 0)), (4, .c (.ad 4 0)), (5, .c (nI .i64 k)), (6, .c (nI .u64 s)), (7, .c (.ow 28 1 (A.length + k + 1))), (30, .c (nSl .u64 A)), (31, .c (nI .i64 A.length)), (32, .c (nI .i64 i))])
        (fun ((i, out) : Nat × List Nat) => [(2, .var [nSl .u64 A]), (4, .var [.sc (.slice none 0 0)]), (28, .row 1 (nRow .u64 out))]) (fun (i, _) => A.length - i)
        (0, List.replicate (A.length + k + 1) 0) ⟨by simp, by simp, fun x hx => by rw [List.eq_of_mem_replicate hx]; omega, fun j _ => by simp [List.getD_eq_getElem?_getD, List.getElem?_replicate]; split <;> rfl, by
          have : (List.replicate (A.length + k + 1) 0).getD (0 + k) 0 = 0 := by simp [List.getD_eq_getElem?_getD, List.getElem?_replicate]; split <;> rfl
          rw [this]; exact Nat.two_pow_pos s, by simp [val, val_rep]⟩
        ⟨rfl, rfl, rfl, rfl, owE (by omega), (by rw [eA]; rfl), (by rw [eA]; rfl), rfl, trivial⟩ ⟨(by rw [eA]; rfl), rfl, rowE (rep_row rfl), trivial⟩
        (fun l : List Nat => Dig 18446744073709551616 l ∧ val 18446744073709551616 l = a * 2 ^ n ∧ l.length ≤ 1000000) (fun l => [(4, .c (.ad 4 0)), (7, .c (.ow 28 1 (A.length + k + 1)))]) (fun l => [(4, .var [.sc (.slice none 0 0)]), (28, .row 1 (nRow .u64 l))]) (fun g hg => ?_) (fun l hl => ?_)
      · obtain ⟨i, out⟩ := g
        obtain ⟨h1, h2, h3, h4, h5, h6⟩ := hg
        refine dcase (fun h7 => ?_) (fun h7 => ?_)
        · have hx := hA.getD (by omega) i
          have hT := val_take_succ 18446744073709551616 A i
          refine And.intro (by omega) (X1 _ (nRow_getN rfl (by omega)) ?_)
          generalize A.getD i 0 = x at hx hT ⊢
          have hv := h3.getD (by omega) (i + k)
          refine X1 ((i + k : Nat) : Int) (wI (by simp) (by omega) (by omega)) ?_
          refine And.intro (by omega) (And.intro (by omega) ?_)
          refine X1 _ (nRow_getN rfl (by omega)) ?_
          have hvu := val_up (out := out) (j := i + k) (s := s) (x := x) hx (by omega) (by omega) rfl (h4 _ (by omega)) h5
          have hor : (out.getD (i + k) 0 ||| x * 2 ^ s % 18446744073709551616) < 18446744073709551616 := or_lt hv (Nat.mod_lt _ (by decide))
          have hsp := sh_split hx (s := s) (by omega)
          generalize out.getD (i + k) 0 = v at *
          refine And.intro (by omega) (X1 _ (shlN (by omega)) ?_)
          refine X1 _ (orU hv (Nat.mod_lt _ (by decide))) ?_
          refine And.intro (by omega) (And.intro (by omega) ?_)
          refine X1 _ (nRow_getN rfl (by omega)) ?_
          have hlow : x / 2 ^ (64 - s) ≤ x := Nat.div_le_self _ _
          refine dcase (fun h8 => ?_) (fun h8 => ?_)
          · refine X1 ((i + k : Nat) : Int) (wI (by simp) (by omega) (by omega)) ?_
            refine X1 ((i + k + 1 : Nat) : Int) (wI (by simp) (by omega) (by omega)) ?_
            refine X1 ((64 - s : Nat) : Int) (wU (by omega) (by omega) (by omega)) ?_
            refine And.intro (by omega) (X1 ((x / 2 ^ (64 - s) : Nat) : Int) (shrN (k := 64 - s) (by omega)) (And.intro (inU (by omega)) ?_))
            refine And.intro (by omega) (And.intro (by omega) ?_)
            refine X1 _ (nRow_setget rfl (by omega)) ?_
            refine X1 ((i + 1 : Nat) : Int) (wI (by simp) (by omega) (by omega)) ?_
            refine ⟨(i + 1, (out.set (i + k) (v ||| x * 2 ^ s % 18446744073709551616)).set (i + k + 1) (x / 2 ^ (64 - s))), ⟨by omega, by simp [h2], (h3.set hor).set (by omega), fun j hj => by rw [getD_set_ne (by omega), getD_set_ne (by omega)]; exact h4 j (by omega), by rw [show i + 1 + k = i + k + 1 by omega, getD_set_eq (by simp; omega)]; exact hsp.2.2, ?_⟩, by show _ - (i + 1) < _ - i; omega, ⟨rfl, rfl, rfl, rfl, rfl, rfl, rfl, rfl, trivial⟩, ⟨rfl, rfl, rowE (by rw [← nRow_set, ← nRow_set]; rfl), trivial⟩⟩
            rw [hvu, h6, hT, Nat.add_mul, e2n, Nat.pow_add]
            congr 1
            simp only [Nat.mul_assoc, Nat.mul_left_comm, Nat.mul_comm]
          · have e0 : s = 0 := by omega
            have hz : x / 2 ^ (64 - s) = 0 := by rw [e0]; exact Nat.div_eq_of_lt (by omega)
            rw [hz] at hvu
            have hs2 := val_set (B := 18446744073709551616) (l := out.set (i + k) (v ||| x * 2 ^ s % 18446744073709551616)) (i := i + k + 1) (x := 0) (by simp; omega)
            rw [getD_set_ne (by omega), h4 _ (by omega), Nat.mul_zero, Nat.add_zero, Nat.add_zero, hvu] at hs2
            refine X1 ((i + 1 : Nat) : Int) (wI (by simp) (by omega) (by omega)) ?_
            refine ⟨(i + 1, out.set (i + k) (v ||| x * 2 ^ s % 18446744073709551616)), ⟨by omega, by simp [h2], h3.set hor, fun j hj => by rw [getD_set_ne (by omega)]; exact h4 j (by omega), by rw [getD_set_ne (by omega), h4 _ (by omega)]; exact Nat.two_pow_pos s, ?_⟩, by show _ - (i + 1) < _ - i; omega, ⟨rfl, rfl, rfl, rfl, rfl, rfl, rfl, rfl, trivial⟩, ⟨rfl, rfl, rowE (by rw [← nRow_set]; rfl), trivial⟩⟩
            rw [Nat.add_zero] at hs2
            rw [← hs2, h6, hT, Nat.add_mul, e2n, Nat.pow_add]
            congr 1
            simp only [Nat.mul_assoc, Nat.mul_left_comm, Nat.mul_comm]
        · have e : i = A.length := by omega
          subst e
          rw [val_take_all (Nat.le_refl _), vA] at h6
          exact ⟨out, ⟨h3, h6, by omega⟩, ⟨rfl, rfl, trivial⟩, ⟨rfl, rfl, trivial⟩⟩
      · obtain ⟨h1, h2, h3⟩ := hl
        refine X2 .frz ?_
        refine X1 _ (ntrim_ct l h3) ?_
        rw [trim_dg (by omega) h1, h2]
        exact ⟨trivial, rc rfl, trivial⟩
theorem word_split {x y s v w : Nat} (hx : x < 18446744073709551616) (hy : y < 18446744073709551616) (hs : s < 64) (hv : v = y + 18446744073709551616 * w) :
    (x + 18446744073709551616 * v) / 2 ^ s = (x / 2 ^ s ||| y * 2 ^ (64 - s) % 18446744073709551616) + 18446744073709551616 * (v / 2 ^ s) ∧ x / 2 ^ s < 2 ^ (64 - s) := by
  have e64 : 2 ^ s * 2 ^ (64 - s) = 18446744073709551616 := by rw [← Nat.pow_add, show s + (64 - s) = 64 by omega]
  have hp : 0 < 2 ^ s := Nat.two_pow_pos s
  obtain ⟨g1, _, _⟩ := sh_split hy (s := 64 - s) (by omega)
  have hxl : x / 2 ^ s < 2 ^ (64 - s) := Nat.div_lt_of_lt_mul (by rw [e64]; exact hx)
  rw [g1, or_low hxl, show 64 - (64 - s) = s by omega]
  refine ⟨?_, hxl⟩
  generalize 2 ^ (64 - s) = b at *
  generalize 2 ^ s = a at *
  have h1 : v % a = y % a := by
    rw [hv, ← e64, Nat.mul_assoc, Nat.add_mul_mod_self_left]
  have h2 := Nat.div_add_mod v a
  have h3 : x + 18446744073709551616 * v = x + a * (y % a * b + 18446744073709551616 * (v / a)) := by
    conv => lhs; rw [← h2, h1]
    rw [Nat.mul_add, Nat.mul_add, ← e64, Nat.mul_comm (y % a) b, ← Nat.mul_assoc a b, ← Nat.mul_assoc (a * b) a, Nat.mul_comm (a * b) a, Nat.mul_assoc a (a * b)]
    omega
  rw [h3, Nat.add_mul_div_left _ _ hp, Nat.add_assoc]
theorem nilNV : leA (.ag [.sc (.slice none 0 0)]) (nV 0) := by
  unfold nV
  rw [dg_zero]
  exact ⟨.inr ⟨rfl, 1, rfl⟩, trivial⟩
theorem down_ct (a n : Nat) (ha : (dg 18446744073709551616 a).length ≤ 1000000) (hn : n ≤ 100000000) : Ct P 127 [nV a, .c (nI .i64 n)] [nV (a / 2 ^ n)] := by
  have hA := dig_dg (B := 18446744073709551616) (by omega) a
  have vA := val_dg (B := 18446744073709551616) (by omega) a
  refine Ct.go T_ok T_mix (N := 76) Tryz.func127 rfl rfl rfl rfl ?_
  have e : (if (0 : Int) > ((n : Nat) : Int) then 0 else ((n : Nat) : Int)) = n := if_neg (by omega)
  refine X1 _ (nbits_ct a ha) ?_
  refine dcase (fun h0 => ?_) (fun h0 => ?_)
  · rw [e] at h0
    have : a / 2 ^ n = 0 := Nat.div_eq_of_lt (Nat.lt_of_lt_of_le (lt_blen a) (Nat.pow_le_pow_right (by omega) (by omega)))
    rw [this]
    exact ⟨trivial, ⟨_, rfl, nilNV⟩, trivial⟩
  · rw [e] at h0 ⊢
    have hb := blen_len a
    obtain ⟨k, hk⟩ : ∃ k, k = n / 64 := ⟨_, rfl⟩
    obtain ⟨s, hs⟩ : ∃ s, s = n % 64 := ⟨_, rfl⟩
    refine And.intro (by omega) (X1 ((k : Nat) : Int) (by rw [hk]; exact tdivN rfl) (And.intro ⟨by omega, by omega⟩ ?_))
    refine And.intro (by omega) (X1 ((s : Nat) : Int) (by rw [hs]; exact tmodN rfl) (And.intro ⟨by omega, by omega⟩ ?_))
    refine X1 ((s : Nat) : Int) (wU rfl (by omega) (by omega)) ?_
    have hkl : k < (dg 18446744073709551616 a).length := by omega
    refine And.intro (by rw [nRow_len]; omega) ?_
    rw [nRow_len]
    refine X1 (((dg 18446744073709551616 a).length - k : Nat) : Int) (wI (by omega) (by omega) (by omega)) ?_
    refine ⟨by omega, by omega, by omega, .inl (by decide), ?_⟩
    refine And.intro (by omega) ?_
    obtain ⟨A, eA⟩ : ∃ A, A = dg 18446744073709551616 a := ⟨_, rfl⟩
    rw [← eA] at hA vA ha hkl
    rw [← eA]
    have hV : ∀ i, k + i < A.length → (val 18446744073709551616 (A.drop (k + i))) / 2 ^ s = (A.getD (k + i) 0 / 2 ^ s ||| A.getD (k + i + 1) 0 * 2 ^ (64 - s) % 18446744073709551616) + 18446744073709551616 * (val 18446744073709551616 (A.drop (k + i + 1)) / 2 ^ s) ∧ (A.getD (k + i) 0 / 2 ^ s ||| A.getD (k + i + 1) 0 * 2 ^ (64 - s) % 18446744073709551616) < 18446744073709551616 := fun i hi => by
      have hx := hA.getD (by omega) (k + i)
      have hy := hA.getD (by omega) (k + i + 1)
      have hle := Nat.div_le_self (A.getD (k + i) 0) (2 ^ s)
      refine ⟨?_, or_lt (by omega) (Nat.mod_lt _ (by decide))⟩
      rw [val_drop _ hi]
      rcases Nat.lt_or_ge (k + i + 1) A.length with h | h
      · exact (word_split hx hy (by omega) (val_drop _ h)).1
      · have e1 : A.getD (k + i + 1) 0 = 0 := by rw [List.getD_eq_getElem?_getD, List.getElem?_eq_none h]; rfl
        exact (word_split (w := 0) hx hy (by omega) (by rw [e1, List.drop_eq_nil_of_le h]; rfl)).1
    have hfin : a / 2 ^ n = val 18446744073709551616 (A.drop k) / 2 ^ s := by
      have h1 := val_take 18446744073709551616 A k
      have h2 := val_lt (by omega : 0 < 18446744073709551616) (hA.take (n := k))
      rw [List.length_take, Nat.min_eq_left (by omega)] at h2
      rw [Nat.min_eq_left (by omega), vA] at h1
      rw [show n = 64 * k + s by omega, Nat.pow_add, ← w_pow, ← Nat.div_div_eq_div_mul, h1, Nat.add_mul_div_left _ _ (Nat.pow_pos (by omega)), Nat.div_eq_of_lt h2, Nat.zero_add]
    rw [hfin]
    refine loopJ T_ok T_mix (G := Nat × List Nat) (fun (i, out) => i ≤ A.length - k ∧ out.length = A.length - k ∧ Dig 18446744073709551616 out ∧ val 18446744073709551616 (out.take i) + 18446744073709551616 ^ i * (val 18446744073709551616 (A.drop (k + i)) / 2 ^ s) = val 18446744073709551616 (A.drop k) / 2 ^ s)
      (fun (i, out) => [(2, .c (.ad 2 0)), (4, .c (.ad 4 0)), (5, .c (nI .i64 k)), (6, .c (nI .u64 s)), (7, .c (.ow 26 1 (A.length - k))), (28, .c (nI .i64 (A.length - k : Nat))), (29, .c (nI .i64 i))])
      (fun ((i, out) : Nat × List Nat) => [(2, .var [nSl .u64 A]), (4, .var [.sc (.slice none 0 0)]), (26, .row 1 (nRow .u64 out))]) (fun (i, _) => A.length - i)
      (0, List.replicate (A.length - k) 0) ⟨by simp, by simp, fun x hx => by rw [List.eq_of_mem_replicate hx]; omega, by simp [val]⟩
      ⟨rfl, rfl, rfl, rfl, owE (by omega), rfl, rfl, trivial⟩ ⟨(by rw [eA]; rfl), rfl, rowE (rep_row rfl), trivial⟩
      (fun l : List Nat => Dig 18446744073709551616 l ∧ val 18446744073709551616 l = val 18446744073709551616 (A.drop k) / 2 ^ s ∧ l.length ≤ 1000000) (fun l => [(4, .c (.ad 4 0)), (7, .c (.ow 26 1 (A.length - k)))]) (fun l => [(4, .var [.sc (.slice none 0 0)]), (26, .row 1 (nRow .u64 l))]) (fun g hg => ?_) (fun l hl => ?_)
    · obtain ⟨i, out⟩ := g
      obtain ⟨h1, h2, h3, h4⟩ := hg
      refine dcase (fun h7 => ?_) (fun h7 => ?_)
      · obtain ⟨v1, v2⟩ := hV i (by omega)
        have hx := hA.getD (by omega) (k + i)
        have hlow : A.getD (k + i) 0 / 2 ^ s ≤ A.getD (k + i) 0 := Nat.div_le_self _ _
        refine X1 ((k + i : Nat) : Int) (wI (by omega) (by omega) (by omega)) ?_
        refine And.intro (by omega) (X1 _ (nRow_getN rfl (by omega)) ?_)
        refine And.intro (by omega) (X1 ((A.getD (k + i) 0 / 2 ^ s : Nat) : Int) (shrN (k := s) (by omega)) (And.intro (inU (by omega)) ?_))
        refine And.intro (by omega) (And.intro (by omega) ?_)
        refine X1 _ (nRow_getN rfl (by omega)) ?_
        have hset : ∀ w, w < 18446744073709551616 → w = (A.getD (k + i) 0 / 2 ^ s ||| A.getD (k + i + 1) 0 * 2 ^ (64 - s) % 18446744073709551616) → val 18446744073709551616 ((out.set i w).take (i + 1)) + 18446744073709551616 ^ (i + 1) * (val 18446744073709551616 (A.drop (k + (i + 1))) / 2 ^ s) = val 18446744073709551616 (A.drop k) / 2 ^ s := fun w _ hw => by
          rw [val_take_set _ _ (by omega), ← h4, v1, ← hw, Nat.pow_succ, Nat.mul_add, Nat.mul_assoc, ← Nat.add_assoc k i 1]
          omega
        refine dcase (fun h8 => ?_) (fun h8 => ?_)
        · refine X1 ((k + i : Nat) : Int) (wI (by omega) (by omega) (by omega)) ?_
          refine X1 ((k + i + 1 : Nat) : Int) (wI (by omega) (by omega) (by omega)) ?_
          refine And.intro (by rw [nRow_len]; omega) ?_
          rw [nRow_len]
          refine dcase (fun h9 => ?_) (fun h9 => ?_)
          · refine And.intro (by omega) (And.intro (by omega) ?_)
            refine X1 _ (nRow_same rfl rfl (by omega)) ?_
            refine X1 ((k + i : Nat) : Int) (wI (by omega) (by omega) (by omega)) ?_
            refine X1 ((k + i + 1 : Nat) : Int) (wI (by omega) (by omega) (by omega)) ?_
            refine And.intro (by omega) (X1 _ (nRow_getN rfl (by omega)) ?_)
            refine X1 ((64 - s : Nat) : Int) (wU (by omega) (by omega) (by omega)) ?_
            refine And.intro (by omega) (X1 _ (shlN (k := 64 - s) (by omega)) ?_)
            refine X1 _ (orU (by omega) (Nat.mod_lt _ (by decide))) ?_
            refine And.intro (by omega) (And.intro (by omega) ?_)
            refine X1 _ (nRow_setget rfl (by omega)) ?_
            refine And.intro rfl ?_
            refine X1 ((i + 1 : Nat) : Int) (wI (by simp) (by omega) (by omega)) ?_
            refine ⟨(i + 1, out.set i (A.getD (k + i) 0 / 2 ^ s ||| A.getD (k + i + 1) 0 * 2 ^ (64 - s) % 18446744073709551616)), ⟨by omega, by simp [h2], h3.set v2, hset _ v2 rfl⟩, by show _ - (i + 1) < _ - i; omega, ⟨rfl, rfl, rfl, rfl, rfl, rfl, rfl, trivial⟩, ⟨rfl, rfl, rowE ?_, trivial⟩⟩
            have e1 : out.set i (A.getD (k + i) 0 / 2 ^ s ||| A.getD (k + i + 1) 0 * 2 ^ (64 - s) % 18446744073709551616) = (out.set i (A.getD (k + i) 0 / 2 ^ s)).set i (A.getD (k + i) 0 / 2 ^ s ||| A.getD (k + i + 1) 0 * 2 ^ (64 - s) % 18446744073709551616) := by rw [List.set_set]
            rw [e1, ← nRow_set, ← nRow_set]
            rfl
          · have e0 : A.getD (k + i + 1) 0 = 0 := by rw [List.getD_eq_getElem?_getD, List.getElem?_eq_none (by omega)]; rfl
            have e1 : (A.getD (k + i) 0 / 2 ^ s ||| A.getD (k + i + 1) 0 * 2 ^ (64 - s) % 18446744073709551616) = A.getD (k + i) 0 / 2 ^ s := by rw [e0]; simp
            refine X1 ((i + 1 : Nat) : Int) (wI (by simp) (by omega) (by omega)) ?_
            refine ⟨(i + 1, out.set i (A.getD (k + i) 0 / 2 ^ s)), ⟨by omega, by simp [h2], h3.set (by omega), hset _ (by omega) e1.symm⟩, by show _ - (i + 1) < _ - i; omega, ⟨rfl, rfl, rfl, rfl, rfl, rfl, rfl, trivial⟩, ⟨rfl, rfl, rowE ?_, trivial⟩⟩
            rw [← nRow_set]
            rfl
        · have e0 : s = 0 := by omega
          have e1 : (A.getD (k + i) 0 / 2 ^ s ||| A.getD (k + i + 1) 0 * 2 ^ (64 - s) % 18446744073709551616) = A.getD (k + i) 0 / 2 ^ s := by
            rw [e0, show 2 ^ (64 - 0) = 18446744073709551616 from rfl, Nat.mul_mod_left]; simp
          refine X1 ((i + 1 : Nat) : Int) (wI (by simp) (by omega) (by omega)) ?_
          refine ⟨(i + 1, out.set i (A.getD (k + i) 0 / 2 ^ s)), ⟨by omega, by simp [h2], h3.set (by omega), hset _ (by omega) e1.symm⟩, by show _ - (i + 1) < _ - i; omega, ⟨rfl, rfl, rfl, rfl, rfl, rfl, rfl, trivial⟩, ⟨rfl, rfl, rowE ?_, trivial⟩⟩
          rw [← nRow_set]
          rfl
      · have e : i = A.length - k := by omega
        subst e
        rw [List.take_of_length_le (by omega), List.drop_eq_nil_of_le (by omega)] at h4
        simp only [val, Nat.zero_div, Nat.mul_zero, Nat.add_zero] at h4
        exact ⟨out, ⟨h3, h4, by omega⟩, ⟨rfl, rfl, trivial⟩, ⟨rfl, rfl, trivial⟩⟩
    · obtain ⟨h1, h2, h3⟩ := hl
      refine X2 .frz ?_
      refine X1 _ (ntrim_ct l h3) ?_
      rw [trim_dg (by omega) h1, h2]
      exact ⟨trivial, rc rfl, trivial⟩
end Go.Proofs.YtpmchgndnhgncaaGreat.Pv
namespace Go.Proofs.YtpmchgndnhgncaaGreat.Pv
open Go
theorem cloneU_ct (l : List Nat) (hl : l.length ≤ 1000000) : Ct P 128 [.c (nSl .u64 l)] [.c (nSl .u64 l)] := by
  refine Ct.go T_ok T_mix (N := 8) Tryz.func128 rfl rfl rfl rfl ?_
  intro b hb
  cases b with
  | true =>
    have : l = [] := List.length_eq_zero_iff.1 (by have := hb rfl; rwa [nRow_len] at this)
    subst this
    exact ⟨trivial, ⟨_, rfl, .inr ⟨rfl, 1, rfl⟩⟩, trivial⟩
  | false =>
    refine ⟨rfl, by rw [nRow_len]; show (0 + l.length + 768) * 8 ≤ _; omega, by rw [nRow_len]; show 0 + l.length ≤ _; omega, nil_closed, nRow_closed, ?_⟩
    exact ⟨trivial, r1 rfl, trivial⟩
section
variable {u d1 d0 x q r : Nat}
theorem dw_le (h : q * d1 + r = u) (ht : q * d0 ≤ 18446744073709551616 * r + x) (hp : 0 < d1 * 18446744073709551616 + d0) (hq : (u * 18446744073709551616 + x) / (d1 * 18446744073709551616 + d0) ≤ q) : (u * 18446744073709551616 + x) / (d1 * 18446744073709551616 + d0) = q := by
  refine Nat.le_antisymm hq ((Nat.le_div_iff_mul_le hp).2 ?_)
  have e : q * (d1 * 18446744073709551616 + d0) = q * d1 * 18446744073709551616 + q * d0 := by rw [Nat.mul_add, Nat.mul_assoc]
  omega
theorem dw_gt (h : q * d1 + r = u) (ht : 18446744073709551616 * r + x < q * d0) : (u * 18446744073709551616 + x) / (d1 * 18446744073709551616 + d0) < q := by
  apply Nat.div_lt_of_lt_mul
  have e : (d1 * 18446744073709551616 + d0) * q = q * d1 * 18446744073709551616 + q * d0 := by rw [Nat.mul_comm, Nat.mul_add, Nat.mul_assoc]
  omega
theorem dw_0 (hd : 0 < d1) (hx : x < 18446744073709551616) : (u * 18446744073709551616 + x) / (d1 * 18446744073709551616 + d0) ≤ u / d1 := by
  have h0 := Nat.div_add_mod u d1
  have hm := Nat.mod_lt u hd
  refine Nat.le_of_lt_succ (Nat.div_lt_of_lt_mul ?_)
  have e : (d1 * 18446744073709551616 + d0) * (u / d1 + 1) = d1 * (u / d1) * 18446744073709551616 + d1 * 18446744073709551616 + d0 * (u / d1 + 1) := by
    rw [Nat.add_mul, Nat.mul_assoc, Nat.mul_comm 18446744073709551616, ← Nat.mul_assoc, Nat.mul_add, Nat.mul_one, Nat.add_mul]
  show u * 18446744073709551616 + x < (d1 * 18446744073709551616 + d0) * (u / d1 + 1)
  omega
theorem dw_step {T : Nat} (hd0 : d0 < 18446744073709551616) (hp : 0 < d1 * 18446744073709551616 + d0) (hT : T = (u * 18446744073709551616 + x) / (d1 * 18446744073709551616 + d0)) (h : q * d1 + r = u) (hq : q < 18446744073709551616) (ht : T < q) :
    (q - 1) * d1 + (r + d1) = u ∧ (18446744073709551616 ≤ r + d1 → T = q - 1) := by
  obtain ⟨p, rfl⟩ : ∃ p, q = p + 1 := ⟨q - 1, by omega⟩
  rw [Nat.add_mul, Nat.one_mul] at h
  rw [Nat.add_sub_cancel]
  have e : p * d1 + (r + d1) = u := by omega
  refine ⟨e, fun hr => ?_⟩
  rw [hT]
  refine dw_le e ?_ hp (by omega)
  have h1 : p * d0 ≤ 18446744073709551616 * d0 := Nat.mul_le_mul_right _ (by omega)
  have h2 : 18446744073709551616 * d0 ≤ 18446744073709551616 * (r + d1) := Nat.mul_le_mul_left _ (by omega)
  omega
end
def gs (u2 u1 u0 top next : Nat) : Nat := if top ≤ u2 then 18446744073709551615 else ((u2 * 18446744073709551616 + u1) * 18446744073709551616 + u0) / (top * 18446744073709551616 + next)
theorem guess_ct (u : List Nat) (top next n : Nat) (hu : Dig 18446744073709551616 u) (hn : u.length = n + 3) (hb : u.length ≤ 1000000) (h1 : 0 < top) (h2 : top < 18446744073709551616) (h3 : next < 18446744073709551616) :
    Ct P 124 [.c (nSl .u64 u), .c (nI .u64 top), .c (nI .u64 next)] [.c (nI .u64 (gs (u.getD (n + 2) 0) (u.getD (n + 1) 0) (u.getD n 0) top next))] := by
  have k2 := hu.getD (by omega) (n + 2)
  have k1 := hu.getD (by omega) (n + 1)
  have k0 := hu.getD (by omega) n
  refine Ct.go T_ok T_mix (N := 72) Tryz.func124 rfl rfl rfl rfl ?_
  refine And.intro (by rw [nRow_len]; omega) ?_
  rw [nRow_len]
  refine X1 ((n + 2 : Nat) : Int) (wI (by omega) (by omega) (by omega)) ?_
  refine And.intro (by omega) (X1 _ (nRow_getN rfl (by omega)) ?_)
  refine dcase (fun h0 => ?_) (fun h0 => ?_)
  · exact ⟨trivial, r1 (iE (by rw [gs, if_pos (by omega)]; rfl)), trivial⟩
  · rw [gs, if_neg (by omega)]
    refine X1 ((n + 2 : Nat) : Int) (wI (by omega) (by omega) (by omega)) ?_
    refine And.intro (by omega) (X1 _ (nRow_getN rfl (by omega)) ?_)
    refine X1 ((n + 1 : Nat) : Int) (wI (by omega) (by omega) (by omega)) ?_
    refine And.intro (by omega) (X1 _ (nRow_getN rfl (by omega)) ?_)
    generalize u.getD (n + 2) 0 = u2 at *
    generalize u.getD (n + 1) 0 = u1 at *
    refine X1 _ (div64_ct u2 u1 top (by omega) k1 h2) ?_
    refine And.intro rfl ?_
    have hw := Nat.mod_lt (u2 * 18446744073709551616 + u1) h1
    have hdm := Nat.div_add_mod (u2 * 18446744073709551616 + u1) top
    rw [Nat.mul_comm] at hdm
    have hq0 : (u2 * 18446744073709551616 + u1) / top < 18446744073709551616 := by
      refine Nat.div_lt_of_lt_mul ?_
      have := Nat.mul_le_mul_right 18446744073709551616 (show u2 + 1 ≤ top by omega)
      omega
    obtain ⟨T, hT⟩ : ∃ T, T = ((u2 * 18446744073709551616 + u1) * 18446744073709551616 + u.getD n 0) / (top * 18446744073709551616 + next) := ⟨_, rfl⟩
    have hT0 : T ≤ (u2 * 18446744073709551616 + u1) / top := by rw [hT]; exact dw_0 h1 k0
    rw [← hT]
    obtain ⟨A, hA⟩ : ∃ A, A = u2 * 18446744073709551616 + u1 := ⟨_, rfl⟩
    rw [← hA] at hw hdm hq0 hT hT0 ⊢
    refine loopB T_ok T_mix (G := Nat × Nat) (fun (q, r) => q * top + r = A ∧ T ≤ q ∧ q < 18446744073709551616 ∧ r < 18446744073709551616)
      (fun (q, r) => [(0, .c (nSl .u64 u)), (1, .c (nI .u64 top)), (2, .c (nI .u64 next)), (7, .c (nI .i64 (n + 3 : Nat))), (8, .c (nI .u64 q)), (9, .c (nI .u64 r))]) (fun _ => []) (fun (q, _) => q)
      (A / top, A % top) ⟨hdm, hT0, hq0, by omega⟩ ⟨rfl, rfl, rfl, iE (by rw [hn]), rfl, rfl, trivial⟩ trivial (fun (q, r) hi => ?_)
    obtain ⟨i1, i2, i3, i4⟩ := hi
    refine X1 _ (mul64_ct q next i3 h3) ?_
    have hml := Nat.div_add_mod (q * next) 18446744073709551616
    have hmm := Nat.mod_lt (q * next) (show 0 < 18446744073709551616 by decide)
    generalize q * next / 18446744073709551616 = hi at *
    generalize q * next % 18446744073709551616 = lo at *
    refine dcase (fun h4 => ?_) (fun h4 => ?_)
    · have e : T = q := by rw [hT]; exact dw_le i1 (by omega) (by omega) (by rw [← hT]; exact i2)
      exact ⟨trivial, r1 (iE (by rw [e])), trivial⟩
    · refine ecase (fun h5 => ?_) (fun h5 => ?_)
      · have e5 : hi = r := Int.ofNat_inj.1 h5
        refine X1 ((n : Nat) : Int) (wI (by omega) (by omega) (by omega)) ?_
        refine And.intro (by omega) (X1 _ (nRow_getN rfl (by omega)) ?_)
        refine dcase (fun h7 => ?_) (fun h7 => ?_)
        · have e7 : lo ≤ u.getD n 0 := Int.ofNat_le.1 h7
          have e : T = q := by rw [hT]; exact dw_le i1 (by rw [← hml, e5]; exact Nat.add_le_add_left e7 _) (by omega) (by rw [← hT]; exact i2)
          exact ⟨trivial, r1 (iE (by rw [e])), trivial⟩
        · have e7 : u.getD n 0 < lo := Int.ofNat_lt.1 (Int.not_le.1 h7)
          have hlt : T < q := by rw [hT]; exact dw_gt i1 (by rw [← hml, e5]; exact Nat.add_lt_add_left e7 _)
          obtain ⟨m1, m2⟩ := dw_step h3 (by omega) hT i1 i3 hlt
          refine X1 ((q - 1 : Nat) : Int) (wU (by omega) (by omega) (by omega)) ?_
          refine X1 _ (add64_ct r top 0 i4 h2 (by omega)) ?_
          refine dcase (fun h6 => ?_) (fun h6 => ?_)
          · exact ⟨trivial, r1 (iE (by rw [m2 (by omega)])), trivial⟩
          · exact ⟨(q - 1, r + top), ⟨m1, by omega, by omega, by omega⟩, by show q - 1 < q; omega, ⟨rfl, rfl, rfl, rfl, rfl, iE (by rw [Nat.mod_eq_of_lt (by omega)]; rfl), trivial⟩, trivial⟩
      · have hlt : T < q := by rw [hT]; exact dw_gt i1 (by omega)
        obtain ⟨m1, m2⟩ := dw_step h3 (by omega) hT i1 i3 hlt
        refine X1 ((q - 1 : Nat) : Int) (wU (by omega) (by omega) (by omega)) ?_
        refine X1 _ (add64_ct r top 0 i4 h2 (by omega)) ?_
        refine dcase (fun h6 => ?_) (fun h6 => ?_)
        · exact ⟨trivial, r1 (iE (by rw [m2 (by omega)])), trivial⟩
        · exact ⟨(q - 1, r + top), ⟨m1, by omega, by omega, by omega⟩, by show q - 1 < q; omega, ⟨rfl, rfl, rfl, rfl, rfl, iE (by rw [Nat.mod_eq_of_lt (by omega)]; rfl), trivial⟩, trivial⟩
end Go.Proofs.YtpmchgndnhgncaaGreat.Pv
