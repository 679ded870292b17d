/- Parts of a proof, joined: Eb Ec Eh Ei Cx Cy Eq Cz Er Es Et Eu Ev. -/
import Derived.Test.YtpmchgndnhgncaaGreatKbM
namespace Go.Proofs.YtpmchgndnhgncaaGreat.Pv
open Go
abbrev dS (p0 p1 p2 p3 : Nat × Nat) : A1 := .ag [dV p0.1, dV p0.2, dV p1.1, dV p1.2, dV p2.1, dV p2.2, dV p3.1, dV p3.2]
def at4 (p1 p2 p3 : Nat × Nat) (n : Int) : Nat × Nat := if n < 1 then (0, 1) else if n = 1 then p1 else if n = 2 then p2 else p3
abbrev c6 (n0 n1 n2 n3 n4 n5 : Nat) : A1 := .ag [nI .i64 n0, nI .i64 n1, nI .i64 n2, nI .i64 n3, nI .i64 n4, nI .i64 n5]
def gam28 (p1 p2 p3 : Nat × Nat) (n0 n1 n2 n3 : Nat) : Nat × Nat :=
  if n1 < 1 then (1, 1) else fDiv (fAdd (fAdd (fMul (n2, 1) p1) (fMul (n3, 1) p2)) (fMul (n0 - n2 - n3, 1) p3)) (n1, 1)
def part28 (k n2 n3 a b : Nat) : Nat × Nat := fMul (fMul (k + 1, 1) (fDiv (n2, 1) (n2 + 2 * n3, 1))) (fDiv (a, 1) (b, 1))
theorem part28_1 (n0 n1 n2 n3 n4 n5 : Nat) (h2 : n2 ≠ 0) (hb : n2 ≠ 0) (m2 : n2 ≤ 1000000) (m3 : n3 ≤ 1000000) (m4 : n4 ≤ 1000000) (m5 : n5 ≤ 1000000) :
    Ct P 68 [.c (nI .i64 1), c6 n0 n1 n2 n3 n4 n5] [rP (part28 1 n2 n3 n3 n2)] := by
  have j1 : Bd 63 (n2, 1) := int_bd (by omega) (by omega)
  have j2 : Bd 63 (n2 + 2 * n3, 1) := int_bd (by omega) (by omega)
  have y := fDiv_bd j1 j2 (by show n2 + 2 * n3 ≠ 0; omega)
  refine Ct.go T_ok T_mix (N := 34) Tryz.func68 rfl rfl rfl rfl ?_
  · refine And.intro (by decide) (And.intro (by decide) ?_)
    refine X1 _ (rint_ct n2 (by omega)) ?_
    refine And.intro (by decide) (And.intro (by decide) ?_)
    refine And.intro (by decide) (And.intro (by decide) ?_)
    refine X1 ((2 * n3 : Nat) : Int) (wI (by simp) (by omega) (by omega)) ?_
    refine X1 ((n2 + 2 * n3 : Nat) : Int) (wI (by simp) (by omega) (by omega)) ?_
    refine X1 _ (rint_ct (n2 + 2 * n3) (by omega)) ?_
    refine X1 _ (fdiv_ct j1 j2 (by show n2 + 2 * n3 ≠ 0; omega) (by omega) (by omega)) ?_
    refine And.intro rfl ?_
    refine X1 ((2 : Nat) : Int) (wI (by simp) (by omega) (by omega)) ?_
    refine X1 _ (rint_ct 2 (by omega)) ?_
    refine X1 _ (fmul_ct (int_bd (v := 2) (k := 63) (by decide) (by omega)) y (by omega) (by omega)) ?_
    refine X1 ((3 : Nat) : Int) (wI (by simp) (by omega) (by omega)) ?_
    refine And.intro (by decide) (And.intro (by decide) ?_)
    refine X1 _ (rint_ct n3 (by omega)) ?_
    refine X1 ((2 : Nat) : Int) (wI (by simp) (by omega) (by omega)) ?_
    refine And.intro (by decide) (And.intro (by decide) ?_)
    refine X1 _ (rint_ct n2 (by omega)) ?_
    refine X1 _ (fdiv_ct (int_bd (v := n3) (k := 63) (by omega) (by omega)) (int_bd (v := n2) (k := 63) (by omega) (by omega)) (by show n2 ≠ 0; omega) (by omega) (by omega)) ?_
    refine X1 _ (fmul_ct (fMul_bd (int_bd (v := 2) (k := 63) (by decide) (by omega)) y) (fDiv_bd (int_bd (v := n3) (k := 63) (by omega) (by omega)) (int_bd (v := n2) (k := 63) (by omega) (by omega)) (by show n2 ≠ 0; omega)) (by omega) (by omega)) ?_
    refine And.intro rfl ?_
    exact ⟨trivial, rc rfl, trivial⟩
theorem part28_2 (n0 n1 n2 n3 n4 n5 : Nat) (h2 : n2 ≠ 0) (hb : n3 ≠ 0) (m2 : n2 ≤ 1000000) (m3 : n3 ≤ 1000000) (m4 : n4 ≤ 1000000) (m5 : n5 ≤ 1000000) :
    Ct P 68 [.c (nI .i64 2), c6 n0 n1 n2 n3 n4 n5] [rP (part28 2 n2 n3 n4 n3)] := by
  have j1 : Bd 63 (n2, 1) := int_bd (by omega) (by omega)
  have j2 : Bd 63 (n2 + 2 * n3, 1) := int_bd (by omega) (by omega)
  have y := fDiv_bd j1 j2 (by show n2 + 2 * n3 ≠ 0; omega)
  refine Ct.go T_ok T_mix (N := 34) Tryz.func68 rfl rfl rfl rfl ?_
  · refine And.intro (by decide) (And.intro (by decide) ?_)
    refine X1 _ (rint_ct n2 (by omega)) ?_
    refine And.intro (by decide) (And.intro (by decide) ?_)
    refine And.intro (by decide) (And.intro (by decide) ?_)
    refine X1 ((2 * n3 : Nat) : Int) (wI (by simp) (by omega) (by omega)) ?_
    refine X1 ((n2 + 2 * n3 : Nat) : Int) (wI (by simp) (by omega) (by omega)) ?_
    refine X1 _ (rint_ct (n2 + 2 * n3) (by omega)) ?_
    refine X1 _ (fdiv_ct j1 j2 (by show n2 + 2 * n3 ≠ 0; omega) (by omega) (by omega)) ?_
    refine And.intro rfl ?_
    refine X1 ((3 : Nat) : Int) (wI (by simp) (by omega) (by omega)) ?_
    refine X1 _ (rint_ct 3 (by omega)) ?_
    refine X1 _ (fmul_ct (int_bd (v := 3) (k := 63) (by decide) (by omega)) y (by omega) (by omega)) ?_
    refine X1 ((4 : Nat) : Int) (wI (by simp) (by omega) (by omega)) ?_
    refine And.intro (by decide) (And.intro (by decide) ?_)
    refine X1 _ (rint_ct n4 (by omega)) ?_
    refine X1 ((3 : Nat) : Int) (wI (by simp) (by omega) (by omega)) ?_
    refine And.intro (by decide) (And.intro (by decide) ?_)
    refine X1 _ (rint_ct n3 (by omega)) ?_
    refine X1 _ (fdiv_ct (int_bd (v := n4) (k := 63) (by omega) (by omega)) (int_bd (v := n3) (k := 63) (by omega) (by omega)) (by show n3 ≠ 0; omega) (by omega) (by omega)) ?_
    refine X1 _ (fmul_ct (fMul_bd (int_bd (v := 3) (k := 63) (by decide) (by omega)) y) (fDiv_bd (int_bd (v := n4) (k := 63) (by omega) (by omega)) (int_bd (v := n3) (k := 63) (by omega) (by omega)) (by show n3 ≠ 0; omega)) (by omega) (by omega)) ?_
    refine And.intro rfl ?_
    exact ⟨trivial, rc rfl, trivial⟩
theorem part28_3 (n0 n1 n2 n3 n4 n5 : Nat) (h2 : n2 ≠ 0) (hb : n4 ≠ 0) (m2 : n2 ≤ 1000000) (m3 : n3 ≤ 1000000) (m4 : n4 ≤ 1000000) (m5 : n5 ≤ 1000000) :
    Ct P 68 [.c (nI .i64 3), c6 n0 n1 n2 n3 n4 n5] [rP (part28 3 n2 n3 n5 n4)] := by
  have j1 : Bd 63 (n2, 1) := int_bd (by omega) (by omega)
  have j2 : Bd 63 (n2 + 2 * n3, 1) := int_bd (by omega) (by omega)
  have y := fDiv_bd j1 j2 (by show n2 + 2 * n3 ≠ 0; omega)
  refine Ct.go T_ok T_mix (N := 34) Tryz.func68 rfl rfl rfl rfl ?_
  · refine And.intro (by decide) (And.intro (by decide) ?_)
    refine X1 _ (rint_ct n2 (by omega)) ?_
    refine And.intro (by decide) (And.intro (by decide) ?_)
    refine And.intro (by decide) (And.intro (by decide) ?_)
    refine X1 ((2 * n3 : Nat) : Int) (wI (by simp) (by omega) (by omega)) ?_
    refine X1 ((n2 + 2 * n3 : Nat) : Int) (wI (by simp) (by omega) (by omega)) ?_
    refine X1 _ (rint_ct (n2 + 2 * n3) (by omega)) ?_
    refine X1 _ (fdiv_ct j1 j2 (by show n2 + 2 * n3 ≠ 0; omega) (by omega) (by omega)) ?_
    refine And.intro rfl ?_
    refine X1 ((4 : Nat) : Int) (wI (by simp) (by omega) (by omega)) ?_
    refine X1 _ (rint_ct 4 (by omega)) ?_
    refine X1 _ (fmul_ct (int_bd (v := 4) (k := 63) (by decide) (by omega)) y (by omega) (by omega)) ?_
    refine X1 ((5 : Nat) : Int) (wI (by simp) (by omega) (by omega)) ?_
    refine And.intro (by decide) (And.intro (by decide) ?_)
    refine X1 _ (rint_ct n5 (by omega)) ?_
    refine X1 ((4 : Nat) : Int) (wI (by simp) (by omega) (by omega)) ?_
    refine And.intro (by decide) (And.intro (by decide) ?_)
    refine X1 _ (rint_ct n4 (by omega)) ?_
    refine X1 _ (fdiv_ct (int_bd (v := n5) (k := 63) (by omega) (by omega)) (int_bd (v := n4) (k := 63) (by omega) (by omega)) (by show n4 ≠ 0; omega) (by omega) (by omega)) ?_
    refine X1 _ (fmul_ct (fMul_bd (int_bd (v := 4) (k := 63) (by decide) (by omega)) y) (fDiv_bd (int_bd (v := n5) (k := 63) (by omega) (by omega)) (int_bd (v := n4) (k := 63) (by omega) (by omega)) (by show n4 ≠ 0; omega)) (by omega) (by omega)) ?_
    refine And.intro rfl ?_
    exact ⟨trivial, rc rfl, trivial⟩
def off28 (n2 n3 n4 n5 : Nat) : Nat → Nat × Nat
  | 1 => if n2 > 0 ∧ n2 > 0 then fSub (1, 1) (part28 1 n2 n3 n3 n2) else (0, 1)
  | 2 => if n2 > 0 ∧ n3 > 0 then fSub (2, 1) (part28 2 n2 n3 n4 n3) else (0, 1)
  | _ => if n2 > 0 ∧ n4 > 0 then fSub (3, 1) (part28 3 n2 n3 n5 n4) else (0, 1)
def cur28 (n2 n3 n4 n5 j k : Nat) : Nat × Nat := if j < k then off28 n2 n3 n4 n5 j else (0, 1)
def ofc (n2 n3 n4 n5 k : Nat) : List PC := [dV 0, dV 1, dV (cur28 n2 n3 n4 n5 1 k).1, dV (cur28 n2 n3 n4 n5 1 k).2, dV (cur28 n2 n3 n4 n5 2 k).1, dV (cur28 n2 n3 n4 n5 2 k).2, dV (cur28 n2 n3 n4 n5 3 k).1, dV (cur28 n2 n3 n4 n5 3 k).2]
theorem of28_ct (n0 n1 n2 n3 n4 n5 : Nat) (m2 : n2 ≤ 1000000) (m3 : n3 ≤ 1000000) (m4 : n4 ≤ 1000000) (m5 : n5 ≤ 1000000) : Ct P 30 [c6 n0 n1 n2 n3 n4 n5] [dS (0, 1) (off28 n2 n3 n4 n5 1) (off28 n2 n3 n4 n5 2) (off28 n2 n3 n4 n5 3)] := by
  have pb : ∀ (k a b : Nat), k + 1 < 2 ^ 63 → n2 ≠ 0 → b ≠ 0 → a ≤ 1000000 → b ≤ 1000000 → Bd 400000 (part28 k n2 n3 a b) := fun k a b hk h2 hb ha hb' => by
    have j1 : Bd 63 (n2, 1) := int_bd (by omega) (by omega)
    have j2 : Bd 63 (n2 + 2 * n3, 1) := int_bd (by omega) (by omega)
    have y := fDiv_bd j1 j2 (by show n2 + 2 * n3 ≠ 0; omega)
    exact (fMul_bd (fMul_bd (int_bd (v := k + 1) (k := 63) hk (by omega)) y) (fDiv_bd (int_bd (v := a) (k := 63) (by omega) (by omega)) (int_bd (v := b) (k := 63) (by omega) (by omega)) hb)).le (by omega)
  refine Ct.go T_ok T_mix (N := 33) Tryz.func30 rfl rfl rfl rfl ?_
  refine X1 _ (rint_ct 0 (by omega)) ?_
  refine X1 _ (rint_ct 0 (by omega)) ?_
  refine X1 _ (rint_ct 0 (by omega)) ?_
  refine X1 _ (rint_ct 0 (by omega)) ?_
  refine loopJ T_ok T_mix (fun k : Nat => 1 ≤ k ∧ k ≤ 4) (fun k => [(1, .c (.ad 1 0)), (2, .c (.ad 2 0)), (3, .c (.ad 3 0)), (4, .c (nI .i64 k))])
    (fun k => [(1, .var [nI .i64 n0, nI .i64 n1, nI .i64 n2, nI .i64 n3, nI .i64 n4, nI .i64 n5]), (2, .var (List.replicate 8 (.sc (.slice none 0 0)))), (3, .var (ofc n2 n3 n4 n5 k))]) (fun k => 4 - k)
    1 ⟨by omega, by omega⟩ ⟨rfl, rfl, rfl, rfl, trivial⟩ ⟨rfl, rfl, rfl, trivial⟩ (fun _ : Unit => True) (fun _ => [(2, .c (.ad 2 0)), (3, .c (.ad 3 0))]) (fun _ => [(2, .var (List.replicate 8 (.sc (.slice none 0 0)))), (3, .var (ofc n2 n3 n4 n5 4))]) (fun k hi => ?_) (fun _ _ => ?_)
  · obtain ⟨i1, i2⟩ := hi
    refine dcase (fun h1 => ?_) (fun h1 => ?_)
    · have hk : k = 1 ∨ k = 2 ∨ k = 3 := by omega
      rcases hk with rfl | rfl | rfl
      · refine And.intro (by decide) (And.intro (by decide) ?_)
        refine dcase (fun h2 => ?_) (fun h2 => ?_)
        · refine X1 ((2 : Nat) : Int) (wI (by simp) (by omega) (by omega)) ?_
          refine And.intro (by decide) (And.intro (by decide) ?_)
          refine dcase (fun h3 => ?_) (fun h3 => ?_)
          · have hr : off28 n2 n3 n4 n5 1 = fSub (1, 1) (part28 1 n2 n3 n3 n2) := by
              show (if _ then _ else _) = _
              exact if_pos ⟨by omega, by omega⟩
            refine X1 _ (rint_ct 1 (by omega)) ?_
            refine X1 _ (part28_1 n0 n1 n2 n3 n4 n5 (by omega) (by omega) m2 m3 m4 m5) ?_
            refine X1 _ (fsub_ct (int_bd (v := 1) (k := 63) (by decide) (by omega)) (pb 1 n3 n2 (by decide) (by omega) (by omega) (by omega) (by omega)) (by omega) (by omega)) ?_
            refine And.intro (by decide) (And.intro (by decide) ?_)
            refine And.intro rfl ?_
            refine X1 ((2 : Nat) : Int) (wI (by simp) (by omega) (by omega)) ?_
            exact ⟨2, ⟨by omega, by omega⟩, by decide, ⟨rfl, rfl, rfl, rfl, trivial⟩, ⟨rfl, rfl, by unfold ofc cur28; simp only [hr]; rfl, trivial⟩⟩
          · have hr : off28 n2 n3 n4 n5 1 = (0, 1) := by
              show (if _ then _ else _) = _
              exact if_neg (by omega)
            refine X1 ((2 : Nat) : Int) (wI (by simp) (by omega) (by omega)) ?_
            exact ⟨2, ⟨by omega, by omega⟩, by decide, ⟨rfl, rfl, rfl, rfl, trivial⟩, ⟨rfl, rfl, by unfold ofc cur28; simp only [hr]; rfl, trivial⟩⟩
        · have hr : off28 n2 n3 n4 n5 1 = (0, 1) := by
              show (if _ then _ else _) = _
              exact if_neg (by omega)
          refine X1 ((2 : Nat) : Int) (wI (by simp) (by omega) (by omega)) ?_
          exact ⟨2, ⟨by omega, by omega⟩, by decide, ⟨rfl, rfl, rfl, rfl, trivial⟩, ⟨rfl, rfl, by unfold ofc cur28; simp only [hr]; rfl, trivial⟩⟩
      · refine And.intro (by decide) (And.intro (by decide) ?_)
        refine dcase (fun h2 => ?_) (fun h2 => ?_)
        · refine X1 ((3 : Nat) : Int) (wI (by simp) (by omega) (by omega)) ?_
          refine And.intro (by decide) (And.intro (by decide) ?_)
          refine dcase (fun h3 => ?_) (fun h3 => ?_)
          · have hr : off28 n2 n3 n4 n5 2 = fSub (2, 1) (part28 2 n2 n3 n4 n3) := by
              show (if _ then _ else _) = _
              exact if_pos ⟨by omega, by omega⟩
            refine X1 _ (rint_ct 2 (by omega)) ?_
            refine X1 _ (part28_2 n0 n1 n2 n3 n4 n5 (by omega) (by omega) m2 m3 m4 m5) ?_
            refine X1 _ (fsub_ct (int_bd (v := 2) (k := 63) (by decide) (by omega)) (pb 2 n4 n3 (by decide) (by omega) (by omega) (by omega) (by omega)) (by omega) (by omega)) ?_
            refine And.intro (by decide) (And.intro (by decide) ?_)
            refine And.intro rfl ?_
            refine X1 ((3 : Nat) : Int) (wI (by simp) (by omega) (by omega)) ?_
            exact ⟨3, ⟨by omega, by omega⟩, by decide, ⟨rfl, rfl, rfl, rfl, trivial⟩, ⟨rfl, rfl, by unfold ofc cur28; simp only [hr]; rfl, trivial⟩⟩
          · have hr : off28 n2 n3 n4 n5 2 = (0, 1) := by
              show (if _ then _ else _) = _
              exact if_neg (by omega)
            refine X1 ((3 : Nat) : Int) (wI (by simp) (by omega) (by omega)) ?_
            exact ⟨3, ⟨by omega, by omega⟩, by decide, ⟨rfl, rfl, rfl, rfl, trivial⟩, ⟨rfl, rfl, by unfold ofc cur28; simp only [hr]; rfl, trivial⟩⟩
        · have hr : off28 n2 n3 n4 n5 2 = (0, 1) := by
              show (if _ then _ else _) = _
              exact if_neg (by omega)
          refine X1 ((3 : Nat) : Int) (wI (by simp) (by omega) (by omega)) ?_
          exact ⟨3, ⟨by omega, by omega⟩, by decide, ⟨rfl, rfl, rfl, rfl, trivial⟩, ⟨rfl, rfl, by unfold ofc cur28; simp only [hr]; rfl, trivial⟩⟩
      · refine And.intro (by decide) (And.intro (by decide) ?_)
        refine dcase (fun h2 => ?_) (fun h2 => ?_)
        · refine X1 ((4 : Nat) : Int) (wI (by simp) (by omega) (by omega)) ?_
          refine And.intro (by decide) (And.intro (by decide) ?_)
          refine dcase (fun h3 => ?_) (fun h3 => ?_)
          · have hr : off28 n2 n3 n4 n5 3 = fSub (3, 1) (part28 3 n2 n3 n5 n4) := by
              show (if _ then _ else _) = _
              exact if_pos ⟨by omega, by omega⟩
            refine X1 _ (rint_ct 3 (by omega)) ?_
            refine X1 _ (part28_3 n0 n1 n2 n3 n4 n5 (by omega) (by omega) m2 m3 m4 m5) ?_
            refine X1 _ (fsub_ct (int_bd (v := 3) (k := 63) (by decide) (by omega)) (pb 3 n5 n4 (by decide) (by omega) (by omega) (by omega) (by omega)) (by omega) (by omega)) ?_
            refine And.intro (by decide) (And.intro (by decide) ?_)
            refine And.intro rfl ?_
            refine X1 ((4 : Nat) : Int) (wI (by simp) (by omega) (by omega)) ?_
            exact ⟨4, ⟨by omega, by omega⟩, by decide, ⟨rfl, rfl, rfl, rfl, trivial⟩, ⟨rfl, rfl, by unfold ofc cur28; simp only [hr]; rfl, trivial⟩⟩
          · have hr : off28 n2 n3 n4 n5 3 = (0, 1) := by
              show (if _ then _ else _) = _
              exact if_neg (by omega)
            refine X1 ((4 : Nat) : Int) (wI (by simp) (by omega) (by omega)) ?_
            exact ⟨4, ⟨by omega, by omega⟩, by decide, ⟨rfl, rfl, rfl, rfl, trivial⟩, ⟨rfl, rfl, by unfold ofc cur28; simp only [hr]; rfl, trivial⟩⟩
        · have hr : off28 n2 n3 n4 n5 3 = (0, 1) := by
              show (if _ then _ else _) = _
              exact if_neg (by omega)
          refine X1 ((4 : Nat) : Int) (wI (by simp) (by omega) (by omega)) ?_
          exact ⟨4, ⟨by omega, by omega⟩, by decide, ⟨rfl, rfl, rfl, rfl, trivial⟩, ⟨rfl, rfl, by unfold ofc cur28; simp only [hr]; rfl, trivial⟩⟩
    · have e : k = 4 := by omega
      subst e
      exact ⟨(), trivial, ⟨rfl, rfl, trivial⟩, ⟨rfl, rfl, trivial⟩⟩
  · exact ⟨trivial, rc rfl, trivial⟩
def nz (p : Nat × Nat) : Nat × Nat := (p.1, dn p.2)
theorem nz_pos (p : Nat × Nat) : (nz p).2 ≠ 0 := dn_pos p.2
theorem nz_of {p : Nat × Nat} (h : p.2 ≠ 0) : nz p = p := by unfold nz; rw [dn_ne h]
theorem Bd.bg {k : Nat} {p : Nat × Nat} (h : Bd k (nz p)) : Bg k p :=
  ⟨h.n, Nat.lt_of_le_of_lt (show p.2 ≤ dn p.2 by unfold dn; split <;> omega) h.d⟩
theorem bd_fr {k : Nat} {p : Nat × Nat} (h : Bd k p) : nz p = p := nz_of h.pos
theorem fR_red {n d : Nat} (h : d ≠ 0) : Nat.gcd (fR n d).1 (fR n d).2 = 1 := by
  have hg := Nat.gcd_pos_of_pos_right n (Nat.pos_of_ne_zero h)
  show Nat.gcd (n / Nat.gcd n d) (d / Nat.gcd n d) = 1
  rw [Nat.gcd_div (Nat.gcd_dvd_left n d) (Nat.gcd_dvd_right n d), Nat.div_self hg]
theorem fR_of {n d : Nat} (h : Nat.gcd n d = 1) : fR n d = (n, d) := by unfold fR; rw [h]; simp
theorem fAdd_0 {p : Nat × Nat} (h : Nat.gcd p.1 p.2 = 1) : fAdd (0, 1) p = p := by
  have : fAdd (0, 1) p = fR p.1 p.2 := by unfold fAdd; simp
  rw [this, fR_of h]
theorem fSub_0 {p q : Nat × Nat} (hp : p.2 ≠ 0) (hq : q.2 ≠ 0) (h : p.1 * q.2 < q.1 * p.2) : fSub p q = (0, 1) := by
  unfold fSub
  rw [Nat.sub_eq_zero_of_le (Nat.le_of_lt h)]
  unfold fR
  rw [Nat.gcd_zero_left, Nat.zero_div, Nat.div_self (Nat.pos_of_ne_zero (Nat.mul_ne_zero hp hq))]
theorem gsub_f (p q : Nat × Nat) : gSub p q = fSub (nz p) (nz q) := by
  unfold gSub
  split
  · rename_i h; exact (fSub_0 (nz_pos p) (nz_pos q) h).symm
  · rfl
theorem hmul_ct {k m : Nat} {p q : Nat × Nat} (h1 : Bd k (nz p)) (h2 : Bd m (nz q)) (hk : k ≤ 400000) (hm : m ≤ 400000) : Ct P 24 [qP p, qP q] [qP (fMul (nz p) (nz q))] := gmul_ct h1.bg h2.bg (by omega) (by omega)
theorem hby_ct {k m : Nat} {p q : Nat × Nat} (h1 : Bd k (nz p)) (h2 : Bd m (nz q)) (hq : q.1 ≠ 0) (hk : k ≤ 400000) (hm : m ≤ 400000) : Ct P 110 [qP p, qP q] [qP (fDiv (nz p) (nz q))] := gby_ct h1.bg h2.bg hq (by omega) (by omega)
theorem hsub_ct {k m : Nat} {p q : Nat × Nat} (h1 : Bd k (nz p)) (h2 : Bd m (nz q)) (hk : k ≤ 400000) (hm : m ≤ 400000) : Ct P 46 [qP p, qP q] [qP (fSub (nz p) (nz q))] := by
  rw [← gsub_f]; exact gsub_ct h1.bg h2.bg (by omega) (by omega)
theorem Bd.limq {k : Nat} {p : Nat × Nat} (h : Bd k (nz p)) (hk : k ≤ 2000000) : LimQ p.1 p.2 := h.bg.lim hk
theorem bd_limq {k : Nat} {p : Nat × Nat} (h : Bd k p) (hk : k ≤ 2000000) : LimQ p.1 p.2 := Bd.limq (k := k) (by rw [bd_fr h]; exact h) hk
theorem bd01 : Bd 1 (0, 1) := ⟨by decide, by decide, by decide⟩
theorem haddw_ct {k m : Nat} {p q : Nat × Nat} (h1 : Bd k (nz p)) (h2 : Bd m (nz q)) (r1 : Nat.gcd (nz p).1 (nz p).2 = 1) (hk : k + m < 2000000) : Ct P 11 [.c (.sl 2 (qRow [p, q]))] [qP (fAdd (nz p) (nz q))] := by
  have e1 : qAdd (0, 1) p = nz p := fAdd_0 r1
  have e2 : qAdd (nz p) q = fAdd (nz p) (nz q) := by
    show fAdd (nz (nz p)) (nz q) = _
    rw [nz_of (nz_pos p)]
  have b2 := fAdd_bd h1 h2
  have := qadd_ct [p, q] (by simp) (fun i hi => by
    match i, hi with
    | 0, _ => exact h1.limq (by omega)
    | 1, _ => exact h2.limq (by omega)) (fun i hi => by
    match i, hi with
    | 0, _ => exact bd_limq bd01 (by omega)
    | 1, _ => show LimQ (qAdd (0, 1) p).1 (qAdd (0, 1) p).2; rw [e1]; exact bd_limq h1 (by omega)
    | 2, _ => show LimQ (qAdd (qAdd (0, 1) p) q).1 (qAdd (qAdd (0, 1) p) q).2; rw [e1, e2]; exact bd_limq b2 (by omega))
  have e : [p, q].foldl qAdd (0, 1) = fAdd (nz p) (nz q) := by
    show qAdd (qAdd (0, 1) p) q = _
    rw [e1, e2]
  rw [e] at this
  exact this
theorem hadd2_ct {k m : Nat} {p q : Nat × Nat} (h1 : Bd k (nz p)) (h2 : Bd m (nz q)) (r1 : Nat.gcd (nz p).1 (nz p).2 = 1) (hk : k ≤ 400000) (hm : m ≤ 400000) : Ct P 11 [.c (.sl 2 (qRow [p, q]))] [qP (fAdd (nz p) (nz q))] := haddw_ct h1 h2 r1 (by omega)
theorem hadd3_ct {k m n : Nat} {p q r : Nat × Nat} (h1 : Bd k (nz p)) (h2 : Bd m (nz q)) (h3 : Bd n (nz r)) (r1 : Nat.gcd (nz p).1 (nz p).2 = 1) (hk : k ≤ 400000) (hm : m ≤ 400000) (hn : n ≤ 400000) : Ct P 11 [.c (.sl 2 (qRow [p, q, r]))] [qP (fAdd (fAdd (nz p) (nz q)) (nz r))] := by
  have e1 : qAdd (0, 1) p = nz p := fAdd_0 r1
  have e2 : qAdd (nz p) q = fAdd (nz p) (nz q) := by
    show fAdd (nz (nz p)) (nz q) = _
    rw [nz_of (nz_pos p)]
  have b2 := fAdd_bd h1 h2
  have e3 : qAdd (fAdd (nz p) (nz q)) r = fAdd (fAdd (nz p) (nz q)) (nz r) := by
    show fAdd (nz (fAdd (nz p) (nz q))) (nz r) = _
    rw [bd_fr b2]
  have b3 := fAdd_bd b2 h3
  have := qadd_ct [p, q, r] (by simp) (fun i hi => by
    match i, hi with
    | 0, _ => exact h1.limq (by omega)
    | 1, _ => exact h2.limq (by omega)
    | 2, _ => exact h3.limq (by omega)) (fun i hi => by
    match i, hi with
    | 0, _ => exact bd_limq bd01 (by omega)
    | 1, _ => show LimQ (qAdd (0, 1) p).1 (qAdd (0, 1) p).2; rw [e1]; exact bd_limq h1 (by omega)
    | 2, _ => show LimQ (qAdd (qAdd (0, 1) p) q).1 (qAdd (qAdd (0, 1) p) q).2; rw [e1, e2]; exact bd_limq b2 (by omega)
    | 3, _ => show LimQ (qAdd (qAdd (qAdd (0, 1) p) q) r).1 (qAdd (qAdd (qAdd (0, 1) p) q) r).2; rw [e1, e2, e3]; exact bd_limq b3 (by omega))
  have e : [p, q, r].foldl qAdd (0, 1) = fAdd (fAdd (nz p) (nz q)) (nz r) := by
    show qAdd (qAdd (qAdd (0, 1) p) q) r = _
    rw [e1, e2, e3]
  rw [e] at this
  exact this
theorem wholeN_ct (n : Nat) (hn : n < 9223372036854775808) : Ct P 109 [.c (nI .i64 n)] [qP (n, 1)] := by
  have := whole_ct (n : Int) (by omega)
  unfold wh at this
  simpa using this
abbrev c7 (n0 n1 n2 n3 n4 n5 : Nat) : A1 := .ag [nI .i64 n0, nI .i64 n1, nI .i64 0, nI .i64 n2, nI .i64 n3, nI .i64 n4, nI .i64 n5]
theorem nz1 (n : Nat) : nz (n, 1) = (n, 1) := rfl
theorem bd1 {n : Nat} (h : n < 9223372036854775808) : Bd 63 (nz (n, 1)) := int_bd h (by omega)
def left28 (p1 p2 p3 : Nat × Nat) (n0 n2 n3 : Nat) : Nat × Nat := fAdd (fAdd (fMul (n2, 1) p1) (fMul (n3, 1) p2)) (fMul (n0 - n2 - n3, 1) p3)
theorem left_ct {k : Nat} (p0 p1 p2 p3 : Nat × Nat) (n0 n1 n2 n3 n4 n5 : Nat) (b1 : Bd k (nz p1)) (b2 : Bd k (nz p2)) (b3 : Bd k (nz p3)) (hk : k ≤ 100000) (m0 : n0 < 4611686018427387904) (m2 : n2 + n3 ≤ n0) :
    Ct P 130 [gS p0 p1 p2 p3, c7 n0 n1 n2 n3 n4 n5] [qP (left28 (nz p1) (nz p2) (nz p3) n0 n2 n3)] := by
  have i0 : Bd 63 (nz (n0 - n2 - n3, 1)) := bd1 (by omega)
  have i2 : Bd 63 (nz (n2, 1)) := bd1 (by omega)
  have i3 : Bd 63 (nz (n3, 1)) := bd1 (by omega)
  have f1 := fMul_bd i2 b1
  have f2 := fMul_bd i3 b2
  have f4 := fMul_bd i0 b3
  have g1 : Bd (63 + k) (nz (fMul (nz (n2, 1)) (nz p1))) := by rw [bd_fr f1]; exact f1
  have g2 : Bd (63 + k) (nz (fMul (nz (n3, 1)) (nz p2))) := by rw [bd_fr f2]; exact f2
  have g4 : Bd (63 + k) (nz (fMul (nz (n0 - n2 - n3, 1)) (nz p3))) := by rw [bd_fr f4]; exact f4
  have hr : Nat.gcd (nz (fMul (nz (n2, 1)) (nz p1))).1 (nz (fMul (nz (n2, 1)) (nz p1))).2 = 1 := by
    rw [bd_fr f1]; exact fR_red (Nat.mul_ne_zero i2.pos b1.pos)
  have hadd := hadd3_ct g1 g2 g4 hr (by omega) (by omega) (by omega)
  rw [bd_fr f1, bd_fr f2, bd_fr f4] at hadd
  refine Ct.go (Ty.own_ok [1000001] T_ok) T_mix (N := 42) Tryz.func130 rfl rfl rfl rfl ?_
  refine And.intro (by decide) (And.intro (by decide) ?_)
  refine X1 _ (wholeN_ct n2 (by omega)) ?_
  refine And.intro (by decide) (And.intro (by decide) ?_)
  refine X1 _ (hmul_ct i2 b1 (by omega) (by omega)) ?_
  refine And.intro rfl ?_
  refine And.intro (by decide) (And.intro (by decide) ?_)
  refine X1 _ (wholeN_ct n3 (by omega)) ?_
  refine And.intro (by decide) (And.intro (by decide) ?_)
  refine X1 _ (hmul_ct i3 b2 (by omega) (by omega)) ?_
  refine And.intro rfl ?_
  refine And.intro (by decide) (And.intro (by decide) ?_)
  refine X1 ((n0 - n2 : Nat) : Int) (wI (by omega) (by omega) (by omega)) ?_
  refine And.intro (by decide) (And.intro (by decide) ?_)
  refine X1 ((n0 - n2 - n3 : Nat) : Int) (wI (by omega) (by omega) (by omega)) ?_
  refine X1 _ (wholeN_ct (n0 - n2 - n3) (by omega)) ?_
  refine And.intro (by decide) (And.intro (by decide) ?_)
  refine X1 _ (hmul_ct i0 b3 (by omega) (by omega)) ?_
  refine X1 _ hadd ?_
  refine And.intro rfl ?_
  exact ⟨trivial, rc rfl, trivial⟩
theorem dgamma_ct {k : Nat} (p0 p1 p2 p3 : Nat × Nat) (n0 n1 n2 n3 n4 n5 : Nat) (b1 : Bd k (nz p1)) (b2 : Bd k (nz p2)) (b3 : Bd k (nz p3)) (hk : k ≤ 100000) (m0 : n0 < 4611686018427387904) (m1 : n1 ≤ 4611686018427387904) (m2 : n2 + n3 ≤ n0) :
    Ct P 86 [gS p0 p1 p2 p3, c7 n0 n1 n2 n3 n4 n5] [qP (gam28 (nz p1) (nz p2) (nz p3) n0 n1 n2 n3)] := by
  have i1 : Bd 63 (nz (n1, 1)) := bd1 (by omega)
  have f5 : Bd (63 + k + (63 + k) + 1 + (63 + k) + 1) (left28 (nz p1) (nz p2) (nz p3) n0 n2 n3) := fAdd_bd (fAdd_bd (fMul_bd (bd1 (n := n2) (by omega)) b1) (fMul_bd (bd1 (n := n3) (by omega)) b2)) (fMul_bd (bd1 (n := n0 - n2 - n3) (by omega)) b3)
  have g5 := f5
  rw [← bd_fr f5] at g5
  refine Ct.go (Ty.own_ok [1000001] T_ok) T_mix (N := 16) Tryz.func86 rfl rfl rfl rfl ?_
  refine dcase (fun h0 => ?_) (fun h0 => ?_)
  · rw [gam28, if_pos (by omega)]
    refine X1 _ (qint_ct 1 (by omega)) ?_
    exact ⟨trivial, rc rfl, trivial⟩
  · rw [gam28, if_neg (by omega)]
    refine X1 _ (left_ct p0 p1 p2 p3 n0 n1 n2 n3 n4 n5 b1 b2 b3 hk m0 m2) ?_
    refine X1 _ (wholeN_ct n1 (by omega)) ?_
    refine X1 _ (hby_ct g5 i1 (by show n1 ≠ 0; omega) (by omega) (by omega)) ?_
    refine And.intro rfl ?_
    rw [bd_fr f5]
    exact ⟨trivial, rc rfl, trivial⟩
theorem leVar {P : Program} {N : Nx} {E : Env} {O : Objs} {c : Code} {Q : PQ} {k : Nat} {cells cells' : List PC} (hk : O.get k = some (.var cells)) (hl : leL cells cells') (h : WI P N E (O.set k (.var cells')) c Q) : WI P N E O c Q :=
  WI.step (fun X K ok w a hs => by
    have hsub : ∀ t o, (O.set k (.var cells')).get t = some o → ∃ o', O.get t = some o' := fun t o h => by
      rw [Objs.get_set] at h
      split at h
      · rename_i e; subst e; exact ⟨_, hk⟩
      · exact ⟨o, h⟩
    refine ⟨K, ok, ⟨hs.size, hs.defers, hs.base, hs.rnd, hs.old, ⟨fun t o g => ?_, fun t t' o o' b L L' g1 g2 => ?_, fun t o b L g => ?_, hs.hp.lt, hs.hp.hlt, hs.hp.hok, fun t o b L g => ?_⟩, hs.env⟩,
      Nat.le_refl _, fun _ _ _ _ => rfl, fun _ h => h, fun _ h => .inl h, fun t o b L g1 g2 => by obtain ⟨o', g3⟩ := hsub t o g1; exact .inr ⟨t, o', L, g3, g2⟩, rfl, rfl, rfl, fun _ o h => ⟨o, h, SK.refl o⟩, fun _ _ => rfl, fun _ h => .inl h⟩
    · rw [Objs.get_set] at g
      split at g
      · rename_i e
        subst e
        cases g
        obtain ⟨b, cs, e, fr, a1, a2, a3, a4⟩ := hs.hp.obs k _ hk
        exact ⟨b, cs, e, fr, a1, a2, a3, leL.rel hl a4⟩
      · exact hs.hp.obs t o g
    · obtain ⟨p, q1⟩ := hsub t o g1
      obtain ⟨p', q2⟩ := hsub t' o' g2
      exact hs.hp.inj t t' p p' b L L' q1 q2
    · obtain ⟨p, q1⟩ := hsub t o g; exact hs.hp.apart t p b L q1
    · obtain ⟨p, q1⟩ := hsub t o g; exact hs.hp.how t p b L q1) h
theorem nil_le (sz : Nat) : leP (.sc (.slice none 0 0)) (.sl sz []) := .inr ⟨rfl, sz, rfl⟩
theorem ecaseN {m n : Nat} {X Y : Prop} (h1 : m = n → X) (h2 : m ≠ n → Y) : BM X Y (m == n) := bcase (fun h => h1 (by simpa using h)) (fun h => h2 (by simpa using h))
def cN (n2 n3 n4 n5 : Nat) : Nat → Nat
  | 1 => n2
  | 2 => n3
  | 3 => n4
  | 4 => n5
  | _ => 0
theorem of1_ct (n0 n1 n2 n3 n4 n5 k : Nat) (h1 : 1 ≤ k) (h2 : k ≤ 4) (m2 : n2 ≤ 1000000) (m3 : n3 ≤ 1000000) (m4 : n4 ≤ 1000000) (m5 : n5 ≤ 1000000) :
    Ct P 108 [.c (nI .i64 k), .c (.rd [nI .i64 n0, nI .i64 n1, nI .i64 0, nI .i64 n2, nI .i64 n3, nI .i64 n4, nI .i64 n5])] [qP (cN n2 n3 n4 n5 k, 1)] := by
  refine Ct.go T_ok T_mix (N := 9) Tryz.func108 rfl rfl rfl rfl ?_
  have hk : k = 1 ∨ k = 2 ∨ k = 3 ∨ k = 4 := by omega
  rcases hk with rfl | rfl | rfl | rfl
  · refine And.intro (by decide) (And.intro (by decide) ?_)
    exact X1 _ (wholeN_ct n2 (by omega)) ⟨trivial, rc rfl, trivial⟩
  · refine And.intro (by decide) (And.intro (by decide) ?_)
    exact X1 _ (wholeN_ct n3 (by omega)) ⟨trivial, rc rfl, trivial⟩
  · refine And.intro (by decide) (And.intro (by decide) ?_)
    exact X1 _ (wholeN_ct n4 (by omega)) ⟨trivial, rc rfl, trivial⟩
  · refine And.intro (by decide) (And.intro (by decide) ?_)
    exact X1 _ (wholeN_ct n5 (by omega)) ⟨trivial, rc rfl, trivial⟩
def roff (n2 n3 n4 n5 k : Nat) : Nat × Nat := if n2 = 0 ∨ cN n2 n3 n4 n5 k = 0 then (0, 0) else fSub (k, 1) (part28 k n2 n3 (cN n2 n3 n4 n5 (k + 1)) (cN n2 n3 n4 n5 k))
theorem part_bd {n2 n3 : Nat} (k a b : Nat) (hk : k + 1 < 2 ^ 63) (h2 : n2 ≠ 0) (hb : b ≠ 0) (m2 : n2 ≤ 1000000) (m3 : n3 ≤ 1000000) (ha : a ≤ 1000000) (hb' : b ≤ 1000000) : Bd 400 (part28 k n2 n3 a b) := by
  have j1 : Bd 63 (n2, 1) := int_bd (by omega) (by omega)
  have j2 : Bd 63 (n2 + 2 * n3, 1) := int_bd (by omega) (by omega)
  have y := fDiv_bd j1 j2 (by show n2 + 2 * n3 ≠ 0; omega)
  exact (fMul_bd (fMul_bd (int_bd (v := k + 1) (k := 63) hk (by omega)) y) (fDiv_bd (int_bd (v := a) (k := 63) (by omega) (by omega)) (int_bd (v := b) (k := 63) (by omega) (by omega)) hb)).le (by omega)
theorem cN_le {n2 n3 n4 n5 : Nat} (m2 : n2 ≤ 1000000) (m3 : n3 ≤ 1000000) (m4 : n4 ≤ 1000000) (m5 : n5 ≤ 1000000) (k : Nat) : cN n2 n3 n4 n5 k ≤ 1000000 := by
  unfold cN; split <;> omega
theorem roff_nz {n2 n3 n4 n5 : Nat} (m2 : n2 ≤ 1000000) (m3 : n3 ≤ 1000000) (m4 : n4 ≤ 1000000) (m5 : n5 ≤ 1000000) (k : Nat) (h1 : 1 ≤ k) (h3 : k ≤ 3) : nz (roff n2 n3 n4 n5 k) = off28 n2 n3 n4 n5 k := by
  have key : ∀ j, 1 ≤ j → j ≤ 3 → (n2 ≠ 0 ∧ cN n2 n3 n4 n5 j ≠ 0 → nz (fSub (j, 1) (part28 j n2 n3 (cN n2 n3 n4 n5 (j + 1)) (cN n2 n3 n4 n5 j))) = fSub (j, 1) (part28 j n2 n3 (cN n2 n3 n4 n5 (j + 1)) (cN n2 n3 n4 n5 j))) := fun j hj hj3 h =>
    bd_fr (fSub_bd (int_bd (v := j) (k := 63) (by omega) (by omega)) (part_bd j _ _ (by omega) h.1 h.2 m2 m3 (cN_le m2 m3 m4 m5 _) (cN_le m2 m3 m4 m5 _)))
  have h0 : nz (0, 0) = (0, 1) := rfl
  have hk := key k h1 h3
  unfold roff
  have hkk : k = 1 ∨ k = 2 ∨ k = 3 := by omega
  rcases hkk with rfl | rfl | rfl <;>
  · simp only [cN, off28, part28] at hk ⊢
    split
    · rename_i h
      rw [h0, if_neg (by omega)]
    · rename_i h
      rw [hk (by omega), if_pos (by omega)]
def curR (n2 n3 n4 n5 j k : Nat) : Nat × Nat := if j < k then roff n2 n3 n4 n5 j else (0, 0)
def ofR (n2 n3 n4 n5 k : Nat) : List PC := [nSl .u64 [], nSl .u64 [], nSl .u64 (dg 18446744073709551616 (curR n2 n3 n4 n5 1 k).1), nSl .u64 (dg 18446744073709551616 (curR n2 n3 n4 n5 1 k).2), nSl .u64 (dg 18446744073709551616 (curR n2 n3 n4 n5 2 k).1), nSl .u64 (dg 18446744073709551616 (curR n2 n3 n4 n5 2 k).2), nSl .u64 (dg 18446744073709551616 (curR n2 n3 n4 n5 3 k).1), nSl .u64 (dg 18446744073709551616 (curR n2 n3 n4 n5 3 k).2)]
theorem add122 (a b : Nat) (h : a + 2 * b < 4611686018427387904) : fAdd (fAdd (nz (a, 1)) (nz (b, 1))) (nz (b, 1)) = (a + 2 * b, 1) := by
  have e : ∀ x y, fAdd (x, 1) (y, 1) = (x + y, 1) := fun x y => by
    unfold fAdd
    simp only [Nat.mul_one]
    exact fR_of (Nat.gcd_one_right _)
  rw [nz1, nz1, e, e]
  congr 1
  omega
theorem dof_ct (n0 n1 n2 n3 n4 n5 : Nat) (m2 : n2 ≤ 1000000) (m3 : n3 ≤ 1000000) (m4 : n4 ≤ 1000000) (m5 : n5 ≤ 1000000) : Ct P 64 [c7 n0 n1 n2 n3 n4 n5] [gS (0, 0) (roff n2 n3 n4 n5 1) (roff n2 n3 n4 n5 2) (roff n2 n3 n4 n5 3)] := by
  have hcN := cN_le m2 m3 m4 m5
  refine Ct.go (Ty.own_ok [1000001] T_ok) T_mix (N := 54) Tryz.func64 rfl rfl rfl rfl ?_
  refine X1 [.ad 1 0] rfl ?_
  refine X2 .frz ?_
  refine X1 _ (of1_ct n0 n1 n2 n3 n4 n5 1 (by omega) (by omega) m2 m3 m4 m5) ?_
  refine X1 _ (qzero_ct n2 1 (Nat.le_trans (dg_len (k := 1) (by omega) (by omega)) (by omega))) ?_
  refine ecaseN (fun h0 => ?_) (fun h0 => ?_)
  · have hr : ∀ k, roff n2 n3 n4 n5 k = (0, 0) := fun k => by unfold roff; rw [if_pos (.inl h0)]
    have hd : dg 18446744073709551616 0 = [] := dg_zero _
    have hg : gS (0, 0) (0, 0) (0, 0) (0, 0) = .ag [nSl .u64 [], nSl .u64 [], nSl .u64 [], nSl .u64 [], nSl .u64 [], nSl .u64 [], nSl .u64 [], nSl .u64 []] := by simp only [gS, hd]
    rw [hr, hr, hr, hg]
    refine ⟨trivial, ⟨_, rfl, ?_⟩, trivial⟩
    exact ⟨nil_le 1, nil_le 1, nil_le 1, nil_le 1, nil_le 1, nil_le 1, nil_le 1, nil_le 1, trivial⟩
  · refine X1 _ (of1_ct n0 n1 n2 n3 n4 n5 1 (by omega) (by omega) m2 m3 m4 m5) ?_
    refine X1 _ (of1_ct n0 n1 n2 n3 n4 n5 1 (by omega) (by omega) m2 m3 m4 m5) ?_
    refine X1 _ (of1_ct n0 n1 n2 n3 n4 n5 2 (by omega) (by omega) m2 m3 m4 m5) ?_
    refine X1 _ (of1_ct n0 n1 n2 n3 n4 n5 2 (by omega) (by omega) m2 m3 m4 m5) ?_
    refine X2 .frz ?_
    have hadd := hadd3_ct (bd1 (n := n2) (by omega)) (bd1 (n := n3) (by omega)) (bd1 (n := n3) (by omega)) (Nat.gcd_one_right _) (by omega) (by omega) (by omega)
    rw [add122 n2 n3 (by omega)] at hadd
    refine X1 _ hadd ?_
    have j1 : Bd 63 (nz (n2, 1)) := bd1 (by omega)
    have j2 : Bd 63 (nz (n2 + 2 * n3, 1)) := bd1 (by omega)
    refine X1 _ (hby_ct j1 j2 (by show n2 + 2 * n3 ≠ 0; omega) (by omega) (by omega)) ?_
    have y := fDiv_bd j1 j2 (by show n2 + 2 * n3 ≠ 0; omega)
    refine leVar (k := 3) (cells' := ofR n2 n3 n4 n5 1) rfl ?_ ?_
    · have hd : dg 18446744073709551616 0 = [] := dg_zero _
      have e : ∀ j, 1 ≤ j → curR n2 n3 n4 n5 j 1 = (0, 0) := fun j hj => if_neg (by omega)
      have hg : ofR n2 n3 n4 n5 1 = [nSl .u64 [], nSl .u64 [], nSl .u64 [], nSl .u64 [], nSl .u64 [], nSl .u64 [], nSl .u64 [], nSl .u64 []] := by
        unfold ofR
        rw [e 1 (by omega), e 2 (by omega), e 3 (by omega)]
        simp only [hd]
      rw [hg]
      exact ⟨nil_le 1, nil_le 1, nil_le 1, nil_le 1, nil_le 1, nil_le 1, nil_le 1, nil_le 1, trivial⟩
    refine loopJ (Ty.own_ok [1000001] T_ok) T_mix (fun k : Nat => 1 ≤ k ∧ k ≤ 4) (fun k => [(2, .c (.ad 2 0)), (3, .c (.ad 3 0)), (4, .c (.fn 108 [.rd [nI .i64 n0, nI .i64 n1, nI .i64 0, nI .i64 n2, nI .i64 n3, nI .i64 n4, nI .i64 n5]])), (5, .c (.ad 5 0)), (6, .c (nI .i64 k))])
      (fun k => [(2, .var (List.replicate 8 (.sc (.slice none 0 0)))), (3, .var (ofR n2 n3 n4 n5 k)), (5, .var [nSl .u64 (dg 18446744073709551616 (fDiv (nz (n2, 1)) (nz (n2 + 2 * n3, 1))).1), nSl .u64 (dg 18446744073709551616 (fDiv (nz (n2, 1)) (nz (n2 + 2 * n3, 1))).2)])]) (fun k => 4 - k)
      1 ⟨by omega, by omega⟩ ⟨rfl, rfl, rfl, rfl, rfl, trivial⟩ ⟨rfl, rfl, rfl, trivial⟩ (fun _ : Unit => True) (fun _ => [(2, .c (.ad 2 0)), (3, .c (.ad 3 0))]) (fun _ => [(2, .var (List.replicate 8 (.sc (.slice none 0 0)))), (3, .var (ofR n2 n3 n4 n5 4))]) (fun k hi => ?_) (fun _ _ => ?_)
    · obtain ⟨i1, i2⟩ := hi
      refine dcase (fun h1 => ?_) (fun h1 => ?_)
      · refine X1 _ (of1_ct n0 n1 n2 n3 n4 n5 k (by omega) (by omega) m2 m3 m4 m5) ?_
        have c1 := hcN k
        have c2 := hcN (k + 1)
        refine X1 _ (qzero_ct (cN n2 n3 n4 n5 k) 1 (Nat.le_trans (dg_len (k := 1) (by omega) (by omega)) (by omega))) ?_
        refine ecaseN (fun h2 => ?_) (fun h2 => ?_)
        · have hr : roff n2 n3 n4 n5 k = (0, 0) := by unfold roff; rw [if_pos (.inr h2)]
          refine X1 ((k + 1 : Nat) : Int) (wI (by simp) (by omega) (by omega)) ?_
          refine ⟨k + 1, ⟨by omega, by omega⟩, by show 4 - (k + 1) < 4 - k; omega, ⟨rfl, rfl, rfl, rfl, rfl, trivial⟩, ⟨rfl, ?_, rfl, trivial⟩⟩
          have hk : k = 1 ∨ k = 2 ∨ k = 3 := by omega
          rcases hk with rfl | rfl | rfl <;> (unfold ofR curR; simp only [hr]; rfl)
        · have hr : roff n2 n3 n4 n5 k = fSub (k, 1) (part28 k n2 n3 (cN n2 n3 n4 n5 (k + 1)) (cN n2 n3 n4 n5 k)) := by unfold roff; rw [if_neg (by omega)]
          have pb := part_bd k (cN n2 n3 n4 n5 (k + 1)) (cN n2 n3 n4 n5 k) (by omega) h0 h2 m2 m3 c2 c1
          have hk1 : Bd 63 (nz (k + 1, 1)) := bd1 (by omega)
          have hyz : nz (fDiv (nz (n2, 1)) (nz (n2 + 2 * n3, 1))) = fDiv (nz (n2, 1)) (nz (n2 + 2 * n3, 1)) := bd_fr y
          have y' := y
          rw [← hyz] at y'
          have ha : Bd 63 (nz (cN n2 n3 n4 n5 (k + 1), 1)) := bd1 (by omega)
          have hb : Bd 63 (nz (cN n2 n3 n4 n5 k, 1)) := bd1 (by omega)
          have q1 := fMul_bd hk1 y'
          have q1' := q1
          rw [← bd_fr q1] at q1'
          have q2 := fDiv_bd ha hb h2
          have q2' := q2
          rw [← bd_fr q2] at q2'
          have hpe : fMul (nz (fMul (nz (k + 1, 1)) (nz (fDiv (nz (n2, 1)) (nz (n2 + 2 * n3, 1)))))) (nz (fDiv (nz (cN n2 n3 n4 n5 (k + 1), 1)) (nz (cN n2 n3 n4 n5 k, 1)))) = part28 k n2 n3 (cN n2 n3 n4 n5 (k + 1)) (cN n2 n3 n4 n5 k) := by
            rw [bd_fr q1, bd_fr q2, hyz]; rfl
          refine X1 ((k + 1 : Nat) : Int) (wI (by simp) (by omega) (by omega)) ?_
          refine X1 _ (wholeN_ct (k + 1) (by omega)) ?_
          refine X1 _ (hmul_ct hk1 y' (by omega) (by omega)) ?_
          refine X1 ((k + 1 : Nat) : Int) (wI (by simp) (by omega) (by omega)) ?_
          refine X1 _ (of1_ct n0 n1 n2 n3 n4 n5 (k + 1) (by omega) (by omega) m2 m3 m4 m5) ?_
          refine X1 _ (of1_ct n0 n1 n2 n3 n4 n5 k (by omega) (by omega) m2 m3 m4 m5) ?_
          refine X1 _ (hby_ct ha hb h2 (by omega) (by omega)) ?_
          refine X1 _ (hmul_ct q1' q2' (by omega) (by omega)) ?_
          refine And.intro rfl ?_
          rw [hpe]
          refine X1 _ (wholeN_ct k (by omega)) ?_
          have pb' := pb
          rw [← bd_fr pb] at pb'
          refine X1 _ (hsub_ct (bd1 (n := k) (by omega)) pb' (by omega) (by omega)) ?_
          rw [bd_fr pb, nz1 k, ← hr]
          have hk : k = 1 ∨ k = 2 ∨ k = 3 := by omega
          rcases hk with rfl | rfl | rfl
          · refine And.intro (by decide) (And.intro (by decide) ?_)
            refine And.intro rfl ?_
            refine X1 ((2 : Nat) : Int) (wI (by simp) (by omega) (by omega)) ?_
            exact ⟨2, ⟨by omega, by omega⟩, by decide, ⟨rfl, rfl, rfl, rfl, rfl, trivial⟩, ⟨rfl, rfl, rfl, trivial⟩⟩
          · refine And.intro (by decide) (And.intro (by decide) ?_)
            refine And.intro rfl ?_
            refine X1 ((3 : Nat) : Int) (wI (by simp) (by omega) (by omega)) ?_
            exact ⟨3, ⟨by omega, by omega⟩, by decide, ⟨rfl, rfl, rfl, rfl, rfl, trivial⟩, ⟨rfl, rfl, rfl, trivial⟩⟩
          · refine And.intro (by decide) (And.intro (by decide) ?_)
            refine And.intro rfl ?_
            refine X1 ((4 : Nat) : Int) (wI (by simp) (by omega) (by omega)) ?_
            exact ⟨4, ⟨by omega, by omega⟩, by decide, ⟨rfl, rfl, rfl, rfl, rfl, trivial⟩, ⟨rfl, rfl, rfl, trivial⟩⟩
      · have e : k = 4 := by omega
        subst e
        exact ⟨(), trivial, ⟨rfl, rfl, trivial⟩, ⟨rfl, rfl, trivial⟩⟩
    · have hd : dg 18446744073709551616 0 = [] := dg_zero _
      have e : ∀ j, j < 4 → curR n2 n3 n4 n5 j 4 = roff n2 n3 n4 n5 j := fun j hj => if_pos hj
      have hg : gS (0, 0) (roff n2 n3 n4 n5 1) (roff n2 n3 n4 n5 2) (roff n2 n3 n4 n5 3) = .ag (ofR n2 n3 n4 n5 4) := by
        unfold ofR
        rw [e 1 (by omega), e 2 (by omega), e 3 (by omega)]
        simp only [gS, hd]
      rw [hg]
      exact ⟨trivial, rc rfl, trivial⟩
def badW (words w : Int) : Bool := decide (w < 0) || decide (w ≥ words)
def gW (words : Int) (g : List Int) : Int := if g.any (badW words) = true then 8 else if idx 1 (g.drop 1) ≥ 0 then 10 else 0
def kwL (words : Int) : List Cnt → Int
  | [] => 0
  | x :: l => if gW words x.1 ≠ 0 then gW words x.1 else kwL words l
def kwLL (words : Int) : List (List Cnt) → Int
  | [] => 0
  | l :: ls => if kwL words l ≠ 0 then kwL words l else kwLL words ls
theorem kwL_of {words : Int} {l : List Cnt} {i : Nat} (h : i < l.length) {v : Int} (hv : gW words l[i].1 = v) (h0 : v ≠ 0) : kwL words (l.drop i) = v := by
  rw [List.drop_eq_getElem_cons h, kwL, hv, if_pos h0]
theorem kwL_next {words : Int} {l : List Cnt} {i : Nat} (h : i < l.length) (hv : gW words l[i].1 = 0) : kwL words (l.drop i) = kwL words (l.drop (i + 1)) := by
  rw [List.drop_eq_getElem_cons h, kwL, hv, if_neg (by simp)]
theorem kwLL_of {words : Int} {L : List (List Cnt)} {n : Nat} (h : n < L.length) {v : Int} (hv : kwL words L[n] = v) (h0 : v ≠ 0) : kwLL words (L.drop n) = v := by
  rw [List.drop_eq_getElem_cons h, kwLL, hv, if_pos h0]
theorem kwLL_next {words : Int} {L : List (List Cnt)} {n : Nat} (h : n < L.length) (hv : kwL words L[n] = 0) : kwLL words (L.drop n) = kwLL words (L.drop (n + 1)) := by
  rw [List.drop_eq_getElem_cons h, kwLL, hv, if_neg (by simp)]
theorem kcheck_ct (L : List (List Cnt)) (words : Int) (hL : CCForm L) : Ct P 63 [.c (ccSl L), .c (eI .i64 words)] [.c (eI .i64 (kwLL words L))] := by
  have hll := hL.lim.len
  refine Ct.go T_ok T_mix (N := 44) Tryz.func63 rfl rfl rfl rfl ?_
  refine And.intro (by rw [ccRow_len]; omega) ?_
  rw [ccRow_len]
  refine loopJ T_ok T_mix (fun n : Nat => n ≤ L.length ∧ kwLL words L = kwLL words (L.drop n)) (fun n => [(1, .c (eI .i64 words)), (11, .c (ccSl L)), (12, .c (nI .i64 L.length)), (13, .c (nI .i64 n))]) (fun _ => []) (fun n => L.length - n)
    0 ⟨by omega, rfl⟩ ⟨rfl, rfl, rfl, rfl, trivial⟩ trivial (fun _ : Unit => kwLL words L = 0) (fun _ => []) (fun _ => []) (fun n hi => ?_) (fun _ he => ?_)
  · obtain ⟨h2, h3⟩ := hi
    refine dcase (fun h4 => ?_) (fun h4 => ?_)
    · have hn : n < L.length := by omega
      have hl := hL.lim.at' hn
      have hlen := hl.len
      have hform := hL.form n hn
      have hget := ccRow_get (l := L) (i := (n : Int)) (n := n) rfl hn
      have hof := fun v => kwLL_of (words := words) (n := n) (L := L) hn (v := v)
      have hnext := kwLL_next (words := words) (n := n) (L := L) hn
      generalize L[n] = l at *
      refine And.intro (by omega) (X1 _ hget ?_)
      refine And.intro (by rw [cRow_len]; omega) ?_
      rw [cRow_len]
      refine loopB T_ok T_mix (fun i : Nat => i ≤ l.length ∧ kwL words l = kwL words (l.drop i)) (fun i => [(1, .c (eI .i64 words)), (11, .c (ccSl L)), (12, .c (nI .i64 L.length)), (13, .c (nI .i64 n)), (17, .c (cSl l)), (18, .c (nI .i64 l.length)), (19, .c (nI .i64 i))]) (fun _ => []) (fun i => l.length - i)
        0 ⟨by omega, rfl⟩ ⟨rfl, rfl, rfl, rfl, rfl, rfl, rfl, trivial⟩ trivial (fun i hi => ?_)
      obtain ⟨i1, i2⟩ := hi
      refine dcase (fun h5 => ?_) (fun h5 => ?_)
      · have hi : i < l.length := by omega
        have hxl := hl.at' hi
        have hxf := hform i hi
        have hx := cRow_get (l := l) (i := (i : Int)) (n := i) rfl hi
        have kof := fun v => kwL_of (words := words) hi (v := v)
        have knext := kwL_next (words := words) hi
        generalize l[i] = x at *
        refine And.intro (by omega) (X1 _ hx ?_)
        refine And.intro (by rw [iRow_len]; omega) ?_
        rw [iRow_len]
        refine loopJ T_ok T_mix (fun j : Nat => j ≤ x.1.length ∧ ∀ q : Nat, q < j → badW words (x.1.getD q 0) = false) (fun j => [(1, .c (eI .i64 words)), (8, .c (.ad 8 0)), (11, .c (ccSl L)), (12, .c (nI .i64 L.length)), (13, .c (nI .i64 n)), (17, .c (cSl l)), (18, .c (nI .i64 l.length)), (19, .c (nI .i64 i)), (24, .c (iSl x.1)), (25, .c (nI .i64 x.1.length)), (26, .c (nI .i64 j))])
          (fun _ => [(8, .var [iSl x.1, eI .i64 x.2])]) (fun j => x.1.length - j) 0 ⟨by omega, fun q hq => by omega⟩ ⟨rfl, rfl, rfl, rfl, rfl, rfl, rfl, rfl, rfl, rfl, rfl, trivial⟩ ⟨rfl, trivial⟩
          (fun _ : Unit => x.1.any (badW words) = false) (fun _ => [(1, .c (eI .i64 words)), (8, .c (.ad 8 0)), (11, .c (ccSl L)), (12, .c (nI .i64 L.length)), (13, .c (nI .i64 n)), (17, .c (cSl l)), (18, .c (nI .i64 l.length)), (19, .c (nI .i64 i))])
          (fun _ => [(8, .var [iSl x.1, eI .i64 x.2])]) (fun j hj => ?_) (fun _ hany => ?_)
        · obtain ⟨j1, j2⟩ := hj
          refine dcase (fun h6 => ?_) (fun h6 => ?_)
          · have hj : j < x.1.length := by omega
            refine And.intro (by omega) (X1 _ (iRow_getN rfl hj) ?_)
            have r8 : badW words (x.1.getD j 0) = true → kwLL words L = 8 := fun hb => by
              have : gW words x.1 = 8 := by
                unfold gW
                rw [if_pos]
                rw [List.any_eq_true]
                exact ⟨x.1.getD j 0, by simp [List.getD_eq_getElem?_getD, hj], hb⟩
              rw [h3, hof 8 (by rw [i2, kof 8 this (by decide)]) (by decide)]
            refine dcase (fun h7 => ?_) (fun h7 => ?_)
            · exact ⟨trivial, r1 (iE (by rw [r8 (by unfold badW; rw [decide_eq_true h7]; rfl)])), trivial⟩
            · refine dcase (fun h8 => ?_) (fun h8 => ?_)
              · exact ⟨trivial, r1 (iE (by rw [r8 (by unfold badW; rw [decide_eq_true h8, Bool.or_true])])), trivial⟩
              · refine X1 ((j + 1 : Nat) : Int) (wI (by simp) (by omega) (by omega)) ?_
                refine ⟨j + 1, ⟨by omega, fun q hq => ?_⟩, by omega, ⟨rfl, rfl, rfl, rfl, rfl, rfl, rfl, rfl, rfl, rfl, rfl, trivial⟩, ⟨rfl, trivial⟩⟩
                by_cases e : q = j
                · subst e; unfold badW; rw [decide_eq_false h7, decide_eq_false h8]; rfl
                · exact j2 q (by omega)
          · refine ⟨(), ?_, ⟨rfl, rfl, rfl, rfl, rfl, rfl, rfl, rfl, trivial⟩, ⟨rfl, trivial⟩⟩
            rw [List.any_eq_false]
            intro w hw
            obtain ⟨q, hq, rfl⟩ := List.getElem_of_mem hw
            have := j2 q (by omega)
            rw [List.getD_eq_getElem?_getD, List.getElem?_eq_getElem hq] at this
            simpa using this
        · refine ⟨1, x.1.length, by simp, by simp [iRow_len], by omega, by rw [iRow_len]; omega, ?_⟩
          rw [iRow_sub, List.take_of_length_le (show (x.1.drop 1).length ≤ x.1.length - 1 by rw [List.length_drop]; exact Nat.le_refl _)]
          refine X1 _ (contains_ct (x.1.drop 1) 1 (by rw [List.length_drop]; omega)) ?_
          refine dcase (fun h7 => ?_) (fun h7 => ?_)
          · have : gW words x.1 = 10 := by unfold gW; rw [if_neg (by rw [hany]; simp), if_pos h7]
            exact ⟨trivial, r1 (iE (by rw [h3, hof 10 (by rw [i2, kof 10 this (by decide)]) (by decide)])), trivial⟩
          · have : gW words x.1 = 0 := by unfold gW; rw [if_neg (by rw [hany]; simp), if_neg h7]
            refine X1 ((i + 1 : Nat) : Int) (wI1 (by omega)) ?_
            exact ⟨i + 1, ⟨by omega, by rw [i2, knext this]⟩, by omega, ⟨rfl, rfl, rfl, rfl, rfl, rfl, rfl, trivial⟩, trivial⟩
      · have e : i = l.length := by omega
        subst e
        rw [List.drop_length, kwL] at i2
        refine X1 ((n + 1 : Nat) : Int) (wI (by simp) (by omega) (by omega)) ?_
        exact ⟨n + 1, ⟨by omega, by rw [h3, hnext i2]⟩, by omega, ⟨rfl, rfl, rfl, rfl, trivial⟩, trivial⟩
    · have e : n = L.length := by omega
      subst e
      rw [List.drop_length] at h3
      exact ⟨(), h3, trivial, trivial⟩
  · rw [he]
    exact ⟨trivial, r1 rfl, trivial⟩
def wrong29 (L : List (List Cnt)) (words : Int) : Int := if wrong L ≠ 0 then wrong L else if words < 3 ∨ words > 65536 then 1 else kwLL words L
def numN (l : List Cnt) (k : Int) : Nat := (l.filter fun x => liveC x && decide (x.2 = k)).length
def tysN (l : List Cnt) : Nat := (l.filter liveC).length
def totN (l : List Cnt) : Nat := (tot l).toNat
theorem totN_eq (l : List Cnt) : tot l = (totN l : Int) := by have := tot_nonneg l; unfold totN; omega
theorem cen7_c7 (l : List Cnt) : A1.ag (cen7 l) = c7 (tysN l) (totN l) (numN l 1) (numN l 2) (numN l 3) (numN l 4) := by
  unfold cen7; rw [totN_eq]; rfl
theorem cen_c6 (l : List Cnt) : A1.ag (cen l) = c6 (tysN l) (totN l) (numN l 1) (numN l 2) (numN l 3) (numN l 4) := by
  unfold cen; rw [totN_eq]; rfl
theorem numN_le (l : List Cnt) (k : Int) : numN l k ≤ l.length := List.length_filter_le _ _
abbrev gSet (l : List Cnt) : A1 := gS (0, 0) (roff (numN l 1) (numN l 2) (numN l 3) (numN l 4) 1) (roff (numN l 1) (numN l 2) (numN l 3) (numN l 4) 2) (roff (numN l 1) (numN l 2) (numN l 3) (numN l 4) 3)
abbrev rSet (l : List Cnt) : A1 := dS (0, 1) (off28 (numN l 1) (numN l 2) (numN l 3) (numN l 4) 1) (off28 (numN l 1) (numN l 2) (numN l 3) (numN l 4) 2) (off28 (numN l 1) (numN l 2) (numN l 3) (numN l 4) 3)
def gRows (ls : List (List Cnt)) : List (List PC) := ls.map fun l => (gSet l).cells
def rRows (ls : List (List Cnt)) : List (List PC) := ls.map fun l => (rSet l).cells
theorem gRows_len {ls : List (List Cnt)} : (gRows ls).length = ls.length := by simp [gRows]
theorem rRows_len {ls : List (List Cnt)} : (rRows ls).length = ls.length := by simp [rRows]
theorem gRows_closed {ls : List (List Cnt)} : closedLL (gRows ls) := by
  intro el h
  obtain ⟨x, _, rfl⟩ := List.mem_map.1 h
  rfl
theorem rRows_closed {ls : List (List Cnt)} : closedLL (rRows ls) := by
  intro el h
  obtain ⟨x, _, rfl⟩ := List.mem_map.1 h
  rfl
theorem gRows_get {ls : List (List Cnt)} {i : Int} {n : Nat} (h0 : i = n) (h : n < ls.length) : (gRows ls)[i.toNat]? = some (gSet ls[n]).cells := by
  subst h0; simp [gRows, h]
theorem gset_ct (l : List Cnt) (hl : CLim l) : Ct P 64 [.ag (cen7 l)] [gSet l] := by
  rw [cen7_c7]
  have := hl.len
  exact dof_ct _ _ _ _ _ _ (Nat.le_trans (numN_le l 1) this) (Nat.le_trans (numN_le l 2) this) (Nat.le_trans (numN_le l 3) this) (Nat.le_trans (numN_le l 4) this)
theorem rset_ct (l : List Cnt) (hl : CLim l) : Ct P 30 [.ag (cen l)] [rSet l] := by
  rw [cen_c6]
  have := hl.len
  exact of28_ct _ _ _ _ _ _ (Nat.le_trans (numN_le l 1) this) (Nat.le_trans (numN_le l 2) this) (Nat.le_trans (numN_le l 3) this) (Nat.le_trans (numN_le l 4) this)
theorem cnt1_g (L : List (List Cnt)) (n : Nat) (x : Cnt) : (cnt1 L n x).1 = x.1 := by unfold cnt1; split <;> rfl
theorem counts_mem {L : List (List Cnt)} {l : List Cnt} (h : l ∈ counts L) : ∃ (n : Nat) (hn : n < L.length), l = L[n].map (cnt1 L n) := by
  obtain ⟨n, hn, rfl⟩ := List.getElem_of_mem h
  rw [counts_len] at hn
  exact ⟨n, hn, counts_at hn⟩
theorem counts_lim {L : List (List Cnt)} (h : CCLim L) : CCLim (counts L) :=
  ⟨by rw [counts_len]; exact h.len, fun l hl => by
    obtain ⟨n, hn, rfl⟩ := counts_mem hl
    refine ⟨by rw [List.length_map]; exact (h.at' hn).len, fun x hx => ?_⟩
    obtain ⟨y, hy, rfl⟩ := List.mem_map.1 hx
    rw [cnt1_g]
    exact (h.at' hn).g y hy⟩
theorem counts_rises {L : List (List Cnt)} (h : CCOk L) {l : List Cnt} (hl : l ∈ counts L) : Rises l := by
  obtain ⟨n, hn, rfl⟩ := counts_mem hl
  refine List.pairwise_map.2 ((h.rises n hn).imp fun {a b} hab => ?_)
  rw [cnt1_g, cnt1_g]; exact hab
structure CCSum (L : List (List Cnt)) : Prop where
  lim : CCLim L
  tot : ∀ l, l ∈ counts L → tot l ≤ 4611686018427387904
abbrev xO (L : List (List Cnt)) (words : Int) (m : Nat) : Ob := .var [ccSl (counts L), .sl 8 (gRows (counts L)), eI .i64 words, .mp m]
theorem wrong29_ok {L : List (List Cnt)} {words : Int} (h : wrong29 L words = 0) : CCOk L ∧ 3 ≤ words ∧ words ≤ 65536 ∧ kwLL words L = 0 := by
  unfold wrong29 at h
  by_cases h1 : wrong L = 0
  · rw [if_neg (by omega)] at h
    by_cases h2 : words < 3 ∨ words > 65536
    · rw [if_pos h2] at h; omega
    · rw [if_neg h2] at h
      exact ⟨wrong_ok h1, by omega, by omega, h⟩
  · rw [if_pos h1] at h; exact absurd h h1
theorem new_ok (L : List (List Cnt)) (words : Int) (hL : CCSum L) (h : wrong29 L words = 0) :
    CtO P 27 [] [.c (ccSl L), .c (eI .i64 words)] [(36, some (xO L words 34)), (34, some (.mp false [] []))] [.c (.ad 36 0), .c (eI .i64 0)] := by
  obtain ⟨hok, w1, w2, hkw⟩ := wrong29_ok h
  have h1 : wrong L = 0 := by
    unfold wrong29 at h
    by_cases h1 : wrong L = 0
    · exact h1
    · rw [if_pos h1] at h; exact h
  have hcl := counts_lim hL.lim
  have hlen := counts_len L
  have h8 := hok.len8
  refine Ct.keep (Ty.own_ok [1000001, 1000002] T_ok) T_mix [60] (N := 57) Tryz.func27 rfl rfl rfl rfl ?_
  refine X1 _ (acounts_ok L hL.lim h1) ?_
  refine dcase (fun h3 => absurd h3 (by omega)) (fun _ => ?_)
  refine dcase (fun h3 => absurd h3 (by omega)) (fun _ => ?_)
  refine X1 _ (kcheck_ct L words (hok.ccform hL.lim)) ?_
  rw [hkw]
  refine And.intro (by rw [ccRow_len, hlen]; omega) ?_
  rw [ccRow_len]
  refine nilVar (r := 60) (k := 36) (i := 1) (sz := 8) rfl rfl rfl ?_
  refine loopJ (Ty.own_ok [1000001, 1000002] T_ok) T_mix (fun n : Nat => n ≤ (counts L).length) (fun n => [(9, .c (.ad 36 0)), (37, .c (ccSl (counts L))), (38, .c (nI .i64 (counts L).length)), (39, .c (nI .i64 n))])
    (fun n => [(36, .var [ccSl (counts L), .ow 60 8 n, eI .i64 words, .mp 34]), (60, .row 8 (gRows ((counts L).take n))), (34, .mp false [] [])]) (fun n => (counts L).length - n)
    0 (by omega) ⟨rfl, rfl, rfl, rfl, trivial⟩ ⟨rfl, rfl, rfl, trivial⟩ (fun _ : Unit => True) (fun _ => [(9, .c (.ad 36 0))]) (fun _ => [(36, .var [ccSl (counts L), .ow 60 8 (counts L).length, eI .i64 words, .mp 34]), (60, .row 8 (gRows (counts L))), (34, .mp false [] [])]) (fun n hn => ?_) (fun _ _ => ?_)
  · refine dcase (fun h5 => ?_) (fun h5 => ?_)
    · have hn' : n < (counts L).length := by omega
      have hx := ccRow_get (l := counts L) (i := (n : Int)) (n := n) rfl hn'
      have hln := hcl.at' hn'
      have htn := hL.tot _ (List.getElem_mem hn')
      have hs : (counts L).take (n + 1) = (counts L).take n ++ [(counts L)[n]] := List.take_succ_eq_append_getElem hn'
      have htl : ((counts L).take n).length = n := by rw [List.length_take]; omega
      generalize (counts L)[n] = l at *
      refine And.intro (by omega) (X1 _ hx ?_)
      refine X1 _ (of24_ct l hln htn) ?_
      refine X1 _ (gset_ct l hln) ?_
      refine ⟨by rw [gRows_len, htl], by rw [gRows_len, htl]; show (n + 1 + 768) * 192 ≤ _; omega, by rw [gRows_len, htl]; show n + 1 ≤ _; omega, gRows_closed, one_closed rfl, ?_⟩
      refine And.intro rfl ?_
      refine X1 ((n + 1 : Nat) : Int) (wI (by simp) (by omega) (by omega)) ?_
      have hgl : (gRows ((counts L).take n) ++ List.map A1.cells [gSet l]).length = n + 1 := by rw [List.length_append, gRows_len, htl]; rfl
      exact ⟨n + 1, by omega, by omega, ⟨rfl, rfl, rfl, rfl, trivial⟩, ⟨congrArg (fun k => some (Ob.var [ccSl (counts L), .ow 60 8 k, eI .i64 words, .mp 34])) hgl, rowE (by rw [hs]; unfold gRows; rw [List.map_append]; rfl), rfl, trivial⟩⟩
    · have e : n = (counts L).length := by omega
      subst e
      rw [List.take_length]
      exact ⟨(), trivial, ⟨rfl, trivial⟩, ⟨rfl, rfl, rfl, trivial⟩⟩
  · exact ⟨trivial, SubO.of (l := [(36, xO L words 34), (34, .mp false [] [])]) ⟨rfl, rfl, trivial⟩, r1 rfl, r1 rfl, trivial⟩
abbrev mV (L : List (List Cnt)) (words : Int) (dr : List (List PC)) : A1 := .ag [ccSl L, eI .i64 words, .sl 8 dr]
def num29 (L : List (List Cnt)) (g : List Int) : Int :=
  if g.length < 1 ∨ g.length > L.length then 0 else if fidx g (L.getD (g.length - 1) []) < 0 then 0 else ((L.getD (g.length - 1) []).getD (fidx g (L.getD (g.length - 1) [])).toNat ([], 0)).2
theorem fidx_lt (g : List Int) (l : List Cnt) : -1 ≤ fidx g l ∧ fidx g l < l.length := by
  induction l with
  | nil => simp [fidx]
  | cons y l ih =>
    simp only [fidx, List.length_cons]
    split
    · omega
    · split <;> omega
theorem number29_ct (L : List (List Cnt)) (words : Int) (dr : List (List PC)) (g : List Int) (hL : CCLim L) (hg : g.length ≤ 1000000) : Ct P 23 [mV L words dr, .c (iSl g)] [.c (eI .i64 (num29 L g))] := by
  have hll := hL.len
  refine Ct.go T_ok T_mix (N := 39) Tryz.func23 rfl rfl rfl rfl ?_
  refine And.intro (by rw [iRow_len]; omega) ?_
  rw [iRow_len]
  refine dcase (fun h0 => ?_) (fun h0 => ?_)
  · exact ⟨trivial, r1 (iE (by rw [num29, if_pos (.inl (by omega))])), trivial⟩
  refine And.intro (by rw [iRow_len]; omega) ?_
  refine And.intro (by rw [ccRow_len]; omega) ?_
  rw [iRow_len, ccRow_len]
  refine dcase (fun h1 => ?_) (fun h1 => ?_)
  · exact ⟨trivial, r1 (iE (by rw [num29, if_pos (.inr (by omega))])), trivial⟩
  have hn : g.length - 1 < L.length := by omega
  have hgd : L.getD (g.length - 1) [] = L[g.length - 1] := by simp [List.getD_eq_getElem?_getD, hn]
  have hnum : num29 L g = if fidx g L[g.length - 1] < 0 then 0 else (L[g.length - 1].getD (fidx g L[g.length - 1]).toNat ([], 0)).2 := by
    rw [num29, if_neg (by omega), hgd]
  rw [hnum]
  have hl := hL.at' hn
  have hget := ccRow_get (l := L) (i := ((g.length - 1 : Nat) : Int)) (n := g.length - 1) rfl hn
  generalize L[g.length - 1] = l at *
  have hf := fidx_lt g l
  refine And.intro (by rw [iRow_len]; omega) ?_
  rw [iRow_len]
  refine X1 ((g.length - 1 : Nat) : Int) (wI (by omega) (by omega) (by omega)) ?_
  refine And.intro (by omega) (X1 _ hget ?_)
  refine X1 _ (rfind_ct l g hl hg) ?_
  refine dcase (fun h2 => ?_) (fun h2 => ?_)
  · rw [if_pos h2]
    exact ⟨trivial, r1 rfl, trivial⟩
  · rw [if_neg h2]
    have hk : (fidx g l).toNat < l.length := by omega
    refine And.intro (by rw [iRow_len]; omega) ?_
    rw [iRow_len]
    refine X1 ((g.length - 1 : Nat) : Int) (wI (by omega) (by omega) (by omega)) ?_
    refine And.intro (by omega) (X1 _ hget ?_)
    refine And.intro (by omega) (X1 _ (cRow_get (n := (fidx g l).toNat) (by omega) hk) ?_)
    exact ⟨trivial, r1 (iE (by simp [List.getD_eq_getElem?_getD, hk])), trivial⟩
abbrev mM (L : List (List Cnt)) (words : Int) : A1 := mV (counts L) words (rRows (counts L))
theorem rnew_ct (L : List (List Cnt)) (words : Int) (hL : CCSum L) (hf : CCForm L) (h8 : L.length ≤ 1000) : Ct P 29 [.c (ccSl L), .c (eI .i64 words)] [mM L words] := by
  have hcl := counts_lim hL.lim
  have hlen := counts_len L
  refine Ct.go (Ty.own_ok [1000001] T_ok) T_mix (N := 30) Tryz.func29 rfl rfl rfl rfl ?_
  refine X1 _ (rcounts_ct L hf h8) ?_
  refine nilVar (r := 60) (k := 5) (i := 2) (sz := 8) rfl rfl rfl ?_
  refine loopJ (Ty.own_ok [1000001] T_ok) T_mix (fun n : Nat => n ≤ L.length) (fun n => [(0, .c (ccSl L)), (4, .c (.ad 4 0)), (5, .c (.ad 5 0)), (6, .c (nI .i64 n))])
    (fun n => [(4, .var [.sc (.slice none 0 0), eI .i64 0, .sc (.slice none 0 0)]), (5, .var [ccSl (counts L), eI .i64 words, .ow 60 8 n]), (60, .row 8 (rRows ((counts L).take n)))]) (fun n => L.length - n)
    0 (by omega) ⟨rfl, rfl, rfl, rfl, trivial⟩ ⟨rfl, rfl, rfl, trivial⟩ (fun _ : Unit => True) (fun _ => [(4, .c (.ad 4 0)), (5, .c (.ad 5 0))]) (fun _ => [(4, .var [.sc (.slice none 0 0), eI .i64 0, .sc (.slice none 0 0)]), (5, .var [ccSl (counts L), eI .i64 words, .ow 60 8 L.length]), (60, .row 8 (rRows (counts L)))]) (fun n hn => ?_) (fun _ _ => ?_)
  · refine And.intro (by rw [ccRow_len]; omega) ?_
    rw [ccRow_len]
    refine dcase (fun h5 => ?_) (fun h5 => ?_)
    · have hn' : n < (counts L).length := by omega
      have hx := ccRow_get (l := counts L) (i := (n : Int)) (n := n) rfl hn'
      have hln := hcl.at' hn'
      have htn := hL.tot _ (List.getElem_mem hn')
      have hs : (counts L).take (n + 1) = (counts L).take n ++ [(counts L)[n]] := List.take_succ_eq_append_getElem hn'
      have htl : ((counts L).take n).length = n := by rw [List.length_take]; omega
      generalize (counts L)[n] = l at *
      refine And.intro (by omega) (X1 _ hx ?_)
      refine X1 _ (rof24_ct l hln htn) ?_
      refine X1 _ (rset_ct l hln) ?_
      refine ⟨by rw [rRows_len, htl], by rw [rRows_len, htl]; show (n + 1 + 768) * 192 ≤ _; omega, by rw [rRows_len, htl]; show n + 1 ≤ _; omega, rRows_closed, one_closed rfl, ?_⟩
      refine And.intro rfl ?_
      refine X1 ((n + 1 : Nat) : Int) (wI (by simp) (by omega) (by omega)) ?_
      have hgl : (rRows ((counts L).take n) ++ List.map A1.cells [rSet l]).length = n + 1 := by rw [List.length_append, rRows_len, htl]; rfl
      exact ⟨n + 1, by omega, by omega, ⟨rfl, rfl, rfl, rfl, trivial⟩, ⟨rfl, congrArg (fun k => some (Ob.var [ccSl (counts L), eI .i64 words, .ow 60 8 k])) hgl, rowE (by rw [hs]; unfold rRows; rw [List.map_append]; rfl), trivial⟩⟩
    · have e : n = L.length := by omega
      subst e
      rw [List.take_of_length_le (by rw [hlen]; exact Nat.le_refl _)]
      exact ⟨(), trivial, ⟨rfl, rfl, trivial⟩, ⟨rfl, rfl, rfl, trivial⟩⟩
  · exact ⟨trivial, rc rfl, trivial⟩
def rGam (Lc : List (List Cnt)) (h : List Int) : Nat × Nat :=
  if hh : h.length < Lc.length then gam28 (off28 (numN Lc[h.length] 1) (numN Lc[h.length] 2) (numN Lc[h.length] 3) (numN Lc[h.length] 4) 1) (off28 (numN Lc[h.length] 1) (numN Lc[h.length] 2) (numN Lc[h.length] 3) (numN Lc[h.length] 4) 2) (off28 (numN Lc[h.length] 1) (numN Lc[h.length] 2) (numN Lc[h.length] 3) (numN Lc[h.length] 4) 3)
    (tysN (after Lc[h.length] h)) (totN (after Lc[h.length] h)) (numN (after Lc[h.length] h) 1) (numN (after Lc[h.length] h) 2) else (1, 1)
theorem num_sum (l : List Cnt) : numN l 1 + numN l 2 ≤ tysN l := by
  unfold numN tysN
  induction l with
  | nil => simp
  | cons x l ih =>
    by_cases hl : liveC x = true
    · rw [List.filter_cons_of_pos (p := liveC) hl, List.length_cons]
      by_cases h1 : x.2 = 1
      · rw [List.filter_cons_of_pos (by simp [hl, h1]), List.filter_cons_of_neg (by simp [hl, h1]), List.length_cons]; omega
      · by_cases h2 : x.2 = 2
        · rw [List.filter_cons_of_neg (by simp [hl, h1]), List.filter_cons_of_pos (by simp [hl, h2]), List.length_cons]; omega
        · rw [List.filter_cons_of_neg (by simp [hl, h1]), List.filter_cons_of_neg (by simp [hl, h2])]; omega
    · rw [List.filter_cons_of_neg (p := liveC) hl, List.filter_cons_of_neg (by simp [hl]), List.filter_cons_of_neg (by simp [hl])]; exact ih
theorem off_bd {n2 n3 n4 n5 : Nat} (m2 : n2 ≤ 1000000) (m3 : n3 ≤ 1000000) (m4 : n4 ≤ 1000000) (m5 : n5 ≤ 1000000) (k : Nat) : Bd 500 (off28 n2 n3 n4 n5 k) := by
  have key : ∀ j a b, j + 1 < 2 ^ 62 → n2 > 0 → b > 0 → a ≤ 1000000 → b ≤ 1000000 → Bd 500 (fSub (j, 1) (part28 j n2 n3 a b)) := fun j a b hj h2 hb ha hb' =>
    (fSub_bd (int_bd (v := j) (k := 63) (by omega) (by omega)) (part_bd j a b (by omega) (by omega) (by omega) m2 m3 ha hb')).le (by omega)
  have z : Bd 500 (0, 1) := bd01.le (by omega)
  match k with
  | 1 => show Bd 500 (if _ then _ else _); split
         · rename_i h; exact key 1 _ _ (by decide) h.1 h.2 m3 m2
         · exact z
  | 2 => show Bd 500 (if _ then _ else _); split
         · rename_i h; exact key 2 _ _ (by decide) h.1 h.2 m4 m3
         · exact z
  | 0 => show Bd 500 (if _ then _ else _); split
         · rename_i h; exact key 3 _ _ (by decide) h.1 h.2 m5 m4
         · exact z
  | k + 3 => show Bd 500 (if _ then _ else _); split
             · rename_i h; exact key 3 _ _ (by decide) h.1 h.2 m5 m4
             · exact z
theorem tys_lim {l : List Cnt} (hl : CLim l) : tysN l ≤ 1000000 := Nat.le_trans (List.length_filter_le _ _) hl.len
theorem totN_le {l : List Cnt} (h : tot l ≤ 4611686018427387904) : totN l ≤ 4611686018427387904 := by unfold totN; omega
end Go.Proofs.YtpmchgndnhgncaaGreat.Pv
namespace Go.Proofs.YtpmchgndnhgncaaGreat.Pv
open Go
abbrev xC (Lc : List (List Cnt)) (words : Int) (m : Nat) : Ob := .var [ccSl Lc, .sl 8 (gRows Lc), eI .i64 words, .mp m]
abbrev xOs (Lc : List (List Cnt)) (words : Int) (ks : List Value) (vs : List (List PC)) : Objs := [(1000000, some (xC Lc words 1000001)), (1000001, some (.mp false ks vs))]
structure XOk (Lc : List (List Cnt)) (words : Int) : Prop where
  lim : CCLim Lc
  tot : ∀ l, l ∈ Lc → tot l ≤ 4611686018427387904
  rises : ∀ l, l ∈ Lc → Rises l
  len0 : 1 ≤ Lc.length
  len8 : Lc.length ≤ 8
  w3 : 3 ≤ words
  w6 : words ≤ 65536
  key : ∀ l, l ∈ Lc → ∀ x, x ∈ l → keyOk x.1 = true
  num : ∀ l, l ∈ Lc → ∀ x, x ∈ l → 0 ≤ x.2 ∧ x.2 ≤ 4611686018427387904
abbrev σx : List (Nat × Nat) := [(1000000, 1000000), (1000001, 1000001)]
section
variable {Lc : List (List Cnt)} {words : Int} {ks : List Value} {vs : List (List PC)}
theorem xSub {O : Objs} (h1 : O.get 1000000 = some (xC Lc words 1000001)) (h2 : O.get 1000001 = some (.mp false ks vs)) : SubO (xOs Lc words ks vs) O := SubO.of (l := [(1000000, xC Lc words 1000001), (1000001, .mp false ks vs)]) ⟨h1, h2, trivial⟩
theorem order_ct (hx : XOk Lc words) : CtO P 19 (xOs Lc words ks vs) [.c (.ad 1000000 0)] (xOs Lc words ks vs) [.c (nI .i64 Lc.length)] := by
  refine Ct.io T_ok T_mix (N := 10) Tryz.func19 rfl rfl rfl rfl ?_
  have := hx.len8
  refine And.intro (by rw [ccRow_len]; omega) ?_
  rw [ccRow_len]
  exact ⟨trivial, xSub rfl rfl, r1 rfl, trivial⟩
theorem words_ct : CtO P 20 (xOs Lc words ks vs) [.c (.ad 1000000 0)] (xOs Lc words ks vs) [.c (eI .i64 words)] := by
  refine Ct.io T_ok T_mix (N := 9) Tryz.func20 rfl rfl rfl rfl ?_
  exact ⟨trivial, xSub rfl rfl, r1 rfl, trivial⟩
end
end Go.Proofs.YtpmchgndnhgncaaGreat.Pv
namespace Go.Proofs.YtpmchgndnhgncaaGreat.Pv
open Go
theorem lexC_cons {a b : Int} {l m : List Int} : lexC (a :: l) (b :: m) < 0 ↔ a < b ∨ (a = b ∧ lexC l m < 0) := by
  rw [lexC]
  unfold cmpI
  (repeat' split) <;> omega
theorem pre_mid : ∀ (h : List Int) {x y : List Int}, ¬ lexC x h < 0 → lexC x y < 0 → h <+: y → h <+: x
  | [], x, y, _, _, _ => List.nil_prefix
  | a :: h, [], y, h1, _, _ => absurd (show lexC [] (a :: h) < 0 by simp [lexC]) h1
  | a :: h, b :: x, [], _, _, hp => by simp at hp
  | a :: h, b :: x, c :: y, h1, h2, hp => by
    rw [List.cons_prefix_cons] at hp ⊢
    obtain ⟨rfl, hp⟩ := hp
    rw [lexC_cons] at h1 h2
    have e : a = b := by omega
    subst e
    exact ⟨rfl, pre_mid h (fun hh => h1 (.inr ⟨rfl, hh⟩)) (by omega) hp⟩
theorem pre_gt : ∀ (h : List Int) (v : Int), lexC (h ++ [v]) h > 0
  | [], v => by simp [lexC]
  | a :: h, v => by
    have := pre_gt h v
    show lexC (a :: (h ++ [v])) (a :: h) > 0
    unfold lexC
    rw [if_neg (by rw [cmpI_self]; simp)]
    exact this
theorem preB_iff {h : List Int} {x : Cnt} : preB h x = true ↔ h <+: x.1 := by
  unfold preB
  rw [Bool.and_eq_true, decide_eq_true_eq, decide_eq_true_eq, List.prefix_iff_eq_take]
  constructor
  · exact fun ⟨_, h2⟩ => h2.symm
  · exact fun h1 => ⟨by have := congrArg List.length h1; rw [List.length_take] at this; omega, h1.symm⟩
theorem afterP_iff {h : List Int} {x : Cnt} : afterP h x = (preB h x && oneB h x) := by
  unfold afterP preB oneB
  by_cases h1 : x.1.length = h.length + 1
  · rw [decide_eq_true h1, decide_eq_true (by omega : h.length ≤ x.1.length)]; simp
  · rw [decide_eq_false h1]; simp
theorem afterP_gt {h : List Int} {x : Cnt} (hx : afterP h x = true) : lexC x.1 h > 0 := by
  unfold afterP at hx
  rw [Bool.and_eq_true, decide_eq_true_eq, decide_eq_true_eq] at hx
  obtain ⟨h1, h2⟩ := hx
  have h3 : x.1.drop h.length ≠ [] := by intro e; have := congrArg List.length e; simp at this; omega
  obtain ⟨v, t, ht⟩ := List.exists_cons_of_ne_nil h3
  have h4 : x.1 = h ++ [v] := by
    have e := List.take_append_drop h.length x.1
    rw [h2, ht] at e
    have : t = [] := by
      have := congrArg List.length e
      simp at this
      exact List.eq_nil_of_length_eq_zero (by omega)
    rw [this] at e
    exact e.symm
  rw [h4]
  exact pre_gt h v
theorem behL_all (h : List Int) : ∀ (M : List Cnt), Rises M → (∀ x, x ∈ M → lexC x.1 h > 0) → behL M h = after M h
  | [], _, _ => rfl
  | x :: M, hr, hg => by
    obtain ⟨hx, hr'⟩ := List.pairwise_cons.1 hr
    unfold behL after
    cases hp : preB h x with
    | true =>
      rw [List.takeWhile_cons_of_pos hp, List.filter_cons, List.filter_cons, afterP_iff, hp, Bool.true_and]
      have := behL_all h M hr' fun y hy => hg y (List.mem_cons_of_mem _ hy)
      unfold behL after at this
      rw [this]
    | false =>
      rw [List.takeWhile_cons_of_neg (by rw [hp]; simp)]
      symm
      rw [List.filter_nil, List.filter_eq_nil_iff]
      intro y hy ha
      rw [afterP_iff, Bool.and_eq_true] at ha
      have hpy := preB_iff.1 ha.1
      rcases List.mem_cons.1 hy with rfl | hy
      · rw [ha.1] at hp; cases hp
      · have := preB_iff.2 (pre_mid h (by have := hg x (by simp); omega) (hx y hy) hpy)
        rw [this] at hp; cases hp
theorem behL_after (h : List Int) : ∀ (l : List Cnt), Rises l → ∃ k, k ≤ l.length ∧ (∀ (i : Nat) (hi : i < l.length), i < k → ¬ lexC l[i].1 h > 0) ∧ (∀ (i : Nat) (hi : i < l.length), k ≤ i → lexC l[i].1 h > 0) ∧ behL (l.drop k) h = after l h
  | [], _ => ⟨0, by simp, fun i hi => by simp at hi, fun i hi => by simp at hi, rfl⟩
  | x :: l, hr => by
    obtain ⟨hx, hr'⟩ := List.pairwise_cons.1 hr
    by_cases hg : lexC x.1 h > 0
    · have hall : ∀ y, y ∈ x :: l → lexC y.1 h > 0 := fun y hy => by
        rcases List.mem_cons.1 hy with rfl | hy
        · exact hg
        · have a1 := hx y hy
          have a2 := lexC_neg x.1 h
          have := lexC_trans (a := h) (b := x.1) (c := y.1) (by omega) a1
          have a3 := lexC_neg h y.1
          omega
      exact ⟨0, by simp, fun i _ h => by omega, fun i hi _ => hall _ (List.getElem_mem hi), behL_all h (x :: l) hr hall⟩
    · obtain ⟨k, h0, h1, h2, h3⟩ := behL_after h l hr'
      refine ⟨k + 1, by simp; omega, fun i hi hik => ?_, fun i hi hik => ?_, ?_⟩
      · cases i with
        | zero => exact hg
        | succ i => exact h1 i (by simpa using hi) (by omega)
      · cases i with
        | zero => omega
        | succ i => exact h2 i (by simpa using hi) (by omega)
      · rw [List.drop_succ_cons, h3]
        unfold after
        rw [List.filter_cons_of_neg]
        intro ha
        exact hg (afterP_gt ha)
theorem pafter_ct (l : List Cnt) (h : List Int) (hl : CLim l) (hr : Rises l) (hh : h.length ≤ 1000000) (ht : tot l ≤ 4611686018427387904) : Ct P 85 [.c (cSl l), .c (iSl h)] [c7 (tysN (after l h)) (totN (after l h)) (numN (after l h) 1) (numN (after l h) 2) (numN (after l h) 3) (numN (after l h) 4)] := by
  obtain ⟨k, h0, h1, h2, h3⟩ := behL_after h l hr
  have := after_ct l h k hl hh h0 h1 h2 ht
  rwa [h3, cen7_c7] at this
theorem three_inj {v w : Int} (hv : 0 ≤ v ∧ v < 16777216) (hw : 0 ≤ w ∧ w < 16777216) (h1 : UInt8.ofNat (v.toNat / 65536) = UInt8.ofNat (w.toNat / 65536)) (h2 : UInt8.ofNat (v.toNat / 256) = UInt8.ofNat (w.toNat / 256)) (h3 : UInt8.ofNat v.toNat = UInt8.ofNat w.toNat) : v = w := by
  have g : ∀ {a b : Nat}, UInt8.ofNat a = UInt8.ofNat b → a % 256 = b % 256 := fun {a b} h => by
    have := congrArg UInt8.toNat h
    simpa using this
  have g1 := g h1
  have g2 := g h2
  have g3 := g h3
  omega
theorem kU_inj : ∀ {g h : List Int}, keyOk g = true → keyOk h = true → kU g = kU h → g = h
  | [], [], _, _, _ => rfl
  | [], b :: h, _, _, e => by simp [kU] at e
  | a :: g, [], _, _, e => by simp [kU] at e
  | a :: g, b :: h, hg, hh, e => by
    unfold keyOk at hg hh
    rw [List.all_cons, Bool.and_eq_true] at hg hh
    have e' : UInt8.ofNat (a.toNat / 65536) :: UInt8.ofNat (a.toNat / 256) :: UInt8.ofNat a.toNat :: kU g = UInt8.ofNat (b.toNat / 65536) :: UInt8.ofNat (b.toNat / 256) :: UInt8.ofNat b.toNat :: kU h := e
    injection e' with e1 e'
    injection e' with e2 e'
    injection e' with e3 e'
    have ha := hg.1
    have hb := hh.1
    rw [Bool.and_eq_true, decide_eq_true_eq, decide_eq_true_eq] at ha hb
    rw [three_inj ha hb e1 e2 e3, kU_inj (g := g) (h := h) hg.2 hh.2 e']
theorem keyB_inj {g h : List Int} (hg : keyOk g = true) (hh : keyOk h = true) (e : keyB g = keyB h) : g = h := by
  have : (kU g).toArray = (kU h).toArray := congrArg ByteArray.data e
  exact kU_inj hg hh (by simpa using this)
theorem findV_str (key : ByteArray) : ∀ (ks : List Value) (i : Nat), (∀ k, k ∈ ks → ∃ b, k = .string b) → ∃ r, findV .string (.string key) ks i = some r ∧ ∀ j, r = some j → i ≤ j ∧ ks[j - i]? = some (.string key)
  | [], i, _ => ⟨none, rfl, fun j h => by cases h⟩
  | k :: ks, i, hk => by
    obtain ⟨b, rfl⟩ := hk k (by simp)
    simp only [findV, Instr.sameNow]
    by_cases h : key = b
    · subst h
      refine ⟨some i, by rw [(bytes_beq key key).2 rfl], fun j hj => ?_⟩
      cases hj
      exact ⟨Nat.le_refl _, by simp⟩
    · have hb : (key == b) = false := by
        cases hb : key == b with
        | false => rfl
        | true => exact absurd ((bytes_beq _ _).1 hb) h
      rw [hb]
      obtain ⟨r, h1, h2⟩ := findV_str key ks (i + 1) fun k hk' => hk k (List.mem_cons_of_mem _ hk')
      refine ⟨r, h1, fun j hj => ?_⟩
      obtain ⟨g1, g2⟩ := h2 j hj
      refine ⟨by omega, ?_⟩
      rw [show j - i = (j - (i + 1)) + 1 by omega]
      simpa using g2
end Go.Proofs.YtpmchgndnhgncaaGreat.Pv
namespace Go.Proofs.YtpmchgndnhgncaaGreat.Pv
open Go
abbrev ctxC (Lc : List (List Cnt)) (h : List Int) : List PC := nI .i64 (totN (after (Lc.getD h.length []) h)) :: (qP (rGam Lc h)).cells
abbrev ctxP (Lc : List (List Cnt)) (h : List Int) : PC := .rd (ctxC Lc h)
structure MOk (Lc : List (List Cnt)) (ks : List Value) (vs : List (List PC)) : Prop where
  len : ks.length = vs.length
  at' : ∀ (i : Nat) k, ks[i]? = some k → ∃ h, keyOk h = true ∧ k = .string (keyB h) ∧ vs[i]? = some [ctxP Lc h]
theorem MOk.nil {Lc : List (List Cnt)} : MOk Lc [] [] := ⟨rfl, fun i k h => by simp at h⟩
theorem MOk.str {Lc : List (List Cnt)} {ks : List Value} {vs : List (List PC)} (hm : MOk Lc ks vs) (k : Value) (hk : k ∈ ks) : ∃ b, k = .string b := by
  obtain ⟨i, hi⟩ := List.mem_iff_getElem?.1 hk
  obtain ⟨h, _, h1, _⟩ := hm.at' i k hi
  exact ⟨_, h1⟩
theorem after_nokey {l : List Cnt} {h : List Int} (hk : ∀ x, x ∈ l → keyOk x.1 = true) (hn : ¬ keyOk h = true) : after l h = [] := by
  unfold after
  rw [List.filter_eq_nil_iff]
  intro x hx ha
  unfold afterP at ha
  rw [Bool.and_eq_true, decide_eq_true_eq, decide_eq_true_eq] at ha
  apply hn
  have := hk x hx
  unfold keyOk at this ⊢
  rw [List.all_eq_true] at this ⊢
  intro v hv
  rw [← ha.2] at hv
  exact this v (List.mem_of_mem_take hv)
section
variable {Lc : List (List Cnt)} {words : Int} {ks : List Value} {vs : List (List PC)}
theorem rGam_nokey (hx : XOk Lc words) {h : List Int} (hh : h.length < Lc.length) (hn : ¬ keyOk h = true) : ctxC Lc h = nI .i64 0 :: (qP (1, 1)).cells := by
  have e : Lc.getD h.length [] = Lc[h.length] := by simp [List.getD_eq_getElem?_getD, hh]
  have ha := after_nokey (hx.key _ (List.getElem_mem hh)) hn
  unfold ctxC rGam
  rw [dif_pos hh, e, ha]
  rfl
theorem rGam_ct (hx : XOk Lc words) (h : List Int) (hh : h.length < Lc.length) : Ct P 86 [gSet Lc[h.length], c7 (tysN (after Lc[h.length] h)) (totN (after Lc[h.length] h)) (numN (after Lc[h.length] h) 1) (numN (after Lc[h.length] h) 2) (numN (after Lc[h.length] h) 3) (numN (after Lc[h.length] h) 4)] [qP (rGam Lc h)] := by
  have hln := hx.lim.at' hh
  have htn := hx.tot _ (List.getElem_mem hh)
  have hal : CLim (after Lc[h.length] h) := hln.filter _
  have hat : tot (after Lc[h.length] h) ≤ 4611686018427387904 := Int.le_trans (tot_filter _ _) htn
  have m := fun k => Nat.le_trans (numN_le Lc[h.length] k) hln.len
  have ob := fun k => off_bd (m 1) (m 2) (m 3) (m 4) k
  have rn := fun k h1 h3 => roff_nz (m 1) (m 2) (m 3) (m 4) k h1 h3
  have h8 := hx.len8
  have hg := dgamma_ct (0, 0) _ _ _ (tysN (after Lc[h.length] h)) (totN (after Lc[h.length] h)) (numN (after Lc[h.length] h) 1) (numN (after Lc[h.length] h) 2) (numN (after Lc[h.length] h) 3) (numN (after Lc[h.length] h) 4) (k := 500) (by rw [rn 1 (by omega) (by omega)]; exact ob 1) (by rw [rn 2 (by omega) (by omega)]; exact ob 2) (by rw [rn 3 (by omega) (by omega)]; exact ob 3) (by omega) (by have := tys_lim hal; omega) (totN_le hat) (num_sum _)
  rw [rn 1 (by omega) (by omega), rn 2 (by omega) (by omega), rn 3 (by omega) (by omega)] at hg
  unfold rGam
  rw [dif_pos hh]
  exact hg
theorem kbehind_ct (hx : XOk Lc words) (hm : MOk Lc ks vs) (h : List Int) (hh : h.length < Lc.length) :
    ∃ ks' vs', MOk Lc ks' vs' ∧ CtO P 44 (xOs Lc words ks vs) [.c (.ad 1000000 0), .c (iSl h)] (xOs Lc words ks' vs') [.c (ctxP Lc h)] := by
  have h8 := hx.len8
  have hln := hx.lim.at' hh
  have e : Lc.getD h.length [] = Lc[h.length] := by simp [List.getD_eq_getElem?_getD, hh]
  by_cases hk : keyOk h = true
  · obtain ⟨r, f1, f2⟩ := findV_str (keyB h) ks 0 hm.str
    have hkey := keyT_ct h (by omega)
    rw [if_pos hk, if_pos hk] at hkey
    cases r with
    | some j =>
      obtain ⟨_, f3⟩ := f2 j rfl
      rw [Nat.sub_zero] at f3
      obtain ⟨h', g1, g2, g3⟩ := hm.at' j _ f3
      have e' : h = h' := keyB_inj hk g1 (by injection g2)
      subst e'
      refine ⟨ks, vs, hm, ?_⟩
      refine Ct.io T_ok T_mix (N := 63) Tryz.func44 rfl rfl rfl rfl ?_
      refine X1 _ hkey ?_
      refine ⟨some j, .c (ctxP Lc h), f1, ⟨_, g3, rfl⟩, ?_⟩
      exact ⟨trivial, xSub rfl rfl, r1 rfl, trivial⟩
    | none =>
      refine ⟨ks ++ [.string (keyB h)], vs ++ [[ctxP Lc h]], ?_, ?_⟩
      · refine ⟨by simp [hm.len], fun i k hi => ?_⟩
        have hlen : ∀ i k, ks[i]? = some k → i < vs.length := fun i k hi => by
          obtain ⟨_, _, _, g3⟩ := hm.at' i k hi
          exact (List.getElem?_eq_some_iff.1 g3).1
        rcases Nat.lt_trichotomy i ks.length with hlt | heq | hgt
        · rw [List.getElem?_append_left hlt] at hi
          rw [List.getElem?_append_left (hlen i k hi)]
          exact hm.at' i k hi
        · subst heq
          rw [List.getElem?_append_right (Nat.le_refl _), Nat.sub_self] at hi
          cases hi
          refine ⟨h, hk, rfl, ?_⟩
          rw [List.getElem?_append_right (Nat.le_of_eq hm.len.symm), hm.len, Nat.sub_self]
          rfl
        · rw [List.getElem?_eq_none (by simp; omega)] at hi; cases hi
      · refine Ct.io T_ok T_mix (N := 63) Tryz.func44 rfl rfl rfl rfl ?_
        refine X1 _ hkey ?_
        refine ⟨none, .c (.sc (.pointer none)), f1, rfl, ?_⟩
        refine And.intro (by rw [iRow_len]; omega) ?_
        rw [iRow_len]
        refine And.intro (by omega) (X1 _ (ccRow_get rfl hh) ?_)
        refine X1 _ (pafter_ct Lc[h.length] h hln (hx.rises _ (List.getElem_mem hh)) (by omega) (hx.tot _ (List.getElem_mem hh))) ?_
        refine And.intro (by rw [iRow_len]; omega) ?_
        rw [iRow_len]
        refine And.intro (by omega) (X1 _ (gRows_get rfl hh) ?_)
        refine X1 _ (rGam_ct hx h hh) ?_
        refine And.intro rfl ?_
        refine ⟨[55], none, f1, rfl, ?_⟩
        have hc : ctxC Lc h = nI .i64 (totN (after Lc[h.length] h)) :: (qP (rGam Lc h)).cells := by unfold ctxC; rw [e]
        unfold ctxP
        rw [hc]
        exact ⟨trivial, xSub rfl rfl, r1 rfl, trivial⟩
  · refine ⟨ks, vs, hm, ?_⟩
    have hkey := keyT_ct h (by omega)
    rw [if_neg hk, if_neg hk] at hkey
    refine Ct.keep T_ok T_mix [20] (N := 63) Tryz.func44 rfl rfl rfl rfl ?_
    refine X1 _ hkey ?_
    refine X1 _ (qint_ct 1 (by omega)) ?_
    unfold ctxP
    rw [rGam_nokey hx hh hk]
    exact ⟨trivial, xSub rfl rfl, r1 rfl, trivial⟩
theorem kgamma_ct (hx : XOk Lc words) (hm : MOk Lc ks vs) (h : List Int) (hl : h.length ≤ 1000000) :
    ∃ ks' vs', MOk Lc ks' vs' ∧ CtO P 18 (xOs Lc words ks vs) [.c (.ad 1000000 0), .c (iSl h)] (xOs Lc words ks' vs') [qP (rGam Lc h)] := by
  have h8 := hx.len8
  by_cases hh : h.length < Lc.length
  · obtain ⟨ks', vs', hm', hct⟩ := kbehind_ct hx hm h hh
    refine ⟨ks', vs', hm', ?_⟩
    refine Ct.io T_ok T_mix (N := 17) Tryz.func18 rfl rfl rfl rfl ?_
    refine And.intro (by rw [iRow_len]; omega) ?_
    rw [iRow_len]
    refine X2 (.own σx σx) ?_
    refine ⟨_, _, order_ct hx, ?_⟩
    refine dcase (fun h => ?_) (fun _ => ?_)
    · exfalso; omega
    refine X2 (.own σx σx) ?_
    refine ⟨_, _, hct, ?_⟩
    exact ⟨trivial, xSub rfl rfl, rc rfl, trivial⟩
  · refine ⟨ks, vs, hm, ?_⟩
    refine Ct.io T_ok T_mix (N := 17) Tryz.func18 rfl rfl rfl rfl ?_
    refine And.intro (by rw [iRow_len]; omega) ?_
    rw [iRow_len]
    refine X2 (.own σx σx) ?_
    refine ⟨_, _, order_ct hx, ?_⟩
    refine dcase (fun _ => ?_) (fun h => ?_)
    · refine X1 _ (qint_ct 1 (by omega)) ?_
      unfold rGam
      rw [dif_neg hh]
      exact ⟨trivial, xSub rfl rfl, rc rfl, trivial⟩
    · exfalso; omega
end
end Go.Proofs.YtpmchgndnhgncaaGreat.Pv
namespace Go.Proofs.YtpmchgndnhgncaaGreat.Pv
open Go
section
variable {P : Program} {T : Ty} {N : Nx} {E : Env} {O : Objs} {c x y : Code} {Q : PQ}
theorem condI {o : Operand} {b : Bool} (h : E.ev o = some (.c (.sc (.bool b)))) (ht : b = true → WI P N E O x Q) (hf : b = false → WI P N E O y Q) : WI P N E O (.cond o x y) Q :=
  .of (W.cond h (fun e => (ht e).out) (fun e => (hf e).out))
theorem retI (h : Q .ret E O) : WI P N E O .ret Q := .of (W.ret h)
theorem skipI (h : Q .normal E O) : WI P N E O .skip Q := .of (W.skip h)
theorem codeI (hT : T.ok P) (hm : P.follows .mixedOrders = true) (h : codeS P T N c E O Q) : WI P N E O c Q := .of (codeS_sound hT hm _ _ _ _ h)
theorem Ct.keepI (hT : T.ok P) (ks : List Nat) {f : FuncId} {fn : Func} {args res : List A1} {O' : Objs} (hf : P.funcs[f]? = some fn) (hb : fn.body = some c) (hn : (fn.name == "runtime.NumGoroutine") = false) (hN : fn.ntmps = N.n) (hl : Nat.ble args.length N.n = true)
    (h : WI P N (envA 0 args) O c (keepQ T fn.results.toList ks O' res)) (hfz : N.fz = [] := by rfl) : CtO P f O args O' res :=
  Ct.fin (some ks) hf hb hn hN hl (h.out.mono fun _ _ _ ⟨h1, h2, h3⟩ => ⟨h1, h2, resT_sound hT h3⟩) hfz
end
theorem cloneO_ct (l : List Int) (hl : l.length ≤ 1000000) : CtO P 45 [] [.c (iSl l)] [(5, some (.row 1 (iRow l)))] [.c (.ow 5 1 l.length)] := by
  refine Ct.keepI T_ok [] (N := 8) Tryz.func45 rfl rfl rfl rfl ?_
  refine seqI T_ok T_mix ?_
  refine seqW ?_
  refine seqI T_ok T_mix ?_
  intro b hb
  refine condI (b := b) rfl (fun e => ?_) (fun e => ?_)
  · subst e
    have : l = [] := List.length_eq_zero_iff.1 (by have := hb rfl; rwa [iRow_len] at this)
    subst this
    refine seqI T_ok T_mix ?_
    refine nilC (r := 5) (t := 2) (sz := 1) rfl rfl ?_
    exact retI ⟨trivial, SubO.of (l := [(5, .row 1 [])]) ⟨rfl, trivial⟩, r1 rfl, trivial⟩
  · subst e
    refine skipI ?_
    refine codeI T_ok T_mix ?_
    refine ⟨rfl, by rw [iRow_len]; show (0 + l.length + 768) * 8 ≤ _; omega, by rw [iRow_len]; show 0 + l.length ≤ _; omega, nil_closed, iRow_closed, ?_⟩
    exact ⟨trivial, SubO.of (l := [(5, .row 1 (iRow l))]) ⟨rfl, trivial⟩, r1 (owE (by show (iRow l).length = _; rw [iRow_len])), trivial⟩
abbrev xOs3 (Lc : List (List Cnt)) (words : Int) (ks : List Value) (vs : List (List PC)) (els : List (List PC)) : Objs := [(1000000, some (xC Lc words 1000001)), (1000001, some (.mp false ks vs)), (1000002, some (.row 1 els))]
section
variable {Lc : List (List Cnt)} {words : Int} {ks : List Value} {vs : List (List PC)}
theorem x3Sub {els : List (List PC)} {O : Objs} (h1 : O.get 1000000 = some (xC Lc words 1000001)) (h2 : O.get 1000001 = some (.mp false ks vs)) (h3 : O.get 1000002 = some (.row 1 els)) : SubO (xOs3 Lc words ks vs els) O := SubO.of (l := [(1000000, xC Lc words 1000001), (1000001, .mp false ks vs), (1000002, .row 1 els)]) ⟨h1, h2, h3, trivial⟩
theorem numberO_ct (hx : XOk Lc words) (g : List Int) (els : List (List PC)) (he : els = iRow g) (m : Nat) (hm : m = g.length) (h1 : 1 ≤ g.length) (hg : g.length ≤ Lc.length) : CtO P 17 (xOs3 Lc words ks vs els) [.c (.ad 1000000 0), .c (.ow 1000002 1 m)] (xOs3 Lc words ks vs els) [.c (eI .i64 (num29 Lc g))] := by
  subst he
  refine Ct.io T_ok T_mix (N := 41) Tryz.func17 rfl rfl rfl rfl ?_
  have h8 := hx.len8
  refine And.intro (by omega) ?_
  refine dcase (fun h0 => ?_) (fun h0 => ?_)
  · exfalso; omega
  refine X2 (.own σx σx) ?_
  refine ⟨_, _, order_ct hx, ?_⟩
  refine dcase (fun h1 => ?_) (fun h1 => ?_)
  · exfalso; omega
  have hn : g.length - 1 < Lc.length := by omega
  have hgd : Lc.getD (g.length - 1) [] = Lc[g.length - 1] := by simp [List.getD_eq_getElem?_getD, hn]
  have hnum : num29 Lc g = if fidx g Lc[g.length - 1] < 0 then 0 else (Lc[g.length - 1].getD (fidx g Lc[g.length - 1]).toNat ([], 0)).2 := by
    rw [num29, if_neg (by omega), hgd]
  rw [hnum]
  have hl := hx.lim.at' hn
  have hr := hx.rises _ (List.getElem_mem hn)
  have hget := ccRow_get (l := Lc) (i := ((g.length - 1 : Nat) : Int)) (n := g.length - 1) rfl hn
  generalize Lc[g.length - 1] = l at *
  have hf := fidx_lt g l
  refine X1 ((g.length - 1 : Nat) : Int) (wI (by omega) (by omega) (by omega)) ?_
  refine And.intro (by omega) (X1 _ hget ?_)
  refine X2 .look (X1 _ (gfind2_ct l g hl (by omega) hr) ?_)
  refine dcase (fun h2 => ?_) (fun h2 => ?_)
  · rw [if_pos h2]
    exact ⟨trivial, x3Sub rfl rfl rfl, r1 rfl, trivial⟩
  · rw [if_neg h2]
    have hk : (fidx g l).toNat < l.length := by omega
    refine X1 ((g.length - 1 : Nat) : Int) (wI (by omega) (by omega) (by omega)) ?_
    refine And.intro (by omega) (X1 _ hget ?_)
    refine And.intro (by omega) (X1 _ (cRow_get (n := (fidx g l).toNat) (by omega) hk) ?_)
    exact ⟨trivial, x3Sub rfl rfl rfl, r1 (iE (by simp [List.getD_eq_getElem?_getD, hk])), trivial⟩
end
end Go.Proofs.YtpmchgndnhgncaaGreat.Pv
