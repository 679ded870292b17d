/- Parts of a proof, joined: Eb Ec Eh Ei Cx Cy Eq Cz Er Es Et Eu Ev Ew Eg. -/
import Derived.Test.YtgceikecdedfcaaGreatLdM
namespace Go.Proofs.YtgceikecdedfcaaGreat.Pv
open Go
section
abbrev dS (p0 p1 p2 p3 : Nat × Nat) : A1 := .ag [dV p0.1, dV p0.2, dV p1.1, dV p1.2, dV p2.1, dV p2.2, dV p3.1, dV p3.2]
def at4 (p1 p2 p3 : Nat × Nat) (n : Int) : Nat × Nat := if n < 1 then (0, 1) else if n = 1 then p1 else if n = 2 then p2 else p3
abbrev c6 (n0 n1 n2 n3 n4 n5 : Nat) : A1 := .ag [nI .i64 n0, nI .i64 n1, nI .i64 n2, nI .i64 n3, nI .i64 n4, nI .i64 n5]
def nD (p1 p2 p3 : Nat × Nat) (n0 n1 n2 n3 : Nat) : Nat × Nat :=
 if n1 < 1 then (1, 1) else dN (bE (bE (cD (n2, 1) p1) (cD (n3, 1) p2)) (cD (n0 - n2 - n3, 1) p3)) (n1, 1)
def bV (k n2 n3 a b : Nat) : Nat × Nat := cD (cD (k + 1, 1) (dN (n2, 1) (n2 + 2 * n3, 1))) (dN (a, 1) (b, 1))
theorem yO (n0 n1 n2 n3 n4 n5 : Nat) (h2 : n2 ≠ 0) (hb : n2 ≠ 0) (m2 : n2 ≤ 1000000) (m3 : n3 ≤ 1000000) (m4 : n4 ≤ 1000000) (m5 : n5 ≤ 1000000) :
  Ct P 142 [.c (nI .i64 1), c6 n0 n1 n2 n3 n4 n5] [rP (bV 1 n2 n3 n3 n2)] := by
 have j1 : Bd 63 (n2, 1) := aF (by omega) (by omega);have j2 : Bd 63 (n2 + 2 * n3, 1) := aF (by omega) (by omega);have y := cj j1 j2 (by show n2 + 2 * n3 ≠ 0; omega);refine Ct.go aj aa (N := 34) Tryz.func142 rfl rfl rfl rfl ?_
 ·refine .intro (by decide) (And.intro (by decide) ?_);refine X1 _ (bl n2 (by omega)) ?_;refine .intro (by decide) (And.intro (by decide) ?_);refine .intro (by decide) (And.intro (by decide) ?_);refine X1 ((2 * n3 : Nat) : Int) (wI (by simp) (by omega) (by omega)) ?_;refine X1 ((n2 + 2 * n3 : Nat) : Int) (wI (by simp) (by omega) (by omega)) ?_;refine X1 _ (bl (n2 + 2 * n3) (by omega)) ?_;refine X1 _ (iB j1 j2 (by show n2 + 2 * n3 ≠ 0; omega) (by omega) (by omega)) ?_;refine .intro rfl ?_;refine X1 ((2 : Nat) : Int) (wI (by simp) (by omega) (by omega)) ?_;refine X1 _ (bl 2 (by omega)) ?_;refine X1 _ (iA (aF (v := 2) (k := 63) (by decide) (by omega)) y (by omega) (by omega)) ?_;refine X1 ((3 : Nat) : Int) (wI (by simp) (by omega) (by omega)) ?_;refine .intro (by decide) (And.intro (by decide) ?_);refine X1 _ (bl n3 (by omega)) ?_;refine X1 ((2 : Nat) : Int) (wI (by simp) (by omega) (by omega)) ?_;refine .intro (by decide) (And.intro (by decide) ?_);refine X1 _ (bl n2 (by omega)) ?_;refine X1 _ (iB (aF (v := n3) (k := 63) (by omega) (by omega)) (aF (v := n2) (k := 63) (by omega) (by omega)) (by show n2 ≠ 0; omega) (by omega) (by omega)) ?_;refine X1 _ (iA (bu (aF (v := 2) (k := 63) (by decide) (by omega)) y) (cj (aF (v := n3) (k := 63) (by omega) (by omega)) (aF (v := n2) (k := 63) (by omega) (by omega)) (by show n2 ≠ 0; omega)) (by omega) (by omega)) ?_;refine .intro rfl ?_;exact ⟨trivial, rc rfl, trivial⟩
theorem yP (n0 n1 n2 n3 n4 n5 : Nat) (h2 : n2 ≠ 0) (hb : n3 ≠ 0) (m2 : n2 ≤ 1000000) (m3 : n3 ≤ 1000000) (m4 : n4 ≤ 1000000) (m5 : n5 ≤ 1000000) :
  Ct P 142 [.c (nI .i64 2), c6 n0 n1 n2 n3 n4 n5] [rP (bV 2 n2 n3 n4 n3)] := by
 have j1 : Bd 63 (n2, 1) := aF (by omega) (by omega);have j2 : Bd 63 (n2 + 2 * n3, 1) := aF (by omega) (by omega);have y := cj j1 j2 (by show n2 + 2 * n3 ≠ 0; omega);refine Ct.go aj aa (N := 34) Tryz.func142 rfl rfl rfl rfl ?_
 ·refine .intro (by decide) (And.intro (by decide) ?_);refine X1 _ (bl n2 (by omega)) ?_;refine .intro (by decide) (And.intro (by decide) ?_);refine .intro (by decide) (And.intro (by decide) ?_);refine X1 ((2 * n3 : Nat) : Int) (wI (by simp) (by omega) (by omega)) ?_;refine X1 ((n2 + 2 * n3 : Nat) : Int) (wI (by simp) (by omega) (by omega)) ?_;refine X1 _ (bl (n2 + 2 * n3) (by omega)) ?_;refine X1 _ (iB j1 j2 (by show n2 + 2 * n3 ≠ 0; omega) (by omega) (by omega)) ?_;refine .intro rfl ?_;refine X1 ((3 : Nat) : Int) (wI (by simp) (by omega) (by omega)) ?_;refine X1 _ (bl 3 (by omega)) ?_;refine X1 _ (iA (aF (v := 3) (k := 63) (by decide) (by omega)) y (by omega) (by omega)) ?_;refine X1 ((4 : Nat) : Int) (wI (by simp) (by omega) (by omega)) ?_;refine .intro (by decide) (And.intro (by decide) ?_);refine X1 _ (bl n4 (by omega)) ?_;refine X1 ((3 : Nat) : Int) (wI (by simp) (by omega) (by omega)) ?_;refine .intro (by decide) (And.intro (by decide) ?_);refine X1 _ (bl n3 (by omega)) ?_;refine X1 _ (iB (aF (v := n4) (k := 63) (by omega) (by omega)) (aF (v := n3) (k := 63) (by omega) (by omega)) (by show n3 ≠ 0; omega) (by omega) (by omega)) ?_;refine X1 _ (iA (bu (aF (v := 3) (k := 63) (by decide) (by omega)) y) (cj (aF (v := n4) (k := 63) (by omega) (by omega)) (aF (v := n3) (k := 63) (by omega) (by omega)) (by show n3 ≠ 0; omega)) (by omega) (by omega)) ?_;refine .intro rfl ?_;exact ⟨trivial, rc rfl, trivial⟩
theorem yQ (n0 n1 n2 n3 n4 n5 : Nat) (h2 : n2 ≠ 0) (hb : n4 ≠ 0) (m2 : n2 ≤ 1000000) (m3 : n3 ≤ 1000000) (m4 : n4 ≤ 1000000) (m5 : n5 ≤ 1000000) :
  Ct P 142 [.c (nI .i64 3), c6 n0 n1 n2 n3 n4 n5] [rP (bV 3 n2 n3 n5 n4)] := by
 have j1 : Bd 63 (n2, 1) := aF (by omega) (by omega);have j2 : Bd 63 (n2 + 2 * n3, 1) := aF (by omega) (by omega);have y := cj j1 j2 (by show n2 + 2 * n3 ≠ 0; omega);refine Ct.go aj aa (N := 34) Tryz.func142 rfl rfl rfl rfl ?_
 ·refine .intro (by decide) (And.intro (by decide) ?_);refine X1 _ (bl n2 (by omega)) ?_;refine .intro (by decide) (And.intro (by decide) ?_);refine .intro (by decide) (And.intro (by decide) ?_);refine X1 ((2 * n3 : Nat) : Int) (wI (by simp) (by omega) (by omega)) ?_;refine X1 ((n2 + 2 * n3 : Nat) : Int) (wI (by simp) (by omega) (by omega)) ?_;refine X1 _ (bl (n2 + 2 * n3) (by omega)) ?_;refine X1 _ (iB j1 j2 (by show n2 + 2 * n3 ≠ 0; omega) (by omega) (by omega)) ?_;refine .intro rfl ?_;refine X1 ((4 : Nat) : Int) (wI (by simp) (by omega) (by omega)) ?_;refine X1 _ (bl 4 (by omega)) ?_;refine X1 _ (iA (aF (v := 4) (k := 63) (by decide) (by omega)) y (by omega) (by omega)) ?_;refine X1 ((5 : Nat) : Int) (wI (by simp) (by omega) (by omega)) ?_;refine .intro (by decide) (And.intro (by decide) ?_);refine X1 _ (bl n5 (by omega)) ?_;refine X1 ((4 : Nat) : Int) (wI (by simp) (by omega) (by omega)) ?_;refine .intro (by decide) (And.intro (by decide) ?_);refine X1 _ (bl n4 (by omega)) ?_;refine X1 _ (iB (aF (v := n5) (k := 63) (by omega) (by omega)) (aF (v := n4) (k := 63) (by omega) (by omega)) (by show n4 ≠ 0; omega) (by omega) (by omega)) ?_;refine X1 _ (iA (bu (aF (v := 4) (k := 63) (by decide) (by omega)) y) (cj (aF (v := n5) (k := 63) (by omega) (by omega)) (aF (v := n4) (k := 63) (by omega) (by omega)) (by show n4 ≠ 0; omega)) (by omega) (by omega)) ?_;refine .intro rfl ?_;exact ⟨trivial, rc rfl, trivial⟩
def cE (n2 n3 n4 n5 : Nat) : Nat → Nat × Nat
 | 1 => if n2 > 0 ∧ n2 > 0 then cV (1, 1) (bV 1 n2 n3 n3 n2) else (0, 1)
 | 2 => if n2 > 0 ∧ n3 > 0 then cV (2, 1) (bV 2 n2 n3 n4 n3) else (0, 1)
 | _ => if n2 > 0 ∧ n4 > 0 then cV (3, 1) (bV 3 n2 n3 n5 n4) else (0, 1)
def fo (n2 n3 n4 n5 j k : Nat) : Nat × Nat := if j < k then cE n2 n3 n4 n5 j else (0, 1)
def ofc (n2 n3 n4 n5 k : Nat) : List PC := [dV 0, dV 1, dV (fo n2 n3 n4 n5 1 k).1, dV (fo n2 n3 n4 n5 1 k).2, dV (fo n2 n3 n4 n5 2 k).1, dV (fo n2 n3 n4 n5 2 k).2, dV (fo n2 n3 n4 n5 3 k).1, dV (fo n2 n3 n4 n5 3 k).2]
theorem AI (n0 n1 n2 n3 n4 n5 : Nat) (m2 : n2 ≤ 1000000) (m3 : n3 ≤ 1000000) (m4 : n4 ≤ 1000000) (m5 : n5 ≤ 1000000) : Ct P 93 [c6 n0 n1 n2 n3 n4 n5] [dS (0, 1) (cE n2 n3 n4 n5 1) (cE n2 n3 n4 n5 2) (cE n2 n3 n4 n5 3)] := by
 have pb : ∀ (k a b : Nat), k + 1 < 2 ^ 63 → n2 ≠ 0 → b ≠ 0 → a ≤ 1000000 → b ≤ 1000000 → Bd 400000 (bV k n2 n3 a b) := fun k a b hk h2 hb ha hb' => by
  have j1 : Bd 63 (n2, 1) := aF (by omega) (by omega);have j2 : Bd 63 (n2 + 2 * n3, 1) := aF (by omega) (by omega);have y := cj j1 j2 (by show n2 + 2 * n3 ≠ 0; omega);exact (bu (bu (aF (v := k + 1) (k := 63) hk (by omega)) y) (cj (aF (v := a) (k := 63) (by omega) (by omega)) (aF (v := b) (k := 63) (by omega) (by omega)) hb)).le (by omega)
 refine Ct.go aj aa (N := 33) Tryz.func93 rfl rfl rfl rfl ?_;refine X1 _ (bl 0 (by omega)) ?_;refine X1 _ (bl 0 (by omega)) ?_;refine X1 _ (bl 0 (by omega)) ?_;refine X1 _ (bl 0 (by omega)) ?_;refine ar aj aa (fun k : Nat => 1 ≤ k ∧ k ≤ 4) (fun k => [(1, .c (.ad 1 0)), (2, .c (.ad 2 0)), (3, .c (.ad 3 0)), (4, .c (nI .i64 k))])
  (fun k => [(1, .var [nI .i64 n0, nI .i64 n1, nI .i64 n2, nI .i64 n3, nI .i64 n4, nI .i64 n5]), (2, .var (List.replicate 8 (.sc (.slice none 0 0)))), (3, .var (ofc n2 n3 n4 n5 k))]) (fun k => 4 - k)
  1 ⟨by omega, by omega⟩ ⟨rfl, rfl, rfl, rfl, trivial⟩ ⟨rfl, rfl, rfl, trivial⟩ (fun _ : Unit => True) (fun _ => [(2, .c (.ad 2 0)), (3, .c (.ad 3 0))]) (fun _ => [(2, .var (List.replicate 8 (.sc (.slice none 0 0)))), (3, .var (ofc n2 n3 n4 n5 4))]) (fun k hi => ?_) (fun _ _ => ?_)
 ·obtain ⟨i1, i2⟩ := hi;refine ae (fun h1 => ?_) (fun h1 => ?_)
  ·have hk : k = 1 ∨ k = 2 ∨ k = 3 := by omega
   rcases hk with rfl | rfl | rfl
   ·refine .intro (by decide) (And.intro (by decide) ?_);refine ae (fun h2 => ?_) (fun h2 => ?_)
    ·refine X1 ((2 : Nat) : Int) (wI (by simp) (by omega) (by omega)) ?_;refine .intro (by decide) (And.intro (by decide) ?_);refine ae (fun h3 => ?_) (fun h3 => ?_)
     ·have hr : cE n2 n3 n4 n5 1 = cV (1, 1) (bV 1 n2 n3 n3 n2) := by
       show (if _ then _ else _) = _
       exact if_pos ⟨by omega, by omega⟩
      refine X1 _ (bl 1 (by omega)) ?_;refine X1 _ (yO n0 n1 n2 n3 n4 n5 (by omega) (by omega) m2 m3 m4 m5) ?_;refine X1 _ (p8 (aF (v := 1) (k := 63) (by decide) (by omega)) (pb 1 n3 n2 (by decide) (by omega) (by omega) (by omega) (by omega)) (by omega) (by omega)) ?_;refine .intro (by decide) (And.intro (by decide) ?_);refine .intro rfl ?_;refine X1 ((2 : Nat) : Int) (wI (by simp) (by omega) (by omega)) ?_;exact ⟨2, ⟨by omega, by omega⟩, by decide, ⟨rfl, rfl, rfl, rfl, trivial⟩, ⟨rfl, rfl, by unfold ofc fo; simp only [hr]; rfl, trivial⟩⟩
     ·have hr : cE n2 n3 n4 n5 1 = (0, 1) := by
       show (if _ then _ else _) = _
       exact if_neg (by omega)
      refine X1 ((2 : Nat) : Int) (wI (by simp) (by omega) (by omega)) ?_;exact ⟨2, ⟨by omega, by omega⟩, by decide, ⟨rfl, rfl, rfl, rfl, trivial⟩, ⟨rfl, rfl, by unfold ofc fo; simp only [hr]; rfl, trivial⟩⟩
    ·have hr : cE n2 n3 n4 n5 1 = (0, 1) := by
       show (if _ then _ else _) = _
       exact if_neg (by omega)
     refine X1 ((2 : Nat) : Int) (wI (by simp) (by omega) (by omega)) ?_;exact ⟨2, ⟨by omega, by omega⟩, by decide, ⟨rfl, rfl, rfl, rfl, trivial⟩, ⟨rfl, rfl, by unfold ofc fo; simp only [hr]; rfl, trivial⟩⟩
   ·refine .intro (by decide) (And.intro (by decide) ?_);refine ae (fun h2 => ?_) (fun h2 => ?_)
    ·refine X1 ((3 : Nat) : Int) (wI (by simp) (by omega) (by omega)) ?_;refine .intro (by decide) (And.intro (by decide) ?_);refine ae (fun h3 => ?_) (fun h3 => ?_)
     ·have hr : cE n2 n3 n4 n5 2 = cV (2, 1) (bV 2 n2 n3 n4 n3) := by
       show (if _ then _ else _) = _
       exact if_pos ⟨by omega, by omega⟩
      refine X1 _ (bl 2 (by omega)) ?_;refine X1 _ (yP n0 n1 n2 n3 n4 n5 (by omega) (by omega) m2 m3 m4 m5) ?_;refine X1 _ (p8 (aF (v := 2) (k := 63) (by decide) (by omega)) (pb 2 n4 n3 (by decide) (by omega) (by omega) (by omega) (by omega)) (by omega) (by omega)) ?_;refine .intro (by decide) (And.intro (by decide) ?_);refine .intro rfl ?_;refine X1 ((3 : Nat) : Int) (wI (by simp) (by omega) (by omega)) ?_;exact ⟨3, ⟨by omega, by omega⟩, by decide, ⟨rfl, rfl, rfl, rfl, trivial⟩, ⟨rfl, rfl, by unfold ofc fo; simp only [hr]; rfl, trivial⟩⟩
     ·have hr : cE n2 n3 n4 n5 2 = (0, 1) := by
       show (if _ then _ else _) = _
       exact if_neg (by omega)
      refine X1 ((3 : Nat) : Int) (wI (by simp) (by omega) (by omega)) ?_;exact ⟨3, ⟨by omega, by omega⟩, by decide, ⟨rfl, rfl, rfl, rfl, trivial⟩, ⟨rfl, rfl, by unfold ofc fo; simp only [hr]; rfl, trivial⟩⟩
    ·have hr : cE n2 n3 n4 n5 2 = (0, 1) := by
       show (if _ then _ else _) = _
       exact if_neg (by omega)
     refine X1 ((3 : Nat) : Int) (wI (by simp) (by omega) (by omega)) ?_;exact ⟨3, ⟨by omega, by omega⟩, by decide, ⟨rfl, rfl, rfl, rfl, trivial⟩, ⟨rfl, rfl, by unfold ofc fo; simp only [hr]; rfl, trivial⟩⟩
   ·refine .intro (by decide) (And.intro (by decide) ?_);refine ae (fun h2 => ?_) (fun h2 => ?_)
    ·refine X1 ((4 : Nat) : Int) (wI (by simp) (by omega) (by omega)) ?_;refine .intro (by decide) (And.intro (by decide) ?_);refine ae (fun h3 => ?_) (fun h3 => ?_)
     ·have hr : cE n2 n3 n4 n5 3 = cV (3, 1) (bV 3 n2 n3 n5 n4) := by
       show (if _ then _ else _) = _
       exact if_pos ⟨by omega, by omega⟩
      refine X1 _ (bl 3 (by omega)) ?_;refine X1 _ (yQ n0 n1 n2 n3 n4 n5 (by omega) (by omega) m2 m3 m4 m5) ?_;refine X1 _ (p8 (aF (v := 3) (k := 63) (by decide) (by omega)) (pb 3 n5 n4 (by decide) (by omega) (by omega) (by omega) (by omega)) (by omega) (by omega)) ?_;refine .intro (by decide) (And.intro (by decide) ?_);refine .intro rfl ?_;refine X1 ((4 : Nat) : Int) (wI (by simp) (by omega) (by omega)) ?_;exact ⟨4, ⟨by omega, by omega⟩, by decide, ⟨rfl, rfl, rfl, rfl, trivial⟩, ⟨rfl, rfl, by unfold ofc fo; simp only [hr]; rfl, trivial⟩⟩
     ·have hr : cE n2 n3 n4 n5 3 = (0, 1) := by
       show (if _ then _ else _) = _
       exact if_neg (by omega)
      refine X1 ((4 : Nat) : Int) (wI (by simp) (by omega) (by omega)) ?_;exact ⟨4, ⟨by omega, by omega⟩, by decide, ⟨rfl, rfl, rfl, rfl, trivial⟩, ⟨rfl, rfl, by unfold ofc fo; simp only [hr]; rfl, trivial⟩⟩
    ·have hr : cE n2 n3 n4 n5 3 = (0, 1) := by
       show (if _ then _ else _) = _
       exact if_neg (by omega)
     refine X1 ((4 : Nat) : Int) (wI (by simp) (by omega) (by omega)) ?_;exact ⟨4, ⟨by omega, by omega⟩, by decide, ⟨rfl, rfl, rfl, rfl, trivial⟩, ⟨rfl, rfl, by unfold ofc fo; simp only [hr]; rfl, trivial⟩⟩
  ·have e : k = 4 := by omega
   subst e;exact ⟨(), trivial, ⟨rfl, rfl, trivial⟩, ⟨rfl, rfl, trivial⟩⟩
 ·exact ⟨trivial, rc rfl, trivial⟩
def nz (p : Nat × Nat) : Nat × Nat := (p.1, dn p.2)
theorem p9 (p : Nat × Nat) : (nz p).2 ≠ 0 := fm p.2
theorem yR {p : Nat × Nat} (h : p.2 ≠ 0) : nz p = p := by unfold nz; rw [iX h]
theorem Bd.bg {k : Nat} {p : Nat × Nat} (h : Bd k (nz p)) : Bg k p :=
 ⟨h.n, Fz (show p.2 ≤ dn p.2 by unfold dn; split <;> omega) h.d⟩
theorem aw {k : Nat} {p : Nat × Nat} (h : Bd k p) : nz p = p := yR h.pos
theorem jl {n d : Nat} (h : d ≠ 0) : Nat.gcd (fR n d).1 (fR n d).2 = 1 := by
 have hg := Nat.gcd_pos_of_pos_right n (Ec h);show Nat.gcd (n / Nat.gcd n d) (d / Nat.gcd n d) = 1
 rw [Nat.gcd_div (Gh n d) (FG n d), Gp hg]
theorem uA {n d : Nat} (h : Nat.gcd n d = 1) : fR n d = (n, d) := by unfold fR; rw [h]; simp
theorem yS {p : Nat × Nat} (h : Nat.gcd p.1 p.2 = 1) : bE (0, 1) p = p := by
 have : bE (0, 1) p = fR p.1 p.2 := by unfold bE; simp
 rw [this, uA h]
theorem Cc {p q : Nat × Nat} (hp : p.2 ≠ 0) (hq : q.2 ≠ 0) (h : p.1 * q.2 < q.1 * p.2) : cV p q = (0, 1) := by
 unfold cV;rw [Nat.sub_eq_zero_of_le (Nat.le_of_lt h)];unfold fR;rw [FZ, GD, Gp (Ec (D6 hp hq))]
theorem Cd (p q : Nat × Nat) : AB p q = cV (nz p) (nz q) := by
 unfold AB;split
 ·rename_i h; exact (Cc (p9 p) (p9 q) h).symm
 ·rfl
theorem eq {k m : Nat} {p q : Nat × Nat} (h1 : Bd k (nz p)) (h2 : Bd m (nz q)) (hk : k ≤ 400000) (hm : m ≤ 400000) : Ct P 133 [qP p, qP q] [qP (cD (nz p) (nz q))] := AC h1.bg h2.bg (by omega) (by omega)
theorem AJ {k m : Nat} {p q : Nat × Nat} (h1 : Bd k (nz p)) (h2 : Bd m (nz q)) (hq : q.1 ≠ 0) (hk : k ≤ 400000) (hm : m ≤ 400000) : Ct P 26 [qP p, qP q] [qP (dN (nz p) (nz q)), .c (eI .i64 0)] := uz h1.bg h2.bg hq (by omega) (by omega)
theorem tK {k m : Nat} {p q : Nat × Nat} (h1 : Bd k (nz p)) (h2 : Bd m (nz q)) (hq : q.1 ≠ 0) (hk : k ≤ 400000) (hm : m ≤ 400000) : Ct P 132 [qP p, qP q] [qP (dN (nz p) (nz q))] := Ca h1.bg h2.bg hq (by omega) (by omega)
theorem kg {k m : Nat} {p q : Nat × Nat} (h1 : Bd k (nz p)) (h2 : Bd m (nz q)) (hk : k ≤ 400000) (hm : m ≤ 400000) : Ct P 52 [qP p, qP q] [qP (cV (nz p) (nz q))] := by
 rw [← Cd]; exact AD h1.bg h2.bg (by omega) (by omega)
theorem Bd.limq {k : Nat} {p : Nat × Nat} (h : Bd k (nz p)) (hk : k ≤ 2000000) : LimQ p.1 p.2 := h.bg.lim hk
theorem ck {k : Nat} {p : Nat × Nat} (h : Bd k p) (hk : k ≤ 2000000) : LimQ p.1 p.2 := Bd.limq (k := k) (by rw [aw h]; exact h) hk
theorem bd01 : Bd 1 (0, 1) := ⟨by decide, by decide, by decide⟩
theorem kh {k m : Nat} {p q : Nat × Nat} (h1 : Bd k (nz p)) (h2 : Bd m (nz q)) (r1 : Nat.gcd (nz p).1 (nz p).2 = 1) (hk : k + m < 2000000) : Ct P 116 [.c (.sl 2 (p7 [p, q]))] [qP (bE (nz p) (nz q))] := by
 have e1 : ci (0, 1) p = nz p := yS r1;have e2 : ci (nz p) q = bE (nz p) (nz q) := by
  show bE (nz (nz p)) (nz q) = _
  rw [yR (p9 p)]
 have b2 := eX h1 h2;have := uy [p, q] (by simp) (fun i hi => by
  match i, hi with
  | 0, _ => exact h1.limq (by omega)
  | 1, _ => exact h2.limq (by omega)) (fun i hi => by
  match i, hi with
  | 0, _ => exact ck bd01 (by omega)
  | 1, _ => show LimQ (ci (0, 1) p).1 (ci (0, 1) p).2; rw [e1]; exact ck h1 (by omega)
  | 2, _ => show LimQ (ci (ci (0, 1) p) q).1 (ci (ci (0, 1) p) q).2; rw [e1, e2]; exact ck b2 (by omega))
 have e : [p, q].foldl ci (0, 1) = bE (nz p) (nz q) := by
  show ci (ci (0, 1) p) q = _
  rw [e1, e2]
 rw [e] at this;exact this
theorem nE {k m : Nat} {p q : Nat × Nat} (h1 : Bd k (nz p)) (h2 : Bd m (nz q)) (r1 : Nat.gcd (nz p).1 (nz p).2 = 1) (hk : k ≤ 400000) (hm : m ≤ 400000) : Ct P 116 [.c (.sl 2 (p7 [p, q]))] [qP (bE (nz p) (nz q))] := kh h1 h2 r1 (by omega)
theorem rO {k m n : Nat} {p q r : Nat × Nat} (h1 : Bd k (nz p)) (h2 : Bd m (nz q)) (h3 : Bd n (nz r)) (r1 : Nat.gcd (nz p).1 (nz p).2 = 1) (hk : k ≤ 400000) (hm : m ≤ 400000) (hn : n ≤ 400000) : Ct P 116 [.c (.sl 2 (p7 [p, q, r]))] [qP (bE (bE (nz p) (nz q)) (nz r))] := by
 have e1 : ci (0, 1) p = nz p := yS r1;have e2 : ci (nz p) q = bE (nz p) (nz q) := by
  show bE (nz (nz p)) (nz q) = _
  rw [yR (p9 p)]
 have b2 := eX h1 h2;have e3 : ci (bE (nz p) (nz q)) r = bE (bE (nz p) (nz q)) (nz r) := by
  show bE (nz (bE (nz p) (nz q))) (nz r) = _
  rw [aw b2]
 have b3 := eX b2 h3;have := uy [p, q, r] (by simp) (fun i hi => by
  match i, hi with
  | 0, _ => exact h1.limq (by omega)
  | 1, _ => exact h2.limq (by omega)
  | 2, _ => exact h3.limq (by omega)) (fun i hi => by
  match i, hi with
  | 0, _ => exact ck bd01 (by omega)
  | 1, _ => show LimQ (ci (0, 1) p).1 (ci (0, 1) p).2; rw [e1]; exact ck h1 (by omega)
  | 2, _ => show LimQ (ci (ci (0, 1) p) q).1 (ci (ci (0, 1) p) q).2; rw [e1, e2]; exact ck b2 (by omega)
  | 3, _ => show LimQ (ci (ci (ci (0, 1) p) q) r).1 (ci (ci (ci (0, 1) p) q) r).2; rw [e1, e2, e3]; exact ck b3 (by omega))
 have e : [p, q, r].foldl ci (0, 1) = bE (bE (nz p) (nz q)) (nz r) := by
  show ci (ci (ci (0, 1) p) q) r = _
  rw [e1, e2, e3]
 rw [e] at this;exact this
theorem cI (n : Nat) (hn : n < 9223372036854775808) : Ct P 131 [.c (nI .i64 n)] [qP (n, 1)] := by
 have := yG (n : Int) (by omega);unfold wh at this;simpa using this
abbrev c7 (n0 n1 n2 n3 n4 n5 : Nat) : A1 := .ag [nI .i64 n0, nI .i64 n1, nI .i64 0, nI .i64 n2, nI .i64 n3, nI .i64 n4, nI .i64 n5]
theorem nz1 (n : Nat) : nz (n, 1) = (n, 1) := rfl
theorem bd1 {n : Nat} (h : n < 9223372036854775808) : Bd 63 (nz (n, 1)) := aF h (by omega)
def yT (p1 p2 p3 : Nat × Nat) (n0 n2 n3 : Nat) : Nat × Nat := bE (bE (cD (n2, 1) p1) (cD (n3, 1) p2)) (cD (n0 - n2 - n3, 1) p3)
theorem AK {k : Nat} (p0 p1 p2 p3 : Nat × Nat) (n0 n1 n2 n3 n4 n5 : Nat) (b1 : Bd k (nz p1)) (b2 : Bd k (nz p2)) (b3 : Bd k (nz p3)) (hk : k ≤ 100000) (m0 : n0 < 4611686018427387904) (m2 : n2 + n3 ≤ n0) :
  Ct P 190 [gS p0 p1 p2 p3, c7 n0 n1 n2 n3 n4 n5] [qP (yT (nz p1) (nz p2) (nz p3) n0 n2 n3)] := by
 have i0 : Bd 63 (nz (n0 - n2 - n3, 1)) := bd1 (by omega);have i2 : Bd 63 (nz (n2, 1)) := bd1 (by omega);have i3 : Bd 63 (nz (n3, 1)) := bd1 (by omega);have f1 := bu i2 b1;have f2 := bu i3 b2;have f4 := bu i0 b3;have g1 : Bd (63 + k) (nz (cD (nz (n2, 1)) (nz p1))) := by rw [aw f1]; exact f1
 have g2 : Bd (63 + k) (nz (cD (nz (n3, 1)) (nz p2))) := by rw [aw f2]; exact f2
 have g4 : Bd (63 + k) (nz (cD (nz (n0 - n2 - n3, 1)) (nz p3))) := by rw [aw f4]; exact f4
 have hr : Nat.gcd (nz (cD (nz (n2, 1)) (nz p1))).1 (nz (cD (nz (n2, 1)) (nz p1))).2 = 1 := by
  rw [aw f1]; exact jl (D6 i2.pos b1.pos)
 have hadd := rO g1 g2 g4 hr (by omega) (by omega) (by omega);rw [aw f1, aw f2, aw f4] at hadd;refine Ct.go (Ty.own_ok [1000001] aj) aa (N := 42) Tryz.func190 rfl rfl rfl rfl ?_;refine .intro (by decide) (And.intro (by decide) ?_);refine X1 _ (cI n2 (by omega)) ?_;refine .intro (by decide) (And.intro (by decide) ?_);refine X1 _ (eq i2 b1 (by omega) (by omega)) ?_;refine .intro rfl ?_;refine .intro (by decide) (And.intro (by decide) ?_);refine X1 _ (cI n3 (by omega)) ?_;refine .intro (by decide) (And.intro (by decide) ?_);refine X1 _ (eq i3 b2 (by omega) (by omega)) ?_;refine .intro rfl ?_;refine .intro (by decide) (And.intro (by decide) ?_);refine X1 ((n0 - n2 : Nat) : Int) (wI (by omega) (by omega) (by omega)) ?_;refine .intro (by decide) (And.intro (by decide) ?_);refine X1 ((n0 - n2 - n3 : Nat) : Int) (wI (by omega) (by omega) (by omega)) ?_;refine X1 _ (cI (n0 - n2 - n3) (by omega)) ?_;refine .intro (by decide) (And.intro (by decide) ?_);refine X1 _ (eq i0 b3 (by omega) (by omega)) ?_;refine X1 _ hadd ?_;refine .intro rfl ?_;exact ⟨trivial, rc rfl, trivial⟩
theorem vN {k : Nat} (p0 p1 p2 p3 : Nat × Nat) (n0 n1 n2 n3 n4 n5 : Nat) (b1 : Bd k (nz p1)) (b2 : Bd k (nz p2)) (b3 : Bd k (nz p3)) (hk : k ≤ 100000) (m0 : n0 < 4611686018427387904) (m1 : n1 ≤ 4611686018427387904) (m2 : n2 + n3 ≤ n0) :
  Ct P 184 [gS p0 p1 p2 p3, c7 n0 n1 n2 n3 n4 n5] [qP (nD (nz p1) (nz p2) (nz p3) n0 n1 n2 n3)] := by
 have i1 : Bd 63 (nz (n1, 1)) := bd1 (by omega);have f5 : Bd (63 + k + (63 + k) + 1 + (63 + k) + 1) (yT (nz p1) (nz p2) (nz p3) n0 n2 n3) := eX (eX (bu (bd1 (n := n2) (by omega)) b1) (bu (bd1 (n := n3) (by omega)) b2)) (bu (bd1 (n := n0 - n2 - n3) (by omega)) b3);have g5 := f5;rw [← aw f5] at g5;refine Ct.go (Ty.own_ok [1000001] aj) aa (N := 16) Tryz.func184 rfl rfl rfl rfl ?_;refine ae (fun h0 => ?_) (fun h0 => ?_)
 ·rw [nD, if_pos (by omega)];refine X1 _ (bS 1 (by omega)) ?_;exact ⟨trivial, rc rfl, trivial⟩
 ·rw [nD, if_neg (by omega)];refine X1 _ (AK p0 p1 p2 p3 n0 n1 n2 n3 n4 n5 b1 b2 b3 hk m0 m2) ?_;refine X1 _ (cI n1 (by omega)) ?_;refine X1 _ (tK g5 i1 (by show n1 ≠ 0; omega) (by omega) (by omega)) ?_;refine .intro rfl ?_;rw [aw f5];exact ⟨trivial, rc rfl, trivial⟩
theorem C8 {P : Program} {N : Nx} {E : Env} {O : Objs} {c : Code} {Q : PQ} {k : Nat} {cells cells' : List PC} (hk : O.get k = some (.var cells)) (hl : leL cells cells') (h : WI P N E (O.set k (.var cells')) c Q) : WI P N E O c Q :=
 WI.step (fun X K ok w a hs => by
  have hsub : ∀ t o, (O.set k (.var cells')).get t = some o → ∃ o', O.get t = some o' := fun t o h => by
   rw [Objs.get_set] at h;split at h
   ·rename_i e; subst e; exact ⟨_, hk⟩
   ·exact ⟨o, h⟩
  refine ⟨K, ok, ⟨hs.size, hs.defers, hs.base, hs.rnd, hs.old, ⟨fun t o g => ?_, fun t t' o o' b L L' g1 g2 => ?_, fun t o b L g => ?_, hs.hp.lt, hs.hp.hlt, hs.hp.hok, fun t o b L g => ?_⟩, hs.env⟩,
   DI _, fun _ _ _ _ => rfl, fun _ h => h, fun _ h => .inl h, fun t o b L g1 g2 => by obtain ⟨o', g3⟩ := hsub t o g1; exact .inr ⟨t, o', L, g3, g2⟩, rfl, rfl, rfl, fun _ o h => ⟨o, h, SK.refl o⟩, fun _ _ => rfl, fun _ h => .inl h⟩
  ·rw [Objs.get_set] at g;split at g
   ·rename_i e;subst e;cases g;obtain ⟨b, cs, e, fr, a1, a2, a3, a4⟩ := hs.hp.obs k _ hk;exact ⟨b, cs, e, fr, a1, a2, a3, leL.rel hl a4⟩
   ·exact hs.hp.obs t o g
  ·obtain ⟨p, q1⟩ := hsub t o g1;obtain ⟨p', q2⟩ := hsub t' o' g2;exact hs.hp.inj t t' p p' b L L' q1 q2
  ·obtain ⟨p, q1⟩ := hsub t o g; exact hs.hp.apart t p b L q1
  ·obtain ⟨p, q1⟩ := hsub t o g; exact hs.hp.how t p b L q1) h
theorem dp (sz : Nat) : leP (.sc (.slice none 0 0)) (.sl sz []) := .inr ⟨rfl, sz, rfl⟩
theorem yU {m n : Nat} {X Y : Prop} (h1 : m = n → X) (h2 : m ≠ n → Y) : BM X Y (m == n) := aM (fun h => h1 (by simpa using h)) (fun h => h2 (by simpa using h))
def cN (n2 n3 n4 n5 : Nat) : Nat → Nat
 | 1 => n2
 | 2 => n3
 | 3 => n4
 | 4 => n5
 | _ => 0
theorem g9 (n0 n1 n2 n3 n4 n5 k : Nat) (h1 : 1 ≤ k) (h2 : k ≤ 4) (m2 : n2 ≤ 1000000) (m3 : n3 ≤ 1000000) (m4 : n4 ≤ 1000000) (m5 : n5 ≤ 1000000) :
  Ct P 130 [.c (nI .i64 k), .c (.rd [nI .i64 n0, nI .i64 n1, nI .i64 0, nI .i64 n2, nI .i64 n3, nI .i64 n4, nI .i64 n5])] [qP (cN n2 n3 n4 n5 k, 1)] := by
 refine Ct.go aj aa (N := 9) Tryz.func130 rfl rfl rfl rfl ?_;have hk : k = 1 ∨ k = 2 ∨ k = 3 ∨ k = 4 := by omega
 rcases hk with rfl | rfl | rfl | rfl
 ·refine .intro (by decide) (And.intro (by decide) ?_);exact X1 _ (cI n2 (by omega)) ⟨trivial, rc rfl, trivial⟩
 ·refine .intro (by decide) (And.intro (by decide) ?_);exact X1 _ (cI n3 (by omega)) ⟨trivial, rc rfl, trivial⟩
 ·refine .intro (by decide) (And.intro (by decide) ?_);exact X1 _ (cI n4 (by omega)) ⟨trivial, rc rfl, trivial⟩
 ·refine .intro (by decide) (And.intro (by decide) ?_);exact X1 _ (cI n5 (by omega)) ⟨trivial, rc rfl, trivial⟩
def dC (n2 n3 n4 n5 k : Nat) : Nat × Nat := if n2 = 0 ∨ cN n2 n3 n4 n5 k = 0 then (0, 0) else cV (k, 1) (bV k n2 n3 (cN n2 n3 n4 n5 (k + 1)) (cN n2 n3 n4 n5 k))
theorem qa {n2 n3 : Nat} (k a b : Nat) (hk : k + 1 < 2 ^ 63) (h2 : n2 ≠ 0) (hb : b ≠ 0) (m2 : n2 ≤ 1000000) (m3 : n3 ≤ 1000000) (ha : a ≤ 1000000) (hb' : b ≤ 1000000) : Bd 400 (bV k n2 n3 a b) := by
 have j1 : Bd 63 (n2, 1) := aF (by omega) (by omega);have j2 : Bd 63 (n2 + 2 * n3, 1) := aF (by omega) (by omega);have y := cj j1 j2 (by show n2 + 2 * n3 ≠ 0; omega);exact (bu (bu (aF (v := k + 1) (k := 63) hk (by omega)) y) (cj (aF (v := a) (k := 63) (by omega) (by omega)) (aF (v := b) (k := 63) (by omega) (by omega)) hb)).le (by omega)
theorem yV {n2 n3 n4 n5 : Nat} (m2 : n2 ≤ 1000000) (m3 : n3 ≤ 1000000) (m4 : n4 ≤ 1000000) (m5 : n5 ≤ 1000000) (k : Nat) : cN n2 n3 n4 n5 k ≤ 1000000 := by
 unfold cN; split <;> omega
theorem uB {n2 n3 n4 n5 : Nat} (m2 : n2 ≤ 1000000) (m3 : n3 ≤ 1000000) (m4 : n4 ≤ 1000000) (m5 : n5 ≤ 1000000) (k : Nat) (h1 : 1 ≤ k) (h3 : k ≤ 3) : nz (dC n2 n3 n4 n5 k) = cE n2 n3 n4 n5 k := by
 have key : ∀ j, 1 ≤ j → j ≤ 3 → (n2 ≠ 0 ∧ cN n2 n3 n4 n5 j ≠ 0 → nz (cV (j, 1) (bV j n2 n3 (cN n2 n3 n4 n5 (j + 1)) (cN n2 n3 n4 n5 j))) = cV (j, 1) (bV j n2 n3 (cN n2 n3 n4 n5 (j + 1)) (cN n2 n3 n4 n5 j))) := fun j hj hj3 h =>
  aw (mu (aF (v := j) (k := 63) (by omega) (by omega)) (qa j _ _ (by omega) h.1 h.2 m2 m3 (yV m2 m3 m4 m5 _) (yV m2 m3 m4 m5 _)))
 have h0 : nz (0, 0) = (0, 1) := rfl;have hk := key k h1 h3;unfold dC;have hkk : k = 1 ∨ k = 2 ∨ k = 3 := by omega
 rcases hkk with rfl | rfl | rfl <;>
 ·simp only [cN, cE, bV] at hk ⊢;split
  ·rename_i h;rw [h0, if_neg (by omega)]
  ·rename_i h;rw [hk (by omega), if_pos (by omega)]
def qb (n2 n3 n4 n5 j k : Nat) : Nat × Nat := if j < k then dC n2 n3 n4 n5 j else (0, 0)
def ofR (n2 n3 n4 n5 k : Nat) : List PC := [nSl .u64 [], nSl .u64 [], nSl .u64 (dg 18446744073709551616 (qb n2 n3 n4 n5 1 k).1), nSl .u64 (dg 18446744073709551616 (qb n2 n3 n4 n5 1 k).2), nSl .u64 (dg 18446744073709551616 (qb n2 n3 n4 n5 2 k).1), nSl .u64 (dg 18446744073709551616 (qb n2 n3 n4 n5 2 k).2), nSl .u64 (dg 18446744073709551616 (qb n2 n3 n4 n5 3 k).1), nSl .u64 (dg 18446744073709551616 (qb n2 n3 n4 n5 3 k).2)]
theorem Ce (a b : Nat) (h : a + 2 * b < 4611686018427387904) : bE (bE (nz (a, 1)) (nz (b, 1))) (nz (b, 1)) = (a + 2 * b, 1) := by
 have e : ∀ x y, bE (x, 1) (y, 1) = (x + y, 1) := fun x y => by
  unfold bE;simp only [E6];exact uA (Gs _)
 rw [nz1, nz1, e, e];congr 1;omega
theorem Cf (n0 n1 n2 n3 n4 n5 : Nat) (m2 : n2 ≤ 1000000) (m3 : n3 ≤ 1000000) (m4 : n4 ≤ 1000000) (m5 : n5 ≤ 1000000) : Ct P 85 [c7 n0 n1 n2 n3 n4 n5] [gS (0, 0) (dC n2 n3 n4 n5 1) (dC n2 n3 n4 n5 2) (dC n2 n3 n4 n5 3)] := by
 have hcN := yV m2 m3 m4 m5;refine Ct.go (Ty.own_ok [1000001] aj) aa (N := 54) Tryz.func85 rfl rfl rfl rfl ?_;refine X1 [.ad 1 0] rfl ?_;refine X2 .frz ?_;refine X1 _ (g9 n0 n1 n2 n3 n4 n5 1 (by omega) (by omega) m2 m3 m4 m5) ?_;refine X1 _ (kf n2 1 (DM (ct (k := 1) (by omega) (by omega)) (by omega))) ?_;refine yU (fun h0 => ?_) (fun h0 => ?_)
 ·have hr : ∀ k, dC n2 n3 n4 n5 k = (0, 0) := fun k => by unfold dC; rw [if_pos (.inl h0)]
  have hd : dg 18446744073709551616 0 = [] := bs _;have hg : gS (0, 0) (0, 0) (0, 0) (0, 0) = .ag [nSl .u64 [], nSl .u64 [], nSl .u64 [], nSl .u64 [], nSl .u64 [], nSl .u64 [], nSl .u64 [], nSl .u64 []] := by simp only [gS, hd]
  rw [hr, hr, hr, hg];refine ⟨trivial, ⟨_, rfl, ?_⟩, trivial⟩;exact ⟨dp 1, dp 1, dp 1, dp 1, dp 1, dp 1, dp 1, dp 1, trivial⟩
 ·refine X1 _ (g9 n0 n1 n2 n3 n4 n5 1 (by omega) (by omega) m2 m3 m4 m5) ?_;refine X1 _ (g9 n0 n1 n2 n3 n4 n5 1 (by omega) (by omega) m2 m3 m4 m5) ?_;refine X1 _ (g9 n0 n1 n2 n3 n4 n5 2 (by omega) (by omega) m2 m3 m4 m5) ?_;refine X1 _ (g9 n0 n1 n2 n3 n4 n5 2 (by omega) (by omega) m2 m3 m4 m5) ?_;refine X2 .frz ?_;have hadd := rO (bd1 (n := n2) (by omega)) (bd1 (n := n3) (by omega)) (bd1 (n := n3) (by omega)) (Gs _) (by omega) (by omega) (by omega);rw [Ce n2 n3 (by omega)] at hadd;refine X1 _ hadd ?_;have j1 : Bd 63 (nz (n2, 1)) := bd1 (by omega);have j2 : Bd 63 (nz (n2 + 2 * n3, 1)) := bd1 (by omega);refine X1 _ (tK j1 j2 (by show n2 + 2 * n3 ≠ 0; omega) (by omega) (by omega)) ?_;have y := cj j1 j2 (by show n2 + 2 * n3 ≠ 0; omega);refine C8 (k := 3) (cells' := ofR n2 n3 n4 n5 1) rfl ?_ ?_
  ·have hd : dg 18446744073709551616 0 = [] := bs _;have e : ∀ j, 1 ≤ j → qb n2 n3 n4 n5 j 1 = (0, 0) := fun j hj => if_neg (by omega)
   have hg : ofR n2 n3 n4 n5 1 = [nSl .u64 [], nSl .u64 [], nSl .u64 [], nSl .u64 [], nSl .u64 [], nSl .u64 [], nSl .u64 [], nSl .u64 []] := by
    unfold ofR;rw [e 1 (by omega), e 2 (by omega), e 3 (by omega)];simp only [hd]
   rw [hg];exact ⟨dp 1, dp 1, dp 1, dp 1, dp 1, dp 1, dp 1, dp 1, trivial⟩
  refine ar (Ty.own_ok [1000001] aj) aa (fun k : Nat => 1 ≤ k ∧ k ≤ 4) (fun k => [(2, .c (.ad 2 0)), (3, .c (.ad 3 0)), (4, .c (.fn 130 [.rd [nI .i64 n0, nI .i64 n1, nI .i64 0, nI .i64 n2, nI .i64 n3, nI .i64 n4, nI .i64 n5]])), (5, .c (.ad 5 0)), (6, .c (nI .i64 k))])
   (fun k => [(2, .var (List.replicate 8 (.sc (.slice none 0 0)))), (3, .var (ofR n2 n3 n4 n5 k)), (5, .var [nSl .u64 (dg 18446744073709551616 (dN (nz (n2, 1)) (nz (n2 + 2 * n3, 1))).1), nSl .u64 (dg 18446744073709551616 (dN (nz (n2, 1)) (nz (n2 + 2 * n3, 1))).2)])]) (fun k => 4 - k)
   1 ⟨by omega, by omega⟩ ⟨rfl, rfl, rfl, rfl, rfl, trivial⟩ ⟨rfl, rfl, rfl, trivial⟩ (fun _ : Unit => True) (fun _ => [(2, .c (.ad 2 0)), (3, .c (.ad 3 0))]) (fun _ => [(2, .var (List.replicate 8 (.sc (.slice none 0 0)))), (3, .var (ofR n2 n3 n4 n5 4))]) (fun k hi => ?_) (fun _ _ => ?_)
  ·obtain ⟨i1, i2⟩ := hi;refine ae (fun h1 => ?_) (fun h1 => ?_)
   ·refine X1 _ (g9 n0 n1 n2 n3 n4 n5 k (by omega) (by omega) m2 m3 m4 m5) ?_;have c1 := hcN k;have c2 := hcN (k + 1);refine X1 _ (kf (cN n2 n3 n4 n5 k) 1 (DM (ct (k := 1) (by omega) (by omega)) (by omega))) ?_;refine yU (fun h2 => ?_) (fun h2 => ?_)
    ·have hr : dC n2 n3 n4 n5 k = (0, 0) := by unfold dC; rw [if_pos (.inr h2)]
     refine X1 ((k + 1 : Nat) : Int) (wI (by simp) (by omega) (by omega)) ?_;refine ⟨k + 1, ⟨by omega, by omega⟩, by show 4 - (k + 1) < 4 - k; omega, ⟨rfl, rfl, rfl, rfl, rfl, trivial⟩, ⟨rfl, ?_, rfl, trivial⟩⟩;have hk : k = 1 ∨ k = 2 ∨ k = 3 := by omega
     rcases hk with rfl | rfl | rfl <;> (unfold ofR qb; simp only [hr]; rfl)
    ·have hr : dC n2 n3 n4 n5 k = cV (k, 1) (bV k n2 n3 (cN n2 n3 n4 n5 (k + 1)) (cN n2 n3 n4 n5 k)) := by unfold dC; rw [if_neg (by omega)]
     have pb := qa k (cN n2 n3 n4 n5 (k + 1)) (cN n2 n3 n4 n5 k) (by omega) h0 h2 m2 m3 c2 c1;have hk1 : Bd 63 (nz (k + 1, 1)) := bd1 (by omega);have hyz : nz (dN (nz (n2, 1)) (nz (n2 + 2 * n3, 1))) = dN (nz (n2, 1)) (nz (n2 + 2 * n3, 1)) := aw y;have y' := y;rw [← hyz] at y';have ha : Bd 63 (nz (cN n2 n3 n4 n5 (k + 1), 1)) := bd1 (by omega);have hb : Bd 63 (nz (cN n2 n3 n4 n5 k, 1)) := bd1 (by omega);have q1 := bu hk1 y';have q1' := q1;rw [← aw q1] at q1';have q2 := cj ha hb h2;have q2' := q2;rw [← aw q2] at q2';have hpe : cD (nz (cD (nz (k + 1, 1)) (nz (dN (nz (n2, 1)) (nz (n2 + 2 * n3, 1)))))) (nz (dN (nz (cN n2 n3 n4 n5 (k + 1), 1)) (nz (cN n2 n3 n4 n5 k, 1)))) = bV k n2 n3 (cN n2 n3 n4 n5 (k + 1)) (cN n2 n3 n4 n5 k) := by
      rw [aw q1, aw q2, hyz]; rfl
     refine X1 ((k + 1 : Nat) : Int) (wI (by simp) (by omega) (by omega)) ?_;refine X1 _ (cI (k + 1) (by omega)) ?_;refine X1 _ (eq hk1 y' (by omega) (by omega)) ?_;refine X1 ((k + 1 : Nat) : Int) (wI (by simp) (by omega) (by omega)) ?_;refine X1 _ (g9 n0 n1 n2 n3 n4 n5 (k + 1) (by omega) (by omega) m2 m3 m4 m5) ?_;refine X1 _ (g9 n0 n1 n2 n3 n4 n5 k (by omega) (by omega) m2 m3 m4 m5) ?_;refine X1 _ (tK ha hb h2 (by omega) (by omega)) ?_;refine X1 _ (eq q1' q2' (by omega) (by omega)) ?_;refine .intro rfl ?_;rw [hpe];refine X1 _ (cI k (by omega)) ?_;have pb' := pb;rw [← aw pb] at pb';refine X1 _ (kg (bd1 (n := k) (by omega)) pb' (by omega) (by omega)) ?_;rw [aw pb, nz1 k, ← hr];have hk : k = 1 ∨ k = 2 ∨ k = 3 := by omega
     rcases hk with rfl | rfl | rfl
     ·refine .intro (by decide) (And.intro (by decide) ?_);refine .intro rfl ?_;refine X1 ((2 : Nat) : Int) (wI (by simp) (by omega) (by omega)) ?_;exact ⟨2, ⟨by omega, by omega⟩, by decide, ⟨rfl, rfl, rfl, rfl, rfl, trivial⟩, ⟨rfl, rfl, rfl, trivial⟩⟩
     ·refine .intro (by decide) (And.intro (by decide) ?_);refine .intro rfl ?_;refine X1 ((3 : Nat) : Int) (wI (by simp) (by omega) (by omega)) ?_;exact ⟨3, ⟨by omega, by omega⟩, by decide, ⟨rfl, rfl, rfl, rfl, rfl, trivial⟩, ⟨rfl, rfl, rfl, trivial⟩⟩
     ·refine .intro (by decide) (And.intro (by decide) ?_);refine .intro rfl ?_;refine X1 ((4 : Nat) : Int) (wI (by simp) (by omega) (by omega)) ?_;exact ⟨4, ⟨by omega, by omega⟩, by decide, ⟨rfl, rfl, rfl, rfl, rfl, trivial⟩, ⟨rfl, rfl, rfl, trivial⟩⟩
   ·have e : k = 4 := by omega
    subst e;exact ⟨(), trivial, ⟨rfl, rfl, trivial⟩, ⟨rfl, rfl, trivial⟩⟩
  ·have hd : dg 18446744073709551616 0 = [] := bs _;have e : ∀ j, j < 4 → qb n2 n3 n4 n5 j 4 = dC n2 n3 n4 n5 j := fun j hj => if_pos hj
   have hg : gS (0, 0) (dC n2 n3 n4 n5 1) (dC n2 n3 n4 n5 2) (dC n2 n3 n4 n5 3) = .ag (ofR n2 n3 n4 n5 4) := by
    unfold ofR;rw [e 1 (by omega), e 2 (by omega), e 3 (by omega)];simp only [gS, hd]
   rw [hg];exact ⟨trivial, rc rfl, trivial⟩
def l8 (words w : Int) : Bool := decide (w < 0) || decide (w ≥ words)
def gW (words : Int) (g : List Int) : Int := if g.any (l8 words) = true then 8 else if idx 1 (g.drop 1) ≥ 0 then 10 else 0
def kwL (words : Int) : List Cnt → Int
 | [] => 0
 | x :: l => if gW words x.1 ≠ 0 then gW words x.1 else kwL words l
def hG (words : Int) : List (List Cnt) → Int
 | [] => 0
 | l :: ls => if kwL words l ≠ 0 then kwL words l else hG words ls
theorem Cg {words : Int} {l : List Cnt} {i : Nat} (h : i < l.length) {v : Int} (hv : gW words l[i].1 = v) (h0 : v ≠ 0) : kwL words (l.drop i) = v := by
 rw [D8 h, kwL, hv, if_pos h0]
theorem yW {words : Int} {l : List Cnt} {i : Nat} (h : i < l.length) (hv : gW words l[i].1 = 0) : kwL words (l.drop i) = kwL words (l.drop (i + 1)) := by
 rw [D8 h, kwL, hv, if_neg (by simp)]
theorem AL {words : Int} {L : List (List Cnt)} {n : Nat} (h : n < L.length) {v : Int} (hv : kwL words L[n] = v) (h0 : v ≠ 0) : hG words (L.drop n) = v := by
 rw [D8 h, hG, hv, if_pos h0]
theorem vO {words : Int} {L : List (List Cnt)} {n : Nat} (h : n < L.length) (hv : kwL words L[n] = 0) : hG words (L.drop n) = hG words (L.drop (n + 1)) := by
 rw [D8 h, hG, hv, if_neg (by simp)]
theorem vP (L : List (List Cnt)) (words : Int) (hL : CCForm L) : Ct P 84 [.c (cB L), .c (eI .i64 words)] [.c (eI .i64 (hG words L))] := by
 have hll := hL.lim.len;refine Ct.go aj aa (N := 44) Tryz.func84 rfl rfl rfl rfl ?_;refine .intro (by rw [ax]; omega) ?_;rw [ax];refine ar aj aa (fun n : Nat => n ≤ L.length ∧ hG words L = hG words (L.drop n)) (fun n => [(1, .c (eI .i64 words)), (11, .c (cB L)), (12, .c (nI .i64 L.length)), (13, .c (nI .i64 n))]) (fun _ => []) (fun n => L.length - n)
  0 ⟨by omega, rfl⟩ ⟨rfl, rfl, rfl, rfl, trivial⟩ trivial (fun _ : Unit => hG words L = 0) (fun _ => []) (fun _ => []) (fun n hi => ?_) (fun _ he => ?_)
 ·obtain ⟨h2, h3⟩ := hi;refine ae (fun h4 => ?_) (fun h4 => ?_)
  ·have hn : n < L.length := by omega
   have hl := hL.lim.at' hn;have hlen := hl.len;have hform := hL.form n hn;have hget := cu (l := L) (i := (n : Int)) (n := n) rfl hn;have hof := fun v => AL (words := words) (n := n) (L := L) hn (v := v)
   have hnext := vO (words := words) (n := n) (L := L) hn;generalize L[n] = l at *
   refine .intro (by omega) (X1 _ hget ?_);refine .intro (by rw [cRow_len]; omega) ?_;rw [cRow_len];refine b8 aj aa (fun i : Nat => i ≤ l.length ∧ kwL words l = kwL words (l.drop i)) (fun i => [(1, .c (eI .i64 words)), (11, .c (cB L)), (12, .c (nI .i64 L.length)), (13, .c (nI .i64 n)), (17, .c (cSl l)), (18, .c (nI .i64 l.length)), (19, .c (nI .i64 i))]) (fun _ => []) (fun i => l.length - i)
    0 ⟨by omega, rfl⟩ ⟨rfl, rfl, rfl, rfl, rfl, rfl, rfl, trivial⟩ trivial (fun i hi => ?_)
   obtain ⟨i1, i2⟩ := hi;refine ae (fun h5 => ?_) (fun h5 => ?_)
   ·have hi : i < l.length := by omega
    have hxl := hl.at' hi;have hxf := hform i hi;have hx := bD (l := l) (i := (i : Int)) (n := i) rfl hi;have kof := fun v => Cg (words := words) hi (v := v)
    have knext := yW (words := words) hi;generalize l[i] = x at *
    refine .intro (by omega) (X1 _ hx ?_);refine .intro (by rw [ai]; omega) ?_;rw [ai];refine ar aj aa (fun j : Nat => j ≤ x.1.length ∧ ∀ q : Nat, q < j → l8 words (x.1.getD q 0) = false) (fun j => [(1, .c (eI .i64 words)), (8, .c (.ad 8 0)), (11, .c (cB L)), (12, .c (nI .i64 L.length)), (13, .c (nI .i64 n)), (17, .c (cSl l)), (18, .c (nI .i64 l.length)), (19, .c (nI .i64 i)), (24, .c (iSl x.1)), (25, .c (nI .i64 x.1.length)), (26, .c (nI .i64 j))])
     (fun _ => [(8, .var [iSl x.1, eI .i64 x.2])]) (fun j => x.1.length - j) 0 ⟨by omega, fun q hq => by omega⟩ ⟨rfl, rfl, rfl, rfl, rfl, rfl, rfl, rfl, rfl, rfl, rfl, trivial⟩ ⟨rfl, trivial⟩
     (fun _ : Unit => x.1.any (l8 words) = false) (fun _ => [(1, .c (eI .i64 words)), (8, .c (.ad 8 0)), (11, .c (cB L)), (12, .c (nI .i64 L.length)), (13, .c (nI .i64 n)), (17, .c (cSl l)), (18, .c (nI .i64 l.length)), (19, .c (nI .i64 i))])
     (fun _ => [(8, .var [iSl x.1, eI .i64 x.2])]) (fun j hj => ?_) (fun _ hany => ?_)
    ·obtain ⟨j1, j2⟩ := hj;refine ae (fun h6 => ?_) (fun h6 => ?_)
     ·have hj : j < x.1.length := by omega
      refine .intro (by omega) (X1 _ (ba rfl hj) ?_);have r8 : l8 words (x.1.getD j 0) = true → hG words L = 8 := fun hb => by
       have : gW words x.1 = 8 := by
        unfold gW;rw [if_pos];rw [EZ];exact ⟨x.1.getD j 0, by simp [DG, hj], hb⟩
       rw [h3, hof 8 (by rw [i2, kof 8 this (by decide)]) (by decide)]
      refine ae (fun h7 => ?_) (fun h7 => ?_)
      ·exact ⟨trivial, r1 (iE (by rw [r8 (by unfold l8; rw [decide_eq_true h7]; rfl)])), trivial⟩
      ·refine ae (fun h8 => ?_) (fun h8 => ?_)
       ·exact ⟨trivial, r1 (iE (by rw [r8 (by unfold l8; rw [decide_eq_true h8, Bool.or_true])])), trivial⟩
       ·refine X1 ((j + 1 : Nat) : Int) (wI (by simp) (by omega) (by omega)) ?_;refine ⟨j + 1, ⟨by omega, fun q hq => ?_⟩, by omega, ⟨rfl, rfl, rfl, rfl, rfl, rfl, rfl, rfl, rfl, rfl, rfl, trivial⟩, ⟨rfl, trivial⟩⟩;by_cases e : q = j
        ·subst e; unfold l8; rw [decide_eq_false h7, decide_eq_false h8]; rfl
        ·exact j2 q (by omega)
     ·refine ⟨(), ?_, ⟨rfl, rfl, rfl, rfl, rfl, rfl, rfl, rfl, trivial⟩, ⟨rfl, trivial⟩⟩;rw [List.any_eq_false];intro w hw;obtain ⟨q, hq, rfl⟩ := List.getElem_of_mem hw;have := j2 q (by omega);rw [DG, D7 hq] at this;simpa using this
    ·refine ⟨1, x.1.length, by simp, by simp [ai], by omega, by rw [ai]; omega, ?_⟩;rw [iRow_sub, Em (show (x.1.drop 1).length ≤ x.1.length - 1 by rw [Eo]; exact DI _)];refine X1 _ (gV (x.1.drop 1) 1 (by rw [Eo]; omega)) ?_;refine ae (fun h7 => ?_) (fun h7 => ?_)
     ·have : gW words x.1 = 10 := by unfold gW; rw [if_neg (by rw [hany]; simp), if_pos h7]
      exact ⟨trivial, r1 (iE (by rw [h3, hof 10 (by rw [i2, kof 10 this (by decide)]) (by decide)])), trivial⟩
     ·have : gW words x.1 = 0 := by unfold gW; rw [if_neg (by rw [hany]; simp), if_neg h7]
      refine X1 ((i + 1 : Nat) : Int) (wI1 (by omega)) ?_;exact ⟨i + 1, ⟨by omega, by rw [i2, knext this]⟩, by omega, ⟨rfl, rfl, rfl, rfl, rfl, rfl, rfl, trivial⟩, trivial⟩
   ·have e : i = l.length := by omega
    subst e;rw [Ff, kwL] at i2;refine X1 ((n + 1 : Nat) : Int) (wI (by simp) (by omega) (by omega)) ?_;exact ⟨n + 1, ⟨by omega, by rw [h3, hnext i2]⟩, by omega, ⟨rfl, rfl, rfl, rfl, trivial⟩, trivial⟩
  ·have e : n = L.length := by omega
   subst e;rw [Ff] at h3;exact ⟨(), h3, trivial, trivial⟩
 ·rw [he];exact ⟨trivial, r1 rfl, trivial⟩
def gw (L : List (List Cnt)) (words : Int) : Int := if fg L ≠ 0 then fg L else if words < 3 ∨ words > 65536 then 1 else hG words L
def aq (l : List Cnt) (k : Int) : Nat := (l.filter fun x => aR x && decide (x.2 = k)).length
def tysN (l : List Cnt) : Nat := (l.filter aR).length
def totN (l : List Cnt) : Nat := (tot l).toNat
theorem uC (l : List Cnt) : tot l = (totN l : Int) := by have := cy l; unfold totN; omega
theorem uD (l : List Cnt) : A1.ag (dk l) = c7 (tysN l) (totN l) (aq l 1) (aq l 2) (aq l 3) (aq l 4) := by
 unfold dk; rw [uC]; rfl
theorem Ch (l : List Cnt) : A1.ag (cen l) = c6 (tysN l) (totN l) (aq l 1) (aq l 2) (aq l 3) (aq l 4) := by
 unfold cen; rw [uC]; rfl
theorem cn (l : List Cnt) (k : Int) : aq l k ≤ l.length := EG _ _
abbrev yX (l : List Cnt) : A1 := gS (0, 0) (dC (aq l 1) (aq l 2) (aq l 3) (aq l 4) 1) (dC (aq l 1) (aq l 2) (aq l 3) (aq l 4) 2) (dC (aq l 1) (aq l 2) (aq l 3) (aq l 4) 3)
abbrev Ci (l : List Cnt) : A1 := dS (0, 1) (cE (aq l 1) (aq l 2) (aq l 3) (aq l 4) 1) (cE (aq l 1) (aq l 2) (aq l 3) (aq l 4) 2) (cE (aq l 1) (aq l 2) (aq l 3) (aq l 4) 3)
def ia (ls : List (List Cnt)) : List (List PC) := ls.map fun l => (yX l).cells
def lQ (ls : List (List Cnt)) : List (List PC) := ls.map fun l => (Ci l).cells
theorem iC {ls : List (List Cnt)} : (ia ls).length = ls.length := by simp [ia]
theorem iD {ls : List (List Cnt)} : (lQ ls).length = ls.length := by simp [lQ]
theorem qc {ls : List (List Cnt)} : az (ia ls) := by
 intro el h;obtain ⟨x, _, rfl⟩ := Ef.1 h;rfl
theorem qd {ls : List (List Cnt)} : az (lQ ls) := by
 intro el h;obtain ⟨x, _, rfl⟩ := Ef.1 h;rfl
theorem f8 {ls : List (List Cnt)} {i : Int} {n : Nat} (h0 : i = n) (h : n < ls.length) : (ia ls)[i.toNat]? = some (yX ls[n]).cells := by
 subst h0; simp [ia, h]
theorem AM (l : List Cnt) (hl : CLim l) : Ct P 85 [.ag (dk l)] [yX l] := by
 rw [uD];have := hl.len;exact Cf _ _ _ _ _ _ (DM (cn l 1) this) (DM (cn l 2) this) (DM (cn l 3) this) (DM (cn l 4) this)
theorem AN (l : List Cnt) (hl : CLim l) : Ct P 93 [.ag (cen l)] [Ci l] := by
 rw [Ch];have := hl.len;exact AI _ _ _ _ _ _ (DM (cn l 1) this) (DM (cn l 2) this) (DM (cn l 3) this) (DM (cn l 4) this)
theorem qe (L : List (List Cnt)) (n : Nat) (x : Cnt) : (cC L n x).1 = x.1 := by unfold cC; split <;> rfl
theorem dE {L : List (List Cnt)} {l : List Cnt} (h : l ∈ ao L) : ∃ (n : Nat) (hn : n < L.length), l = L[n].map (cC L n) := by
 obtain ⟨n, hn, rfl⟩ := List.getElem_of_mem h;rw [bj] at hn;exact ⟨n, hn, oT hn⟩
theorem jm {L : List (List Cnt)} (h : CCLim L) : CCLim (ao L) :=
 ⟨by rw [bj]; exact h.len, fun l hl => by
  obtain ⟨n, hn, rfl⟩ := dE hl;refine ⟨by rw [Ez]; exact (h.at' hn).len, fun x hx => ?_⟩;obtain ⟨y, hy, rfl⟩ := Ef.1 hx;rw [qe];exact (h.at' hn).g y hy⟩
theorem qf {L : List (List Cnt)} (h : CCOk L) {l : List Cnt} (hl : l ∈ ao L) : dH l := by
 obtain ⟨n, hn, rfl⟩ := dE hl;refine List.pairwise_map.2 ((h.rises n hn).imp fun {a b} hab => ?_);rw [qe, qe]; exact hab
structure CCSum (L : List (List Cnt)) : Prop where
 lim : CCLim L
 tot : ∀ l, l ∈ ao L → tot l ≤ 4611686018427387904
abbrev xO (L : List (List Cnt)) (words : Int) (m : Nat) : Ob := .var [cB (ao L), .sl 8 (ia (ao L)), eI .i64 words, .mp m]
theorem jn {L : List (List Cnt)} {words : Int} (h : gw L words = 0) : CCOk L ∧ 3 ≤ words ∧ words ≤ 65536 ∧ hG words L = 0 := by
 unfold gw at h;by_cases h1 : fg L = 0
 ·rw [if_neg (by omega)] at h;by_cases h2 : words < 3 ∨ words > 65536
  ·rw [if_pos h2] at h; omega
  ·rw [if_neg h2] at h;exact ⟨rF h1, by omega, by omega, h⟩
 ·rw [if_pos h1] at h; exact absurd h h1
theorem yY (L : List (List Cnt)) (words : Int) (hL : CCSum L) (h : gw L words = 0) :
  CtO P 36 [] [.c (cB L), .c (eI .i64 words)] [(36, some (xO L words 34)), (34, some (.mp false [] []))] [.c (.ad 36 0), .c (eI .i64 0)] := by
 obtain ⟨hok, w1, w2, hkw⟩ := jn h;have h1 : fg L = 0 := by
  unfold gw at h;by_cases h1 : fg L = 0
  ·exact h1
  ·rw [if_pos h1] at h; exact h
 have hcl := jm hL.lim;have hlen := bj L;have h8 := hok.len8;refine Ct.keep (Ty.own_ok [1000001, 1000002] aj) aa [60] (N := 57) Tryz.func36 rfl rfl rfl rfl ?_;refine X1 _ (tB L hL.lim h1) ?_;refine ae (fun h3 => absurd h3 (by omega)) (fun _ => ?_);refine ae (fun h3 => absurd h3 (by omega)) (fun _ => ?_);refine X1 _ (vP L words (hok.ccform hL.lim)) ?_;rw [hkw];refine .intro (by rw [ax, hlen]; omega) ?_;rw [ax];refine pM (r := 60) (k := 36) (i := 1) (sz := 8) rfl rfl rfl ?_;refine ar (Ty.own_ok [1000001, 1000002] aj) aa (fun n : Nat => n ≤ (ao L).length) (fun n => [(9, .c (.ad 36 0)), (37, .c (cB (ao L))), (38, .c (nI .i64 (ao L).length)), (39, .c (nI .i64 n))])
  (fun n => [(36, .var [cB (ao L), .ow 60 8 n, eI .i64 words, .mp 34]), (60, .row 8 (ia ((ao L).take n))), (34, .mp false [] [])]) (fun n => (ao L).length - n)
  0 (by omega) ⟨rfl, rfl, rfl, rfl, trivial⟩ ⟨rfl, rfl, rfl, trivial⟩ (fun _ : Unit => True) (fun _ => [(9, .c (.ad 36 0))]) (fun _ => [(36, .var [cB (ao L), .ow 60 8 (ao L).length, eI .i64 words, .mp 34]), (60, .row 8 (ia (ao L))), (34, .mp false [] [])]) (fun n hn => ?_) (fun _ _ => ?_)
 ·refine ae (fun h5 => ?_) (fun h5 => ?_)
  ·have hn' : n < (ao L).length := by omega
   have hx := cu (l := ao L) (i := (n : Int)) (n := n) rfl hn';have hln := hcl.at' hn';have htn := hL.tot _ (DU hn');have hs : (ao L).take (n + 1) = (ao L).take n ++ [(ao L)[n]] := DL hn';have htl : ((ao L).take n).length = n := by rw [DV]; omega
   generalize (ao L)[n] = l at *
   refine .intro (by omega) (X1 _ hx ?_);refine X1 _ (As l hln htn) ?_;refine X1 _ (AM l hln) ?_;refine ⟨by rw [iC, htl], by rw [iC, htl]; show (n + 1 + 768) * 192 ≤ _; omega, by rw [iC, htl]; show n + 1 ≤ _; omega, qc, au rfl, ?_⟩;refine .intro rfl ?_;refine X1 ((n + 1 : Nat) : Int) (wI (by simp) (by omega) (by omega)) ?_;have hgl : (ia ((ao L).take n) ++ List.map A1.cells [yX l]).length = n + 1 := by rw [DK, iC, htl]; rfl
   exact ⟨n + 1, by omega, by omega, ⟨rfl, rfl, rfl, rfl, trivial⟩, ⟨congrArg (fun k => some (Ob.var [cB (ao L), .ow 60 8 k, eI .i64 words, .mp 34])) hgl, aB (by rw [hs]; unfold ia; rw [EQ]; rfl), rfl, trivial⟩⟩
  ·have e : n = (ao L).length := by omega
   subst e;rw [Ek];exact ⟨(), trivial, ⟨rfl, trivial⟩, ⟨rfl, rfl, rfl, trivial⟩⟩
 ·exact ⟨trivial, SubO.of (l := [(36, xO L words 34), (34, .mp false [] [])]) ⟨rfl, rfl, trivial⟩, r1 rfl, r1 rfl, trivial⟩
abbrev mV (L : List (List Cnt)) (words : Int) (dr : List (List PC)) : A1 := .ag [cB L, eI .i64 words, .sl 8 dr]
def cw (L : List (List Cnt)) (g : List Int) : Int :=
 if g.length < 1 ∨ g.length > L.length then 0 else if cJ g (L.getD (g.length - 1) []) < 0 then 0 else ((L.getD (g.length - 1) []).getD (cJ g (L.getD (g.length - 1) [])).toNat ([], 0)).2
theorem qg (g : List Int) (l : List Cnt) : -1 ≤ cJ g l ∧ cJ g l < l.length := by
 induction l with
 | nil => simp [cJ]
 | cons y l ih =>
  simp only [cJ, Eh];split
  ·omega
  ·split <;> omega
abbrev mM (L : List (List Cnt)) (words : Int) : A1 := mV (ao L) words (lQ (ao L))
theorem AO (L : List (List Cnt)) (words : Int) (hL : CCSum L) (hf : CCForm L) (h8 : L.length ≤ 1000) : Ct P 40 [.c (cB L), .c (eI .i64 words)] [mM L words] := by
 have hcl := jm hL.lim;have hlen := bj L;refine Ct.go (Ty.own_ok [1000001] aj) aa (N := 30) Tryz.func40 rfl rfl rfl rfl ?_;refine X1 _ (tr L hf h8) ?_;refine pM (r := 60) (k := 5) (i := 2) (sz := 8) rfl rfl rfl ?_;refine ar (Ty.own_ok [1000001] aj) aa (fun n : Nat => n ≤ L.length) (fun n => [(0, .c (cB L)), (4, .c (.ad 4 0)), (5, .c (.ad 5 0)), (6, .c (nI .i64 n))])
  (fun n => [(4, .var [.sc (.slice none 0 0), eI .i64 0, .sc (.slice none 0 0)]), (5, .var [cB (ao L), eI .i64 words, .ow 60 8 n]), (60, .row 8 (lQ ((ao L).take n)))]) (fun n => L.length - n)
  0 (by omega) ⟨rfl, rfl, rfl, rfl, trivial⟩ ⟨rfl, rfl, rfl, trivial⟩ (fun _ : Unit => True) (fun _ => [(4, .c (.ad 4 0)), (5, .c (.ad 5 0))]) (fun _ => [(4, .var [.sc (.slice none 0 0), eI .i64 0, .sc (.slice none 0 0)]), (5, .var [cB (ao L), eI .i64 words, .ow 60 8 L.length]), (60, .row 8 (lQ (ao L)))]) (fun n hn => ?_) (fun _ _ => ?_)
 ·refine .intro (by rw [ax]; omega) ?_;rw [ax];refine ae (fun h5 => ?_) (fun h5 => ?_)
  ·have hn' : n < (ao L).length := by omega
   have hx := cu (l := ao L) (i := (n : Int)) (n := n) rfl hn';have hln := hcl.at' hn';have htn := hL.tot _ (DU hn');have hs : (ao L).take (n + 1) = (ao L).take n ++ [(ao L)[n]] := DL hn';have htl : ((ao L).take n).length = n := by rw [DV]; omega
   generalize (ao L)[n] = l at *
   refine .intro (by omega) (X1 _ hx ?_);refine X1 _ (x7 l hln htn) ?_;refine X1 _ (AN l hln) ?_;refine ⟨by rw [iD, htl], by rw [iD, htl]; show (n + 1 + 768) * 192 ≤ _; omega, by rw [iD, htl]; show n + 1 ≤ _; omega, qd, au rfl, ?_⟩;refine .intro rfl ?_;refine X1 ((n + 1 : Nat) : Int) (wI (by simp) (by omega) (by omega)) ?_;have hgl : (lQ ((ao L).take n) ++ List.map A1.cells [Ci l]).length = n + 1 := by rw [DK, iD, htl]; rfl
   exact ⟨n + 1, by omega, by omega, ⟨rfl, rfl, rfl, rfl, trivial⟩, ⟨rfl, congrArg (fun k => some (Ob.var [cB (ao L), eI .i64 words, .ow 60 8 k])) hgl, aB (by rw [hs]; unfold lQ; rw [EQ]; rfl), trivial⟩⟩
  ·have e : n = L.length := by omega
   subst e;rw [Em (by rw [hlen]; exact DI _)];exact ⟨(), trivial, ⟨rfl, rfl, trivial⟩, ⟨rfl, rfl, rfl, trivial⟩⟩
 ·exact ⟨trivial, rc rfl, trivial⟩
def f9 (Lc : List (List Cnt)) (h : List Int) : Nat × Nat :=
 if hh : h.length < Lc.length then nD (cE (aq Lc[h.length] 1) (aq Lc[h.length] 2) (aq Lc[h.length] 3) (aq Lc[h.length] 4) 1) (cE (aq Lc[h.length] 1) (aq Lc[h.length] 2) (aq Lc[h.length] 3) (aq Lc[h.length] 4) 2) (cE (aq Lc[h.length] 1) (aq Lc[h.length] 2) (aq Lc[h.length] 3) (aq Lc[h.length] 4) 3)
  (tysN (after Lc[h.length] h)) (totN (after Lc[h.length] h)) (aq (after Lc[h.length] h) 1) (aq (after Lc[h.length] h) 2) else (1, 1)
theorem mw (l : List Cnt) : aq l 1 + aq l 2 ≤ tysN l := by
 unfold aq tysN
 induction l with
 | nil => simp
 | cons x l ih =>
  by_cases hl : aR x = true
  ·rw [Et (p := aR) hl, Eh];by_cases h1 : x.2 = 1
   ·rw [Et (by simp [hl, h1]), Eg (by simp [hl, h1]), Eh]; omega
   ·by_cases h2 : x.2 = 2
    ·rw [Eg (by simp [hl, h1]), Et (by simp [hl, h2]), Eh]; omega
    ·rw [Eg (by simp [hl, h1]), Eg (by simp [hl, h2])]; omega
  ·rw [Eg (p := aR) hl, Eg (by simp [hl]), Eg (by simp [hl])]; exact ih
theorem tL {n2 n3 n4 n5 : Nat} (m2 : n2 ≤ 1000000) (m3 : n3 ≤ 1000000) (m4 : n4 ≤ 1000000) (m5 : n5 ≤ 1000000) (k : Nat) : Bd 500 (cE n2 n3 n4 n5 k) := by
 have key : ∀ j a b, j + 1 < 2 ^ 62 → n2 > 0 → b > 0 → a ≤ 1000000 → b ≤ 1000000 → Bd 500 (cV (j, 1) (bV j n2 n3 a b)) := fun j a b hj h2 hb ha hb' =>
  (mu (aF (v := j) (k := 63) (by omega) (by omega)) (qa j a b (by omega) (by omega) (by omega) m2 m3 ha hb')).le (by omega)
 have z : Bd 500 (0, 1) := bd01.le (by omega)
 match k with
 | 1 =>
   show Bd 500 (if _ then _ else _); split
   ·rename_i h; exact key 1 _ _ (by decide) h.1 h.2 m3 m2
   ·exact z
 | 2 =>
   show Bd 500 (if _ then _ else _); split
   ·rename_i h; exact key 2 _ _ (by decide) h.1 h.2 m4 m3
   ·exact z
 | 0 =>
   show Bd 500 (if _ then _ else _); split
   ·rename_i h; exact key 3 _ _ (by decide) h.1 h.2 m5 m4
   ·exact z
 | k + 3 =>
   show Bd 500 (if _ then _ else _); split
   ·rename_i h; exact key 3 _ _ (by decide) h.1 h.2 m5 m4
   ·exact z
theorem uE {l : List Cnt} (hl : CLim l) : tysN l ≤ 1000000 := DM (EG _ _) hl.len
theorem qh {l : List Cnt} (h : tot l ≤ 4611686018427387904) : totN l ≤ 4611686018427387904 := by unfold totN; omega
end
section
abbrev xC (Lc : List (List Cnt)) (words : Int) (m : Nat) : Ob := .var [cB Lc, .sl 8 (ia Lc), eI .i64 words, .mp m]
abbrev xOs (Lc : List (List Cnt)) (words : Int) (ks : List Value) (vs : List (List PC)) : Objs := [(1000000, some (xC Lc words 1000001)), (1000001, some (.mp false ks vs))]
structure XOk (Lc : List (List Cnt)) (words : Int) : Prop where
 lim : CCLim Lc
 tot : ∀ l, l ∈ Lc → tot l ≤ 4611686018427387904
 rises : ∀ l, l ∈ Lc → dH l
 len0 : 1 ≤ Lc.length
 len8 : Lc.length ≤ 8
 w3 : 3 ≤ words
 w6 : words ≤ 65536
 key : ∀ l, l ∈ Lc → ∀ x, x ∈ l → di x.1 = true
 num : ∀ l, l ∈ Lc → ∀ x, x ∈ l → 0 ≤ x.2 ∧ x.2 ≤ 4611686018427387904
abbrev σx : List (Nat × Nat) := [(1000000, 1000000), (1000001, 1000001)]
section
variable {Lc : List (List Cnt)} {words : Int} {ks : List Value} {vs : List (List PC)}
theorem yZ {O : Objs} (h1 : O.get 1000000 = some (xC Lc words 1000001)) (h2 : O.get 1000001 = some (.mp false ks vs)) : SubO (xOs Lc words ks vs) O := SubO.of (l := [(1000000, xC Lc words 1000001), (1000001, .mp false ks vs)]) ⟨h1, h2, trivial⟩
theorem nG (hx : XOk Lc words) : CtO P 41 (xOs Lc words ks vs) [.c (.ad 1000000 0)] (xOs Lc words ks vs) [.c (nI .i64 Lc.length)] := by
 refine Ct.io aj aa (N := 10) Tryz.func41 rfl rfl rfl rfl ?_;have := hx.len8;refine .intro (by rw [ax]; omega) ?_;rw [ax];exact ⟨trivial, yZ rfl rfl, r1 rfl, trivial⟩
theorem rQ : CtO P 42 (xOs Lc words ks vs) [.c (.ad 1000000 0)] (xOs Lc words ks vs) [.c (eI .i64 words)] := by
 refine Ct.io aj aa (N := 9) Tryz.func42 rfl rfl rfl rfl ?_;exact ⟨trivial, yZ rfl rfl, r1 rfl, trivial⟩
end
end
section
theorem vQ {a b : Int} {l m : List Int} : aE (a :: l) (b :: m) < 0 ↔ a < b ∨ (a = b ∧ aE l m < 0) := by
 rw [aE];unfold bC
 (repeat' split) <;> omega
theorem uF : ∀ (h : List Int) {x y : List Int}, ¬ aE x h < 0 → aE x y < 0 → h <+: y → h <+: x
 | [], x, y, _, _, _ => List.nil_prefix
 | a :: h, [], y, h1, _, _ => absurd (show aE [] (a :: h) < 0 by simp [aE]) h1
 | a :: h, b :: x, [], _, _, hp => by simp at hp
 | a :: h, b :: x, c :: y, h1, h2, hp => by
  rw [List.cons_prefix_cons] at hp ⊢;obtain ⟨rfl, hp⟩ := hp;rw [vQ] at h1 h2;have e : a = b := by omega
  subst e;exact ⟨rfl, uF h (fun hh => h1 (.inr ⟨rfl, hh⟩)) (by omega) hp⟩
theorem y3 : ∀ (h : List Int) (v : Int), aE (h ++ [v]) h > 0
 | [], v => by simp [aE]
 | a :: h, v => by
  have := y3 h v;show aE (a :: (h ++ [v])) (a :: h) > 0
  unfold aE;rw [if_neg (by rw [oR]; simp)];exact this
theorem preB_iff {h : List Int} {x : Cnt} : ez h x = true ↔ h <+: x.1 := by
 unfold ez;rw [DH, decide_eq_true_eq, decide_eq_true_eq, List.prefix_iff_eq_take];constructor
 ·exact fun ⟨_, h2⟩ => h2.symm
 ·exact fun h1 => ⟨by have := congrArg List.length h1; rw [DV] at this; omega, h1.symm⟩
theorem nH {h : List Int} {x : Cnt} : fK h x = (ez h x && kW h x) := by
 unfold fK ez kW;by_cases h1 : x.1.length = h.length + 1
 ·rw [decide_eq_true h1, decide_eq_true (by omega : h.length ≤ x.1.length)]; simp
 ·rw [decide_eq_false h1]; simp
theorem vR {h : List Int} {x : Cnt} (hx : fK h x = true) : aE x.1 h > 0 := by
 unfold fK at hx;rw [DH, decide_eq_true_eq, decide_eq_true_eq] at hx;obtain ⟨h1, h2⟩ := hx;have h3 : x.1.drop h.length ≠ [] := by intro e; have := congrArg List.length e; simp at this; omega
 obtain ⟨v, t, ht⟩ := List.exists_cons_of_ne_nil h3;have h4 : x.1 = h ++ [v] := by
  have e := FS h.length x.1;rw [h2, ht] at e;have : t = [] := by
   have := congrArg List.length e;simp at this;exact List.eq_nil_of_length_eq_zero (by omega)
  rw [this] at e;exact e.symm
 rw [h4];exact y3 h v
theorem rS (h : List Int) : ∀ (M : List Cnt), dH M → (∀ x, x ∈ M → aE x.1 h > 0) → lZ M h = after M h
 | [], _, _ => rfl
 | x :: M, hr, hg => by
  obtain ⟨hx, hr'⟩ := Fh.1 hr;unfold lZ after
  cases hp : ez h x with
  | true =>
   rw [FX hp, Gi, Gi, nH, hp, Bool.true_and];have := rS h M hr' fun y hy => hg y (D2 _ hy)
   unfold lZ after at this;rw [this]
  | false =>
   rw [List.takeWhile_cons_of_neg (by rw [hp]; simp)]
   symm
   rw [List.filter_nil, List.filter_eq_nil_iff];intro y hy ha;rw [nH, DH] at ha;have hpy := preB_iff.1 ha.1;rcases Ee.1 hy with rfl | hy
   ·rw [ha.1] at hp; cases hp
   ·have := preB_iff.2 (uF h (by have := hg x (by simp); omega) (hx y hy) hpy);rw [this] at hp; cases hp
theorem nJ (h : List Int) : ∀ (l : List Cnt), dH l → ∃ k, k ≤ l.length ∧ (∀ (i : Nat) (hi : i < l.length), i < k → ¬ aE l[i].1 h > 0) ∧ (∀ (i : Nat) (hi : i < l.length), k ≤ i → aE l[i].1 h > 0) ∧ lZ (l.drop k) h = after l h
 | [], _ => ⟨0, by simp, fun i hi => by simp at hi, fun i hi => by simp at hi, rfl⟩
 | x :: l, hr => by
  obtain ⟨hx, hr'⟩ := Fh.1 hr;by_cases hg : aE x.1 h > 0
  ·have hall : ∀ y, y ∈ x :: l → aE y.1 h > 0 := fun y hy => by
    rcases Ee.1 hy with rfl | hy
    ·exact hg
    ·have a1 := hx y hy;have a2 := eB x.1 h;have := c9 (a := h) (b := x.1) (c := y.1) (by omega) a1;have a3 := eB h y.1;omega
   exact ⟨0, by simp, fun i _ h => by omega, fun i hi _ => hall _ (DU hi), rS h (x :: l) hr hall⟩
  ·obtain ⟨k, h0, h1, h2, h3⟩ := nJ h l hr';refine ⟨k + 1, by simp; omega, fun i hi hik => ?_, fun i hi hik => ?_, ?_⟩
   ·cases i with
    | zero => exact hg
    | succ i => exact h1 i (by simpa using hi) (by omega)
   ·cases i with
    | zero => omega
    | succ i => exact h2 i (by simpa using hi) (by omega)
   ·rw [List.drop_succ_cons, h3];unfold after;rw [Eg];intro ha;exact hg (vR ha)
theorem oW (l : List Cnt) (h : List Int) (hl : CLim l) (hr : dH l) (hh : h.length ≤ 1000000) (ht : tot l ≤ 4611686018427387904) : Ct P 183 [.c (cSl l), .c (iSl h)] [c7 (tysN (after l h)) (totN (after l h)) (aq (after l h) 1) (aq (after l h) 2) (aq (after l h) 3) (aq (after l h) 4)] := by
 obtain ⟨k, h0, h1, h2, h3⟩ := nJ h l hr;have := yd l h k hl hh h0 h1 h2 ht;rwa [h3, uD] at this
theorem vS {v w : Int} (hv : 0 ≤ v ∧ v < 16777216) (hw : 0 ≤ w ∧ w < 16777216) (h1 : UInt8.ofNat (v.toNat / 65536) = UInt8.ofNat (w.toNat / 65536)) (h2 : UInt8.ofNat (v.toNat / 256) = UInt8.ofNat (w.toNat / 256)) (h3 : UInt8.ofNat v.toNat = UInt8.ofNat w.toNat) : v = w := by
 have g : ∀ {a b : Nat}, UInt8.ofNat a = UInt8.ofNat b → a % 256 = b % 256 := fun {a b} h => by
  have := congrArg UInt8.toNat h;simpa using this
 have g1 := g h1;have g2 := g h2;have g3 := g h3;omega
theorem y4 : ∀ {g h : List Int}, di g = true → di h = true → kU g = kU h → g = h
 | [], [], _, _, _ => rfl
 | [], b :: h, _, _, e => by simp [kU] at e
 | a :: g, [], _, _, e => by simp [kU] at e
 | a :: g, b :: h, hg, hh, e => by
  unfold di at hg hh;rw [List.all_cons, DH] at hg hh;have e' : UInt8.ofNat (a.toNat / 65536) :: UInt8.ofNat (a.toNat / 256) :: UInt8.ofNat a.toNat :: kU g = UInt8.ofNat (b.toNat / 65536) :: UInt8.ofNat (b.toNat / 256) :: UInt8.ofNat b.toNat :: kU h := e;injection e' with e1 e';injection e' with e2 e';injection e' with e3 e';have ha := hg.1;have hb := hh.1;rw [DH, decide_eq_true_eq, decide_eq_true_eq] at ha hb;rw [vS ha hb e1 e2 e3, y4 (g := g) (h := h) hg.2 hh.2 e']
theorem rT {g h : List Int} (hg : di g = true) (hh : di h = true) (e : pS g = pS h) : g = h := by
 have : (kU g).toArray = (kU h).toArray := congrArg ByteArray.data e;exact y4 hg hh (by simpa using this)
theorem k5 (key : ByteArray) : ∀ (ks : List Value) (i : Nat), (∀ k, k ∈ ks → ∃ b, k = .string b) → ∃ r, gK .string (.string key) ks i = some r ∧ ∀ j, r = some j → i ≤ j ∧ ks[j - i]? = some (.string key)
 | [], i, _ => ⟨none, rfl, fun j h => by cases h⟩
 | k :: ks, i, hk => by
  obtain ⟨b, rfl⟩ := hk k (by simp);simp only [gK, Instr.sameNow];by_cases h : key = b
  ·subst h;refine ⟨some i, by rw [(ip key key).2 rfl], fun j hj => ?_⟩;cases hj;exact ⟨DI _, by simp⟩
  ·have hb : (key == b) = false := by
    cases hb : key == b with
    | false => rfl
    | true => exact absurd ((ip _ _).1 hb) h
   rw [hb];obtain ⟨r, h1, h2⟩ := k5 key ks (i + 1) fun k hk' => hk k (D2 _ hk')
   refine ⟨r, h1, fun j hj => ?_⟩;obtain ⟨g1, g2⟩ := h2 j hj;refine ⟨by omega, ?_⟩;rw [show j - i = (j - (i + 1)) + 1 by omega];simpa using g2
end
section
abbrev tM (Lc : List (List Cnt)) (h : List Int) : List PC := nI .i64 (totN (after (Lc.getD h.length []) h)) :: (qP (f9 Lc h)).cells
abbrev k6 (Lc : List (List Cnt)) (h : List Int) : PC := .rd (tM Lc h)
structure MOk (Lc : List (List Cnt)) (ks : List Value) (vs : List (List PC)) : Prop where
 len : ks.length = vs.length
 at' : ∀ (i : Nat) k, ks[i]? = some k → ∃ h, di h = true ∧ k = .string (pS h) ∧ vs[i]? = some [k6 Lc h]
theorem MOk.nil {Lc : List (List Cnt)} : MOk Lc [] [] := ⟨rfl, fun i k h => by simp at h⟩
theorem MOk.str {Lc : List (List Cnt)} {ks : List Value} {vs : List (List PC)} (hm : MOk Lc ks vs) (k : Value) (hk : k ∈ ks) : ∃ b, k = .string b := by
 obtain ⟨i, hi⟩ := FN.1 hk;obtain ⟨h, _, h1, _⟩ := hm.at' i k hi;exact ⟨_, h1⟩
theorem rU {l : List Cnt} {h : List Int} (hk : ∀ x, x ∈ l → di x.1 = true) (hn : ¬ di h = true) : after l h = [] := by
 unfold after;rw [List.filter_eq_nil_iff];intro x hx ha;unfold fK at ha;rw [DH, decide_eq_true_eq, decide_eq_true_eq] at ha;apply hn;have := hk x hx;unfold di at this ⊢;rw [EB] at this ⊢;intro v hv;rw [← ha.2] at hv;exact this v (Fc hv)
section
variable {Lc : List (List Cnt)} {words : Int} {ks : List Value} {vs : List (List PC)}
theorem nK (hx : XOk Lc words) {h : List Int} (hh : h.length < Lc.length) (hn : ¬ di h = true) : tM Lc h = nI .i64 0 :: (qP (1, 1)).cells := by
 have e : Lc.getD h.length [] = Lc[h.length] := by simp [DG, hh]
 have ha := rU (hx.key _ (DU hh)) hn;unfold tM f9;rw [dif_pos hh, e, ha];rfl
theorem uG (hx : XOk Lc words) (h : List Int) (hh : h.length < Lc.length) : Ct P 184 [yX Lc[h.length], c7 (tysN (after Lc[h.length] h)) (totN (after Lc[h.length] h)) (aq (after Lc[h.length] h) 1) (aq (after Lc[h.length] h) 2) (aq (after Lc[h.length] h) 3) (aq (after Lc[h.length] h) 4)] [qP (f9 Lc h)] := by
 have hln := hx.lim.at' hh;have htn := hx.tot _ (DU hh);have hal : CLim (after Lc[h.length] h) := hln.filter _;have hat : tot (after Lc[h.length] h) ≤ 4611686018427387904 := Int.le_trans (fj _ _) htn;have m := fun k => DM (cn Lc[h.length] k) hln.len
 have ob := fun k => tL (m 1) (m 2) (m 3) (m 4) k
 have rn := fun k h1 h3 => uB (m 1) (m 2) (m 3) (m 4) k h1 h3
 have h8 := hx.len8;have hg := vN (0, 0) _ _ _ (tysN (after Lc[h.length] h)) (totN (after Lc[h.length] h)) (aq (after Lc[h.length] h) 1) (aq (after Lc[h.length] h) 2) (aq (after Lc[h.length] h) 3) (aq (after Lc[h.length] h) 4) (k := 500) (by rw [rn 1 (by omega) (by omega)]; exact ob 1) (by rw [rn 2 (by omega) (by omega)]; exact ob 2) (by rw [rn 3 (by omega) (by omega)]; exact ob 3) (by omega) (by have := uE hal; omega) (qh hat) (mw _);rw [rn 1 (by omega) (by omega), rn 2 (by omega) (by omega), rn 3 (by omega) (by omega)] at hg;unfold f9;rw [dif_pos hh];exact hg
theorem tN (hx : XOk Lc words) (hm : MOk Lc ks vs) (h : List Int) (hh : h.length < Lc.length) :
  ∃ ks' vs', MOk Lc ks' vs' ∧ CtO P 159 (xOs Lc words ks vs) [.c (.ad 1000000 0), .c (iSl h)] (xOs Lc words ks' vs') [.c (k6 Lc h)] := by
 have h8 := hx.len8;have hln := hx.lim.at' hh;have e : Lc.getD h.length [] = Lc[h.length] := by simp [DG, hh]
 by_cases hk : di h = true
 ·obtain ⟨r, f1, f2⟩ := k5 (pS h) ks 0 hm.str;have hkey := mi h (by omega);rw [if_pos hk, if_pos hk] at hkey
  cases r with
  | some j =>
   obtain ⟨_, f3⟩ := f2 j rfl;rw [FF] at f3;obtain ⟨h', g1, g2, g3⟩ := hm.at' j _ f3;have e' : h = h' := rT hk g1 (by injection g2);subst e';refine ⟨ks, vs, hm, ?_⟩;refine Ct.io aj aa (N := 63) Tryz.func159 rfl rfl rfl rfl ?_;refine X1 _ hkey ?_;refine ⟨some j, .c (k6 Lc h), f1, ⟨_, g3, rfl⟩, ?_⟩;exact ⟨trivial, yZ rfl rfl, r1 rfl, trivial⟩
  | none =>
   refine ⟨ks ++ [.string (pS h)], vs ++ [[k6 Lc h]], ?_, ?_⟩
   ·refine ⟨by simp [hm.len], fun i k hi => ?_⟩;have hlen : ∀ i k, ks[i]? = some k → i < vs.length := fun i k hi => by
     obtain ⟨_, _, _, g3⟩ := hm.at' i k hi;exact (DJ.1 g3).1
    rcases E8 i ks.length with hlt | heq | hgt
    ·rw [DQ hlt] at hi;rw [DQ (hlen i k hi)];exact hm.at' i k hi
    ·subst heq;rw [DO (DI _), Gq] at hi;cases hi;refine ⟨h, hk, rfl, ?_⟩;rw [DO (Nat.le_of_eq hm.len.symm), hm.len, Gq];rfl
    ·rw [D4 (by simp; omega)] at hi; cases hi
   ·refine Ct.io aj aa (N := 63) Tryz.func159 rfl rfl rfl rfl ?_;refine X1 _ hkey ?_;refine ⟨none, .c (.sc (.pointer none)), f1, rfl, ?_⟩;refine .intro (by rw [ai]; omega) ?_;rw [ai];refine .intro (by omega) (X1 _ (cu rfl hh) ?_);refine X1 _ (oW Lc[h.length] h hln (hx.rises _ (DU hh)) (by omega) (hx.tot _ (DU hh))) ?_;refine .intro (by rw [ai]; omega) ?_;rw [ai];refine .intro (by omega) (X1 _ (f8 rfl hh) ?_);refine X1 _ (uG hx h hh) ?_;refine .intro rfl ?_;refine ⟨[55], none, f1, rfl, ?_⟩;have hc : tM Lc h = nI .i64 (totN (after Lc[h.length] h)) :: (qP (f9 Lc h)).cells := by unfold tM; rw [e]
    unfold k6;rw [hc];exact ⟨trivial, yZ rfl rfl, r1 rfl, trivial⟩
 ·refine ⟨ks, vs, hm, ?_⟩;have hkey := mi h (by omega);rw [if_neg hk, if_neg hk] at hkey;refine Ct.keep aj aa [20] (N := 63) Tryz.func159 rfl rfl rfl rfl ?_;refine X1 _ hkey ?_;refine X1 _ (bS 1 (by omega)) ?_;unfold k6;rw [nK hx hh hk];exact ⟨trivial, yZ rfl rfl, r1 rfl, trivial⟩
end
end
section
theorem k7 (l : List Int) (hl : l.length ≤ 1000000) : CtO P 46 [] [.c (iSl l)] [(5, some (.row 1 (aP l)))] [.c (.ow 5 1 l.length)] := by
 refine Ct.keepI aj [] (N := 8) Tryz.func46 rfl rfl rfl rfl ?_;refine eV aj aa ?_;refine vD ?_;refine eV aj aa ?_;intro b hb;refine yh (b := b) rfl (fun e => ?_) (fun e => ?_)
 ·subst e;have : l = [] := Eb.1 (by have := hb rfl; rwa [ai] at this);subst this;refine eV aj aa ?_;refine jN (r := 5) (t := 2) (sz := 1) rfl rfl ?_;exact C1 ⟨trivial, SubO.of (l := [(5, .row 1 [])]) ⟨rfl, trivial⟩, r1 rfl, trivial⟩
 ·subst e;refine yi ?_;refine lN aj aa ?_;refine ⟨rfl, by rw [ai]; show (0 + l.length + 768) * 8 ≤ _; omega, by rw [ai]; show 0 + l.length ≤ _; omega, cc, bm, ?_⟩;exact ⟨trivial, SubO.of (l := [(5, .row 1 (aP l))]) ⟨rfl, trivial⟩, r1 (owE (by show (aP l).length = _; rw [ai])), trivial⟩
abbrev y5 (Lc : List (List Cnt)) (words : Int) (ks : List Value) (vs : List (List PC)) (els : List (List PC)) : Objs := [(1000000, some (xC Lc words 1000001)), (1000001, some (.mp false ks vs)), (1000002, some (.row 1 els))]
section
variable {Lc : List (List Cnt)} {words : Int} {ks : List Value} {vs : List (List PC)}
theorem rW {els : List (List PC)} {O : Objs} (h1 : O.get 1000000 = some (xC Lc words 1000001)) (h2 : O.get 1000001 = some (.mp false ks vs)) (h3 : O.get 1000002 = some (.row 1 els)) : SubO (y5 Lc words ks vs els) O := SubO.of (l := [(1000000, xC Lc words 1000001), (1000001, .mp false ks vs), (1000002, .row 1 els)]) ⟨h1, h2, h3, trivial⟩
theorem tO (hx : XOk Lc words) (g : List Int) (els : List (List PC)) (he : els = aP g) (m : Nat) (hm : m = g.length) (h1 : 1 ≤ g.length) (hg : g.length ≤ Lc.length) : CtO P 160 (y5 Lc words ks vs els) [.c (.ad 1000000 0), .c (.ow 1000002 1 m)] (y5 Lc words ks vs els) [.c (eI .i64 (cw Lc g))] := by
 subst he;refine Ct.io aj aa (N := 41) Tryz.func160 rfl rfl rfl rfl ?_;have h8 := hx.len8;refine .intro (by omega) ?_;refine ae (fun h0 => ?_) (fun h0 => ?_)
 ·exfalso; omega
 refine X2 (.own σx σx) ?_;refine ⟨_, _, nG hx, ?_⟩;refine ae (fun h1 => ?_) (fun h1 => ?_)
 ·exfalso; omega
 have hn : g.length - 1 < Lc.length := by omega
 have hgd : Lc.getD (g.length - 1) [] = Lc[g.length - 1] := by simp [DG, hn]
 have hnum : cw Lc g = if cJ g Lc[g.length - 1] < 0 then 0 else (Lc[g.length - 1].getD (cJ g Lc[g.length - 1]).toNat ([], 0)).2 := by
  rw [cw, if_neg (by omega), hgd]
 rw [hnum];have hl := hx.lim.at' hn;have hr := hx.rises _ (DU hn);have hget := cu (l := Lc) (i := ((g.length - 1 : Nat) : Int)) (n := g.length - 1) rfl hn;generalize Lc[g.length - 1] = l at *
 have hf := qg g l;refine X1 ((g.length - 1 : Nat) : Int) (wI (by omega) (by omega) (by omega)) ?_;refine .intro (by omega) (X1 _ hget ?_);refine X2 .look (X1 _ (oS l g hl (by omega) hr) ?_);refine ae (fun h2 => ?_) (fun h2 => ?_)
 ·rw [if_pos h2];exact ⟨trivial, rW rfl rfl rfl, r1 rfl, trivial⟩
 ·rw [if_neg h2];have hk : (cJ g l).toNat < l.length := by omega
  refine X1 ((g.length - 1 : Nat) : Int) (wI (by omega) (by omega) (by omega)) ?_;refine .intro (by omega) (X1 _ hget ?_);refine .intro (by omega) (X1 _ (bD (n := (cJ g l).toNat) (by omega) hk) ?_);exact ⟨trivial, rW rfl rfl rfl, r1 (iE (by simp [DG, hk])), trivial⟩
end
end
section
def lvl (Lc : List (List Cnt)) (h : List Int) : List Cnt := Lc.getD h.length []
def eK (l : List Cnt) (k : Nat) : Nat × Nat := cE (aq l 1) (aq l 2) (aq l 3) (aq l 4) k
def atN (l : List Cnt) (a : Int) : Nat × Nat := at4 (eK l 1) (eK l 2) (eK l 3) a
def owF (Lc : List (List Cnt)) (w : Int) (h : List Int) : Nat × Nat := cV ((cw Lc (h ++ [w])).toNat, 1) (atN (lvl Lc h) (cw Lc (h ++ [w])))
def eN (Lc : List (List Cnt)) (w : Int) (h : List Int) (p : Nat × Nat) : Nat × Nat :=
 if totN (after (lvl Lc h) h) = 0 then p else bE (dN (owF Lc w h) (totN (after (lvl Lc h) h), 1)) (cD (f9 Lc h) p)
def p0F (words : Int) : Nat × Nat := dN (1, 1) ((words - 1).toNat, 1)
def pF (Lc : List (List Cnt)) (words w : Int) : List Int → Nat × Nat
 | [] => eN Lc w [] (p0F words)
 | x :: t => eN Lc w (x :: t) (pF Lc words w t)
def fO (Lc : List (List Cnt)) (h : List Int) : List Int := if Lc.length ≤ h.length then h.drop (h.length - Lc.length + 1) else h
def bh (Lc : List (List Cnt)) (words : Int) (h : List Int) (w : Int) : Nat × Nat := if w < 0 ∨ words ≤ w ∨ w = 1 then (0, 1) else pF Lc words w (fO Lc h)
theorem kj {Lc : List (List Cnt)} {words : Int} (hx : XOk Lc words) (h : List Int) : Bd 2000 (f9 Lc h) := by
 unfold f9;split
 ·rename_i hh;have hln := hx.lim.at' hh;have htn := hx.tot _ (DU hh);have hal : CLim (after Lc[h.length] h) := hln.filter _;have hat : tot (after Lc[h.length] h) ≤ 4611686018427387904 := Int.le_trans (fj _ _) htn;have m := fun k => DM (cn Lc[h.length] k) hln.len
  have ob := fun k => tL (m 1) (m 2) (m 3) (m 4) k
  have ht := qh hat
  have hT := uE hal;have hs := mw (after Lc[h.length] h);unfold nD;split
  ·exact (aF (v := 1) (k := 1) (by omega) (by omega)).le (by omega)
  ·have i := fun n (hn : n ≤ 1000000) => aF (v := n) (k := 63) (by omega) (by omega)
   refine (cj (eX (eX (bu (i _ (by omega)) (ob 1)) (bu (i _ (by omega)) (ob 2))) (bu (i _ (by omega)) (ob 3))) (aF (k := 63) (by omega) (by omega)) ?_).le (by omega);show totN _ ≠ 0
   omega
 ·exact (aF (v := 1) (k := 1) (by omega) (by omega)).le (by omega)
theorem kl {Lc : List (List Cnt)} {words : Int} (hx : XOk Lc words) (g : List Int) : 0 ≤ cw Lc g ∧ cw Lc g ≤ 4611686018427387904 := by
 unfold cw;split
 ·omega
 ·rename_i h0;split
  ·omega
  ·rename_i h1;have hn : g.length - 1 < Lc.length := by omega
   have hgd : Lc.getD (g.length - 1) [] = Lc[g.length - 1] := by simp [DG, hn]
   rw [hgd] at h1 ⊢;have hf := qg g Lc[g.length - 1];have hk : (cJ g Lc[g.length - 1]).toNat < Lc[g.length - 1].length := by omega
   have := hx.num _ (DU hn) _ (DU hk);simp only [DG, D7 hk, Fe];exact this
theorem Cj {k : Nat} {p1 p2 p3 : Nat × Nat} (h1 : Bd k p1) (h2 : Bd k p2) (h3 : Bd k p3) (hk : 1 ≤ k) (a : Int) : Bd k (at4 p1 p2 p3 a) := by
 unfold at4;split
 ·exact bd01.le hk
 ·split
  ·exact h1
  ·split
   ·exact h2
   ·exact h3
theorem gx {Lc : List (List Cnt)} {h : List Int} (hh : h.length < Lc.length) : lvl Lc h = Lc[h.length] := by simp [lvl, DG, hh]
theorem fE {l : List Cnt} (hl : CLim l) (k : Nat) : Bd 500 (eK l k) :=
 tL (DM (cn l 1) hl.len) (DM (cn l 2) hl.len) (DM (cn l 3) hl.len) (DM (cn l 4) hl.len) k
theorem qi {Lc : List (List Cnt)} (hl : CCLim Lc) (h : List Int) : CLim (lvl Lc h) := by
 by_cases hh : h.length < Lc.length
 ·rw [gx hh]; exact hl.at' hh
 ·have : lvl Lc h = [] := by simp [lvl, DG, D4 (EM hh)]
  rw [this]; exact ⟨by simp, fun x hx => by simp at hx⟩
theorem nL {l : List Cnt} (hl : CLim l) (a : Int) : Bd 500 (atN l a) := Cj (fE hl 1) (fE hl 2) (fE hl 3) (by omega) a
theorem d6 {Lc : List (List Cnt)} {words : Int} (hx : XOk Lc words) (w : Int) (h : List Int) : Bd 600 (owF Lc w h) := by
 have := kl hx (h ++ [w]);exact (mu (aF (v := (cw Lc (h ++ [w])).toNat) (k := 63) (by omega) (by omega)) (nL (qi hx.lim h) _)).le (by omega)
theorem my {Lc : List (List Cnt)} {words : Int} (hx : XOk Lc words) (h : List Int) : totN (after (lvl Lc h) h) ≤ 4611686018427387904 := by
 by_cases hh : h.length < Lc.length
 ·rw [gx hh]; exact qh (Int.le_trans (fj _ _) (hx.tot _ (DU hh)))
 ·have : lvl Lc h = [] := by simp [lvl, DG, D4 (EM hh)]
  rw [this]; exact FC _
theorem qj {Lc : List (List Cnt)} {words : Int} (hx : XOk Lc words) (w : Int) (h : List Int) (h0 : totN (after (lvl Lc h) h) ≠ 0) : Bd 663 (dN (owF Lc w h) (totN (after (lvl Lc h) h), 1)) :=
 cj (d6 hx w h) (aF (k := 63) (by have := my hx h; omega) (by omega)) h0
theorem rX {Lc : List (List Cnt)} {words : Int} (hx : XOk Lc words) (w : Int) (h : List Int) {k : Nat} {p : Nat × Nat} (hp : Bd k p) : Bd (k + 3000) (eN Lc w h p) := by
 unfold eN;split
 ·exact hp.le (by omega)
 ·rename_i h0;exact (eX (qj hx w h h0) (bu (kj hx h) hp)).le (by omega)
theorem tP {Lc : List (List Cnt)} {words : Int} (hx : XOk Lc words) : Bd 200 (p0F words) := by
 have h3 := hx.w3;have h6 := hx.w6;exact (cj (aF (v := 1) (k := 63) (by omega) (by omega)) (aF (v := (words - 1).toNat) (k := 63) (by omega) (by omega)) (by show (words - 1).toNat ≠ 0; omega)).le (by omega)
theorem uH {Lc : List (List Cnt)} {words : Int} (hx : XOk Lc words) (w : Int) : ∀ h : List Int, Bd (200 + 3000 * (h.length + 1)) (pF Lc words w h)
 | [] => (rX hx w [] (tP hx)).le (by simp)
 | x :: t => (rX hx w (x :: t) (uH hx w t)).le (by simp; omega)
def pN (Lc : List (List Cnt)) (words w : Int) (h : List Int) : Nat → Nat × Nat
 | 0 => p0F words
 | n + 1 => pF Lc words w (h.drop (h.length - n))
theorem uI {Lc : List (List Cnt)} {words w : Int} {h : List Int} {n : Nat} (hn : n ≤ h.length) : eN Lc w (h.drop (h.length - n)) (pN Lc words w h n) = pN Lc words w h (n + 1) := by
 cases n with
 | zero => rw [FF]; simp [pN, pF]
 | succ n =>
  have e : h.drop (h.length - (n + 1)) = h[h.length - (n + 1)] :: h.drop (h.length - n) := by
   rw [D8 (by omega)];congr 2;omega
  simp only [pN];rw [e, pF]
theorem BE {Lc : List (List Cnt)} {words : Int} (hx : XOk Lc words) (w : Int) (h : List Int) {n : Nat} (hn : n ≤ h.length + 1) : Bd (200 + 3000 * (h.length + 2)) (pN Lc words w h n) := by
 cases n with
 | zero => exact (tP hx).le (by omega)
 | succ n => exact (uH hx w _).le (by rw [Eo]; omega)
theorem qk {Lc : List (List Cnt)} {words : Int} (hx : XOk Lc words) (h : List Int) : (fO Lc h).length < Lc.length := by
 have := hx.len0;unfold fO;split
 ·rw [Eo]; omega
 ·omega
theorem Ck {k : Nat} {p : Nat × Nat} (n : Nat) (h : Bg k p) (hk : k ≤ 2000000) (h0 : n ≠ 0) (hn : n < 9223372036854775808) : Ct P 158 [qP p, .c (nI .i64 n)] [qP (B9 p (n, 1))] := by
 have hb : Bg 64 (n, 1) := ⟨by show n < 2 ^ 64; omega, by show 1 < 2 ^ 64; omega⟩;refine Ct.go aj aa (N := 16) Tryz.func158 rfl rfl rfl rfl ?_;refine X1 ((n : Nat) : Int) (wU rfl (by omega) (by omega)) ?_;refine X1 _ (bS n (by omega)) ?_;refine X1 _ (uz h hb h0 hk (by omega)) ?_;refine .intro rfl ?_;exact ⟨trivial, rc rfl, trivial⟩
end
end Go.Proofs.YtgceikecdedfcaaGreat.Pv
