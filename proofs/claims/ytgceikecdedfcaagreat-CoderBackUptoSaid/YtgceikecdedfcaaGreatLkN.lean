/- Parts of a proof, joined: Eb Ec Eh Ei Cx Cy Eq Cz Er Es Et Eu Ev Ew Eg. -/
import Derived.Test.YtgceikecdedfcaaGreatLkM
namespace Go.Proofs.YtgceikecdedfcaaGreat.Pv
open Go
section
abbrev dS (p0 p1 p2 p3 : Nat × Nat) : A1 := .ag [dV p0.1, dV p0.2, dV p1.1, dV p1.2, dV p2.1, dV p2.2, dV p3.1, dV p3.2]
def at4 (p1 p2 p3 : Nat × Nat) (n : Int) : Nat × Nat := if n < 1 then (0, 1) else if n = 1 then p1 else if n = 2 then p2 else p3
abbrev c6 (n0 n1 n2 n3 n4 n5 : Nat) : A1 := .ag [nI .i64 n0, nI .i64 n1, nI .i64 n2, nI .i64 n3, nI .i64 n4, nI .i64 n5]
def nM (p1 p2 p3 : Nat × Nat) (n0 n1 n2 n3 : Nat) : Nat × Nat :=
 if n1 < 1 then (1, 1) else dW (bE (bE (cG (n2, 1) p1) (cG (n3, 1) p2)) (cG (n0 - n2 - n3, 1) p3)) (n1, 1)
def bW (k n2 n3 a b : Nat) : Nat × Nat := cG (cG (k + 1, 1) (dW (n2, 1) (n2 + 2 * n3, 1))) (dW (a, 1) (b, 1))
theorem yZ (n0 n1 n2 n3 n4 n5 : Nat) (h2 : n2 ≠ 0) (hb : n2 ≠ 0) (m2 : n2 ≤ 1000000) (m3 : n3 ≤ 1000000) (m4 : n4 ≤ 1000000) (m5 : n5 ≤ 1000000) :
  Ct P 142 [.c (nI .i64 1), c6 n0 n1 n2 n3 n4 n5] [rP (bW 1 n2 n3 n3 n2)] := by
 have j1 : Bd 63 (n2, 1) := aE (by omega) (by omega);have j2 : Bd 63 (n2 + 2 * n3, 1) := aE (by omega) (by omega);have y := cn j1 j2 (by show n2 + 2 * n3 ≠ 0; omega);refine Ct.go aj aa (N := 34) Tryz.func142 rfl rfl rfl rfl ?_
 ·refine .intro (by decide) (And.intro (by decide) ?_);refine X1 _ (bp n2 (by omega)) ?_;refine .intro (by decide) (And.intro (by decide) ?_);refine .intro (by decide) (And.intro (by decide) ?_);refine X1 ((2 * n3 : Nat) : Int) (wI (by simp) (by omega) (by omega)) ?_;refine X1 ((n2 + 2 * n3 : Nat) : Int) (wI (by simp) (by omega) (by omega)) ?_;refine X1 _ (bp (n2 + 2 * n3) (by omega)) ?_;refine X1 _ (iL j1 j2 (by show n2 + 2 * n3 ≠ 0; omega) (by omega) (by omega)) ?_;refine .intro rfl ?_;refine X1 ((2 : Nat) : Int) (wI (by simp) (by omega) (by omega)) ?_;refine X1 _ (bp 2 (by omega)) ?_;refine X1 _ (iK (aE (v := 2) (k := 63) (by decide) (by omega)) y (by omega) (by omega)) ?_;refine X1 ((3 : Nat) : Int) (wI (by simp) (by omega) (by omega)) ?_;refine .intro (by decide) (And.intro (by decide) ?_);refine X1 _ (bp n3 (by omega)) ?_;refine X1 ((2 : Nat) : Int) (wI (by simp) (by omega) (by omega)) ?_;refine .intro (by decide) (And.intro (by decide) ?_);refine X1 _ (bp n2 (by omega)) ?_;refine X1 _ (iL (aE (v := n3) (k := 63) (by omega) (by omega)) (aE (v := n2) (k := 63) (by omega) (by omega)) (by show n2 ≠ 0; omega) (by omega) (by omega)) ?_;refine X1 _ (iK (bv (aE (v := 2) (k := 63) (by decide) (by omega)) y) (cn (aE (v := n3) (k := 63) (by omega) (by omega)) (aE (v := n2) (k := 63) (by omega) (by omega)) (by show n2 ≠ 0; omega)) (by omega) (by omega)) ?_;refine .intro rfl ?_;exact ⟨trivial, rc rfl, trivial⟩
theorem y2 (n0 n1 n2 n3 n4 n5 : Nat) (h2 : n2 ≠ 0) (hb : n3 ≠ 0) (m2 : n2 ≤ 1000000) (m3 : n3 ≤ 1000000) (m4 : n4 ≤ 1000000) (m5 : n5 ≤ 1000000) :
  Ct P 142 [.c (nI .i64 2), c6 n0 n1 n2 n3 n4 n5] [rP (bW 2 n2 n3 n4 n3)] := by
 have j1 : Bd 63 (n2, 1) := aE (by omega) (by omega);have j2 : Bd 63 (n2 + 2 * n3, 1) := aE (by omega) (by omega);have y := cn j1 j2 (by show n2 + 2 * n3 ≠ 0; omega);refine Ct.go aj aa (N := 34) Tryz.func142 rfl rfl rfl rfl ?_
 ·refine .intro (by decide) (And.intro (by decide) ?_);refine X1 _ (bp n2 (by omega)) ?_;refine .intro (by decide) (And.intro (by decide) ?_);refine .intro (by decide) (And.intro (by decide) ?_);refine X1 ((2 * n3 : Nat) : Int) (wI (by simp) (by omega) (by omega)) ?_;refine X1 ((n2 + 2 * n3 : Nat) : Int) (wI (by simp) (by omega) (by omega)) ?_;refine X1 _ (bp (n2 + 2 * n3) (by omega)) ?_;refine X1 _ (iL j1 j2 (by show n2 + 2 * n3 ≠ 0; omega) (by omega) (by omega)) ?_;refine .intro rfl ?_;refine X1 ((3 : Nat) : Int) (wI (by simp) (by omega) (by omega)) ?_;refine X1 _ (bp 3 (by omega)) ?_;refine X1 _ (iK (aE (v := 3) (k := 63) (by decide) (by omega)) y (by omega) (by omega)) ?_;refine X1 ((4 : Nat) : Int) (wI (by simp) (by omega) (by omega)) ?_;refine .intro (by decide) (And.intro (by decide) ?_);refine X1 _ (bp n4 (by omega)) ?_;refine X1 ((3 : Nat) : Int) (wI (by simp) (by omega) (by omega)) ?_;refine .intro (by decide) (And.intro (by decide) ?_);refine X1 _ (bp n3 (by omega)) ?_;refine X1 _ (iL (aE (v := n4) (k := 63) (by omega) (by omega)) (aE (v := n3) (k := 63) (by omega) (by omega)) (by show n3 ≠ 0; omega) (by omega) (by omega)) ?_;refine X1 _ (iK (bv (aE (v := 3) (k := 63) (by decide) (by omega)) y) (cn (aE (v := n4) (k := 63) (by omega) (by omega)) (aE (v := n3) (k := 63) (by omega) (by omega)) (by show n3 ≠ 0; omega)) (by omega) (by omega)) ?_;refine .intro rfl ?_;exact ⟨trivial, rc rfl, trivial⟩
theorem y3 (n0 n1 n2 n3 n4 n5 : Nat) (h2 : n2 ≠ 0) (hb : n4 ≠ 0) (m2 : n2 ≤ 1000000) (m3 : n3 ≤ 1000000) (m4 : n4 ≤ 1000000) (m5 : n5 ≤ 1000000) :
  Ct P 142 [.c (nI .i64 3), c6 n0 n1 n2 n3 n4 n5] [rP (bW 3 n2 n3 n5 n4)] := by
 have j1 : Bd 63 (n2, 1) := aE (by omega) (by omega);have j2 : Bd 63 (n2 + 2 * n3, 1) := aE (by omega) (by omega);have y := cn j1 j2 (by show n2 + 2 * n3 ≠ 0; omega);refine Ct.go aj aa (N := 34) Tryz.func142 rfl rfl rfl rfl ?_
 ·refine .intro (by decide) (And.intro (by decide) ?_);refine X1 _ (bp n2 (by omega)) ?_;refine .intro (by decide) (And.intro (by decide) ?_);refine .intro (by decide) (And.intro (by decide) ?_);refine X1 ((2 * n3 : Nat) : Int) (wI (by simp) (by omega) (by omega)) ?_;refine X1 ((n2 + 2 * n3 : Nat) : Int) (wI (by simp) (by omega) (by omega)) ?_;refine X1 _ (bp (n2 + 2 * n3) (by omega)) ?_;refine X1 _ (iL j1 j2 (by show n2 + 2 * n3 ≠ 0; omega) (by omega) (by omega)) ?_;refine .intro rfl ?_;refine X1 ((4 : Nat) : Int) (wI (by simp) (by omega) (by omega)) ?_;refine X1 _ (bp 4 (by omega)) ?_;refine X1 _ (iK (aE (v := 4) (k := 63) (by decide) (by omega)) y (by omega) (by omega)) ?_;refine X1 ((5 : Nat) : Int) (wI (by simp) (by omega) (by omega)) ?_;refine .intro (by decide) (And.intro (by decide) ?_);refine X1 _ (bp n5 (by omega)) ?_;refine X1 ((4 : Nat) : Int) (wI (by simp) (by omega) (by omega)) ?_;refine .intro (by decide) (And.intro (by decide) ?_);refine X1 _ (bp n4 (by omega)) ?_;refine X1 _ (iL (aE (v := n5) (k := 63) (by omega) (by omega)) (aE (v := n4) (k := 63) (by omega) (by omega)) (by show n4 ≠ 0; omega) (by omega) (by omega)) ?_;refine X1 _ (iK (bv (aE (v := 4) (k := 63) (by decide) (by omega)) y) (cn (aE (v := n5) (k := 63) (by omega) (by omega)) (aE (v := n4) (k := 63) (by omega) (by omega)) (by show n4 ≠ 0; omega)) (by omega) (by omega)) ?_;refine .intro rfl ?_;exact ⟨trivial, rc rfl, trivial⟩
def cH (n2 n3 n4 n5 : Nat) : Nat → Nat × Nat
 | 1 => if n2 > 0 ∧ n2 > 0 then cW (1, 1) (bW 1 n2 n3 n3 n2) else (0, 1)
 | 2 => if n2 > 0 ∧ n3 > 0 then cW (2, 1) (bW 2 n2 n3 n4 n3) else (0, 1)
 | _ => if n2 > 0 ∧ n4 > 0 then cW (3, 1) (bW 3 n2 n3 n5 n4) else (0, 1)
def fq (n2 n3 n4 n5 j k : Nat) : Nat × Nat := if j < k then cH n2 n3 n4 n5 j else (0, 1)
def ofc (n2 n3 n4 n5 k : Nat) : List PC := [dV 0, dV 1, dV (fq n2 n3 n4 n5 1 k).1, dV (fq n2 n3 n4 n5 1 k).2, dV (fq n2 n3 n4 n5 2 k).1, dV (fq n2 n3 n4 n5 2 k).2, dV (fq n2 n3 n4 n5 3 k).1, dV (fq n2 n3 n4 n5 3 k).2]
theorem AR (n0 n1 n2 n3 n4 n5 : Nat) (m2 : n2 ≤ 1000000) (m3 : n3 ≤ 1000000) (m4 : n4 ≤ 1000000) (m5 : n5 ≤ 1000000) : Ct P 93 [c6 n0 n1 n2 n3 n4 n5] [dS (0, 1) (cH n2 n3 n4 n5 1) (cH n2 n3 n4 n5 2) (cH n2 n3 n4 n5 3)] := by
 have pb : ∀ (k a b : Nat), k + 1 < 2 ^ 63 → n2 ≠ 0 → b ≠ 0 → a ≤ 1000000 → b ≤ 1000000 → Bd 400000 (bW k n2 n3 a b) := fun k a b hk h2 hb ha hb' => by
  have j1 : Bd 63 (n2, 1) := aE (by omega) (by omega);have j2 : Bd 63 (n2 + 2 * n3, 1) := aE (by omega) (by omega);have y := cn j1 j2 (by show n2 + 2 * n3 ≠ 0; omega);exact (bv (bv (aE (v := k + 1) (k := 63) hk (by omega)) y) (cn (aE (v := a) (k := 63) (by omega) (by omega)) (aE (v := b) (k := 63) (by omega) (by omega)) hb)).le (by omega)
 refine Ct.go aj aa (N := 33) Tryz.func93 rfl rfl rfl rfl ?_;refine X1 _ (bp 0 (by omega)) ?_;refine X1 _ (bp 0 (by omega)) ?_;refine X1 _ (bp 0 (by omega)) ?_;refine X1 _ (bp 0 (by omega)) ?_;refine au aj aa (fun k : Nat => 1 ≤ k ∧ k ≤ 4) (fun k => [(1, .c (.ad 1 0)), (2, .c (.ad 2 0)), (3, .c (.ad 3 0)), (4, .c (nI .i64 k))])
  (fun k => [(1, .var [nI .i64 n0, nI .i64 n1, nI .i64 n2, nI .i64 n3, nI .i64 n4, nI .i64 n5]), (2, .var (List.replicate 8 (.sc (.slice none 0 0)))), (3, .var (ofc n2 n3 n4 n5 k))]) (fun k => 4 - k)
  1 ⟨by omega, by omega⟩ ⟨rfl, rfl, rfl, rfl, trivial⟩ ⟨rfl, rfl, rfl, trivial⟩ (fun _ : Unit => True) (fun _ => [(2, .c (.ad 2 0)), (3, .c (.ad 3 0))]) (fun _ => [(2, .var (List.replicate 8 (.sc (.slice none 0 0)))), (3, .var (ofc n2 n3 n4 n5 4))]) (fun k hi => ?_) (fun _ _ => ?_)
 ·obtain ⟨i1, i2⟩ := hi;refine ah (fun h1 => ?_) (fun h1 => ?_)
  ·have hk : k = 1 ∨ k = 2 ∨ k = 3 := by omega
   rcases hk with rfl | rfl | rfl
   ·refine .intro (by decide) (And.intro (by decide) ?_);refine ah (fun h2 => ?_) (fun h2 => ?_)
    ·refine X1 ((2 : Nat) : Int) (wI (by simp) (by omega) (by omega)) ?_;refine .intro (by decide) (And.intro (by decide) ?_);refine ah (fun h3 => ?_) (fun h3 => ?_)
     ·have hr : cH n2 n3 n4 n5 1 = cW (1, 1) (bW 1 n2 n3 n3 n2) := by
       show (if _ then _ else _) = _
       exact if_pos ⟨by omega, by omega⟩
      refine X1 _ (bp 1 (by omega)) ?_;refine X1 _ (yZ n0 n1 n2 n3 n4 n5 (by omega) (by omega) m2 m3 m4 m5) ?_;refine X1 _ (qf (aE (v := 1) (k := 63) (by decide) (by omega)) (pb 1 n3 n2 (by decide) (by omega) (by omega) (by omega) (by omega)) (by omega) (by omega)) ?_;refine .intro (by decide) (And.intro (by decide) ?_);refine .intro rfl ?_;refine X1 ((2 : Nat) : Int) (wI (by simp) (by omega) (by omega)) ?_;exact ⟨2, ⟨by omega, by omega⟩, by decide, ⟨rfl, rfl, rfl, rfl, trivial⟩, ⟨rfl, rfl, by unfold ofc fq; simp only [hr]; rfl, trivial⟩⟩
     ·have hr : cH n2 n3 n4 n5 1 = (0, 1) := by
       show (if _ then _ else _) = _
       exact if_neg (by omega)
      refine X1 ((2 : Nat) : Int) (wI (by simp) (by omega) (by omega)) ?_;exact ⟨2, ⟨by omega, by omega⟩, by decide, ⟨rfl, rfl, rfl, rfl, trivial⟩, ⟨rfl, rfl, by unfold ofc fq; simp only [hr]; rfl, trivial⟩⟩
    ·have hr : cH n2 n3 n4 n5 1 = (0, 1) := by
       show (if _ then _ else _) = _
       exact if_neg (by omega)
     refine X1 ((2 : Nat) : Int) (wI (by simp) (by omega) (by omega)) ?_;exact ⟨2, ⟨by omega, by omega⟩, by decide, ⟨rfl, rfl, rfl, rfl, trivial⟩, ⟨rfl, rfl, by unfold ofc fq; simp only [hr]; rfl, trivial⟩⟩
   ·refine .intro (by decide) (And.intro (by decide) ?_);refine ah (fun h2 => ?_) (fun h2 => ?_)
    ·refine X1 ((3 : Nat) : Int) (wI (by simp) (by omega) (by omega)) ?_;refine .intro (by decide) (And.intro (by decide) ?_);refine ah (fun h3 => ?_) (fun h3 => ?_)
     ·have hr : cH n2 n3 n4 n5 2 = cW (2, 1) (bW 2 n2 n3 n4 n3) := by
       show (if _ then _ else _) = _
       exact if_pos ⟨by omega, by omega⟩
      refine X1 _ (bp 2 (by omega)) ?_;refine X1 _ (y2 n0 n1 n2 n3 n4 n5 (by omega) (by omega) m2 m3 m4 m5) ?_;refine X1 _ (qf (aE (v := 2) (k := 63) (by decide) (by omega)) (pb 2 n4 n3 (by decide) (by omega) (by omega) (by omega) (by omega)) (by omega) (by omega)) ?_;refine .intro (by decide) (And.intro (by decide) ?_);refine .intro rfl ?_;refine X1 ((3 : Nat) : Int) (wI (by simp) (by omega) (by omega)) ?_;exact ⟨3, ⟨by omega, by omega⟩, by decide, ⟨rfl, rfl, rfl, rfl, trivial⟩, ⟨rfl, rfl, by unfold ofc fq; simp only [hr]; rfl, trivial⟩⟩
     ·have hr : cH n2 n3 n4 n5 2 = (0, 1) := by
       show (if _ then _ else _) = _
       exact if_neg (by omega)
      refine X1 ((3 : Nat) : Int) (wI (by simp) (by omega) (by omega)) ?_;exact ⟨3, ⟨by omega, by omega⟩, by decide, ⟨rfl, rfl, rfl, rfl, trivial⟩, ⟨rfl, rfl, by unfold ofc fq; simp only [hr]; rfl, trivial⟩⟩
    ·have hr : cH n2 n3 n4 n5 2 = (0, 1) := by
       show (if _ then _ else _) = _
       exact if_neg (by omega)
     refine X1 ((3 : Nat) : Int) (wI (by simp) (by omega) (by omega)) ?_;exact ⟨3, ⟨by omega, by omega⟩, by decide, ⟨rfl, rfl, rfl, rfl, trivial⟩, ⟨rfl, rfl, by unfold ofc fq; simp only [hr]; rfl, trivial⟩⟩
   ·refine .intro (by decide) (And.intro (by decide) ?_);refine ah (fun h2 => ?_) (fun h2 => ?_)
    ·refine X1 ((4 : Nat) : Int) (wI (by simp) (by omega) (by omega)) ?_;refine .intro (by decide) (And.intro (by decide) ?_);refine ah (fun h3 => ?_) (fun h3 => ?_)
     ·have hr : cH n2 n3 n4 n5 3 = cW (3, 1) (bW 3 n2 n3 n5 n4) := by
       show (if _ then _ else _) = _
       exact if_pos ⟨by omega, by omega⟩
      refine X1 _ (bp 3 (by omega)) ?_;refine X1 _ (y3 n0 n1 n2 n3 n4 n5 (by omega) (by omega) m2 m3 m4 m5) ?_;refine X1 _ (qf (aE (v := 3) (k := 63) (by decide) (by omega)) (pb 3 n5 n4 (by decide) (by omega) (by omega) (by omega) (by omega)) (by omega) (by omega)) ?_;refine .intro (by decide) (And.intro (by decide) ?_);refine .intro rfl ?_;refine X1 ((4 : Nat) : Int) (wI (by simp) (by omega) (by omega)) ?_;exact ⟨4, ⟨by omega, by omega⟩, by decide, ⟨rfl, rfl, rfl, rfl, trivial⟩, ⟨rfl, rfl, by unfold ofc fq; simp only [hr]; rfl, trivial⟩⟩
     ·have hr : cH n2 n3 n4 n5 3 = (0, 1) := by
       show (if _ then _ else _) = _
       exact if_neg (by omega)
      refine X1 ((4 : Nat) : Int) (wI (by simp) (by omega) (by omega)) ?_;exact ⟨4, ⟨by omega, by omega⟩, by decide, ⟨rfl, rfl, rfl, rfl, trivial⟩, ⟨rfl, rfl, by unfold ofc fq; simp only [hr]; rfl, trivial⟩⟩
    ·have hr : cH n2 n3 n4 n5 3 = (0, 1) := by
       show (if _ then _ else _) = _
       exact if_neg (by omega)
     refine X1 ((4 : Nat) : Int) (wI (by simp) (by omega) (by omega)) ?_;exact ⟨4, ⟨by omega, by omega⟩, by decide, ⟨rfl, rfl, rfl, rfl, trivial⟩, ⟨rfl, rfl, by unfold ofc fq; simp only [hr]; rfl, trivial⟩⟩
  ·have e : k = 4 := by omega
   subst e;exact ⟨(), trivial, ⟨rfl, rfl, trivial⟩, ⟨rfl, rfl, trivial⟩⟩
 ·exact ⟨trivial, rc rfl, trivial⟩
def nz (p : Nat × Nat) : Nat × Nat := (p.1, dn p.2)
theorem qg (p : Nat × Nat) : (nz p).2 ≠ 0 := fp p.2
theorem y4 {p : Nat × Nat} (h : p.2 ≠ 0) : nz p = p := by unfold nz; rw [ib h]
theorem Bd.bg {k : Nat} {p : Nat × Nat} (h : Bd k (nz p)) : Bg k p :=
 ⟨h.n, FJ (show p.2 ≤ dn p.2 by unfold dn; split <;> omega) h.d⟩
theorem aw {k : Nat} {p : Nat × Nat} (h : Bd k p) : nz p = p := y4 h.pos
theorem jt {n d : Nat} (h : d ≠ 0) : Nat.gcd (fR n d).1 (fR n d).2 = 1 := by
 have hg := Nat.gcd_pos_of_pos_right n (Eu h);show Nat.gcd (n / Nat.gcd n d) (d / Nat.gcd n d) = 1
 rw [Nat.gcd_div (GF n d) (FZ n d), GL hg]
theorem uJ {n d : Nat} (h : Nat.gcd n d = 1) : fR n d = (n, d) := by unfold fR; rw [h]; simp
theorem y5 {p : Nat × Nat} (h : Nat.gcd p.1 p.2 = 1) : bE (0, 1) p = p := by
 have : bE (0, 1) p = fR p.1 p.2 := by unfold bE; simp
 rw [this, uJ h]
theorem Cq {p q : Nat × Nat} (hp : p.2 ≠ 0) (hq : q.2 ≠ 0) (h : p.1 * q.2 < q.1 * p.2) : cW p q = (0, 1) := by
 unfold cW;rw [Nat.sub_eq_zero_of_le (Nat.le_of_lt h)];unfold fR;rw [Gi, GU, GL (Eu (Es hp hq))]
theorem Cr (p q : Nat × Nat) : AK p q = cW (nz p) (nz q) := by
 unfold AK;split
 ·rename_i h; exact (Cq (qg p) (qg q) h).symm
 ·rfl
theorem ey {k m : Nat} {p q : Nat × Nat} (h1 : Bd k (nz p)) (h2 : Bd m (nz q)) (hk : k ≤ 400000) (hm : m ≤ 400000) : Ct P 133 [qP p, qP q] [qP (cG (nz p) (nz q))] := AL h1.bg h2.bg (by omega) (by omega)
theorem AS {k m : Nat} {p q : Nat × Nat} (h1 : Bd k (nz p)) (h2 : Bd m (nz q)) (hq : q.1 ≠ 0) (hk : k ≤ 400000) (hm : m ≤ 400000) : Ct P 26 [qP p, qP q] [qP (dW (nz p) (nz q)), .c (eI .i64 0)] := uI h1.bg h2.bg hq (by omega) (by omega)
theorem tQ {k m : Nat} {p q : Nat × Nat} (h1 : Bd k (nz p)) (h2 : Bd m (nz q)) (hq : q.1 ≠ 0) (hk : k ≤ 400000) (hm : m ≤ 400000) : Ct P 132 [qP p, qP q] [qP (dW (nz p) (nz q))] := Co h1.bg h2.bg hq (by omega) (by omega)
theorem kv {k m : Nat} {p q : Nat × Nat} (h1 : Bd k (nz p)) (h2 : Bd m (nz q)) (hk : k ≤ 400000) (hm : m ≤ 400000) : Ct P 52 [qP p, qP q] [qP (cW (nz p) (nz q))] := by
 rw [← Cr]; exact AM h1.bg h2.bg (by omega) (by omega)
theorem Bd.limq {k : Nat} {p : Nat × Nat} (h : Bd k (nz p)) (hk : k ≤ 2000000) : LimQ p.1 p.2 := h.bg.lim hk
theorem cq {k : Nat} {p : Nat × Nat} (h : Bd k p) (hk : k ≤ 2000000) : LimQ p.1 p.2 := Bd.limq (k := k) (by rw [aw h]; exact h) hk
theorem bd01 : Bd 1 (0, 1) := ⟨by decide, by decide, by decide⟩
theorem kw {k m : Nat} {p q : Nat × Nat} (h1 : Bd k (nz p)) (h2 : Bd m (nz q)) (r1 : Nat.gcd (nz p).1 (nz p).2 = 1) (hk : k + m < 2000000) : Ct P 116 [.c (.sl 2 (qe [p, q]))] [qP (bE (nz p) (nz q))] := by
 have e1 : cj (0, 1) p = nz p := y5 r1;have e2 : cj (nz p) q = bE (nz p) (nz q) := by
  show bE (nz (nz p)) (nz q) = _
  rw [y4 (qg p)]
 have b2 := eY h1 h2;have := uH [p, q] (by simp) (fun i hi => by
  match i, hi with
  | 0, _ => exact h1.limq (by omega)
  | 1, _ => exact h2.limq (by omega)) (fun i hi => by
  match i, hi with
  | 0, _ => exact cq bd01 (by omega)
  | 1, _ => show LimQ (cj (0, 1) p).1 (cj (0, 1) p).2; rw [e1]; exact cq h1 (by omega)
  | 2, _ => show LimQ (cj (cj (0, 1) p) q).1 (cj (cj (0, 1) p) q).2; rw [e1, e2]; exact cq b2 (by omega))
 have e : [p, q].foldl cj (0, 1) = bE (nz p) (nz q) := by
  show cj (cj (0, 1) p) q = _
  rw [e1, e2]
 rw [e] at this;exact this
theorem nN {k m : Nat} {p q : Nat × Nat} (h1 : Bd k (nz p)) (h2 : Bd m (nz q)) (r1 : Nat.gcd (nz p).1 (nz p).2 = 1) (hk : k ≤ 400000) (hm : m ≤ 400000) : Ct P 116 [.c (.sl 2 (qe [p, q]))] [qP (bE (nz p) (nz q))] := kw h1 h2 r1 (by omega)
theorem rW {k m n : Nat} {p q r : Nat × Nat} (h1 : Bd k (nz p)) (h2 : Bd m (nz q)) (h3 : Bd n (nz r)) (r1 : Nat.gcd (nz p).1 (nz p).2 = 1) (hk : k ≤ 400000) (hm : m ≤ 400000) (hn : n ≤ 400000) : Ct P 116 [.c (.sl 2 (qe [p, q, r]))] [qP (bE (bE (nz p) (nz q)) (nz r))] := by
 have e1 : cj (0, 1) p = nz p := y5 r1;have e2 : cj (nz p) q = bE (nz p) (nz q) := by
  show bE (nz (nz p)) (nz q) = _
  rw [y4 (qg p)]
 have b2 := eY h1 h2;have e3 : cj (bE (nz p) (nz q)) r = bE (bE (nz p) (nz q)) (nz r) := by
  show bE (nz (bE (nz p) (nz q))) (nz r) = _
  rw [aw b2]
 have b3 := eY b2 h3;have := uH [p, q, r] (by simp) (fun i hi => by
  match i, hi with
  | 0, _ => exact h1.limq (by omega)
  | 1, _ => exact h2.limq (by omega)
  | 2, _ => exact h3.limq (by omega)) (fun i hi => by
  match i, hi with
  | 0, _ => exact cq bd01 (by omega)
  | 1, _ => show LimQ (cj (0, 1) p).1 (cj (0, 1) p).2; rw [e1]; exact cq h1 (by omega)
  | 2, _ => show LimQ (cj (cj (0, 1) p) q).1 (cj (cj (0, 1) p) q).2; rw [e1, e2]; exact cq b2 (by omega)
  | 3, _ => show LimQ (cj (cj (cj (0, 1) p) q) r).1 (cj (cj (cj (0, 1) p) q) r).2; rw [e1, e2, e3]; exact cq b3 (by omega))
 have e : [p, q, r].foldl cj (0, 1) = bE (bE (nz p) (nz q)) (nz r) := by
  show cj (cj (cj (0, 1) p) q) r = _
  rw [e1, e2, e3]
 rw [e] at this;exact this
theorem cL (n : Nat) (hn : n < 9223372036854775808) : Ct P 131 [.c (nI .i64 n)] [qP (n, 1)] := by
 have := yS (n : Int) (by omega);unfold wh at this;simpa using this
abbrev c7 (n0 n1 n2 n3 n4 n5 : Nat) : A1 := .ag [nI .i64 n0, nI .i64 n1, nI .i64 0, nI .i64 n2, nI .i64 n3, nI .i64 n4, nI .i64 n5]
theorem nz1 (n : Nat) : nz (n, 1) = (n, 1) := rfl
theorem bd1 {n : Nat} (h : n < 9223372036854775808) : Bd 63 (nz (n, 1)) := aE h (by omega)
def y6 (p1 p2 p3 : Nat × Nat) (n0 n2 n3 : Nat) : Nat × Nat := bE (bE (cG (n2, 1) p1) (cG (n3, 1) p2)) (cG (n0 - n2 - n3, 1) p3)
theorem AT {k : Nat} (p0 p1 p2 p3 : Nat × Nat) (n0 n1 n2 n3 n4 n5 : Nat) (b1 : Bd k (nz p1)) (b2 : Bd k (nz p2)) (b3 : Bd k (nz p3)) (hk : k ≤ 100000) (m0 : n0 < 4611686018427387904) (m2 : n2 + n3 ≤ n0) :
  Ct P 190 [gS p0 p1 p2 p3, c7 n0 n1 n2 n3 n4 n5] [qP (y6 (nz p1) (nz p2) (nz p3) n0 n2 n3)] := by
 have i0 : Bd 63 (nz (n0 - n2 - n3, 1)) := bd1 (by omega);have i2 : Bd 63 (nz (n2, 1)) := bd1 (by omega);have i3 : Bd 63 (nz (n3, 1)) := bd1 (by omega);have f1 := bv i2 b1;have f2 := bv i3 b2;have f4 := bv i0 b3;have g1 : Bd (63 + k) (nz (cG (nz (n2, 1)) (nz p1))) := by rw [aw f1]; exact f1
 have g2 : Bd (63 + k) (nz (cG (nz (n3, 1)) (nz p2))) := by rw [aw f2]; exact f2
 have g4 : Bd (63 + k) (nz (cG (nz (n0 - n2 - n3, 1)) (nz p3))) := by rw [aw f4]; exact f4
 have hr : Nat.gcd (nz (cG (nz (n2, 1)) (nz p1))).1 (nz (cG (nz (n2, 1)) (nz p1))).2 = 1 := by
  rw [aw f1]; exact jt (Es i2.pos b1.pos)
 have hadd := rW g1 g2 g4 hr (by omega) (by omega) (by omega);rw [aw f1, aw f2, aw f4] at hadd;refine Ct.go (Ty.own_ok [1000001] aj) aa (N := 42) Tryz.func190 rfl rfl rfl rfl ?_;refine .intro (by decide) (And.intro (by decide) ?_);refine X1 _ (cL n2 (by omega)) ?_;refine .intro (by decide) (And.intro (by decide) ?_);refine X1 _ (ey i2 b1 (by omega) (by omega)) ?_;refine .intro rfl ?_;refine .intro (by decide) (And.intro (by decide) ?_);refine X1 _ (cL n3 (by omega)) ?_;refine .intro (by decide) (And.intro (by decide) ?_);refine X1 _ (ey i3 b2 (by omega) (by omega)) ?_;refine .intro rfl ?_;refine .intro (by decide) (And.intro (by decide) ?_);refine X1 ((n0 - n2 : Nat) : Int) (wI (by omega) (by omega) (by omega)) ?_;refine .intro (by decide) (And.intro (by decide) ?_);refine X1 ((n0 - n2 - n3 : Nat) : Int) (wI (by omega) (by omega) (by omega)) ?_;refine X1 _ (cL (n0 - n2 - n3) (by omega)) ?_;refine .intro (by decide) (And.intro (by decide) ?_);refine X1 _ (ey i0 b3 (by omega) (by omega)) ?_;refine X1 _ hadd ?_;refine .intro rfl ?_;exact ⟨trivial, rc rfl, trivial⟩
theorem vV {k : Nat} (p0 p1 p2 p3 : Nat × Nat) (n0 n1 n2 n3 n4 n5 : Nat) (b1 : Bd k (nz p1)) (b2 : Bd k (nz p2)) (b3 : Bd k (nz p3)) (hk : k ≤ 100000) (m0 : n0 < 4611686018427387904) (m1 : n1 ≤ 4611686018427387904) (m2 : n2 + n3 ≤ n0) :
  Ct P 184 [gS p0 p1 p2 p3, c7 n0 n1 n2 n3 n4 n5] [qP (nM (nz p1) (nz p2) (nz p3) n0 n1 n2 n3)] := by
 have i1 : Bd 63 (nz (n1, 1)) := bd1 (by omega);have f5 : Bd (63 + k + (63 + k) + 1 + (63 + k) + 1) (y6 (nz p1) (nz p2) (nz p3) n0 n2 n3) := eY (eY (bv (bd1 (n := n2) (by omega)) b1) (bv (bd1 (n := n3) (by omega)) b2)) (bv (bd1 (n := n0 - n2 - n3) (by omega)) b3);have g5 := f5;rw [← aw f5] at g5;refine Ct.go (Ty.own_ok [1000001] aj) aa (N := 16) Tryz.func184 rfl rfl rfl rfl ?_;refine ah (fun h0 => ?_) (fun h0 => ?_)
 ·rw [nM, if_pos (by omega)];refine X1 _ (bG 1 (by omega)) ?_;exact ⟨trivial, rc rfl, trivial⟩
 ·rw [nM, if_neg (by omega)];refine X1 _ (AT p0 p1 p2 p3 n0 n1 n2 n3 n4 n5 b1 b2 b3 hk m0 m2) ?_;refine X1 _ (cL n1 (by omega)) ?_;refine X1 _ (tQ g5 i1 (by show n1 ≠ 0; omega) (by omega) (by omega)) ?_;refine .intro rfl ?_;rw [aw f5];exact ⟨trivial, rc rfl, trivial⟩
theorem Dp {P : Program} {N : Nx} {E : Env} {O : Objs} {c : Code} {Q : PQ} {k : Nat} {cells cells' : List PC} (hk : O.get k = some (.var cells)) (hl : leL cells cells') (h : WI P N E (O.set k (.var cells')) c Q) : WI P N E O c Q :=
 WI.step (fun X K ok w a hs => by
  have hsub : ∀ t o, (O.set k (.var cells')).get t = some o → ∃ o', O.get t = some o' := fun t o h => by
   rw [Objs.get_set] at h;split at h
   ·rename_i e; subst e; exact ⟨_, hk⟩
   ·exact ⟨o, h⟩
  refine ⟨K, ok, ⟨hs.size, hs.defers, hs.base, hs.rnd, hs.old, ⟨fun t o g => ?_, fun t t' o o' b L L' g1 g2 => ?_, fun t o b L g => ?_, hs.hp.lt, hs.hp.hlt, hs.hp.hok, fun t o b L g => ?_⟩, hs.env⟩,
   D1 _, fun _ _ _ _ => rfl, fun _ h => h, fun _ h => .inl h, fun t o b L g1 g2 => by obtain ⟨o', g3⟩ := hsub t o g1; exact .inr ⟨t, o', L, g3, g2⟩, rfl, rfl, rfl, fun _ o h => ⟨o, h, SK.refl o⟩, fun _ _ => rfl, fun _ h => .inl h⟩
  ·rw [Objs.get_set] at g;split at g
   ·rename_i e;subst e;cases g;obtain ⟨b, cs, e, fr, a1, a2, a3, a4⟩ := hs.hp.obs k _ hk;exact ⟨b, cs, e, fr, a1, a2, a3, leL.rel hl a4⟩
   ·exact hs.hp.obs t o g
  ·obtain ⟨p, q1⟩ := hsub t o g1;obtain ⟨p', q2⟩ := hsub t' o' g2;exact hs.hp.inj t t' p p' b L L' q1 q2
  ·obtain ⟨p, q1⟩ := hsub t o g; exact hs.hp.apart t p b L q1
  ·obtain ⟨p, q1⟩ := hsub t o g; exact hs.hp.how t p b L q1) h
theorem dq (sz : Nat) : leP (.sc (.slice none 0 0)) (.sl sz []) := .inr ⟨rfl, sz, rfl⟩
theorem y7 {m n : Nat} {X Y : Prop} (h1 : m = n → X) (h2 : m ≠ n → Y) : BM X Y (m == n) := aN (fun h => h1 (by simpa using h)) (fun h => h2 (by simpa using h))
def cN (n2 n3 n4 n5 : Nat) : Nat → Nat
 | 1 => n2
 | 2 => n3
 | 3 => n4
 | 4 => n5
 | _ => 0
theorem ii (n0 n1 n2 n3 n4 n5 k : Nat) (h1 : 1 ≤ k) (h2 : k ≤ 4) (m2 : n2 ≤ 1000000) (m3 : n3 ≤ 1000000) (m4 : n4 ≤ 1000000) (m5 : n5 ≤ 1000000) :
  Ct P 130 [.c (nI .i64 k), .c (.rd [nI .i64 n0, nI .i64 n1, nI .i64 0, nI .i64 n2, nI .i64 n3, nI .i64 n4, nI .i64 n5])] [qP (cN n2 n3 n4 n5 k, 1)] := by
 refine Ct.go aj aa (N := 9) Tryz.func130 rfl rfl rfl rfl ?_;have hk : k = 1 ∨ k = 2 ∨ k = 3 ∨ k = 4 := by omega
 rcases hk with rfl | rfl | rfl | rfl
 ·refine .intro (by decide) (And.intro (by decide) ?_);exact X1 _ (cL n2 (by omega)) ⟨trivial, rc rfl, trivial⟩
 ·refine .intro (by decide) (And.intro (by decide) ?_);exact X1 _ (cL n3 (by omega)) ⟨trivial, rc rfl, trivial⟩
 ·refine .intro (by decide) (And.intro (by decide) ?_);exact X1 _ (cL n4 (by omega)) ⟨trivial, rc rfl, trivial⟩
 ·refine .intro (by decide) (And.intro (by decide) ?_);exact X1 _ (cL n5 (by omega)) ⟨trivial, rc rfl, trivial⟩
def dJ (n2 n3 n4 n5 k : Nat) : Nat × Nat := if n2 = 0 ∨ cN n2 n3 n4 n5 k = 0 then (0, 0) else cW (k, 1) (bW k n2 n3 (cN n2 n3 n4 n5 (k + 1)) (cN n2 n3 n4 n5 k))
theorem qh {n2 n3 : Nat} (k a b : Nat) (hk : k + 1 < 2 ^ 63) (h2 : n2 ≠ 0) (hb : b ≠ 0) (m2 : n2 ≤ 1000000) (m3 : n3 ≤ 1000000) (ha : a ≤ 1000000) (hb' : b ≤ 1000000) : Bd 400 (bW k n2 n3 a b) := by
 have j1 : Bd 63 (n2, 1) := aE (by omega) (by omega);have j2 : Bd 63 (n2 + 2 * n3, 1) := aE (by omega) (by omega);have y := cn j1 j2 (by show n2 + 2 * n3 ≠ 0; omega);exact (bv (bv (aE (v := k + 1) (k := 63) hk (by omega)) y) (cn (aE (v := a) (k := 63) (by omega) (by omega)) (aE (v := b) (k := 63) (by omega) (by omega)) hb)).le (by omega)
theorem y8 {n2 n3 n4 n5 : Nat} (m2 : n2 ≤ 1000000) (m3 : n3 ≤ 1000000) (m4 : n4 ≤ 1000000) (m5 : n5 ≤ 1000000) (k : Nat) : cN n2 n3 n4 n5 k ≤ 1000000 := by
 unfold cN; split <;> omega
theorem uK {n2 n3 n4 n5 : Nat} (m2 : n2 ≤ 1000000) (m3 : n3 ≤ 1000000) (m4 : n4 ≤ 1000000) (m5 : n5 ≤ 1000000) (k : Nat) (h1 : 1 ≤ k) (h3 : k ≤ 3) : nz (dJ n2 n3 n4 n5 k) = cH n2 n3 n4 n5 k := by
 have key : ∀ j, 1 ≤ j → j ≤ 3 → (n2 ≠ 0 ∧ cN n2 n3 n4 n5 j ≠ 0 → nz (cW (j, 1) (bW j n2 n3 (cN n2 n3 n4 n5 (j + 1)) (cN n2 n3 n4 n5 j))) = cW (j, 1) (bW j n2 n3 (cN n2 n3 n4 n5 (j + 1)) (cN n2 n3 n4 n5 j))) := fun j hj hj3 h =>
  aw (mB (aE (v := j) (k := 63) (by omega) (by omega)) (qh j _ _ (by omega) h.1 h.2 m2 m3 (y8 m2 m3 m4 m5 _) (y8 m2 m3 m4 m5 _)))
 have h0 : nz (0, 0) = (0, 1) := rfl;have hk := key k h1 h3;unfold dJ;have hkk : k = 1 ∨ k = 2 ∨ k = 3 := by omega
 rcases hkk with rfl | rfl | rfl <;>
 ·simp only [cN, cH, bW] at hk ⊢;split
  ·rename_i h;rw [h0, if_neg (by omega)]
  ·rename_i h;rw [hk (by omega), if_pos (by omega)]
def qi (n2 n3 n4 n5 j k : Nat) : Nat × Nat := if j < k then dJ n2 n3 n4 n5 j else (0, 0)
def ofR (n2 n3 n4 n5 k : Nat) : List PC := [nSl .u64 [], nSl .u64 [], nSl .u64 (dg 18446744073709551616 (qi n2 n3 n4 n5 1 k).1), nSl .u64 (dg 18446744073709551616 (qi n2 n3 n4 n5 1 k).2), nSl .u64 (dg 18446744073709551616 (qi n2 n3 n4 n5 2 k).1), nSl .u64 (dg 18446744073709551616 (qi n2 n3 n4 n5 2 k).2), nSl .u64 (dg 18446744073709551616 (qi n2 n3 n4 n5 3 k).1), nSl .u64 (dg 18446744073709551616 (qi n2 n3 n4 n5 3 k).2)]
theorem Cs (a b : Nat) (h : a + 2 * b < 4611686018427387904) : bE (bE (nz (a, 1)) (nz (b, 1))) (nz (b, 1)) = (a + 2 * b, 1) := by
 have e : ∀ x y, bE (x, 1) (y, 1) = (x + y, 1) := fun x y => by
  unfold bE;simp only [Fg];exact uJ (GN _)
 rw [nz1, nz1, e, e];congr 1;omega
theorem Cu (n0 n1 n2 n3 n4 n5 : Nat) (m2 : n2 ≤ 1000000) (m3 : n3 ≤ 1000000) (m4 : n4 ≤ 1000000) (m5 : n5 ≤ 1000000) : Ct P 85 [c7 n0 n1 n2 n3 n4 n5] [gS (0, 0) (dJ n2 n3 n4 n5 1) (dJ n2 n3 n4 n5 2) (dJ n2 n3 n4 n5 3)] := by
 have hcN := y8 m2 m3 m4 m5;refine Ct.go (Ty.own_ok [1000001] aj) aa (N := 54) Tryz.func85 rfl rfl rfl rfl ?_;refine X1 [.ad 1 0] rfl ?_;refine X2 .frz ?_;refine X1 _ (ii n0 n1 n2 n3 n4 n5 1 (by omega) (by omega) m2 m3 m4 m5) ?_;refine X1 _ (ic n2 1 (D4 (cv (k := 1) (by omega) (by omega)) (by omega))) ?_;refine y7 (fun h0 => ?_) (fun h0 => ?_)
 ·have hr : ∀ k, dJ n2 n3 n4 n5 k = (0, 0) := fun k => by unfold dJ; rw [if_pos (.inl h0)]
  have hd : dg 18446744073709551616 0 = [] := bu _;have hg : gS (0, 0) (0, 0) (0, 0) (0, 0) = .ag [nSl .u64 [], nSl .u64 [], nSl .u64 [], nSl .u64 [], nSl .u64 [], nSl .u64 [], nSl .u64 [], nSl .u64 []] := by simp only [gS, hd]
  rw [hr, hr, hr, hg];refine ⟨trivial, ⟨_, rfl, ?_⟩, trivial⟩;exact ⟨dq 1, dq 1, dq 1, dq 1, dq 1, dq 1, dq 1, dq 1, trivial⟩
 ·refine X1 _ (ii n0 n1 n2 n3 n4 n5 1 (by omega) (by omega) m2 m3 m4 m5) ?_;refine X1 _ (ii n0 n1 n2 n3 n4 n5 1 (by omega) (by omega) m2 m3 m4 m5) ?_;refine X1 _ (ii n0 n1 n2 n3 n4 n5 2 (by omega) (by omega) m2 m3 m4 m5) ?_;refine X1 _ (ii n0 n1 n2 n3 n4 n5 2 (by omega) (by omega) m2 m3 m4 m5) ?_;refine X2 .frz ?_;have hadd := rW (bd1 (n := n2) (by omega)) (bd1 (n := n3) (by omega)) (bd1 (n := n3) (by omega)) (GN _) (by omega) (by omega) (by omega);rw [Cs n2 n3 (by omega)] at hadd;refine X1 _ hadd ?_;have j1 : Bd 63 (nz (n2, 1)) := bd1 (by omega);have j2 : Bd 63 (nz (n2 + 2 * n3, 1)) := bd1 (by omega);refine X1 _ (tQ j1 j2 (by show n2 + 2 * n3 ≠ 0; omega) (by omega) (by omega)) ?_;have y := cn j1 j2 (by show n2 + 2 * n3 ≠ 0; omega);refine Dp (k := 3) (cells' := ofR n2 n3 n4 n5 1) rfl ?_ ?_
  ·have hd : dg 18446744073709551616 0 = [] := bu _;have e : ∀ j, 1 ≤ j → qi n2 n3 n4 n5 j 1 = (0, 0) := fun j hj => if_neg (by omega)
   have hg : ofR n2 n3 n4 n5 1 = [nSl .u64 [], nSl .u64 [], nSl .u64 [], nSl .u64 [], nSl .u64 [], nSl .u64 [], nSl .u64 [], nSl .u64 []] := by
    unfold ofR;rw [e 1 (by omega), e 2 (by omega), e 3 (by omega)];simp only [hd]
   rw [hg];exact ⟨dq 1, dq 1, dq 1, dq 1, dq 1, dq 1, dq 1, dq 1, trivial⟩
  refine au (Ty.own_ok [1000001] aj) aa (fun k : Nat => 1 ≤ k ∧ k ≤ 4) (fun k => [(2, .c (.ad 2 0)), (3, .c (.ad 3 0)), (4, .c (.fn 130 [.rd [nI .i64 n0, nI .i64 n1, nI .i64 0, nI .i64 n2, nI .i64 n3, nI .i64 n4, nI .i64 n5]])), (5, .c (.ad 5 0)), (6, .c (nI .i64 k))])
   (fun k => [(2, .var (List.replicate 8 (.sc (.slice none 0 0)))), (3, .var (ofR n2 n3 n4 n5 k)), (5, .var [nSl .u64 (dg 18446744073709551616 (dW (nz (n2, 1)) (nz (n2 + 2 * n3, 1))).1), nSl .u64 (dg 18446744073709551616 (dW (nz (n2, 1)) (nz (n2 + 2 * n3, 1))).2)])]) (fun k => 4 - k)
   1 ⟨by omega, by omega⟩ ⟨rfl, rfl, rfl, rfl, rfl, trivial⟩ ⟨rfl, rfl, rfl, trivial⟩ (fun _ : Unit => True) (fun _ => [(2, .c (.ad 2 0)), (3, .c (.ad 3 0))]) (fun _ => [(2, .var (List.replicate 8 (.sc (.slice none 0 0)))), (3, .var (ofR n2 n3 n4 n5 4))]) (fun k hi => ?_) (fun _ _ => ?_)
  ·obtain ⟨i1, i2⟩ := hi;refine ah (fun h1 => ?_) (fun h1 => ?_)
   ·refine X1 _ (ii n0 n1 n2 n3 n4 n5 k (by omega) (by omega) m2 m3 m4 m5) ?_;have c1 := hcN k;have c2 := hcN (k + 1);refine X1 _ (ic (cN n2 n3 n4 n5 k) 1 (D4 (cv (k := 1) (by omega) (by omega)) (by omega))) ?_;refine y7 (fun h2 => ?_) (fun h2 => ?_)
    ·have hr : dJ n2 n3 n4 n5 k = (0, 0) := by unfold dJ; rw [if_pos (.inr h2)]
     refine X1 ((k + 1 : Nat) : Int) (wI (by simp) (by omega) (by omega)) ?_;refine ⟨k + 1, ⟨by omega, by omega⟩, by show 4 - (k + 1) < 4 - k; omega, ⟨rfl, rfl, rfl, rfl, rfl, trivial⟩, ⟨rfl, ?_, rfl, trivial⟩⟩;have hk : k = 1 ∨ k = 2 ∨ k = 3 := by omega
     rcases hk with rfl | rfl | rfl <;> (unfold ofR qi; simp only [hr]; rfl)
    ·have hr : dJ n2 n3 n4 n5 k = cW (k, 1) (bW k n2 n3 (cN n2 n3 n4 n5 (k + 1)) (cN n2 n3 n4 n5 k)) := by unfold dJ; rw [if_neg (by omega)]
     have pb := qh k (cN n2 n3 n4 n5 (k + 1)) (cN n2 n3 n4 n5 k) (by omega) h0 h2 m2 m3 c2 c1;have hk1 : Bd 63 (nz (k + 1, 1)) := bd1 (by omega);have hyz : nz (dW (nz (n2, 1)) (nz (n2 + 2 * n3, 1))) = dW (nz (n2, 1)) (nz (n2 + 2 * n3, 1)) := aw y;have y' := y;rw [← hyz] at y';have ha : Bd 63 (nz (cN n2 n3 n4 n5 (k + 1), 1)) := bd1 (by omega);have hb : Bd 63 (nz (cN n2 n3 n4 n5 k, 1)) := bd1 (by omega);have q1 := bv hk1 y';have q1' := q1;rw [← aw q1] at q1';have q2 := cn ha hb h2;have q2' := q2;rw [← aw q2] at q2';have hpe : cG (nz (cG (nz (k + 1, 1)) (nz (dW (nz (n2, 1)) (nz (n2 + 2 * n3, 1)))))) (nz (dW (nz (cN n2 n3 n4 n5 (k + 1), 1)) (nz (cN n2 n3 n4 n5 k, 1)))) = bW k n2 n3 (cN n2 n3 n4 n5 (k + 1)) (cN n2 n3 n4 n5 k) := by
      rw [aw q1, aw q2, hyz]; rfl
     refine X1 ((k + 1 : Nat) : Int) (wI (by simp) (by omega) (by omega)) ?_;refine X1 _ (cL (k + 1) (by omega)) ?_;refine X1 _ (ey hk1 y' (by omega) (by omega)) ?_;refine X1 ((k + 1 : Nat) : Int) (wI (by simp) (by omega) (by omega)) ?_;refine X1 _ (ii n0 n1 n2 n3 n4 n5 (k + 1) (by omega) (by omega) m2 m3 m4 m5) ?_;refine X1 _ (ii n0 n1 n2 n3 n4 n5 k (by omega) (by omega) m2 m3 m4 m5) ?_;refine X1 _ (tQ ha hb h2 (by omega) (by omega)) ?_;refine X1 _ (ey q1' q2' (by omega) (by omega)) ?_;refine .intro rfl ?_;rw [hpe];refine X1 _ (cL k (by omega)) ?_;have pb' := pb;rw [← aw pb] at pb';refine X1 _ (kv (bd1 (n := k) (by omega)) pb' (by omega) (by omega)) ?_;rw [aw pb, nz1 k, ← hr];have hk : k = 1 ∨ k = 2 ∨ k = 3 := by omega
     rcases hk with rfl | rfl | rfl
     ·refine .intro (by decide) (And.intro (by decide) ?_);refine .intro rfl ?_;refine X1 ((2 : Nat) : Int) (wI (by simp) (by omega) (by omega)) ?_;exact ⟨2, ⟨by omega, by omega⟩, by decide, ⟨rfl, rfl, rfl, rfl, rfl, trivial⟩, ⟨rfl, rfl, rfl, trivial⟩⟩
     ·refine .intro (by decide) (And.intro (by decide) ?_);refine .intro rfl ?_;refine X1 ((3 : Nat) : Int) (wI (by simp) (by omega) (by omega)) ?_;exact ⟨3, ⟨by omega, by omega⟩, by decide, ⟨rfl, rfl, rfl, rfl, rfl, trivial⟩, ⟨rfl, rfl, rfl, trivial⟩⟩
     ·refine .intro (by decide) (And.intro (by decide) ?_);refine .intro rfl ?_;refine X1 ((4 : Nat) : Int) (wI (by simp) (by omega) (by omega)) ?_;exact ⟨4, ⟨by omega, by omega⟩, by decide, ⟨rfl, rfl, rfl, rfl, rfl, trivial⟩, ⟨rfl, rfl, rfl, trivial⟩⟩
   ·have e : k = 4 := by omega
    subst e;exact ⟨(), trivial, ⟨rfl, rfl, trivial⟩, ⟨rfl, rfl, trivial⟩⟩
  ·have hd : dg 18446744073709551616 0 = [] := bu _;have e : ∀ j, j < 4 → qi n2 n3 n4 n5 j 4 = dJ n2 n3 n4 n5 j := fun j hj => if_pos hj
   have hg : gS (0, 0) (dJ n2 n3 n4 n5 1) (dJ n2 n3 n4 n5 2) (dJ n2 n3 n4 n5 3) = .ag (ofR n2 n3 n4 n5 4) := by
    unfold ofR;rw [e 1 (by omega), e 2 (by omega), e 3 (by omega)];simp only [gS, hd]
   rw [hg];exact ⟨trivial, rc rfl, trivial⟩
def mf (words w : Int) : Bool := decide (w < 0) || decide (w ≥ words)
def gW (words : Int) (g : List Int) : Int := if g.any (mf words) = true then 8 else if idx 1 (g.drop 1) ≥ 0 then 10 else 0
def kwL (words : Int) : List Cnt → Int
 | [] => 0
 | x :: l => if gW words x.1 ≠ 0 then gW words x.1 else kwL words l
def ij (words : Int) : List (List Cnt) → Int
 | [] => 0
 | l :: ls => if kwL words l ≠ 0 then kwL words l else ij words ls
theorem Cv {words : Int} {l : List Cnt} {i : Nat} (h : i < l.length) {v : Int} (hv : gW words l[i].1 = v) (h0 : v ≠ 0) : kwL words (l.drop i) = v := by
 rw [Ew h, kwL, hv, if_pos h0]
theorem y9 {words : Int} {l : List Cnt} {i : Nat} (h : i < l.length) (hv : gW words l[i].1 = 0) : kwL words (l.drop i) = kwL words (l.drop (i + 1)) := by
 rw [Ew h, kwL, hv, if_neg (by simp)]
theorem AU {words : Int} {L : List (List Cnt)} {n : Nat} (h : n < L.length) {v : Int} (hv : kwL words L[n] = v) (h0 : v ≠ 0) : ij words (L.drop n) = v := by
 rw [Ew h, ij, hv, if_pos h0]
theorem vW {words : Int} {L : List (List Cnt)} {n : Nat} (h : n < L.length) (hv : kwL words L[n] = 0) : ij words (L.drop n) = ij words (L.drop (n + 1)) := by
 rw [Ew h, ij, hv, if_neg (by simp)]
theorem vX (L : List (List Cnt)) (words : Int) (hL : CCForm L) : Ct P 84 [.c (cE L), .c (eI .i64 words)] [.c (eI .i64 (ij words L))] := by
 have hll := hL.lim.len;refine Ct.go aj aa (N := 44) Tryz.func84 rfl rfl rfl rfl ?_;refine .intro (by rw [ay]; omega) ?_;rw [ay];refine au aj aa (fun n : Nat => n ≤ L.length ∧ ij words L = ij words (L.drop n)) (fun n => [(1, .c (eI .i64 words)), (11, .c (cE L)), (12, .c (nI .i64 L.length)), (13, .c (nI .i64 n))]) (fun _ => []) (fun n => L.length - n)
  0 ⟨by omega, rfl⟩ ⟨rfl, rfl, rfl, rfl, trivial⟩ trivial (fun _ : Unit => ij words L = 0) (fun _ => []) (fun _ => []) (fun n hi => ?_) (fun _ he => ?_)
 ·obtain ⟨h2, h3⟩ := hi;refine ah (fun h4 => ?_) (fun h4 => ?_)
  ·have hn : n < L.length := by omega
   have hl := hL.lim.at' hn;have hlen := hl.len;have hform := hL.form n hn;have hget := cw (l := L) (i := (n : Int)) (n := n) rfl hn;have hof := fun v => AU (words := words) (n := n) (L := L) hn (v := v)
   have hnext := vW (words := words) (n := n) (L := L) hn;generalize L[n] = l at *
   refine .intro (by omega) (X1 _ hget ?_);refine .intro (by rw [cRow_len]; omega) ?_;rw [cRow_len];refine b9 aj aa (fun i : Nat => i ≤ l.length ∧ kwL words l = kwL words (l.drop i)) (fun i => [(1, .c (eI .i64 words)), (11, .c (cE L)), (12, .c (nI .i64 L.length)), (13, .c (nI .i64 n)), (17, .c (cSl l)), (18, .c (nI .i64 l.length)), (19, .c (nI .i64 i))]) (fun _ => []) (fun i => l.length - i)
    0 ⟨by omega, rfl⟩ ⟨rfl, rfl, rfl, rfl, rfl, rfl, rfl, trivial⟩ trivial (fun i hi => ?_)
   obtain ⟨i1, i2⟩ := hi;refine ah (fun h5 => ?_) (fun h5 => ?_)
   ·have hi : i < l.length := by omega
    have hxl := hl.at' hi;have hxf := hform i hi;have hx := bD (l := l) (i := (i : Int)) (n := i) rfl hi;have kof := fun v => Cv (words := words) hi (v := v)
    have knext := y9 (words := words) hi;generalize l[i] = x at *
    refine .intro (by omega) (X1 _ hx ?_);refine .intro (by rw [ae]; omega) ?_;rw [ae];refine au aj aa (fun j : Nat => j ≤ x.1.length ∧ ∀ q : Nat, q < j → mf words (x.1.getD q 0) = false) (fun j => [(1, .c (eI .i64 words)), (8, .c (.ad 8 0)), (11, .c (cE L)), (12, .c (nI .i64 L.length)), (13, .c (nI .i64 n)), (17, .c (cSl l)), (18, .c (nI .i64 l.length)), (19, .c (nI .i64 i)), (24, .c (iSl x.1)), (25, .c (nI .i64 x.1.length)), (26, .c (nI .i64 j))])
     (fun _ => [(8, .var [iSl x.1, eI .i64 x.2])]) (fun j => x.1.length - j) 0 ⟨by omega, fun q hq => by omega⟩ ⟨rfl, rfl, rfl, rfl, rfl, rfl, rfl, rfl, rfl, rfl, rfl, trivial⟩ ⟨rfl, trivial⟩
     (fun _ : Unit => x.1.any (mf words) = false) (fun _ => [(1, .c (eI .i64 words)), (8, .c (.ad 8 0)), (11, .c (cE L)), (12, .c (nI .i64 L.length)), (13, .c (nI .i64 n)), (17, .c (cSl l)), (18, .c (nI .i64 l.length)), (19, .c (nI .i64 i))])
     (fun _ => [(8, .var [iSl x.1, eI .i64 x.2])]) (fun j hj => ?_) (fun _ hany => ?_)
    ·obtain ⟨j1, j2⟩ := hj;refine ah (fun h6 => ?_) (fun h6 => ?_)
     ·have hj : j < x.1.length := by omega
      refine .intro (by omega) (X1 _ (bc rfl hj) ?_);have r8 : mf words (x.1.getD j 0) = true → ij words L = 8 := fun hb => by
       have : gW words x.1 = 8 := by
        unfold gW;rw [if_pos];rw [Fk];exact ⟨x.1.getD j 0, by simp [DZ, hj], hb⟩
       rw [h3, hof 8 (by rw [i2, kof 8 this (by decide)]) (by decide)]
      refine ah (fun h7 => ?_) (fun h7 => ?_)
      ·exact ⟨trivial, r1 (iE (by rw [r8 (by unfold mf; rw [decide_eq_true h7]; rfl)])), trivial⟩
      ·refine ah (fun h8 => ?_) (fun h8 => ?_)
       ·exact ⟨trivial, r1 (iE (by rw [r8 (by unfold mf; rw [decide_eq_true h8, Bool.or_true])])), trivial⟩
       ·refine X1 ((j + 1 : Nat) : Int) (wI (by simp) (by omega) (by omega)) ?_;refine ⟨j + 1, ⟨by omega, fun q hq => ?_⟩, by omega, ⟨rfl, rfl, rfl, rfl, rfl, rfl, rfl, rfl, rfl, rfl, rfl, trivial⟩, ⟨rfl, trivial⟩⟩;by_cases e : q = j
        ·subst e; unfold mf; rw [decide_eq_false h7, decide_eq_false h8]; rfl
        ·exact j2 q (by omega)
     ·refine ⟨(), ?_, ⟨rfl, rfl, rfl, rfl, rfl, rfl, rfl, rfl, trivial⟩, ⟨rfl, trivial⟩⟩;rw [List.any_eq_false];intro w hw;obtain ⟨q, hq, rfl⟩ := List.getElem_of_mem hw;have := j2 q (by omega);rw [DZ, Em hq] at this;simpa using this
    ·refine ⟨1, x.1.length, by simp, by simp [ae], by omega, by rw [ae]; omega, ?_⟩;rw [iRow_sub, EG (show (x.1.drop 1).length ≤ x.1.length - 1 by rw [EJ]; exact D1 _)];refine X1 _ (g9 (x.1.drop 1) 1 (by rw [EJ]; omega)) ?_;refine ah (fun h7 => ?_) (fun h7 => ?_)
     ·have : gW words x.1 = 10 := by unfold gW; rw [if_neg (by rw [hany]; simp), if_pos h7]
      exact ⟨trivial, r1 (iE (by rw [h3, hof 10 (by rw [i2, kof 10 this (by decide)]) (by decide)])), trivial⟩
     ·have : gW words x.1 = 0 := by unfold gW; rw [if_neg (by rw [hany]; simp), if_neg h7]
      refine X1 ((i + 1 : Nat) : Int) (wI1 (by omega)) ?_;exact ⟨i + 1, ⟨by omega, by rw [i2, knext this]⟩, by omega, ⟨rfl, rfl, rfl, rfl, rfl, rfl, rfl, trivial⟩, trivial⟩
   ·have e : i = l.length := by omega
    subst e;rw [Fy, kwL] at i2;refine X1 ((n + 1 : Nat) : Int) (wI (by simp) (by omega) (by omega)) ?_;exact ⟨n + 1, ⟨by omega, by rw [h3, hnext i2]⟩, by omega, ⟨rfl, rfl, rfl, rfl, trivial⟩, trivial⟩
  ·have e : n = L.length := by omega
   subst e;rw [Fy] at h3;exact ⟨(), h3, trivial, trivial⟩
 ·rw [he];exact ⟨trivial, r1 rfl, trivial⟩
def gC (L : List (List Cnt)) (words : Int) : Int := if fi L ≠ 0 then fi L else if words < 3 ∨ words > 65536 then 1 else ij words L
def aq (l : List Cnt) (k : Int) : Nat := (l.filter fun x => aR x && decide (x.2 = k)).length
def tysN (l : List Cnt) : Nat := (l.filter aR).length
def totN (l : List Cnt) : Nat := (tot l).toNat
theorem uL (l : List Cnt) : tot l = (totN l : Int) := by have := cC l; unfold totN; omega
theorem uM (l : List Cnt) : A1.ag (dp l) = c7 (tysN l) (totN l) (aq l 1) (aq l 2) (aq l 3) (aq l 4) := by
 unfold dp; rw [uL]; rfl
theorem Cw (l : List Cnt) : A1.ag (cen l) = c6 (tysN l) (totN l) (aq l 1) (aq l 2) (aq l 3) (aq l 4) := by
 unfold cen; rw [uL]; rfl
theorem cr (l : List Cnt) (k : Int) : aq l k ≤ l.length := E4 _ _
abbrev za (l : List Cnt) : A1 := gS (0, 0) (dJ (aq l 1) (aq l 2) (aq l 3) (aq l 4) 1) (dJ (aq l 1) (aq l 2) (aq l 3) (aq l 4) 2) (dJ (aq l 1) (aq l 2) (aq l 3) (aq l 4) 3)
abbrev Cy (l : List Cnt) : A1 := dS (0, 1) (cH (aq l 1) (aq l 2) (aq l 3) (aq l 4) 1) (cH (aq l 1) (aq l 2) (aq l 3) (aq l 4) 2) (cH (aq l 1) (aq l 2) (aq l 3) (aq l 4) 3)
def ik (ls : List (List Cnt)) : List (List PC) := ls.map fun l => (za l).cells
def lW (ls : List (List Cnt)) : List (List PC) := ls.map fun l => (Cy l).cells
theorem iM {ls : List (List Cnt)} : (ik ls).length = ls.length := by simp [ik]
theorem iN {ls : List (List Cnt)} : (lW ls).length = ls.length := by simp [lW]
theorem qj {ls : List (List Cnt)} : ax (ik ls) := by
 intro el h;obtain ⟨x, _, rfl⟩ := Ez.1 h;rfl
theorem qk {ls : List (List Cnt)} : ax (lW ls) := by
 intro el h;obtain ⟨x, _, rfl⟩ := Ez.1 h;rfl
theorem gb {ls : List (List Cnt)} {i : Int} {n : Nat} (h0 : i = n) (h : n < ls.length) : (ik ls)[i.toNat]? = some (za ls[n]).cells := by
 subst h0; simp [ik, h]
theorem AW (l : List Cnt) (hl : CLim l) : Ct P 85 [.ag (dp l)] [za l] := by
 rw [uM];have := hl.len;exact Cu _ _ _ _ _ _ (D4 (cr l 1) this) (D4 (cr l 2) this) (D4 (cr l 3) this) (D4 (cr l 4) this)
theorem AX (l : List Cnt) (hl : CLim l) : Ct P 93 [.ag (cen l)] [Cy l] := by
 rw [Cw];have := hl.len;exact AR _ _ _ _ _ _ (D4 (cr l 1) this) (D4 (cr l 2) this) (D4 (cr l 3) this) (D4 (cr l 4) this)
theorem ql (L : List (List Cnt)) (n : Nat) (x : Cnt) : (cF L n x).1 = x.1 := by unfold cF; split <;> rfl
theorem dK {L : List (List Cnt)} {l : List Cnt} (h : l ∈ ao L) : ∃ (n : Nat) (hn : n < L.length), l = L[n].map (cF L n) := by
 obtain ⟨n, hn, rfl⟩ := List.getElem_of_mem h;rw [bm] at hn;exact ⟨n, hn, o5 hn⟩
theorem ju {L : List (List Cnt)} (h : CCLim L) : CCLim (ao L) :=
 ⟨by rw [bm]; exact h.len, fun l hl => by
  obtain ⟨n, hn, rfl⟩ := dK hl;refine ⟨by rw [EP]; exact (h.at' hn).len, fun x hx => ?_⟩;obtain ⟨y, hy, rfl⟩ := Ez.1 hx;rw [ql];exact (h.at' hn).g y hy⟩
theorem qm {L : List (List Cnt)} (h : CCOk L) {l : List Cnt} (hl : l ∈ ao L) : dP l := by
 obtain ⟨n, hn, rfl⟩ := dK hl;refine List.pairwise_map.2 ((h.rises n hn).imp fun {a b} hab => ?_);rw [ql, ql]; exact hab
structure CCSum (L : List (List Cnt)) : Prop where
 lim : CCLim L
 tot : ∀ l, l ∈ ao L → tot l ≤ 4611686018427387904
abbrev xO (L : List (List Cnt)) (words : Int) (m : Nat) : Ob := .var [cE (ao L), .sl 8 (ik (ao L)), eI .i64 words, .mp m]
theorem jv {L : List (List Cnt)} {words : Int} (h : gC L words = 0) : CCOk L ∧ 3 ≤ words ∧ words ≤ 65536 ∧ ij words L = 0 := by
 unfold gC at h;by_cases h1 : fi L = 0
 ·rw [if_neg (by omega)] at h;by_cases h2 : words < 3 ∨ words > 65536
  ·rw [if_pos h2] at h; omega
  ·rw [if_neg h2] at h;exact ⟨rK h1, by omega, by omega, h⟩
 ·rw [if_pos h1] at h; exact absurd h h1
theorem zb (L : List (List Cnt)) (words : Int) (hL : CCSum L) (h : gC L words = 0) :
  CtO P 36 [] [.c (cE L), .c (eI .i64 words)] [(36, some (xO L words 34)), (34, some (.mp false [] []))] [.c (.ad 36 0), .c (eI .i64 0)] := by
 obtain ⟨hok, w1, w2, hkw⟩ := jv h;have h1 : fi L = 0 := by
  unfold gC at h;by_cases h1 : fi L = 0
  ·exact h1
  ·rw [if_pos h1] at h; exact h
 have hcl := ju hL.lim;have hlen := bm L;have h8 := hok.len8;refine Ct.keep (Ty.own_ok [1000001, 1000002] aj) aa [60] (N := 57) Tryz.func36 rfl rfl rfl rfl ?_;refine X1 _ (tH L hL.lim h1) ?_;refine ah (fun h3 => absurd h3 (by omega)) (fun _ => ?_);refine ah (fun h3 => absurd h3 (by omega)) (fun _ => ?_);refine X1 _ (vX L words (hok.ccform hL.lim)) ?_;rw [hkw];refine .intro (by rw [ay, hlen]; omega) ?_;rw [ay];refine tt (r := 60) (k := 36) (i := 1) (sz := 8) rfl rfl rfl ?_;refine au (Ty.own_ok [1000001, 1000002] aj) aa (fun n : Nat => n ≤ (ao L).length) (fun n => [(9, .c (.ad 36 0)), (37, .c (cE (ao L))), (38, .c (nI .i64 (ao L).length)), (39, .c (nI .i64 n))])
  (fun n => [(36, .var [cE (ao L), .ow 60 8 n, eI .i64 words, .mp 34]), (60, .row 8 (ik ((ao L).take n))), (34, .mp false [] [])]) (fun n => (ao L).length - n)
  0 (by omega) ⟨rfl, rfl, rfl, rfl, trivial⟩ ⟨rfl, rfl, rfl, trivial⟩ (fun _ : Unit => True) (fun _ => [(9, .c (.ad 36 0))]) (fun _ => [(36, .var [cE (ao L), .ow 60 8 (ao L).length, eI .i64 words, .mp 34]), (60, .row 8 (ik (ao L))), (34, .mp false [] [])]) (fun n hn => ?_) (fun _ _ => ?_)
 ·refine ah (fun h5 => ?_) (fun h5 => ?_)
  ·have hn' : n < (ao L).length := by omega
   have hx := cw (l := ao L) (i := (n : Int)) (n := n) rfl hn';have hln := hcl.at' hn';have htn := hL.tot _ (Ec hn');have hs : (ao L).take (n + 1) = (ao L).take n ++ [(ao L)[n]] := D5 hn';have htl : ((ao L).take n).length = n := by rw [Ed]; omega
   generalize (ao L)[n] = l at *
   refine .intro (by omega) (X1 _ hx ?_);refine X1 _ (AB l hln htn) ?_;refine X1 _ (AW l hln) ?_;refine ⟨by rw [iM, htl], by rw [iM, htl]; show (n + 1 + 768) * 192 ≤ _; omega, by rw [iM, htl]; show n + 1 ≤ _; omega, qj, ar rfl, ?_⟩;refine .intro rfl ?_;refine X1 ((n + 1 : Nat) : Int) (wI (by simp) (by omega) (by omega)) ?_;have hgl : (ik ((ao L).take n) ++ List.map A1.cells [za l]).length = n + 1 := by rw [D3, iM, htl]; rfl
   exact ⟨n + 1, by omega, by omega, ⟨rfl, rfl, rfl, rfl, trivial⟩, ⟨congrArg (fun k => some (Ob.var [cE (ao L), .ow 60 8 k, eI .i64 words, .mp 34])) hgl, aB (by rw [hs]; unfold ik; rw [Fb]; rfl), rfl, trivial⟩⟩
  ·have e : n = (ao L).length := by omega
   subst e;rw [EE];exact ⟨(), trivial, ⟨rfl, trivial⟩, ⟨rfl, rfl, rfl, trivial⟩⟩
 ·exact ⟨trivial, SubO.of (l := [(36, xO L words 34), (34, .mp false [] [])]) ⟨rfl, rfl, trivial⟩, r1 rfl, r1 rfl, trivial⟩
abbrev mV (L : List (List Cnt)) (words : Int) (dr : List (List PC)) : A1 := .ag [cE L, eI .i64 words, .sl 8 dr]
def cy (L : List (List Cnt)) (g : List Int) : Int :=
 if g.length < 1 ∨ g.length > L.length then 0 else if cM g (L.getD (g.length - 1) []) < 0 then 0 else ((L.getD (g.length - 1) []).getD (cM g (L.getD (g.length - 1) [])).toNat ([], 0)).2
theorem qn (g : List Int) (l : List Cnt) : -1 ≤ cM g l ∧ cM g l < l.length := by
 induction l with
 | nil => simp [cM]
 | cons y l ih =>
  simp only [cM, EA];split
  ·omega
  ·split <;> omega
abbrev mM (L : List (List Cnt)) (words : Int) : A1 := mV (ao L) words (lW (ao L))
theorem AY (L : List (List Cnt)) (words : Int) (hL : CCSum L) (hf : CCForm L) (h8 : L.length ≤ 1000) : Ct P 40 [.c (cE L), .c (eI .i64 words)] [mM L words] := by
 have hcl := ju hL.lim;have hlen := bm L;refine Ct.go (Ty.own_ok [1000001] aj) aa (N := 30) Tryz.func40 rfl rfl rfl rfl ?_;refine X1 _ (tz L hf h8) ?_;refine tt (r := 60) (k := 5) (i := 2) (sz := 8) rfl rfl rfl ?_;refine au (Ty.own_ok [1000001] aj) aa (fun n : Nat => n ≤ L.length) (fun n => [(0, .c (cE L)), (4, .c (.ad 4 0)), (5, .c (.ad 5 0)), (6, .c (nI .i64 n))])
  (fun n => [(4, .var [.sc (.slice none 0 0), eI .i64 0, .sc (.slice none 0 0)]), (5, .var [cE (ao L), eI .i64 words, .ow 60 8 n]), (60, .row 8 (lW ((ao L).take n)))]) (fun n => L.length - n)
  0 (by omega) ⟨rfl, rfl, rfl, rfl, trivial⟩ ⟨rfl, rfl, rfl, trivial⟩ (fun _ : Unit => True) (fun _ => [(4, .c (.ad 4 0)), (5, .c (.ad 5 0))]) (fun _ => [(4, .var [.sc (.slice none 0 0), eI .i64 0, .sc (.slice none 0 0)]), (5, .var [cE (ao L), eI .i64 words, .ow 60 8 L.length]), (60, .row 8 (lW (ao L)))]) (fun n hn => ?_) (fun _ _ => ?_)
 ·refine .intro (by rw [ay]; omega) ?_;rw [ay];refine ah (fun h5 => ?_) (fun h5 => ?_)
  ·have hn' : n < (ao L).length := by omega
   have hx := cw (l := ao L) (i := (n : Int)) (n := n) rfl hn';have hln := hcl.at' hn';have htn := hL.tot _ (Ec hn');have hs : (ao L).take (n + 1) = (ao L).take n ++ [(ao L)[n]] := D5 hn';have htl : ((ao L).take n).length = n := by rw [Ed]; omega
   generalize (ao L)[n] = l at *
   refine .intro (by omega) (X1 _ hx ?_);refine X1 _ (yi l hln htn) ?_;refine X1 _ (AX l hln) ?_;refine ⟨by rw [iN, htl], by rw [iN, htl]; show (n + 1 + 768) * 192 ≤ _; omega, by rw [iN, htl]; show n + 1 ≤ _; omega, qk, ar rfl, ?_⟩;refine .intro rfl ?_;refine X1 ((n + 1 : Nat) : Int) (wI (by simp) (by omega) (by omega)) ?_;have hgl : (lW ((ao L).take n) ++ List.map A1.cells [Cy l]).length = n + 1 := by rw [D3, iN, htl]; rfl
   exact ⟨n + 1, by omega, by omega, ⟨rfl, rfl, rfl, rfl, trivial⟩, ⟨rfl, congrArg (fun k => some (Ob.var [cE (ao L), eI .i64 words, .ow 60 8 k])) hgl, aB (by rw [hs]; unfold lW; rw [Fb]; rfl), trivial⟩⟩
  ·have e : n = L.length := by omega
   subst e;rw [EG (by rw [hlen]; exact D1 _)];exact ⟨(), trivial, ⟨rfl, rfl, trivial⟩, ⟨rfl, rfl, rfl, trivial⟩⟩
 ·exact ⟨trivial, rc rfl, trivial⟩
def gc (Lc : List (List Cnt)) (h : List Int) : Nat × Nat :=
 if hh : h.length < Lc.length then nM (cH (aq Lc[h.length] 1) (aq Lc[h.length] 2) (aq Lc[h.length] 3) (aq Lc[h.length] 4) 1) (cH (aq Lc[h.length] 1) (aq Lc[h.length] 2) (aq Lc[h.length] 3) (aq Lc[h.length] 4) 2) (cH (aq Lc[h.length] 1) (aq Lc[h.length] 2) (aq Lc[h.length] 3) (aq Lc[h.length] 4) 3)
  (tysN (after Lc[h.length] h)) (totN (after Lc[h.length] h)) (aq (after Lc[h.length] h) 1) (aq (after Lc[h.length] h) 2) else (1, 1)
theorem mC (l : List Cnt) : aq l 1 + aq l 2 ≤ tysN l := by
 unfold aq tysN
 induction l with
 | nil => simp
 | cons x l ih =>
  by_cases hl : aR x = true
  ·rw [EL (p := aR) hl, EA];by_cases h1 : x.2 = 1
   ·rw [EL (by simp [hl, h1]), ED (by simp [hl, h1]), EA]; omega
   ·by_cases h2 : x.2 = 2
    ·rw [ED (by simp [hl, h1]), EL (by simp [hl, h2]), EA]; omega
    ·rw [ED (by simp [hl, h1]), ED (by simp [hl, h2])]; omega
  ·rw [ED (p := aR) hl, ED (by simp [hl]), ED (by simp [hl])]; exact ih
theorem tR {n2 n3 n4 n5 : Nat} (m2 : n2 ≤ 1000000) (m3 : n3 ≤ 1000000) (m4 : n4 ≤ 1000000) (m5 : n5 ≤ 1000000) (k : Nat) : Bd 500 (cH n2 n3 n4 n5 k) := by
 have key : ∀ j a b, j + 1 < 2 ^ 62 → n2 > 0 → b > 0 → a ≤ 1000000 → b ≤ 1000000 → Bd 500 (cW (j, 1) (bW j n2 n3 a b)) := fun j a b hj h2 hb ha hb' =>
  (mB (aE (v := j) (k := 63) (by omega) (by omega)) (qh j a b (by omega) (by omega) (by omega) m2 m3 ha hb')).le (by omega)
 have z : Bd 500 (0, 1) := bd01.le (by omega)
 match k with
 | 1 =>
   show Bd 500 (if _ then _ else _); split
   ·rename_i h; exact key 1 _ _ (by decide) h.1 h.2 m3 m2
   ·exact z
 | 2 =>
   show Bd 500 (if _ then _ else _); split
   ·rename_i h; exact key 2 _ _ (by decide) h.1 h.2 m4 m3
   ·exact z
 | 0 =>
   show Bd 500 (if _ then _ else _); split
   ·rename_i h; exact key 3 _ _ (by decide) h.1 h.2 m5 m4
   ·exact z
 | k + 3 =>
   show Bd 500 (if _ then _ else _); split
   ·rename_i h; exact key 3 _ _ (by decide) h.1 h.2 m5 m4
   ·exact z
theorem uN {l : List Cnt} (hl : CLim l) : tysN l ≤ 1000000 := D4 (E4 _ _) hl.len
theorem qo {l : List Cnt} (h : tot l ≤ 4611686018427387904) : totN l ≤ 4611686018427387904 := by unfold totN; omega
end
section
abbrev xC (Lc : List (List Cnt)) (words : Int) (m : Nat) : Ob := .var [cE Lc, .sl 8 (ik Lc), eI .i64 words, .mp m]
abbrev xOs (Lc : List (List Cnt)) (words : Int) (ks : List Value) (vs : List (List PC)) : Objs := [(1000000, some (xC Lc words 1000001)), (1000001, some (.mp false ks vs))]
structure XOk (Lc : List (List Cnt)) (words : Int) : Prop where
 lim : CCLim Lc
 tot : ∀ l, l ∈ Lc → tot l ≤ 4611686018427387904
 rises : ∀ l, l ∈ Lc → dP l
 len0 : 1 ≤ Lc.length
 len8 : Lc.length ≤ 8
 w3 : 3 ≤ words
 w6 : words ≤ 65536
 key : ∀ l, l ∈ Lc → ∀ x, x ∈ l → dj x.1 = true
 num : ∀ l, l ∈ Lc → ∀ x, x ∈ l → 0 ≤ x.2 ∧ x.2 ≤ 4611686018427387904
abbrev σx : List (Nat × Nat) := [(1000000, 1000000), (1000001, 1000001)]
section
variable {Lc : List (List Cnt)} {words : Int} {ks : List Value} {vs : List (List PC)}
theorem zc {O : Objs} (h1 : O.get 1000000 = some (xC Lc words 1000001)) (h2 : O.get 1000001 = some (.mp false ks vs)) : SubO (xOs Lc words ks vs) O := SubO.of (l := [(1000000, xC Lc words 1000001), (1000001, .mp false ks vs)]) ⟨h1, h2, trivial⟩
theorem nO (hx : XOk Lc words) : CtO P 41 (xOs Lc words ks vs) [.c (.ad 1000000 0)] (xOs Lc words ks vs) [.c (nI .i64 Lc.length)] := by
 refine Ct.io aj aa (N := 10) Tryz.func41 rfl rfl rfl rfl ?_;have := hx.len8;refine .intro (by rw [ay]; omega) ?_;rw [ay];exact ⟨trivial, zc rfl rfl, r1 rfl, trivial⟩
theorem rX : CtO P 42 (xOs Lc words ks vs) [.c (.ad 1000000 0)] (xOs Lc words ks vs) [.c (eI .i64 words)] := by
 refine Ct.io aj aa (N := 9) Tryz.func42 rfl rfl rfl rfl ?_;exact ⟨trivial, zc rfl rfl, r1 rfl, trivial⟩
end
end
section
theorem vY {a b : Int} {l m : List Int} : aD (a :: l) (b :: m) < 0 ↔ a < b ∨ (a = b ∧ aD l m < 0) := by
 rw [aD];unfold bC
 (repeat' split) <;> omega
theorem uO : ∀ (h : List Int) {x y : List Int}, ¬ aD x h < 0 → aD x y < 0 → h <+: y → h <+: x
 | [], x, y, _, _, _ => List.nil_prefix
 | a :: h, [], y, h1, _, _ => absurd (show aD [] (a :: h) < 0 by simp [aD]) h1
 | a :: h, b :: x, [], _, _, hp => by simp at hp
 | a :: h, b :: x, c :: y, h1, h2, hp => by
  rw [List.cons_prefix_cons] at hp ⊢;obtain ⟨rfl, hp⟩ := hp;rw [vY] at h1 h2;have e : a = b := by omega
  subst e;exact ⟨rfl, uO h (fun hh => h1 (.inr ⟨rfl, hh⟩)) (by omega) hp⟩
theorem zd : ∀ (h : List Int) (v : Int), aD (h ++ [v]) h > 0
 | [], v => by simp [aD]
 | a :: h, v => by
  have := zd h v;show aD (a :: (h ++ [v])) (a :: h) > 0
  unfold aD;rw [if_neg (by rw [oY]; simp)];exact this
theorem preB_iff {h : List Int} {x : Cnt} : eE h x = true ↔ h <+: x.1 := by
 unfold eE;rw [D0, decide_eq_true_eq, decide_eq_true_eq, List.prefix_iff_eq_take];constructor
 ·exact fun ⟨_, h2⟩ => h2.symm
 ·exact fun h1 => ⟨by have := congrArg List.length h1; rw [Ed] at this; omega, h1.symm⟩
theorem nP {h : List Int} {x : Cnt} : fN h x = (eE h x && k8 h x) := by
 unfold fN eE k8;by_cases h1 : x.1.length = h.length + 1
 ·rw [decide_eq_true h1, decide_eq_true (by omega : h.length ≤ x.1.length)]; simp
 ·rw [decide_eq_false h1]; simp
theorem vZ {h : List Int} {x : Cnt} (hx : fN h x = true) : aD x.1 h > 0 := by
 unfold fN at hx;rw [D0, decide_eq_true_eq, decide_eq_true_eq] at hx;obtain ⟨h1, h2⟩ := hx;have h3 : x.1.drop h.length ≠ [] := by intro e; have := congrArg List.length e; simp at this; omega
 obtain ⟨v, t, ht⟩ := List.exists_cons_of_ne_nil h3;have h4 : x.1 = h ++ [v] := by
  have e := Gb h.length x.1;rw [h2, ht] at e;have : t = [] := by
   have := congrArg List.length e;simp at this;exact List.eq_nil_of_length_eq_zero (by omega)
  rw [this] at e;exact e.symm
 rw [h4];exact zd h v
theorem rY (h : List Int) : ∀ (M : List Cnt), dP M → (∀ x, x ∈ M → aD x.1 h > 0) → mc M h = after M h
 | [], _, _ => rfl
 | x :: M, hr, hg => by
  obtain ⟨hx, hr'⟩ := FC.1 hr;unfold mc after
  cases hp : eE h x with
  | true =>
   rw [Gg hp, GG, GG, nP, hp, Bool.true_and];have := rY h M hr' fun y hy => hg y (Ep _ hy)
   unfold mc after at this;rw [this]
  | false =>
   rw [List.takeWhile_cons_of_neg (by rw [hp]; simp)]
   symm
   rw [List.filter_nil, List.filter_eq_nil_iff];intro y hy ha;rw [nP, D0] at ha;have hpy := preB_iff.1 ha.1;rcases Ey.1 hy with rfl | hy
   ·rw [ha.1] at hp; cases hp
   ·have := preB_iff.2 (uO h (by have := hg x (by simp); omega) (hx y hy) hpy);rw [this] at hp; cases hp
theorem nQ (h : List Int) : ∀ (l : List Cnt), dP l → ∃ k, k ≤ l.length ∧ (∀ (i : Nat) (hi : i < l.length), i < k → ¬ aD l[i].1 h > 0) ∧ (∀ (i : Nat) (hi : i < l.length), k ≤ i → aD l[i].1 h > 0) ∧ mc (l.drop k) h = after l h
 | [], _ => ⟨0, by simp, fun i hi => by simp at hi, fun i hi => by simp at hi, rfl⟩
 | x :: l, hr => by
  obtain ⟨hx, hr'⟩ := FC.1 hr;by_cases hg : aD x.1 h > 0
  ·have hall : ∀ y, y ∈ x :: l → aD y.1 h > 0 := fun y hy => by
    rcases Ey.1 hy with rfl | hy
    ·exact hg
    ·have a1 := hx y hy;have a2 := eF x.1 h;have := da (a := h) (b := x.1) (c := y.1) (by omega) a1;have a3 := eF h y.1;omega
   exact ⟨0, by simp, fun i _ h => by omega, fun i hi _ => hall _ (Ec hi), rY h (x :: l) hr hall⟩
  ·obtain ⟨k, h0, h1, h2, h3⟩ := nQ h l hr';refine ⟨k + 1, by simp; omega, fun i hi hik => ?_, fun i hi hik => ?_, ?_⟩
   ·cases i with
    | zero => exact hg
    | succ i => exact h1 i (by simpa using hi) (by omega)
   ·cases i with
    | zero => omega
    | succ i => exact h2 i (by simpa using hi) (by omega)
   ·rw [List.drop_succ_cons, h3];unfold after;rw [ED];intro ha;exact hg (vZ ha)
theorem o7 (l : List Cnt) (h : List Int) (hl : CLim l) (hr : dP l) (hh : h.length ≤ 1000000) (ht : tot l ≤ 4611686018427387904) : Ct P 183 [.c (cSl l), .c (iSl h)] [c7 (tysN (after l h)) (totN (after l h)) (aq (after l h) 1) (aq (after l h) 2) (aq (after l h) 3) (aq (after l h) 4)] := by
 obtain ⟨k, h0, h1, h2, h3⟩ := nQ h l hr;have := yo l h k hl hh h0 h1 h2 ht;rwa [h3, uM] at this
theorem v4 {v w : Int} (hv : 0 ≤ v ∧ v < 16777216) (hw : 0 ≤ w ∧ w < 16777216) (h1 : UInt8.ofNat (v.toNat / 65536) = UInt8.ofNat (w.toNat / 65536)) (h2 : UInt8.ofNat (v.toNat / 256) = UInt8.ofNat (w.toNat / 256)) (h3 : UInt8.ofNat v.toNat = UInt8.ofNat w.toNat) : v = w := by
 have g : ∀ {a b : Nat}, UInt8.ofNat a = UInt8.ofNat b → a % 256 = b % 256 := fun {a b} h => by
  have := congrArg UInt8.toNat h;simpa using this
 have g1 := g h1;have g2 := g h2;have g3 := g h3;omega
theorem ze : ∀ {g h : List Int}, dj g = true → dj h = true → kU g = kU h → g = h
 | [], [], _, _, _ => rfl
 | [], b :: h, _, _, e => by simp [kU] at e
 | a :: g, [], _, _, e => by simp [kU] at e
 | a :: g, b :: h, hg, hh, e => by
  unfold dj at hg hh;rw [List.all_cons, D0] at hg hh;have e' : UInt8.ofNat (a.toNat / 65536) :: UInt8.ofNat (a.toNat / 256) :: UInt8.ofNat a.toNat :: kU g = UInt8.ofNat (b.toNat / 65536) :: UInt8.ofNat (b.toNat / 256) :: UInt8.ofNat b.toNat :: kU h := e;injection e' with e1 e';injection e' with e2 e';injection e' with e3 e';have ha := hg.1;have hb := hh.1;rw [D0, decide_eq_true_eq, decide_eq_true_eq] at ha hb;rw [v4 ha hb e1 e2 e3, ze (g := g) (h := h) hg.2 hh.2 e']
theorem rZ {g h : List Int} (hg : dj g = true) (hh : dj h = true) (e : p5 g = p5 h) : g = h := by
 have : (kU g).toArray = (kU h).toArray := congrArg ByteArray.data e;exact ze hg hh (by simpa using this)
theorem lg (key : ByteArray) : ∀ (ks : List Value) (i : Nat), (∀ k, k ∈ ks → ∃ b, k = .string b) → ∃ r, gP .string (.string key) ks i = some r ∧ ∀ j, r = some j → i ≤ j ∧ ks[j - i]? = some (.string key)
 | [], i, _ => ⟨none, rfl, fun j h => by cases h⟩
 | k :: ks, i, hk => by
  obtain ⟨b, rfl⟩ := hk k (by simp);simp only [gP, Instr.sameNow];by_cases h : key = b
  ·subst h;refine ⟨some i, by rw [(iA key key).2 rfl], fun j hj => ?_⟩;cases hj;exact ⟨D1 _, by simp⟩
  ·have hb : (key == b) = false := by
    cases hb : key == b with
    | false => rfl
    | true => exact absurd ((iA _ _).1 hb) h
   rw [hb];obtain ⟨r, h1, h2⟩ := lg key ks (i + 1) fun k hk' => hk k (Ep _ hk')
   refine ⟨r, h1, fun j hj => ?_⟩;obtain ⟨g1, g2⟩ := h2 j hj;refine ⟨by omega, ?_⟩;rw [show j - i = (j - (i + 1)) + 1 by omega];simpa using g2
end
section
abbrev tS (Lc : List (List Cnt)) (h : List Int) : List PC := nI .i64 (totN (after (Lc.getD h.length []) h)) :: (qP (gc Lc h)).cells
abbrev lh (Lc : List (List Cnt)) (h : List Int) : PC := .rd (tS Lc h)
structure MOk (Lc : List (List Cnt)) (ks : List Value) (vs : List (List PC)) : Prop where
 len : ks.length = vs.length
 at' : ∀ (i : Nat) k, ks[i]? = some k → ∃ h, dj h = true ∧ k = .string (p5 h) ∧ vs[i]? = some [lh Lc h]
theorem MOk.nil {Lc : List (List Cnt)} : MOk Lc [] [] := ⟨rfl, fun i k h => by simp at h⟩
theorem MOk.str {Lc : List (List Cnt)} {ks : List Value} {vs : List (List PC)} (hm : MOk Lc ks vs) (k : Value) (hk : k ∈ ks) : ∃ b, k = .string b := by
 obtain ⟨i, hi⟩ := FS.1 hk;obtain ⟨h, _, h1, _⟩ := hm.at' i k hi;exact ⟨_, h1⟩
theorem r9 {l : List Cnt} {h : List Int} (hk : ∀ x, x ∈ l → dj x.1 = true) (hn : ¬ dj h = true) : after l h = [] := by
 unfold after;rw [List.filter_eq_nil_iff];intro x hx ha;unfold fN at ha;rw [D0, decide_eq_true_eq, decide_eq_true_eq] at ha;apply hn;have := hk x hx;unfold dj at this ⊢;rw [EU] at this ⊢;intro v hv;rw [← ha.2] at hv;exact this v (Fv hv)
section
variable {Lc : List (List Cnt)} {words : Int} {ks : List Value} {vs : List (List PC)}
theorem nR (hx : XOk Lc words) {h : List Int} (hh : h.length < Lc.length) (hn : ¬ dj h = true) : tS Lc h = nI .i64 0 :: (qP (1, 1)).cells := by
 have e : Lc.getD h.length [] = Lc[h.length] := by simp [DZ, hh]
 have ha := r9 (hx.key _ (Ec hh)) hn;unfold tS gc;rw [dif_pos hh, e, ha];rfl
theorem uP (hx : XOk Lc words) (h : List Int) (hh : h.length < Lc.length) : Ct P 184 [za Lc[h.length], c7 (tysN (after Lc[h.length] h)) (totN (after Lc[h.length] h)) (aq (after Lc[h.length] h) 1) (aq (after Lc[h.length] h) 2) (aq (after Lc[h.length] h) 3) (aq (after Lc[h.length] h) 4)] [qP (gc Lc h)] := by
 have hln := hx.lim.at' hh;have htn := hx.tot _ (Ec hh);have hal : CLim (after Lc[h.length] h) := hln.filter _;have hat : tot (after Lc[h.length] h) ≤ 4611686018427387904 := GV (fl _ _) htn;have m := fun k => D4 (cr Lc[h.length] k) hln.len
 have ob := fun k => tR (m 1) (m 2) (m 3) (m 4) k
 have rn := fun k h1 h3 => uK (m 1) (m 2) (m 3) (m 4) k h1 h3
 have h8 := hx.len8;have hg := vV (0, 0) _ _ _ (tysN (after Lc[h.length] h)) (totN (after Lc[h.length] h)) (aq (after Lc[h.length] h) 1) (aq (after Lc[h.length] h) 2) (aq (after Lc[h.length] h) 3) (aq (after Lc[h.length] h) 4) (k := 500) (by rw [rn 1 (by omega) (by omega)]; exact ob 1) (by rw [rn 2 (by omega) (by omega)]; exact ob 2) (by rw [rn 3 (by omega) (by omega)]; exact ob 3) (by omega) (by have := uN hal; omega) (qo hat) (mC _);rw [rn 1 (by omega) (by omega), rn 2 (by omega) (by omega), rn 3 (by omega) (by omega)] at hg;unfold gc;rw [dif_pos hh];exact hg
theorem tT (hx : XOk Lc words) (hm : MOk Lc ks vs) (h : List Int) (hh : h.length < Lc.length) :
  ∃ ks' vs', MOk Lc ks' vs' ∧ CtO P 159 (xOs Lc words ks vs) [.c (.ad 1000000 0), .c (iSl h)] (xOs Lc words ks' vs') [.c (lh Lc h)] := by
 have h8 := hx.len8;have hln := hx.lim.at' hh;have e : Lc.getD h.length [] = Lc[h.length] := by simp [DZ, hh]
 by_cases hk : dj h = true
 ·obtain ⟨r, f1, f2⟩ := lg (p5 h) ks 0 hm.str;have hkey := mn h (by omega);rw [if_pos hk, if_pos hk] at hkey
  cases r with
  | some j =>
   obtain ⟨_, f3⟩ := f2 j rfl;rw [FY] at f3;obtain ⟨h', g1, g2, g3⟩ := hm.at' j _ f3;have e' : h = h' := rZ hk g1 (by injection g2);subst e';refine ⟨ks, vs, hm, ?_⟩;refine Ct.io aj aa (N := 63) Tryz.func159 rfl rfl rfl rfl ?_;refine X1 _ hkey ?_;refine ⟨some j, .c (lh Lc h), f1, ⟨_, g3, rfl⟩, ?_⟩;exact ⟨trivial, zc rfl rfl, r1 rfl, trivial⟩
  | none =>
   refine ⟨ks ++ [.string (p5 h)], vs ++ [[lh Lc h]], ?_, ?_⟩
   ·refine ⟨by simp [hm.len], fun i k hi => ?_⟩;have hlen : ∀ i k, ks[i]? = some k → i < vs.length := fun i k hi => by
     obtain ⟨_, _, _, g3⟩ := hm.at' i k hi;exact (D2.1 g3).1
    rcases Fm i ks.length with hlt | heq | hgt
    ·rw [D9 hlt] at hi;rw [D9 (hlen i k hi)];exact hm.at' i k hi
    ·subst heq;rw [D7 (D1 _), Gy] at hi;cases hi;refine ⟨h, hk, rfl, ?_⟩;rw [D7 (Nat.le_of_eq hm.len.symm), hm.len, Gy];rfl
    ·rw [Eo (by simp; omega)] at hi; cases hi
   ·refine Ct.io aj aa (N := 63) Tryz.func159 rfl rfl rfl rfl ?_;refine X1 _ hkey ?_;refine ⟨none, .c (.sc (.pointer none)), f1, rfl, ?_⟩;refine .intro (by rw [ae]; omega) ?_;rw [ae];refine .intro (by omega) (X1 _ (cw rfl hh) ?_);refine X1 _ (o7 Lc[h.length] h hln (hx.rises _ (Ec hh)) (by omega) (hx.tot _ (Ec hh))) ?_;refine .intro (by rw [ae]; omega) ?_;rw [ae];refine .intro (by omega) (X1 _ (gb rfl hh) ?_);refine X1 _ (uP hx h hh) ?_;refine .intro rfl ?_;refine ⟨[55], none, f1, rfl, ?_⟩;have hc : tS Lc h = nI .i64 (totN (after Lc[h.length] h)) :: (qP (gc Lc h)).cells := by unfold tS; rw [e]
    unfold lh;rw [hc];exact ⟨trivial, zc rfl rfl, r1 rfl, trivial⟩
 ·refine ⟨ks, vs, hm, ?_⟩;have hkey := mn h (by omega);rw [if_neg hk, if_neg hk] at hkey;refine Ct.keep aj aa [20] (N := 63) Tryz.func159 rfl rfl rfl rfl ?_;refine X1 _ hkey ?_;refine X1 _ (bG 1 (by omega)) ?_;unfold lh;rw [nR hx hh hk];exact ⟨trivial, zc rfl rfl, r1 rfl, trivial⟩
end
end
section
theorem li (l : List Int) (hl : l.length ≤ 1000000) : CtO P 46 [] [.c (iSl l)] [(5, some (.row 1 (aM l)))] [.c (.ow 5 1 l.length)] := by
 refine Ct.keepI aj [] (N := 8) Tryz.func46 rfl rfl rfl rfl ?_;refine dI aj aa ?_;refine vM ?_;refine dI aj aa ?_;intro b hb;refine yt (b := b) rfl (fun e => ?_) (fun e => ?_)
 ·subst e;have : l = [] := Ev.1 (by have := hb rfl; rwa [ae] at this);subst this;refine dI aj aa ?_;refine jU (r := 5) (t := 2) (sz := 1) rfl rfl ?_;exact Di ⟨trivial, SubO.of (l := [(5, .row 1 [])]) ⟨rfl, trivial⟩, r1 rfl, trivial⟩
 ·subst e;refine yu ?_;refine kg aj aa ?_;refine ⟨rfl, by rw [ae]; show (0 + l.length + 768) * 8 ≤ _; omega, by rw [ae]; show 0 + l.length ≤ _; omega, bV, aZ, ?_⟩;exact ⟨trivial, SubO.of (l := [(5, .row 1 (aM l))]) ⟨rfl, trivial⟩, r1 (owE (by show (aM l).length = _; rw [ae])), trivial⟩
abbrev zf (Lc : List (List Cnt)) (words : Int) (ks : List Value) (vs : List (List PC)) (els : List (List PC)) : Objs := [(1000000, some (xC Lc words 1000001)), (1000001, some (.mp false ks vs)), (1000002, some (.row 1 els))]
section
variable {Lc : List (List Cnt)} {words : Int} {ks : List Value} {vs : List (List PC)}
theorem sa {els : List (List PC)} {O : Objs} (h1 : O.get 1000000 = some (xC Lc words 1000001)) (h2 : O.get 1000001 = some (.mp false ks vs)) (h3 : O.get 1000002 = some (.row 1 els)) : SubO (zf Lc words ks vs els) O := SubO.of (l := [(1000000, xC Lc words 1000001), (1000001, .mp false ks vs), (1000002, .row 1 els)]) ⟨h1, h2, h3, trivial⟩
theorem tU (hx : XOk Lc words) (g : List Int) (els : List (List PC)) (he : els = aM g) (m : Nat) (hm : m = g.length) (h1 : 1 ≤ g.length) (hg : g.length ≤ Lc.length) : CtO P 160 (zf Lc words ks vs els) [.c (.ad 1000000 0), .c (.ow 1000002 1 m)] (zf Lc words ks vs els) [.c (eI .i64 (cy Lc g))] := by
 subst he;refine Ct.io aj aa (N := 41) Tryz.func160 rfl rfl rfl rfl ?_;have h8 := hx.len8;refine .intro (by omega) ?_;refine ah (fun h0 => ?_) (fun h0 => ?_)
 ·exfalso; omega
 refine X2 (.own σx σx) ?_;refine ⟨_, _, nO hx, ?_⟩;refine ah (fun h1 => ?_) (fun h1 => ?_)
 ·exfalso; omega
 have hn : g.length - 1 < Lc.length := by omega
 have hgd : Lc.getD (g.length - 1) [] = Lc[g.length - 1] := by simp [DZ, hn]
 have hnum : cy Lc g = if cM g Lc[g.length - 1] < 0 then 0 else (Lc[g.length - 1].getD (cM g Lc[g.length - 1]).toNat ([], 0)).2 := by
  rw [cy, if_neg (by omega), hgd]
 rw [hnum];have hl := hx.lim.at' hn;have hr := hx.rises _ (Ec hn);have hget := cw (l := Lc) (i := ((g.length - 1 : Nat) : Int)) (n := g.length - 1) rfl hn;generalize Lc[g.length - 1] = l at *
 have hf := qn g l;refine X1 ((g.length - 1 : Nat) : Int) (wI (by omega) (by omega) (by omega)) ?_;refine .intro (by omega) (X1 _ hget ?_);refine X2 .look (X1 _ (oZ l g hl (by omega) hr) ?_);refine ah (fun h2 => ?_) (fun h2 => ?_)
 ·rw [if_pos h2];exact ⟨trivial, sa rfl rfl rfl, r1 rfl, trivial⟩
 ·rw [if_neg h2];have hk : (cM g l).toNat < l.length := by omega
  refine X1 ((g.length - 1 : Nat) : Int) (wI (by omega) (by omega) (by omega)) ?_;refine .intro (by omega) (X1 _ hget ?_);refine .intro (by omega) (X1 _ (bD (n := (cM g l).toNat) (by omega) hk) ?_);exact ⟨trivial, sa rfl rfl rfl, r1 (iE (by simp [DZ, hk])), trivial⟩
end
end
section
def lvl (Lc : List (List Cnt)) (h : List Int) : List Cnt := Lc.getD h.length []
def eN (l : List Cnt) (k : Nat) : Nat × Nat := cH (aq l 1) (aq l 2) (aq l 3) (aq l 4) k
def atN (l : List Cnt) (a : Int) : Nat × Nat := at4 (eN l 1) (eN l 2) (eN l 3) a
def owF (Lc : List (List Cnt)) (w : Int) (h : List Int) : Nat × Nat := cW ((cy Lc (h ++ [w])).toNat, 1) (atN (lvl Lc h) (cy Lc (h ++ [w])))
def eQ (Lc : List (List Cnt)) (w : Int) (h : List Int) (p : Nat × Nat) : Nat × Nat :=
 if totN (after (lvl Lc h) h) = 0 then p else bE (dW (owF Lc w h) (totN (after (lvl Lc h) h), 1)) (cG (gc Lc h) p)
def p0F (words : Int) : Nat × Nat := dW (1, 1) ((words - 1).toNat, 1)
def pF (Lc : List (List Cnt)) (words w : Int) : List Int → Nat × Nat
 | [] => eQ Lc w [] (p0F words)
 | x :: t => eQ Lc w (x :: t) (pF Lc words w t)
def fS (Lc : List (List Cnt)) (h : List Int) : List Int := if Lc.length ≤ h.length then h.drop (h.length - Lc.length + 1) else h
def bj (Lc : List (List Cnt)) (words : Int) (h : List Int) (w : Int) : Nat × Nat := if w < 0 ∨ words ≤ w ∨ w = 1 then (0, 1) else pF Lc words w (fS Lc h)
theorem kx {Lc : List (List Cnt)} {words : Int} (hx : XOk Lc words) (h : List Int) : Bd 2000 (gc Lc h) := by
 unfold gc;split
 ·rename_i hh;have hln := hx.lim.at' hh;have htn := hx.tot _ (Ec hh);have hal : CLim (after Lc[h.length] h) := hln.filter _;have hat : tot (after Lc[h.length] h) ≤ 4611686018427387904 := GV (fl _ _) htn;have m := fun k => D4 (cr Lc[h.length] k) hln.len
  have ob := fun k => tR (m 1) (m 2) (m 3) (m 4) k
  have ht := qo hat
  have hT := uN hal;have hs := mC (after Lc[h.length] h);unfold nM;split
  ·exact (aE (v := 1) (k := 1) (by omega) (by omega)).le (by omega)
  ·have i := fun n (hn : n ≤ 1000000) => aE (v := n) (k := 63) (by omega) (by omega)
   refine (cn (eY (eY (bv (i _ (by omega)) (ob 1)) (bv (i _ (by omega)) (ob 2))) (bv (i _ (by omega)) (ob 3))) (aE (k := 63) (by omega) (by omega)) ?_).le (by omega);show totN _ ≠ 0
   omega
 ·exact (aE (v := 1) (k := 1) (by omega) (by omega)).le (by omega)
theorem ky {Lc : List (List Cnt)} {words : Int} (hx : XOk Lc words) (g : List Int) : 0 ≤ cy Lc g ∧ cy Lc g ≤ 4611686018427387904 := by
 unfold cy;split
 ·omega
 ·rename_i h0;split
  ·omega
  ·rename_i h1;have hn : g.length - 1 < Lc.length := by omega
   have hgd : Lc.getD (g.length - 1) [] = Lc[g.length - 1] := by simp [DZ, hn]
   rw [hgd] at h1 ⊢;have hf := qn g Lc[g.length - 1];have hk : (cM g Lc[g.length - 1]).toNat < Lc[g.length - 1].length := by omega
   have := hx.num _ (Ec hn) _ (Ec hk);simp only [DZ, Em hk, Fx];exact this
theorem Cz {k : Nat} {p1 p2 p3 : Nat × Nat} (h1 : Bd k p1) (h2 : Bd k p2) (h3 : Bd k p3) (hk : 1 ≤ k) (a : Int) : Bd k (at4 p1 p2 p3 a) := by
 unfold at4;split
 ·exact bd01.le hk
 ·split
  ·exact h1
  ·split
   ·exact h2
   ·exact h3
theorem gD {Lc : List (List Cnt)} {h : List Int} (hh : h.length < Lc.length) : lvl Lc h = Lc[h.length] := by simp [lvl, DZ, hh]
theorem fG {l : List Cnt} (hl : CLim l) (k : Nat) : Bd 500 (eN l k) :=
 tR (D4 (cr l 1) hl.len) (D4 (cr l 2) hl.len) (D4 (cr l 3) hl.len) (D4 (cr l 4) hl.len) k
theorem qp {Lc : List (List Cnt)} (hl : CCLim Lc) (h : List Int) : CLim (lvl Lc h) := by
 by_cases hh : h.length < Lc.length
 ·rw [gD hh]; exact hl.at' hh
 ·have : lvl Lc h = [] := by simp [lvl, DZ, Eo (E9 hh)]
  rw [this]; exact ⟨by simp, fun x hx => by simp at hx⟩
theorem nS {l : List Cnt} (hl : CLim l) (a : Int) : Bd 500 (atN l a) := Cz (fG hl 1) (fG hl 2) (fG hl 3) (by omega) a
theorem ee {Lc : List (List Cnt)} {words : Int} (hx : XOk Lc words) (w : Int) (h : List Int) : Bd 600 (owF Lc w h) := by
 have := ky hx (h ++ [w]);exact (mB (aE (v := (cy Lc (h ++ [w])).toNat) (k := 63) (by omega) (by omega)) (nS (qp hx.lim h) _)).le (by omega)
theorem mD {Lc : List (List Cnt)} {words : Int} (hx : XOk Lc words) (h : List Int) : totN (after (lvl Lc h) h) ≤ 4611686018427387904 := by
 by_cases hh : h.length < Lc.length
 ·rw [gD hh]; exact qo (GV (fl _ _) (hx.tot _ (Ec hh)))
 ·have : lvl Lc h = [] := by simp [lvl, DZ, Eo (E9 hh)]
  rw [this]; exact FV _
theorem qq {Lc : List (List Cnt)} {words : Int} (hx : XOk Lc words) (w : Int) (h : List Int) (h0 : totN (after (lvl Lc h) h) ≠ 0) : Bd 663 (dW (owF Lc w h) (totN (after (lvl Lc h) h), 1)) :=
 cn (ee hx w h) (aE (k := 63) (by have := mD hx h; omega) (by omega)) h0
theorem sb {Lc : List (List Cnt)} {words : Int} (hx : XOk Lc words) (w : Int) (h : List Int) {k : Nat} {p : Nat × Nat} (hp : Bd k p) : Bd (k + 3000) (eQ Lc w h p) := by
 unfold eQ;split
 ·exact hp.le (by omega)
 ·rename_i h0;exact (eY (qq hx w h h0) (bv (kx hx h) hp)).le (by omega)
theorem tV {Lc : List (List Cnt)} {words : Int} (hx : XOk Lc words) : Bd 200 (p0F words) := by
 have h3 := hx.w3;have h6 := hx.w6;exact (cn (aE (v := 1) (k := 63) (by omega) (by omega)) (aE (v := (words - 1).toNat) (k := 63) (by omega) (by omega)) (by show (words - 1).toNat ≠ 0; omega)).le (by omega)
theorem uQ {Lc : List (List Cnt)} {words : Int} (hx : XOk Lc words) (w : Int) : ∀ h : List Int, Bd (200 + 3000 * (h.length + 1)) (pF Lc words w h)
 | [] => (sb hx w [] (tV hx)).le (by simp)
 | x :: t => (sb hx w (x :: t) (uQ hx w t)).le (by simp; omega)
def pN (Lc : List (List Cnt)) (words w : Int) (h : List Int) : Nat → Nat × Nat
 | 0 => p0F words
 | n + 1 => pF Lc words w (h.drop (h.length - n))
theorem uR {Lc : List (List Cnt)} {words w : Int} {h : List Int} {n : Nat} (hn : n ≤ h.length) : eQ Lc w (h.drop (h.length - n)) (pN Lc words w h n) = pN Lc words w h (n + 1) := by
 cases n with
 | zero => rw [FY]; simp [pN, pF]
 | succ n =>
  have e : h.drop (h.length - (n + 1)) = h[h.length - (n + 1)] :: h.drop (h.length - n) := by
   rw [Ew (by omega)];congr 2;omega
  simp only [pN];rw [e, pF]
theorem BQ {Lc : List (List Cnt)} {words : Int} (hx : XOk Lc words) (w : Int) (h : List Int) {n : Nat} (hn : n ≤ h.length + 1) : Bd (200 + 3000 * (h.length + 2)) (pN Lc words w h n) := by
 cases n with
 | zero => exact (tV hx).le (by omega)
 | succ n => exact (uQ hx w _).le (by rw [EJ]; omega)
theorem qr {Lc : List (List Cnt)} {words : Int} (hx : XOk Lc words) (h : List Int) : (fS Lc h).length < Lc.length := by
 have := hx.len0;unfold fS;split
 ·rw [EJ]; omega
 ·omega
theorem CA {k : Nat} {p : Nat × Nat} (n : Nat) (h : Bg k p) (hk : k ≤ 2000000) (h0 : n ≠ 0) (hn : n < 9223372036854775808) : Ct P 158 [qP p, .c (nI .i64 n)] [qP (Cn p (n, 1))] := by
 have hb : Bg 64 (n, 1) := ⟨by show n < 2 ^ 64; omega, by show 1 < 2 ^ 64; omega⟩;refine Ct.go aj aa (N := 16) Tryz.func158 rfl rfl rfl rfl ?_;refine X1 ((n : Nat) : Int) (wU rfl (by omega) (by omega)) ?_;refine X1 _ (bG n (by omega)) ?_;refine X1 _ (uI h hb h0 hk (by omega)) ?_;refine .intro rfl ?_;exact ⟨trivial, rc rfl, trivial⟩
end
end Go.Proofs.YtgceikecdedfcaaGreat.Pv
