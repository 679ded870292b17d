/- Parts of a proof, joined: Cq Ct PvX PvY Cu Cw. -/
import Derived.Test.YtgceikecdedfcaaGreatLkG
namespace Go.Proofs.YtgceikecdedfcaaGreat.Pv
open Go
section
def aR (x : Cnt) : Bool := !(decide (x.2 < 1)) && !(decide (x.1 = [1]))
def tys (l : List Cnt) : Int := ((l.filter aR).length : Nat)
def tot (l : List Cnt) : Int := ((l.filter aR).map (·.2)).sum
def num (l : List Cnt) (k : Int) : Int := ((l.filter fun x => aR x && decide (x.2 = k)).length : Nat)
section
variable {l : List Cnt} {x : Cnt} {k : Int}
theorem fk (h : aR x = true) : tys (l ++ [x]) = tys l + 1 := by
 unfold tys; rw [Fj, D3, EL h]; simp
theorem BD (h : aR x = false) : tys (l ++ [x]) = tys l := by
 unfold tys; rw [Fj, D3, ED (by simp [h])]; simp
theorem ek (h : aR x = true) : tot (l ++ [x]) = tot l + x.2 := by
 unfold tot; rw [Fj, EL h]; simp
theorem BE (h : aR x = false) : tot (l ++ [x]) = tot l := by
 unfold tot; rw [Fj, ED (by simp [h])]; simp
theorem C9 (h : aR x = true) (hk : x.2 = k) : num (l ++ [x]) k = num l k + 1 := by
 unfold num; rw [Fj, D3, EL (by simp [h, hk])]; simp
theorem dw (h : aR x = false ∨ x.2 ≠ k) : num (l ++ [x]) k = num l k := by
 unfold num; rw [Fj, D3, ED (by rcases h with h | h <;> simp [h])]; simp
theorem cC (l : List Cnt) : 0 ≤ tot l := by
 unfold tot
 induction l with
 | nil => simp
 | cons x l ih =>
  by_cases h : aR x = true
  ·rw [EL h, EH, Ge];have : ¬ x.2 < 1 := by unfold aR at h; intro h1; rw [decide_eq_true h1] at h; simp at h
   omega
  ·rw [ED h]; exact ih
theorem iH (l m : List Cnt) : tot (l ++ m) = tot l + tot m := by
 unfold tot; rw [Fj, Fb, List.sum_append]
theorem ns (l : List Cnt) (i : Nat) : tot (l.take i) ≤ tot l := by
 have h := iH (l.take i) (l.drop i);rw [Gb] at h;have := cC (l.drop i);omega
theorem yg (l : List Cnt) : 0 ≤ tys l ∧ tys l ≤ l.length := by
 unfold tys; have := E4 aR l; omega
theorem yh (l : List Cnt) (k : Int) : 0 ≤ num l k ∧ num l k ≤ l.length := by
 unfold num; have := E4 (fun x => aR x && decide (x.2 = k)) l; omega
end
def cen (l : List Cnt) : List PC := [eI .i64 (tys l), eI .i64 (tot l), eI .i64 (num l 1), eI .i64 (num l 2), eI .i64 (num l 3), eI .i64 (num l 4)]
theorem BF {l : List Cnt} {x : Cnt} (h : aR x = false) : cen (l ++ [x]) = cen l := by
 unfold cen; rw [BD h, BE h, dw (.inl h), dw (.inl h), dw (.inl h), dw (.inl h)]
theorem bQ {l : List Cnt} {x : Cnt} {k : Int} (h : aR x = true) : num (l ++ [x]) k = if x.2 = k then num l k + 1 else num l k := by
 by_cases hk : x.2 = k
 ·rw [if_pos hk, C9 h hk]
 ·rw [if_neg hk, dw (.inr hk)]
theorem yi (l : List Cnt) (hl : CLim l) (ht : tot l ≤ 4611686018427387904) : Ct P 94 [.c (cSl l)] [.ag (cen l)] := by
 have hll := hl.len;refine Ct.go aj aa (N := 48) Tryz.func94 rfl rfl rfl rfl ?_;refine au aj aa (fun i : Nat => i ≤ l.length) (fun i => [(0, .c (cSl l)), (2, .c (.ad 2 0)), (3, .c (.ad 3 0)), (4, .c (nI .i64 i))])
  (fun i => [(2, .var [eI .i64 0, eI .i64 0, eI .i64 0, eI .i64 0, eI .i64 0, eI .i64 0]), (3, .var (cen (l.take i)))]) (fun i => l.length - i)
  0 (by omega) ⟨rfl, rfl, rfl, rfl, trivial⟩ ⟨rfl, rfl, trivial⟩ (fun _ : Unit => True) (fun _ => [(2, .c (.ad 2 0)), (3, .c (.ad 3 0))]) (fun _ => [(2, .var [eI .i64 0, eI .i64 0, eI .i64 0, eI .i64 0, eI .i64 0, eI .i64 0]), (3, .var (cen l))]) (fun i hi => ?_) (fun _ _ => ?_)
 ·refine .intro (by rw [cRow_len]; omega) ?_;rw [cRow_len];refine ah (fun h5 => ?_) (fun h5 => ?_)
  ·have hi' : i < l.length := by omega
   have hxl := hl.at' hi';have hx := bD (l := l) (i := (i : Int)) (n := i) rfl hi';have hs : l.take (i + 1) = l.take i ++ [l[i]] := D5 hi';have t1 := ns l (i + 1);have t2 := yg (l.take i);have t3 := cC (l.take i);have t4 := yh (l.take i);rw [hs] at t1;rw [Ed] at t2;simp only [Ed] at t4;generalize l[i] = x at *
   generalize l.take i = a at *
   refine .intro (by omega) (X1 _ hx ?_);refine ah (fun h6 => ?_) (fun h6 => ?_)
   ·have hlv : aR x = false := by unfold aR; rw [decide_eq_true h6]; rfl
    refine X1 ((i + 1 : Nat) : Int) (wI1 (by omega)) ?_;exact ⟨i + 1, by omega, by omega, ⟨rfl, rfl, rfl, rfl, trivial⟩, ⟨rfl, by rw [hs, BF hlv]; rfl, trivial⟩⟩
   ·refine .intro (by omega) (X1 _ hx ?_);refine X2 .look (X1 _ (pY x.1 [1] hxl (by simp)) ?_);refine ah (fun h7 => ?_) (fun h7 => ?_)
    ·have hlv : aR x = false := by unfold aR; rw [decide_eq_true h7]; simp
     refine X1 ((i + 1 : Nat) : Int) (wI1 (by omega)) ?_;exact ⟨i + 1, by omega, by omega, ⟨rfl, rfl, rfl, rfl, trivial⟩, ⟨rfl, by rw [hs, BF hlv]; rfl, trivial⟩⟩
    ·have hlv : aR x = true := by unfold aR; rw [decide_eq_false h6, decide_eq_false h7]; rfl
     rw [ek hlv] at t1;refine .intro (by omega) (And.intro (by omega) ?_);refine X1 (tys a + 1) (wI rfl (by omega) (by omega)) ?_;refine .intro (by omega) (And.intro (by omega) ?_);refine .intro (by omega) (And.intro (by omega) ?_);refine X1 (tot a + x.2) (wI rfl (by omega) (by omega)) ?_;refine .intro (by omega) (And.intro (by omega) ?_);refine ah (fun h8 => ?_) (fun h8 => ?_)
     ·have h9 : x.2 = 1 ∨ x.2 = 2 ∨ x.2 = 3 ∨ x.2 = 4 := by omega
      rcases h9 with h9 | h9 | h9 | h9
      ·have q1 := t4 1;have hc : cen (a ++ [x]) = [eI .i64 (tys a + 1), eI .i64 (tot a + 1), eI .i64 (num a 1 + 1), eI .i64 (num a 2), eI .i64 (num a 3), eI .i64 (num a 4)] := by
        unfold cen; rw [fk hlv, ek hlv, bQ hlv, bQ hlv, bQ hlv, bQ hlv, h9]; simp
       rw [h9] at *
       refine X1 2 (wI (by omega) (by omega) (by omega)) ?_;refine X1 2 (wI (by omega) (by omega) (by omega)) ?_;refine .intro (by omega) (And.intro (by omega) ?_);refine X1 (num a 1 + 1) (wI rfl (by omega) (by omega)) ?_;refine .intro (by omega) (And.intro (by omega) ?_);refine X1 ((i + 1 : Nat) : Int) (wI1 (by omega)) ?_;exact ⟨i + 1, by omega, by omega, ⟨rfl, rfl, rfl, rfl, trivial⟩, ⟨rfl, by rw [hs, hc]; rfl, trivial⟩⟩
      ·have q1 := t4 2;have hc : cen (a ++ [x]) = [eI .i64 (tys a + 1), eI .i64 (tot a + 2), eI .i64 (num a 1), eI .i64 (num a 2 + 1), eI .i64 (num a 3), eI .i64 (num a 4)] := by
        unfold cen; rw [fk hlv, ek hlv, bQ hlv, bQ hlv, bQ hlv, bQ hlv, h9]; simp
       rw [h9] at *
       refine X1 3 (wI (by omega) (by omega) (by omega)) ?_;refine X1 3 (wI (by omega) (by omega) (by omega)) ?_;refine .intro (by omega) (And.intro (by omega) ?_);refine X1 (num a 2 + 1) (wI rfl (by omega) (by omega)) ?_;refine .intro (by omega) (And.intro (by omega) ?_);refine X1 ((i + 1 : Nat) : Int) (wI1 (by omega)) ?_;exact ⟨i + 1, by omega, by omega, ⟨rfl, rfl, rfl, rfl, trivial⟩, ⟨rfl, by rw [hs, hc]; rfl, trivial⟩⟩
      ·have q1 := t4 3;have hc : cen (a ++ [x]) = [eI .i64 (tys a + 1), eI .i64 (tot a + 3), eI .i64 (num a 1), eI .i64 (num a 2), eI .i64 (num a 3 + 1), eI .i64 (num a 4)] := by
        unfold cen; rw [fk hlv, ek hlv, bQ hlv, bQ hlv, bQ hlv, bQ hlv, h9]; simp
       rw [h9] at *
       refine X1 4 (wI (by omega) (by omega) (by omega)) ?_;refine X1 4 (wI (by omega) (by omega) (by omega)) ?_;refine .intro (by omega) (And.intro (by omega) ?_);refine X1 (num a 3 + 1) (wI rfl (by omega) (by omega)) ?_;refine .intro (by omega) (And.intro (by omega) ?_);refine X1 ((i + 1 : Nat) : Int) (wI1 (by omega)) ?_;exact ⟨i + 1, by omega, by omega, ⟨rfl, rfl, rfl, rfl, trivial⟩, ⟨rfl, by rw [hs, hc]; rfl, trivial⟩⟩
      ·have q1 := t4 4;have hc : cen (a ++ [x]) = [eI .i64 (tys a + 1), eI .i64 (tot a + 4), eI .i64 (num a 1), eI .i64 (num a 2), eI .i64 (num a 3), eI .i64 (num a 4 + 1)] := by
        unfold cen; rw [fk hlv, ek hlv, bQ hlv, bQ hlv, bQ hlv, bQ hlv, h9]; simp
       rw [h9] at *
       refine X1 5 (wI (by omega) (by omega) (by omega)) ?_;refine X1 5 (wI (by omega) (by omega) (by omega)) ?_;refine .intro (by omega) (And.intro (by omega) ?_);refine X1 (num a 4 + 1) (wI rfl (by omega) (by omega)) ?_;refine .intro (by omega) (And.intro (by omega) ?_);refine X1 ((i + 1 : Nat) : Int) (wI1 (by omega)) ?_;exact ⟨i + 1, by omega, by omega, ⟨rfl, rfl, rfl, rfl, trivial⟩, ⟨rfl, by rw [hs, hc]; rfl, trivial⟩⟩
     ·have hc : cen (a ++ [x]) = [eI .i64 (tys a + 1), eI .i64 (tot a + x.2), eI .i64 (num a 1), eI .i64 (num a 2), eI .i64 (num a 3), eI .i64 (num a 4)] := by
       unfold cen; rw [fk hlv, ek hlv, dw (.inr (by omega)), dw (.inr (by omega)), dw (.inr (by omega)), dw (.inr (by omega))]
      refine X1 ((i + 1 : Nat) : Int) (wI1 (by omega)) ?_;exact ⟨i + 1, by omega, by omega, ⟨rfl, rfl, rfl, rfl, trivial⟩, ⟨rfl, by rw [hs, hc]; rfl, trivial⟩⟩
  ·have e : i = l.length := by omega
   subst e;rw [EE];exact ⟨(), trivial, ⟨rfl, rfl, trivial⟩, ⟨rfl, rfl, trivial⟩⟩
 ·exact ⟨trivial, rc rfl, trivial⟩
theorem fl (p : Cnt → Bool) (l : List Cnt) : tot (l.filter p) ≤ tot l := by
 induction l with
 | nil => simp
 | cons x l ih =>
  have h1 : tot (x :: l) = tot [x] + tot l := iH [x] l;have h2 := cC [x];by_cases h : p x = true
  ·have h3 : tot (x :: l.filter p) = tot [x] + tot (l.filter p) := iH [x] _;rw [EL h];omega
  ·rw [ED h];omega
def fN (h : List Int) (x : Cnt) : Bool := decide (x.1.length = h.length + 1) && decide (x.1.take h.length = h)
def after (l : List Cnt) (h : List Int) : List Cnt := l.filter (fN h)
theorem CLim.filter {l : List Cnt} (h : CLim l) (p : Cnt → Bool) : CLim (l.filter p) :=
 ⟨D4 (E4 _ _) h.len, fun x hx => h.g x (GJ.1 hx).1⟩
end
section
def dp (l : List Cnt) : List PC := [eI .i64 (tys l), eI .i64 (tot l), eI .i64 0, eI .i64 (num l 1), eI .i64 (num l 2), eI .i64 (num l 3), eI .i64 (num l 4)]
theorem yj {l : List Cnt} {x : Cnt} (h : aR x = false) : dp (l ++ [x]) = dp l := by
 unfold dp; rw [BD h, BE h, dw (.inl h), dw (.inl h), dw (.inl h), dw (.inl h)]
theorem ru (a : List Cnt) (x : Cnt) (ha : a.length ≤ 1000000) (hx : x.1.length ≤ 1000000) (ht : tot (a ++ [x]) ≤ 4611686018427387904) :
  CtO P 134 [(1000000, some (.var (dp a)))] [.c (.ad 1000000 0), .ag [iSl x.1, eI .i64 x.2]] [(1000000, some (.var (dp (a ++ [x]))))] [] := by
 have t2 := yg a;have t3 := cC a;have t4 := yh a;refine Ct.io aj aa (N := 50) Tryz.func134 rfl rfl rfl rfl ?_;refine ah (fun h1 => ?_) (fun h1 => ?_)
 ·have hlv : aR x = false := by unfold aR; rw [decide_eq_true h1]; rfl
  rw [yj hlv];exact ⟨trivial, SubO.of (l := [(1000000, .var _)]) ⟨rfl, trivial⟩, trivial⟩
 ·refine .intro (by rw [ae]; omega) ?_;rw [ae];refine aV (fun h2 => ?_) (fun h2 => ?_)
  ·refine .intro (by omega) (X1 _ (bc (n := 0) rfl (by omega)) ?_);refine aV (fun h3 => ?_) (fun h3 => ?_)
   ·have hx1 : x.1 = [1] := by
     obtain ⟨g, n⟩ := x
     match g, h2, h3 with
     | [v], _, h3 => simp at h3; simp [h3]
    have hlv : aR x = false := by unfold aR; rw [decide_eq_true hx1, Bool.not_true, GW]
    rw [yj hlv];exact ⟨trivial, SubO.of (l := [(1000000, .var _)]) ⟨rfl, trivial⟩, trivial⟩
   ·have hlv : aR x = true := by
     have : ¬ x.1 = [1] := fun h => h3 (by rw [h]; rfl)
     unfold aR; rw [decide_eq_false h1, decide_eq_false this]; rfl
    rw [ek hlv] at ht;refine X1 (tys a + 1) (wI rfl (by omega) (by omega)) ?_;refine X1 (tot a + x.2) (wI rfl (by omega) (by omega)) ?_;refine .intro rfl ?_;refine ah (fun h8 => ?_) (fun h8 => ?_)
    ·have h9 : x.2 = 1 ∨ x.2 = 2 ∨ x.2 = 3 ∨ x.2 = 4 := by omega
     rcases h9 with h9 | h9 | h9 | h9
     ·have q1 := t4 1;have hc : dp (a ++ [x]) = [eI .i64 (tys a + 1), eI .i64 (tot a + 1), eI .i64 0, eI .i64 (num a 1 + 1), eI .i64 (num a 2), eI .i64 (num a 3), eI .i64 (num a 4)] := by
       unfold dp; rw [fk hlv, ek hlv, bQ hlv, bQ hlv, bQ hlv, bQ hlv, h9]; simp
      rw [hc];rw [h9] at *
      refine .intro (by omega) (And.intro (by omega) ?_);refine X1 (num a 1 + 1) (wI rfl (by omega) (by omega)) ?_;refine .intro (by omega) (And.intro (by omega) ?_);refine .intro rfl ?_;exact ⟨trivial, SubO.of (l := [(1000000, .var _)]) ⟨rfl, trivial⟩, trivial⟩
     ·have q1 := t4 2;have hc : dp (a ++ [x]) = [eI .i64 (tys a + 1), eI .i64 (tot a + 2), eI .i64 0, eI .i64 (num a 1), eI .i64 (num a 2 + 1), eI .i64 (num a 3), eI .i64 (num a 4)] := by
       unfold dp; rw [fk hlv, ek hlv, bQ hlv, bQ hlv, bQ hlv, bQ hlv, h9]; simp
      rw [hc];rw [h9] at *
      refine .intro (by omega) (And.intro (by omega) ?_);refine X1 (num a 2 + 1) (wI rfl (by omega) (by omega)) ?_;refine .intro (by omega) (And.intro (by omega) ?_);refine .intro rfl ?_;exact ⟨trivial, SubO.of (l := [(1000000, .var _)]) ⟨rfl, trivial⟩, trivial⟩
     ·have q1 := t4 3;have hc : dp (a ++ [x]) = [eI .i64 (tys a + 1), eI .i64 (tot a + 3), eI .i64 0, eI .i64 (num a 1), eI .i64 (num a 2), eI .i64 (num a 3 + 1), eI .i64 (num a 4)] := by
       unfold dp; rw [fk hlv, ek hlv, bQ hlv, bQ hlv, bQ hlv, bQ hlv, h9]; simp
      rw [hc];rw [h9] at *
      refine .intro (by omega) (And.intro (by omega) ?_);refine X1 (num a 3 + 1) (wI rfl (by omega) (by omega)) ?_;refine .intro (by omega) (And.intro (by omega) ?_);refine .intro rfl ?_;exact ⟨trivial, SubO.of (l := [(1000000, .var _)]) ⟨rfl, trivial⟩, trivial⟩
     ·have q1 := t4 4;have hc : dp (a ++ [x]) = [eI .i64 (tys a + 1), eI .i64 (tot a + 4), eI .i64 0, eI .i64 (num a 1), eI .i64 (num a 2), eI .i64 (num a 3), eI .i64 (num a 4 + 1)] := by
       unfold dp; rw [fk hlv, ek hlv, bQ hlv, bQ hlv, bQ hlv, bQ hlv, h9]; simp
      rw [hc];rw [h9] at *
      refine .intro (by omega) (And.intro (by omega) ?_);refine X1 (num a 4 + 1) (wI rfl (by omega) (by omega)) ?_;refine .intro (by omega) (And.intro (by omega) ?_);refine .intro rfl ?_;exact ⟨trivial, SubO.of (l := [(1000000, .var _)]) ⟨rfl, trivial⟩, trivial⟩
    ·have hc : dp (a ++ [x]) = [eI .i64 (tys a + 1), eI .i64 (tot a + x.2), eI .i64 0, eI .i64 (num a 1), eI .i64 (num a 2), eI .i64 (num a 3), eI .i64 (num a 4)] := by
      unfold dp; rw [fk hlv, ek hlv, dw (.inr (by omega)), dw (.inr (by omega)), dw (.inr (by omega)), dw (.inr (by omega))]
     rw [hc];exact ⟨trivial, SubO.of (l := [(1000000, .var _)]) ⟨rfl, trivial⟩, trivial⟩
  ·have hlv : aR x = true := by
    have : ¬ x.1 = [1] := fun h => h2 (by rw [h]; rfl)
    unfold aR; rw [decide_eq_false h1, decide_eq_false this]; rfl
   rw [ek hlv] at ht;refine X1 (tys a + 1) (wI rfl (by omega) (by omega)) ?_;refine X1 (tot a + x.2) (wI rfl (by omega) (by omega)) ?_;refine .intro rfl ?_;refine ah (fun h8 => ?_) (fun h8 => ?_)
   ·have h9 : x.2 = 1 ∨ x.2 = 2 ∨ x.2 = 3 ∨ x.2 = 4 := by omega
    rcases h9 with h9 | h9 | h9 | h9
    ·have q1 := t4 1;have hc : dp (a ++ [x]) = [eI .i64 (tys a + 1), eI .i64 (tot a + 1), eI .i64 0, eI .i64 (num a 1 + 1), eI .i64 (num a 2), eI .i64 (num a 3), eI .i64 (num a 4)] := by
      unfold dp; rw [fk hlv, ek hlv, bQ hlv, bQ hlv, bQ hlv, bQ hlv, h9]; simp
     rw [hc];rw [h9] at *
     refine .intro (by omega) (And.intro (by omega) ?_);refine X1 (num a 1 + 1) (wI rfl (by omega) (by omega)) ?_;refine .intro (by omega) (And.intro (by omega) ?_);refine .intro rfl ?_;exact ⟨trivial, SubO.of (l := [(1000000, .var _)]) ⟨rfl, trivial⟩, trivial⟩
    ·have q1 := t4 2;have hc : dp (a ++ [x]) = [eI .i64 (tys a + 1), eI .i64 (tot a + 2), eI .i64 0, eI .i64 (num a 1), eI .i64 (num a 2 + 1), eI .i64 (num a 3), eI .i64 (num a 4)] := by
      unfold dp; rw [fk hlv, ek hlv, bQ hlv, bQ hlv, bQ hlv, bQ hlv, h9]; simp
     rw [hc];rw [h9] at *
     refine .intro (by omega) (And.intro (by omega) ?_);refine X1 (num a 2 + 1) (wI rfl (by omega) (by omega)) ?_;refine .intro (by omega) (And.intro (by omega) ?_);refine .intro rfl ?_;exact ⟨trivial, SubO.of (l := [(1000000, .var _)]) ⟨rfl, trivial⟩, trivial⟩
    ·have q1 := t4 3;have hc : dp (a ++ [x]) = [eI .i64 (tys a + 1), eI .i64 (tot a + 3), eI .i64 0, eI .i64 (num a 1), eI .i64 (num a 2), eI .i64 (num a 3 + 1), eI .i64 (num a 4)] := by
      unfold dp; rw [fk hlv, ek hlv, bQ hlv, bQ hlv, bQ hlv, bQ hlv, h9]; simp
     rw [hc];rw [h9] at *
     refine .intro (by omega) (And.intro (by omega) ?_);refine X1 (num a 3 + 1) (wI rfl (by omega) (by omega)) ?_;refine .intro (by omega) (And.intro (by omega) ?_);refine .intro rfl ?_;exact ⟨trivial, SubO.of (l := [(1000000, .var _)]) ⟨rfl, trivial⟩, trivial⟩
    ·have q1 := t4 4;have hc : dp (a ++ [x]) = [eI .i64 (tys a + 1), eI .i64 (tot a + 4), eI .i64 0, eI .i64 (num a 1), eI .i64 (num a 2), eI .i64 (num a 3), eI .i64 (num a 4 + 1)] := by
      unfold dp; rw [fk hlv, ek hlv, bQ hlv, bQ hlv, bQ hlv, bQ hlv, h9]; simp
     rw [hc];rw [h9] at *
     refine .intro (by omega) (And.intro (by omega) ?_);refine X1 (num a 4 + 1) (wI rfl (by omega) (by omega)) ?_;refine .intro (by omega) (And.intro (by omega) ?_);refine .intro rfl ?_;exact ⟨trivial, SubO.of (l := [(1000000, .var _)]) ⟨rfl, trivial⟩, trivial⟩
   ·have hc : dp (a ++ [x]) = [eI .i64 (tys a + 1), eI .i64 (tot a + x.2), eI .i64 0, eI .i64 (num a 1), eI .i64 (num a 2), eI .i64 (num a 3), eI .i64 (num a 4)] := by
     unfold dp; rw [fk hlv, ek hlv, dw (.inr (by omega)), dw (.inr (by omega)), dw (.inr (by omega)), dw (.inr (by omega))]
    rw [hc];exact ⟨trivial, SubO.of (l := [(1000000, .var _)]) ⟨rfl, trivial⟩, trivial⟩
theorem AB (l : List Cnt) (hl : CLim l) (ht : tot l ≤ 4611686018427387904) : Ct P 86 [.c (cSl l)] [.ag (dp l)] := by
 have hll := hl.len;refine Ct.go aj aa (N := 16) Tryz.func86 rfl rfl rfl rfl ?_;refine .intro (by rw [cRow_len]; omega) ?_;rw [cRow_len];refine au aj aa (fun i : Nat => i ≤ l.length) (fun i => [(2, .c (.ad 2 0)), (3, .c (.ad 3 0)), (6, .c (cSl l)), (7, .c (nI .i64 l.length)), (8, .c (nI .i64 i))])
  (fun i => [(2, .var [eI .i64 0, eI .i64 0, eI .i64 0, eI .i64 0, eI .i64 0, eI .i64 0, eI .i64 0]), (3, .var (dp (l.take i)))]) (fun i => l.length - i)
  0 (by omega) ⟨rfl, rfl, rfl, rfl, rfl, trivial⟩ ⟨rfl, rfl, trivial⟩ (fun _ : Unit => True) (fun _ => [(2, .c (.ad 2 0)), (3, .c (.ad 3 0))])
  (fun _ => [(2, .var [eI .i64 0, eI .i64 0, eI .i64 0, eI .i64 0, eI .i64 0, eI .i64 0, eI .i64 0]), (3, .var (dp l))]) (fun i hi => ?_) (fun _ _ => ?_)
 ·refine ah (fun h5 => ?_) (fun h5 => ?_)
  ·have hi' : i < l.length := by omega
   have hxl := hl.at' hi';have hx := bD (l := l) (i := (i : Int)) (n := i) rfl hi';have hs : l.take (i + 1) = l.take i ++ [l[i]] := D5 hi';have t1 := ns l (i + 1);have hal : (l.take i).length ≤ 1000000 := by rw [Ed]; omega
   rw [hs] at t1;generalize l[i] = x at *
   generalize l.take i = a at *
   refine .intro (by omega) (X1 _ hx ?_);refine X2 (.upd 3) ?_;refine ⟨_, _, ru a x hal hxl (by omega), ?_⟩;refine X1 ((i + 1 : Nat) : Int) (wI1 (by omega)) ?_;exact ⟨i + 1, by omega, by omega, ⟨rfl, rfl, rfl, rfl, rfl, trivial⟩, ⟨rfl, by rw [hs]; rfl, trivial⟩⟩
  ·have e : i = l.length := by omega
   subst e;rw [EE];exact ⟨(), trivial, ⟨rfl, rfl, trivial⟩, ⟨rfl, rfl, trivial⟩⟩
 ·exact ⟨trivial, rc rfl, trivial⟩
end
section
def yk (K : Km) (ok : Nat → Prop) (b : Nat) : Prop := ¬ ok b ∧ ¬ K.hid b
theorem Sim.free {N : Cx} {K : Km} {ok : Nat → Prop} {w w' : World} {E : Env} {O : Objs} {a : Act} (hs : Sim N K ok w E O a) (hsz : w.heap.size ≤ w'.heap.size) (hb : ∀ b, (ok b ∨ K.hid b ∨ ∃ k o L, O.get k = some o ∧ K k = some (b, L)) → w'.heap[b]? = w.heap[b]?)
  (hd : ∀ b : Nat, kO b ∈ a.defers → w'.heap[b]? = w.heap[b]?) (hl : ∀ (b : Nat) (r : Loop), N.R = some b → w.heap[b]? = some (Obj.loop r) → ∃ r', w'.heap[b]? = some (Obj.loop r')) (hc : CSh w w') (ho : w'.os = w.os ∧ w'.tape = w.tape ∧ w'.output = w.output) : Sim N K ok w' E O a := by
 have hsh : ∀ r, Shp K K w w' r := fun r => ⟨rfl, fun b _ _ cs e fr h => hc b cs e fr h⟩
 refine ⟨hs.size, ?_, D4 hs.base hsz, fun l hR => ?_, hs.old, ⟨fun k o h => ?_, hs.hp.inj, hs.hp.apart, fun b h => Ea (hs.hp.lt b h) hsz, fun b h => Ea (hs.hp.hlt b h) hsz, hs.hp.hok, hs.hp.how⟩, fun t av h => ?_⟩
 ·obtain ⟨Ds, h1, h2, h3⟩ := hs.defers;exact ⟨Ds, h1, h2, fun D hD => ⟨(h3 D hD).1, (hd D (by rw [h1]; exact Ez.2 ⟨D, hD, rfl⟩)).trans (h3 D hD).2.1, (h3 D hD).2.2⟩⟩
 ·obtain ⟨r, hr⟩ := hs.rnd l hR;exact hl l r hR hr
 ·exact (hs.hp.obs k o h).mono (fun _ h => h) (fun b h _ => hb b (.inl h)) hsz rfl (fun b L hK => hb b (.inr (.inr ⟨k, o, L, h, hK⟩))) (fun J _ => ⟨rfl, fun b h => hb b (.inr (.inl h)), ho.1, ho.2.1, ho.2.2, hc⟩) fun r _ => hsh r
 ·obtain ⟨v, hv, hr⟩ := hs.env t av h;exact ⟨v, hv, hr.mono (fun _ h => h) (fun b h _ => hb b (.inl h)) hsz fun r _ => hsh r⟩
theorem Sim.putLoop {N : Cx} {K : Km} {ok : Nat → Prop} {w : World} {E : Env} {O : Objs} {a : Act} (hs : Sim N K ok w E O a) {l : Nat} {r : Loop} (hl : w.heap[l]? = some (.loop r)) (hf : yk K ok l) (r' : Loop) : Sim N K ok (w.putObj l (.loop r')) E O a := by
 have hlt := (Et.1 hl).1;refine hs.free (by simp) (fun b hb => World.putObj_heap_other ?_) (fun b hb => World.putObj_heap_other ?_) (fun b q _ hb => ?_) (fun b cs e fr hb => ⟨cs, e, fr, (World.putObj_heap_other ?_).trans hb, rfl⟩) ⟨rfl, rfl, rfl⟩
 ·rintro rfl
  rcases hb with h | h | ⟨k, o, L, h1, h2⟩
  ·exact hf.1 h
  ·exact hf.2 h
  ·exact gM hs.hp hl k o L h1 h2
 ·rintro rfl
  obtain ⟨Ds, h1, _, h3⟩ := hs.defers;rw [h1] at hb;obtain ⟨D, hD, e⟩ := Ez.1 hb;have e' : D = b := by simpa [kO] using e
  subst e';have := (h3 D hD).2.1;rw [hl] at this; cases this
 ·by_cases e : b = l
  ·subst e; exact ⟨r', World.putObj_heap_same hlt⟩
  ·exact ⟨q, (World.putObj_heap_other e).trans hb⟩
 ·rintro rfl; rw [hl] at hb; cases hb
theorem gy {w : World} {l : Nat} {r r' : Loop} (hl : w.heap[l]? = some (.loop r)) (b : Nat) (o : Obj) (hb : w.heap[b]? = some o) : ∃ o', (w.putObj l (.loop r')).heap[b]? = some o' ∧ SK o o' := by
 by_cases e : b = l
 ·subst e;rw [hl] at hb;cases hb;exact ⟨_, World.putObj_heap_same (Et.1 hl).1, r', rfl⟩
 ·exact ⟨o, (World.putObj_heap_other e).trans hb, SK.refl o⟩
theorem Sim.okUp {N : Cx} {K : Km} {ok ok' : Nat → Prop} {w : World} {E : Env} {O : Objs} {a : Act} (hs : Sim N K ok w E O a) (h1 : ∀ b, ok b → ok' b) (h2 : ∀ b, ok' b → b < w.heap.size) (h3 : ∀ k o b L, O.get k = some o → K k = some (b, L) → ¬ ok' b) (h4 : ∀ b, K.hid b → ¬ ok' b)
  (h5 : a.defers = []) : Sim N K ok' w E O a := by
 have hsh : ∀ r, Shp K K w w r := fun r => Shp.refl _ _ _
 refine ⟨hs.size, ⟨[], by rw [h5]; rfl, F2, fun D hD => by simp at hD⟩, hs.base, hs.rnd, hs.old, ⟨fun k o h => ?_, hs.hp.inj, h3, h2, hs.hp.hlt, h4, hs.hp.how⟩, fun t av h => ?_⟩
 ·exact (hs.hp.obs k o h).mono h1 (fun _ _ _ => rfl) (D1 _) rfl (fun _ _ _ => rfl) (fun J _ => ⟨rfl, fun _ _ => rfl, rfl, rfl, rfl, CSh.same fun _ _ => rfl⟩) fun r _ => hsh r
 ·obtain ⟨v, hv, hr⟩ := hs.env t av h;exact ⟨v, hv, hr.mono h1 (fun _ _ _ => rfl) (D1 _) fun r _ => hsh r⟩
def BG (Q : PQ) : Code → Env → Objs → Prop
 | .ret, E, O => Q .ret E O
 | .exit j, E, O => Q (.exit j) E O
 | .goto j, E, O => Q (.goto j) E O
 | _, _, _ => False
def tA (fz : List Nat) (Q : PQ) (I : Env → Objs → Prop) : PQ
 | .normal, E, O => I E O
 | .ret, E, O => ∃ l lo, bZ E l ∧ bh O lo ∧ (∀ p, p ∈ l → bw p.1 fz = true) ∧ Q .ret (cV l) (bY lo)
 | .exit j, E, O => ∃ l lo, bZ E l ∧ bh O lo ∧ (∀ p, p ∈ l → bw p.1 fz = true) ∧ Q (.exit j) (cV l) (bY lo)
 | .goto j, E, O => ∃ l lo, bZ E l ∧ bh O lo ∧ (∀ p, p ∈ l → bw p.1 fz = true) ∧ Q (.goto j) (cV l) (bY lo)
 | _, _, _ => False
def kc : List Tmp → List A1 → Env
 | t :: ts, x :: xs => .s t (some (.o x)) :: kc ts xs
 | _, _ => []
theorem nt : ∀ {l : List (Nat × AV)} {t : Nat} {av : AV}, (cV l).get t = some av → ∃ p, p ∈ l ∧ p.1 = t
 | [], _, _, h => by simp [cV, Env.get] at h
 | (t', a) :: l, t, av, h => by
  simp only [cV, Env.get] at h
  cases hb : Nat.beq t' t with
  | true => exact ⟨(t', a), by simp, DY hb⟩
  | false => rw [hb] at h; obtain ⟨p, h1, h2⟩ := nt h; exact ⟨p, Ep _ h1, h2⟩
theorem rv : ∀ {ps : List Tmp} {xs : List A1} {E : Env} {t : Nat} {av : AV}, Env.get (kc ps xs ++ E) t = some av → (kc ps xs).get t = some av ∨ E.get t = some av
 | [], _, _, _, _, h => .inr (by simpa [kc] using h)
 | _ :: _, [], _, _, _, h => .inr (by simpa [kc] using h)
 | t' :: ts, x :: xs, E, t, av, h => by
  simp only [kc, FD, Env.get] at h ⊢
  cases hb : Nat.beq t' t with
  | true => rw [hb] at h; exact .inl h
  | false => rw [hb] at h; exact rv h
def ke : List Tmp → List Value → Array Value → Array Value
 | t :: ts, v :: vs, a => ke ts vs (a.setIfInBounds t v)
 | _, _, a => a
theorem yl : ∀ (ps : List Tmp) (vs : List Value) (a : Array Value), ((ps.toArray.zip vs.toArray).foldl (fun tmps (x : Tmp × Value) => tmps.setIfInBounds x.1 x.2) a) = ke ps vs a := by
 intro ps vs a;rw [← Array.foldl_toList];have : (ps.toArray.zip vs.toArray).toList = ps.zip vs := by simp
 rw [this]
 induction ps generalizing vs a with
 | nil => simp [ke]
 | cons t ts ih =>
  cases vs with
  | nil => simp [ke]
  | cons v vs => simp only [List.zip_cons_cons, List.foldl_cons, ke]; exact ih vs _ (by simp)
theorem oV : ∀ (ps : List Tmp) (vs : List Value) (a : Array Value), (ke ps vs a).size = a.size
 | [], _, _ => rfl
 | _ :: _, [], _ => rfl
 | t :: ts, v :: vs, a => by rw [ke, oV ts vs]; simp
theorem gA : ∀ {ps : List Tmp} {vs : List Value} {a : Array Value} {t : Nat}, t ∉ ps → (ke ps vs a)[t]? = a[t]?
 | [], _, _, _, _ => rfl
 | _ :: _, [], _, _, _ => rfl
 | t' :: ts, v :: vs, a, t, h => by
  simp only [Ey, not_or] at h;rw [ke, gA h.2, Array.getElem?_setIfInBounds_ne (fun e => h.1 e.symm)]
theorem rx {K : Km} {ok : Nat → Prop} {w : World} : ∀ {ps : List Tmp} {xs : List A1} {vs : List Value} {a : Array Value} {t : Nat} {av : AV}, ps.Nodup → (∀ p, p ∈ ps → p < a.size) → RelAs K ok w xs vs → (kc ps xs).get t = some av → ∃ v, (ke ps vs a)[t]? = some v ∧ RelV K ok w av v
 | [], _, _, _, _, _, _, _, _, h => by simp [kc, Env.get] at h
 | _ :: _, [], _, _, _, _, _, _, _, h => by simp [kc, Env.get] at h
 | t' :: ts, x :: xs, vs, a, t, av, hn, hp, hr, h => by
  obtain ⟨v, us, rfl, hx, hxs⟩ := hr.head;simp only [GI] at hn;simp only [kc, Env.get] at h
  cases hb : Nat.beq t' t with
  | true =>
   rw [hb] at h;cases h;have e := DY hb;subst e;refine ⟨v, ?_, .o hx⟩;rw [ke, gA hn.1];simp [hp t' (by simp)]
  | false =>
   rw [hb] at h;exact rx (ps := ts) (xs := xs) hn.2 (fun p hp' => by simpa using hp p (Ep _ hp')) hxs h
section
variable {P : Program} {T : Ty} {N : Nx} {E : Env} {O : Objs}
structure RngI (X : Cx) (K0 : Km) (ok0 : Nat → Prop) (w0 : World) (O0 : Objs) (l : Nat) (rec : Loop) (Ds : List Nat) (tmps : Array Value) (E : Env) (O : Objs) (ok F : Nat → Prop) (W : World) (K : Km) (okc : Nat → Prop) : Prop where
 sim : Sim X K okc W E O { tmps := tmps, defers := [] }
 fr : Fr K0 ok0 w0 O0 K okc W O
 rec_ : W.heap[l]? = some (.loop rec)
 new : w0.heap.size ≤ l
 free : yk K okc l
 ds : ∀ D, D ∈ Ds → W.heap[D]? = some (.deferred (some [])) ∧ w0.heap.size ≤ D ∧ yk K okc D ∧ F D
 okF : ∀ b, okc b → ok b ∨ F b
 own : ∀ k o b L, O.get k = some o → K k = some (b, L) → F b
 hid : ∀ b, K.hid b → F b
 lF : F l
 old : ∀ b, b < w0.heap.size → ok0 b ∨ F b ∨ ∃ k o L, O0.get k = some o ∧ K0 k = some (b, L)
 up : ∀ b, ok0 b → ok b
theorem RngI.stable {X : Cx} {K0 : Km} {ok0 : Nat → Prop} {w0 : World} {O0 : Objs} {l : Nat} {rec : Loop} {Ds : List Nat} {tmps : Array Value} {E : Env} {O : Objs} {ok F ok1 : Nat → Prop} {W W1 : World} {K : Km} {okc : Nat → Prop}
  (h : RngI X K0 ok0 w0 O0 l rec Ds tmps E O ok F W K okc) (h1 : ∀ b, ok b → ok1 b) (h2 : ∀ b, ok b → b < W.heap.size → W1.heap[b]? = W.heap[b]?) (h3 : ∀ b, F b → W1.heap[b]? = W.heap[b]?) (h4 : W.heap.size ≤ W1.heap.size)
  (h5 : W1.os = W.os) (h6 : W1.tape = W.tape) (h7 : W1.output = W.output) (h8 : CSh W W1) (hX : X.R = some l) (hp0 : Hp K0 ok0 w0 O0) : RngI X K0 ok0 w0 O0 l rec Ds tmps E O ok1 F W1 K okc := by
 have hokc : ∀ b, okc b → W1.heap[b]? = W.heap[b]? := fun b hb => by
  rcases h.okF b hb with g | g
  ·exact h2 b g (h.sim.hp.lt b hb)
  ·exact h3 b g
 have hold : ∀ b, b < w0.heap.size → W1.heap[b]? = W.heap[b]? ∨ ∃ k o L, O0.get k = some o ∧ K0 k = some (b, L) := fun b hb => by
  rcases h.old b hb with g | g | g
  ·exact .inl (h2 b (h.up b g) (Ea hb h.fr.size))
  ·exact .inl (h3 b g)
  ·exact .inr g
 refine ⟨h.sim.free h4 (fun b hb => ?_) (fun b hb => by simp at hb) (fun b r hR hb => ?_) h8 ⟨h5, h6, h7⟩, ⟨D4 h.fr.size h4, fun b hb g1 g2 => ((hold b hb).resolve_right fun ⟨k, o, L, e1, e2⟩ => g1 k o L e1 e2).trans (h.fr.keep b hb g1 g2), h.fr.okUp, h.fr.okNew, h.fr.own, h5.trans h.fr.os, h6.trans h.fr.tape, h7.trans h.fr.output, fun b o hb => ?_, h.fr.pin, h.fr.hid⟩,
  (h3 l h.lF).trans h.rec_, h.new, h.free, fun D hD => ?_, fun b hb => (h.okF b hb).imp_left (h1 b), h.own, h.hid, h.lF, h.old, fun b hb => h1 b (h.up b hb)⟩
 ·rcases hb with g | g | ⟨k, o, L, g1, g2⟩
  ·exact hokc b g
  ·exact h3 b (h.hid b g)
  ·exact h3 b (h.own k o b L g1 g2)
 ·rw [hX] at hR;cases hR;exact ⟨rec, (h3 l h.lF).trans h.rec_⟩
 ·obtain ⟨o', g1, g2⟩ := h.fr.kind b o hb;rcases hold b (Et.1 hb).1 with e | ⟨k, p, L, e1, e2⟩
  ·exact ⟨o', e.trans g1, g2⟩
  ·have hlt : b < W1.heap.size := Ea (Et.1 g1).1 h4;rcases pJ hp0 e1 e2 with ⟨cs, ty, fr, c1⟩ | ⟨es, cl, c1⟩
   ·rw [hb] at c1;cases c1;obtain ⟨cs', ty', fr', rfl, c2⟩ := g2;obtain ⟨cs2, ty2, fr2, c3, c4⟩ := h8 b _ _ _ g1;exact ⟨_, c3, cs2, ty2, fr2, rfl, c4.trans c2⟩
   ·rw [hb] at c1;cases c1;exact ⟨W1.heap[b], FU hlt, trivial⟩
 ·obtain ⟨g1, g2, g3, g4⟩ := h.ds D hD;exact ⟨(h3 D g4).trans g1, g2, g3, g4⟩
theorem RngI.join {X : Cx} {K0 : Km} {ok0 : Nat → Prop} {w0 : World} {O0 : Objs} {l : Nat} {rec : Loop} {Ds : List Nat} {tmps : Array Value} {E : Env} {O : Objs} {ok F : Nat → Prop} {W : World} {K : Km} {okc : Nat → Prop}
  (h : RngI X K0 ok0 w0 O0 l rec Ds tmps E O ok F W K okc) {K' : Km} {J : St} {OE : Objs} {kp : List Nat} (hF : K'.hid = F) (hp : Hp K' ok W ((2000000, some (.abs J)) :: OE)) (hk : ∀ q, q ∈ kp → q ≠ 2000000 ∧ K q = K' q ∧ K q = K0 q ∧ ∃ o, O0.get q = some o)
  (hn : (OE.map (·.1)).Nodup) (ha : fB OE = true) : Sim X K (fun b => okc b ∨ ok b) W E (dU (kp.map fun q => (q, q)) OE ++ O) { tmps := tmps, defers := [] } ∧ Fr K0 ok0 w0 O0 K (fun b => okc b ∨ ok b) W (dU (kp.map fun q => (q, q)) OE ++ O) := by
 subst hF;have hlk : ∀ q r, lk (kp.map fun q => (q, q)) q = some r → r = q ∧ q ∈ kp := fun q r e => by
  obtain ⟨a, h1, h2⟩ := Ez.1 (fa e);cases h2;exact ⟨rfl, h1⟩
 have hE : ∀ q o, OE.get q = some o → q ≠ 2000000 → Objs.get ((2000000, some (.abs J)) :: OE) q = some o := fun q o e hq => by
  simp only [Objs.get]
  cases hb : Nat.beq 2000000 q with
  | true => exact absurd (DY hb).symm hq
  | false => exact e
 have hobj : ∀ r ob, (dU (kp.map fun q => (q, q)) OE ++ O).get r = some ob → (∃ o, r ∈ kp ∧ Objs.get ((2000000, some (.abs J)) :: OE) r = some o ∧ OE.get r = some o ∧ ob = di (kp.map fun q => (q, q)) o) ∨ O.get r = some ob := fun r ob e => by
  rcases gX e with ⟨q, o, h1, h2, h3⟩ | ⟨_, h2⟩
  ·obtain ⟨rfl, h4⟩ := hlk q r h2;have h5 := jp hn h1;exact .inl ⟨o, h4, hE _ o h5 (hk _ h4).1, h5, h3⟩
  ·exact .inr h2
 have nF : ∀ r o b L, r ∈ kp → Objs.get ((2000000, some (.abs J)) :: OE) r = some o → K r = some (b, L) → ¬ K'.hid b ∧ ¬ ok b ∧ ¬ okc b := fun r o b L h1 h2 h3 => by
  rw [(hk r h1).2.1] at h3;have a1 := hp.how r o b L h2 h3;have a2 := hp.apart r o b L h2 h3;exact ⟨a1, a2, fun h4 => (h.okF b h4).elim a2 a1⟩
 have s : Sim X K (fun b => okc b ∨ ok b) W E O { tmps := tmps, defers := [] } :=
  h.sim.okUp (fun b h => .inl h) (fun b e => e.elim (h.sim.hp.lt b) (hp.lt b)) (fun k o b L h1 h2 e => e.elim (h.sim.hp.apart k o b L h1 h2) (hp.hok b (h.own k o b L h1 h2))) (fun b h1 e => e.elim (h.sim.hp.hok b h1) (hp.hok b (h.hid b h1))) rfl
 refine ⟨⟨s.size, s.defers, s.base, s.rnd, s.old, ⟨fun r ob e => ?_, fun r r' ob ob' b L L' g1 g2 e1 e2 => ?_, fun r ob b L g e => ?_, s.hp.lt, s.hp.hlt, s.hp.hok, fun r ob b L g e hh => ?_⟩, s.env⟩, ⟨h.fr.size, h.fr.keep, fun b hb => .inl (h.fr.okUp b hb), fun b e => ?_, fun r ob b L g e => ?_, h.fr.os, h.fr.tape, h.fr.output, h.fr.kind, h.fr.pin, h.fr.hid⟩⟩
 ·rcases hobj r ob e with ⟨o, h1, h2, h3, rfl⟩ | h1
  ·refine ((hp.obs r o h2).ren (K' := K) (fun k q e => ?_) (hk r h1).2.1 (fun J hJ => ?_)).mono (fun b h => .inr h) (fun _ _ _ => rfl) (D1 _) rfl (fun _ _ _ => rfl) (fun J _ => ⟨rfl, fun _ _ => rfl, rfl, rfl, rfl, CSh.same fun _ _ => rfl⟩) (fun r _ => Shp.refl _ _ _)
   ·obtain ⟨rfl, h4⟩ := hlk k q e;exact (hk _ h4).2.1
   ·subst hJ; exact absurd h3 (f7 ha)
  ·exact s.hp.obs r ob h1
 ·rcases hobj r ob g1 with ⟨o, h1, h2, h3, _⟩ | h1
  ·rcases hobj r' ob' g2 with ⟨o', h1', h2', h3', _⟩ | h1'
   ·rw [(hk r h1).2.1] at e1;rw [(hk r' h1').2.1] at e2;exact hp.inj r r' o o' b L L' h2 h2' e1 e2
   ·exact absurd (h.own r' ob' b L' h1' e2) (nF r o b L h1 h2 e1).1
  ·rcases hobj r' ob' g2 with ⟨o', h1', h2', h3', _⟩ | h1'
   ·exact absurd (h.own r ob b L h1 e1) (nF r' o' b L' h1' h2' e2).1
   ·exact s.hp.inj r r' ob ob' b L L' h1 h1' e1 e2
 ·rcases hobj r ob g with ⟨o, h1, h2, h3, _⟩ | h1
  ·have := nF r o b L h1 h2 e;exact fun e => e.elim this.2.2 this.2.1
  ·exact s.hp.apart r ob b L h1 e
 ·rcases hobj r ob g with ⟨o, h1, h2, h3, _⟩ | h1
  ·exact (nF r o b L h1 h2 e).1 (h.hid b hh)
  ·exact s.hp.how r ob b L h1 e hh
 ·rcases e with e | e
  ·exact h.fr.okNew b e
  ·rcases EQ b w0.heap.size with hb | hb
   ·rcases h.old b hb with g | g | g
    ·exact .inl g
    ·exact absurd e (hp.hok b g)
    ·exact .inr (.inr g)
   ·exact .inr (.inl hb)
 ·rcases hobj r ob g with ⟨o, h1, h2, h3, _⟩ | h1
  ·obtain ⟨_, _, a3, o0, a4⟩ := hk r h1;exact .inr ⟨r, o0, L, a4, a3 ▸ e⟩
  ·exact h.fr.own r ob b L h1 e
theorem Cd {N : Cx} {K : Km} {ok : Nat → Prop} {w : World} {a : Act} (hs : Sim N K ok w E O a) {x : Operand} {f : FuncId} {caps : List PC} (hx : E.ev x = some (.c (.fn f caps))) : ∃ lb : List Value, a.eval x = .func (.func f) #[] lb.toArray ∧ RelAs K ok w (caps.map .c) lb := by
 have hfv := (hs.ev hx).one;generalize hev : a.eval x = v at hfv
 cases hfv with
 | cl h =>
  cases h with
  | fn gg hg =>
   refine ⟨_, rfl, ⟨by simp, fun i x hx => ?_⟩⟩;simp only [Eb, D6] at hx;obtain ⟨y, hy, rfl⟩ := hx;have hlt : i < caps.length := (D2.1 hy).1;exact ⟨gg i, by simp [hlt], .c (.cl (hg i y hy))⟩
 | fn gg hg =>
  refine ⟨_, rfl, ⟨by simp, fun i x hx => ?_⟩⟩;simp only [Eb, D6] at hx;obtain ⟨y, hy, rfl⟩ := hx;have hlt : i < caps.length := (D2.1 hy).1;exact ⟨gg i, by simp [hlt], .c (hg i y hy)⟩
theorem je : ∀ {caps : List PC}, closedL caps = true → az (caps.map A1.c) = true
 | [], _ => rfl
 | x :: l, h => by
  simp only [closedL, D0] at h;simp only [EH, az, D0];exact ⟨h.1, je h.2⟩
def oW (kp : List Nat) (OE : Objs) (Q : PQ) : PQ := fun e E O => Q e E (dU (kp.map fun q => (q, q)) OE ++ O)
theorem W.rangeO (hT : T.ok P) (hm : P.follows .mixedOrders = true) {g : Operand} {ps : List Tmp} {assign body : Code} {Q : PQ} {f : FuncId} {fn : Func} {c0 : Code} {caps : List PC} {items : List (List A1)}
  {σ : List (Nat × Nat)} {OE : Objs} {kp : List Nat} (hg : E.ev g = some (.c (.fn f caps))) (hf : P.funcs[f]? = some fn) (hb : fn.body = some c0) (hnm : (fn.name == "runtime.NumGoroutine") = false) (hit : CtIO P f (bJ σ O σ) ((caps.map .c).map (fL σ)) items OE)
  (hσi : ma σ = true) (hσ0 : (σ.all fun p => !(Nat.beq p.2 2000000)) = true) (hσa : bi σ O = false) (hkp : (kp.all fun q => eqO (lk σ q) q && wY (O.get q)) = true) (hOE : (iZ (OE.map (·.1)) && fB OE) = true)
  (hlen : ∀ args, args ∈ items → args.length = ps.length ∧ az args = true) (fz : List Nat) (hps : (iZ ps && ps.all fun t => Nat.blt t N.n && !(bw t fz)) = true)
  {G : Type} (inv : Nat → G → Prop) (sE : Nat → G → List (Nat × AV)) (sO : Nat → G → List (Nat × Ob)) (g0 : G) (h0 : inv 0 g0) (hE : bZ E (sE 0 g0)) (hO : bh (O.delL (σ.map (·.1))) (sO 0 g0)) (hfz : ∀ i g p, p ∈ sE i g → bw p.1 fz = true)
  (round : ∀ i g args, items[i]? = some args → inv i g → bK P T ⟨N.n, fz⟩ assign (kc ps args ++ cV (sE i g)) (bY (sO i g)) (fW (fun E1 O1 => bK P T ⟨N.n, fz⟩ body E1 O1 (tA fz (oW kp OE Q) (fun E' O' => ∃ g', inv (i + 1) g' ∧ bZ E' (sE (i + 1) g') ∧ bh O' (sO (i + 1) g')))) (fun _ _ _ => False)))
  (after : ∀ g, inv items.length g → oW kp OE Q .normal (cV (sE items.length g)) (bY (sO items.length g))) : W P N E O (.rangeFunc g ps.toArray assign body) Q := by
 intro R B old K ok w a hs;simp only [D0, EU, Fl] at hps;have hpn := cJ hps.1;have hpl : ∀ t, t ∈ ps → t < a.tmps.size := fun t ht => by
  rw [hs.size];exact Ea (GD _) (Ek (hps.2 t ht).1)
 have hpf : ∀ t, bw t fz = true → t ∉ ps := fun t ht hin => by have := (hps.2 t hin).2; rw [ht] at this; cases this
 obtain ⟨lb, hgv, hlb⟩ := Cd hs hg;refine wpIn_rangeFunc ?_;intro fnid _;have main : ∀ (l : Nat) (Ds : List Nat) (W1 : World) (dd : Nat), (Instr.enterLoop fnid a.tmps ps.toArray assign body R).run P w = .ok (l, Ds.map kO) W1 →
   W1.heap[l]? = some (.loop { state := .ready, pending := none, fn := fnid, tmps := a.tmps, params := ps.toArray, assign := assign, body := body, defers := dd }) → Ds.Nodup → (∀ D, D ∈ Ds → W1.heap[D]? = some (.deferred (some [])) ∧ w.heap.size ≤ D) →
   w.heap.size ≤ l → (∀ b, b < w.heap.size → W1.heap[b]? = w.heap[b]?) → w.heap.size ≤ W1.heap.size → W1.os = w.os → W1.tape = w.tape → W1.output = w.output →
   ∃ (l : Nat) (mk : List Deferred) (w₁ : World) (d : Deferred) (w₁' : World) (f : FuncId) (args : Array Value) (w₂ : World), (Instr.enterLoop fnid a.tmps ps.toArray assign body (FR R).round).run P w = .ok (l, mk) w₁ ∧ (resolve a.eval (rangeCall g l) 0).run P w₁ = .ok d w₁' ∧
    (∀ f', Target.leads P w₁' d.target d.args = some f' → (FR R).fn f') ∧ (invoke d.target d.args).run P w₁' = .ok (.enter f args) w₂ ∧ ((FR R).depth.isSome = true → 1 ≤ 0) ∧
    CallsIn (FR R) (0 - 1) P f args w₂ (rangePost (FR R) 0 P l (Post ⟨N, R, B, old⟩ K ok w O Q) { a with defers := mk ++ a.defers }) := by
  intro l Ds W1 dd he hl hnd hDs hlw hsame hsz z1 z2 z3;obtain ⟨rec, hrec⟩ : ∃ rec : LoopState → Option Code → Loop, rec = fun st pe => { state := st, pending := pe, fn := fnid, tmps := a.tmps, params := ps.toArray, assign := assign, body := body, defers := dd } := ⟨_, rfl⟩
  have hl1 : W1.heap[l]? = some (.loop (rec .ready none)) := by rw [hrec]; exact hl
  let X1 : Cx := ⟨⟨N.n, fz⟩, some l, 0, a.tmps⟩
  let lent : Nat → Prop := fun b => ∃ k q o L, (k, q) ∈ σ ∧ O.get k = some o ∧ K k = some (b, L)
  let F0 : Nat → Prop := fun b => b < W1.heap.size ∧ ¬ ok b ∧ ¬ lent b
  let yv : Value := .func (.yield l) #[] #[]
  let I : Nat → St := fun i ok' F W => ∃ (g : G) (K' : Km) (okc : Nat → Prop), inv i g ∧ RngI X1 K ok w O l (rec .ready none) Ds a.tmps (cV (sE i g)) (bY (sO i g)) ok' F W K' okc
  let Xs : St := fun ok' F W => ∃ (c : Code) (lE : List (Nat × AV)) (lO : List (Nat × Ob)) (K' : Km) (okc : Nat → Prop), BG (oW kp OE Q) c (cV lE) (bY lO) ∧ RngI X1 K ok w O l (rec .done (some c)) Ds a.tmps (cV lE) (bY lO) ok' F W K' okc
  have hlt1 := (Et.1 hl1).1
  -- the state when the loop is entered
  have hp1 : Hp K ok W1 O := hs.hp.over hsz hsame (fun _ h => h) (fun _ h => .inl h) (fun b h => Ea (hs.hp.lt b h) hsz) ⟨z1, z2, z3⟩;have hfr1 : Fr K ok w O K ok W1 O := ⟨hsz, fun b hb _ _ => hsame b hb, fun _ h => h, fun _ h => .inl h, fun k o b L h1 h2 => .inr ⟨k, o, L, h1, h2⟩, z1, z2, z3, kN hsame, fun _ _ => rfl, fun _ h => .inl h⟩;have hsh : ∀ r, Shp K K w W1 r := fun r => ⟨rfl, fun b _ _ cs e fr h => CSh.same hsame b cs e fr h⟩
  have hsubD : SubO (bY (sO 0 g0)) (O.delL (σ.map (·.1))) := SubO.of hO;have hsub : SubO (bY (sO 0 g0)) O := fun k o h => (Objs.delL_get (hsubD k o h)).2
  have lent_lt : ∀ b, lent b → b < w.heap.size := fun b ⟨k, q, o, L, _, e2, e3⟩ => cY hs.hp e2 e3
  have hI0 : I 0 ok F0 W1 := by
   refine ⟨g0, K, ok, h0, ⟨⟨hs.size, ⟨[], rfl, F2, fun D hD => by simp at hD⟩, FV _, fun l' hl' => ?_, fun t _ => rfl, hp1.sub hsub, fun t av h => ?_⟩, hfr1.trans (Fr.weak hsub), hl1, hlw, ⟨fun h => ?_, fun h => ?_⟩, fun D hD => ⟨(hDs D hD).1, (hDs D hD).2, ⟨fun h => ?_, fun h => ?_⟩, (Et.1 (hDs D hD).1).1, fun h => ?_, fun h => ?_⟩,
    fun b h => .inl h, fun k o b L h1 h2 => ⟨cY hp1 (hsub _ _ h1) h2, hs.hp.apart k o b L (hsub _ _ h1) h2, fun ⟨k', q, o', L', e1, e2, e3⟩ => (Objs.delL_get (hsubD _ _ h1)).1 (by have := hs.hp.inj k' k o' o b L' L e2 (hsub _ _ h1) e3 h2; rw [← this]; exact Ez.2 ⟨_, e1, rfl⟩)⟩,
    fun b h => ⟨hp1.hlt b h, hs.hp.hok b h, fun ⟨k', q, o', L', e1, e2, e3⟩ => hs.hp.how k' o' b L' e2 e3 h⟩, ⟨hlt1, fun h => ?_, fun h => ?_⟩, fun b h => ?_, fun _ h => h⟩⟩
   ·cases hl'; exact ⟨_, hl1⟩
   ·obtain ⟨v, hv, hr⟩ := hs.env t av (Sub.of hE t av h);exact ⟨v, hv, hr.mono (fun _ h => h) (fun b _ hb => hsame b hb) hsz fun r _ => hsh r⟩
   ·have := hs.hp.lt l h; omega
   ·have := hs.hp.hlt l h; omega
   ·have := hs.hp.lt D h; have := (hDs D hD).2; omega
   ·have := hs.hp.hlt D h; have := (hDs D hD).2; omega
   ·have := hs.hp.lt D h; have := (hDs D hD).2; omega
   ·have := lent_lt D h; have := (hDs D hD).2; omega
   ·have := hs.hp.lt l h; omega
   ·have := lent_lt l h; omega
   ·by_cases hb : ok b
    ·exact .inl hb
    ·by_cases hl : lent b
     ·obtain ⟨k', q, o', L', e1, e2, e3⟩ := hl;exact .inr (.inr ⟨k', o', L', e2, e3⟩)
     ·exact .inr (.inl ⟨Ea h hsz, hb, hl⟩)
  have hY : Yields P yv items I Xs := by
   refine ⟨fun i ok' ok1 F W W1 h h1 h2 h3 h4 h5 h6 h7 h8 => ?_, fun ok' ok1 F W W1 h h1 h2 h3 h4 h5 h6 h7 h8 => ?_, ?_⟩
   ·obtain ⟨g, K', okc, a1, a2⟩ := h;exact ⟨g, K', okc, a1, a2.stable h1 h2 h3 h4 h5 h6 h7 h8 rfl hs.hp⟩
   ·obtain ⟨c, lE, lO, K', okc, a1, a2⟩ := h;exact ⟨c, lE, lO, K', okc, a1, a2.stable h1 h2 h3 h4 h5 h6 h7 h8 rfl hs.hp⟩
   ·intro i args hi ok' F W Ki vs hI hok hFok hFlt hrel;obtain ⟨g, K', okc, hinv, hr⟩ := hI;obtain ⟨hal, hac⟩ := hlen args (Ex hi);have hrel' : RelAs K' ok' W args vs := hrel.reK hac;have hvl : vs.length = ps.length := by rw [hrel.len, hal]
    refine ⟨l, fnid, ke ps vs a.tmps, assign, body, rfl, ?_, ?_⟩
    ·have := run_yield (P := P) (args := vs.toArray) hr.rec_ (by rw [hrec]; simpa using hvl);rw [hrec] at this;rw [this, ← yl]
    -- the round's state
    have hokm : ∀ k o b L, (bY (sO i g)).get k = some o → K' k = some (b, L) → ¬ (okc b ∨ ok' b) := fun k o b L h1 h2 h => by
     rcases h with h | h
     ·exact hr.sim.hp.apart k o b L h1 h2 h
     ·exact hFok b (hr.own k o b L h1 h2) h
    have hsm : Sim X1 K' (fun b => okc b ∨ ok' b) W (cV (sE i g)) (bY (sO i g)) { tmps := a.tmps, defers := [] } :=
     hr.sim.okUp (fun b h => .inl h) (fun b h => h.elim (hr.sim.hp.lt b) (hok b)) hokm (fun b h h' => h'.elim (hr.sim.hp.hok b h) (hFok b (hr.hid b h))) rfl
    have hsr : Sim X1 K' (fun b => okc b ∨ ok' b) W (kc ps args ++ cV (sE i g)) (bY (sO i g)) { tmps := ke ps vs a.tmps, defers := [] } := by
     refine ⟨by show (ke ps vs a.tmps).size = _; rw [oV]; exact hsm.size, ⟨[], rfl, F2, fun D hD => by simp at hD⟩, FV _, hsm.rnd, fun t ht => gA (hpf t (ix ht)), hsm.hp, fun t av h => ?_⟩;rcases rv h with h | h
     ·exact rx hpn hpl (hrel'.mono (fun b h => .inr h) (fun _ _ _ => rfl) (D1 _) fun r _ => Shp.refl _ _ _) h
     ·obtain ⟨p, hp, hpt⟩ := nt h;obtain ⟨v, hv, hrv⟩ := hsm.env t av h;exact ⟨v, (gA (hpf t (by rw [← hpt]; exact hfz i g p hp))).trans hv, hrv⟩
    have hfree1 : yk K' (fun b => okc b ∨ ok' b) l := ⟨fun h => h.elim hr.free.1 fun h => hFok l hr.lF h, hr.free.2⟩;refine roundIn_of_wpIn (F := Fence.wide) trivial (wpIn_mono (aI hT hm assign _ _ _ (round i g args hi hinv) (some l) 0 a.tmps K' _ W _ hsr) fun e a1 w1 hp => ?_);obtain ⟨E1, O1, K1, ok1, hq, hs1, hf1⟩ := hp
    cases e with
    | normal =>
     have hfl := hf1.free (Et.1 hr.rec_).1 (gM hsr.hp hr.rec_) hfree1.1 hfree1.2;have hl2 : w1.heap[l]? = some (.loop (rec .ready none)) := hfl.1.trans hr.rec_;refine ⟨_, run_beginRound hl2 (by rw [hrec]), ?_⟩;have hl3 : (w1.putObj l (.loop { rec .ready none with state := .busy })).heap[l]? = some (.loop { rec .ready none with state := .busy }) := World.putObj_heap_same (Et.1 hl2).1;have hs2 := hs1.putLoop hl2 ⟨hfl.2.1, hfl.2.2⟩ { rec .ready none with state := .busy };refine wpIn_mono (aI hT hm body _ _ _ hq (some l) 0 a.tmps K1 ok1 _ a1 hs2) fun e a2 w2 hp => ?_
     obtain ⟨E2, O2, K2, ok2, hq2, hs3, hf2⟩ := hp;have hfl2 := hf2.free (Et.1 hl3).1 (gM hs2.hp hl3) hfl.2.1 hfl.2.2;have hl4 : w2.heap[l]? = some (.loop { rec .ready none with state := .busy }) := hfl2.1.trans hl3
     -- what the round has changed
     have hok'0 : ∀ b, ok' b → ok b ∨ w.heap.size ≤ b ∨ ∃ k o L, O.get k = some o ∧ K k = some (b, L) := fun b h => by
      rcases EQ b w.heap.size with hb | hb
      ·rcases hr.old b hb with g | g | g
       ·exact .inl g
       ·exact absurd h (hFok b g)
       ·exact .inr (.inr g)
      ·exact .inr (.inl hb)
     have fin : ∀ (jump : Option Code) (lE : List (Nat × AV)) (lO : List (Nat × Ob)), bZ E2 lE → bh O2 lO → (∀ p, p ∈ lE → bw p.1 fz = true) →
       ∃ v w', (Instr.endRound l jump).run P w2 = .ok v w' ∧ v = .bool jump.isNone ∧ FrY F W (fun b => F b ∨ (W.heap.size ≤ b ∧ b < w'.heap.size)) w' ∧
        RngI X1 K ok w O l (rec (if jump.isNone then .ready else .done) jump) Ds a.tmps (cV lE) (bY lO) ok' (fun b => F b ∨ (W.heap.size ≤ b ∧ b < w'.heap.size)) w' K2 ok2 := by
      intro jump lE lO gE gO gz;have hsW : W.heap.size ≤ w2.heap.size := D4 hf1.size (by have := hf2.size; simpa using this);have hend := run_endRound (P := P) jump hl4;refine ⟨_, _, hend, rfl, ?_⟩;have hrr : ({ { rec .ready none with state := .busy } with state := if jump.isNone then .ready else .done, pending := jump } : Loop) = rec (if jump.isNone then .ready else .done) jump := by rw [hrec]
      rw [hrr];have hlt4 := (Et.1 hl4).1
      -- blocks that stay
      have vl : ∀ k o b L, (bY (sO i g)).get k = some o → K' k = some (b, L) → F b := hr.own;have own1 : ∀ k o b L, O1.get k = some o → K1 k = some (b, L) → W.heap.size ≤ b ∨ F b := fun k o b L h1 h2 => by
       rcases hf1.own k o b L h1 h2 with h | ⟨k0, o0, L0, h3, h4⟩
       ·exact .inl h
       ·exact .inr (hr.own k0 o0 b L0 h3 h4)
      have hid1 : ∀ b, K1.hid b → F b ∨ W.heap.size ≤ b := fun b h => (hf1.hid b h).imp_left (hr.hid b)
      have ok1F : ∀ b, ok1 b → ok' b ∨ F b ∨ W.heap.size ≤ b := fun b h => by
       rcases hf1.okNew b h with (h | h) | h | ⟨k, o, L, h1, h2⟩
       ·exact (hr.okF b h).imp_right .inl
       ·exact .inl h
       ·exact .inr (.inr h)
       ·exact .inr (.inl (hr.own k o b L h1 h2))
      have own2 : ∀ k o b L, O2.get k = some o → K2 k = some (b, L) → F b ∨ W.heap.size ≤ b := fun k o b L h1 h2 => by
       rcases hf2.own k o b L h1 h2 with h | ⟨k0, o0, L0, h3, h4⟩
       ·exact .inr (D4 hf1.size (by simpa using h))
       ·exact (own1 k0 o0 b L0 h3 h4).symm
      have hid2 : ∀ b, K2.hid b → F b ∨ W.heap.size ≤ b := fun b h => by
       rcases hf2.hid b h with h | h
       ·exact hid1 b h
       ·exact .inr (D4 hf1.size (by simpa using h))
      have ok2F : ∀ b, ok2 b → ok' b ∨ F b ∨ W.heap.size ≤ b := fun b h => by
       rcases hf2.okNew b h with h | h | ⟨k, o, L, h1, h2⟩
       ·exact ok1F b h
       ·exact .inr (.inr (D4 hf1.size (by simpa using h)))
       ·rcases own1 k o b L h1 h2 with h | h
        ·exact .inr (.inr h)
        ·exact .inr (.inl h)
      have keep1 : ∀ b, b < W.heap.size → ¬ F b → w1.heap[b]? = W.heap[b]? := fun b hb hF => hf1.keep b hb (fun k o L h1 h2 => hF (hr.own k o b L h1 h2)) fun h => hF (hr.hid b h)
      have keep2 : ∀ b, b < W.heap.size → ¬ F b → w2.heap[b]? = W.heap[b]? := fun b hb hF => by
       have hbl : b ≠ l := fun e => hF (by rw [e]; exact hr.lF)
       rw [hf2.keep b (by have := hf1.size; simp; omega) (fun k o L h1 h2 => ?_) (fun h => ?_), World.putObj_heap_other hbl, keep1 b hb hF]
       ·rcases own1 k o b L h1 h2 with h | h
        ·omega
        ·exact hF h
       ·rcases hid1 b h with h | h
        ·exact hF h
        ·omega
      have kind4 : ∀ (b : Nat) (o : Obj), W.heap[b]? = some o → ∃ o', (w2.putObj l (.loop (rec (if jump.isNone then .ready else .done) jump))).heap[b]? = some o' ∧ SK o o' := fun b o hb => by
       obtain ⟨o1, h1, h2⟩ := hf1.kind b o hb;obtain ⟨o2, h3, h4⟩ := gy (r' := { rec .ready none with state := .busy }) hl2 b o1 h1;obtain ⟨o3, h5, h6⟩ := hf2.kind b o2 h3;obtain ⟨o4, h7, h8⟩ := gy (r' := rec (if jump.isNone then .ready else .done) jump) hl4 b o3 h5;exact ⟨o4, h7, h2.trans (h4.trans (h6.trans h8))⟩
      refine ⟨⟨by simpa using hsW, fun b hb hF => ?_, fun b h => h.imp_right (·.1), fun b h => ?_, hf2.os.trans hf1.os, hf2.tape.trans hf1.tape, hf2.output.trans hf1.output, kind4⟩, ?_⟩
      ·rw [World.putObj_heap_other (fun e => hF (by rw [e]; exact hr.lF))]; exact keep2 b hb hF
      ·rcases h with h | h
       ·exact Ea (hFlt b h) (by simpa using hsW)
       ·exact h.2
      have hs4 := (hs3.weak (Sub.of gE) (SubO.of gO)).putLoop hl4 ⟨hfl2.2.1, hfl2.2.2⟩ (rec (if jump.isNone then .ready else .done) jump);have hnewF : ∀ b, F b ∨ W.heap.size ≤ b → b < w2.heap.size → F b ∨ (W.heap.size ≤ b ∧ b < (w2.putObj l (.loop (rec (if jump.isNone then .ready else .done) jump))).heap.size) := fun b h hlt => h.imp_right fun h => ⟨h, by simpa using hlt⟩
      refine ⟨⟨hs3.size.symm ▸ hs.size, ⟨[], rfl, F2, fun D hD => by simp at hD⟩, FV _, hs4.rnd, fun t _ => rfl, hs4.hp, fun t av h => ?_⟩, ?_, World.putObj_heap_same hlt4, hr.new, ⟨hfl2.2.1, hfl2.2.2⟩, fun D hD => ?_, fun b h => ?_, fun k o b L h1 h2 => ?_, fun b h => ?_, .inl hr.lF, fun b h => (hr.old b h).imp_right (Or.imp_left .inl), hr.up⟩
      ·-- slots that the loop began with
       obtain ⟨v, hv, hrv⟩ := hs4.env t av h;obtain ⟨p, hp, hpt⟩ := nt h;have hz := gz p hp;have h1 := hs3.old t (fZ (by rw [← hpt]; exact hz));exact ⟨v, by rw [← h1]; exact hv, hrv⟩
      ·-- from the loop's beginning
       have nown1 : ∀ b, (∀ k o L, O.get k = some o → K k ≠ some (b, L)) → b < w.heap.size → ∀ k o L, (bY (sO i g)).get k = some o → K' k ≠ some (b, L) := fun b g1 hb k o L h1 h2 => by
        rcases hr.fr.own k o b L h1 h2 with h | ⟨k0, o0, L0, h3, h4⟩
        ·omega
        ·exact g1 k0 o0 L0 h3 h4
       have nhid1 : ∀ b, ¬ K.hid b → b < w.heap.size → ¬ K'.hid b := fun b g2 hb h => by
        rcases hr.fr.hid b h with h | h
        ·exact g2 h
        ·omega
       have hww : w.heap.size ≤ W.heap.size := hr.fr.size;have hw1 : W.heap.size ≤ w1.heap.size := hf1.size;have nown2 : ∀ b, (∀ k o L, O.get k = some o → K k ≠ some (b, L)) → b < w.heap.size → ∀ k o L, O1.get k = some o → K1 k ≠ some (b, L) := fun b g1 hb k o L h1 h2 => by
        rcases hf1.own k o b L h1 h2 with h | ⟨k0, o0, L0, h3, h4⟩
        ·omega
        ·exact nown1 b g1 hb k0 o0 L0 h3 h4
       have nhid2 : ∀ b, ¬ K.hid b → b < w.heap.size → ¬ K1.hid b := fun b g2 hb h => by
        rcases hf1.hid b h with h | h
        ·exact nhid1 b g2 hb h
        ·omega
       have own0 : ∀ b, (∃ k o L, (bY (sO i g)).get k = some o ∧ K' k = some (b, L)) → w.heap.size ≤ b ∨ ∃ k o L, O.get k = some o ∧ K k = some (b, L) := fun b ⟨k, o, L, h1, h2⟩ => hr.fr.own k o b L h1 h2
       have own01 : ∀ b, (∃ k o L, O1.get k = some o ∧ K1 k = some (b, L)) → w.heap.size ≤ b ∨ ∃ k o L, O.get k = some o ∧ K k = some (b, L) := fun b ⟨k, o, L, h1, h2⟩ => by
        rcases hf1.own k o b L h1 h2 with h | h
        ·exact .inl (by omega)
        ·exact own0 b h
       refine ⟨D4 hr.fr.size (by simpa using hsW), fun b hb g1 g2 => ?_, fun b h => hf2.okUp b (hf1.okUp b (.inl (hr.fr.okUp b h))), fun b h => ?_, fun k o b L g1 g2 => ?_, (hf2.os.trans hf1.os).trans hr.fr.os, (hf2.tape.trans hf1.tape).trans hr.fr.tape, (hf2.output.trans hf1.output).trans hr.fr.output, fun b o hb => ?_, fun r hr' => (hf2.pin r hr').trans ((hf1.pin r hr').trans (hr.fr.pin r hr')), fun b h => ?_⟩
       ·have hbl : b ≠ l := by omega
        rw [World.putObj_heap_other hbl, hf2.keep b (by simp; omega) (nown2 b g1 hb) (nhid2 b g2 hb), World.putObj_heap_other hbl, hf1.keep b (by omega) (nown1 b g1 hb) (nhid1 b g2 hb), hr.fr.keep b hb g1 g2]
       ·rcases hf2.okNew b h with h | h | h
        ·rcases hf1.okNew b h with (h | h) | h | h
         ·exact hr.fr.okNew b h
         ·exact hok'0 b h
         ·exact .inr (.inl (by omega))
         ·exact .inr (own0 b h)
        ·exact .inr (.inl (by simp at h; omega))
        ·exact .inr (own01 b h)
       ·rcases hf2.own k o b L (SubO.of gO k o g1) g2 with h | h
        ·exact .inl (by simp at h; omega)
        ·exact own01 b h
       ·obtain ⟨o1, h1, h2⟩ := hr.fr.kind b o hb;obtain ⟨o2, h3, h4⟩ := kind4 b o1 h1;exact ⟨o2, h3, h2.trans h4⟩
       ·rcases hf2.hid b h with h | h
        ·rcases hf1.hid b h with h | h
         ·exact hr.fr.hid b h
         ·exact .inr (by omega)
        ·exact .inr (by simp at h; omega)
      ·-- the marks
       obtain ⟨d1, d2, d3, d4⟩ := hr.ds D hD;have hDl : D ≠ l := by rintro rfl; rw [hr.rec_] at d1; cases d1
       have f1 := hf1.free (Et.1 d1).1 (gn hsr.hp d1) (fun h => h.elim d3.1 (hFok D d4)) d3.2;have e1 : (w1.putObj l (.loop { rec .ready none with state := .busy })).heap[D]? = some (.deferred (some [])) := by rw [World.putObj_heap_other hDl, f1.1, d1]
       have f2 := hf2.free (Et.1 e1).1 (gn hs2.hp e1) f1.2.1 f1.2.2;exact ⟨by rw [World.putObj_heap_other hDl, f2.1, e1], d2, f2.2, .inl d4⟩
      ·rcases ok2F b h with h1 | h1
       ·exact .inl h1
       ·exact .inr (hnewF b h1 (hs3.hp.lt b h))
      ·have := own2 k o b L (SubO.of gO k o h1) h2;exact hnewF b this (cY hs3.hp (SubO.of gO k o h1) h2)
      ·exact hnewF b (hid2 b h) (hs3.hp.hlt b h)
     -- how the round ends
     have leave : ∀ (c : Code) (lE : List (Nat × AV)) (lO : List (Nat × Ob)), bZ E2 lE → bh O2 lO → (∀ p, p ∈ lE → bw p.1 fz = true) → BG (oW kp OE Q) c (cV lE) (bY lO) →
       ∃ v w', (Instr.endRound l (some c)).run P w2 = .ok v w' ∧ ∃ b F', Ending.returned v = .returned (.bool b) ∧ FrY F W F' w' ∧ (b = true → I (i + 1) ok' F' w') ∧ (b = false → Xs ok' F' w') := by
      intro c lE lO g1 g2 g3 g4;obtain ⟨v, w', h1, rfl, h3, h4⟩ := fin (some c) lE lO g1 g2 g3;exact ⟨_, w', h1, false, _, rfl, h3, (fun h => by cases h), fun _ => ⟨c, lE, lO, K2, ok2, g4, h4⟩⟩
     cases e with
     | normal =>
      obtain ⟨g', q1, q2, q3⟩ := hq2;obtain ⟨v, w', h1, rfl, h3, h4⟩ := fin none (sE (i + 1) g') (sO (i + 1) g') q2 q3 (fun p hp => hfz _ _ p hp);exact ⟨_, w', h1, true, _, rfl, h3, fun _ => ⟨g', K2, ok2, q1, h4⟩, fun h => by cases h⟩
     | ret => obtain ⟨lE, lO, q1, q2, q3, q4⟩ := hq2; exact leave .ret lE lO q1 q2 q3 q4
     | exit j => obtain ⟨lE, lO, q1, q2, q3, q4⟩ := hq2; exact leave (.exit j) lE lO q1 q2 q3 q4
     | goto j => obtain ⟨lE, lO, q1, q2, q3, q4⟩ := hq2; exact leave (.goto j) lE lO q1 q2 q3 q4
     | panic _ => exact hq2.elim
     | outgrown => exact hq2.elim
    | _ => exact hq.elim
  have hfn : f0 P f = true := by simp [f0, hf, hb, hnm]
  simp only [ma, D0, EU] at hσi;obtain ⟨i1, i2, i3⟩ := hσi;replace i1 := cJ i1;replace i2 := cJ i2
  let KI : Km := ⟨fun q => (lk (c8 σ) q).bind fun k => K k, F0⟩
  have hKI : ∀ k q, (k, q) ∈ σ → KI q = K k := fun k q h => by
   have : lk (c8 σ) q = some k := fb (by rw [nh]; exact i2) (swap_mem.2 h);show (lk (c8 σ) q).bind _ = _
   rw [this]; rfl
  have hσ : ∀ k q, lk σ k = some q → KI q = K k := fun k q h => hKI k q (fa h)
  have h2m : ∀ k q, (k, q) ∈ σ → q ≠ 2000000 := fun k q h e => by
   have := EU.1 hσ0 _ h;subst e;simp at this
  have hK20 : KI 2000000 = none := by
   show (lk (c8 σ) 2000000).bind _ = _
   cases hl : lk (c8 σ) 2000000 with
   | none => rfl
   | some k => exact absurd rfl (h2m k _ (swap_mem.1 (fa hl)))
  have hcs : ∀ k o, Objs.get ((2000000, some (Ob.abs (I 0))) :: bJ σ O σ) k = some o → (k = 2000000 ∧ o = .abs (I 0)) ∨ (bJ σ O σ).get k = some o := fun k o h => by
   simp only [Objs.get] at h
   cases hb : Nat.beq 2000000 k with
   | true => rw [hb] at h; cases h; exact .inl ⟨(DY hb).symm, rfl⟩
   | false => rw [hb] at h; exact .inr h
  have hown : ∀ k o b L, Objs.get ((2000000, some (Ob.abs (I 0))) :: bJ σ O σ) k = some o → KI k = some (b, L) → ∃ k' p, (k', k) ∈ σ ∧ O.get k' = some p ∧ K k' = some (b, L) := fun k o b L h e => by
   rcases hcs k o h with ⟨rfl, _⟩ | h
   ·rw [hK20] at e; cases e
   ·obtain ⟨k', p, g1, g2, _⟩ := df h;rw [hKI k' k g1] at e;exact ⟨k', p, g1, g2, e⟩
  have hp0 : Hp KI ok W1 ((2000000, some (.abs (I 0))) :: bJ σ O σ) := by
   refine ⟨fun k o h => ?_, fun k k' o o' b L L' h1 h2 e1 e2 => ?_, fun k o b L h e => ?_, hp1.lt, fun b h => h.1, fun b h => h.2.1, fun k o b L h e hh => ?_⟩
   ·rcases hcs k o h with ⟨rfl, rfl⟩ | h
    ·exact ⟨hK20, hY.st 0, hI0⟩
    ·obtain ⟨k', p, g1, g2, rfl⟩ := df h;refine (hp1.obs k' p g2).ren hσ (hKI k' k g1) fun J hJ => ?_
     subst hJ;have : bi σ O = true := Fk.2 ⟨_, g1, by simp [g2, ni]⟩;rw [hσa] at this; cases this
   ·obtain ⟨a1, p, g1, g2, g3⟩ := hown k o b L h1 e1;obtain ⟨a2, p', g1', g2', g3'⟩ := hown k' o' b L' h2 e2;have := hs.hp.inj a1 a2 p p' b L L' g2 g2' g3 g3';subst this;have b1 := fb i1 g1;have b2 := fb i1 g1';rw [b1] at b2;cases b2; rfl
   ·obtain ⟨a1, p, g1, g2, g3⟩ := hown k o b L h e;exact hs.hp.apart a1 p b L g2 g3
   ·obtain ⟨a1, p, g1, g2, g3⟩ := hown k o b L h e;exact hh.2.2 ⟨a1, k, p, L, g1, g2, g3⟩
  have hlb1 : RelAs KI ok W1 ((caps.map .c).map (fL σ)) lb :=
   k5 (fun x v => gV hσ) (hlb.mono (fun _ h => h) (fun b _ hb => hsame b hb) hsz fun r _ => hsh r)
  have hrun := (hit yv I Xs rfl hY).run _ ok W1 (yv :: lb) hp0 (RelAs.cons (.c (.cl (.cb rfl))) hlb1);have harr : (#[yv] ++ lb.toArray : Array Value) = (yv :: lb).toArray := by apply F4; simp
  refine ⟨l, Ds.map kO, W1, { target := .fn (.func f) lb.toArray, args := #[yv] }, W1, f, (yv :: lb).toArray, W1, he, ?_, fun _ _ => trivial, ?_, fun h => (by cases h), ?_⟩
  ·simp only [resolve, hgv];simp [go_sem, yv]
  ·rw [← harr];simp [invoke, exec_call hfn]
  ·refine (qH R _).2 ?_;rcases hrun with ⟨_, hrun⟩ | ⟨v, w', h, _⟩
   ·refine hrun.mono fun e w' hh => ?_
    obtain ⟨v, K', ok', rfl, _, hpE, hfE⟩ := hh;obtain ⟨_, _, hJ⟩ := hpE.obs 2000000 (.abs fun ok F w => I items.length ok F w ∨ Xs ok F w) rfl;have hkq : ∀ K2 : Km, (∀ r, PIN ≤ r → K2 r = K r) → ∀ q, q ∈ kp → q ≠ 2000000 ∧ K2 q = K' q ∧ K2 q = K q ∧ ∃ o, O.get q = some o := fun K2 hpin q hq => by
     have := EU.1 hkp q hq;rw [D0] at this;have hm : (q, q) ∈ σ := by
      cases hl : lk σ q with
      | none => rw [hl] at this; cases this.1
      | some r =>
       rw [hl] at this;have e := DY (show Nat.beq r q = true from this.1);subst e;exact fa hl
     have hge : PIN ≤ q := Ek (i3 _ hm);refine ⟨h2m q q hm, ?_, hpin q hge, ?_⟩
     ·rw [hpin q hge, ← hKI q q hm]; exact (hfE.pin q hge).symm
     ·cases ho : O.get q with
      | none => rw [ho] at this; cases this.2
      | some o => exact ⟨o, rfl⟩
    rw [D0] at hOE
    -- the state behind the loop
    have out : ∀ (st : LoopState) (pe : Option Code) (lE : List (Nat × AV)) (lO : List (Nat × Ob)) (K2 : Km) (okc : Nat → Prop), RngI X1 K ok w O l (rec st pe) Ds a.tmps (cV lE) (bY lO) ok' K'.hid w' K2 okc → st ≠ .busy →
      ∃ w4, (Instr.endLoop l).run P w' = .ok pe w4 ∧ Sim ⟨N, R, B, old⟩ K2 (fun b => okc b ∨ ok' b) w4 (cV lE) (dU (kp.map fun q => (q, q)) OE ++ bY lO) { a with defers := Ds.map kO ++ a.defers } ∧ Fr K ok w O K2 (fun b => okc b ∨ ok' b) w4 (dU (kp.map fun q => (q, q)) OE ++ bY lO) := by
     intro st pe lE lO K2 okc hr hst;have hend : (Instr.endLoop l).run P w' = .ok pe (w'.putObj l (.loop { rec st pe with state := .exhausted })) := by
      have h := run_endLoop (P := P) hr.rec_ (by rw [hrec]; exact hst);subst hrec;exact h
     refine ⟨_, hend, ?_⟩;obtain ⟨hsj, hfj⟩ := hr.join rfl hpE (hkq K2 hr.fr.pin) (cJ hOE.1) hOE.2;have hfree : yk K2 (fun b => okc b ∨ ok' b) l := ⟨fun h => h.elim hr.free.1 (hpE.hok l hr.lF), hr.free.2⟩;have hs4 := hsj.putLoop hr.rec_ hfree { rec st pe with state := .exhausted };have hfr4 : Fr K ok w O K2 (fun b => okc b ∨ ok' b) (w'.putObj l (.loop { rec st pe with state := .exhausted })) (dU (kp.map fun q => (q, q)) OE ++ bY lO) :=
      ⟨by simpa using hfj.size, fun b hb g1 g2 => by rw [World.putObj_heap_other (by have := hr.new; omega)]; exact hfj.keep b hb g1 g2, hfj.okUp, hfj.okNew, hfj.own, hfj.os, hfj.tape, hfj.output, fun b o hb => by
       obtain ⟨o1, h1, h2⟩ := hfj.kind b o hb;obtain ⟨o2, h3, h4⟩ := gy (r' := { rec st pe with state := .exhausted }) hr.rec_ b o1 h1;exact ⟨o2, h3, h2.trans h4⟩, hfj.pin, hfj.hid⟩
     refine ⟨⟨hs.size, ?_, D4 hs.base hfr4.size, hs.rnd' hfr4, hs.old, hs4.hp, hs4.env⟩, hfr4⟩;obtain ⟨Ds0, d1, d2, d3⟩ := hs.defers' hfr4;obtain ⟨Ds1, e1, e2, e3⟩ := hs.defers;have hDe : Ds0 = Ds1 := by
      have : Ds0.map kO = Ds1.map kO := d1.symm.trans e1;have inj : ∀ {l m : List Nat}, l.map kO = m.map kO → l = m := by
       intro l
       induction l with
       | nil => intro m h; cases m with
        | nil => rfl
        | cons _ _ => cases h
       | cons x l ih =>
        intro m h
        cases m with
        | nil => cases h
        | cons y m =>
         simp only [EH, Ga] at h;have hxy : x = y := by simpa [kO] using h.1
         rw [hxy, ih h.2]
      exact inj this
     subst hDe;refine ⟨Ds ++ Ds0, by simp [d1], ?_, fun D hD => ?_⟩
     ·refine List.nodup_append.2 ⟨hnd, d2, fun x hx y hy e => ?_⟩;subst e;have := (hDs x hx).2;have := (Et.1 (e3 x hy).2.1).1;omega
     ·rcases EF.1 hD with h | h
      ·obtain ⟨g1, g2, g3, g4⟩ := hr.ds D h;have hDl : D ≠ l := by rintro rfl; rw [hr.rec_] at g1; cases g1
       exact ⟨D4 hs.base g2, by rw [World.putObj_heap_other hDl]; exact g1, fun h => h.elim g3.1 (hpE.hok D g4), g3.2⟩
      ·exact d3 D h
    rcases hJ with ⟨g, K2, okc, hinv, hr⟩ | ⟨c, lE, lO, K2, okc, hj, hr⟩
    ·obtain ⟨w4, h1, h2, h3⟩ := out .ready none _ _ K2 okc hr (by simp);exact ⟨none, w4, h1, _, _, K2, _, after g hinv, h2, h3⟩
    ·obtain ⟨w4, h1, h2, h3⟩ := out .done (some c) _ _ K2 okc hr (by simp);refine ⟨some c, w4, h1, ?_⟩
     cases c with
     | ret => exact wpIn_ret ⟨_, _, K2, _, hj, h2, h3⟩
     | exit j => exact wpIn_exit ⟨_, _, K2, _, hj, h2, h3⟩
     | goto j => exact wpIn_goto ⟨_, _, K2, _, hj, h2, h3⟩
     | _ => exact hj.elim
   ·rw [exec_call hfn] at h; cases h
 cases hR : R with
 | none =>
  subst hR;refine main (w.heap.size + 1) [w.heap.size] _ w.heap.size (run_enterLoop_outer _ _ _ _ _) ?_ (by simp) (fun D hD => ?_) (by omega) (fun b hb => ?_) (by simp; try omega) rfl rfl rfl
  ·have := World.alloc_heap_new (w.alloc (.deferred (some []))) (.loop { state := .ready, pending := none, fn := fnid, tmps := a.tmps, params := ps.toArray, assign := assign, body := body, defers := w.heap.size });rwa [World.size_alloc] at this
  ·simp only [EO] at hD;subst hD;exact ⟨(RowKit.Below.heap_alloc _ _ _ (by simp)).trans (World.alloc_heap_new w _), D1 _⟩
  ·rw [RowKit.Below.heap_alloc _ _ _ (by simp; omega), RowKit.Below.heap_alloc _ _ _ hb]
 | some l0 =>
  subst hR;obtain ⟨r0, hr0⟩ := hs.rnd l0 rfl;refine main w.heap.size [] _ r0.defers (run_enterLoop_inner hr0 _ _ _ _ _) (World.alloc_heap_new w _) F2 (fun D hD => by simp at hD) (D1 _) (fun b hb => RowKit.Below.heap_alloc _ _ _ hb) (by simp) rfl rfl rfl
theorem Ce (hT : T.ok P) (hm : P.follows .mixedOrders = true) {g : Operand} {ps : Array Tmp} {assign body : Code} {Q : PQ} {f : FuncId} {fn : Func} {c0 : Code} {caps : List PC} {items : List (List A1)}
  (hit : CtI P f (caps.map .c) items) (hf : P.funcs[f]? = some fn) (hb : fn.body = some c0) (hnm : (fn.name == "runtime.NumGoroutine") = false)
  (hg : E.ev g = some (.c (.fn f caps))) (hcl : closedL caps = true)
  (hlen : ∀ args, args ∈ items → args.length = ps.toList.length ∧ az args = true) (fz : List Nat) (hps : (iZ ps.toList && ps.toList.all fun t => Nat.blt t N.n && !(bw t fz)) = true)
  {G : Type} (inv : Nat → G → Prop) (sE : Nat → G → List (Nat × AV)) (sO : Nat → G → List (Nat × Ob)) (g0 : G) (h0 : inv 0 g0) (hE : bZ E (sE 0 g0)) (hO : bh O (sO 0 g0)) (hfz : ∀ i g, ((sE i g).all fun p => bw p.1 fz) = true)
  (round : ∀ i g args, items[i]? = some args → inv i g → bK P T ⟨N.n, fz⟩ assign (kc ps.toList args ++ cV (sE i g)) (bY (sO i g)) (fW (fun E1 O1 => bK P T ⟨N.n, fz⟩ body E1 O1 (tA fz Q (fun E' O' => ∃ g', inv (i + 1) g' ∧ bZ E' (sE (i + 1) g') ∧ bh O' (sO (i + 1) g')))) (fun _ _ _ => False)))
  (after : ∀ g, inv items.length g → Q .normal (cV (sE items.length g)) (bY (sO items.length g))) : WI P N E O (.rangeFunc g ps assign body) Q := by
 have h := W.rangeO (P := P) (T := T) (N := N) (E := E) (O := O) (Q := Q) (ps := ps.toList) (σ := []) (OE := []) (kp := []) hT hm hg hf hb hnm (by rw [d7 (je hcl)]; exact hit) rfl rfl rfl rfl rfl hlen fz hps inv sE sO g0 h0 hE hO (fun i g p hp => by
  have := hfz i g;rw [EU] at this;exact this p hp) round after
 exact .of h
theorem ym (hT : T.ok P) (hm : P.follows .mixedOrders = true) {g : Operand} {ps : Array Tmp} {assign body : Code} {Q : PQ} {f : FuncId} {fn : Func} {c0 : Code} {caps : List PC} {items : List (List A1)} {OT OE : Objs} {as_ : List A1} (σ : List (Nat × Nat)) (kp : List Nat)
  (hit : CtIO P f OT as_ items OE) (hf : P.funcs[f]? = some fn) (hb : fn.body = some c0) (hnm : (fn.name == "runtime.NumGoroutine") = false)
  (hg : E.ev g = some (.c (.fn f caps))) (ho : bJ σ O σ = OT) (has : (caps.map .c).map (fL σ) = as_) (hσ : (ma σ && ((σ.all fun p => !(Nat.beq p.2 2000000)) && (!(bi σ O) && (kp.all fun q => eqO (lk σ q) q && wY (O.get q))))) = true) (hOE : (iZ (OE.map (·.1)) && fB OE) = true)
  (hlen : ∀ args, args ∈ items → args.length = ps.toList.length ∧ az args = true) (fz : List Nat) (hps : (iZ ps.toList && ps.toList.all fun t => Nat.blt t N.n && !(bw t fz)) = true)
  {G : Type} (inv : Nat → G → Prop) (sE : Nat → G → List (Nat × AV)) (sO : Nat → G → List (Nat × Ob)) (g0 : G) (h0 : inv 0 g0) (hE : bZ E (sE 0 g0)) (hO : bh (O.delL (σ.map (·.1))) (sO 0 g0)) (hfz : ∀ i g, ((sE i g).all fun p => bw p.1 fz) = true)
  (round : ∀ i g args, items[i]? = some args → inv i g → bK P T ⟨N.n, fz⟩ assign (kc ps.toList args ++ cV (sE i g)) (bY (sO i g)) (fW (fun E1 O1 => bK P T ⟨N.n, fz⟩ body E1 O1 (tA fz (oW kp OE Q) (fun E' O' => ∃ g', inv (i + 1) g' ∧ bZ E' (sE (i + 1) g') ∧ bh O' (sO (i + 1) g')))) (fun _ _ _ => False)))
  (after : ∀ g, inv items.length g → oW kp OE Q .normal (cV (sE items.length g)) (bY (sO items.length g))) : WI P N E O (.rangeFunc g ps assign body) Q := by
 subst ho has;simp only [D0, Fl] at hσ;have h := W.rangeO (P := P) (T := T) (N := N) (E := E) (O := O) (Q := Q) (ps := ps.toList) hT hm hg hf hb hnm hit hσ.1 hσ.2.1 hσ.2.2.1 hσ.2.2.2 hOE hlen fz hps inv sE sO g0 h0 hE hO (fun i g p hp => by
  have := hfz i g;rw [EU] at this;exact this p hp) round after
 exact .of h
end
end
section
section
variable {P : Program} {T : Ty} {N : Nx} {E : Env} {O : Objs} {c : Code} {Q Q' : PQ}
theorem W.post (h : W P N E O c Q) (hq : ∀ (X : Cx) e E' O' K' ok' w' a', Q e E' O' → Sim X K' ok' w' E' O' a' → ∃ E2 O2 K2 ok2, Q' e E2 O2 ∧ Sim X K2 ok2 w' E2 O2 a' ∧ Fr K' ok' w' O' K2 ok2 w' O2) : W P N E O c Q' :=
 fun R B old K ok w a hs => wpIn_mono (h R B old K ok w a hs) fun e a' w' ⟨E', O', K', ok', h1, h2, h3⟩ => by
  obtain ⟨E2, O2, K2, ok2, g1, g2, g3⟩ := hq _ _ _ _ _ _ _ _ h1 h2;exact ⟨E2, O2, K2, ok2, g1, g2, h3.trans g3⟩
theorem Sim.abs {X : Cx} {K : Km} {ok : Nat → Prop} {w : World} {a : Act} {k : Nat} {J J' : St} (hs : Sim X K ok w E O a) (h : O.get k = some (.abs J)) (hJ : ∀ ok F w, J ok F w → J' ok F w) (hst : kM J') :
  Sim X K ok w E (O.set k (.abs J')) a ∧ Fr K ok w O K ok w (O.set k (.abs J')) := by
 have hsub : ∀ t o, (O.set k (.abs J')).get t = some o → ∃ o', O.get t = some o' := fun t o g => by
  rw [Objs.get_set] at g;split at g
  ·rename_i e; subst e; exact ⟨_, h⟩
  ·exact ⟨o, g⟩
 refine ⟨⟨hs.size, hs.defers, hs.base, hs.rnd, hs.old, ⟨fun t o g => ?_, fun t t' o o' b L L' g1 g2 => ?_, fun t o b L g => ?_, hs.hp.lt, hs.hp.hlt, hs.hp.hok, fun t o b L g => ?_⟩, hs.env⟩,
  ⟨D1 _, fun _ _ _ _ => rfl, fun _ h => h, fun _ h => .inl h, fun t o b L g1 g2 => by obtain ⟨o', g3⟩ := hsub t o g1; exact .inr ⟨t, o', L, g3, g2⟩, rfl, rfl, rfl, fun _ o h => ⟨o, h, SK.refl o⟩, fun _ _ => rfl, fun _ h => .inl h⟩⟩
 ·rw [Objs.get_set] at g;split at g
  ·rename_i e;subst e;cases g;obtain ⟨a1, _, a3⟩ := hs.hp.obs k _ h;exact ⟨a1, hst, hJ _ _ _ a3⟩
  ·exact hs.hp.obs t o g
 ·obtain ⟨p, q1⟩ := hsub t o g1;obtain ⟨p', q2⟩ := hsub t' o' g2;exact hs.hp.inj t t' p p' b L L' q1 q2
 ·obtain ⟨p, q1⟩ := hsub t o g; exact hs.hp.apart t p b L q1
 ·obtain ⟨p, q1⟩ := hsub t o g; exact hs.hp.how t p b L q1
def BH (OE : Objs) (I : Nat → St) (X : St) (n : Nat) : PQ := fun e _ O2 => (match e with | .normal => True | .ret => True | _ => False) ∧ (O2.get 2000000 = some (.abs (I n)) ∨ O2.get 2000000 = some (.abs X)) ∧ SubO OE O2
def Da (I : Nat → St) (X : St) (n : Nat) : PQ := fun e _ O2 => (match e with | .normal => True | .ret => True | _ => False) ∧ (O2.get 2000000 = some (.abs (I n)) ∨ O2.get 2000000 = some (.abs X))
theorem CtIO.go {f : FuncId} {fn : Func} {args : List A1} {items : List (List A1)} {OT OE : Objs} (hf : P.funcs[f]? = some fn) (hb : fn.body = some c) (hn : (fn.name == "runtime.NumGoroutine") = false) (hN : fn.ntmps = N.n) (hl : Nat.ble (args.length + 1) N.n = true) (hr : fn.results.toList = [])
  (h : ∀ (v : Value) (I : Nat → St) (X : St), one v = true → Yields P v items I X → W P N (jL 0 (.c (.cb v) :: args)) ((2000000, some (.abs (I 0))) :: OT) c (BH OE I X items.length)) (hfz : N.fz = [] := by rfl) : CtIO P f OT args items OE := by
 intro v I X hv hY;refine Ct.of hf hb hn hN hl ((h v I X hv hY).post fun Y e E' O' K' ok' w' a' hq hs => ?_) hfz;obtain ⟨h1, h2, hOE⟩ := hq;have hst : kM (fun ok F w => I items.length ok F w ∨ X ok F w) := fun ok ok1 F w w1 hj g1 g2 g3 g4 g5 g6 g7 g8 =>
  hj.imp (fun hj => hY.st _ ok ok1 F w w1 hj g1 g2 g3 g4 g5 g6 g7 g8) (fun hj => hY.stX ok ok1 F w w1 hj g1 g2 g3 g4 g5 g6 g7 g8)
 have fin : ∀ J : St, O'.get 2000000 = some (.abs J) → (∀ ok F w, J ok F w → I items.length ok F w ∨ X ok F w) → _ := fun J hJ hi => hs.abs hJ hi hst
 have goal : ∃ (J : St), O'.get 2000000 = some (.abs J) ∧ ∀ ok F w, J ok F w → I items.length ok F w ∨ X ok F w := by
  rcases h2 with h2 | h2
  ·exact ⟨_, h2, fun _ _ _ h => .inl h⟩
  ·exact ⟨_, h2, fun _ _ _ h => .inr h⟩
 obtain ⟨J, hJ, hi⟩ := goal;obtain ⟨g1, g2⟩ := fin J hJ hi;refine ⟨E', _, K', ok', ⟨h1, fun k o hk => ?_, [], by rw [hr]; trivial, trivial⟩, g1, g2⟩;simp only [Objs.get] at hk;rw [Objs.get_set]
 cases hbq : Nat.beq 2000000 k with
 | true =>
  rw [hbq] at hk;have e := DY hbq;rw [if_pos e];exact hk
 | false =>
  rw [hbq] at hk;rw [if_neg fun e => by rw [e, Ei] at hbq; cases hbq];exact hOE k o hk
theorem CtI.go (hT : T.ok P) (hm : P.follows .mixedOrders = true) {f : FuncId} {fn : Func} {args : List A1} {items : List (List A1)} (hf : P.funcs[f]? = some fn) (hb : fn.body = some c) (hn : (fn.name == "runtime.NumGoroutine") = false) (hN : fn.ntmps = N.n) (hl : Nat.ble (args.length + 1) N.n = true) (hr : fn.results.toList = [])
  (h : ∀ (v : Value) (I : Nat → St) (X : St), one v = true → Yields P v items I X → bK P T N c (jL 0 (.c (.cb v) :: args)) [(2000000, some (.abs (I 0)))] (Da I X items.length)) (hfz : N.fz = [] := by rfl) : CtI P f args items :=
 CtIO.go hf hb hn hN hl hr (fun v I X hv hY => (aI hT hm c _ _ _ (h v I X hv hY)).mono fun _ _ _ ⟨h1, h2⟩ => ⟨h1, h2, fun k o hk => by simp [Objs.get] at hk⟩) hfz
theorem CtIO.walk (hT : T.ok P) (hm : P.follows .mixedOrders = true) {f : FuncId} {fn : Func} {args : List A1} {items : List (List A1)} {OT OE : Objs} (hf : P.funcs[f]? = some fn) (hb : fn.body = some c) (hn : (fn.name == "runtime.NumGoroutine") = false) (hN : fn.ntmps = N.n) (hl : Nat.ble (args.length + 1) N.n = true) (hr : fn.results.toList = [])
  (h : ∀ (v : Value) (I : Nat → St) (X : St), one v = true → Yields P v items I X → bK P T N c (jL 0 (.c (.cb v) :: args)) ((2000000, some (.abs (I 0))) :: OT) (BH OE I X items.length)) (hfz : N.fz = [] := by rfl) : CtIO P f OT args items OE :=
 CtIO.go hf hb hn hN hl hr (fun v I X hv hY => aI hT hm c _ _ _ (h v I X hv hY)) hfz
end
end
section
theorem BI {x : Nat} (_ : 0 ≤ x) : (x : Int).fdiv (2 ^ min (1 : Int).toNat 64) = ((x / 2 : Nat) : Int) := by
 rw [Gf _ (by decide)];show (x : Int) / 2 = _
 omega
theorem DL {b : Bool} {X Y : Prop} (hb : b = true) (h : X) : (bif b then X else Y) := by subst hb; exact h
theorem AC {caps : List PC} : az (caps.map .c) = closedL caps := by
 induction caps with
 | nil => rfl
 | cons x l ih => simp only [EH, az, closedL, ih]; rfl
theorem vJ (n k : Nat) (hn : n ≤ 1000000) (hk : k ≤ n) {g : FuncId} {caps : List PC} (hcl : closedL caps = true) (p : Nat → Bool) (hp : ∀ i, i < n → Ct P g (.c (nI .i64 i) :: caps.map .c) [.c (.sc (.bool (p i)))]) (h1 : ∀ i, i < k → p i = false) (h2 : ∀ i, k ≤ i → i < n → p i = true) :
  Ct P 209 [.c (nI .i64 n), .c (.fn g caps)] [.c (nI .i64 k)] := by
 refine Ct.go aj aa (N := 26) Tryz.func209 rfl rfl rfl rfl ?_;refine au aj aa (G := Nat × Nat) (fun (i, j) => i ≤ k ∧ k ≤ j ∧ j ≤ n) (fun (i, j) => [(1, .c (.fn g caps)), (5, .c (nI .i64 i)), (6, .c (nI .i64 j))]) (fun _ => []) (fun (i, j) => j - i)
  (0, n) ⟨by omega, hk, by omega⟩ ⟨rfl, rfl, rfl, trivial⟩ trivial (fun _ : Unit => True) (fun _ => [(5, .c (nI .i64 k))]) (fun _ => []) (fun (i, j) hi => ?_) (fun _ _ => ?_)
 ·obtain ⟨i1, i2, i3⟩ := hi;refine ah (fun h5 => ?_) (fun h5 => ?_)
  ·refine X1 ((i + j : Nat) : Int) (wI (by simp) (by omega) (by omega)) ?_;refine X1 ((i + j : Nat) : Int) (wU rfl (by omega) (by omega)) ?_;refine .intro (by omega) (X1 (((i + j) / 2 : Nat) : Int) (BI (by omega)) (And.intro ⟨by omega, by omega⟩ ?_));refine X1 (((i + j) / 2 : Nat) : Int) (wI rfl (by omega) (by omega)) ?_;refine DL ?_ ?_
   ·show ((true && az (caps.map .c)) && true) = true
    rw [AC, hcl]; rfl
   ·refine X1 _ (hp ((i + j) / 2) (by omega)) ?_;refine aN (fun h6 => ?_) (fun h6 => ?_)
    ·have h7 : p ((i + j) / 2) = false := by simpa using h6
     have h8 : (i + j) / 2 < k := by
      apply F3;intro hle;rw [h2 _ hle (by omega)] at h7; cases h7
     refine X1 (((i + j) / 2 + 1 : Nat) : Int) (wI (by simp) (by omega) (by omega)) ?_;exact ⟨((i + j) / 2 + 1, j), ⟨by omega, i2, i3⟩, by show j - ((i + j) / 2 + 1) < j - i; omega, ⟨rfl, rfl, rfl, trivial⟩, trivial⟩
    ·have h7 : p ((i + j) / 2) = true := by simpa using h6
     have h8 : k ≤ (i + j) / 2 := by
      apply E9;intro hlt;rw [h1 _ hlt] at h7; cases h7
     exact ⟨(i, (i + j) / 2), ⟨i1, h8, by omega⟩, by show (i + j) / 2 - i < j - i; omega, ⟨rfl, rfl, rfl, trivial⟩, trivial⟩
  ·have e : i = k := by omega
   subst e;exact ⟨(), trivial, ⟨rfl, trivial⟩, trivial⟩
 ·exact ⟨trivial, r1 rfl, trivial⟩
theorem Cf (l : List Cnt) (h : List Int) (i : Nat) (hl : CLim l) (hh : h.length ≤ 1000000) (hi : i < l.length) : Ct P 210 [.c (nI .i64 i), .c (.rd [cSl l]), .c (.rd [iSl h])] [.c (.sc (.bool (decide (aD l[i].1 h > 0))))] := by
 refine Ct.go aj aa (N := 13) Tryz.func210 rfl rfl rfl rfl ?_;refine .intro (by omega) (X1 _ (bD rfl hi) ?_);refine X1 _ (fD l[i].1 h (hl.at' hi) hh) ?_;refine .intro rfl ?_;exact ⟨trivial, r1 rfl, trivial⟩
theorem yn {l : List Cnt} {a b : Nat} : ((ci l).drop a).take b = ci ((l.drop a).take b) := by simp [ci, List.map_take, List.map_drop]
def eE (h : List Int) (x : Cnt) : Bool := decide (h.length ≤ x.1.length) && decide (x.1.take h.length = h)
def k8 (h : List Int) (x : Cnt) : Bool := decide (x.1.length = h.length + 1)
abbrev cA (x : Cnt) : List A1 := [.ag [iSl x.1, eI .i64 x.2]]
def ry (M : List Cnt) (h : List Int) : List (List A1) := ((M.takeWhile (eE h)).filter (k8 h)).map cA
theorem pZ {p : Cnt → Bool} : ∀ {M : List Cnt} {i : Nat}, i ≤ M.length → (∀ x, x ∈ M.take i → p x = true) → M.takeWhile p = M.take i ++ (M.drop i).takeWhile p
 | M, 0, _, _ => by simp
 | [], i + 1, h, _ => by simp at h
 | x :: M, i + 1, h, hp => by
  have h0 := hp x (by simp);rw [Gg h0, pZ (M := M) (i := i) (by simpa using h) (fun y hy => hp y (by simp [hy]))];simp
theorem vL (l : List Cnt) (h : List Int) (k : Nat) (hl : CLim l) (hh : h.length ≤ 1000000) (hk : k ≤ l.length) (h1 : ∀ (i : Nat) (hi : i < l.length), i < k → ¬ aD l[i].1 h > 0) (h2 : ∀ (i : Nat) (hi : i < l.length), k ≤ i → aD l[i].1 h > 0) :
  CtI P 208 [.c (.rd [cSl l]), .c (.rd [iSl h])] (ry (l.drop k) h) := by
 have hll := hl.len;refine CtI.go aj aa (N := 49) Tryz.func208 rfl rfl rfl rfl rfl (fun v I X hv hY => ?_);refine .intro (by rw [cRow_len]; omega) ?_;rw [cRow_len];refine X1 [.rd [cSl l], .rd [iSl h]] rfl ?_;refine X1 _ (vJ l.length k (by omega) hk (caps := [.rd [cSl l], .rd [iSl h]]) rfl (fun i => if hi : i < l.length then decide (aD l[i].1 h > 0) else true) (fun i hi => by simp only [hi, dite_true]; exact Cf l h i hl hh hi) (fun i hi => by
  have hi' : i < l.length := by omega
  simp only [hi', dite_true]; exact decide_eq_false (h1 i hi' hi)) (fun i hi hi' => by simp only [hi', dite_true]; exact decide_eq_true (h2 i hi' hi))) ?_
 refine ⟨k, l.length, by simp, by simp [cRow_len], hk, by rw [cRow_len]; omega, ?_⟩;rw [yn, EG (show (l.drop k).length ≤ l.length - k by rw [EJ]; exact D1 _)];have hM : CLim (l.drop k) := ⟨by rw [EJ]; omega, fun x hx => hl.g x (Gk hx)⟩;generalize l.drop k = M at *
 have hMl := hM.len;refine .intro (by rw [cRow_len]; omega) ?_;rw [cRow_len];refine b9 aj aa (fun i : Nat => i ≤ M.length ∧ ∀ x, x ∈ M.take i → eE h x = true) (fun i => [(0, .c (.cb v)), (2, .c (.rd [iSl h])), (13, .c (cSl M)), (14, .c (nI .i64 M.length)), (15, .c (nI .i64 i))])
  (fun i => [(2000000, .abs (I ((M.take i).filter (k8 h)).length))]) (fun i => M.length - i) 0 ⟨by omega, fun x hx => by simp at hx⟩ ⟨rfl, rfl, rfl, rfl, rfl, trivial⟩ ⟨rfl, trivial⟩ (fun i hi => ?_)
 ·obtain ⟨i1, i2⟩ := hi;refine ah (fun h5 => ?_) (fun h5 => ?_)
  ·have hi' : i < M.length := by omega
   have hxl := hM.at' hi';have hx := bD (l := M) (i := (i : Int)) (n := i) rfl hi';have htw := pZ (p := eE h) i1 i2;rw [Ew hi'] at htw;have hs : M.take (i + 1) = M.take i ++ [M[i]] := D5 hi';have hend : eE h M[i] = false → (ry M h).length = ((M.take i).filter (k8 h)).length := fun hp => by
    rw [List.takeWhile_cons_of_neg (by rw [hp]; simp), FX] at htw;unfold ry;rw [htw, EP]
   have hget : eE h M[i] = true → k8 h M[i] = true → (ry M h)[((M.take i).filter (k8 h)).length]? = some (cA M[i]) := fun hp ho => by
    rw [Gg hp] at htw;unfold ry;rw [htw, Fj, EL ho, Fb, D7 (by simp)];simp
   generalize M[i] = x at *
   refine .intro (by omega) (X1 _ hx ?_);refine .intro (by rw [ae]; omega) ?_;refine .intro (by rw [ae]; omega) ?_;rw [ae, ae];refine ah (fun h6 => ?_) (fun h6 => ?_)
   ·refine .intro rfl ?_;have hp : eE h x = false := by unfold eE; rw [decide_eq_false (by omega), Bool.false_and]
    exact ⟨trivial, .inl (by rw [hend hp]; rfl)⟩
   ·refine .intro (by rw [ae]; omega) ?_;rw [ae];refine ⟨0, h.length, by simp, by simp, by omega, by rw [ae]; omega, ?_⟩;rw [iRow_sub, Fu, FY];refine X1 _ (rp (x.1.take h.length) h (by rw [Ed]; omega) hh) ?_;refine .intro rfl ?_;refine aN (fun h7 => ?_) (fun h7 => ?_)
    ·have h7' : ¬ x.1.take h.length = h := by simpa using h7
     have hp : eE h x = false := by unfold eE; rw [decide_eq_false h7', GW]
     exact ⟨trivial, .inl (by rw [hend hp]; rfl)⟩
    ·have h7' : x.1.take h.length = h := by simpa using h7
     have hp : eE h x = true := by unfold eE; rw [decide_eq_true (by omega), decide_eq_true h7']; rfl
     have hi2 : ∀ y, y ∈ M.take (i + 1) → eE h y = true := fun y hy => by
      rw [hs] at hy;rcases EF.1 hy with g | g
      ·exact i2 y g
      ·rw [EO.1 g]; exact hp
     refine .intro (by rw [ae]; omega) ?_;refine .intro (by rw [ae]; omega) ?_;rw [ae, ae];refine X1 ((h.length + 1 : Nat) : Int) (wI (by simp) (by omega) (by omega)) ?_;refine aV (fun h8 => ?_) (fun h8 => ?_)
     ·have ho : k8 h x = true := decide_eq_true (by omega);refine ⟨ry M h, I, X, ((M.take i).filter (k8 h)).length, hY, rfl, hget hp ho, ?_, ?_⟩
      ·refine X1 ((i + 1 : Nat) : Int) (wI1 (by omega)) ?_;exact ⟨i + 1, ⟨by omega, hi2⟩, by omega, ⟨rfl, rfl, rfl, rfl, rfl, trivial⟩, ⟨by rw [hs, Fj, EL ho, D3]; rfl, trivial⟩⟩
      ·exact ⟨trivial, .inr rfl⟩
     ·have ho : k8 h x = false := decide_eq_false (by omega);refine X1 ((i + 1 : Nat) : Int) (wI1 (by omega)) ?_;exact ⟨i + 1, ⟨by omega, hi2⟩, by omega, ⟨rfl, rfl, rfl, rfl, rfl, trivial⟩, ⟨by rw [hs, Fj, ED (by rw [ho]; simp), List.filter_nil, FX]; rfl, trivial⟩⟩
  ·have e : i = M.length := by omega
   subst e;have := pZ (p := eE h) (D1 _) i2;rw [Fy, List.takeWhile_nil, FX] at this;refine ⟨trivial, .inl ?_⟩;unfold ry;rw [this, EP];rfl
theorem tB (l : List Cnt) (h : List Int) : Ct P 189 [.c (cSl l), .c (iSl h)] [.c (.fn 208 [.rd [cSl l], .rd [iSl h]])] := by
 refine Ct.go aj aa (N := 6) Tryz.func189 rfl rfl rfl rfl ?_;refine X1 [.ad 2 0, .ad 3 0] rfl ?_;exact ⟨trivial, r1 rfl, trivial⟩
def mc (M : List Cnt) (h : List Int) : List Cnt := (M.takeWhile (eE h)).filter (k8 h)
theorem yo (l : List Cnt) (h : List Int) (k : Nat) (hl : CLim l) (hh : h.length ≤ 1000000) (hk : k ≤ l.length) (h1 : ∀ (i : Nat) (hi : i < l.length), i < k → ¬ aD l[i].1 h > 0) (h2 : ∀ (i : Nat) (hi : i < l.length), k ≤ i → aD l[i].1 h > 0) (ht : tot l ≤ 4611686018427387904) :
  Ct P 183 [.c (cSl l), .c (iSl h)] [.ag (dp (mc (l.drop k) h))] := by
 have hB1 : (mc (l.drop k) h).length ≤ 1000000 := by
  have a1 := E4 (k8 h) ((l.drop k).takeWhile (eE h));have a2 := (List.takeWhile_sublist (l := l.drop k) (eE h)).length_le;have a3 := hl.len;rw [EJ] at a2;unfold mc;omega
 have hB2 : ∀ x, x ∈ mc (l.drop k) h → x.1.length ≤ 1000000 := fun x hx => hl.g x (Gk ((List.takeWhile_sublist _).subset (GJ.1 hx).1))
 have hB3 : tot (mc (l.drop k) h) ≤ 4611686018427387904 := by
  have a1 := fl (k8 h) ((l.drop k).takeWhile (eE h));have a2 : tot ((l.drop k).takeWhile (eE h)) ≤ tot (l.drop k) := by
   have e := iH ((l.drop k).takeWhile (eE h)) ((l.drop k).dropWhile (eE h));rw [List.takeWhile_append_dropWhile] at e;have := cC ((l.drop k).dropWhile (eE h));omega
  have a3 := iH (l.take k) (l.drop k);rw [Gb] at a3;have := cC (l.take k);unfold mc;omega
 have hit := vL l h k hl hh hk h1 h2;have hitems : ry (l.drop k) h = (mc (l.drop k) h).map cA := rfl;refine Ct.go aj aa (N := 14) Tryz.func183 rfl rfl rfl rfl ?_;refine X1 _ (tB l h) ?_;rw [hitems] at hit;generalize mc (l.drop k) h = B at *
 refine Ce aj aa (caps := [.rd [cSl l], .rd [iSl h]]) hit Tryz.func208 rfl rfl rfl rfl (fun args ha => by
  obtain ⟨x, _, rfl⟩ := Ez.1 ha;exact ⟨rfl, rfl⟩) [4, 5] rfl (G := Unit) (fun i _ => i ≤ B.length) (fun _ _ => [(4, .c (.ad 4 0)), (5, .c (.ad 5 0))])
  (fun i _ => [(4, .var [eI .i64 0, eI .i64 0, eI .i64 0, eI .i64 0, eI .i64 0, eI .i64 0, eI .i64 0]), (5, .var (dp (B.take i)))]) () (by omega) ⟨rfl, rfl, trivial⟩ ⟨rfl, rfl, trivial⟩ (fun _ _ => rfl) (fun i _ args hg hi => ?_) (fun _ hi => ?_)
 ·rw [Eb] at hg
  cases hx : B[i]? with
  | none => rw [hx] at hg; cases hg
  | some x =>
   rw [hx] at hg;cases hg;obtain ⟨hlt, hxe⟩ := D2.1 hx;have hs : B.take (i + 1) = B.take i ++ [x] := by rw [D5 hlt, hxe]
   have hxl := hB2 x (by rw [← hxe]; exact Ec hlt);have t1 := ns B (i + 1);rw [hs] at t1;refine X2 (.upd 5) ?_;refine ⟨_, _, ru (B.take i) x (by rw [Ed]; omega) hxl (by omega), ?_⟩;exact ⟨(), by omega, ⟨rfl, rfl, trivial⟩, ⟨rfl, by rw [hs]; rfl, trivial⟩⟩
 ·rw [EP, EE];exact ⟨trivial, rc rfl, trivial⟩
theorem rz (x : Cnt) (g : List Int) (hx : x.1.length ≤ 1000000) (hg : g.length ≤ 1000000) : Ct P 174 [.ag [iSl x.1, eI .i64 x.2], .c (iSl g)] [.c (eI .i64 (aD x.1 g))] := by
 refine Ct.go aj aa (N := 9) Tryz.func174 rfl rfl rfl rfl ?_;refine X1 _ (fD x.1 g hx hg) ?_;exact ⟨trivial, r1 rfl, trivial⟩
def atK (l : List Cnt) (g : List Int) (k : Nat) : Bool := match l[k]? with | some x => aD x.1 g == 0 | none => false
theorem Cg (l : List Cnt) (g : List Int) (k : Nat) (hl : CLim l) (hg : g.length ≤ 1000000) (hk : k ≤ l.length) (h1 : ∀ (i : Nat) (hi : i < l.length), i < k → aD l[i].1 g < 0) (h2 : ∀ (i : Nat) (hi : i < l.length), k ≤ i → ¬ aD l[i].1 g < 0) :
  Ct P 173 [.c (cSl l), .c (iSl g), .c (.fn 174 [])] [.c (nI .i64 k), .c (.sc (.bool (atK l g k)))] := by
 have hll := hl.len;refine Ct.go aj aa (N := 49) Tryz.func173 rfl rfl rfl rfl ?_;refine .intro (by rw [cRow_len]; omega) ?_;rw [cRow_len];refine au aj aa (G := Nat × Nat) (fun (i, j) => i ≤ k ∧ k ≤ j ∧ j ≤ l.length) (fun (i, j) => [(0, .c (cSl l)), (1, .c (iSl g)), (2, .c (.fn 174 [])), (8, .c (nI .i64 l.length)), (9, .c (nI .i64 i)), (10, .c (nI .i64 j))]) (fun _ => []) (fun (i, j) => j - i)
  (0, l.length) ⟨by omega, hk, by omega⟩ ⟨rfl, rfl, rfl, rfl, rfl, rfl, trivial⟩ trivial (fun _ : Unit => True) (fun _ => [(0, .c (cSl l)), (1, .c (iSl g)), (2, .c (.fn 174 [])), (8, .c (nI .i64 l.length)), (9, .c (nI .i64 k))]) (fun _ => []) (fun (i, j) hi => ?_) (fun _ _ => ?_)
 ·obtain ⟨i1, i2, i3⟩ := hi;refine ah (fun h5 => ?_) (fun h5 => ?_)
  ·have hm : (i + j) / 2 < l.length := by omega
   refine X1 ((i + j : Nat) : Int) (wI (by simp) (by omega) (by omega)) ?_;refine X1 ((i + j : Nat) : Int) (wU rfl (by omega) (by omega)) ?_;refine .intro (by omega) (X1 (((i + j) / 2 : Nat) : Int) (BI (by omega)) (And.intro ⟨by omega, by omega⟩ ?_));refine X1 (((i + j) / 2 : Nat) : Int) (wI rfl (by omega) (by omega)) ?_;refine .intro (by omega) (X1 _ (bD rfl hm) ?_);refine X1 _ (rz l[(i + j) / 2] g (hl.at' hm) hg) ?_;refine ah (fun h6 => ?_) (fun h6 => ?_)
   ·have h8 : (i + j) / 2 < k := by
     apply F3;intro hle;exact h2 _ hm hle h6
    refine X1 (((i + j) / 2 + 1 : Nat) : Int) (wI (by simp) (by omega) (by omega)) ?_;exact ⟨((i + j) / 2 + 1, j), ⟨by omega, i2, i3⟩, by show j - ((i + j) / 2 + 1) < j - i; omega, ⟨rfl, rfl, rfl, rfl, rfl, rfl, trivial⟩, trivial⟩
   ·have h8 : k ≤ (i + j) / 2 := by
     apply E9;intro hlt;exact h6 (h1 _ hm hlt)
    exact ⟨(i, (i + j) / 2), ⟨i1, h8, by omega⟩, by show (i + j) / 2 - i < j - i; omega, ⟨rfl, rfl, rfl, rfl, rfl, rfl, trivial⟩, trivial⟩
  ·have e : i = k := by omega
   subst e;exact ⟨(), trivial, ⟨rfl, rfl, rfl, rfl, rfl, trivial⟩, trivial⟩
 ·refine ah (fun h5 => ?_) (fun h5 => ?_)
  ·have hm : k < l.length := by omega
   have ha : atK l g k = (aD l[k].1 g == 0) := by unfold atK; rw [Em hm]
   refine .intro (by omega) (X1 _ (bD rfl hm) ?_);refine X1 _ (rz l[k] g (hl.at' hm) hg) ?_;exact ⟨trivial, r1 rfl, r1 (by rw [ha]; rfl), trivial⟩
  ·have ha : atK l g k = false := by unfold atK; rw [Eo (by omega)]
   rw [ha];exact ⟨trivial, r1 rfl, r1 rfl, trivial⟩
theorem yp (l : List Cnt) (g : List Int) (k : Nat) (hl : CLim l) (hg : g.length ≤ 1000000) (hk : k ≤ l.length) (h1 : ∀ (i : Nat) (hi : i < l.length), i < k → aD l[i].1 g < 0) (h2 : ∀ (i : Nat) (hi : i < l.length), k ≤ i → ¬ aD l[i].1 g < 0) :
  Ct P 129 [.c (cSl l), .c (iSl g)] [.c (eI .i64 (if atK l g k = true then (k : Int) else -1))] := by
 refine Ct.go aj aa (N := 16) Tryz.func129 rfl rfl rfl rfl ?_;refine X1 _ (Cg l g k hl hg hk h1 h2) ?_;refine aN (fun h => ?_) (fun h => ?_)
 ·have h' : ¬ atK l g k = true := by simpa using h
  rw [if_neg h'];exact ⟨trivial, r1 rfl, trivial⟩
 ·have h' : atK l g k = true := by simpa using h
  rw [if_pos h'];exact ⟨trivial, r1 rfl, trivial⟩
end
end Go.Proofs.YtgceikecdedfcaaGreat.Pv
