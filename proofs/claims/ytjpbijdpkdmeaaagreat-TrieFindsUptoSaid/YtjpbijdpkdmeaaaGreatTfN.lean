/- Parts of a proof, joined: Sod Soe Ms Mi Mj Nf Ng Mk. -/
import Derived.Test.YtjpbijdpkdmeaaaGreatTfM
namespace Go.Proofs.YtjpbijdpkdmeaaaGreat.Pv.SrtO
open Go Go.Sort
section
variable {p : El → Bool} {e : Array El} {i j : Nat}
theorem sUp_a (h : ¬ i ≤ j) : scanUp p e j i = i := by rw [scanUp, if_neg (by simp; omega)]
theorem sUp_b (h : p e[i]! = false) : scanUp p e j i = i := by rw [scanUp, if_neg (by simp [h])]
theorem sUp_c (h : i ≤ j) (h2 : p e[i]! = true) : scanUp p e j i = scanUp p e j (i + 1) := by rw [scanUp, if_pos (by simp [h2]; omega)]
theorem sDn_a (h : ¬ i ≤ j) : scanDown p e i j = j := by
  cases j with
  | zero => rfl
  | succ j => rw [scanDown, if_neg (by simp; omega)]
theorem sDn_b (h : p e[j]! = false) : scanDown p e i j = j := by
  cases j with
  | zero => rfl
  | succ j => rw [scanDown, if_neg (by simp [h])]
theorem sDn_c (h0 : 1 ≤ j) (h : i ≤ j) (h2 : p e[j]! = true) : scanDown p e i j = scanDown p e i (j - 1) := by
  cases j with
  | zero => omega
  | succ j => rw [scanDown, if_pos (by simp [h2]; omega)]; rfl
end
variable {cm : El → El → Int}
theorem pEqL {a i j i2 j2 : Nat} {e : Array El} (hi2 : scanUp (fun x => !lt cm e[a]! x) e j i = i2) (hj2 : scanDown (fun x => lt cm e[a]! x) e i2 j = j2) : partEqLoop (lt cm) a i j e = if i2 > j2 then (i2, e) else if _h : (j2 - 1) + 1 - (i2 + 1) < j + 1 - i then partEqLoop (lt cm) a (i2 + 1) (j2 - 1) (swp e i2 j2) else (i2, e) := by
  subst hi2 hj2
  rw [partEqLoop]
theorem pL {a i j i2 j2 : Nat} {e : Array El} (hi2 : scanUp (fun x => lt cm x e[a]!) e j i = i2) (hj2 : scanDown (fun x => !lt cm x e[a]!) e i2 j = j2) : partLoop (lt cm) a i j e = if i2 > j2 then (j2, e) else if _h : (j2 - 1) + 1 - (i2 + 1) < j + 1 - i then partLoop (lt cm) a (i2 + 1) (j2 - 1) (swp e i2 j2) else (j2, e) := by
  subst hi2 hj2
  rw [partLoop]
variable (cm)
variable (hc : ∀ x y, Ct P 185 [VL x, VL y] [.c (.sc (.bool (decide (cm x y < 0))))])
include hc
theorem pEq_ct (d : Array El) (a b p : Nat) (hab : a < b) (hp : p < d.size) (hb : b ≤ d.size) (hd : d.size ≤ 1000000) :
    CtO P 186 [dO d] [dA d, .c (nI .i64 a), .c (nI .i64 b), .c (nI .i64 p)] [dO (partitionEqual (lt cm) d a b p).2] [.c (nI .i64 (partitionEqual (lt cm) d a b p).1)] := by
  have key : ∀ F : Nat × Array El, partEqLoop (lt cm) a (a + 1) (b - 1) (swp d a p) = F → CtO P 186 [dO d] [dA d, .c (nI .i64 a), .c (nI .i64 b), .c (nI .i64 p)] [dO F.2] [.c (nI .i64 F.1)] := by
    intro F hF
    refine Ct.io T_ok T_mix (N := 84) Tryz.func186 rfl rfl rfl rfl ?_
    refine And.intro (by omega) (And.intro (by omega) (X1 _ (row_get (d := d) (n := p) rfl (by omega)) ?_))
    refine And.intro (by omega) (And.intro (by omega) (X1 _ (row_get (d := d) (n := a) rfl (by omega)) ?_))
    refine And.intro (by omega) (And.intro (by omega) (X1 _ (row_get (d := d) (n := a) rfl (by omega)) ?_))
    refine And.intro (by omega) (And.intro (by omega) (X1 _ (row_get2 (d := d) (y := d[p]!) (m := a) (n := p) rfl rfl (by omega)) ?_))
    refine And.intro rfl ?_
    refine X1 ((a + 1 : Nat) : Int) (wI (by simp) (by omega) (by omega)) ?_
    refine X1 ((b - 1 : Nat) : Int) (wI (by omega) (by omega) (by omega)) ?_
    refine loopJ T_ok T_mix (G := Nat × Nat × Array El) (fun (i, j, e) => partEqLoop (lt cm) a i j e = F ∧ e.size = d.size ∧ 1 ≤ i ∧ j < d.size ∧ i ≤ j + 2) (fun (i, j, _) => [(0, .c (.ow 1000000 SZ d.size)), (1, .c (nI .i64 a)), (0, .c (.ow 1000000 SZ d.size)), (9, .c (nI .i64 i)), (10, .c (nI .i64 j))]) (fun (_, _, e) => [(1000000, .row SZ (row e))]) (fun (i, j, _) => j + 1 - i)
      (a + 1, b - 1, swp d a p) ⟨hF, swp_size, by omega, by omega, by omega⟩ ⟨rfl, rfl, rfl, rfl, rfl, trivial⟩ ⟨rowE (row_swp (m := a) (n := p) rfl rfl), trivial⟩ (G2 := Nat × Array El) (fun (i, e) => F = (i, e)) (fun (i, _) => [(9, .c (nI .i64 i))]) (fun (_, e) => [(1000000, .row SZ (row e))]) (fun (i, j, e) hi => ?_) (fun (i, e) he => ?_)
    · obtain ⟨i1, i2, i3, i4, i5⟩ := hi
      refine loopJ T_ok T_mix (G := Nat) (fun q => scanUp (fun x => !lt cm e[a]! x) e j q = scanUp (fun x => !lt cm e[a]! x) e j i ∧ i ≤ q ∧ (q ≤ j + 1 ∨ q = i)) (fun q => [(0, .c (.ow 1000000 SZ d.size)), (1, .c (nI .i64 a)), (0, .c (.ow 1000000 SZ d.size)), (9, .c (nI .i64 q)), (10, .c (nI .i64 j))]) (fun _ => [(1000000, .row SZ (row e))]) (fun q => j + 1 - q)
        i ⟨rfl, by omega, by omega⟩ ⟨rfl, rfl, rfl, rfl, rfl, trivial⟩ ⟨rfl, trivial⟩ (G2 := Nat) (fun q => scanUp (fun x => !lt cm e[a]! x) e j i = q ∧ i ≤ q ∧ (q ≤ j + 1 ∨ q = i)) (fun q => [(0, .c (.ow 1000000 SZ d.size)), (1, .c (nI .i64 a)), (0, .c (.ow 1000000 SZ d.size)), (9, .c (nI .i64 q)), (10, .c (nI .i64 j))]) (fun _ => [(1000000, .row SZ (row e))]) (fun q hq => ?_) (fun k hk => ?_)
      · obtain ⟨q1, q2, q3⟩ := hq
        refine dcase (fun h6 => ?_) (fun h6 => ?_)
        · refine And.intro (by omega) (And.intro (by omega) (X1 _ (row_get (d := e) (n := a) rfl (by omega)) ?_))
          refine And.intro (by omega) (And.intro (by omega) (X1 _ (row_get (d := e) (n := q) rfl (by omega)) ?_))
          refine X1 _ (hc _ _) ?_
          refine And.intro rfl ?_
          refine bcase (fun h7 => ?_) (fun h7 => ?_)
          · have h7p : (!lt cm e[a]! e[q]!) = true := h7
            rw [sUp_c (p := (fun x => !lt cm e[a]! x)) (e := e) (i := q) (by omega) h7p] at q1
            refine X1 ((q + 1 : Nat) : Int) (wI (by simp) (by omega) (by omega)) ?_
            exact ⟨q + 1, ⟨q1, by omega, by omega⟩, by show j + 1 - (q + 1) < j + 1 - q; omega, ⟨rfl, rfl, rfl, rfl, rfl, trivial⟩, ⟨rfl, trivial⟩⟩
          · have h7p : (!lt cm e[a]! e[q]!) = false := h7
            rw [sUp_b (p := (fun x => !lt cm e[a]! x)) (e := e) (i := q) h7p] at q1
            exact ⟨q, ⟨q1.symm, q2, q3⟩, ⟨rfl, rfl, rfl, rfl, rfl, trivial⟩, ⟨rfl, trivial⟩⟩
        · refine And.intro rfl ?_
          rw [sUp_a (by omega)] at q1
          exact ⟨q, ⟨q1.symm, q2, q3⟩, ⟨rfl, rfl, rfl, rfl, rfl, trivial⟩, ⟨rfl, trivial⟩⟩
      · obtain ⟨k1, k2, k3⟩ := hk
        refine loopJ T_ok T_mix (G := Nat) (fun q => scanDown (fun x => lt cm e[a]! x) e k q = scanDown (fun x => lt cm e[a]! x) e k j ∧ q ≤ j ∧ (k ≤ q + 1 ∨ q = j)) (fun q => [(0, .c (.ow 1000000 SZ d.size)), (1, .c (nI .i64 a)), (0, .c (.ow 1000000 SZ d.size)), (9, .c (nI .i64 k)), (10, .c (nI .i64 q))]) (fun _ => [(1000000, .row SZ (row e))]) (fun q => q)
          j ⟨rfl, by omega, by omega⟩ ⟨rfl, rfl, rfl, rfl, rfl, trivial⟩ ⟨rfl, trivial⟩ (G2 := Nat) (fun q => scanDown (fun x => lt cm e[a]! x) e k j = q ∧ q ≤ j ∧ (k ≤ q + 1 ∨ q = j)) (fun q => [(0, .c (.ow 1000000 SZ d.size)), (1, .c (nI .i64 a)), (0, .c (.ow 1000000 SZ d.size)), (9, .c (nI .i64 k)), (10, .c (nI .i64 q))]) (fun _ => [(1000000, .row SZ (row e))]) (fun q hq => ?_) (fun r hr => ?_)
        · obtain ⟨q1, q2, q3⟩ := hq
          refine dcase (fun h6 => ?_) (fun h6 => ?_)
          · refine And.intro (by omega) (And.intro (by omega) (X1 _ (row_get (d := e) (n := a) rfl (by omega)) ?_))
            refine And.intro (by omega) (And.intro (by omega) (X1 _ (row_get (d := e) (n := q) rfl (by omega)) ?_))
            refine X1 _ (hc _ _) ?_
            refine And.intro rfl ?_
            refine bcase (fun h7 => ?_) (fun h7 => ?_)
            · have h7p : lt cm e[a]! e[q]! = true := h7
              rw [sDn_c (p := (fun x => lt cm e[a]! x)) (e := e) (j := q) (by omega) (by omega) h7p] at q1
              refine X1 ((q - 1 : Nat) : Int) (wI (by omega) (by omega) (by omega)) ?_
              exact ⟨q - 1, ⟨q1, by omega, by omega⟩, by show q - 1 < q; omega, ⟨rfl, rfl, rfl, rfl, rfl, trivial⟩, ⟨rfl, trivial⟩⟩
            · have h7p : lt cm e[a]! e[q]! = false := h7
              rw [sDn_b (p := (fun x => lt cm e[a]! x)) (e := e) (j := q) h7p] at q1
              exact ⟨q, ⟨q1.symm, q2, q3⟩, ⟨rfl, rfl, rfl, rfl, rfl, trivial⟩, ⟨rfl, trivial⟩⟩
          · refine And.intro rfl ?_
            rw [sDn_a (by omega)] at q1
            exact ⟨q, ⟨q1.symm, q2, q3⟩, ⟨rfl, rfl, rfl, rfl, rfl, trivial⟩, ⟨rfl, trivial⟩⟩
        · obtain ⟨r1', r2', r3'⟩ := hr
          rw [pEqL k1 r1'] at i1
          refine dcase (fun h8 => ?_) (fun h8 => ?_)
          · rw [if_pos (by omega)] at i1
            exact ⟨(k, e), i1.symm, ⟨rfl, trivial⟩, ⟨rfl, trivial⟩⟩
          · rw [if_neg (by omega), dif_pos (by omega)] at i1
            refine And.intro (by omega) (And.intro (by omega) (X1 _ (row_get (d := e) (n := r) rfl (by omega)) ?_))
            refine And.intro (by omega) (And.intro (by omega) (X1 _ (row_get (d := e) (n := k) rfl (by omega)) ?_))
            refine And.intro (by omega) (And.intro (by omega) (X1 _ (row_get (d := e) (n := k) rfl (by omega)) ?_))
            refine And.intro (by omega) (And.intro (by omega) (X1 _ (row_get2 (d := e) (y := e[r]!) (m := k) (n := r) rfl rfl (by omega)) ?_))
            refine And.intro rfl ?_
            refine X1 ((k + 1 : Nat) : Int) (wI (by simp) (by omega) (by omega)) ?_
            refine X1 ((r - 1 : Nat) : Int) (wI (by omega) (by omega) (by omega)) ?_
            exact ⟨(k + 1, r - 1, swp e k r), ⟨i1, by rw [swp_size]; exact i2, by omega, by omega, by omega⟩, by show r - 1 + 1 - (k + 1) < j + 1 - i; omega, ⟨rfl, rfl, rfl, rfl, rfl, trivial⟩, ⟨rowE (row_swp (m := k) (n := r) rfl rfl), trivial⟩⟩
    · rw [he]
      exact ⟨trivial, SubO.of (l := [(1000000, .row _ _)]) ⟨rfl, trivial⟩, r1 rfl, trivial⟩
  exact key _ rfl
theorem part_ct (d : Array El) (a b p : Nat) (hab : a < b) (hp : p < d.size) (hb : b ≤ d.size) (hd : d.size ≤ 1000000) :
    CtO P 187 [dO d] [dA d, .c (nI .i64 a), .c (nI .i64 b), .c (nI .i64 p)] [dO (partition (lt cm) d a b p).2.2] [.c (nI .i64 (partition (lt cm) d a b p).1), .c (.sc (.bool (partition (lt cm) d a b p).2.1))] := by
  have key : ∀ e0 : Array El, swp d a p = e0 → CtO P 187 [dO d] [dA d, .c (nI .i64 a), .c (nI .i64 b), .c (nI .i64 p)] [dO (partition (lt cm) d a b p).2.2] [.c (nI .i64 (partition (lt cm) d a b p).1), .c (.sc (.bool (partition (lt cm) d a b p).2.1))] := by
    intro e0 he0
    have hpt : partition (lt cm) d a b p = (if scanUp (fun x => lt cm x e0[a]!) e0 (b - 1) (a + 1) > scanDown (fun x => !lt cm x e0[a]!) e0 (scanUp (fun x => lt cm x e0[a]!) e0 (b - 1) (a + 1)) (b - 1) then (scanDown (fun x => !lt cm x e0[a]!) e0 (scanUp (fun x => lt cm x e0[a]!) e0 (b - 1) (a + 1)) (b - 1), true, swp e0 (scanDown (fun x => !lt cm x e0[a]!) e0 (scanUp (fun x => lt cm x e0[a]!) e0 (b - 1) (a + 1)) (b - 1)) a) else
        ((partLoop (lt cm) a (scanUp (fun x => lt cm x e0[a]!) e0 (b - 1) (a + 1) + 1) (scanDown (fun x => !lt cm x e0[a]!) e0 (scanUp (fun x => lt cm x e0[a]!) e0 (b - 1) (a + 1)) (b - 1) - 1) (swp e0 (scanUp (fun x => lt cm x e0[a]!) e0 (b - 1) (a + 1)) (scanDown (fun x => !lt cm x e0[a]!) e0 (scanUp (fun x => lt cm x e0[a]!) e0 (b - 1) (a + 1)) (b - 1)))).1, false, swp (partLoop (lt cm) a (scanUp (fun x => lt cm x e0[a]!) e0 (b - 1) (a + 1) + 1) (scanDown (fun x => !lt cm x e0[a]!) e0 (scanUp (fun x => lt cm x e0[a]!) e0 (b - 1) (a + 1)) (b - 1) - 1) (swp e0 (scanUp (fun x => lt cm x e0[a]!) e0 (b - 1) (a + 1)) (scanDown (fun x => !lt cm x e0[a]!) e0 (scanUp (fun x => lt cm x e0[a]!) e0 (b - 1) (a + 1)) (b - 1)))).2 (partLoop (lt cm) a (scanUp (fun x => lt cm x e0[a]!) e0 (b - 1) (a + 1) + 1) (scanDown (fun x => !lt cm x e0[a]!) e0 (scanUp (fun x => lt cm x e0[a]!) e0 (b - 1) (a + 1)) (b - 1) - 1) (swp e0 (scanUp (fun x => lt cm x e0[a]!) e0 (b - 1) (a + 1)) (scanDown (fun x => !lt cm x e0[a]!) e0 (scanUp (fun x => lt cm x e0[a]!) e0 (b - 1) (a + 1)) (b - 1)))).1 a)) := by
      rw [← he0]; rfl
    have hs0 : e0.size = d.size := by rw [← he0, swp_size]
    refine Ct.io T_ok T_mix (N := 168) Tryz.func187 rfl rfl rfl rfl ?_
    refine And.intro (by omega) (And.intro (by omega) (X1 _ (row_get (d := d) (n := p) rfl (by omega)) ?_))
    refine And.intro (by omega) (And.intro (by omega) (X1 _ (row_get (d := d) (n := a) rfl (by omega)) ?_))
    refine And.intro (by omega) (And.intro (by omega) (X1 _ (row_get (d := d) (n := a) rfl (by omega)) ?_))
    refine And.intro (by omega) (And.intro (by omega) (X1 _ (row_get2 (d := d) (y := d[p]!) (m := a) (n := p) rfl rfl (by omega)) ?_))
    refine And.intro rfl ?_
    have hrow := row_swp (d := d) (i := (a : Int)) (j := (p : Int)) (m := a) (n := p) rfl rfl
    rw [he0] at hrow
    refine X1 ((a + 1 : Nat) : Int) (wI (by simp) (by omega) (by omega)) ?_
    refine X1 ((b - 1 : Nat) : Int) (wI (by omega) (by omega) (by omega)) ?_
    refine loopJ T_ok T_mix (G := Nat) (fun q => scanUp (fun x => lt cm x e0[a]!) e0 (b - 1) q = scanUp (fun x => lt cm x e0[a]!) e0 (b - 1) (a + 1) ∧ (a + 1) ≤ q ∧ (q ≤ (b - 1) + 1 ∨ q = (a + 1))) (fun q => [(0, .c (.ow 1000000 SZ d.size)), (1, .c (nI .i64 a)), (0, .c (.ow 1000000 SZ d.size)), (10, .c (nI .i64 q)), (11, .c (nI .i64 (b - 1)))]) (fun _ => [(1000000, .row SZ (row e0))]) (fun q => (b - 1) + 1 - q)
      (a + 1) ⟨rfl, by omega, by omega⟩ ⟨rfl, rfl, rfl, rfl, rfl, trivial⟩ ⟨rowE hrow, trivial⟩ (G2 := Nat) (fun q => scanUp (fun x => lt cm x e0[a]!) e0 (b - 1) (a + 1) = q ∧ (a + 1) ≤ q ∧ (q ≤ (b - 1) + 1 ∨ q = (a + 1))) (fun q => [(0, .c (.ow 1000000 SZ d.size)), (1, .c (nI .i64 a)), (0, .c (.ow 1000000 SZ d.size)), (10, .c (nI .i64 q)), (11, .c (nI .i64 (b - 1)))]) (fun _ => [(1000000, .row SZ (row e0))]) (fun q hq => ?_) (fun k hk => ?_)
    · obtain ⟨q1, q2, q3⟩ := hq
      refine dcase (fun h6 => ?_) (fun h6 => ?_)
      · refine And.intro (by omega) (And.intro (by omega) (X1 _ (row_get (d := e0) (n := q) rfl (by omega)) ?_))
        refine And.intro (by omega) (And.intro (by omega) (X1 _ (row_get (d := e0) (n := a) rfl (by omega)) ?_))
        refine X1 _ (hc _ _) ?_
        refine And.intro rfl ?_
        refine bcase (fun h7 => ?_) (fun h7 => ?_)
        · have h7p : lt cm e0[q]! e0[a]! = true := h7
          rw [sUp_c (p := (fun x => lt cm x e0[a]!)) (e := e0) (i := q) (by omega) h7p] at q1
          refine X1 ((q + 1 : Nat) : Int) (wI (by simp) (by omega) (by omega)) ?_
          exact ⟨q + 1, ⟨q1, by omega, by omega⟩, by show (b - 1) + 1 - (q + 1) < (b - 1) + 1 - q; omega, ⟨rfl, rfl, rfl, rfl, rfl, trivial⟩, ⟨rfl, trivial⟩⟩
        · have h7p : lt cm e0[q]! e0[a]! = false := h7
          rw [sUp_b (p := (fun x => lt cm x e0[a]!)) (e := e0) (i := q) h7p] at q1
          exact ⟨q, ⟨q1.symm, q2, q3⟩, ⟨rfl, rfl, rfl, rfl, rfl, trivial⟩, ⟨rfl, trivial⟩⟩
      · refine And.intro rfl ?_
        rw [sUp_a (by omega)] at q1
        exact ⟨q, ⟨q1.symm, q2, q3⟩, ⟨rfl, rfl, rfl, rfl, rfl, trivial⟩, ⟨rfl, trivial⟩⟩
    · obtain ⟨k1, k2, k3⟩ := hk
      refine loopJ T_ok T_mix (G := Nat) (fun q => scanDown (fun x => !lt cm x e0[a]!) e0 k q = scanDown (fun x => !lt cm x e0[a]!) e0 k (b - 1) ∧ q ≤ (b - 1) ∧ (k ≤ q + 1 ∨ q = (b - 1))) (fun q => [(0, .c (.ow 1000000 SZ d.size)), (1, .c (nI .i64 a)), (0, .c (.ow 1000000 SZ d.size)), (10, .c (nI .i64 k)), (11, .c (nI .i64 q))]) (fun _ => [(1000000, .row SZ (row e0))]) (fun q => q)
        (b - 1) ⟨rfl, by omega, by omega⟩ ⟨rfl, rfl, rfl, rfl, rfl, trivial⟩ ⟨rfl, trivial⟩ (G2 := Nat) (fun q => scanDown (fun x => !lt cm x e0[a]!) e0 k (b - 1) = q ∧ q ≤ (b - 1) ∧ (k ≤ q + 1 ∨ q = (b - 1))) (fun q => [(0, .c (.ow 1000000 SZ d.size)), (1, .c (nI .i64 a)), (0, .c (.ow 1000000 SZ d.size)), (10, .c (nI .i64 k)), (11, .c (nI .i64 q))]) (fun _ => [(1000000, .row SZ (row e0))]) (fun q hq => ?_) (fun r hr => ?_)
      · obtain ⟨q1, q2, q3⟩ := hq
        refine dcase (fun h6 => ?_) (fun h6 => ?_)
        · refine And.intro (by omega) (And.intro (by omega) (X1 _ (row_get (d := e0) (n := q) rfl (by omega)) ?_))
          refine And.intro (by omega) (And.intro (by omega) (X1 _ (row_get (d := e0) (n := a) rfl (by omega)) ?_))
          refine X1 _ (hc _ _) ?_
          refine And.intro rfl ?_
          refine bcase (fun h7 => ?_) (fun h7 => ?_)
          · have h7p : (!lt cm e0[q]! e0[a]!) = true := h7
            rw [sDn_c (p := (fun x => !lt cm x e0[a]!)) (e := e0) (j := q) (by omega) (by omega) h7p] at q1
            refine X1 ((q - 1 : Nat) : Int) (wI (by omega) (by omega) (by omega)) ?_
            exact ⟨q - 1, ⟨q1, by omega, by omega⟩, by show q - 1 < q; omega, ⟨rfl, rfl, rfl, rfl, rfl, trivial⟩, ⟨rfl, trivial⟩⟩
          · have h7p : (!lt cm e0[q]! e0[a]!) = false := h7
            rw [sDn_b (p := (fun x => !lt cm x e0[a]!)) (e := e0) (j := q) h7p] at q1
            exact ⟨q, ⟨q1.symm, q2, q3⟩, ⟨rfl, rfl, rfl, rfl, rfl, trivial⟩, ⟨rfl, trivial⟩⟩
        · refine And.intro rfl ?_
          rw [sDn_a (by omega)] at q1
          exact ⟨q, ⟨q1.symm, q2, q3⟩, ⟨rfl, rfl, rfl, rfl, rfl, trivial⟩, ⟨rfl, trivial⟩⟩
      · obtain ⟨s1, s2, s3⟩ := hr
        rw [k1, s1] at hpt
        refine dcase (fun h8 => ?_) (fun h8 => ?_)
        · rw [if_pos (by omega)] at hpt
          rw [hpt]
          refine And.intro (by omega) (And.intro (by omega) (X1 _ (row_get (d := e0) (n := a) rfl (by omega)) ?_))
          refine And.intro (by omega) (And.intro (by omega) (X1 _ (row_get (d := e0) (n := r) rfl (by omega)) ?_))
          refine And.intro (by omega) (And.intro (by omega) (X1 _ (row_get (d := e0) (n := r) rfl (by omega)) ?_))
          refine And.intro (by omega) (And.intro (by omega) (X1 _ (row_get2 (d := e0) (y := e0[a]!) (m := r) (n := a) rfl rfl (by omega)) ?_))
          refine And.intro rfl ?_
          exact ⟨trivial, SubO.of (l := [(1000000, .row _ _)]) ⟨rowE (row_swp (m := r) (n := a) rfl rfl), trivial⟩, r1 rfl, r1 rfl, trivial⟩
        · rw [if_neg (by omega)] at hpt
          rw [hpt]
          refine And.intro (by omega) (And.intro (by omega) (X1 _ (row_get (d := e0) (n := r) rfl (by omega)) ?_))
          refine And.intro (by omega) (And.intro (by omega) (X1 _ (row_get (d := e0) (n := k) rfl (by omega)) ?_))
          refine And.intro (by omega) (And.intro (by omega) (X1 _ (row_get (d := e0) (n := k) rfl (by omega)) ?_))
          refine And.intro (by omega) (And.intro (by omega) (X1 _ (row_get2 (d := e0) (y := e0[r]!) (m := k) (n := r) rfl rfl (by omega)) ?_))
          refine And.intro rfl ?_
          have hrow2 := row_swp (d := e0) (i := (k : Int)) (j := (r : Int)) (m := k) (n := r) rfl rfl
          have hs1 : (swp e0 k r).size = d.size := by rw [swp_size]; exact hs0
          generalize swp e0 k r = e1 at *
          generalize hF : partLoop (lt cm) a (k + 1) (r - 1) e1 = F at *
          refine X1 ((k + 1 : Nat) : Int) (wI (by simp) (by omega) (by omega)) ?_
          refine X1 ((r - 1 : Nat) : Int) (wI (by omega) (by omega) (by omega)) ?_
          refine loopJ T_ok T_mix (G := Nat × Nat × Array El) (fun (i, j, e) => partLoop (lt cm) a i j e = F ∧ e.size = d.size ∧ 1 ≤ i ∧ j < d.size ∧ i ≤ j + 2) (fun (i, j, _) => [(0, .c (.ow 1000000 SZ d.size)), (1, .c (nI .i64 a)), (0, .c (.ow 1000000 SZ d.size)), (10, .c (nI .i64 i)), (11, .c (nI .i64 j))]) (fun (_, _, e) => [(1000000, .row SZ (row e))]) (fun (i, j, _) => j + 1 - i)
            (k + 1, r - 1, e1) ⟨hF, hs1, by omega, by omega, by omega⟩ ⟨rfl, rfl, rfl, rfl, rfl, trivial⟩ ⟨rowE hrow2, trivial⟩ (G2 := Nat × Array El) (fun (j, e) => F = (j, e) ∧ j < d.size ∧ e.size = d.size) (fun (j, _) => [(0, .c (.ow 1000000 SZ d.size)), (1, .c (nI .i64 a)), (11, .c (nI .i64 j))]) (fun (_, e) => [(1000000, .row SZ (row e))]) (fun (i, j, e) hi => ?_) (fun (j, e) he => ?_)
          · obtain ⟨i1, i2, i3, i4, i5⟩ := hi
            refine loopJ T_ok T_mix (G := Nat) (fun q => scanUp (fun x => lt cm x e[a]!) e j q = scanUp (fun x => lt cm x e[a]!) e j i ∧ i ≤ q ∧ (q ≤ j + 1 ∨ q = i)) (fun q => [(0, .c (.ow 1000000 SZ d.size)), (1, .c (nI .i64 a)), (0, .c (.ow 1000000 SZ d.size)), (10, .c (nI .i64 q)), (11, .c (nI .i64 j))]) (fun _ => [(1000000, .row SZ (row e))]) (fun q => j + 1 - q)
              i ⟨rfl, by omega, by omega⟩ ⟨rfl, rfl, rfl, rfl, rfl, trivial⟩ ⟨rfl, trivial⟩ (G2 := Nat) (fun q => scanUp (fun x => lt cm x e[a]!) e j i = q ∧ i ≤ q ∧ (q ≤ j + 1 ∨ q = i)) (fun q => [(0, .c (.ow 1000000 SZ d.size)), (1, .c (nI .i64 a)), (0, .c (.ow 1000000 SZ d.size)), (10, .c (nI .i64 q)), (11, .c (nI .i64 j))]) (fun _ => [(1000000, .row SZ (row e))]) (fun q hq => ?_) (fun u hu => ?_)
            · obtain ⟨q1, q2, q3⟩ := hq
              refine dcase (fun h6 => ?_) (fun h6 => ?_)
              · refine And.intro (by omega) (And.intro (by omega) (X1 _ (row_get (d := e) (n := q) rfl (by omega)) ?_))
                refine And.intro (by omega) (And.intro (by omega) (X1 _ (row_get (d := e) (n := a) rfl (by omega)) ?_))
                refine X1 _ (hc _ _) ?_
                refine And.intro rfl ?_
                refine bcase (fun h7 => ?_) (fun h7 => ?_)
                · have h7p : lt cm e[q]! e[a]! = true := h7
                  rw [sUp_c (p := (fun x => lt cm x e[a]!)) (e := e) (i := q) (by omega) h7p] at q1
                  refine X1 ((q + 1 : Nat) : Int) (wI (by simp) (by omega) (by omega)) ?_
                  exact ⟨q + 1, ⟨q1, by omega, by omega⟩, by show j + 1 - (q + 1) < j + 1 - q; omega, ⟨rfl, rfl, rfl, rfl, rfl, trivial⟩, ⟨rfl, trivial⟩⟩
                · have h7p : lt cm e[q]! e[a]! = false := h7
                  rw [sUp_b (p := (fun x => lt cm x e[a]!)) (e := e) (i := q) h7p] at q1
                  exact ⟨q, ⟨q1.symm, q2, q3⟩, ⟨rfl, rfl, rfl, rfl, rfl, trivial⟩, ⟨rfl, trivial⟩⟩
              · refine And.intro rfl ?_
                rw [sUp_a (by omega)] at q1
                exact ⟨q, ⟨q1.symm, q2, q3⟩, ⟨rfl, rfl, rfl, rfl, rfl, trivial⟩, ⟨rfl, trivial⟩⟩
            · obtain ⟨u1, u2, u3⟩ := hu
              refine loopJ T_ok T_mix (G := Nat) (fun q => scanDown (fun x => !lt cm x e[a]!) e u q = scanDown (fun x => !lt cm x e[a]!) e u j ∧ q ≤ j ∧ (u ≤ q + 1 ∨ q = j)) (fun q => [(0, .c (.ow 1000000 SZ d.size)), (1, .c (nI .i64 a)), (0, .c (.ow 1000000 SZ d.size)), (10, .c (nI .i64 u)), (11, .c (nI .i64 q))]) (fun _ => [(1000000, .row SZ (row e))]) (fun q => q)
                j ⟨rfl, by omega, by omega⟩ ⟨rfl, rfl, rfl, rfl, rfl, trivial⟩ ⟨rfl, trivial⟩ (G2 := Nat) (fun q => scanDown (fun x => !lt cm x e[a]!) e u j = q ∧ q ≤ j ∧ (u ≤ q + 1 ∨ q = j)) (fun q => [(0, .c (.ow 1000000 SZ d.size)), (1, .c (nI .i64 a)), (0, .c (.ow 1000000 SZ d.size)), (10, .c (nI .i64 u)), (11, .c (nI .i64 q))]) (fun _ => [(1000000, .row SZ (row e))]) (fun q hq => ?_) (fun v hv => ?_)
              · obtain ⟨q1, q2, q3⟩ := hq
                refine dcase (fun h6 => ?_) (fun h6 => ?_)
                · refine And.intro (by omega) (And.intro (by omega) (X1 _ (row_get (d := e) (n := q) rfl (by omega)) ?_))
                  refine And.intro (by omega) (And.intro (by omega) (X1 _ (row_get (d := e) (n := a) rfl (by omega)) ?_))
                  refine X1 _ (hc _ _) ?_
                  refine And.intro rfl ?_
                  refine bcase (fun h7 => ?_) (fun h7 => ?_)
                  · have h7p : (!lt cm e[q]! e[a]!) = true := h7
                    rw [sDn_c (p := (fun x => !lt cm x e[a]!)) (e := e) (j := q) (by omega) (by omega) h7p] at q1
                    refine X1 ((q - 1 : Nat) : Int) (wI (by omega) (by omega) (by omega)) ?_
                    exact ⟨q - 1, ⟨q1, by omega, by omega⟩, by show q - 1 < q; omega, ⟨rfl, rfl, rfl, rfl, rfl, trivial⟩, ⟨rfl, trivial⟩⟩
                  · have h7p : (!lt cm e[q]! e[a]!) = false := h7
                    rw [sDn_b (p := (fun x => !lt cm x e[a]!)) (e := e) (j := q) h7p] at q1
                    exact ⟨q, ⟨q1.symm, q2, q3⟩, ⟨rfl, rfl, rfl, rfl, rfl, trivial⟩, ⟨rfl, trivial⟩⟩
                · refine And.intro rfl ?_
                  rw [sDn_a (by omega)] at q1
                  exact ⟨q, ⟨q1.symm, q2, q3⟩, ⟨rfl, rfl, rfl, rfl, rfl, trivial⟩, ⟨rfl, trivial⟩⟩
              · obtain ⟨v1, v2, v3⟩ := hv
                rw [pL u1 v1] at i1
                refine dcase (fun h8 => ?_) (fun h8 => ?_)
                · rw [if_pos (by omega)] at i1
                  exact ⟨(v, e), ⟨i1.symm, by omega, i2⟩, ⟨rfl, rfl, rfl, trivial⟩, ⟨rfl, trivial⟩⟩
                · rw [if_neg (by omega), dif_pos (by omega)] at i1
                  refine And.intro (by omega) (And.intro (by omega) (X1 _ (row_get (d := e) (n := v) rfl (by omega)) ?_))
                  refine And.intro (by omega) (And.intro (by omega) (X1 _ (row_get (d := e) (n := u) rfl (by omega)) ?_))
                  refine And.intro (by omega) (And.intro (by omega) (X1 _ (row_get (d := e) (n := u) rfl (by omega)) ?_))
                  refine And.intro (by omega) (And.intro (by omega) (X1 _ (row_get2 (d := e) (y := e[v]!) (m := u) (n := v) rfl rfl (by omega)) ?_))
                  refine And.intro rfl ?_
                  refine X1 ((u + 1 : Nat) : Int) (wI (by simp) (by omega) (by omega)) ?_
                  refine X1 ((v - 1 : Nat) : Int) (wI (by omega) (by omega) (by omega)) ?_
                  exact ⟨(u + 1, v - 1, swp e u v), ⟨i1, by rw [swp_size]; exact i2, by omega, by omega, by omega⟩, by show v - 1 + 1 - (u + 1) < j + 1 - i; omega, ⟨rfl, rfl, rfl, rfl, rfl, trivial⟩, ⟨rowE (row_swp (m := u) (n := v) rfl rfl), trivial⟩⟩
          · obtain ⟨g1, g2, g3⟩ := he
            rw [g1]
            refine And.intro (by omega) (And.intro (by omega) (X1 _ (row_get (d := e) (n := a) rfl (by omega)) ?_))
            refine And.intro (by omega) (And.intro (by omega) (X1 _ (row_get (d := e) (n := j) rfl (by omega)) ?_))
            refine And.intro (by omega) (And.intro (by omega) (X1 _ (row_get (d := e) (n := j) rfl (by omega)) ?_))
            refine And.intro (by omega) (And.intro (by omega) (X1 _ (row_get2 (d := e) (y := e[a]!) (m := j) (n := a) rfl rfl (by omega)) ?_))
            refine And.intro rfl ?_
            exact ⟨trivial, SubO.of (l := [(1000000, .row _ _)]) ⟨rowE (row_swp (m := j) (n := a) rfl rfl), trivial⟩, r1 rfl, r1 rfl, trivial⟩
  exact key _ rfl
end Go.Proofs.YtjpbijdpkdmeaaaGreat.Pv.SrtO
namespace Go.Proofs.YtjpbijdpkdmeaaaGreat.Pv.SrtO
open Go Go.Sort
section
variable {cm : El → El → Int} {a b lim : Nat} {wb wp : Bool} {d : Array El}
theorem pdq_s (h : b - a ≤ 12) : pdq (lt cm) d a b lim wb wp = insertionSort (lt cm) d a b := by rw [pdq, if_pos h]
theorem pdq_h (h : ¬ b - a ≤ 12) (h0 : lim = 0) : pdq (lt cm) d a b lim wb wp = heapSort (lt cm) d a b := by rw [pdq, if_neg h, if_pos h0]
theorem pdq_r (h : ¬ b - a ≤ 12) (h0 : ¬ lim = 0) {d1 d2 d3 : Array El} {lim1 pv : Nat} {hint : Hint} {done : Bool} (hd1 : (if (!wb) = true then breakPatterns d a b else d) = d1) (hl1 : (if (!wb) = true then lim - 1 else lim) = lim1) (hd2 : (if (choosePivot (lt cm) d1 a b).2 = .decreasing then reverseRange d1 a b else d1) = d2)
    (hpv : (if (choosePivot (lt cm) d1 a b).2 = .decreasing then (b - 1) - ((choosePivot (lt cm) d1 a b).1 - a) else (choosePivot (lt cm) d1 a b).1) = pv) (hh : (if (choosePivot (lt cm) d1 a b).2 = .decreasing then Hint.increasing else (choosePivot (lt cm) d1 a b).2) = hint)
    (hp : (if (wb && wp && decide (hint = .increasing)) = true then partialInsertionSort (lt cm) d2 a b else (d2, false)) = (d3, done)) :
    pdq (lt cm) d a b lim wb wp = if done = true then d3 else
      if (decide (a > 0) && !(lt cm) d3[a - 1]! d3[pv]!) = true then (match partitionEqual (lt cm) d3 a b pv with
        | (mid, d4) => if _h : a < mid ∧ mid ≤ b then pdq (lt cm) d4 mid b lim1 wb wp else d4)
      else match partition (lt cm) d3 a b pv with
        | (mid, ap, d4) => if _h : a ≤ mid ∧ mid < b then
            if mid - a < b - mid then pdq (lt cm) (pdq (lt cm) d4 a mid lim1 true true) (mid + 1) b lim1 (decide (mid - a ≥ (b - a) / 8)) ap
            else pdq (lt cm) (pdq (lt cm) d4 (mid + 1) b lim1 true true) a mid lim1 (decide (b - mid ≥ (b - a) / 8)) ap
          else d4 := by
  subst hd1 hl1 hd2 hpv hh
  rw [pdq, if_neg h, if_neg h0]
  have e1 := congrArg Prod.fst hp
  have e2 := congrArg Prod.snd hp
  simp only [] at e1 e2
  simp only [e1, e2]
end
theorem quo8 {x : Int} {n : Nat} (h : x = n) : x.tdiv 8 = ((n / 8 : Nat) : Int) := by
  subst h; rw [Int.tdiv_eq_ediv_of_nonneg (by omega)]; omega
variable (cm : El → El → Int)
variable (hc : ∀ x y, Ct P 185 [VL x, VL y] [.c (.sc (.bool (decide (cm x y < 0))))]) (hw : SWO (lt cm))
structure Prt (d : Array El) (n a b : Nat) : Prop where
  sz : d.size = n
  ab : a ≤ b
  bn : b ≤ n
  bel : Below (lt cm) a b d
include hc hw
theorem pdq_ct : ∀ (n : Nat) (d : Array El) (a b lim : Nat), b - a ≤ n → Prt cm d d.size a b → d.size ≤ 1000000 → lim ≤ 1000 →
    CtO P 168 [dO d] [dA d, .c (nI .i64 a), .c (nI .i64 b), .c (nI .i64 lim)] [dO (pdq (lt cm) d a b lim true true)] [] := by
  intro n
  induction n using Nat.strongRecOn with
  | _ n ih =>
  intro d0 a0 b0 lim0 hn hprt hsz hlim0
  generalize hF : pdq (lt cm) d0 a0 b0 lim0 true true = F
  have self : ∀ (d : Array El) (a b lim : Nat), b - a < n → Prt cm d d0.size a b → lim ≤ 1000 → CtO P 168 [dO d] [.c (.ow 1000000 SZ d0.size), .c (nI .i64 a), .c (nI .i64 b), .c (nI .i64 lim)] [dO (pdq (lt cm) d a b lim true true)] [] := by
    intro d a b lim h1 h2 h3
    have := ih (b - a) h1 d a b lim (Nat.le_refl _) (by rw [h2.sz]; exact h2) (by rw [h2.sz]; exact hsz) h3
    rwa [dA, h2.sz] at this
  refine Ct.io T_ok T_mix (N := 134) Tryz.func168 rfl rfl rfl rfl ?_
  refine loopI (G := Nat × Nat × Nat × Bool × Bool × Array El) (fun (a, b, lim, wb, wp, d) => pdq (lt cm) d a b lim wb wp = F ∧ Prt cm d d0.size a b ∧ lim ≤ 1000 ∧ b - a ≤ n) (fun (a, b, lim, wb, wp, _) => [(0, .c (.ow 1000000 SZ d0.size)), (1, .c (nI .i64 a)), (2, .c (nI .i64 b)), (3, .c (nI .i64 lim)), (0, .c (.ow 1000000 SZ d0.size)), (8, .c (.sc (.bool wb))), (9, .c (.sc (.bool wp)))]) (fun (_, _, _, _, _, d) => [(1000000, .row SZ (row d))]) (fun (a, b, _, _, _, _) => b - a)
    (a0, b0, lim0, true, true, d0) ⟨hF, hprt, hlim0, hn⟩ ⟨rfl, rfl, rfl, rfl, rfl, rfl, rfl, trivial⟩ ⟨rfl, trivial⟩ (fun (a, b, lim, wb, wp, d) hi => ?_)
  obtain ⟨i1, i2, i3, i4⟩ := hi
  have hds := i2.sz
  have hab := i2.ab
  have hbs := i2.bn
  refine blockI ?_
  refine seqI T_ok T_mix ?_
  refine X1 ((b - a : Nat) : Int) (wI (by omega) (by omega) (by omega)) ?_
  refine seqI T_ok T_mix ?_
  refine dcase (fun h12 => ?_) (fun h12 => ?_)
  · rw [pdq_s (by omega)] at i1
    have hs := ins_ct cm hc d a b hab (by omega) (by omega)
    rw [dA, hds, i1] at hs
    refine X2 (.upd 1000000) ?_
    refine ⟨_, _, hs, ?_⟩
    exact ⟨trivial, SubO.of (l := [(1000000, .row _ _)]) ⟨rfl, trivial⟩, trivial⟩
  refine seqI T_ok T_mix ?_
  refine ecase (fun hl0 => ?_) (fun hl0 => ?_)
  · rw [pdq_h (by omega) (by omega)] at i1
    have hs := heap_ct cm hc d a b (by omega) (by omega) (by omega)
    rw [dA, hds, i1] at hs
    refine X2 (.upd 1000000) ?_
    refine ⟨_, _, hs, ?_⟩
    exact ⟨trivial, SubO.of (l := [(1000000, .row _ _)]) ⟨rfl, trivial⟩, trivial⟩
  have hstep := @pdq_r cm a b lim wb wp d (by omega) (by omega)
  refine cutI T_ok T_mix (G2 := Nat × Array El) (fun (l1, d1) => (if (!wb) = true then breakPatterns d a b else d) = d1 ∧ (if (!wb) = true then lim - 1 else lim) = l1 ∧ Prt cm d1 d0.size a b ∧ l1 ≤ 1000)
    (fun (l1, _) => [(0, .c (.ow 1000000 SZ d0.size)), (1, .c (nI .i64 a)), (2, .c (nI .i64 b)), (3, .c (nI .i64 l1)), (0, .c (.ow 1000000 SZ d0.size)), (8, .c (.sc (.bool wb))), (9, .c (.sc (.bool wp))), (10, .c (nI .i64 (b - a)))]) (fun (_, d1) => [(1000000, .row SZ (row d1))]) ?_ (fun (l1, d1) h1 => ?_)
  · refine bcase (fun hb1 => ?_) (fun hb1 => ?_)
    · have hp := breakPatterns_holds d a b hab (by omega)
      have hs := break_ct d a b (by omega) (by omega) (by omega)
      rw [dA, hds] at hs
      refine X2 (.upd 1000000) ?_
      refine ⟨_, _, hs, ?_⟩
      refine X1 ((lim - 1 : Nat) : Int) (wI (by omega) (by omega) (by omega)) ?_
      exact ⟨(lim - 1, breakPatterns d a b), ⟨if_pos hb1, if_pos hb1, ⟨by rw [hp.1]; exact hds, hab, hbs, i2.bel.perm (by omega) hp⟩, by omega⟩, ⟨rfl, rfl, rfl, rfl, rfl, rfl, rfl, rfl, trivial⟩, ⟨rfl, trivial⟩⟩
    · exact ⟨(lim, d), ⟨if_neg (by rw [hb1]; simp), if_neg (by rw [hb1]; simp), i2, i3⟩, ⟨rfl, rfl, rfl, rfl, rfl, rfl, rfl, rfl, trivial⟩, ⟨rfl, trivial⟩⟩
  obtain ⟨e1, e2, p1, l1b⟩ := h1
  have hd1s := p1.sz
  refine seqI T_ok T_mix ?_
  have hcp := choosePivot_holds (lt cm) d1 a b (by omega)
  have hs := choose_ct cm hc d1 a b (by omega) (by omega) (by omega)
  rw [dA, hd1s] at hs
  refine X2 (.upd 1000000) ?_
  refine ⟨_, _, hs, ?_⟩
  have hstep2 := fun (d2 d3 : Array El) (pv : Nat) (hint : Hint) (done : Bool) => @hstep d1 d2 d3 l1 pv hint done e1 e2
  generalize choosePivot (lt cm) d1 a b = cp at *
  obtain ⟨pv0, hint0⟩ := cp
  refine cutI T_ok T_mix (G2 := Nat × Hint × Array El) (fun (pv, hint, d2) => (if hint0 = .decreasing then reverseRange d1 a b else d1) = d2 ∧ (if hint0 = .decreasing then (b - 1) - (pv0 - a) else pv0) = pv ∧ (if hint0 = .decreasing then Hint.increasing else hint0) = hint ∧ Prt cm d2 d0.size a b ∧ a ≤ pv ∧ pv < b)
    (fun (pv, hint, _) => [(0, .c (.ow 1000000 SZ d0.size)), (1, .c (nI .i64 a)), (2, .c (nI .i64 b)), (3, .c (nI .i64 l1)), (0, .c (.ow 1000000 SZ d0.size)), (8, .c (.sc (.bool wb))), (9, .c (.sc (.bool wp))), (10, .c (nI .i64 (b - a))), (11, .c (nI .i64 pv)), (12, .c (eI .i64 (hV hint)))]) (fun (_, _, d2) => [(1000000, .row SZ (row d2))]) ?_ (fun (pv, hint, d2) h2 => ?_)
  · refine ecase (fun hh => ?_) (fun hh => ?_)
    · have hdec : hint0 = .decreasing := by cases hint0 <;> first | rfl | (exfalso; simp only [hV] at hh; omega)
      have hp := reverseRange_holds d1 a b hab (by omega)
      have hs := reverse_ct d1 a b (by omega) (by omega) (by omega)
      rw [dA, hd1s] at hs
      refine X2 (.upd 1000000) ?_
      refine ⟨_, _, hs, ?_⟩
      simp only at hcp
      refine X1 ((b - 1 : Nat) : Int) (wI (by omega) (by omega) (by omega)) ?_
      refine X1 ((pv0 - a : Nat) : Int) (wI (by omega) (by omega) (by omega)) ?_
      refine X1 ((b - 1 - (pv0 - a) : Nat) : Int) (wI (by omega) (by omega) (by omega)) ?_
      exact ⟨(b - 1 - (pv0 - a), .increasing, reverseRange d1 a b), ⟨if_pos hdec, if_pos hdec, if_pos hdec, ⟨by rw [hp.1]; exact hd1s, hab, hbs, p1.bel.perm (by omega) hp⟩, by omega, by omega⟩, ⟨rfl, rfl, rfl, rfl, rfl, rfl, rfl, rfl, rfl, rfl, trivial⟩, ⟨rfl, trivial⟩⟩
    · have hdec : ¬ hint0 = .decreasing := fun h => by subst h; exact hh rfl
      simp only at hcp
      exact ⟨(pv0, hint0, d1), ⟨if_neg hdec, if_neg hdec, if_neg hdec, p1, hcp.1, hcp.2⟩, ⟨rfl, rfl, rfl, rfl, rfl, rfl, rfl, rfl, rfl, rfl, trivial⟩, ⟨rfl, trivial⟩⟩
  obtain ⟨e3, e4, e5, p2, pva, pvb⟩ := h2
  have hd2s := p2.sz
  have hstep3 := fun (d3 : Array El) (done : Bool) => hstep2 d2 d3 pv hint done e3 e4 e5
  refine cutI T_ok T_mix (G2 := Array El) (fun d3 => (if (wb && wp && decide (hint = .increasing)) = true then partialInsertionSort (lt cm) d2 a b else (d2, false)) = (d3, false) ∧ Prt cm d3 d0.size a b)
    (fun _ => [(0, .c (.ow 1000000 SZ d0.size)), (1, .c (nI .i64 a)), (2, .c (nI .i64 b)), (3, .c (nI .i64 l1)), (0, .c (.ow 1000000 SZ d0.size)), (8, .c (.sc (.bool wb))), (9, .c (.sc (.bool wp))), (10, .c (nI .i64 (b - a))), (11, .c (nI .i64 pv))]) (fun d3 => [(1000000, .row SZ (row d3))]) ?_ (fun d3 h3 => ?_)
  · have no : (wb && wp && decide (hint = .increasing)) = false → ∃ g2, ((if (wb && wp && decide (hint = .increasing)) = true then partialInsertionSort (lt cm) d2 a b else (d2, false)) = (g2, false) ∧ Prt cm g2 d0.size a b) ∧ g2 = d2 := fun h => ⟨d2, ⟨if_neg (by rw [h]; simp), p2⟩, rfl⟩
    refine bcase (fun hwb => ?_) (fun hwb => ?_)
    · subst hwb
      refine bcase (fun hwp => ?_) (fun hwp => ?_)
      · subst hwp
        refine ecase (fun hh => ?_) (fun hh => ?_)
        · have hinc : hint = .increasing := by cases hint <;> first | rfl | (exfalso; simp only [hV] at hh; omega)
          have hp := (partialInsertionSort_holds (lt := lt cm) hw d2 a b (by omega) (by omega) p2.bel).1
          have hs := pIns_ct cm hc d2 a b (by omega) (by omega) (by omega)
          have hcond : (true && true && decide (hint = .increasing)) = true := by rw [hinc]; rfl
          rw [if_pos hcond] at hstep3 ⊢
          rw [dA, hd2s] at hs
          refine X2 (.upd 1000000) ?_
          refine ⟨_, _, hs, ?_⟩
          generalize hpi : partialInsertionSort (lt cm) d2 a b = pi at *
          obtain ⟨d3, done⟩ := pi
          refine bcase (fun hdn => ?_) (fun hdn => ?_)
          · have hdn' : done = true := hdn
            have := hstep3 d3 done rfl
            rw [if_pos hdn', i1] at this
            rw [this]
            exact ⟨trivial, SubO.of (l := [(1000000, .row _ _)]) ⟨rfl, trivial⟩, trivial⟩
          · have hdn' : done = false := hdn
            subst hdn'
            exact ⟨d3, ⟨rfl, ⟨by rw [hp.1]; exact hd2s, hab, hbs, p2.bel.perm (by omega) hp⟩⟩, ⟨rfl, rfl, rfl, rfl, rfl, rfl, rfl, rfl, rfl, trivial⟩, ⟨rfl, trivial⟩⟩
        · have hinc : ¬ hint = .increasing := fun h => by subst h; exact hh rfl
          obtain ⟨d3, h1, h2⟩ := no (by simp [hinc])
          subst h2
          exact ⟨d3, h1, ⟨rfl, rfl, rfl, rfl, rfl, rfl, rfl, rfl, rfl, trivial⟩, ⟨rfl, trivial⟩⟩
      · subst hwp
        obtain ⟨d3, h1, h2⟩ := no rfl
        subst h2
        exact ⟨d3, h1, ⟨rfl, rfl, rfl, rfl, rfl, rfl, rfl, rfl, rfl, trivial⟩, ⟨rfl, trivial⟩⟩
    · subst hwb
      obtain ⟨d3, h1, h2⟩ := no rfl
      subst h2
      exact ⟨d3, h1, ⟨rfl, rfl, rfl, rfl, rfl, rfl, rfl, rfl, rfl, trivial⟩, ⟨rfl, trivial⟩⟩
  obtain ⟨e6, p3⟩ := h3
  have hd3s := p3.sz
  have hst := hstep3 d3 false e6
  rw [if_neg (by simp), i1] at hst
  clear hstep3 hstep2 hstep e6
  refine cutI T_ok T_mix (G2 := Unit) (fun _ => (decide (a > 0) && !(lt cm) d3[a - 1]! d3[pv]!) = false)
    (fun _ => [(0, .c (.ow 1000000 SZ d0.size)), (1, .c (nI .i64 a)), (2, .c (nI .i64 b)), (3, .c (nI .i64 l1)), (0, .c (.ow 1000000 SZ d0.size)), (10, .c (nI .i64 (b - a))), (11, .c (nI .i64 pv))]) (fun _ => [(1000000, .row SZ (row d3))]) ?_ (fun _ h4 => ?_)
  · refine dcase (fun ha => ?_) (fun ha => ?_)
    · refine X1 ((a - 1 : Nat) : Int) (wI (by omega) (by omega) (by omega)) ?_
      refine And.intro (by omega) (And.intro (by omega) (X1 _ (row_get (d := d3) (n := a - 1) rfl (by omega)) ?_))
      refine And.intro (by omega) (And.intro (by omega) (X1 _ (row_get (d := d3) (n := pv) rfl (by omega)) ?_))
      refine X1 _ (hc _ _) ?_
      refine And.intro rfl ?_
      refine bcase (fun hq => ?_) (fun hq => ?_)
      · have hnl : lt cm d3[a - 1]! d3[pv]! = false := by simpa [lt] using hq
        rw [if_pos (by rw [hnl]; simp; omega)] at hst
        have hs := pEq_ct cm hc d3 a b pv (by omega) (by omega) (by omega) (by omega)
        rw [dA, hd3s] at hs
        generalize hx : partitionEqual (lt cm) d3 a b pv = px at *
        obtain ⟨mid, d4⟩ := px
        obtain ⟨r1', r2', r3', r4', _⟩ := round_eq hw (partitionEqual_holds (lt cm)) (by omega) pva pvb (by omega) p3.bel hnl hx
        refine X2 (.upd 1000000) ?_
        refine ⟨_, _, hs, ?_⟩
        simp only at hst
        rw [dif_pos ⟨r1', r2'⟩] at hst
        exact ⟨(mid, b, l1, wb, wp, d4), ⟨hst.symm, ⟨by rw [r3']; exact hd3s, r2', hbs, r4'⟩, l1b, by omega⟩, by show b - mid < b - a; omega, ⟨rfl, rfl, rfl, rfl, rfl, rfl, rfl, trivial⟩, ⟨rfl, trivial⟩⟩
      · have hnl : lt cm d3[a - 1]! d3[pv]! = true := by simpa [lt] using hq
        exact ⟨(), by rw [hnl]; simp, ⟨rfl, rfl, rfl, rfl, rfl, rfl, rfl, trivial⟩, ⟨rfl, trivial⟩⟩
    · refine And.intro rfl ?_
      exact ⟨(), by rw [decide_eq_false (by omega)]; rfl, ⟨rfl, rfl, rfl, rfl, rfl, rfl, rfl, trivial⟩, ⟨rfl, trivial⟩⟩
  rw [if_neg (by rw [h4]; simp)] at hst
  have hs := part_ct cm hc d3 a b pv (by omega) (by omega) (by omega) (by omega)
  rw [dA, hd3s] at hs
  generalize hx : partition (lt cm) d3 a b pv = px at *
  obtain ⟨mid, ap, d4⟩ := px
  obtain ⟨m1, m2, m3, m4, m5, m6, m7⟩ := round_part hw (partition_holds (lt cm)) pva pvb (by omega) p3.bel hx
  simp only at hst
  rw [dif_pos ⟨m1, m2⟩] at hst
  have hd4s : d4.size = d0.size := by rw [m3]; exact hd3s
  refine joinC T_ok T_mix ?_
  refine X2 (.upd 1000000) ?_
  refine ⟨_, _, hs, ?_⟩
  refine X1 ((mid - a : Nat) : Int) (wI (by omega) (by omega) (by omega)) ?_
  refine X1 ((b - mid : Nat) : Int) (wI (by omega) (by omega) (by omega)) ?_
  refine And.intro (by omega) (X1 _ (quo8 rfl) (And.intro ⟨by omega, by omega⟩ ?_))
  refine dcase (fun hlt => ?_) (fun hlt => ?_)
  · rw [if_pos (by omega)] at hst
    have hL := pdq_sorts (lt cm) hw d4 a mid l1 true true m1 (by omega) m4
    have hs := self d4 a mid l1 (by omega) ⟨hd4s, m1, by omega, m4⟩ l1b
    refine X2 (.upd 1000000) ?_
    refine ⟨_, _, hs, ?_⟩
    refine X1 ((mid + 1 : Nat) : Int) (wI (by simp) (by omega) (by omega)) ?_
    exact ⟨(mid + 1, b, l1, decide (mid - a ≥ (b - a) / 8), ap, pdq (lt cm) d4 a mid l1 true true), ⟨hst.symm, ⟨by rw [hL.1.1]; exact hd4s, by omega, hbs, (m6 _ hL.1 hL.2).1⟩, l1b, by omega⟩, by show b - (mid + 1) < b - a; omega, ⟨rfl, rfl, rfl, rfl, rfl, blC (by rw [decide_eq_decide]; omega), rfl, trivial⟩, ⟨rfl, trivial⟩⟩
  · rw [if_neg (by omega)] at hst
    have hL := pdq_sorts (lt cm) hw d4 (mid + 1) b l1 true true (by omega) (by omega) m5
    have hs := self d4 (mid + 1) b l1 (by omega) ⟨hd4s, by omega, hbs, m5⟩ l1b
    refine X1 ((mid + 1 : Nat) : Int) (wI (by simp) (by omega) (by omega)) ?_
    refine X2 (.upd 1000000) ?_
    refine ⟨_, _, hs, ?_⟩
    exact ⟨(a, mid, l1, decide (b - mid ≥ (b - a) / 8), ap, pdq (lt cm) d4 (mid + 1) b l1 true true), ⟨hst.symm, ⟨by rw [hL.1.1]; exact hd4s, m1, by omega, (m7 _ hL.1 hL.2).1⟩, l1b, by omega⟩, by show mid - a < b - a; omega, ⟨rfl, rfl, rfl, rfl, rfl, blC (by rw [decide_eq_decide]; omega), rfl, trivial⟩, ⟨rfl, trivial⟩⟩
theorem sortF_ct (d : Array El) (hd : d.size ≤ 1000000) : CtO P 144 [dO d] [dA d] [dO (Sort.sort (lt cm) d)] [] := by
  have hb := bits_small hd
  have hp := pdq_ct cm hc hw d.size d 0 d.size (bitsLen d.size) (by omega) ⟨rfl, by omega, by omega, .inl rfl⟩ hd (by omega)
  refine Ct.io T_ok T_mix (N := 11) Tryz.func144 rfl rfl rfl rfl ?_
  refine And.intro (by omega) ?_
  refine X1 ((d.size : Nat) : Int) (wU rfl (by omega) (by omega)) ?_
  refine X1 _ (len_ct d.size (by omega)) ?_
  refine X2 (.upd 1000000) ?_
  refine ⟨_, _, hp, ?_⟩
  exact ⟨trivial, SubO.of (l := [(1000000, .row _ _)]) ⟨rfl, trivial⟩, trivial⟩
omit hc in
theorem sort_spec (d : Array El) : (Sort.sort (lt cm) d).toList.Perm d.toList ∧ SortedIn (lt cm) 0 d.size (Sort.sort (lt cm) d) := by
  obtain ⟨h1, h2⟩ := sort_sorts (lt cm) hw d
  refine ⟨?_, h2⟩
  have := h1.2.2
  have e : (Sort.sort (lt cm) d).extract 0 d.size = Sort.sort (lt cm) d := by
    rw [show d.size = (Sort.sort (lt cm) d).size from h1.1.symm]; simp
  rw [e] at this
  simpa using this
end Go.Proofs.YtjpbijdpkdmeaaaGreat.Pv.SrtO
namespace Go.Proofs.YtjpbijdpkdmeaaaGreat.Pv
open Go
theorem lessO_ct (x y : Int) : Ct P 185 [.c (eI .i64 x), .c (eI .i64 y)] [.c (.sc (.bool (decide (cmpI x y < 0))))] := by
  refine Ct.go T_ok T_mix (N := 17) Tryz.func185 rfl rfl rfl rfl ?_
  refine X1 _ (nanI_ct x) ?_
  exact ⟨trivial, r1 (blE (decide_eq_decide.2 cmpI_lt.symm)), trivial⟩
theorem cloneN_ct (l : List Int) (hl : l.length ≤ 1000000) : Ct P 68 [.c (iSl l)] [.c (iSl l)] := by
  refine Ct.go T_ok T_mix (N := 8) Tryz.func68 rfl rfl rfl rfl ?_
  intro b hb
  cases b with
  | true =>
    have : l = [] := List.length_eq_zero_iff.1 (by have := hb rfl; rwa [iRow_len] at this)
    subst this
    exact ⟨trivial, ⟨_, rfl, .inr (.inl ⟨rfl, 1, rfl⟩)⟩, trivial⟩
  | false =>
    refine ⟨rfl, by rw [iRow_len]; show (0 + l.length + 768) * 8 ≤ _; omega, by rw [iRow_len]; show 0 + l.length ≤ _; omega, nil_closed, iRow_closed, ?_⟩
    exact ⟨trivial, r1 rfl, trivial⟩
theorem iRow_gN {l : List Int} {n : Nat} (h : n < l.length) : (iRow l)[n]? = some [eI .i64 (l.getD n 0)] := by
  have := iRow_getN (l := l) (i := (n : Int)) rfl h
  rwa [Int.toNat_natCast] at this
theorem bsearch_ct (l : List Int) (v : Int) (k : Nat) (hl : l.length ≤ 1000000) (hk : k < l.length) (h1 : ∀ i, i < k → l.getD i 0 < v) (h2 : ∀ i, k ≤ i → i < l.length → v ≤ l.getD i 0) (hv : l.getD k 0 = v) :
    Ct P 171 [.c (iSl l), .c (eI .i64 v)] [.c (nI .i64 k), .c (.sc (.bool true))] := by
  refine Ct.go T_ok T_mix (N := 54) Tryz.func171 rfl rfl rfl rfl ?_
  refine And.intro (by rw [iRow_len]; omega) ?_
  rw [iRow_len]
  refine loopJ T_ok T_mix (G := Nat × Nat) (fun (i, j) => i ≤ k ∧ k ≤ j ∧ j ≤ l.length) (fun (i, j) => [(0, .c (iSl l)), (1, .c (eI .i64 v)), (6, .c (nI .i64 l.length)), (7, .c (nI .i64 i)), (8, .c (nI .i64 j))]) (fun _ => []) (fun (i, j) => j - i)
    (0, l.length) ⟨by omega, by omega, Nat.le_refl _⟩ ⟨rfl, rfl, rfl, rfl, rfl, trivial⟩ trivial (fun _ : Unit => True) (fun _ => [(0, .c (iSl l)), (1, .c (eI .i64 v)), (6, .c (nI .i64 l.length)), (7, .c (nI .i64 k))]) (fun _ => []) (fun (i, j) hg => ?_) (fun _ _ => ?_)
  · obtain ⟨g1, g2, g3⟩ := hg
    refine dcase (fun h5 => ?_) (fun h5 => ?_)
    · obtain ⟨m, hm⟩ : ∃ m, m = (i + j) / 2 := ⟨_, rfl⟩
      refine X1 ((i + j : Nat) : Int) (wI (by simp) (by omega) (by omega)) ?_
      refine X1 ((i + j : Nat) : Int) (wU rfl (by omega) (by omega)) ?_
      refine And.intro (by decide) (X1 ((m : Nat) : Int) (by rw [hm]; exact shr1) (And.intro (inU (by omega)) ?_))
      refine X1 ((m : Nat) : Int) (wI rfl (by omega) (by omega)) ?_
      refine And.intro (by omega) (X1 _ (iRow_getN rfl (by omega)) ?_)
      refine X1 _ (lessO_ct _ v) ?_
      refine dcase (fun h6 => ?_) (fun h6 => ?_)
      · have h6 := cmpI_lt.1 h6
        refine X1 ((m + 1 : Nat) : Int) (wI (by simp) (by omega) (by omega)) ?_
        refine ⟨(m + 1, j), ⟨?_, g2, g3⟩, by show j - (m + 1) < j - i; omega, ⟨rfl, rfl, rfl, rfl, rfl, trivial⟩, trivial⟩
        apply Classical.byContradiction
        intro h7
        have := h2 m (by omega) (by omega)
        omega
      · have h6 : ¬ l.getD m 0 < v := fun h => h6 (cmpI_lt.2 h)
        refine ⟨(i, m), ⟨g1, ?_, by omega⟩, by show m - i < j - i; omega, ⟨rfl, rfl, rfl, rfl, rfl, trivial⟩, trivial⟩
        apply Classical.byContradiction
        intro h7
        exact h6 (h1 m (by omega))
    · have : i = k := by omega
      subst this
      exact ⟨(), trivial, ⟨rfl, rfl, rfl, rfl, trivial⟩, trivial⟩
  · refine dcase (fun h5 => ?_) (fun h5 => absurd (by omega) h5)
    refine And.intro (by omega) (X1 _ (iRow_getN rfl hk) ?_)
    rw [hv]
    refine ecase (fun h6 => ?_) (fun h6 => absurd rfl h6)
    exact ⟨trivial, r1 rfl, r1 rfl, trivial⟩
theorem qof_ct (l : List Int) (hl : l.length ≤ 1000000) (h : RiseI l) : Ct P 145 [.c (iSl l)] [.c (bkV l), .c (nI .i64 0)] := by
  have hr : ∀ i, i + 1 < l.length → l.getD i 0 < l.getD (i + 1) 0 := fun i hi => by
    have := List.pairwise_iff_getElem.1 h i (i + 1) (by omega) hi (by omega)
    rw [List.getD_eq_getElem?_getD, List.getElem?_eq_getElem (by omega), List.getD_eq_getElem?_getD, List.getElem?_eq_getElem hi]
    exact this
  refine Ct.go T_ok T_mix (N := 25) Tryz.func145 rfl rfl rfl rfl ?_
  refine loopJ T_ok T_mix (fun i : Nat => i ≤ l.length) (fun i => [(0, .c (iSl l)), (4, .c (nI .i64 (i + 1)))]) (fun _ => []) (fun i => l.length - i)
    0 (by omega) ⟨rfl, rfl, trivial⟩ trivial (fun _ : Unit => True) (fun _ => [(0, .c (iSl l))]) (fun _ => []) (fun i hi => ?_) (fun _ _ => ?_)
  · refine And.intro (by rw [iRow_len]; omega) ?_
    rw [iRow_len]
    refine dcase (fun h5 => ?_) (fun h5 => ?_)
    · have hlt := hr i (by omega)
      refine And.intro (by omega) (X1 _ (iRow_getN (n := i + 1) (by omega) (by omega)) ?_)
      refine X1 ((i : Nat) : Int) (wI (by omega) (by omega) (by omega)) ?_
      refine And.intro (by omega) (X1 _ (iRow_getN rfl (by omega)) ?_)
      refine And.intro rfl ?_
      refine dcase (fun h7 => absurd h7 (by omega)) (fun _ => ?_)
      refine X1 ((i + 1 + 1 : Nat) : Int) (wI (by simp) (by omega) (by omega)) ?_
      exact ⟨i + 1, by omega, by omega, ⟨rfl, rfl, trivial⟩, trivial⟩
    · exact ⟨(), trivial, ⟨rfl, trivial⟩, trivial⟩
  · refine X1 _ (cloneN_ct l hl) ?_
    exact ⟨trivial, r1 rfl, r1 rfl, trivial⟩
theorem qlen_ct (l : List Int) (hl : l.length ≤ 1000000) : Ct P 170 [.c (bkV l)] [.c (nI .i64 l.length)] := by
  refine Ct.go T_ok T_mix (N := 10) Tryz.func170 rfl rfl rfl rfl ?_
  refine And.intro (by rw [iRow_len]; omega) ?_
  rw [iRow_len]
  exact ⟨trivial, r1 rfl, trivial⟩
theorem qwidth_ct (l : List Int) (hl : l.length ≤ 1000000) : Ct P 148 [.c (bkV l)] [.c (nI .i64 (blen (l.length - 1)))] := by
  refine Ct.go T_ok T_mix (N := 9) Tryz.func148 rfl rfl rfl rfl ?_
  refine X1 _ (qlen_ct l hl) ?_
  refine X1 ((l.length : Int) - 1) (wI rfl (by omega) (by omega)) ?_
  refine X1 ((l.length - 1 : Nat) : Int) (wU (by split <;> omega) (by omega) (by omega)) ?_
  refine X1 _ (width_ct (l.length - 1) (by omega)) ?_
  exact ⟨trivial, r1 rfl, trivial⟩
theorem qlevel_ct (l : List Int) (i : Nat) (hl : l.length ≤ 1000000) (hi : i < l.length) : Ct P 151 [.c (bkV l), .c (nI .i64 i)] [.c (eI .i64 (l.getD i 0))] := by
  refine Ct.go T_ok T_mix (N := 20) Tryz.func151 rfl rfl rfl rfl ?_
  refine X1 _ (qlen_ct l hl) ?_
  refine dcase (fun h => absurd h (by omega)) (fun _ => ?_)
  refine And.intro (by omega) (X1 _ (iRow_getN rfl hi) ?_)
  exact ⟨trivial, r1 rfl, trivial⟩
theorem qcode_ct (l : List Int) (v : Int) (hl : l.length ≤ 1000000) (h : RiseI l) (hv : v ∈ l) : Ct P 147 [.c (bkV l), .c (eI .i64 v)] [.c (nI .i64 (l.idxOf v))] := by
  have hi : l.idxOf v < l.length := List.idxOf_lt_length_iff.2 hv
  obtain ⟨h1, h2⟩ := riseI_idx h hv
  have h3 : l.getD (l.idxOf v) 0 = v := by rw [List.getD_eq_getElem?_getD, idxI_get hv]; rfl
  refine Ct.go T_ok T_mix (N := 24) Tryz.func147 rfl rfl rfl rfl ?_
  refine X1 _ (qlen_ct l hl) ?_
  refine ecase (fun h => absurd h (by omega)) (fun _ => ?_)
  refine X1 _ (bsearch_ct l v (l.idxOf v) hl hi h1 h2 h3) ?_
  exact ⟨trivial, r1 rfl, trivial⟩
theorem compact_ct (l : List Int) (hl : l.length ≤ 100000) : CtO P 146 [(1000000, some (.row 1 (iRow l)))] [.c (.ow 1000000 1 l.length)] [] [.c (iSl (dedA l))] := by
  refine Ct.go T_ok T_mix (N := 61) Tryz.func146 rfl rfl rfl rfl ?_
  refine And.intro (by show l.length ≤ _; omega) ?_
  refine dcase (fun h0 => ?_) (fun h0 => ?_)
  · have e : dedA l = l := by
      match l, h0 with
      | [], _ => rfl
      | [x], _ => rfl
      | x :: y :: r, h => exact absurd h (by simp only [List.length_cons]; omega)
    exact ⟨trivial, r1 (by rw [e]; rfl), trivial⟩
  refine loopJ T_ok T_mix (fun k : Nat => 1 ≤ k ∧ k ≤ l.length ∧ dedA (l.take k) = l.take k) (fun k => [(0, .c (.ow 1000000 1 l.length)), (3, .c (nI .i64 k))]) (fun _ => [(1000000, .row 1 (iRow l))]) (fun k => l.length - k)
    1 ⟨by omega, by omega, by
      match l, h0 with
      | [], _ => rfl
      | x :: r, _ => rfl⟩ ⟨rfl, rfl, trivial⟩ ⟨rfl, trivial⟩ (fun _ : Unit => dedA l = l) (fun _ => [(0, .c (.ow 1000000 1 l.length))]) (fun _ => [(1000000, .row 1 (iRow l))]) (fun k hg => ?_) (fun _ hg => ?_)
  · obtain ⟨k1, k2, k3⟩ := hg
    refine And.intro (by show l.length ≤ _; omega) ?_
    refine dcase (fun h1 => ?_) (fun h1 => ?_)
    · have hk : k < l.length := by omega
      have hd := dedA_take hk
      refine And.intro (by omega) (And.intro (by omega) (X1 _ (iRow_getN rfl hk) ?_))
      refine X1 ((k - 1 : Nat) : Int) (wI (by omega) (by omega) (by omega)) ?_
      refine And.intro (by omega) (And.intro (by omega) (X1 _ (iRow_getN rfl (by omega)) ?_))
      refine And.intro rfl ?_
      refine ecase (fun h2 => ?_) (fun h2 => ?_)
      · rw [if_pos ⟨by omega, h2.symm⟩, k3] at hd
        refine .inl ⟨k, l.length, by simp, rfl, Nat.le_refl _, by omega, .inr ⟨hk, ?_⟩⟩
        refine loopJ T_ok T_mix (G := Nat × Nat × List Int) (fun (j, q, A) => 1 ≤ j ∧ k + j ≤ l.length ∧ 1 ≤ q ∧ q + 1 ≤ k + j ∧ A.length = l.length ∧ A.take q = dedA (l.take (k + j)) ∧ ∀ i, k + j ≤ i + 1 → A.getD i 0 = l.getD i 0)
          (fun (j, q, A) => [(0, .c (.ow 1000000 1 l.length)), (3, .c (nI .i64 q)), (4, .c (.os 1000000 1 k (l.length - k))), (5, .c (nI .i64 j))]) (fun (j, q, A) => [(1000000, .row 1 (iRow A))]) (fun (j, q, A) => l.length - j)
          (1, k, l) ⟨by omega, by omega, by omega, by omega, rfl, hd.symm, fun _ _ => rfl⟩ ⟨rfl, rfl, rfl, rfl, trivial⟩ ⟨rfl, trivial⟩
          (fun (q, A) => 1 ≤ q ∧ q < l.length ∧ A.length = l.length ∧ A.take q = dedA l) (fun ((q, A) : Nat × List Int) => [(0, .c (.ow 1000000 1 l.length)), (3, .c (nI .i64 q))]) (fun (q, A) => [(1000000, .row 1 (iRow A))]) (fun (j, q, A) hg => ?_) (fun (q, A) hg => ?_)
        · obtain ⟨g1, g2, g3, g4, g5, g6, g7⟩ := hg
          refine And.intro (by show l.length - k ≤ _; omega) ?_
          refine dcase (fun h3 => ?_) (fun h3 => ?_)
          · have hj : k + j < l.length := by omega
            have hd2 := dedA_take hj
            have e1 := g7 (k + j) (by omega)
            have e2 := g7 (k + (j - 1)) (by omega)
            have e3 : k + j - 1 = k + (j - 1) := by omega
            rw [e3] at hd2
            refine And.intro (by omega) (And.intro (by omega) (X1 _ (by rw [Int.toNat_natCast]; exact iRow_gN (by omega)) ?_))
            refine X1 ((j - 1 : Nat) : Int) (wI (by omega) (by omega) (by omega)) ?_
            refine And.intro (by omega) (And.intro (by omega) (X1 _ (by rw [Int.toNat_natCast]; exact iRow_gN (by omega)) ?_))
            rw [e1, e2]
            refine And.intro rfl ?_
            refine ncase (fun h4 => ?_) (fun h4 => ?_)
            · rw [if_neg (fun hh => h4 hh.2.symm), ← g6] at hd2
              refine And.intro (by omega) (And.intro (by omega) (X1 _ (by rw [Int.toNat_natCast]; exact iRow_gN (by omega)) ?_))
              rw [e1]
              refine And.intro (by omega) (And.intro (by omega) ?_)
              refine X1 _ (iRow_getN (n := q) rfl (by omega)) ?_
              refine X1 ((q + 1 : Nat) : Int) (wI (by simp) (by omega) (by omega)) ?_
              refine X1 ((j + 1 : Nat) : Int) (wI (by simp) (by omega) (by omega)) ?_
              refine ⟨(j + 1, q + 1, A.set q (l.getD (k + j) 0)), ⟨by omega, by omega, by omega, by omega, by rw [List.length_set]; exact g5, ?_, fun i hi => ?_⟩, by show l.length - (j + 1) < l.length - j; omega, ⟨rfl, rfl, rfl, rfl, trivial⟩, ⟨rowE (by rw [Int.toNat_natCast]; simp [iRow, List.map_set]; rfl), trivial⟩⟩
              · rw [show k + (j + 1) = k + j + 1 by omega, hd2]
                rw [List.take_succ_eq_append_getElem (by rw [List.length_set]; omega), List.take_set_of_le (Nat.le_refl q), List.getElem_set_self]
              · rw [List.getD_eq_getElem?_getD, List.getElem?_set_ne (by omega), ← List.getD_eq_getElem?_getD]
                exact g7 i (by omega)
            · rw [if_pos ⟨by omega, h4.symm⟩] at hd2
              refine X1 ((j + 1 : Nat) : Int) (wI (by simp) (by omega) (by omega)) ?_
              exact ⟨(j + 1, q, A), ⟨by omega, by omega, g3, by omega, g5, by rw [show k + (j + 1) = k + j + 1 by omega, hd2]; exact g6, fun i hi => g7 i (by omega)⟩, by show l.length - (j + 1) < l.length - j; omega, ⟨rfl, rfl, rfl, rfl, trivial⟩, ⟨rfl, trivial⟩⟩
          · have e : k + j = l.length := by omega
            rw [e, List.take_length] at g6
            exact ⟨(q, A), ⟨g3, by omega, g5, g6⟩, ⟨rfl, rfl, trivial⟩, ⟨rfl, trivial⟩⟩
        · obtain ⟨g3, g4, g5, g6⟩ := hg
          refine .inl ⟨q, l.length, by simp, rfl, Nat.le_refl _, by omega, .inr ⟨g4, ?_⟩⟩
          refine And.intro (by rw [iRow_len]; omega) ?_
          refine .inl ⟨0, q, rfl, by simp, by omega, by omega, .inr ⟨by omega, ?_⟩⟩
          refine ⟨trivial, r1 ?_, trivial⟩
          show some (AV.c (.sl 1 ((((iRow A).take q ++ _).drop 0).take (q - 0)))) = _
          rw [List.drop_zero, Nat.sub_zero, List.take_append_of_le_length (by rw [List.length_take, iRow_len]; omega), List.take_take, Nat.min_self, ← g6]
          simp [iRow, List.map_take]
      · rw [if_neg (fun hh => h2 hh.2.symm), k3] at hd
        refine X1 ((k + 1 : Nat) : Int) (wI (by simp) (by omega) (by omega)) ?_
        refine ⟨k + 1, ⟨by omega, by omega, ?_⟩, by omega, ⟨rfl, rfl, trivial⟩, ⟨rfl, trivial⟩⟩
        rw [hd, List.take_succ_eq_append_getElem hk, List.getD_eq_getElem?_getD, List.getElem?_eq_getElem hk, Option.getD_some]
    · have e : k = l.length := by omega
      rw [e, List.take_length] at k3
      exact ⟨(), k3, ⟨rfl, trivial⟩, ⟨rfl, trivial⟩⟩
  · exact ⟨trivial, r1 (by rw [hg]; rfl), trivial⟩
theorem samp_ext {f : Nat → Nat} {k : Nat} : ∀ (m : Nat) (S : List Nat), f (k + 1) - 64 * S.length ≤ m → SampIn f k S → ∃ S', SampOK f (k + 1) S'
  | 0, S, h, hS => ⟨S, hS.done (by omega)⟩
  | m + 1, S, h, hS => by
    by_cases hc : f (k + 1) ≤ 64 * S.length
    · exact ⟨S, hS.done hc⟩
    · exact samp_ext m (S ++ [k]) (by rw [List.length_append]; show _ - 64 * (S.length + 1) ≤ m; omega) (hS.more (by omega))
theorem samp_ex {f : Nat → Nat} (h0 : f 0 = 0) (hm : ∀ a b, a ≤ b → f a ≤ f b) : ∀ k, ∃ S, SampOK f k S
  | 0 => ⟨[], SampOK.nil h0⟩
  | k + 1 => by
    obtain ⟨S, hS⟩ := samp_ex h0 hm k
    exact samp_ext _ S (Nat.le_refl _) (hS.into (hm _ _ (by omega)))
theorem sampF_ok {f : Nat → Nat} (h0 : f 0 = 0) (hm : ∀ a b, a ≤ b → f a ≤ f b) (k : Nat) : SampOK f k (sampF f k) := by
  obtain ⟨S, hS⟩ := samp_ex h0 hm k
  rw [sampF_eq hm hS]
  exact hS
theorem samp_le {f : Nat → Nat} {k : Nat} {S : List Nat} (h : SampOK f k S) : ∀ x, x ∈ S → x < k := fun x hx => by
  obtain ⟨j, hj⟩ := List.getElem?_of_mem hx
  exact (h.at' j x hj).1
theorem getD_some {l : List Nat} {i a : Nat} (h : l[i]? = some a) : l.getD i 0 = a ∧ i < l.length := by
  refine ⟨by rw [List.getD_eq_getElem?_getD, h]; rfl, (List.getElem?_eq_some_iff.1 h).1⟩
theorem IsOne.next {V k i : Nat} (h : IsOne V k i) : rk V (i + 1) = k + 1 := by rw [rk_succ, h.1, h.2]
theorem IsOne.lt {V k i n : Nat} (h : IsOne V k i) (hV : V < 2 ^ n) : i < n ∧ k < popc V := by
  have h1 := h.next
  have h2 : ¬ n ≤ i := fun hn => by
    have := rk_top hV hn
    have h3 := rk_top hV (show n ≤ i + 1 by omega)
    have := h.1
    omega
  refine ⟨by omega, ?_⟩
  have := rk_mono V (show i + 1 ≤ n by omega)
  rw [rk_top hV (Nat.le_refl n)] at this
  omega
theorem IsNil.next {V k i : Nat} (h : IsNil V k i) : i + 1 - rk V (i + 1) = k + 1 := by
  have h1 := h.1
  have h2 := h.2
  have h3 := rk_succ V i
  have h4 := rk_le V i
  omega
theorem one_ct (n V k i : Nat) (hV : V < 2 ^ n) (hn : n ≤ 1000000) (hi : IsOne V k i) : Ct P 74 [.c (sdV n V), .c (nI .i64 k)] [.c (nI .i64 i)] := by
  have hK := needN_le n
  obtain ⟨hin, hkp⟩ := hi.lt hV
  have hkn : k ≤ n := by have := rk_le V n; rw [rk_top hV (Nat.le_refl n)] at this; omega
  have hS := sampF_ok (f1_0 V n) (fun a b h => f1_mono h) (needN n)
  have hfK : f1 V n (needN n) = popc V := by unfold f1; rw [Nat.min_eq_right (by unfold needN; omega)]; exact rk_top hV (Nat.le_refl n)
  obtain ⟨s, s1, s2, s3⟩ := hS.has (x := k) (by omega)
  obtain ⟨s4, s5⟩ := getD_some s1
  have hi1 := hi.next
  have hi0 := hi.1
  have hf : ∀ j, f1 V n j = rk V (64 * j) := fun j => by unfold f1; exact rk_min hV
  have hsa : s ≤ i / 64 := by
    apply Classical.byContradiction
    intro h
    have := rk_mono V (show i + 1 ≤ 64 * s by omega)
    rw [hf] at s3
    omega
  have haK : i / 64 < needN n := by unfold needN; omega
  have hhi : i / 64 < spanH (sampF (f1 V n) (needN n)) (needN n) k ∧ spanH (sampF (f1 V n) (needN n)) (needN n) k ≤ needN n := by
    unfold spanH
    split
    · rename_i h
      obtain ⟨b, hb⟩ : ∃ b, (sampF (f1 V n) (needN n))[k / 64 + 1]? = some b := ⟨_, List.getElem?_eq_getElem h⟩
      obtain ⟨n1, n2⟩ := hS.next hb
      rw [(getD_some hb).1]
      refine ⟨?_, by omega⟩
      apply Classical.byContradiction
      intro h2
      have := rk_mono V (show 64 * (b + 1) ≤ i by omega)
      rw [hf] at n1
      omega
    · omega
  have hsl := sampOK_len hS
  have hpn : f1 V n (needN n) ≤ n := f1_le V n _
  have hr1 := rk_mono V (show 64 * (i / 64) ≤ i by omega)
  have hwr := wd_rk V (i / 64) (i := i % 64) (by omega)
  have hwb := wd_bit V (i / 64) (i := i % 64) (by omega)
  rw [show 64 * (i / 64) + i % 64 = i by omega] at hwr hwb
  have hsel : IsOne (wdN V (i / 64)) (k - rk V (64 * (i / 64))) (i % 64) := ⟨by omega, by rw [hwb]; exact hi.2⟩
  have hsp := (hsel.lt (n := 64) (by rw [p64]; exact wdN_lt V _)).2
  refine Ct.go T_ok T_mix (N := 51) Tryz.func74 rfl rfl rfl rfl ?_
  refine X1 _ (sones_ct n V hV hn) ?_
  refine dcase (fun h => absurd h (by omega)) (fun _ => ?_)
  refine X1 _ (span_ct n V k _ hn s5 (by omega) (fun x hx => by have := samp_le hS x hx; omega)) ?_
  refine And.intro rfl ?_
  rw [s4]
  refine X1 [.ad 2 0] rfl ?_
  refine X2 .frz ?_
  refine X1 _ (ssearch_ct s _ k (i / 64) rfl (fun j => rk V j) hsa hhi.1 (by omega) (by omega) (fun j hj => one1_ct n V j hV hn (by omega)) (fun j hj => ?_) (fun j h1 h2 => ?_)) ?_
  · have := rk_mono V (show 64 * j ≤ i by omega)
    show rk V (64 * j) ≤ k
    omega
  · have := rk_mono V (show i + 1 ≤ 64 * j by omega)
    show k < rk V (64 * j)
    omega
  refine X1 ((64 * (i / 64) : Nat) : Int) (wI (by omega) (by omega) (by omega)) ?_
  refine And.intro (by omega) (X1 _ (wsN_ix haK) ?_)
  refine X1 ((64 * (i / 64) : Nat) : Int) (wI (by omega) (by omega) (by omega)) ?_
  refine X1 _ (rank_ct n V (64 * (i / 64)) hV hn (by omega)) ?_
  refine X1 ((k - rk V (64 * (i / 64)) : Nat) : Int) (wI (by omega) (by omega) (by omega)) ?_
  refine X1 _ (select_ct _ _ _ (wdN_lt V _) hsp hsel) ?_
  refine X1 ((i : Nat) : Int) (wI (by omega) (by omega) (by omega)) ?_
  refine And.intro rfl ?_
  exact ⟨trivial, r1 rfl, trivial⟩
theorem cplN {w : Nat} (hw : w < 18446744073709551616) : IntKind.u64.wrap ((BitVec.ofInt IntKind.u64.bits 18446744073709551615 ^^^ BitVec.ofInt IntKind.u64.bits (w : Int)).toNat : Int) = ((18446744073709551615 - w : Nat) : Int) := by
  have e : (BitVec.ofInt IntKind.u64.bits 18446744073709551615 ^^^ BitVec.ofInt IntKind.u64.bits (w : Int)).toNat = 18446744073709551615 - w := by
    show (BitVec.allOnes 64 ^^^ BitVec.ofInt 64 (w : Int)).toNat = _
    rw [BitVec.allOnes_xor, BitVec.toNat_not, BitVec.ofInt_natCast, BitVec.toNat_ofNat, Nat.mod_eq_of_lt (by omega : w < 2 ^ 64)]
  rw [e]
  exact wU rfl (by omega) (by omega)
theorem zeroN_ct (n V k : Nat) (hV : V < 2 ^ n) (hn : n ≤ 1000000) (hk : n - popc V ≤ k) : Ct P 190 [.c (sdV n V), .c (nI .i64 k)] [.c (eI .i64 (-1))] := by
  refine Ct.go T_ok T_mix (N := 63) Tryz.func190 rfl rfl rfl rfl ?_
  refine X1 _ (zeros_ct n V n hV hn (by omega)) ?_
  refine And.intro rfl ?_
  rw [Nat.min_self, rk_top hV (Nat.le_refl n)]
  refine dcase (fun h => ?_) (fun h => absurd h (by omega))
  exact ⟨trivial, r1 rfl, trivial⟩
theorem zero_ct (n V k i : Nat) (hV : V < 2 ^ n) (hn : n ≤ 1000000) (hi : IsNil V k i) (hin : i < n) : Ct P 190 [.c (sdV n V), .c (nI .i64 k)] [.c (nI .i64 i)] := by
  have hK := needN_le n
  have hpl := rk_le V n
  have hi1 := hi.next
  have hi0 := hi.1
  have hrl := rk_le V i
  have hrl1 := rk_le V (i + 1)
  have hkn : k < n - popc V := by
    have := zk_mono V (show i + 1 ≤ n by omega)
    rw [rk_top hV (Nat.le_refl n)] at this
    omega
  have hS := sampF_ok (f0_0 V n) (fun a b h => f0_mono h) (needN n)
  have hfK : f0 V n (needN n) = n - popc V := by unfold f0; rw [Nat.min_eq_right (by unfold needN; omega), rk_top hV (Nat.le_refl n)]
  obtain ⟨s, s1, s2, s3⟩ := hS.has (x := k) (by omega)
  obtain ⟨s4, s5⟩ := getD_some s1
  have hsa : s ≤ i / 64 := by
    apply Classical.byContradiction
    intro h
    have := zk_mono V (show i + 1 ≤ min (64 * s) n by omega)
    unfold f0 at s3
    omega
  have haK : i / 64 < needN n := by unfold needN; omega
  have hhi : i / 64 < spanH (sampF (f0 V n) (needN n)) (needN n) k ∧ spanH (sampF (f0 V n) (needN n)) (needN n) k ≤ needN n := by
    unfold spanH
    split
    · rename_i h
      obtain ⟨b, hb⟩ : ∃ b, (sampF (f0 V n) (needN n))[k / 64 + 1]? = some b := ⟨_, List.getElem?_eq_getElem h⟩
      obtain ⟨n1, n2⟩ := hS.next hb
      rw [(getD_some hb).1]
      refine ⟨?_, by omega⟩
      apply Classical.byContradiction
      intro h2
      have := zk_mono V (show min (64 * (b + 1)) n ≤ i by omega)
      unfold f0 at n1
      omega
    · omega
  have hsl := sampOK_len hS
  have hpn : f0 V n (needN n) ≤ n := f0_le V n _
  have hr1 := zk_mono V (show 64 * (i / 64) ≤ i by omega)
  have hr2 := rk_mono V (show 64 * (i / 64) ≤ i by omega)
  have hr3 := rk_le V (64 * (i / 64))
  have hwl := wdN_lt V (i / 64)
  have hwr := wd_rk V (i / 64) (i := i % 64) (by omega)
  have hwb := wd_bit V (i / 64) (i := i % 64) (by omega)
  rw [show 64 * (i / 64) + i % 64 = i by omega] at hwr hwb
  have hnr := rk_not hwl (i := i % 64) (by omega)
  have hnb := bit_not hwl (i := i % 64) (by omega)
  have hmin : min (64 * (i / 64)) n = 64 * (i / 64) := by omega
  have hsel : IsOne (18446744073709551615 - wdN V (i / 64)) (k - (64 * (i / 64) - rk V (64 * (i / 64)))) (i % 64) := ⟨by omega, by rw [hnb, hwb, hi.2]⟩
  have hsp := (hsel.lt (n := 64) (by rw [p64]; omega)).2
  refine Ct.go T_ok T_mix (N := 63) Tryz.func190 rfl rfl rfl rfl ?_
  refine X1 _ (zeros_ct n V n hV hn (by omega)) ?_
  refine And.intro rfl ?_
  rw [Nat.min_self, rk_top hV (Nat.le_refl n)]
  refine dcase (fun h => absurd h (by omega)) (fun _ => ?_)
  refine X1 _ (span_ct n V k _ hn s5 (by omega) (fun x hx => by have := samp_le hS x hx; omega)) ?_
  refine And.intro rfl ?_
  rw [s4]
  refine X1 [.ad 2 0] rfl ?_
  refine X2 .frz ?_
  refine X1 _ (ssearch_ct s _ k (i / 64) rfl (fun j => min j n - rk V (min j n)) hsa hhi.1 (by omega) (by omega) (fun j hj => zero1_ct n V j hV hn (by omega)) (fun j hj => ?_) (fun j h1 h2 => ?_)) ?_
  · have := zk_mono V (show min (64 * j) n ≤ i by omega)
    show min (64 * j) n - rk V (min (64 * j) n) ≤ k
    omega
  · have := zk_mono V (show i + 1 ≤ min (64 * j) n by omega)
    show k < min (64 * j) n - rk V (min (64 * j) n)
    omega
  refine X1 ((64 * (i / 64) : Nat) : Int) (wI (by omega) (by omega) (by omega)) ?_
  refine And.intro (by omega) (X1 _ (wsN_ix haK) ?_)
  refine X1 _ (cplN hwl) ?_
  refine X1 ((64 * (i / 64) : Nat) : Int) (wI (by omega) (by omega) (by omega)) ?_
  refine X1 _ (zeros_ct n V (64 * (i / 64)) hV hn (by omega)) ?_
  rw [hmin]
  refine X1 ((k - (64 * (i / 64) - rk V (64 * (i / 64))) : Nat) : Int) (wI (by omega) (by omega) (by omega)) ?_
  refine X1 _ (select_ct _ _ _ (by omega) hsp hsel) ?_
  refine X1 ((i : Nat) : Int) (wI (by omega) (by omega) (by omega)) ?_
  refine And.intro rfl ?_
  exact ⟨trivial, r1 rfl, trivial⟩
theorem bcut0_ct (n V i : Nat) : Ct P 69 [.c (bN' n V), .c (nI .i64 i), .c (nI .i64 0)] [.c (nI .u64 0)] := by
  refine Ct.go T_ok T_mix (N := 67) Tryz.func69 rfl rfl rfl rfl ?_
  exact ⟨trivial, r1 rfl, trivial⟩
theorem pat_ct (w : Nat) (l : List Nat) (i : Nat) (hw : w ≤ 64) (hl : l.length ≤ 100000) (h : ∀ x, x ∈ l → x < 2 ^ w) (hi : i < l.length) : Ct P 24 [.c (pP w l), .c (nI .i64 i)] [.c (nI .u64 (l.getD i 0))] := by
  have hb : i * w ≤ 100000 * 64 := Nat.mul_le_mul (by omega) hw
  have hb2 : l.length * w ≤ 100000 * 64 := Nat.mul_le_mul (by omega) hw
  have hlt := pkV_lt h
  have hat := pkV_at h hi
  refine Ct.go T_ok T_mix (N := 34) Tryz.func24 rfl rfl rfl rfl ?_
  refine dcase (fun h => absurd h (by omega)) (fun _ => ?_)
  refine X1 ((i * w : Nat) : Int) (wI (by simp) (by omega) (by omega)) ?_
  by_cases h0 : w = 0
  · subst h0
    refine X1 _ (bcut0_ct _ _ _) ?_
    refine And.intro rfl ?_
    have : l.getD i 0 = 0 := by have := nI_lt h hi; omega
    exact ⟨trivial, r1 (iE (by rw [this])), trivial⟩
  · have hiw : i * w < l.length * w := Nat.mul_lt_mul_of_pos_right hi (by omega)
    refine X1 _ (bcut'_ct _ _ (i * w) w hlt (by omega) hiw (by omega) hw) ?_
    refine And.intro rfl ?_
    exact ⟨trivial, r1 (iE (by rw [hat])), trivial⟩
theorem pfind_ct (w : Nat) (l : List Nat) (lo hi c v : Nat) (hw : w ≤ 64) (hl : l.length ≤ 100000) (h : ∀ x, x ∈ l → x < 2 ^ w) (h1 : lo ≤ c) (h2 : c ≤ hi) (h3 : hi ≤ l.length) (ha : ∀ i, lo ≤ i → i < c → l.getD i 0 < v) (hb : ∀ i, c ≤ i → i < hi → v ≤ l.getD i 0) :
    Ct P 174 [.c (pP w l), .c (nI .i64 lo), .c (nI .i64 hi), .c (nI .u64 v)] [.c (eI .i64 (if c < hi then (c : Int) else -1))] := by
  refine Ct.go T_ok T_mix (N := 39) Tryz.func174 rfl rfl rfl rfl ?_
  refine X1 _ (plen_ct w l) ?_
  refine loopJ T_ok T_mix (G := Nat × Nat) (fun (a, b) => lo ≤ a ∧ a ≤ c ∧ c ≤ b ∧ b ≤ hi) (fun (a, b) => [(0, .c (pP w l)), (1, .c (nI .i64 a)), (2, .c (nI .i64 b)), (3, .c (nI .u64 v)), (9, .c (nI .i64 hi))]) (fun _ => []) (fun (a, b) => b - a)
    (lo, hi) ⟨Nat.le_refl _, h1, h2, Nat.le_refl _⟩ ⟨rfl, iE (by split <;> omega), iE (by split <;> omega), rfl, iE (by split <;> omega), trivial⟩ trivial
    (fun _ : Unit => True) (fun _ => [(1, .c (nI .i64 c)), (9, .c (nI .i64 hi))]) (fun _ => []) (fun (a, b) hg => ?_) (fun _ _ => ?_)
  · obtain ⟨g1, g2, g3, g4⟩ := hg
    refine dcase (fun h5 => ?_) (fun h5 => ?_)
    · refine X1 ((b - a : Nat) : Int) (wI (by omega) (by omega) (by omega)) ?_
      refine And.intro (by decide) (X1 (((b - a) / 2 : Nat) : Int) (tdivN rfl) (And.intro ⟨by omega, by omega⟩ ?_))
      obtain ⟨m, hm⟩ : ∃ m, m = a + (b - a) / 2 := ⟨_, rfl⟩
      refine X1 ((m : Nat) : Int) (wI (by omega) (by omega) (by omega)) ?_
      refine X1 _ (pat_ct w l m hw hl h (by omega)) ?_
      refine dcase (fun h6 => ?_) (fun h6 => ?_)
      · refine X1 ((m + 1 : Nat) : Int) (wI (by simp) (by omega) (by omega)) ?_
        refine ⟨(m + 1, b), ⟨by omega, ?_, g3, g4⟩, by show b - (m + 1) < b - a; omega, ⟨rfl, rfl, rfl, rfl, rfl, trivial⟩, trivial⟩
        apply Classical.byContradiction
        intro h7
        have := hb m (by omega) (by omega)
        omega
      · refine ⟨(a, m), ⟨g1, g2, ?_, by omega⟩, by show m - a < b - a; omega, ⟨rfl, rfl, rfl, rfl, rfl, trivial⟩, trivial⟩
        apply Classical.byContradiction
        intro h7
        have := ha m (by omega) (by omega)
        omega
    · have : a = c := by omega
      subst this
      exact ⟨(), trivial, ⟨rfl, rfl, trivial⟩, trivial⟩
  · refine dcase (fun h5 => ?_) (fun h5 => ?_)
    · exact ⟨trivial, r1 (iE (by rw [if_neg (by omega)])), trivial⟩
    · exact ⟨trivial, r1 (iE (by rw [if_pos (by omega)])), trivial⟩
structure SeqB (l : List Nat) : Prop where
  n : l.length ≤ 100000
  up : Up l
  le : ∀ x, x ∈ l → x ≤ 1099511627776
theorem SeqB.get {l : List Nat} (h : SeqB l) {i : Nat} (hi : i < l.length) : l.getD i 0 ≤ 1099511627776 := h.le _ (getD_mem hi)
theorem low_ct (n last : Nat) (hn : 1 ≤ n) (hn2 : n ≤ 100000) (hl : last ≤ 1099511627776) : Ct P 110 [.c (nI .i64 n), .c (nI .i64 last)] [.c (nI .i64 (lowW n last))] := by
  have hd := Nat.div_le_self last n
  refine Ct.go T_ok T_mix (N := 18) Tryz.func110 rfl rfl rfl rfl ?_
  refine dcase (fun h => absurd h (by omega)) (fun _ => ?_)
  refine dcase (fun h => ?_) (fun h => ?_)
  · exact ⟨trivial, r1 (iE (by unfold lowW; rw [if_pos (by omega)]; rfl)), trivial⟩
  · have h1 : 1 ≤ last / n := (Nat.one_le_div_iff (by omega)).2 (by omega)
    have h2 := blen_pos (n := last / n) (by omega)
    have h3 := blen_le (n := last / n) (k := 41) (by rw [show (2 : Nat) ^ 41 = 2199023255552 from rfl]; omega)
    refine And.intro (by omega) (X1 ((last / n : Nat) : Int) (tdivN rfl) (And.intro ⟨by omega, by omega⟩ ?_))
    refine X1 ((last / n : Nat) : Int) (wU rfl (by omega) (by omega)) ?_
    refine X1 _ (width_ct (last / n) (by omega)) ?_
    refine X1 ((blen (last / n) - 1 : Nat) : Int) (wI (by omega) (by omega) (by omega)) ?_
    exact ⟨trivial, r1 (iE (by unfold lowW; rw [if_neg (by omega)])), trivial⟩
theorem low0_ct : Ct P 110 [.c (nI .i64 0), .c (eI .i64 (-1))] [.c (nI .i64 0)] := by
  refine Ct.go T_ok T_mix (N := 18) Tryz.func110 rfl rfl rfl rfl ?_
  exact ⟨trivial, r1 rfl, trivial⟩
theorem elow_ct (l : List Nat) (h : SeqB l) : Ct P 110 [.c (nI .i64 l.length), .c (eI .i64 (lastE l))] [.c (nI .i64 (wEl l))] := by
  unfold lastE wEl
  by_cases h0 : l.length = 0
  · rw [if_pos h0, h0, show lowW 0 (lastN' l) = 0 from by unfold lowW; rw [if_pos (by omega)]]
    exact low0_ct
  · rw [if_neg h0]
    exact low_ct _ _ (by omega) h.n (h.get (by omega))
theorem echeck_ct (l : List Nat) (h : SeqB l) : Ct P 108 [.c (nSl .i64 l)] [.c (nI .i64 0)] := by
  have hn := h.n
  refine Ct.go T_ok T_mix (N := 30) Tryz.func108 rfl rfl rfl rfl ?_
  refine And.intro (by rw [nRow_len]; omega) ?_
  rw [nRow_len]
  refine loopJ T_ok T_mix (fun i : Nat => i ≤ l.length) (fun i => [(0, .c (nSl .i64 l)), (5, .c (nSl .i64 l)), (6, .c (nI .i64 l.length)), (7, .c (nI .i64 i))]) (fun _ => []) (fun i => l.length - i)
    0 (by omega) ⟨rfl, rfl, rfl, rfl, trivial⟩ trivial (fun _ : Unit => True) (fun _ => []) (fun _ => []) (fun i hi => ?_) (fun _ _ => ?_)
  · refine dcase (fun h5 => ?_) (fun h5 => ?_)
    · have hi' : i < l.length := by omega
      have hle := h.get hi'
      refine And.intro (by omega) (X1 _ (nRow_ix hi') ?_)
      refine dcase (fun h6 => absurd h6 (by omega)) (fun _ => ?_)
      refine dcase (fun h6 => ?_) (fun h6 => ?_)
      · obtain ⟨j, rfl⟩ : ∃ n, i = n + 1 := ⟨i - 1, by omega⟩
        have hup := h.up j (j + 1) (by omega) hi'
        refine X1 ((j : Nat) : Int) (wI (by omega) (by omega) (by omega)) ?_
        refine And.intro (by omega) (X1 _ (nRow_ix (by omega)) ?_)
        refine dcase (fun h7 => absurd h7 (by omega)) (fun _ => ?_)
        refine X1 ((j + 1 + 1 : Nat) : Int) (wI (by simp) (by omega) (by omega)) ?_
        exact ⟨j + 1 + 1, by omega, by omega, ⟨rfl, rfl, rfl, rfl, trivial⟩, trivial⟩
      · refine X1 ((i + 1 : Nat) : Int) (wI1 (by omega)) ?_
        exact ⟨i + 1, by omega, by omega, ⟨rfl, rfl, rfl, rfl, trivial⟩, trivial⟩
    · exact ⟨(), trivial, trivial, trivial⟩
  · exact ⟨trivial, r1 rfl, trivial⟩
def upE (w : Nat) (l : List Nat) (i : Nat) : Nat := if i = 0 then 0 else l.getD (i - 1) 0 / 2 ^ w
theorem take_getN {l : List Nat} {i j : Nat} (h : j < i) : (l.take i).getD j 0 = l.getD j 0 := by
  rw [List.getD_eq_getElem?_getD, List.getElem?_take_of_lt h, ← List.getD_eq_getElem?_getD]
theorem hiN_take {w : Nat} {l : List Nat} {i : Nat} (h : i ≤ l.length) : hiN w (l.take i) = upE w l i + i := by
  unfold hiN upE
  rw [List.length_take, Nat.min_eq_left h]
  split
  · omega
  · rw [take_getN (by omega)]
theorem take_snocN {l : List Nat} {i : Nat} (h : i < l.length) : l.take (i + 1) = l.take i ++ [l.getD i 0] := by
  rw [List.take_succ_eq_append_getElem h, List.getD_eq_getElem?_getD, List.getElem?_eq_getElem h, Option.getD_some]
theorem Up.take {l : List Nat} (h : Up l) (i : Nat) : Up (l.take i) := fun a b hab hb => by
  rw [List.length_take] at hb
  rw [take_getN (by omega), take_getN (by omega)]
  exact h a b hab (by omega)
def lowsP (w : Nat) (l : List Nat) (i : Nat) : List Nat := (l.take i).map (· % 2 ^ w) ++ List.replicate (l.length - i) 0
theorem lowsP_len {w : Nat} {l : List Nat} {i : Nat} (h : i ≤ l.length) : (lowsP w l i).length = l.length := by simp [lowsP]; omega
theorem lowsP_set {w : Nat} {l : List Nat} {i : Nat} (h : i < l.length) : (lowsP w l i).set i (l.getD i 0 % 2 ^ w) = lowsP w l (i + 1) := by
  unfold lowsP
  have hl : ((l.take i).map (· % 2 ^ w)).length = i := by simp; omega
  rw [List.set_append_right _ _ (by omega), hl, Nat.sub_self, take_snocN h, List.map_append, List.append_assoc]
  congr 1
  rw [show l.length - i = (l.length - (i + 1)) + 1 by omega, List.replicate_succ]
  rfl
theorem lowsP_all (w : Nat) (l : List Nat) : lowsP w l l.length = l.map (· % 2 ^ w) := by simp [lowsP]
theorem badd0_ct (n V m : Nat) (hV : V < 2 ^ n) (hm : m ≤ 64) (hl : n ≤ 100000000) : CtO P 111 (bO' 1000001 n V) [.c (.ad 1000000 0), .c (nI .u64 0), .c (nI .i64 m)] (bO' 200 (n + m) V) [.c (eI .i64 0)] := by
  have h := badd'_ct n V 0 m hV (Nat.two_pow_pos m) hm hl
  rw [Nat.zero_mul, Nat.add_zero] at h
  exact h
theorem cloneO_ct (l : List Int) (hl : l.length ≤ 1000000) : CtO P 68 [] [.c (iSl l)] [(5, some (.row 1 (iRow l)))] [.c (.ow 5 1 l.length)] := by
  refine Ct.keepI T_ok [] (N := 8) Tryz.func68 rfl rfl rfl rfl ?_
  refine seqI T_ok T_mix ?_
  refine seqW ?_
  refine seqI T_ok T_mix ?_
  intro b hb
  refine condI (b := b) rfl (fun e => ?_) (fun e => ?_)
  · subst e
    have : l = [] := List.length_eq_zero_iff.1 (by have := hb rfl; rwa [iRow_len] at this)
    subst this
    refine seqI T_ok T_mix ?_
    refine nilC (r := 5) (t := 2) (sz := 1) rfl rfl ?_
    exact retI ⟨trivial, SubO.of (l := [(5, .row 1 [])]) ⟨rfl, trivial⟩, r1 rfl, trivial⟩
  · subst e
    refine skipI ?_
    refine codeI T_ok T_mix ?_
    refine ⟨rfl, by rw [iRow_len]; show (0 + l.length + 768) * 8 ≤ _; omega, by rw [iRow_len]; show 0 + l.length ≤ _; omega, nil_closed, iRow_closed, ?_⟩
    exact ⟨trivial, SubO.of (l := [(5, .row 1 (iRow l))]) ⟨rfl, trivial⟩, r1 (owE (by show (iRow l).length = _; rw [iRow_len])), trivial⟩
theorem lt_int (x y : Int) : SrtO.lt cmpI x y = decide (x < y) := decide_eq_decide.2 cmpI_lt
theorem swo_int : Sort.SWO (SrtO.lt cmpI) := by
  refine ⟨fun x => ?_, fun x y z h1 h2 => ?_, fun x y z h1 h2 => ?_⟩
  · rw [lt_int]; exact decide_eq_false (by omega)
  · rw [lt_int, decide_eq_true_eq] at *; omega
  · rw [lt_int, decide_eq_false_iff_not] at *; omega
def sortL (l : List Int) : List Int := (Sort.sort (SrtO.lt cmpI) l.toArray).toList
theorem sortL_ok (l : List Int) : (sortL l).Perm l ∧ (sortL l).Pairwise (· ≤ ·) := by
  obtain ⟨h1, h2⟩ := SrtO.sort_spec cmpI swo_int l.toArray
  refine ⟨by simpa [sortL] using h1, ?_⟩
  have hlen : (sortL l).length = l.toArray.size := by
    have := h1.length_eq
    simpa [sortL] using this
  rw [List.pairwise_iff_getElem]
  intro i j hi hj hij
  have := h2 i j (by omega) hij (by omega)
  rw [lt_int, decide_eq_false_iff_not] at this
  have e : ∀ k (hk : k < (sortL l).length), (Sort.sort (SrtO.lt cmpI) l.toArray)[k]! = (sortL l)[k] := fun k hk => by
    rw [getElem!_pos _ k (by simpa [sortL] using hk)]; rfl
  rw [e i hi, e j hj] at this
  omega
theorem sortL_ct (l : List Int) (hl : l.length ≤ 1000000) : CtO P 144 [(1000000, some (.row 1 (iRow l)))] [.c (.ow 1000000 1 l.length)] [(1000000, some (.row 1 (iRow (sortL l))))] [] := by
  have := SrtO.sortF_ct cmpI lessO_ct swo_int l.toArray (by simpa using hl)
  exact this
theorem ded_sort (l : List Int) : dedA (sortL l) = lvsI l := ded_lvs (sortL_ok l).2 fun x => (sortL_ok l).1.mem_iff
theorem lvs_at {l : List Int} {v : Int} (h : v ∈ l) : (lvsI l).idxOf v < (lvsI l).length := List.idxOf_lt_length_of_mem (((lvsI_ok l).2 v).2 h)
theorem cwF_lt {l : List Int} {x : Nat} (h : x ∈ cdF l) : x < 2 ^ cwF l := by
  obtain ⟨v, hv, rfl⟩ := List.mem_map.1 h
  have h1 := lvs_at hv
  have h2 := lt_blen ((lvsI l).length - 1)
  unfold cwF
  omega
def padN (l : List Nat) (i : Nat) : List Nat := l.take i ++ List.replicate (l.length - i) 0
theorem padN_len {l : List Nat} {i : Nat} (h : i ≤ l.length) : (padN l i).length = l.length := by simp [padN]; omega
theorem padN_set {l : List Nat} {i : Nat} (h : i < l.length) : (padN l i).set i (l.getD i 0) = padN l (i + 1) := by
  unfold padN
  have hl : (l.take i).length = i := by simp; omega
  rw [List.set_append_right _ _ (by omega), hl, Nat.sub_self, take_snocN h, List.append_assoc]
  congr 1
  rw [show l.length - i = (l.length - (i + 1)) + 1 by omega, List.replicate_succ]
  rfl
theorem padN_all (l : List Nat) : padN l l.length = l := by simp [padN]
theorem cdF_len (l : List Int) : (cdF l).length = l.length := by simp [cdF]
theorem cdF_at {l : List Int} {i : Nat} (h : i < l.length) : (cdF l).getD i 0 = (lvsI l).idxOf (l.getD i 0) := by
  unfold cdF
  rw [List.getD_eq_getElem?_getD, List.getElem?_map, List.getD_eq_getElem?_getD, List.getElem?_eq_getElem h]; rfl
theorem columned_ct (l : List Int) (hl : l.length ≤ 100000) : Ct P 97 [.c (iSl l)] [.ag (colC l)] := by
  have hT := Ty.own_ok [68] T_ok
  have hlv := lvsI_len l
  have hsl : (sortL l).length = l.length := (sortL_ok l).1.length_eq
  refine Ct.go hT T_mix (N := 49) Tryz.func97 rfl rfl rfl rfl ?_
  refine X2 (.own [] [(5, 60)]) ?_
  refine ⟨_, _, cloneO_ct l (by omega), ?_⟩
  refine X2 (.own [(60, 1000000)] [(1000000, 60)]) ?_
  refine ⟨_, _, sortL_ct l (by omega), ?_⟩
  have hcm := compact_ct (sortL l) (by omega)
  rw [hsl, ded_sort] at hcm
  refine X2 (.own [(60, 1000000)] []) ?_
  refine ⟨_, _, hcm, ?_⟩
  refine X1 _ (qof_ct (lvsI l) (by omega) (lvsI_ok l).1) ?_
  refine And.intro (by rw [iRow_len]; omega) ?_
  rw [iRow_len]
  refine ⟨by omega, by omega, by omega, .inl (by decide), ?_⟩
  refine And.intro (by rw [iRow_len]; omega) ?_
  rw [iRow_len]
  have hcl := cdF_len l
  refine loopJ hT T_mix (fun i : Nat => i ≤ l.length) (fun i => [(0, .c (iSl l)), (2, .c (.ad 2 0)), (4, .c (bkV (lvsI l))), (6, .c (.ow 23 1 l.length)), (24, .c (iSl l)), (25, .c (nI .i64 l.length)), (26, .c (nI .i64 i))]) (fun i => [(2, .var [nilPt, nilPt]), (23, .row 1 (nRow .u64 (padN (cdF l) i)))]) (fun i => l.length - i)
    0 (by omega) ⟨rfl, rfl, rfl, owE (by omega), rfl, rfl, rfl, trivial⟩ ⟨rfl, rowE (by unfold padN; exact rep_row (by omega)), trivial⟩ (fun _ : Unit => True) (fun _ => [(2, .c (.ad 2 0)), (4, .c (bkV (lvsI l))), (6, .c (.ow 23 1 (cdF l).length))]) (fun _ => [(2, .var [nilPt, nilPt]), (23, .row 1 (nRow .u64 (cdF l)))]) (fun i hi => ?_) (fun _ _ => ?_)
  · refine dcase (fun h1 => ?_) (fun h1 => ?_)
    · have hi' : i < l.length := by omega
      have hmem : l.getD i 0 ∈ l := by rw [List.getD_eq_getElem?_getD, List.getElem?_eq_getElem hi']; exact List.getElem_mem hi'
      have hat := lvs_at hmem
      have hpl := padN_len (l := cdF l) (i := i) (by omega)
      refine And.intro (by omega) (X1 _ (iRow_getN rfl hi') ?_)
      refine X1 _ (qcode_ct (lvsI l) (l.getD i 0) (by omega) (lvsI_ok l).1 (((lvsI_ok l).2 _).2 hmem)) ?_
      refine X1 (((lvsI l).idxOf (l.getD i 0) : Nat) : Int) (wU rfl (by omega) (by omega)) ?_
      refine And.intro (by omega) (And.intro (by omega) ?_)
      refine X1 _ (nRow_ix (by omega)) ?_
      refine X1 ((i + 1 : Nat) : Int) (wI1 (by omega)) ?_
      exact ⟨i + 1, by omega, by omega, ⟨rfl, rfl, rfl, rfl, rfl, rfl, rfl, trivial⟩, ⟨rfl, rowE (by rw [Int.toNat_natCast, ← padN_set (by omega), cdF_at hi', ← nRow_set]; rfl), trivial⟩⟩
    · have e : i = l.length := by omega
      subst e
      exact ⟨(), trivial, ⟨rfl, rfl, owE (by omega), trivial⟩, ⟨rfl, rowE (by rw [← hcl, padN_all]), trivial⟩⟩
  · refine X1 _ (qwidth_ct (lvsI l) (by omega)) ?_
    refine X2 .frz ?_
    have hw : cwF l ≤ 64 := by
      have := blen_le (n := (lvsI l).length - 1) (k := 64) (Nat.lt_of_le_of_lt (show _ ≤ 100000 by omega) (by decide))
      exact this
    refine X1 _ (pnew_ct (cwF l) (cdF l) hw (by omega) (fun x hx => cwF_lt hx)) ?_
    exact ⟨trivial, rc rfl, trivial⟩
def padI (l : List Int) (i : Nat) : List Int := l.take i ++ List.replicate (l.length - i) 0
theorem padI_len {l : List Int} {i : Nat} (h : i ≤ l.length) : (padI l i).length = l.length := by simp [padI]; omega
theorem padI_set {l : List Int} {i : Nat} (h : i < l.length) : (padI l i).set i l[i] = padI l (i + 1) := by
  unfold padI
  have hl : (l.take i).length = i := by simp; omega
  rw [List.set_append_right _ _ (by omega), hl, Nat.sub_self, List.take_succ_eq_append_getElem h, List.append_assoc]
  congr 1
  rw [show l.length - i = (l.length - (i + 1)) + 1 by omega, List.replicate_succ]
  rfl
theorem padI_all (l : List Int) : padI l l.length = l := by simp [padI]
theorem rep_rowI {n : Int} {N : Nat} (h : n = N) : List.replicate n.toNat [eI .i64 0] = iRow (List.replicate N 0) := by
  subst h; simp [iRow]
theorem iRow_set {l : List Int} {i : Nat} {x : Int} : (iRow l).set i [eI .i64 x] = iRow (l.set i x) := by simp [iRow, List.map_set]
abbrev cdsC (l : List En) : List PC := colC (prbs l) ++ colC (bcks l)
theorem codesOf_ct (l : List En) (hl : l.length ≤ 100000) : Ct P 57 [.c (eSl l)] [.ag (cdsC l)] := by
  have hp : (prbs l).length = l.length := by simp
  have hb : (bcks l).length = l.length := by simp
  refine Ct.go T_ok T_mix (N := 36) Tryz.func57 rfl rfl rfl rfl ?_
  refine And.intro (by rw [eRow_len]; omega) ?_
  rw [eRow_len]
  refine ⟨by omega, by omega, by omega, .inl (by decide), ?_⟩
  refine And.intro (by rw [eRow_len]; omega) ?_
  rw [eRow_len]
  refine ⟨by omega, by omega, by omega, .inl (by decide), ?_⟩
  refine And.intro rfl ?_
  refine And.intro (by rw [eRow_len]; omega) ?_
  rw [eRow_len]
  refine loopJ T_ok T_mix (fun i : Nat => i ≤ l.length) (fun i => [(2, .c (.ad 2 0)), (3, .c (.ow 9 1 l.length)), (4, .c (.ow 12 1 l.length)), (13, .c (eSl l)), (14, .c (nI .i64 l.length)), (15, .c (nI .i64 i))]) (fun i => [(2, .var [nilPt, nilPt, nilPt, nilPt]), (9, .row 1 (iRow (padI (prbs l) i))), (12, .row 1 (iRow (padI (bcks l) i)))]) (fun i => l.length - i)
    0 (by omega) ⟨rfl, owE (by omega), owE (by omega), rfl, rfl, rfl, trivial⟩ ⟨rfl, rowE (by unfold padI; exact rep_rowI (by omega)), rowE (by unfold padI; exact rep_rowI (by omega)), trivial⟩
    (fun _ : Unit => True) (fun _ => [(2, .c (.ad 2 0)), (3, .c (.ow 9 1 l.length)), (4, .c (.ow 12 1 l.length))]) (fun _ => [(2, .var [nilPt, nilPt, nilPt, nilPt]), (9, .row 1 (iRow (prbs l))), (12, .row 1 (iRow (bcks l)))]) (fun i hi => ?_) (fun _ _ => ?_)
  · have hpl := padI_len (l := prbs l) (i := i) (by omega)
    have hbl := padI_len (l := bcks l) (i := i) (by omega)
    refine dcase (fun h1 => ?_) (fun h1 => ?_)
    · have hi' : i < l.length := by omega
      have e1 : (prbs l)[i]'(by omega) = l[i].2.1 := by simp
      have e2 : (bcks l)[i]'(by omega) = l[i].2.2 := by simp
      have s1 := padI_set (l := prbs l) (i := i) (by omega)
      have s2 := padI_set (l := bcks l) (i := i) (by omega)
      rw [e1] at s1
      rw [e2] at s2
      refine And.intro (by omega) (X1 _ (eRow_get rfl hi') ?_)
      refine And.intro (by omega) (And.intro (by omega) ?_)
      refine X1 _ (iRow_getN (l := padI (prbs l) i) rfl (by omega)) ?_
      refine And.intro (by omega) (And.intro (by omega) ?_)
      refine X1 _ (iRow_getN (l := padI (bcks l) i) rfl (by omega)) ?_
      refine And.intro rfl ?_
      refine X1 ((i + 1 : Nat) : Int) (wI1 (by omega)) ?_
      exact ⟨i + 1, by omega, by omega, ⟨rfl, rfl, rfl, rfl, rfl, rfl, trivial⟩, ⟨rfl, rowE (by rw [Int.toNat_natCast, ← s1, ← iRow_set]; rfl), rowE (by rw [Int.toNat_natCast, ← s2, ← iRow_set]; rfl), trivial⟩⟩
    · have e : i = l.length := by omega
      subst e
      exact ⟨(), trivial, ⟨rfl, rfl, rfl, trivial⟩, ⟨rfl, rowE (by rw [← hp, padI_all]), rowE (by rw [← hb, padI_all]), trivial⟩⟩
  · have h1 := columned_ct (prbs l) (by omega)
    have h2 := columned_ct (bcks l) (by omega)
    refine X2 .frz ?_
    refine X1 _ h1 ?_
    refine X2 .frz ?_
    refine X1 _ h2 ?_
    exact ⟨trivial, rc rfl, trivial⟩
abbrev esO (l : List Nat) (w : Nat) (x : PC) : List PC := [nI .i64 l.length, eI .i64 (lastE l), nI .i64 w, nilPt, x, nilPt, nilPt]
theorem hiN_nil (w : Nat) : hiN w [] = 0 := rfl
set_option maxHeartbeats 2000000 in
theorem esnew_ct (l : List Nat) (h : SeqB l) : Ct P 73 [.c (nSl .i64 l)] [.c (esV l), .c (nI .i64 0)] := by
  have hn := h.n
  have hw := wEl_le h.le
  have hbd := hiN_bd l
  obtain ⟨hV, hpc, hone⟩ := hi_all (wEl l) l h.up
  have hT := Ty.own_ok [109] T_ok
  refine Ct.keepI hT [20, 51, 60, 61] (N := 132) Tryz.func73 rfl rfl rfl rfl ?_
  refine seqI hT T_mix ?_
  refine seqI hT T_mix ?_
  refine X1 _ (echeck_ct l h) ?_
  refine seqI hT T_mix ?_
  refine And.intro (by rw [nRow_len]; omega) ?_
  rw [nRow_len]
  refine X2 (.own [] [(2, 60)]) ?_
  refine ⟨_, _, bnew_ct', ?_⟩
  refine cutI hT T_mix (G2 := Unit) (fun _ => True) (fun _ => [(0, .c (nSl .i64 l)), (5, .c (.ad 20 0))]) (fun _ => [(20, .var (esO l 0 (.ad 60 0))), (60, .var [.sc (.slice none 0 0), eI .i64 0])]) ?_ (fun _ _ => ?_)
  · refine dcase (fun h0 => ?_) (fun h0 => ?_)
    · refine X1 ((l.length - 1 : Nat) : Int) (wI (by omega) (by omega) (by omega)) ?_
      refine And.intro (by omega) (X1 _ (nRow_ix (by omega)) ?_)
      exact ⟨(), trivial, ⟨rfl, rfl, trivial⟩, ⟨by unfold esO lastE; rw [if_neg (by omega)]; rfl, rfl, trivial⟩⟩
    · exact ⟨(), trivial, ⟨rfl, rfl, trivial⟩, ⟨by unfold esO lastE; rw [if_pos (by omega)]; rfl, rfl, trivial⟩⟩
  refine codeI hT T_mix ?_
  refine X1 _ (elow_ct l h) ?_
  refine And.intro rfl ?_
  refine And.intro (by rw [nRow_len]; omega) ?_
  rw [nRow_len]
  refine ⟨by omega, by omega, by omega, .inl (by decide), ?_⟩
  refine And.intro (by rw [nRow_len]; omega) ?_
  rw [nRow_len]
  refine nilVar (r := 61) (k := 60) (i := 0) (sz := 1) rfl rfl rfl ?_
  refine loopJ hT T_mix (fun i : Nat => i ≤ l.length) (fun i => [(5, .c (.ad 20 0)), (6, .c (.ow 51 1 l.length)), (7, .c (nI .i64 (upE (wEl l) l i))), (52, .c (nSl .i64 l)), (53, .c (nI .i64 l.length)), (54, .c (nI .i64 i))])
    (fun i => [(20, .var (esO l (wEl l) (.ad 60 0))), (51, .row 1 (nRow .u64 (lowsP (wEl l) l i))), (60, .var [.ow 61 1 (needN (hiN (wEl l) (l.take i))), nI .i64 (hiN (wEl l) (l.take i))]), (61, .row 1 (nRow .u64 (wsN (hiN (wEl l) (l.take i)) (hiV (wEl l) (l.take i)))))]) (fun i => l.length - i)
    0 (by omega) ⟨rfl, owE (by omega), rfl, rfl, rfl, rfl, trivial⟩ ⟨rfl, rowE (by unfold lowsP; exact rep_row (by omega)), by rw [List.take_zero, hiN_nil]; rfl, by rw [List.take_zero, hiN_nil]; rfl, trivial⟩
    (fun _ : Unit => True) (fun _ => [(5, .c (.ad 20 0)), (6, .c (.ow 51 1 (l.map (· % 2 ^ wEl l)).length))])
    (fun _ => [(20, .var (esO l (wEl l) (.ad 60 0))), (51, .row 1 (nRow .u64 (l.map (· % 2 ^ wEl l)))), (60, .var [.ow 61 1 (wsN (hiN (wEl l) l) (hiV (wEl l) l)).length, nI .i64 (hiN (wEl l) l)]), (61, .row 1 (nRow .u64 (wsN (hiN (wEl l) l) (hiV (wEl l) l))))]) (fun i hi => ?_) (fun _ _ => ?_)
  · refine dcase (fun h5 => ?_) (fun h5 => ?_)
    · have hi' : i < l.length := by omega
      obtain ⟨v, hv⟩ : ∃ v, v = l.getD i 0 := ⟨_, rfl⟩
      have hle := h.get hi'
      rw [← hv] at hle
      have hd := Nat.div_le_self v (2 ^ wEl l)
      have hN := hiN_take (w := wEl l) hi
      have hN1 := hiN_take (w := wEl l) (l := l) (i := i + 1) (by omega)
      have hsn := take_snocN hi'
      rw [← hv] at hsn
      have hNs := hiN_snoc (wEl l) (l.take i) v
      have hVs := hiV_snoc (wEl l) (l.take i) v
      rw [← hsn, List.length_take, Nat.min_eq_left hi] at hNs hVs
      have hle2 := hiN_le (w := wEl l) (l := l.take i) (v := v) (by rw [← hsn]; exact h.up.take _)
      rw [List.length_take, Nat.min_eq_left hi] at hle2
      have hVi := (hi_all (wEl l) (l.take i) (h.up.take i)).1
      have hup1 : upE (wEl l) l (i + 1) = v / 2 ^ wEl l := by unfold upE; rw [if_neg (by omega), Nat.add_sub_cancel, ← hv]
      have hvb : v / 2 ^ wEl l + i ≤ 300000 := by
        have hup := h.up i (l.length - 1) (by omega) (by omega)
        rw [← hv] at hup
        have h1 := Nat.div_le_div_right (c := 2 ^ wEl l) hup
        have h2 : hiN (wEl l) l = l.getD (l.length - 1) 0 / 2 ^ wEl l + l.length := by unfold hiN; rw [if_neg (by omega)]
        omega
      have hmod := Nat.mod_le v (2 ^ wEl l)
      have hll := lowsP_len (w := wEl l) hi
      refine And.intro (by omega) (X1 _ (nRow_ix hi') ?_)
      rw [← hv]
      refine X1 ((v : Nat) : Int) (wU rfl (by omega) (by omega)) ?_
      refine X1 _ (mask_ct (wEl l) (by omega)) ?_
      refine X1 _ (andM (by omega) (by omega)) ?_
      refine And.intro (by omega) (And.intro (by omega) ?_)
      refine X1 _ (by rw [Int.toNat_natCast]; exact nRow_at' (x := (lowsP (wEl l) l i).getD i 0) (by rw [List.getD_eq_getElem?_getD, List.getElem?_eq_getElem (by omega)]; rfl)) ?_
      refine X1 ((wEl l : Nat) : Int) (wU rfl (by omega) (by omega)) ?_
      refine And.intro (by omega) (X1 ((v / 2 ^ wEl l : Nat) : Int) (shrN (by omega)) (And.intro ⟨by omega, by omega⟩ ?_))
      obtain ⟨g0, hg0⟩ : ∃ g, g = v / 2 ^ wEl l - upE (wEl l) l i := ⟨_, rfl⟩
      refine X1 ((g0 : Nat) : Int) (wI (by omega) (by omega) (by omega)) ?_
      refine X1 ((v / 2 ^ wEl l : Nat) : Int) (wI (by omega) (by omega) (by omega)) ?_
      have hset : (nRow .u64 (lowsP (wEl l) l i)).set i [nI .u64 (v % 2 ^ wEl l)] = nRow .u64 (lowsP (wEl l) l (i + 1)) := by rw [nRow_set, hv, lowsP_set hi']
      obtain ⟨V, hVe⟩ : ∃ V, V = hiV (wEl l) (l.take i) := ⟨_, rfl⟩
      rw [← hVe] at hVi hVs
      rw [hN] at hVi
      refine loopJ hT T_mix (fun g : Nat => g ≤ g0) (fun g => [(5, .c (.ad 20 0)), (6, .c (.ow 51 1 l.length)), (7, .c (nI .i64 (v / 2 ^ wEl l))), (10, .c (nI .i64 g)), (52, .c (nSl .i64 l)), (53, .c (nI .i64 l.length)), (54, .c (nI .i64 i))])
        (fun g => [(20, .var (esO l (wEl l) (.ad 60 0))), (51, .row 1 (nRow .u64 (lowsP (wEl l) l (i + 1)))), (60, .var [.ow 61 1 (needN (v / 2 ^ wEl l + i - g)), nI .i64 (v / 2 ^ wEl l + i - g : Nat)]), (61, .row 1 (nRow .u64 (wsN (v / 2 ^ wEl l + i - g) V)))]) (fun g => g)
        g0 (Nat.le_refl _) ⟨rfl, rfl, rfl, rfl, rfl, rfl, rfl, trivial⟩ ⟨rfl, rowE (by rw [Int.toNat_natCast]; exact hset), by rw [show v / 2 ^ wEl l + i - g0 = hiN (wEl l) (l.take i) by omega]; rfl, by rw [show v / 2 ^ wEl l + i - g0 = hiN (wEl l) (l.take i) by omega, hVe]; rfl, trivial⟩
        (fun g : Nat => g ≤ g0 ∧ g < 64) (fun g => [(5, .c (.ad 20 0)), (6, .c (.ow 51 1 l.length)), (7, .c (nI .i64 (v / 2 ^ wEl l))), (10, .c (nI .i64 g)), (52, .c (nSl .i64 l)), (53, .c (nI .i64 l.length)), (54, .c (nI .i64 i))])
        (fun g => [(20, .var (esO l (wEl l) (.ad 60 0))), (51, .row 1 (nRow .u64 (lowsP (wEl l) l (i + 1)))), (60, .var [.ow 61 1 (needN (v / 2 ^ wEl l + i - g)), nI .i64 (v / 2 ^ wEl l + i - g : Nat)]), (61, .row 1 (nRow .u64 (wsN (v / 2 ^ wEl l + i - g) V)))]) (fun g hg => ?_) (fun g hg => ?_)
      · have hlt : V < 2 ^ (v / 2 ^ wEl l + i - g) := Nat.lt_of_lt_of_le hVi (Nat.pow_le_pow_right (by omega) (by omega))
        refine dcase (fun h6 => ?_) (fun h6 => ?_)
        · refine X2 (.own [(60, 1000000), (61, 1000001)] [(1000000, 60), (200, 61)]) ?_
          refine ⟨_, _, badd0_ct _ V 64 hlt (by omega) (by omega), ?_⟩
          refine X1 ((g - 64 : Nat) : Int) (wI (by omega) (by omega) (by omega)) ?_
          rw [show v / 2 ^ wEl l + i - g + 64 = v / 2 ^ wEl l + i - (g - 64) by omega]
          exact ⟨g - 64, by omega, by omega, ⟨rfl, rfl, rfl, rfl, rfl, rfl, rfl, trivial⟩, ⟨rfl, rfl, rfl, rfl, trivial⟩⟩
        · exact ⟨g, ⟨hg, by omega⟩, ⟨rfl, rfl, rfl, rfl, rfl, rfl, rfl, trivial⟩, ⟨rfl, rfl, rfl, rfl, trivial⟩⟩
      · obtain ⟨hg1, hg2⟩ := hg
        have hlt : V < 2 ^ (v / 2 ^ wEl l + i - g) := Nat.lt_of_lt_of_le hVi (Nat.pow_le_pow_right (by omega) (by omega))
        have hlt2 : V < 2 ^ (v / 2 ^ wEl l + i) := Nat.lt_of_lt_of_le hVi (Nat.pow_le_pow_right (by omega) (by omega))
        have ha0 := badd0_ct _ V g hlt (by omega) (by omega)
        rw [show v / 2 ^ wEl l + i - g + g = v / 2 ^ wEl l + i by omega] at ha0
        have ha1 := badd'_ct (v / 2 ^ wEl l + i) V 1 1 hlt2 (by decide) (by omega) (by omega)
        rw [Nat.one_mul, ← hVs, ← hNs] at ha1
        refine X2 (.own [(60, 1000000), (61, 1000001)] [(1000000, 60), (200, 61)]) ?_
        refine ⟨_, _, ha0, ?_⟩
        refine X2 (.own [(60, 1000000), (61, 1000001)] [(1000000, 60), (200, 61)]) ?_
        refine ⟨_, _, ha1, ?_⟩
        refine X1 ((i + 1 : Nat) : Int) (wI1 (by omega)) ?_
        exact ⟨i + 1, by omega, by omega, ⟨rfl, rfl, iE (by rw [hup1]), rfl, rfl, rfl, trivial⟩, ⟨rfl, rfl, rfl, rfl, trivial⟩⟩
    · have e : i = l.length := by omega
      subst e
      exact ⟨(), trivial, ⟨rfl, owE (by simp), trivial⟩, ⟨rfl, rowE (by rw [lowsP_all]), by rw [wsN_len, List.take_length]; rfl, by rw [List.take_length]; rfl, trivial⟩⟩
  · have hlows : ∀ x, x ∈ l.map (· % 2 ^ wEl l) → x < 2 ^ wEl l := fun x hx => by
      obtain ⟨y, _, rfl⟩ := List.mem_map.1 hx
      exact Nat.mod_lt _ (Nat.two_pow_pos _)
    refine X2 .frz ?_
    refine X1 _ (pnew_ct (wEl l) _ (by omega) (by rw [List.length_map]; omega) hlows) ?_
    refine X2 (.fzo [60, 61] [] []) ?_
    refine ⟨_, _, rdnew_ct _ _ hV (by omega), ?_⟩
    refine X1 _ (sdnew_ct _ _ hV (by omega)) ?_
    exact ⟨trivial, SubO.of (l := []) trivial, r1 rfl, r1 rfl, trivial⟩
end Go.Proofs.YtjpbijdpkdmeaaaGreat.Pv
