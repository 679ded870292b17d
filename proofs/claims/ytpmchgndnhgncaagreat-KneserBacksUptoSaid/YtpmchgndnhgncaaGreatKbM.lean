/- Parts of a proof, joined: Scd Sce Cv El Em Fa Fb Fc En Eo Ep Ef. -/
import Derived.Test.YtpmchgndnhgncaaGreatKbL
namespace Go.Proofs.YtpmchgndnhgncaaGreat.Pv.SrtC
open Go Go.Sort
section
variable {p : El → Bool} {e : Array El} {i j : Nat}
theorem sUp_a (h : ¬ i ≤ j) : scanUp p e j i = i := by rw [scanUp, if_neg (by simp; omega)]
theorem sUp_b (h : p e[i]! = false) : scanUp p e j i = i := by rw [scanUp, if_neg (by simp [h])]
theorem sUp_c (h : i ≤ j) (h2 : p e[i]! = true) : scanUp p e j i = scanUp p e j (i + 1) := by rw [scanUp, if_pos (by simp [h2]; omega)]
theorem sDn_a (h : ¬ i ≤ j) : scanDown p e i j = j := by
  cases j with
  | zero => rfl
  | succ j => rw [scanDown, if_neg (by simp; omega)]
theorem sDn_b (h : p e[j]! = false) : scanDown p e i j = j := by
  cases j with
  | zero => rfl
  | succ j => rw [scanDown, if_neg (by simp [h])]
theorem sDn_c (h0 : 1 ≤ j) (h : i ≤ j) (h2 : p e[j]! = true) : scanDown p e i j = scanDown p e i (j - 1) := by
  cases j with
  | zero => omega
  | succ j => rw [scanDown, if_pos (by simp [h2]; omega)]; rfl
end
variable {cm : El → El → Int}
theorem pEqL {a i j i2 j2 : Nat} {e : Array El} (hi2 : scanUp (fun x => !lt cm e[a]! x) e j i = i2) (hj2 : scanDown (fun x => lt cm e[a]! x) e i2 j = j2) : partEqLoop (lt cm) a i j e = if i2 > j2 then (i2, e) else if _h : (j2 - 1) + 1 - (i2 + 1) < j + 1 - i then partEqLoop (lt cm) a (i2 + 1) (j2 - 1) (swp e i2 j2) else (i2, e) := by
  subst hi2 hj2
  rw [partEqLoop]
theorem pL {a i j i2 j2 : Nat} {e : Array El} (hi2 : scanUp (fun x => lt cm x e[a]!) e j i = i2) (hj2 : scanDown (fun x => !lt cm x e[a]!) e i2 j = j2) : partLoop (lt cm) a i j e = if i2 > j2 then (j2, e) else if _h : (j2 - 1) + 1 - (i2 + 1) < j + 1 - i then partLoop (lt cm) a (i2 + 1) (j2 - 1) (swp e i2 j2) else (j2, e) := by
  subst hi2 hj2
  rw [partLoop]
variable (g : FuncId) (cm)
variable (hc : ∀ x y, Ct P g [VL x, VL y] [.c (eI .i64 (cm x y))])
include hc
theorem pEq_ct (d : Array El) (a b p : Nat) (hab : a < b) (hp : p < d.size) (hb : b ≤ d.size) (hd : d.size ≤ 1000000) :
    CtO P 175 [dO d] [dA d, .c (nI .i64 a), .c (nI .i64 b), .c (nI .i64 p), .c (.fn g [])] [dO (partitionEqual (lt cm) d a b p).2] [.c (nI .i64 (partitionEqual (lt cm) d a b p).1)] := by
  have key : ∀ F : Nat × Array El, partEqLoop (lt cm) a (a + 1) (b - 1) (swp d a p) = F → CtO P 175 [dO d] [dA d, .c (nI .i64 a), .c (nI .i64 b), .c (nI .i64 p), .c (.fn g [])] [dO F.2] [.c (nI .i64 F.1)] := by
    intro F hF
    refine Ct.io T_ok T_mix (N := 90) Tryz.func175 rfl rfl rfl rfl ?_
    refine And.intro (by omega) (And.intro (by omega) (X1 _ (row_get (d := d) (n := p) rfl (by omega)) ?_))
    refine And.intro (by omega) (And.intro (by omega) (X1 _ (row_get (d := d) (n := a) rfl (by omega)) ?_))
    refine And.intro (by omega) (And.intro (by omega) (X1 _ (row_get (d := d) (n := a) rfl (by omega)) ?_))
    refine And.intro (by omega) (And.intro (by omega) (X1 _ (row_get2 (d := d) (y := d[p]!) (m := a) (n := p) rfl rfl (by omega)) ?_))
    refine And.intro rfl ?_
    refine X1 ((a + 1 : Nat) : Int) (wI (by simp) (by omega) (by omega)) ?_
    refine X1 ((b - 1 : Nat) : Int) (wI (by omega) (by omega) (by omega)) ?_
    refine loopJ T_ok T_mix (G := Nat × Nat × Array El) (fun (i, j, e) => partEqLoop (lt cm) a i j e = F ∧ e.size = d.size ∧ 1 ≤ i ∧ j < d.size ∧ i ≤ j + 2) (fun (i, j, _) => [(0, .c (.ow 1000000 SZ d.size)), (1, .c (nI .i64 a)), (4, .c (.fn g [])), (11, .c (nI .i64 i)), (12, .c (nI .i64 j))]) (fun (_, _, e) => [(1000000, .row SZ (row e))]) (fun (i, j, _) => j + 1 - i)
      (a + 1, b - 1, swp d a p) ⟨hF, swp_size, by omega, by omega, by omega⟩ ⟨rfl, rfl, rfl, rfl, rfl, trivial⟩ ⟨rowE (row_swp (m := a) (n := p) rfl rfl), trivial⟩ (G2 := Nat × Array El) (fun (i, e) => F = (i, e)) (fun (i, _) => [(11, .c (nI .i64 i))]) (fun (_, e) => [(1000000, .row SZ (row e))]) (fun (i, j, e) hi => ?_) (fun (i, e) he => ?_)
    · obtain ⟨i1, i2, i3, i4, i5⟩ := hi
      refine loopJ T_ok T_mix (G := Nat) (fun q => scanUp (fun x => !lt cm e[a]! x) e j q = scanUp (fun x => !lt cm e[a]! x) e j i ∧ i ≤ q ∧ (q ≤ j + 1 ∨ q = i)) (fun q => [(0, .c (.ow 1000000 SZ d.size)), (1, .c (nI .i64 a)), (4, .c (.fn g [])), (11, .c (nI .i64 q)), (12, .c (nI .i64 j))]) (fun _ => [(1000000, .row SZ (row e))]) (fun q => j + 1 - q)
        i ⟨rfl, by omega, by omega⟩ ⟨rfl, rfl, rfl, rfl, rfl, trivial⟩ ⟨rfl, trivial⟩ (G2 := Nat) (fun q => scanUp (fun x => !lt cm e[a]! x) e j i = q ∧ i ≤ q ∧ (q ≤ j + 1 ∨ q = i)) (fun q => [(0, .c (.ow 1000000 SZ d.size)), (1, .c (nI .i64 a)), (4, .c (.fn g [])), (11, .c (nI .i64 q)), (12, .c (nI .i64 j))]) (fun _ => [(1000000, .row SZ (row e))]) (fun q hq => ?_) (fun k hk => ?_)
      · obtain ⟨q1, q2, q3⟩ := hq
        refine dcase (fun h6 => ?_) (fun h6 => ?_)
        · refine And.intro (by omega) (And.intro (by omega) (X1 _ (row_get (d := e) (n := a) rfl (by omega)) ?_))
          refine And.intro (by omega) (And.intro (by omega) (X1 _ (row_get (d := e) (n := q) rfl (by omega)) ?_))
          refine X1 _ (hc _ _) ?_
          refine And.intro rfl ?_
          refine bcase (fun h7 => ?_) (fun h7 => ?_)
          · have h7p : (!lt cm e[a]! e[q]!) = true := h7
            rw [sUp_c (p := (fun x => !lt cm e[a]! x)) (e := e) (i := q) (by omega) h7p] at q1
            refine X1 ((q + 1 : Nat) : Int) (wI (by simp) (by omega) (by omega)) ?_
            exact ⟨q + 1, ⟨q1, by omega, by omega⟩, by show j + 1 - (q + 1) < j + 1 - q; omega, ⟨rfl, rfl, rfl, rfl, rfl, trivial⟩, ⟨rfl, trivial⟩⟩
          · have h7p : (!lt cm e[a]! e[q]!) = false := h7
            rw [sUp_b (p := (fun x => !lt cm e[a]! x)) (e := e) (i := q) h7p] at q1
            exact ⟨q, ⟨q1.symm, q2, q3⟩, ⟨rfl, rfl, rfl, rfl, rfl, trivial⟩, ⟨rfl, trivial⟩⟩
        · refine And.intro rfl ?_
          rw [sUp_a (by omega)] at q1
          exact ⟨q, ⟨q1.symm, q2, q3⟩, ⟨rfl, rfl, rfl, rfl, rfl, trivial⟩, ⟨rfl, trivial⟩⟩
      · obtain ⟨k1, k2, k3⟩ := hk
        refine loopJ T_ok T_mix (G := Nat) (fun q => scanDown (fun x => lt cm e[a]! x) e k q = scanDown (fun x => lt cm e[a]! x) e k j ∧ q ≤ j ∧ (k ≤ q + 1 ∨ q = j)) (fun q => [(0, .c (.ow 1000000 SZ d.size)), (1, .c (nI .i64 a)), (4, .c (.fn g [])), (11, .c (nI .i64 k)), (12, .c (nI .i64 q))]) (fun _ => [(1000000, .row SZ (row e))]) (fun q => q)
          j ⟨rfl, by omega, by omega⟩ ⟨rfl, rfl, rfl, rfl, rfl, trivial⟩ ⟨rfl, trivial⟩ (G2 := Nat) (fun q => scanDown (fun x => lt cm e[a]! x) e k j = q ∧ q ≤ j ∧ (k ≤ q + 1 ∨ q = j)) (fun q => [(0, .c (.ow 1000000 SZ d.size)), (1, .c (nI .i64 a)), (4, .c (.fn g [])), (11, .c (nI .i64 k)), (12, .c (nI .i64 q))]) (fun _ => [(1000000, .row SZ (row e))]) (fun q hq => ?_) (fun r hr => ?_)
        · obtain ⟨q1, q2, q3⟩ := hq
          refine dcase (fun h6 => ?_) (fun h6 => ?_)
          · refine And.intro (by omega) (And.intro (by omega) (X1 _ (row_get (d := e) (n := a) rfl (by omega)) ?_))
            refine And.intro (by omega) (And.intro (by omega) (X1 _ (row_get (d := e) (n := q) rfl (by omega)) ?_))
            refine X1 _ (hc _ _) ?_
            refine And.intro rfl ?_
            refine bcase (fun h7 => ?_) (fun h7 => ?_)
            · have h7p : lt cm e[a]! e[q]! = true := h7
              rw [sDn_c (p := (fun x => lt cm e[a]! x)) (e := e) (j := q) (by omega) (by omega) h7p] at q1
              refine X1 ((q - 1 : Nat) : Int) (wI (by omega) (by omega) (by omega)) ?_
              exact ⟨q - 1, ⟨q1, by omega, by omega⟩, by show q - 1 < q; omega, ⟨rfl, rfl, rfl, rfl, rfl, trivial⟩, ⟨rfl, trivial⟩⟩
            · have h7p : lt cm e[a]! e[q]! = false := h7
              rw [sDn_b (p := (fun x => lt cm e[a]! x)) (e := e) (j := q) h7p] at q1
              exact ⟨q, ⟨q1.symm, q2, q3⟩, ⟨rfl, rfl, rfl, rfl, rfl, trivial⟩, ⟨rfl, trivial⟩⟩
          · refine And.intro rfl ?_
            rw [sDn_a (by omega)] at q1
            exact ⟨q, ⟨q1.symm, q2, q3⟩, ⟨rfl, rfl, rfl, rfl, rfl, trivial⟩, ⟨rfl, trivial⟩⟩
        · obtain ⟨r1', r2', r3'⟩ := hr
          rw [pEqL k1 r1'] at i1
          refine dcase (fun h8 => ?_) (fun h8 => ?_)
          · rw [if_pos (by omega)] at i1
            exact ⟨(k, e), i1.symm, ⟨rfl, trivial⟩, ⟨rfl, trivial⟩⟩
          · rw [if_neg (by omega), dif_pos (by omega)] at i1
            refine And.intro (by omega) (And.intro (by omega) (X1 _ (row_get (d := e) (n := r) rfl (by omega)) ?_))
            refine And.intro (by omega) (And.intro (by omega) (X1 _ (row_get (d := e) (n := k) rfl (by omega)) ?_))
            refine And.intro (by omega) (And.intro (by omega) (X1 _ (row_get (d := e) (n := k) rfl (by omega)) ?_))
            refine And.intro (by omega) (And.intro (by omega) (X1 _ (row_get2 (d := e) (y := e[r]!) (m := k) (n := r) rfl rfl (by omega)) ?_))
            refine And.intro rfl ?_
            refine X1 ((k + 1 : Nat) : Int) (wI (by simp) (by omega) (by omega)) ?_
            refine X1 ((r - 1 : Nat) : Int) (wI (by omega) (by omega) (by omega)) ?_
            exact ⟨(k + 1, r - 1, swp e k r), ⟨i1, by rw [swp_size]; exact i2, by omega, by omega, by omega⟩, by show r - 1 + 1 - (k + 1) < j + 1 - i; omega, ⟨rfl, rfl, rfl, rfl, rfl, trivial⟩, ⟨rowE (row_swp (m := k) (n := r) rfl rfl), trivial⟩⟩
    · rw [he]
      exact ⟨trivial, SubO.of (l := [(1000000, .row _ _)]) ⟨rfl, trivial⟩, r1 rfl, trivial⟩
  exact key _ rfl
theorem part_ct (d : Array El) (a b p : Nat) (hab : a < b) (hp : p < d.size) (hb : b ≤ d.size) (hd : d.size ≤ 1000000) :
    CtO P 176 [dO d] [dA d, .c (nI .i64 a), .c (nI .i64 b), .c (nI .i64 p), .c (.fn g [])] [dO (partition (lt cm) d a b p).2.2] [.c (nI .i64 (partition (lt cm) d a b p).1), .c (.sc (.bool (partition (lt cm) d a b p).2.1))] := by
  have key : ∀ e0 : Array El, swp d a p = e0 → CtO P 176 [dO d] [dA d, .c (nI .i64 a), .c (nI .i64 b), .c (nI .i64 p), .c (.fn g [])] [dO (partition (lt cm) d a b p).2.2] [.c (nI .i64 (partition (lt cm) d a b p).1), .c (.sc (.bool (partition (lt cm) d a b p).2.1))] := by
    intro e0 he0
    have hpt : partition (lt cm) d a b p = (if scanUp (fun x => lt cm x e0[a]!) e0 (b - 1) (a + 1) > scanDown (fun x => !lt cm x e0[a]!) e0 (scanUp (fun x => lt cm x e0[a]!) e0 (b - 1) (a + 1)) (b - 1) then (scanDown (fun x => !lt cm x e0[a]!) e0 (scanUp (fun x => lt cm x e0[a]!) e0 (b - 1) (a + 1)) (b - 1), true, swp e0 (scanDown (fun x => !lt cm x e0[a]!) e0 (scanUp (fun x => lt cm x e0[a]!) e0 (b - 1) (a + 1)) (b - 1)) a) else
        ((partLoop (lt cm) a (scanUp (fun x => lt cm x e0[a]!) e0 (b - 1) (a + 1) + 1) (scanDown (fun x => !lt cm x e0[a]!) e0 (scanUp (fun x => lt cm x e0[a]!) e0 (b - 1) (a + 1)) (b - 1) - 1) (swp e0 (scanUp (fun x => lt cm x e0[a]!) e0 (b - 1) (a + 1)) (scanDown (fun x => !lt cm x e0[a]!) e0 (scanUp (fun x => lt cm x e0[a]!) e0 (b - 1) (a + 1)) (b - 1)))).1, false, swp (partLoop (lt cm) a (scanUp (fun x => lt cm x e0[a]!) e0 (b - 1) (a + 1) + 1) (scanDown (fun x => !lt cm x e0[a]!) e0 (scanUp (fun x => lt cm x e0[a]!) e0 (b - 1) (a + 1)) (b - 1) - 1) (swp e0 (scanUp (fun x => lt cm x e0[a]!) e0 (b - 1) (a + 1)) (scanDown (fun x => !lt cm x e0[a]!) e0 (scanUp (fun x => lt cm x e0[a]!) e0 (b - 1) (a + 1)) (b - 1)))).2 (partLoop (lt cm) a (scanUp (fun x => lt cm x e0[a]!) e0 (b - 1) (a + 1) + 1) (scanDown (fun x => !lt cm x e0[a]!) e0 (scanUp (fun x => lt cm x e0[a]!) e0 (b - 1) (a + 1)) (b - 1) - 1) (swp e0 (scanUp (fun x => lt cm x e0[a]!) e0 (b - 1) (a + 1)) (scanDown (fun x => !lt cm x e0[a]!) e0 (scanUp (fun x => lt cm x e0[a]!) e0 (b - 1) (a + 1)) (b - 1)))).1 a)) := by
      rw [← he0]; rfl
    have hs0 : e0.size = d.size := by rw [← he0, swp_size]
    refine Ct.io T_ok T_mix (N := 178) Tryz.func176 rfl rfl rfl rfl ?_
    refine And.intro (by omega) (And.intro (by omega) (X1 _ (row_get (d := d) (n := p) rfl (by omega)) ?_))
    refine And.intro (by omega) (And.intro (by omega) (X1 _ (row_get (d := d) (n := a) rfl (by omega)) ?_))
    refine And.intro (by omega) (And.intro (by omega) (X1 _ (row_get (d := d) (n := a) rfl (by omega)) ?_))
    refine And.intro (by omega) (And.intro (by omega) (X1 _ (row_get2 (d := d) (y := d[p]!) (m := a) (n := p) rfl rfl (by omega)) ?_))
    refine And.intro rfl ?_
    have hrow := row_swp (d := d) (i := (a : Int)) (j := (p : Int)) (m := a) (n := p) rfl rfl
    rw [he0] at hrow
    refine X1 ((a + 1 : Nat) : Int) (wI (by simp) (by omega) (by omega)) ?_
    refine X1 ((b - 1 : Nat) : Int) (wI (by omega) (by omega) (by omega)) ?_
    refine loopJ T_ok T_mix (G := Nat) (fun q => scanUp (fun x => lt cm x e0[a]!) e0 (b - 1) q = scanUp (fun x => lt cm x e0[a]!) e0 (b - 1) (a + 1) ∧ (a + 1) ≤ q ∧ (q ≤ (b - 1) + 1 ∨ q = (a + 1))) (fun q => [(0, .c (.ow 1000000 SZ d.size)), (1, .c (nI .i64 a)), (4, .c (.fn g [])), (12, .c (nI .i64 q)), (13, .c (nI .i64 (b - 1)))]) (fun _ => [(1000000, .row SZ (row e0))]) (fun q => (b - 1) + 1 - q)
      (a + 1) ⟨rfl, by omega, by omega⟩ ⟨rfl, rfl, rfl, rfl, rfl, trivial⟩ ⟨rowE hrow, trivial⟩ (G2 := Nat) (fun q => scanUp (fun x => lt cm x e0[a]!) e0 (b - 1) (a + 1) = q ∧ (a + 1) ≤ q ∧ (q ≤ (b - 1) + 1 ∨ q = (a + 1))) (fun q => [(0, .c (.ow 1000000 SZ d.size)), (1, .c (nI .i64 a)), (4, .c (.fn g [])), (12, .c (nI .i64 q)), (13, .c (nI .i64 (b - 1)))]) (fun _ => [(1000000, .row SZ (row e0))]) (fun q hq => ?_) (fun k hk => ?_)
    · obtain ⟨q1, q2, q3⟩ := hq
      refine dcase (fun h6 => ?_) (fun h6 => ?_)
      · refine And.intro (by omega) (And.intro (by omega) (X1 _ (row_get (d := e0) (n := q) rfl (by omega)) ?_))
        refine And.intro (by omega) (And.intro (by omega) (X1 _ (row_get (d := e0) (n := a) rfl (by omega)) ?_))
        refine X1 _ (hc _ _) ?_
        refine And.intro rfl ?_
        refine bcase (fun h7 => ?_) (fun h7 => ?_)
        · have h7p : lt cm e0[q]! e0[a]! = true := h7
          rw [sUp_c (p := (fun x => lt cm x e0[a]!)) (e := e0) (i := q) (by omega) h7p] at q1
          refine X1 ((q + 1 : Nat) : Int) (wI (by simp) (by omega) (by omega)) ?_
          exact ⟨q + 1, ⟨q1, by omega, by omega⟩, by show (b - 1) + 1 - (q + 1) < (b - 1) + 1 - q; omega, ⟨rfl, rfl, rfl, rfl, rfl, trivial⟩, ⟨rfl, trivial⟩⟩
        · have h7p : lt cm e0[q]! e0[a]! = false := h7
          rw [sUp_b (p := (fun x => lt cm x e0[a]!)) (e := e0) (i := q) h7p] at q1
          exact ⟨q, ⟨q1.symm, q2, q3⟩, ⟨rfl, rfl, rfl, rfl, rfl, trivial⟩, ⟨rfl, trivial⟩⟩
      · refine And.intro rfl ?_
        rw [sUp_a (by omega)] at q1
        exact ⟨q, ⟨q1.symm, q2, q3⟩, ⟨rfl, rfl, rfl, rfl, rfl, trivial⟩, ⟨rfl, trivial⟩⟩
    · obtain ⟨k1, k2, k3⟩ := hk
      refine loopJ T_ok T_mix (G := Nat) (fun q => scanDown (fun x => !lt cm x e0[a]!) e0 k q = scanDown (fun x => !lt cm x e0[a]!) e0 k (b - 1) ∧ q ≤ (b - 1) ∧ (k ≤ q + 1 ∨ q = (b - 1))) (fun q => [(0, .c (.ow 1000000 SZ d.size)), (1, .c (nI .i64 a)), (4, .c (.fn g [])), (12, .c (nI .i64 k)), (13, .c (nI .i64 q))]) (fun _ => [(1000000, .row SZ (row e0))]) (fun q => q)
        (b - 1) ⟨rfl, by omega, by omega⟩ ⟨rfl, rfl, rfl, rfl, rfl, trivial⟩ ⟨rfl, trivial⟩ (G2 := Nat) (fun q => scanDown (fun x => !lt cm x e0[a]!) e0 k (b - 1) = q ∧ q ≤ (b - 1) ∧ (k ≤ q + 1 ∨ q = (b - 1))) (fun q => [(0, .c (.ow 1000000 SZ d.size)), (1, .c (nI .i64 a)), (4, .c (.fn g [])), (12, .c (nI .i64 k)), (13, .c (nI .i64 q))]) (fun _ => [(1000000, .row SZ (row e0))]) (fun q hq => ?_) (fun r hr => ?_)
      · obtain ⟨q1, q2, q3⟩ := hq
        refine dcase (fun h6 => ?_) (fun h6 => ?_)
        · refine And.intro (by omega) (And.intro (by omega) (X1 _ (row_get (d := e0) (n := q) rfl (by omega)) ?_))
          refine And.intro (by omega) (And.intro (by omega) (X1 _ (row_get (d := e0) (n := a) rfl (by omega)) ?_))
          refine X1 _ (hc _ _) ?_
          refine And.intro rfl ?_
          refine bcase (fun h7 => ?_) (fun h7 => ?_)
          · have h7p : (!lt cm e0[q]! e0[a]!) = true := h7
            rw [sDn_c (p := (fun x => !lt cm x e0[a]!)) (e := e0) (j := q) (by omega) (by omega) h7p] at q1
            refine X1 ((q - 1 : Nat) : Int) (wI (by omega) (by omega) (by omega)) ?_
            exact ⟨q - 1, ⟨q1, by omega, by omega⟩, by show q - 1 < q; omega, ⟨rfl, rfl, rfl, rfl, rfl, trivial⟩, ⟨rfl, trivial⟩⟩
          · have h7p : (!lt cm e0[q]! e0[a]!) = false := h7
            rw [sDn_b (p := (fun x => !lt cm x e0[a]!)) (e := e0) (j := q) h7p] at q1
            exact ⟨q, ⟨q1.symm, q2, q3⟩, ⟨rfl, rfl, rfl, rfl, rfl, trivial⟩, ⟨rfl, trivial⟩⟩
        · refine And.intro rfl ?_
          rw [sDn_a (by omega)] at q1
          exact ⟨q, ⟨q1.symm, q2, q3⟩, ⟨rfl, rfl, rfl, rfl, rfl, trivial⟩, ⟨rfl, trivial⟩⟩
      · obtain ⟨s1, s2, s3⟩ := hr
        rw [k1, s1] at hpt
        refine dcase (fun h8 => ?_) (fun h8 => ?_)
        · rw [if_pos (by omega)] at hpt
          rw [hpt]
          refine And.intro (by omega) (And.intro (by omega) (X1 _ (row_get (d := e0) (n := a) rfl (by omega)) ?_))
          refine And.intro (by omega) (And.intro (by omega) (X1 _ (row_get (d := e0) (n := r) rfl (by omega)) ?_))
          refine And.intro (by omega) (And.intro (by omega) (X1 _ (row_get (d := e0) (n := r) rfl (by omega)) ?_))
          refine And.intro (by omega) (And.intro (by omega) (X1 _ (row_get2 (d := e0) (y := e0[a]!) (m := r) (n := a) rfl rfl (by omega)) ?_))
          refine And.intro rfl ?_
          exact ⟨trivial, SubO.of (l := [(1000000, .row _ _)]) ⟨rowE (row_swp (m := r) (n := a) rfl rfl), trivial⟩, r1 rfl, r1 rfl, trivial⟩
        · rw [if_neg (by omega)] at hpt
          rw [hpt]
          refine And.intro (by omega) (And.intro (by omega) (X1 _ (row_get (d := e0) (n := r) rfl (by omega)) ?_))
          refine And.intro (by omega) (And.intro (by omega) (X1 _ (row_get (d := e0) (n := k) rfl (by omega)) ?_))
          refine And.intro (by omega) (And.intro (by omega) (X1 _ (row_get (d := e0) (n := k) rfl (by omega)) ?_))
          refine And.intro (by omega) (And.intro (by omega) (X1 _ (row_get2 (d := e0) (y := e0[r]!) (m := k) (n := r) rfl rfl (by omega)) ?_))
          refine And.intro rfl ?_
          have hrow2 := row_swp (d := e0) (i := (k : Int)) (j := (r : Int)) (m := k) (n := r) rfl rfl
          have hs1 : (swp e0 k r).size = d.size := by rw [swp_size]; exact hs0
          generalize swp e0 k r = e1 at *
          generalize hF : partLoop (lt cm) a (k + 1) (r - 1) e1 = F at *
          refine X1 ((k + 1 : Nat) : Int) (wI (by simp) (by omega) (by omega)) ?_
          refine X1 ((r - 1 : Nat) : Int) (wI (by omega) (by omega) (by omega)) ?_
          refine loopJ T_ok T_mix (G := Nat × Nat × Array El) (fun (i, j, e) => partLoop (lt cm) a i j e = F ∧ e.size = d.size ∧ 1 ≤ i ∧ j < d.size ∧ i ≤ j + 2) (fun (i, j, _) => [(0, .c (.ow 1000000 SZ d.size)), (1, .c (nI .i64 a)), (4, .c (.fn g [])), (12, .c (nI .i64 i)), (13, .c (nI .i64 j))]) (fun (_, _, e) => [(1000000, .row SZ (row e))]) (fun (i, j, _) => j + 1 - i)
            (k + 1, r - 1, e1) ⟨hF, hs1, by omega, by omega, by omega⟩ ⟨rfl, rfl, rfl, rfl, rfl, trivial⟩ ⟨rowE hrow2, trivial⟩ (G2 := Nat × Array El) (fun (j, e) => F = (j, e) ∧ j < d.size ∧ e.size = d.size) (fun (j, _) => [(0, .c (.ow 1000000 SZ d.size)), (1, .c (nI .i64 a)), (13, .c (nI .i64 j))]) (fun (_, e) => [(1000000, .row SZ (row e))]) (fun (i, j, e) hi => ?_) (fun (j, e) he => ?_)
          · obtain ⟨i1, i2, i3, i4, i5⟩ := hi
            refine loopJ T_ok T_mix (G := Nat) (fun q => scanUp (fun x => lt cm x e[a]!) e j q = scanUp (fun x => lt cm x e[a]!) e j i ∧ i ≤ q ∧ (q ≤ j + 1 ∨ q = i)) (fun q => [(0, .c (.ow 1000000 SZ d.size)), (1, .c (nI .i64 a)), (4, .c (.fn g [])), (12, .c (nI .i64 q)), (13, .c (nI .i64 j))]) (fun _ => [(1000000, .row SZ (row e))]) (fun q => j + 1 - q)
              i ⟨rfl, by omega, by omega⟩ ⟨rfl, rfl, rfl, rfl, rfl, trivial⟩ ⟨rfl, trivial⟩ (G2 := Nat) (fun q => scanUp (fun x => lt cm x e[a]!) e j i = q ∧ i ≤ q ∧ (q ≤ j + 1 ∨ q = i)) (fun q => [(0, .c (.ow 1000000 SZ d.size)), (1, .c (nI .i64 a)), (4, .c (.fn g [])), (12, .c (nI .i64 q)), (13, .c (nI .i64 j))]) (fun _ => [(1000000, .row SZ (row e))]) (fun q hq => ?_) (fun u hu => ?_)
            · obtain ⟨q1, q2, q3⟩ := hq
              refine dcase (fun h6 => ?_) (fun h6 => ?_)
              · refine And.intro (by omega) (And.intro (by omega) (X1 _ (row_get (d := e) (n := q) rfl (by omega)) ?_))
                refine And.intro (by omega) (And.intro (by omega) (X1 _ (row_get (d := e) (n := a) rfl (by omega)) ?_))
                refine X1 _ (hc _ _) ?_
                refine And.intro rfl ?_
                refine bcase (fun h7 => ?_) (fun h7 => ?_)
                · have h7p : lt cm e[q]! e[a]! = true := h7
                  rw [sUp_c (p := (fun x => lt cm x e[a]!)) (e := e) (i := q) (by omega) h7p] at q1
                  refine X1 ((q + 1 : Nat) : Int) (wI (by simp) (by omega) (by omega)) ?_
                  exact ⟨q + 1, ⟨q1, by omega, by omega⟩, by show j + 1 - (q + 1) < j + 1 - q; omega, ⟨rfl, rfl, rfl, rfl, rfl, trivial⟩, ⟨rfl, trivial⟩⟩
                · have h7p : lt cm e[q]! e[a]! = false := h7
                  rw [sUp_b (p := (fun x => lt cm x e[a]!)) (e := e) (i := q) h7p] at q1
                  exact ⟨q, ⟨q1.symm, q2, q3⟩, ⟨rfl, rfl, rfl, rfl, rfl, trivial⟩, ⟨rfl, trivial⟩⟩
              · refine And.intro rfl ?_
                rw [sUp_a (by omega)] at q1
                exact ⟨q, ⟨q1.symm, q2, q3⟩, ⟨rfl, rfl, rfl, rfl, rfl, trivial⟩, ⟨rfl, trivial⟩⟩
            · obtain ⟨u1, u2, u3⟩ := hu
              refine loopJ T_ok T_mix (G := Nat) (fun q => scanDown (fun x => !lt cm x e[a]!) e u q = scanDown (fun x => !lt cm x e[a]!) e u j ∧ q ≤ j ∧ (u ≤ q + 1 ∨ q = j)) (fun q => [(0, .c (.ow 1000000 SZ d.size)), (1, .c (nI .i64 a)), (4, .c (.fn g [])), (12, .c (nI .i64 u)), (13, .c (nI .i64 q))]) (fun _ => [(1000000, .row SZ (row e))]) (fun q => q)
                j ⟨rfl, by omega, by omega⟩ ⟨rfl, rfl, rfl, rfl, rfl, trivial⟩ ⟨rfl, trivial⟩ (G2 := Nat) (fun q => scanDown (fun x => !lt cm x e[a]!) e u j = q ∧ q ≤ j ∧ (u ≤ q + 1 ∨ q = j)) (fun q => [(0, .c (.ow 1000000 SZ d.size)), (1, .c (nI .i64 a)), (4, .c (.fn g [])), (12, .c (nI .i64 u)), (13, .c (nI .i64 q))]) (fun _ => [(1000000, .row SZ (row e))]) (fun q hq => ?_) (fun v hv => ?_)
              · obtain ⟨q1, q2, q3⟩ := hq
                refine dcase (fun h6 => ?_) (fun h6 => ?_)
                · refine And.intro (by omega) (And.intro (by omega) (X1 _ (row_get (d := e) (n := q) rfl (by omega)) ?_))
                  refine And.intro (by omega) (And.intro (by omega) (X1 _ (row_get (d := e) (n := a) rfl (by omega)) ?_))
                  refine X1 _ (hc _ _) ?_
                  refine And.intro rfl ?_
                  refine bcase (fun h7 => ?_) (fun h7 => ?_)
                  · have h7p : (!lt cm e[q]! e[a]!) = true := h7
                    rw [sDn_c (p := (fun x => !lt cm x e[a]!)) (e := e) (j := q) (by omega) (by omega) h7p] at q1
                    refine X1 ((q - 1 : Nat) : Int) (wI (by omega) (by omega) (by omega)) ?_
                    exact ⟨q - 1, ⟨q1, by omega, by omega⟩, by show q - 1 < q; omega, ⟨rfl, rfl, rfl, rfl, rfl, trivial⟩, ⟨rfl, trivial⟩⟩
                  · have h7p : (!lt cm e[q]! e[a]!) = false := h7
                    rw [sDn_b (p := (fun x => !lt cm x e[a]!)) (e := e) (j := q) h7p] at q1
                    exact ⟨q, ⟨q1.symm, q2, q3⟩, ⟨rfl, rfl, rfl, rfl, rfl, trivial⟩, ⟨rfl, trivial⟩⟩
                · refine And.intro rfl ?_
                  rw [sDn_a (by omega)] at q1
                  exact ⟨q, ⟨q1.symm, q2, q3⟩, ⟨rfl, rfl, rfl, rfl, rfl, trivial⟩, ⟨rfl, trivial⟩⟩
              · obtain ⟨v1, v2, v3⟩ := hv
                rw [pL u1 v1] at i1
                refine dcase (fun h8 => ?_) (fun h8 => ?_)
                · rw [if_pos (by omega)] at i1
                  exact ⟨(v, e), ⟨i1.symm, by omega, i2⟩, ⟨rfl, rfl, rfl, trivial⟩, ⟨rfl, trivial⟩⟩
                · rw [if_neg (by omega), dif_pos (by omega)] at i1
                  refine And.intro (by omega) (And.intro (by omega) (X1 _ (row_get (d := e) (n := v) rfl (by omega)) ?_))
                  refine And.intro (by omega) (And.intro (by omega) (X1 _ (row_get (d := e) (n := u) rfl (by omega)) ?_))
                  refine And.intro (by omega) (And.intro (by omega) (X1 _ (row_get (d := e) (n := u) rfl (by omega)) ?_))
                  refine And.intro (by omega) (And.intro (by omega) (X1 _ (row_get2 (d := e) (y := e[v]!) (m := u) (n := v) rfl rfl (by omega)) ?_))
                  refine And.intro rfl ?_
                  refine X1 ((u + 1 : Nat) : Int) (wI (by simp) (by omega) (by omega)) ?_
                  refine X1 ((v - 1 : Nat) : Int) (wI (by omega) (by omega) (by omega)) ?_
                  exact ⟨(u + 1, v - 1, swp e u v), ⟨i1, by rw [swp_size]; exact i2, by omega, by omega, by omega⟩, by show v - 1 + 1 - (u + 1) < j + 1 - i; omega, ⟨rfl, rfl, rfl, rfl, rfl, trivial⟩, ⟨rowE (row_swp (m := u) (n := v) rfl rfl), trivial⟩⟩
          · obtain ⟨g1, g2, g3⟩ := he
            rw [g1]
            refine And.intro (by omega) (And.intro (by omega) (X1 _ (row_get (d := e) (n := a) rfl (by omega)) ?_))
            refine And.intro (by omega) (And.intro (by omega) (X1 _ (row_get (d := e) (n := j) rfl (by omega)) ?_))
            refine And.intro (by omega) (And.intro (by omega) (X1 _ (row_get (d := e) (n := j) rfl (by omega)) ?_))
            refine And.intro (by omega) (And.intro (by omega) (X1 _ (row_get2 (d := e) (y := e[a]!) (m := j) (n := a) rfl rfl (by omega)) ?_))
            refine And.intro rfl ?_
            exact ⟨trivial, SubO.of (l := [(1000000, .row _ _)]) ⟨rowE (row_swp (m := j) (n := a) rfl rfl), trivial⟩, r1 rfl, r1 rfl, trivial⟩
  exact key _ rfl
end Go.Proofs.YtpmchgndnhgncaaGreat.Pv.SrtC
namespace Go.Proofs.YtpmchgndnhgncaaGreat.Pv.SrtC
open Go Go.Sort
section
variable {cm : El → El → Int} {a b lim : Nat} {wb wp : Bool} {d : Array El}
theorem pdq_s (h : b - a ≤ 12) : pdq (lt cm) d a b lim wb wp = insertionSort (lt cm) d a b := by rw [pdq, if_pos h]
theorem pdq_h (h : ¬ b - a ≤ 12) (h0 : lim = 0) : pdq (lt cm) d a b lim wb wp = heapSort (lt cm) d a b := by rw [pdq, if_neg h, if_pos h0]
theorem pdq_r (h : ¬ b - a ≤ 12) (h0 : ¬ lim = 0) {d1 d2 d3 : Array El} {lim1 pv : Nat} {hint : Hint} {done : Bool} (hd1 : (if (!wb) = true then breakPatterns d a b else d) = d1) (hl1 : (if (!wb) = true then lim - 1 else lim) = lim1) (hd2 : (if (choosePivot (lt cm) d1 a b).2 = .decreasing then reverseRange d1 a b else d1) = d2)
    (hpv : (if (choosePivot (lt cm) d1 a b).2 = .decreasing then (b - 1) - ((choosePivot (lt cm) d1 a b).1 - a) else (choosePivot (lt cm) d1 a b).1) = pv) (hh : (if (choosePivot (lt cm) d1 a b).2 = .decreasing then Hint.increasing else (choosePivot (lt cm) d1 a b).2) = hint)
    (hp : (if (wb && wp && decide (hint = .increasing)) = true then partialInsertionSort (lt cm) d2 a b else (d2, false)) = (d3, done)) :
    pdq (lt cm) d a b lim wb wp = if done = true then d3 else
      if (decide (a > 0) && !(lt cm) d3[a - 1]! d3[pv]!) = true then (match partitionEqual (lt cm) d3 a b pv with
        | (mid, d4) => if _h : a < mid ∧ mid ≤ b then pdq (lt cm) d4 mid b lim1 wb wp else d4)
      else match partition (lt cm) d3 a b pv with
        | (mid, ap, d4) => if _h : a ≤ mid ∧ mid < b then
            if mid - a < b - mid then pdq (lt cm) (pdq (lt cm) d4 a mid lim1 true true) (mid + 1) b lim1 (decide (mid - a ≥ (b - a) / 8)) ap
            else pdq (lt cm) (pdq (lt cm) d4 (mid + 1) b lim1 true true) a mid lim1 (decide (b - mid ≥ (b - a) / 8)) ap
          else d4 := by
  subst hd1 hl1 hd2 hpv hh
  rw [pdq, if_neg h, if_neg h0]
  have e1 := congrArg Prod.fst hp
  have e2 := congrArg Prod.snd hp
  simp only [] at e1 e2
  simp only [e1, e2]
end
theorem quo8 {x : Int} {n : Nat} (h : x = n) : x.tdiv 8 = ((n / 8 : Nat) : Int) := by
  subst h; rw [Int.tdiv_eq_ediv_of_nonneg (by omega)]; omega
variable (g : FuncId) (cm : El → El → Int)
variable (hc : ∀ x y, Ct P g [VL x, VL y] [.c (eI .i64 (cm x y))]) (hw : SWO (lt cm))
structure Prt (d : Array El) (n a b : Nat) : Prop where
  sz : d.size = n
  ab : a ≤ b
  bn : b ≤ n
  bel : Below (lt cm) a b d
include hc hw
theorem pdq_ct : ∀ (n : Nat) (d : Array El) (a b lim : Nat), b - a ≤ n → Prt cm d d.size a b → d.size ≤ 1000000 → lim ≤ 1000 →
    CtO P 159 [dO d] [dA d, .c (nI .i64 a), .c (nI .i64 b), .c (nI .i64 lim), .c (.fn g [])] [dO (pdq (lt cm) d a b lim true true)] [] := by
  intro n
  induction n using Nat.strongRecOn with
  | _ n ih =>
  intro d0 a0 b0 lim0 hn hprt hsz hlim0
  generalize hF : pdq (lt cm) d0 a0 b0 lim0 true true = F
  have self : ∀ (d : Array El) (a b lim : Nat), b - a < n → Prt cm d d0.size a b → lim ≤ 1000 → CtO P 159 [dO d] [.c (.ow 1000000 SZ d0.size), .c (nI .i64 a), .c (nI .i64 b), .c (nI .i64 lim), .c (.fn g [])] [dO (pdq (lt cm) d a b lim true true)] [] := by
    intro d a b lim h1 h2 h3
    have := ih (b - a) h1 d a b lim (Nat.le_refl _) (by rw [h2.sz]; exact h2) (by rw [h2.sz]; exact hsz) h3
    rwa [dA, h2.sz] at this
  refine Ct.io T_ok T_mix (N := 148) Tryz.func159 rfl rfl rfl rfl ?_
  refine loopI (G := Nat × Nat × Nat × Bool × Bool × Array El) (fun (a, b, lim, wb, wp, d) => pdq (lt cm) d a b lim wb wp = F ∧ Prt cm d d0.size a b ∧ lim ≤ 1000 ∧ b - a ≤ n) (fun (a, b, lim, wb, wp, _) => [(0, .c (.ow 1000000 SZ d0.size)), (1, .c (nI .i64 a)), (2, .c (nI .i64 b)), (3, .c (nI .i64 lim)), (4, .c (.fn g [])), (10, .c (.sc (.bool wb))), (11, .c (.sc (.bool wp)))]) (fun (_, _, _, _, _, d) => [(1000000, .row SZ (row d))]) (fun (a, b, _, _, _, _) => b - a)
    (a0, b0, lim0, true, true, d0) ⟨hF, hprt, hlim0, hn⟩ ⟨rfl, rfl, rfl, rfl, rfl, rfl, rfl, trivial⟩ ⟨rfl, trivial⟩ (fun (a, b, lim, wb, wp, d) hi => ?_)
  obtain ⟨i1, i2, i3, i4⟩ := hi
  have hds := i2.sz
  have hab := i2.ab
  have hbs := i2.bn
  refine blockI ?_
  refine seqI T_ok T_mix ?_
  refine X1 ((b - a : Nat) : Int) (wI (by omega) (by omega) (by omega)) ?_
  refine seqI T_ok T_mix ?_
  refine dcase (fun h12 => ?_) (fun h12 => ?_)
  · rw [pdq_s (by omega)] at i1
    have hs := ins_ct g cm hc d a b hab (by omega) (by omega)
    rw [dA, hds, i1] at hs
    refine X2 (.upd 1000000) ?_
    refine ⟨_, _, hs, ?_⟩
    exact ⟨trivial, SubO.of (l := [(1000000, .row _ _)]) ⟨rfl, trivial⟩, trivial⟩
  refine seqI T_ok T_mix ?_
  refine ecase (fun hl0 => ?_) (fun hl0 => ?_)
  · rw [pdq_h (by omega) (by omega)] at i1
    have hs := heap_ct g cm hc d a b (by omega) (by omega) (by omega)
    rw [dA, hds, i1] at hs
    refine X2 (.upd 1000000) ?_
    refine ⟨_, _, hs, ?_⟩
    exact ⟨trivial, SubO.of (l := [(1000000, .row _ _)]) ⟨rfl, trivial⟩, trivial⟩
  have hstep := @pdq_r cm a b lim wb wp d (by omega) (by omega)
  refine cutI T_ok T_mix (G2 := Nat × Array El) (fun (l1, d1) => (if (!wb) = true then breakPatterns d a b else d) = d1 ∧ (if (!wb) = true then lim - 1 else lim) = l1 ∧ Prt cm d1 d0.size a b ∧ l1 ≤ 1000)
    (fun (l1, _) => [(0, .c (.ow 1000000 SZ d0.size)), (1, .c (nI .i64 a)), (2, .c (nI .i64 b)), (3, .c (nI .i64 l1)), (4, .c (.fn g [])), (10, .c (.sc (.bool wb))), (11, .c (.sc (.bool wp))), (12, .c (nI .i64 (b - a)))]) (fun (_, d1) => [(1000000, .row SZ (row d1))]) ?_ (fun (l1, d1) h1 => ?_)
  · refine bcase (fun hb1 => ?_) (fun hb1 => ?_)
    · have hp := breakPatterns_holds d a b hab (by omega)
      have hs := break_ct g d a b (by omega) (by omega) (by omega)
      rw [dA, hds] at hs
      refine X2 (.upd 1000000) ?_
      refine ⟨_, _, hs, ?_⟩
      refine X1 ((lim - 1 : Nat) : Int) (wI (by omega) (by omega) (by omega)) ?_
      exact ⟨(lim - 1, breakPatterns d a b), ⟨if_pos hb1, if_pos hb1, ⟨by rw [hp.1]; exact hds, hab, hbs, i2.bel.perm (by omega) hp⟩, by omega⟩, ⟨rfl, rfl, rfl, rfl, rfl, rfl, rfl, rfl, trivial⟩, ⟨rfl, trivial⟩⟩
    · exact ⟨(lim, d), ⟨if_neg (by rw [hb1]; simp), if_neg (by rw [hb1]; simp), i2, i3⟩, ⟨rfl, rfl, rfl, rfl, rfl, rfl, rfl, rfl, trivial⟩, ⟨rfl, trivial⟩⟩
  obtain ⟨e1, e2, p1, l1b⟩ := h1
  have hd1s := p1.sz
  refine seqI T_ok T_mix ?_
  have hcp := choosePivot_holds (lt cm) d1 a b (by omega)
  have hs := choose_ct g cm hc d1 a b (by omega) (by omega) (by omega)
  rw [dA, hd1s] at hs
  refine X2 (.upd 1000000) ?_
  refine ⟨_, _, hs, ?_⟩
  have hstep2 := fun (d2 d3 : Array El) (pv : Nat) (hint : Hint) (done : Bool) => @hstep d1 d2 d3 l1 pv hint done e1 e2
  generalize choosePivot (lt cm) d1 a b = cp at *
  obtain ⟨pv0, hint0⟩ := cp
  refine cutI T_ok T_mix (G2 := Nat × Hint × Array El) (fun (pv, hint, d2) => (if hint0 = .decreasing then reverseRange d1 a b else d1) = d2 ∧ (if hint0 = .decreasing then (b - 1) - (pv0 - a) else pv0) = pv ∧ (if hint0 = .decreasing then Hint.increasing else hint0) = hint ∧ Prt cm d2 d0.size a b ∧ a ≤ pv ∧ pv < b)
    (fun (pv, hint, _) => [(0, .c (.ow 1000000 SZ d0.size)), (1, .c (nI .i64 a)), (2, .c (nI .i64 b)), (3, .c (nI .i64 l1)), (4, .c (.fn g [])), (10, .c (.sc (.bool wb))), (11, .c (.sc (.bool wp))), (12, .c (nI .i64 (b - a))), (13, .c (nI .i64 pv)), (14, .c (eI .i64 (hV hint)))]) (fun (_, _, d2) => [(1000000, .row SZ (row d2))]) ?_ (fun (pv, hint, d2) h2 => ?_)
  · refine ecase (fun hh => ?_) (fun hh => ?_)
    · have hdec : hint0 = .decreasing := by cases hint0 <;> first | rfl | (exfalso; simp only [hV] at hh; omega)
      have hp := reverseRange_holds d1 a b hab (by omega)
      have hs := reverse_ct g d1 a b (by omega) (by omega) (by omega)
      rw [dA, hd1s] at hs
      refine X2 (.upd 1000000) ?_
      refine ⟨_, _, hs, ?_⟩
      simp only at hcp
      refine X1 ((b - 1 : Nat) : Int) (wI (by omega) (by omega) (by omega)) ?_
      refine X1 ((pv0 - a : Nat) : Int) (wI (by omega) (by omega) (by omega)) ?_
      refine X1 ((b - 1 - (pv0 - a) : Nat) : Int) (wI (by omega) (by omega) (by omega)) ?_
      exact ⟨(b - 1 - (pv0 - a), .increasing, reverseRange d1 a b), ⟨if_pos hdec, if_pos hdec, if_pos hdec, ⟨by rw [hp.1]; exact hd1s, hab, hbs, p1.bel.perm (by omega) hp⟩, by omega, by omega⟩, ⟨rfl, rfl, rfl, rfl, rfl, rfl, rfl, rfl, rfl, rfl, trivial⟩, ⟨rfl, trivial⟩⟩
    · have hdec : ¬ hint0 = .decreasing := fun h => by subst h; exact hh rfl
      simp only at hcp
      exact ⟨(pv0, hint0, d1), ⟨if_neg hdec, if_neg hdec, if_neg hdec, p1, hcp.1, hcp.2⟩, ⟨rfl, rfl, rfl, rfl, rfl, rfl, rfl, rfl, rfl, rfl, trivial⟩, ⟨rfl, trivial⟩⟩
  obtain ⟨e3, e4, e5, p2, pva, pvb⟩ := h2
  have hd2s := p2.sz
  have hstep3 := fun (d3 : Array El) (done : Bool) => hstep2 d2 d3 pv hint done e3 e4 e5
  refine cutI T_ok T_mix (G2 := Array El) (fun d3 => (if (wb && wp && decide (hint = .increasing)) = true then partialInsertionSort (lt cm) d2 a b else (d2, false)) = (d3, false) ∧ Prt cm d3 d0.size a b)
    (fun _ => [(0, .c (.ow 1000000 SZ d0.size)), (1, .c (nI .i64 a)), (2, .c (nI .i64 b)), (3, .c (nI .i64 l1)), (4, .c (.fn g [])), (10, .c (.sc (.bool wb))), (11, .c (.sc (.bool wp))), (12, .c (nI .i64 (b - a))), (13, .c (nI .i64 pv))]) (fun d3 => [(1000000, .row SZ (row d3))]) ?_ (fun d3 h3 => ?_)
  · have no : (wb && wp && decide (hint = .increasing)) = false → ∃ g2, ((if (wb && wp && decide (hint = .increasing)) = true then partialInsertionSort (lt cm) d2 a b else (d2, false)) = (g2, false) ∧ Prt cm g2 d0.size a b) ∧ g2 = d2 := fun h => ⟨d2, ⟨if_neg (by rw [h]; simp), p2⟩, rfl⟩
    refine bcase (fun hwb => ?_) (fun hwb => ?_)
    · subst hwb
      refine bcase (fun hwp => ?_) (fun hwp => ?_)
      · subst hwp
        refine ecase (fun hh => ?_) (fun hh => ?_)
        · have hinc : hint = .increasing := by cases hint <;> first | rfl | (exfalso; simp only [hV] at hh; omega)
          have hp := (partialInsertionSort_holds (lt := lt cm) hw d2 a b (by omega) (by omega) p2.bel).1
          have hs := pIns_ct g cm hc d2 a b (by omega) (by omega) (by omega)
          have hcond : (true && true && decide (hint = .increasing)) = true := by rw [hinc]; rfl
          rw [if_pos hcond] at hstep3 ⊢
          rw [dA, hd2s] at hs
          refine X2 (.upd 1000000) ?_
          refine ⟨_, _, hs, ?_⟩
          generalize hpi : partialInsertionSort (lt cm) d2 a b = pi at *
          obtain ⟨d3, done⟩ := pi
          refine bcase (fun hdn => ?_) (fun hdn => ?_)
          · have hdn' : done = true := hdn
            have := hstep3 d3 done rfl
            rw [if_pos hdn', i1] at this
            rw [this]
            exact ⟨trivial, SubO.of (l := [(1000000, .row _ _)]) ⟨rfl, trivial⟩, trivial⟩
          · have hdn' : done = false := hdn
            subst hdn'
            exact ⟨d3, ⟨rfl, ⟨by rw [hp.1]; exact hd2s, hab, hbs, p2.bel.perm (by omega) hp⟩⟩, ⟨rfl, rfl, rfl, rfl, rfl, rfl, rfl, rfl, rfl, trivial⟩, ⟨rfl, trivial⟩⟩
        · have hinc : ¬ hint = .increasing := fun h => by subst h; exact hh rfl
          obtain ⟨d3, h1, h2⟩ := no (by simp [hinc])
          subst h2
          exact ⟨d3, h1, ⟨rfl, rfl, rfl, rfl, rfl, rfl, rfl, rfl, rfl, trivial⟩, ⟨rfl, trivial⟩⟩
      · subst hwp
        obtain ⟨d3, h1, h2⟩ := no rfl
        subst h2
        exact ⟨d3, h1, ⟨rfl, rfl, rfl, rfl, rfl, rfl, rfl, rfl, rfl, trivial⟩, ⟨rfl, trivial⟩⟩
    · subst hwb
      obtain ⟨d3, h1, h2⟩ := no rfl
      subst h2
      exact ⟨d3, h1, ⟨rfl, rfl, rfl, rfl, rfl, rfl, rfl, rfl, rfl, trivial⟩, ⟨rfl, trivial⟩⟩
  obtain ⟨e6, p3⟩ := h3
  have hd3s := p3.sz
  have hst := hstep3 d3 false e6
  rw [if_neg (by simp), i1] at hst
  clear hstep3 hstep2 hstep e6
  refine cutI T_ok T_mix (G2 := Unit) (fun _ => (decide (a > 0) && !(lt cm) d3[a - 1]! d3[pv]!) = false)
    (fun _ => [(0, .c (.ow 1000000 SZ d0.size)), (1, .c (nI .i64 a)), (2, .c (nI .i64 b)), (3, .c (nI .i64 l1)), (4, .c (.fn g [])), (12, .c (nI .i64 (b - a))), (13, .c (nI .i64 pv))]) (fun _ => [(1000000, .row SZ (row d3))]) ?_ (fun _ h4 => ?_)
  · refine dcase (fun ha => ?_) (fun ha => ?_)
    · refine X1 ((a - 1 : Nat) : Int) (wI (by omega) (by omega) (by omega)) ?_
      refine And.intro (by omega) (And.intro (by omega) (X1 _ (row_get (d := d3) (n := a - 1) rfl (by omega)) ?_))
      refine And.intro (by omega) (And.intro (by omega) (X1 _ (row_get (d := d3) (n := pv) rfl (by omega)) ?_))
      refine X1 _ (hc _ _) ?_
      refine And.intro rfl ?_
      refine bcase (fun hq => ?_) (fun hq => ?_)
      · have hnl : lt cm d3[a - 1]! d3[pv]! = false := by simpa [lt] using hq
        rw [if_pos (by rw [hnl]; simp; omega)] at hst
        have hs := pEq_ct cm g hc d3 a b pv (by omega) (by omega) (by omega) (by omega)
        rw [dA, hd3s] at hs
        generalize hx : partitionEqual (lt cm) d3 a b pv = px at *
        obtain ⟨mid, d4⟩ := px
        obtain ⟨r1', r2', r3', r4', _⟩ := round_eq hw (partitionEqual_holds (lt cm)) (by omega) pva pvb (by omega) p3.bel hnl hx
        refine X2 (.upd 1000000) ?_
        refine ⟨_, _, hs, ?_⟩
        simp only at hst
        rw [dif_pos ⟨r1', r2'⟩] at hst
        exact ⟨(mid, b, l1, wb, wp, d4), ⟨hst.symm, ⟨by rw [r3']; exact hd3s, r2', hbs, r4'⟩, l1b, by omega⟩, by show b - mid < b - a; omega, ⟨rfl, rfl, rfl, rfl, rfl, rfl, rfl, trivial⟩, ⟨rfl, trivial⟩⟩
      · have hnl : lt cm d3[a - 1]! d3[pv]! = true := by simpa [lt] using hq
        exact ⟨(), by rw [hnl]; simp, ⟨rfl, rfl, rfl, rfl, rfl, rfl, rfl, trivial⟩, ⟨rfl, trivial⟩⟩
    · refine And.intro rfl ?_
      exact ⟨(), by rw [decide_eq_false (by omega)]; rfl, ⟨rfl, rfl, rfl, rfl, rfl, rfl, rfl, trivial⟩, ⟨rfl, trivial⟩⟩
  rw [if_neg (by rw [h4]; simp)] at hst
  have hs := part_ct cm g hc d3 a b pv (by omega) (by omega) (by omega) (by omega)
  rw [dA, hd3s] at hs
  generalize hx : partition (lt cm) d3 a b pv = px at *
  obtain ⟨mid, ap, d4⟩ := px
  obtain ⟨m1, m2, m3, m4, m5, m6, m7⟩ := round_part hw (partition_holds (lt cm)) pva pvb (by omega) p3.bel hx
  simp only at hst
  rw [dif_pos ⟨m1, m2⟩] at hst
  have hd4s : d4.size = d0.size := by rw [m3]; exact hd3s
  refine joinC T_ok T_mix ?_
  refine X2 (.upd 1000000) ?_
  refine ⟨_, _, hs, ?_⟩
  refine X1 ((mid - a : Nat) : Int) (wI (by omega) (by omega) (by omega)) ?_
  refine X1 ((b - mid : Nat) : Int) (wI (by omega) (by omega) (by omega)) ?_
  refine And.intro (by omega) (X1 _ (quo8 rfl) (And.intro ⟨by omega, by omega⟩ ?_))
  refine dcase (fun hlt => ?_) (fun hlt => ?_)
  · rw [if_pos (by omega)] at hst
    have hL := pdq_sorts (lt cm) hw d4 a mid l1 true true m1 (by omega) m4
    have hs := self d4 a mid l1 (by omega) ⟨hd4s, m1, by omega, m4⟩ l1b
    refine X2 (.upd 1000000) ?_
    refine ⟨_, _, hs, ?_⟩
    refine X1 ((mid + 1 : Nat) : Int) (wI (by simp) (by omega) (by omega)) ?_
    exact ⟨(mid + 1, b, l1, decide (mid - a ≥ (b - a) / 8), ap, pdq (lt cm) d4 a mid l1 true true), ⟨hst.symm, ⟨by rw [hL.1.1]; exact hd4s, by omega, hbs, (m6 _ hL.1 hL.2).1⟩, l1b, by omega⟩, by show b - (mid + 1) < b - a; omega, ⟨rfl, rfl, rfl, rfl, rfl, blC (by rw [decide_eq_decide]; omega), rfl, trivial⟩, ⟨rfl, trivial⟩⟩
  · rw [if_neg (by omega)] at hst
    have hL := pdq_sorts (lt cm) hw d4 (mid + 1) b l1 true true (by omega) (by omega) m5
    have hs := self d4 (mid + 1) b l1 (by omega) ⟨hd4s, by omega, hbs, m5⟩ l1b
    refine X1 ((mid + 1 : Nat) : Int) (wI (by simp) (by omega) (by omega)) ?_
    refine X2 (.upd 1000000) ?_
    refine ⟨_, _, hs, ?_⟩
    exact ⟨(a, mid, l1, decide (b - mid ≥ (b - a) / 8), ap, pdq (lt cm) d4 (mid + 1) b l1 true true), ⟨hst.symm, ⟨by rw [hL.1.1]; exact hd4s, m1, by omega, (m7 _ hL.1 hL.2).1⟩, l1b, by omega⟩, by show mid - a < b - a; omega, ⟨rfl, rfl, rfl, rfl, rfl, blC (by rw [decide_eq_decide]; omega), rfl, trivial⟩, ⟨rfl, trivial⟩⟩
theorem sortF_ct (d : Array El) (hd : d.size ≤ 1000000) : CtO P 147 [dO d] [dA d, .c (.fn g [])] [dO (Sort.sort (lt cm) d)] [] := by
  have hb := bits_small hd
  have hp := pdq_ct g cm hc hw d.size d 0 d.size (bitsLen d.size) (by omega) ⟨rfl, by omega, by omega, .inl rfl⟩ hd (by omega)
  refine Ct.io T_ok T_mix (N := 14) Tryz.func147 rfl rfl rfl rfl ?_
  refine And.intro (by omega) ?_
  refine X1 ((d.size : Nat) : Int) (wU rfl (by omega) (by omega)) ?_
  refine X1 _ (len_ct d.size (by omega)) ?_
  refine X2 (.upd 1000000) ?_
  refine ⟨_, _, hp, ?_⟩
  exact ⟨trivial, SubO.of (l := [(1000000, .row _ _)]) ⟨rfl, trivial⟩, trivial⟩
theorem sort_spec (d : Array El) : (Sort.sort (lt cm) d).toList.Perm d.toList ∧ SortedIn (lt cm) 0 d.size (Sort.sort (lt cm) d) := by
  have _hc := hc
  obtain ⟨h1, h2⟩ := sort_sorts (lt cm) hw d
  refine ⟨?_, h2⟩
  have := h1.2.2
  have e : (Sort.sort (lt cm) d).extract 0 d.size = Sort.sort (lt cm) d := by
    rw [show d.size = (Sort.sort (lt cm) d).size from h1.1.symm]; simp
  rw [e] at this
  simpa using this
end Go.Proofs.YtpmchgndnhgncaaGreat.Pv.SrtC
namespace Go.Proofs.YtpmchgndnhgncaaGreat.Pv
open Go
theorem rev_getD {l : List Int} {j : Nat} (h : j < l.length) : l.getD (l.length - 1 - j) 0 = l.reverse.getD j 0 := by
  rw [List.getD_eq_getElem?_getD, List.getD_eq_getElem?_getD, List.getElem?_reverse h]
theorem behind_ends (l m : List Int) (hl : l.length ≤ 1000000) (hm : m.length ≤ 1000000) : Ct P 145 [.c (iSl l), .c (iSl m)] [.c (eI .i64 (lexC l.reverse m.reverse))] := by
  have hmn : (if (m.length : Int) < (l.length : Int) then (m.length : Int) else (l.length : Int)) = ((min l.length m.length : Nat) : Int) := by
    split <;> omega
  refine Ct.go T_ok T_mix (N := 39) Tryz.func145 rfl rfl rfl rfl ?_
  refine loopJ T_ok T_mix (fun j : Nat => j ≤ l.length ∧ j ≤ m.length ∧ lexC l.reverse m.reverse = lexC (l.reverse.drop j) (m.reverse.drop j)) (fun j => [(0, .c (iSl l)), (1, .c (iSl m)), (5, .c (nI .i64 (j + 1 : Nat)))]) (fun _ => []) (fun j => l.length - j)
    0 ⟨by omega, by omega, rfl⟩ ⟨rfl, rfl, rfl, trivial⟩ trivial (fun _ : Unit => lexC l.reverse m.reverse = cmpI l.length m.length) (fun _ => [(0, .c (iSl l)), (1, .c (iSl m))]) (fun _ => []) (fun j hi => ?_) (fun _ he => ?_)
  · obtain ⟨h1, h2, h3⟩ := hi
    refine And.intro (by rw [iRow_len]; omega) ?_
    refine And.intro (by rw [iRow_len]; omega) ?_
    rw [iRow_len, iRow_len]
    refine dcase (fun h5 => ?_) (fun h5 => ?_)
    · rw [hmn] at h5
      have g1 := rev_getD (l := l) (j := j) (by omega)
      have g2 := rev_getD (l := m) (j := j) (by omega)
      have hd := h3
      rw [drop_getD (l := l.reverse) (i := j) (by rw [List.length_reverse]; omega), drop_getD (l := m.reverse) (i := j) (by rw [List.length_reverse]; omega), lexC, ← g1, ← g2] at hd
      refine And.intro (by rw [iRow_len]; omega) ?_
      rw [iRow_len]
      refine X1 ((l.length - 1 - j : Nat) : Int) (wI (by omega) (by omega) (by omega)) ?_
      refine And.intro (by omega) (X1 _ (iRow_getN rfl (by omega)) ?_)
      refine And.intro (by rw [iRow_len]; omega) ?_
      rw [iRow_len]
      refine X1 ((m.length - 1 - j : Nat) : Int) (wI (by omega) (by omega) (by omega)) ?_
      refine And.intro (by omega) (X1 _ (iRow_getN rfl (by omega)) ?_)
      refine X1 _ (cmpI_ct _ _) ?_
      refine And.intro rfl ?_
      refine ncase (fun h7 => ?_) (fun h7 => ?_)
      · rw [if_pos h7] at hd
        exact ⟨trivial, r1 (iE hd.symm), trivial⟩
      · rw [if_neg (fun h => h h7)] at hd
        refine X1 ((j + 1 + 1 : Nat) : Int) (wI (by simp) (by omega) (by omega)) ?_
        exact ⟨j + 1, ⟨by omega, by omega, hd⟩, by omega, ⟨rfl, rfl, rfl, trivial⟩, trivial⟩
    · rw [hmn] at h5
      have he := lexC_end (l := l.reverse) (m := m.reverse) (i := j) (by rw [List.length_reverse]; omega) (by rw [List.length_reverse]; omega) (by rw [List.length_reverse, List.length_reverse]; omega) h3
      rw [List.length_reverse, List.length_reverse] at he
      refine ⟨(), ?_, ⟨rfl, rfl, trivial⟩, trivial⟩
      rw [he, cmpI]
      split <;> split <;> (try split) <;> omega
  · rw [he]
    refine And.intro (by rw [iRow_len]; omega) ?_
    refine And.intro (by rw [iRow_len]; omega) ?_
    rw [iRow_len, iRow_len]
    refine X1 _ (cmpI_ct _ _) ?_
    exact ⟨trivial, r1 rfl, trivial⟩
end Go.Proofs.YtpmchgndnhgncaaGreat.Pv
namespace Go.Proofs.YtpmchgndnhgncaaGreat.Pv
open Go Go.Sort
theorem cmpI_self (x : Int) : cmpI x x = 0 := by unfold cmpI; rw [if_neg (by omega), if_neg (by omega)]
theorem cmpI_0 {x y : Int} (h : cmpI x y = 0) : x = y := by unfold cmpI at h; split at h <;> (try split at h) <;> omega
theorem cmpI_lt {x y : Int} : cmpI x y < 0 ↔ x < y := by unfold cmpI; split <;> (try split) <;> omega
theorem cmpI_neg (x y : Int) : cmpI y x = - cmpI x y := by unfold cmpI; split <;> split <;> omega
theorem lexC_self : ∀ l : List Int, lexC l l = 0
  | [] => rfl
  | x :: l => by rw [lexC, cmpI_self, if_neg (by simp)]; exact lexC_self l
theorem lexC_0 : ∀ {l m : List Int}, lexC l m = 0 → l = m
  | [], [], _ => rfl
  | [], _ :: _, h => by simp [lexC] at h
  | _ :: _, [], h => by simp [lexC] at h
  | x :: l, y :: m, h => by
    rw [lexC] at h
    split at h
    · contradiction
    · rename_i h0
      have e := cmpI_0 (x := x) (y := y) (by simpa using h0)
      rw [e, lexC_0 h]
theorem lexC_neg : ∀ l m : List Int, lexC m l = - lexC l m
  | [], [] => rfl
  | [], _ :: _ => rfl
  | _ :: _, [] => rfl
  | x :: l, y :: m => by
    rw [lexC, lexC, cmpI_neg x y, lexC_neg l m]
    by_cases h : cmpI x y = 0
    · rw [h]; simp
    · rw [if_pos (by omega), if_pos h]
theorem lexC_trans : ∀ {a b c : List Int}, lexC a b < 0 → lexC b c < 0 → lexC a c < 0
  | [], [], _, h, _ => by simp [lexC] at h
  | [], _ :: _, [], _, h => by simp [lexC] at h
  | [], _ :: _, _ :: _, _, _ => by simp [lexC]
  | _ :: _, [], _, h, _ => by simp [lexC] at h
  | _ :: _, _ :: _, [], _, h => by simp [lexC] at h
  | x :: a, y :: b, z :: c, h1, h2 => by
    rw [lexC] at h1 h2 ⊢
    by_cases e1 : cmpI x y = 0
    · have := cmpI_0 e1
      subst this
      rw [if_neg (by omega)] at h1
      by_cases e2 : cmpI x z = 0
      · rw [if_neg (by omega)] at h2 ⊢
        exact lexC_trans h1 h2
      · rw [if_pos e2] at h2 ⊢
        exact h2
    · rw [if_pos e1] at h1
      by_cases e2 : cmpI y z = 0
      · have := cmpI_0 e2
        subst this
        rw [if_pos e1]
        exact h1
      · rw [if_pos e2] at h2
        have h3 := cmpI_lt.1 h1
        have h4 := cmpI_lt.1 h2
        have h5 : cmpI x z < 0 := cmpI_lt.2 (by omega)
        rw [if_pos (by omega)]
        exact h5
theorem swo_of {α : Type} (f : α → List Int) : SWO (fun x y : α => decide (lexC (f x) (f y) < 0)) where
  irrefl x := by simp [lexC_self]
  trans x y z h1 h2 := by
    simp only [decide_eq_true_eq] at h1 h2 ⊢
    exact lexC_trans h1 h2
  ntrans x y z h1 h2 := by
    simp only [decide_eq_false_iff_not] at h1 h2 ⊢
    intro h
    by_cases e1 : lexC (f x) (f y) = 0
    · rw [lexC_0 e1] at h; exact h2 h
    · have h3 : lexC (f y) (f x) < 0 := by rw [lexC_neg (f x) (f y)]; omega
      exact h2 (lexC_trans h3 h)
theorem iRow_closed {l : List Int} : closedLL (iRow l) := by
  intro el h
  obtain ⟨x, _, rfl⟩ := List.mem_map.1 h
  rfl
theorem cloneI_ct (l : List Int) (hl : l.length ≤ 1000000) : Ct P 45 [.c (iSl l)] [.c (iSl l)] := by
  refine Ct.go T_ok T_mix (N := 8) Tryz.func45 rfl rfl rfl rfl ?_
  intro b hb
  cases b with
  | true =>
    have : l = [] := List.length_eq_zero_iff.1 (by have := hb rfl; rwa [iRow_len] at this)
    subst this
    exact ⟨trivial, ⟨_, rfl, .inr ⟨rfl, 1, rfl⟩⟩, trivial⟩
  | false =>
    refine ⟨rfl, by rw [iRow_len]; show (0 + l.length + 768) * 8 ≤ _; omega, by rw [iRow_len]; show 0 + l.length ≤ _; omega, nil_closed, iRow_closed, ?_⟩
    exact ⟨trivial, r1 rfl, trivial⟩
theorem ends1_ct (x y : SrtI.El) : Ct P 144 [SrtI.VL x, SrtI.VL y] [.c (eI .i64 (lexC x.1.reverse y.1.reverse))] := by
  refine Ct.go T_ok T_mix (N := 8) Tryz.func144 rfl rfl rfl rfl ?_
  refine X1 _ (behind_ends x.1 y.1 x.2 y.2) ?_
  exact ⟨trivial, r1 rfl, trivial⟩
theorem ends2_ct (x y : SrtC.El) : Ct P 148 [SrtC.VL x, SrtC.VL y] [.c (eI .i64 (lexC x.1.1 y.1.1))] := by
  refine Ct.go T_ok T_mix (N := 10) Tryz.func148 rfl rfl rfl rfl ?_
  refine X1 _ (gcompare_ct x.1.1 y.1.1 x.2 y.2) ?_
  exact ⟨trivial, r1 rfl, trivial⟩
def grpS (o : List Cnt) (g : List Int) : List Cnt := match o.getLast? with
  | some x => if x.1 = g then o.dropLast ++ [(g, x.2 + 1)] else o ++ [(g, 1)]
  | none => [(g, 1)]
def grp (s : List (List Int)) : List Cnt := s.foldl grpS []
theorem grp_snoc (s : List (List Int)) (g : List Int) : grp (s ++ [g]) = grpS (grp s) g := by unfold grp; rw [List.foldl_append]; rfl
theorem grp_len : ∀ (n : Nat) (s : List (List Int)), s.length = n → (grp s).length ≤ n ∧ ∀ x, x ∈ grp s → 1 ≤ x.2 ∧ x.2 ≤ n
  | 0, s, h => by
    have := List.length_eq_zero_iff.1 h
    subst this
    exact ⟨by simp [grp], fun x hx => by simp [grp] at hx⟩
  | n + 1, s, h => by
    obtain ⟨s', g, rfl⟩ : ∃ s' g, s = s' ++ [g] := ⟨s.dropLast, s.getLast (by intro e; subst e; simp at h), (List.dropLast_concat_getLast _).symm⟩
    obtain ⟨h1, h2⟩ := grp_len n s' (by simpa using h)
    rw [grp_snoc]
    unfold grpS
    split
    · rename_i x hx
      have hm := List.mem_of_getLast? hx
      have h3 := h2 x hm
      split
      · refine ⟨by simp; omega, fun y hy => ?_⟩
        rcases List.mem_append.1 hy with hy | hy
        · have := h2 y (List.dropLast_sublist _ |>.subset hy); omega
        · rw [List.mem_singleton.1 hy]; simp only; omega
      · refine ⟨by simp; omega, fun y hy => ?_⟩
        rcases List.mem_append.1 hy with hy | hy
        · have := h2 y hy; omega
        · rw [List.mem_singleton.1 hy]; simp only; omega
    · exact ⟨by simp, fun y hy => by rw [List.mem_singleton.1 hy]; simp only; omega⟩
abbrev gRow (s : List (List Int)) : List (List PC) := s.map fun g => [iSl g]
def mkI (s : List (List Int)) (h : ∀ g, g ∈ s → g.length ≤ 1000000) : Array SrtI.El := (s.pmap (fun g hg => ⟨g, hg⟩) h).toArray
def mkC (s : List Cnt) (h : ∀ x, x ∈ s → x.1.length ≤ 1000000) : Array SrtC.El := (s.pmap (fun g hg => ⟨g, hg⟩) h).toArray
theorem mkI_size {s : List (List Int)} {h : ∀ g, g ∈ s → g.length ≤ 1000000} : (mkI s h).size = s.length := by simp [mkI]
theorem mkC_size {s : List Cnt} {h : ∀ x, x ∈ s → x.1.length ≤ 1000000} : (mkC s h).size = s.length := by simp [mkC]
theorem mkI_map {s : List (List Int)} {h : ∀ g, g ∈ s → g.length ≤ 1000000} : (mkI s h).toList.map (·.1) = s := by simp [mkI, List.map_pmap]
theorem mkC_map {s : List Cnt} {h : ∀ x, x ∈ s → x.1.length ≤ 1000000} : (mkC s h).toList.map (·.1) = s := by simp [mkC, List.map_pmap]
theorem rowI (d : Array SrtI.El) : SrtI.row d = gRow (d.toList.map (·.1)) := by unfold SrtI.row gRow; rw [List.map_map]; rfl
theorem rowC' (d : Array SrtC.El) : SrtC.row d = cRow (d.toList.map (·.1)) := by simp [SrtC.row, cRow]
abbrev cmE (x y : SrtI.El) : Int := lexC x.1.reverse y.1.reverse
abbrev cmG (x y : SrtC.El) : Int := lexC x.1.1 y.1.1
def sortI (s : List (List Int)) (h : ∀ g, g ∈ s → g.length ≤ 1000000) : List (List Int) := (Sort.sort (SrtI.lt cmE) (mkI s h)).toList.map (·.1)
def sortC (s : List Cnt) (h : ∀ x, x ∈ s → x.1.length ≤ 1000000) : List Cnt := (Sort.sort (SrtC.lt cmG) (mkC s h)).toList.map (·.1)
theorem sortI_ct (s : List (List Int)) (h : ∀ g, g ∈ s → g.length ≤ 1000000) (hl : s.length ≤ 1000000) : CtO P 143 [(1000000, some (.row 1 (gRow s)))] [.c (.ow 1000000 1 s.length), .c (.fn 144 [])] [(1000000, some (.row 1 (gRow (sortI s h))))] [] := by
  have := SrtI.sortF_ct 144 cmE ends1_ct (swo_of fun x : SrtI.El => x.1.reverse) (mkI s h) (by rw [mkI_size]; exact hl)
  rw [SrtI.dO, SrtI.dO, SrtI.dA, rowI, rowI, mkI_map, mkI_size] at this
  exact this
theorem sortC_ct (s : List Cnt) (h : ∀ x, x ∈ s → x.1.length ≤ 1000000) (hl : s.length ≤ 1000000) : CtO P 147 [(1000000, some (.row 2 (cRow s)))] [.c (.ow 1000000 2 s.length), .c (.fn 148 [])] [(1000000, some (.row 2 (cRow (sortC s h))))] [] := by
  have := SrtC.sortF_ct 148 cmG ends2_ct (swo_of fun x : SrtC.El => x.1.1) (mkC s h) (by rw [mkC_size]; exact hl)
  rw [SrtC.dO, SrtC.dO, SrtC.dA, rowC', rowC', mkC_map, mkC_size] at this
  exact this
theorem sortI_perm (s : List (List Int)) (h : ∀ g, g ∈ s → g.length ≤ 1000000) : (sortI s h).Perm s := by
  have := (SrtI.sort_spec 144 cmE ends1_ct (swo_of fun x : SrtI.El => x.1.reverse) (mkI s h)).1.map (·.1)
  rwa [mkI_map] at this
theorem sortC_perm (s : List Cnt) (h : ∀ x, x ∈ s → x.1.length ≤ 1000000) : (sortC s h).Perm s := by
  have := (SrtC.sort_spec 148 cmG ends2_ct (swo_of fun x : SrtC.El => x.1.1) (mkC s h)).1.map (·.1)
  rwa [mkC_map] at this
theorem gRow_get {s : List (List Int)} {i : Int} {n : Nat} (h0 : i = n) (h : n < s.length) : (gRow s)[i.toNat]? = some [iSl s[n]] := by
  subst h0
  simp [gRow, h]
abbrev nilE : List PC := [.sc (.slice none 0 0)]
theorem set_mid {s : List (List Int)} {g : List Int} {m : Nat} {i : Int} (hi : i = s.length) (hm : 1 ≤ m) : (gRow s ++ List.replicate m nilE).set i.toNat [iSl g] = gRow (s ++ [g]) ++ List.replicate (m - 1) nilE := by
  subst hi
  obtain ⟨m, rfl⟩ : ∃ k, m = k + 1 := ⟨m - 1, by omega⟩
  rw [List.replicate_succ, List.set_append_right _ _ (by simp)]
  simp [gRow]
theorem get_mid {s : List (List Int)} {m : Nat} {i : Int} (hi : i = s.length) (hm : 1 ≤ m) : (gRow s ++ List.replicate m nilE)[i.toNat]? = some nilE := by
  subst hi
  obtain ⟨m, rfl⟩ : ∃ k, m = k + 1 := ⟨m - 1, by omega⟩
  rw [List.getElem?_append_right (by simp)]
  simp
abbrev tails (l : List Cnt) : List (List Int) := l.map fun x => x.1.drop 1
theorem tails_lim {l : List Cnt} (hl : CLim l) : ∀ g, g ∈ tails l → g.length ≤ 1000000 := fun g hg => by
  obtain ⟨x, hx, rfl⟩ := List.mem_map.1 hg
  have := hl.g x hx
  rw [List.length_drop]; omega
theorem grp_mem : ∀ (n : Nat) (s : List (List Int)), s.length = n → ∀ x, x ∈ grp s → x.1 ∈ s
  | 0, s, h => by
    have := List.length_eq_zero_iff.1 h
    subst this
    intro x hx; simp [grp] at hx
  | n + 1, s, h => by
    obtain ⟨s', g, rfl⟩ : ∃ s' g, s = s' ++ [g] := ⟨s.dropLast, s.getLast (by intro e; subst e; simp at h), (List.dropLast_concat_getLast _).symm⟩
    have ih := grp_mem n s' (by simpa using h)
    rw [grp_snoc]
    intro y hy
    unfold grpS at hy
    split at hy
    · split at hy
      · rcases List.mem_append.1 hy with hy | hy
        · exact List.mem_append_left _ (ih y (List.dropLast_sublist _ |>.subset hy))
        · rw [List.mem_singleton.1 hy]; simp
      · rcases List.mem_append.1 hy with hy | hy
        · exact List.mem_append_left _ (ih y hy)
        · rw [List.mem_singleton.1 hy]; simp
    · rw [List.mem_singleton.1 hy]; simp
theorem grp_lim {l : List Cnt} (hl : CLim l) : ∀ x, x ∈ grp (sortI (tails l) (tails_lim hl)) → x.1.length ≤ 1000000 := fun x hx =>
  tails_lim hl _ ((sortI_perm _ _).subset (grp_mem _ _ rfl x hx))
def endsP (l : List Cnt) (hl : CLim l) : List Cnt := sortC (grp (sortI (tails l) (tails_lim hl))) (grp_lim hl)
theorem aends_ct (l : List Cnt) (hl : CLim l) (h1 : ∀ x, x ∈ l → 1 ≤ x.1.length) : Ct P 106 [.c (cSl l)] [.c (cSl (endsP l hl))] := by
  have hll := hl.len
  have hsI := sortI_ct (tails l) (tails_lim hl) (by simp; exact hll)
  have hpI := sortI_perm (tails l) (tails_lim hl)
  have hsC := sortC_ct (grp (sortI (tails l) (tails_lim hl))) (grp_lim hl) (Nat.le_trans (grp_len _ _ rfl).1 (by rw [hpI.length_eq]; simp; exact hll))
  have hE : endsP l hl = sortC (grp (sortI (tails l) (tails_lim hl))) (grp_lim hl) := rfl
  rw [hE]
  have hgm : ∀ g, g ∈ sortI (tails l) (tails_lim hl) → g.length ≤ 1000000 := fun g hg => tails_lim hl _ (hpI.subset hg)
  have hsl : (sortI (tails l) (tails_lim hl)).length = l.length := by rw [hpI.length_eq]; simp
  generalize sortC (grp (sortI (tails l) (tails_lim hl))) (grp_lim hl) = E at *
  generalize sortI (tails l) (tails_lim hl) = s at *
  rw [List.length_map] at hsI
  refine Ct.go T_ok T_mix (N := 71) Tryz.func106 rfl rfl rfl rfl ?_
  refine And.intro (by rw [cRow_len]; omega) ?_
  rw [cRow_len]
  refine And.intro (by omega) (And.intro (by omega) (And.intro (by omega) (And.intro ?_ ?_)))
  · exact .inr (by show (l.length : Int) * 24 ≤ _; omega)
  refine And.intro (by rw [cRow_len]; omega) ?_
  rw [cRow_len]
  refine loopJ T_ok T_mix (fun i : Nat => i ≤ l.length) (fun i => [(3, .c (.ow 12 1 l.length)), (13, .c (cSl l)), (14, .c (nI .i64 l.length)), (15, .c (nI .i64 i))]) (fun i => [(12, .row 1 (gRow (tails (l.take i)) ++ List.replicate (l.length - i) nilE))]) (fun i => l.length - i)
    0 (by omega) ⟨by rw [Int.toNat_natCast]; rfl, rfl, rfl, rfl, trivial⟩ ⟨by rw [Int.toNat_natCast]; rfl, trivial⟩ (fun _ : Unit => True) (fun _ => [(3, .c (.ow 12 1 l.length))]) (fun _ => [(12, .row 1 (gRow (tails l)))]) (fun i hi => ?_) (fun _ _ => ?_)
  · refine dcase (fun h5 => ?_) (fun h5 => ?_)
    · have hi' : i < l.length := by omega
      have hxl := hl.at' hi'
      have hx1 := h1 l[i] (List.getElem_mem hi')
      have hx := cRow_get (l := l) (i := (i : Int)) (n := i) rfl hi'
      have hs : tails (l.take (i + 1)) = tails (l.take i) ++ [l[i].1.drop 1] := by
        rw [List.take_succ_eq_append_getElem hi']; unfold tails; rw [List.map_append]; rfl
      have htl : (tails (l.take i)).length = i := by simp; omega
      generalize l[i] = x at *
      refine And.intro (by omega) (X1 _ hx ?_)
      refine ⟨1, x.1.length, by simp, by simp [iRow_len], by omega, by rw [iRow_len]; omega, ?_⟩
      rw [iRow_sub, List.take_of_length_le (show (x.1.drop 1).length ≤ x.1.length - 1 by rw [List.length_drop]; exact Nat.le_refl _)]
      refine And.intro (by omega) (And.intro (by omega) (X1 _ (get_mid (by rw [htl]) (by omega)) ?_))
      refine X1 ((i + 1 : Nat) : Int) (wI1 (by omega)) ?_
      exact ⟨i + 1, by omega, by omega, ⟨rfl, rfl, rfl, rfl, trivial⟩, ⟨rowE (by rw [hs, show l.length - (i + 1) = l.length - i - 1 by omega]; exact set_mid (by rw [htl]) (by omega)), trivial⟩⟩
    · have e : i = l.length := by omega
      subst e
      exact ⟨(), trivial, ⟨rfl, trivial⟩, ⟨rowE (by rw [List.take_length]; simp), trivial⟩⟩
  · refine X2 (.upd 12) ?_
    refine ⟨_, _, hsI, ?_⟩
    refine And.intro (by omega) ?_
    refine And.intro (by omega) (And.intro (by omega) (And.intro (by omega) (And.intro ?_ ?_)))
    · exact .inr (by show (l.length : Int) * 32 ≤ _; omega)
    refine And.intro (by omega) ?_
    refine loopJ T_ok T_mix (fun i : Nat => i ≤ l.length) (fun i => [(6, .c (.ow 31 2 (grp (s.take i)).length)), (32, .c (.ow 12 1 l.length)), (33, .c (nI .i64 l.length)), (34, .c (nI .i64 i))]) (fun i => [(12, .row 1 (gRow s)), (31, .row 2 (cRow (grp (s.take i))))]) (fun i => l.length - i)
      0 (by omega) ⟨rfl, rfl, rfl, rfl, trivial⟩ ⟨rfl, rfl, trivial⟩ (fun _ : Unit => True) (fun _ => [(6, .c (.ow 31 2 (grp s).length))]) (fun _ => [(31, .row 2 (cRow (grp s)))]) (fun i hi => ?_) (fun _ _ => ?_)
    · refine dcase (fun h5 => ?_) (fun h5 => ?_)
      · have hi' : i < s.length := by omega
        have hgs : grp (s.take (i + 1)) = grpS (grp (s.take i)) s[i] := by rw [List.take_succ_eq_append_getElem hi', grp_snoc]
        have hgl := grp_len i (s.take i) (by rw [List.length_take]; omega)
        have hglm := grp_mem i (s.take i) (by rw [List.length_take]; omega)
        have hgl1 := hgm s[i] (List.getElem_mem hi')
        have hget := gRow_get (s := s) (i := (i : Int)) (n := i) rfl hi'
        have hom : ∀ x, x ∈ grp (s.take i) → x.1.length ≤ 1000000 := fun x hx => hgm _ (List.mem_of_mem_take (hglm x hx))
        generalize s[i] = g at *
        generalize grp (s.take i) = o at *
        refine And.intro (by omega) (And.intro (by omega) (X1 _ hget ?_))
        refine And.intro (by have := hgl.1; omega) ?_
        have ho := hgl.1
        have app : grpS o g = o ++ [(g, 1)] → (o.length = (cRow o).length ∧ ((cRow o).length + 1 + 768) * 32 ≤ 17592186044416 ∧ (cRow o).length + 1 ≤ 35184372088832) := fun _ => ⟨cRow_len.symm, by rw [cRow_len]; omega, by rw [cRow_len]; omega⟩
        refine dcase (fun h6 => ?_) (fun h6 => ?_)
        · have hlast : o.getLast? = some (o[o.length - 1]'(by omega)) := by rw [List.getLast?_eq_getElem?, List.getElem?_eq_getElem (by omega)]
          have hxm : (o[o.length - 1]'(by omega)) ∈ o := List.getElem_mem _
          have hcg := cRow_get (l := o) (i := ((o.length - 1 : Nat) : Int)) (n := o.length - 1) rfl (by omega)
          have hset : ∀ y : Cnt, (cRow o).set ((o.length - 1 : Nat) : Int).toNat [iSl y.1, eI .i64 y.2] = cRow (o.dropLast ++ [y]) := fun y => by
            have e : ∃ z, o = o.dropLast ++ [z] := ⟨o.getLast (by intro e; subst e; simp at h6), (List.dropLast_concat_getLast _).symm⟩
            obtain ⟨z, hz⟩ := e
            have hl' : o.dropLast.length = o.length - 1 := List.length_dropLast
            have : ((o.length - 1 : Nat) : Int).toNat = (cRow o.dropLast).length := by rw [cRow_len, hl']; simp
            rw [this]
            conv => lhs; rw [hz]
            rw [← cRow_app, List.dropLast_concat, List.set_append_right _ _ (Nat.le_refl _)]
            simp [cRow]
          have hx2 := hgl.2 _ hxm
          have hx1 := hom _ hxm
          generalize (o[o.length - 1]'(by omega)) = x at *
          refine X1 ((o.length - 1 : Nat) : Int) (wI (by omega) (by omega) (by omega)) ?_
          refine And.intro (by omega) (And.intro (by omega) (X1 _ hcg ?_))
          refine X1 _ (equal_ct x.1 g hx1 hgl1) ?_
          refine dcase (fun h7 => ?_) (fun h7 => ?_)
          · have hst : grpS o g = o.dropLast ++ [(g, x.2 + 1)] := by
              unfold grpS; rw [hlast]; exact if_pos h7
            refine X1 ((o.length - 1 : Nat) : Int) (wI (by omega) (by omega) (by omega)) ?_
            refine And.intro (by omega) (And.intro (by omega) (X1 _ hcg ?_))
            refine X1 (x.2 + 1) (wI rfl (by omega) (by omega)) ?_
            refine And.intro (by omega) (And.intro (by omega) (X1 _ hcg ?_))
            refine X1 ((i + 1 : Nat) : Int) (wI1 (by omega)) ?_
            refine ⟨i + 1, by omega, by omega, ⟨owE ?_, rfl, rfl, rfl, trivial⟩, ⟨rfl, rowE ?_, trivial⟩⟩
            · rw [hgs, hst]; simp; omega
            · rw [hgs, hst, ← h7]; exact hset (x.1, x.2 + 1)
          · have hst : grpS o g = o ++ [(g, 1)] := by
              unfold grpS; rw [hlast]; exact if_neg h7
            obtain ⟨a1, a2, a3⟩ := app hst
            refine X1 _ (cloneI_ct g hgl1) ?_
            refine ⟨a1, a2, a3, cRow_closed, one_closed rfl, ?_⟩
            refine X1 ((i + 1 : Nat) : Int) (wI1 (by omega)) ?_
            exact ⟨i + 1, by omega, by omega, ⟨owE (by rw [hgs, hst, List.length_append, List.length_append, cRow_len]; rfl), rfl, rfl, rfl, trivial⟩, ⟨rfl, rowE (by rw [hgs, hst, ← cRow_app]; rfl), trivial⟩⟩
        · have hnil : o = [] := List.length_eq_zero_iff.1 (by omega)
          have hst : grpS o g = o ++ [(g, 1)] := by rw [hnil]; rfl
          obtain ⟨a1, a2, a3⟩ := app hst
          refine X1 _ (cloneI_ct g hgl1) ?_
          refine ⟨a1, a2, a3, cRow_closed, one_closed rfl, ?_⟩
          refine X1 ((i + 1 : Nat) : Int) (wI1 (by omega)) ?_
          exact ⟨i + 1, by omega, by omega, ⟨owE (by rw [hgs, hst, List.length_append, List.length_append, cRow_len]; rfl), rfl, rfl, rfl, trivial⟩, ⟨rfl, rowE (by rw [hgs, hst, ← cRow_app]; rfl), trivial⟩⟩
      · have e : i = l.length := by omega
        subst e
        have : s.take l.length = s := List.take_of_length_le (by omega)
        exact ⟨(), trivial, ⟨owE (by rw [this]), trivial⟩, ⟨rowE (by rw [this]), trivial⟩⟩
    · refine X2 (.upd 31) ?_
      refine ⟨_, _, hsC, ?_⟩
      exact ⟨trivial, r1 rfl, trivial⟩
end Go.Proofs.YtpmchgndnhgncaaGreat.Pv
namespace Go.Proofs.YtpmchgndnhgncaaGreat.Pv
open Go
theorem revB_ct (els : List (List PC)) (n : Nat) (hn : n ≤ 1) : CtO P 133 [(1000000, some (.row 1 els))] [.c (.ow 1000000 1 n)] [(1000000, some (.row 1 els))] [] := by
  refine Ct.io T_ok T_mix (N := 28) Tryz.func133 rfl rfl rfl rfl ?_
  refine And.intro (by omega) ?_
  refine X1 ((n : Int) - 1) (wI rfl (by omega) (by omega)) ?_
  refine loopB T_ok T_mix (fun _ : Unit => True) (fun _ => [(2, .c (nI .i64 0)), (3, .c (eI .i64 ((n : Int) - 1)))]) (fun _ => [(1000000, .row 1 els)]) (fun _ => 0)
    () trivial ⟨rfl, rfl, trivial⟩ ⟨rfl, trivial⟩ (fun _ _ => ?_)
  refine dcase (fun h => ?_) (fun _ => ?_)
  · have : (0 : Int) < (n : Int) - 1 := h
    exfalso; omega
  · exact ⟨trivial, SubO.of (l := [(1000000, .row 1 els)]) ⟨rfl, trivial⟩, trivial⟩
theorem revS_ct (els : List (List PC)) (n : Nat) (hn : n ≤ 1) : CtO P 90 [(1000000, some (.row 1 els))] [.c (.ow 1000000 1 n)] [(1000000, some (.row 1 els))] [] := by
  refine Ct.io T_ok T_mix (N := 28) Tryz.func90 rfl rfl rfl rfl ?_
  refine And.intro (by omega) ?_
  refine X1 ((n : Int) - 1) (wI rfl (by omega) (by omega)) ?_
  refine loopB T_ok T_mix (fun _ : Unit => True) (fun _ => [(2, .c (nI .i64 0)), (3, .c (eI .i64 ((n : Int) - 1)))]) (fun _ => [(1000000, .row 1 els)]) (fun _ => 0)
    () trivial ⟨rfl, rfl, trivial⟩ ⟨rfl, trivial⟩ (fun _ _ => ?_)
  refine dcase (fun h => ?_) (fun _ => ?_)
  · have : (0 : Int) < (n : Int) - 1 := h
    exfalso; omega
  · exact ⟨trivial, SubO.of (l := [(1000000, .row 1 els)]) ⟨rfl, trivial⟩, trivial⟩
theorem grow_ct (n : Nat) (h1 : 1 ≤ n) (h2 : n ≤ 1000000) : CtO P 134 [] [.c (.sc (.slice none 0 0)), .c (nI .i64 n)] [(22, some (.row 1 []))] [.c (.ow 22 1 0)] := by
  refine Ct.keep T_ok T_mix [] (N := 27) Tryz.func134 rfl rfl rfl rfl ?_
  refine And.intro (by omega) ?_
  refine X1 (0 : Int) (wI (by omega) (by omega) (by omega)) ?_
  refine X1 (n : Int) (wI (by omega) (by omega) (by omega)) ?_
  refine dcase (fun _ => ?_) (fun h => ?_)
  · refine And.intro rfl ?_
    refine ⟨by omega, by omega, ?_⟩
    refine And.intro (by omega) ?_
    refine Or.inr ⟨0, rfl, rfl, by simp, by omega, ?_⟩
    exact ⟨trivial, SubO.of (l := [(22, .row 1 [])]) ⟨rfl, trivial⟩, r1 rfl, trivial⟩
  · have : ¬ ((n : Int) > 0) := h
    exfalso; omega
abbrev digC (d : Nat) : List (List PC) := [[.sc (.int .u8 (48 + d : Int))]]
theorem digits_ct (d : Nat) (hd : d < 10) : Ct P 89 [.c (nI .u64 d), .c (nI .i64 1)] [.c (.sl 1 (digC d))] := by
  refine Ct.go T_ok T_mix (N := 26) Tryz.func89 rfl rfl rfl rfl ?_
  refine nilC (r := 20) (t := 5) (sz := 1) rfl rfl ?_
  refine loopJ T_ok T_mix (fun g : Nat => g ≤ 1) (fun g => [(0, .c (nI .u64 (if g = 0 then d else 0))), (1, .c (nI .i64 1)), (5, .c (.ow 20 1 g))]) (fun g => [(20, .row 1 (if g = 0 then [] else digC d))]) (fun g => 1 - g)
    0 (by omega) ⟨rfl, rfl, rfl, trivial⟩ ⟨rfl, trivial⟩ (fun _ : Unit => True) (fun _ => [(5, .c (.ow 20 1 1))]) (fun _ => [(20, .row 1 (digC d))]) (fun g hg => ?_) (fun _ _ => ?_)
  · by_cases h0 : g = 0
    · subst h0
      have key : ∀ x : Nat, x = d → (if 0 = 0 then d else 0) = x := fun x hx => by rw [hx]; rfl
      refine dcase (fun h1 => ?_) (fun h1 => ?_)
      rotate_left
      refine And.intro (by omega) ?_
      all_goals
        refine And.intro (by omega) (X1 (d : Int) ?_ (And.intro ⟨by omega, by show (d : Int) ≤ 18446744073709551615; omega⟩ ?_))
        · show Int.tmod (d : Int) 10 = d
          rw [Int.tmod_eq_emod_of_nonneg (by omega)]; omega
        refine X1 (48 + d : Int) (wU rfl (by omega) (by omega)) ?_
        refine X1 (48 + d : Int) ?_ ?_
        · exact wrap_of_inR ⟨by show (0 : Int) ≤ _; omega, by show _ ≤ (255 : Int); omega⟩
        refine ⟨rfl, by show (0 + 1 + 768) * 1 ≤ _; omega, by show 0 + 1 ≤ _; omega, nil_closed, one_closed rfl, ?_⟩
        refine And.intro (by omega) (X1 (0 : Int) ?_ (And.intro ⟨by decide, by decide⟩ ?_))
        · show Int.tdiv (d : Int) 10 = 0
          rw [Int.tdiv_eq_ediv_of_nonneg (by omega)]; omega
        exact ⟨1, by omega, by omega, ⟨rfl, rfl, rfl, trivial⟩, ⟨rfl, trivial⟩⟩
    · have h1 : g = 1 := by omega
      subst h1
      refine And.intro (by omega) ?_
      exact ⟨(), trivial, ⟨rfl, trivial⟩, ⟨rfl, trivial⟩⟩
  · refine X2 (.upd 20) ?_
    refine ⟨_, _, revB_ct (digC d) 1 (by omega), ?_⟩
    exact ⟨trivial, r1 rfl, trivial⟩
theorem concat_ct (d : Nat) : Ct P 91 [.c (.sl 1 [[.sl 1 (digC d)]])] [.c (.sl 1 (digC d))] := by
  refine Ct.go (Ty.own_ok [134] T_ok) T_mix (N := 36) Tryz.func91 rfl rfl rfl rfl ?_
  refine And.intro (by show (1 : Nat) ≤ _; omega) ?_
  refine loopJ (Ty.own_ok [134] T_ok) T_mix (fun g : Nat => g ≤ 1) (fun g => [(0, .c (.sl 1 [[.sl 1 (digC d)]])), (3, .c (nI .i64 g)), (9, .c (.sl 1 [[.sl 1 (digC d)]])), (10, .c (nI .i64 1)), (11, .c (nI .i64 g))]) (fun _ => []) (fun g => 1 - g)
    0 (by omega) ⟨rfl, rfl, rfl, rfl, rfl, trivial⟩ trivial (fun _ : Unit => True) (fun _ => [(0, .c (.sl 1 [[.sl 1 (digC d)]])), (3, .c (nI .i64 1))]) (fun _ => []) (fun g hg => ?_) (fun _ _ => ?_)
  · by_cases h0 : g = 0
    · subst h0
      refine And.intro (by decide) (X1 _ rfl ?_)
      refine And.intro (by show (1 : Nat) ≤ _; omega) ?_
      refine X1 (1 : Int) (by show IntKind.i64.wrap (0 + 1) = 1; decide) ?_
      refine X1 (1 : Int) (by decide) ?_
      exact ⟨1, by omega, by omega, ⟨rfl, rfl, rfl, rfl, rfl, trivial⟩, trivial⟩
    · have h1 : g = 1 := by omega
      subst h1
      exact ⟨(), trivial, ⟨rfl, rfl, trivial⟩, trivial⟩
  · refine X2 (.own [] [(22, 24)]) ?_
    refine ⟨_, _, grow_ct 1 (by omega) (by omega), ?_⟩
    refine And.intro (by show (1 : Nat) ≤ _; omega) ?_
    refine loopJ (Ty.own_ok [134] T_ok) T_mix (fun g : Nat => g ≤ 1) (fun g => [(6, .c (.ow 24 1 g)), (25, .c (.sl 1 [[.sl 1 (digC d)]])), (26, .c (nI .i64 1)), (27, .c (nI .i64 g))]) (fun g => [(24, .row 1 (if g = 0 then [] else digC d))]) (fun g => 1 - g)
      0 (by omega) ⟨rfl, rfl, rfl, rfl, trivial⟩ ⟨rfl, trivial⟩ (fun _ : Unit => True) (fun _ => [(6, .c (.ow 24 1 1))]) (fun _ => [(24, .row 1 (digC d))]) (fun g hg => ?_) (fun _ _ => ?_)
    · by_cases h0 : g = 0
      · subst h0
        refine And.intro (by decide) (X1 _ rfl ?_)
        refine ⟨rfl, by show (0 + 1 + 768) * 1 ≤ _; omega, by show 0 + 1 ≤ _; omega, nil_closed, one_closed rfl, ?_⟩
        refine X1 (1 : Int) (by decide) ?_
        exact ⟨1, by omega, by omega, ⟨rfl, rfl, rfl, rfl, trivial⟩, ⟨rfl, trivial⟩⟩
      · have h1 : g = 1 := by omega
        subst h1
        exact ⟨(), trivial, ⟨rfl, trivial⟩, ⟨rfl, trivial⟩⟩
    · exact ⟨trivial, r1 rfl, trivial⟩
abbrev digS (d : Nat) : ByteArray := ⟨#[UInt8.ofNat (48 + d)]⟩
theorem dig_br (d : Nat) (hd : d < 10) : digC d = bRow (digS d) := by
  have : ((UInt8.ofNat (48 + d)).toNat : Int) = 48 + d := by simp; omega
  show [[PC.sc (.int .u8 (48 + d : Int))]] = [[PC.sc (.int .u8 ((UInt8.ofNat (48 + d)).toNat : Int))]]
  rw [this]
theorem text_ct (d : Nat) (hd : d < 10) : Ct P 48 [nV d] [.c (.sc (.string (digS d)))] := by
  have hdl : ∀ n, n < 10 → (dg 18446744073709551616 n).length ≤ 1000000 := fun n hn => Nat.le_trans (dg_len (k := 1) (by omega) (by omega)) (by omega)
  have hs := nsmall_ct d 10000000000000000000 (by omega) (by omega) (hdl d hd)
  rw [show d / 10000000000000000000 = 0 by omega, show d % 10000000000000000000 = d by omega] at hs
  refine Ct.go T_ok T_mix (N := 32) Tryz.func48 rfl rfl rfl rfl ?_
  refine loopJ T_ok T_mix (fun _ : Unit => True) (fun _ => [(3, .c (.sc (.slice none 0 0))), (4, .c (.ad 4 0))]) (fun _ => [(4, .var (nV d).cells)]) (fun _ => 0)
    () trivial ⟨rfl, rfl, trivial⟩ ⟨rfl, trivial⟩ (fun _ : Unit => True) (fun _ => [(3, .c (.ow 19 1 1))]) (fun _ => [(19, .row 1 [[.sl 1 (digC d)]])]) (fun _ _ => ?_) (fun _ _ => ?_)
  · refine X1 _ hs ?_
    refine X1 _ (nzero_ct 0 (hdl 0 (by omega))) ?_
    refine X1 _ (digits_ct d hd) ?_
    refine ⟨by show (1 + 768) * _ ≤ _; decide, by show (1 : Nat) ≤ _; omega, one_closed rfl, ?_⟩
    exact ⟨(), trivial, ⟨rfl, trivial⟩, ⟨rfl, trivial⟩⟩
  · refine X2 (.upd 19) ?_
    refine ⟨_, _, revS_ct _ 1 (by omega), ?_⟩
    refine X2 .frz ?_
    refine ⟨_, concat_ct d, ?_⟩
    refine ⟨digS d, dig_br d hd, by show (1 : Nat) ≤ _; omega, ?_⟩
    exact ⟨trivial, r1 rfl, trivial⟩
abbrev fracS (n d : Nat) : ByteArray := digS n ++ ⟨#[47]⟩ ++ digS d
theorem dig_size (d : Nat) : (digS d).size = 1 := rfl
theorem ba_size (a b : ByteArray) : (a ++ b).size = a.size + b.size := by simp
theorem rtext_ct (n d : Nat) (hn : n < 10) (hd : dn d < 10) : Ct P 13 [qV n d] [.c (.sc (.string (fracS n (dn d))))] := by
  have hdl : ∀ n, n < 10 → (dg 18446744073709551616 n).length ≤ 1000000 := fun n hn => Nat.le_trans (dg_len (k := 1) (by omega) (by omega)) (by omega)
  refine Ct.go T_ok T_mix (N := 11) Tryz.func13 rfl rfl rfl rfl ?_
  refine X1 _ (qnum_ct n d) ?_
  refine X1 _ (text_ct n hn) ?_
  refine And.intro (by rw [dig_size]; decide) ?_
  refine X1 _ (qden_ct n d (hdl d (by unfold dn at hd; split at hd <;> omega))) ?_
  refine X1 _ (text_ct (dn d) hd) ?_
  refine And.intro (by rw [ba_size, dig_size, dig_size]; decide) ?_
  refine And.intro rfl ?_
  exact ⟨trivial, r1 rfl, trivial⟩
end Go.Proofs.YtpmchgndnhgncaaGreat.Pv
namespace Go.Proofs.YtpmchgndnhgncaaGreat.Pv
open Go Go.Sort
abbrev Rises (l : List Cnt) : Prop := l.Pairwise fun x y => lexC x.1 y.1 < 0
theorem wrongL_ok {n : Nat} : ∀ {l : List Cnt} {p : Option (List Int)}, wrongL n p l = 0 → (∀ x, x ∈ l → x.1.length = n + 1 ∧ 1 ≤ x.2) ∧ Rises l ∧ ∀ q, p = some q → ∀ x, x ∈ l → lexC q x.1 < 0
  | [], p, _ => ⟨fun x hx => by simp at hx, .nil, fun q _ x hx => by simp at hx⟩
  | x :: l, p, h => by
    rw [wrongL_cons] at h
    by_cases h1 : (x.1.length : Int) ≠ n + 1
    · rw [if_pos h1] at h; omega
    rw [if_neg h1] at h
    by_cases h2 : x.2 < 1
    · rw [if_pos h2] at h; omega
    rw [if_neg h2] at h
    have h3 : ∀ q, p = some q → ¬ lexC q x.1 ≥ 0 := fun q hq hge => by
      subst hq
      rw [if_pos (decide_eq_true hge)] at h
      omega
    rw [if_neg (by cases p with | none => simp | some q => simpa using h3 q rfl)] at h
    obtain ⟨g1, g2, g3⟩ := wrongL_ok h
    have hp : ∀ q, p = some q → lexC q x.1 < 0 := fun q hq => by
      have := h3 q hq; omega
    refine ⟨fun y hy => ?_, List.Pairwise.cons (fun y hy => g3 x.1 rfl y hy) g2, fun q hq y hy => ?_⟩
    · rcases List.mem_cons.1 hy with rfl | hy
      · exact ⟨by omega, by omega⟩
      · exact g1 y hy
    · rcases List.mem_cons.1 hy with rfl | hy
      · exact hp q hq
      · exact lexC_trans (hp q hq) (g3 x.1 rfl y hy)
structure CCOk (L : List (List Cnt)) : Prop where
  len0 : 1 ≤ L.length
  len8 : L.length ≤ 8
  form : ∀ (n : Nat) (h : n < L.length) (x : Cnt), x ∈ L[n] → x.1.length = n + 1 ∧ 1 ≤ x.2
  rises : ∀ (n : Nat) (h : n < L.length), Rises L[n]
theorem wrongLL_ok : ∀ (k : Nat) {n : Nat} {L : List (List Cnt)}, L.length = n + k → wrongLL n (L.drop n) = 0 → ∀ (m : Nat) (h : m < L.length), n ≤ m → wrongL m none L[m] = 0
  | 0, n, L, hk, _, m, hm, hn => by omega
  | k + 1, n, L, hk, h, m, hm, hn => by
    have h0 : wrongL n none (L[n]'(by omega)) = 0 := Classical.byContradiction fun hne => hne ((wrongLL_of (by omega) rfl hne).symm.trans h)
    by_cases e : m = n
    · subst e; exact h0
    · exact wrongLL_ok k (n := n + 1) (by omega) ((wrongLL_next (by omega) h0).symm.trans h) m hm (by omega)
theorem wrong_ok {L : List (List Cnt)} (h : wrong L = 0) : CCOk L := by
  unfold wrong at h
  split at h
  · omega
  · rename_i h1
    have key := wrongLL_ok L.length (n := 0) (L := L) (by omega) h
    exact ⟨by omega, by omega, fun n hn x hx => (wrongL_ok (key n hn (by omega))).1 x hx, fun n hn => (wrongL_ok (key n hn (by omega))).2.1⟩
theorem CCOk.ccform {L : List (List Cnt)} (h : CCOk L) (hl : CCLim L) : CCForm L := ⟨hl, fun n hn i hi => (h.form n hn _ (List.getElem_mem hi)).1⟩
abbrev rlt (a b : List Int) : Prop := lexC a.reverse b.reverse < 0
theorem rlt_total {a b : List Int} (h : ¬ rlt b a) (hne : a ≠ b) : rlt a b := by
  apply Classical.byContradiction
  intro h2
  have h3 := lexC_neg a.reverse b.reverse
  have h4 : lexC a.reverse b.reverse = 0 := by unfold rlt at h h2; omega
  exact hne (List.reverse_inj.1 (lexC_0 h4))
theorem rlt_irr (a : List Int) : ¬ rlt a a := by unfold rlt; rw [lexC_self]; omega
structure Grp (s : List (List Int)) (o : List Cnt) : Prop where
  up : o.Pairwise fun x y => rlt x.1 y.1
  cnt : ∀ x, x ∈ o → x.1 ∈ s ∧ x.2 = (s.count x.1 : Int)
  all : ∀ g, g ∈ s → ∃ x, x ∈ o ∧ x.1 = g
theorem grp_ok : ∀ (n : Nat) (s : List (List Int)), s.length = n → s.Pairwise (fun a b => ¬ rlt b a) → Grp s (grp s)
  | 0, s, h, _ => by
    have := List.length_eq_zero_iff.1 h
    subst this
    exact ⟨.nil, fun x hx => by simp [grp] at hx, fun g hg => by simp at hg⟩
  | n + 1, s, h, hp => by
    obtain ⟨s', g, rfl⟩ : ∃ s' g, s = s' ++ [g] := ⟨s.dropLast, s.getLast (by intro e; subst e; simp at h), (List.dropLast_concat_getLast _).symm⟩
    rw [List.pairwise_append] at hp
    obtain ⟨p1, _, p3⟩ := hp
    have ih := grp_ok n s' (by simpa using h) p1
    have hge : ∀ a, a ∈ s' → ¬ rlt g a := fun a ha => p3 a ha g (by simp)
    rw [grp_snoc]
    generalize grp s' = o at *
    have cg : ∀ y : List Int, (s' ++ [g]).count y = s'.count y + (if g = y then 1 else 0) := fun y => by
      rw [List.count_append, List.count_singleton]
      congr 1
      by_cases e : g = y
      · subst e; simp
      · simp [e]
    have nong : ∀ y, y ∈ o → y.1 ≠ g → y.1 ∈ s' ++ [g] ∧ y.2 = ((s' ++ [g]).count y.1 : Int) := fun y hy hne => by
      have := ih.cnt y hy
      rw [cg, if_neg (fun e => hne e.symm)]
      exact ⟨List.mem_append_left _ this.1, by rw [this.2]; simp⟩
    unfold grpS
    split
    · rename_i x hx
      obtain ⟨o', rfl⟩ : ∃ o', o = o' ++ [x] := by
        have hne : o ≠ [] := fun e => by subst e; simp at hx
        refine ⟨o.dropLast, ?_⟩
        have e : o.getLast hne = x := by
          have := List.getLast?_eq_some_getLast hne
          rw [this] at hx
          simpa using hx
        rw [← e]
        exact (List.dropLast_concat_getLast hne).symm
      have hup := List.pairwise_append.1 ih.up
      have hxm := ih.cnt x (by simp)
      split
      · rename_i he
        rw [List.dropLast_concat]
        refine ⟨List.pairwise_append.2 ⟨hup.1, List.pairwise_singleton _ _, fun y hy z hz => ?_⟩, fun y hy => ?_, fun a ha => ?_⟩
        · rw [List.mem_singleton.1 hz]
          simp only
          rw [← he]
          exact hup.2.2 y hy x (by simp)
        · rcases List.mem_append.1 hy with hy | hy
          · refine nong y (List.mem_append_left _ hy) fun e => ?_
            have := hup.2.2 y hy x (by simp)
            rw [e, ← he] at this
            exact rlt_irr _ this
          · rw [List.mem_singleton.1 hy]
            simp only
            rw [cg, if_pos rfl, hxm.2, he]
            exact ⟨by simp, by simp⟩
        · rcases List.mem_append.1 ha with ha | ha
          · obtain ⟨y, hy, hya⟩ := ih.all a ha
            rcases List.mem_append.1 hy with hy | hy
            · exact ⟨y, List.mem_append_left _ hy, hya⟩
            · rw [List.mem_singleton.1 hy] at hya
              exact ⟨(g, x.2 + 1), by simp, by rw [← hya, ← he]⟩
          · exact ⟨(g, x.2 + 1), by simp, (List.mem_singleton.1 ha).symm⟩
      · rename_i he
        have hxg : rlt x.1 g := rlt_total (hge _ hxm.1) he
        have hall : ∀ y, y ∈ o' ++ [x] → rlt y.1 g := fun y hy => by
          rcases List.mem_append.1 hy with hy | hy
          · exact lexC_trans (hup.2.2 y hy x (by simp)) hxg
          · rw [List.mem_singleton.1 hy]; exact hxg
        refine ⟨List.pairwise_append.2 ⟨ih.up, List.pairwise_singleton _ _, fun y hy z hz => ?_⟩, fun y hy => ?_, fun a ha => ?_⟩
        · rw [List.mem_singleton.1 hz]; exact hall y hy
        · rcases List.mem_append.1 hy with hy | hy
          · refine nong y hy fun e => ?_
            have := hall y hy
            rw [e] at this
            exact rlt_irr _ this
          · rw [List.mem_singleton.1 hy]
            simp only
            have : s'.count g = 0 := List.count_eq_zero.2 fun hg => by
              obtain ⟨y, hy, hyg⟩ := ih.all g hg
              have := hall y hy
              rw [hyg] at this
              exact rlt_irr _ this
            rw [cg, if_pos rfl, this]
            exact ⟨by simp, by simp⟩
        · rcases List.mem_append.1 ha with ha | ha
          · obtain ⟨y, hy, hya⟩ := ih.all a ha
            exact ⟨y, List.mem_append_left _ hy, hya⟩
          · exact ⟨(g, 1), by simp, (List.mem_singleton.1 ha).symm⟩
    · rename_i hx
      have : o = [] := List.getLast?_eq_none_iff.1 hx
      subst this
      have hs : s' = [] := by
        cases s' with
        | nil => rfl
        | cons a l => obtain ⟨y, hy, _⟩ := ih.all a (by simp); simp at hy
      subst hs
      exact ⟨List.pairwise_singleton _ _, fun y hy => by rw [List.mem_singleton.1 hy]; exact ⟨by simp, by simp⟩, fun a ha => ⟨(g, 1), by simp, by simp at ha; exact ha.symm⟩⟩
theorem place (g : List Int) : ∀ (l : List Cnt), Rises l → ∃ k, k ≤ l.length ∧ (∀ (i : Nat) (hi : i < l.length), i < k → lexC l[i].1 g < 0) ∧ ∀ (i : Nat) (hi : i < l.length), k ≤ i → ¬ lexC l[i].1 g < 0
  | [], _ => ⟨0, by simp, fun i hi => by simp at hi, fun i hi => by simp at hi⟩
  | x :: l, hr => by
    obtain ⟨k, h0, h1, h2⟩ := place g l (List.Pairwise.of_cons hr)
    by_cases hx : lexC x.1 g < 0
    · refine ⟨k + 1, by simp; omega, fun i hi hik => ?_, fun i hi hik => ?_⟩
      · cases i with
        | zero => exact hx
        | succ i => exact h1 i (by simpa using hi) (by omega)
      · cases i with
        | zero => omega
        | succ i => exact h2 i (by simpa using hi) (by omega)
    · refine ⟨0, by simp, fun i hi hik => by omega, fun i hi _ hlt => ?_⟩
      cases i with
      | zero => exact hx hlt
      | succ i => exact hx (lexC_trans ((List.pairwise_cons.1 hr).1 _ (List.getElem_mem (by simpa using hi))) hlt)
theorem gfind2_ct (l : List Cnt) (g : List Int) (hl : CLim l) (hg : g.length ≤ 1000000) (hr : Rises l) : Ct P 58 [.c (cSl l), .c (iSl g)] [.c (eI .i64 (fidx g l))] := by
  obtain ⟨k, h0, h1, h2⟩ := place g l hr
  have e : (if atK l g k = true then (k : Int) else -1) = fidx g l := by
    unfold atK
    rcases Nat.lt_or_ge k l.length with hk | hk
    · rw [List.getElem?_eq_getElem hk]
      simp only [beq_iff_eq]
      split
      · rename_i h
        have hkg := lexC_0 h
        exact (fidx_spec g l k hk (fun j hj he => by
          have := h1 j (by omega) hj
          rw [he, lexC_self] at this; omega) hkg).symm
      · rename_i h
        refine (fidx_none g l fun j hj he => ?_).symm
        rcases Nat.lt_trichotomy j k with hjk | hjk | hjk
        · have := h1 j hj hjk
          rw [he, lexC_self] at this; omega
        · subst hjk
          rw [he, lexC_self] at h; exact h rfl
        · have := (List.pairwise_iff_getElem.1 hr) k j hk hj hjk
          rw [he] at this
          exact h2 k hk (Nat.le_refl _) this
    · rw [List.getElem?_eq_none hk]
      refine (if_neg (by simp)).trans (fidx_none g l fun j hj he => ?_).symm
      have := h1 j hj (by omega)
      rw [he, lexC_self] at this; omega
  rw [← e]
  exact gfind_ct l g k hl hg h0 h1 h2
theorem fidx_hit (g : List Int) : ∀ {l : List Cnt}, (∃ x, x ∈ l ∧ x.1 = g) → ∃ (i : Nat) (hi : i < l.length), fidx g l = i ∧ l[i].1 = g
  | [], ⟨x, hx, _⟩ => by simp at hx
  | y :: l, ⟨x, hx, he⟩ => by
    by_cases h : y.1 = g
    · exact ⟨0, by simp, by rw [fidx, if_pos h]; rfl, h⟩
    · rcases List.mem_cons.1 hx with rfl | hx
      · exact absurd he h
      · obtain ⟨i, hi, h1, h2⟩ := fidx_hit g ⟨x, hx, he⟩
        exact ⟨i + 1, by simp; omega, by rw [fidx, if_neg h, h1, if_neg (by omega)]; simp, h2⟩
theorem srt_list {α : Type} [Inhabited α] {ltf : α → α → Bool} {d : Array α} (h : SortedIn ltf 0 d.size d) : d.toList.Pairwise fun x y => ltf y x = false := by
  rw [List.pairwise_iff_getElem]
  intro i j hi hj hij
  have hi' : i < d.size := by simpa using hi
  have hj' : j < d.size := by simpa using hj
  have := h i j (by omega) hij hj'
  simpa [hi', hj'] using this
theorem sortI_up (s : List (List Int)) (h : ∀ g, g ∈ s → g.length ≤ 1000000) : (sortI s h).Pairwise fun a b => ¬ rlt b a := by
  have h1 := (SrtI.sort_spec 144 cmE ends1_ct (swo_of fun x : SrtI.El => x.1.reverse) (mkI s h)).2
  have h2 := (SrtI.sort_spec 144 cmE ends1_ct (swo_of fun x : SrtI.El => x.1.reverse) (mkI s h)).1.length_eq
  unfold sortI
  rw [show (mkI s h).size = (Sort.sort (SrtI.lt cmE) (mkI s h)).size by simpa using h2.symm] at h1
  refine List.pairwise_map.2 ((srt_list h1).imp fun {a b} hab => ?_)
  simpa [SrtI.lt] using hab
theorem sortC_up (s : List Cnt) (h : ∀ x, x ∈ s → x.1.length ≤ 1000000) : (sortC s h).Pairwise fun a b => ¬ lexC b.1 a.1 < 0 := by
  have h1 := (SrtC.sort_spec 148 cmG ends2_ct (swo_of fun x : SrtC.El => x.1.1) (mkC s h)).2
  have h2 := (SrtC.sort_spec 148 cmG ends2_ct (swo_of fun x : SrtC.El => x.1.1) (mkC s h)).1.length_eq
  unfold sortC
  rw [show (mkC s h).size = (Sort.sort (SrtC.lt cmG) (mkC s h)).size by simpa using h2.symm] at h1
  refine List.pairwise_map.2 ((srt_list h1).imp fun {a b} hab => ?_)
  simpa [SrtC.lt] using hab
structure EndsOk (l E : List Cnt) : Prop where
  lim : CLim E
  rises : Rises E
  cnt : ∀ x, x ∈ E → x.2 = ((tails l).count x.1 : Int)
  all : ∀ g, g ∈ tails l → ∃ x, x ∈ E ∧ x.1 = g
  only : ∀ x, x ∈ E → x.1 ∈ tails l
theorem endsP_ok (l : List Cnt) (hl : CLim l) : EndsOk l (endsP l hl) := by
  have hg := grp_ok _ _ rfl (sortI_up (tails l) (tails_lim hl))
  have hlen := (grp_len _ (sortI (tails l) (tails_lim hl)) rfl).1
  have hpI := sortI_perm (tails l) (tails_lim hl)
  have hpC := sortC_perm (grp (sortI (tails l) (tails_lim hl))) (grp_lim hl)
  have hup := sortC_up (grp (sortI (tails l) (tails_lim hl))) (grp_lim hl)
  have hlim := grp_lim hl
  have hE : endsP l hl = sortC (grp (sortI (tails l) (tails_lim hl))) (grp_lim hl) := rfl
  rw [hE]
  generalize sortC (grp (sortI (tails l) (tails_lim hl))) (grp_lim hl) = E at *
  have hsl : (sortI (tails l) (tails_lim hl)).length = l.length := by rw [hpI.length_eq]; simp
  generalize sortI (tails l) (tails_lim hl) = s at *
  have hll := hl.len
  refine ⟨⟨by rw [hpC.length_eq]; omega, fun x hx => hlim x (hpC.subset hx)⟩, ?_, fun x hx => ?_, fun g hgm => ?_, fun x hx => ?_⟩
  · have hne : E.Pairwise fun x y => x.1 ≠ y.1 := (List.Perm.pairwise_iff (fun {a b} (h : a.1 ≠ b.1) => h.symm) hpC).2 (hg.up.imp fun {a b} h e => by rw [e] at h; exact rlt_irr _ h)
    refine (hup.and hne).imp fun {a b} h => ?_
    have h1 := h.1
    have h3 := lexC_neg a.1 b.1
    apply Classical.byContradiction
    intro h2
    exact h.2 (lexC_0 (by omega))
  · rw [(hg.cnt x (hpC.subset hx)).2, hpI.count_eq]
  · obtain ⟨x, hx, he⟩ := hg.all g (hpI.mem_iff.2 hgm)
    exact ⟨x, hpC.mem_iff.2 hx, he⟩
  · exact hpI.mem_iff.1 (hg.cnt x (hpC.subset hx)).1
theorem tails_ahead {l : List Cnt} {n : Nat} (hf : ∀ x, x ∈ l → x.1.length = n + 1) {g : List Int} (hg : g.length = n) : (tails l).count g = ahead l g := by
  unfold tails ahead
  rw [List.count_eq_countP, List.countP_map, List.countP_eq_length_filter]
  congr 1
  refine List.filter_congr fun x hx => ?_
  rw [decide_eq_true (show x.1.length = g.length + 1 by rw [hf x hx, hg]), Bool.true_and]
  simp only [Function.comp]
  by_cases h : x.1.drop 1 = g
  · rw [decide_eq_true h]; simpa using h
  · rw [decide_eq_false h]; simpa using h
theorem ends_find {l E : List Cnt} (hE : EndsOk l E) {n : Nat} (hf : ∀ x, x ∈ l → x.1.length = n + 1) {g : List Int} (hg : g.length = n) :
    (∃ (i : Nat) (hi : i < E.length), fidx g E = i ∧ E[i].2 = (ahead l g : Int)) ∨ (fidx g E = -1 ∧ ahead l g = 0) := by
  rw [← tails_ahead hf hg]
  by_cases h : g ∈ tails l
  · obtain ⟨i, hi, h1, h2⟩ := fidx_hit g (hE.all g h)
    exact .inl ⟨i, hi, h1, by rw [hE.cnt _ (List.getElem_mem hi), h2]⟩
  · refine .inr ⟨fidx_none g E fun j hj he => h (he ▸ hE.only _ (List.getElem_mem hj)), List.count_eq_zero.2 h⟩
theorem rowOE {sz : Nat} {a b : List (List PC)} {i j : List Nat} (h : a = b) (h2 : i = j) : (some (.rowO sz a i) : Option Ob) = some (.rowO sz b j) := by rw [h, h2]
theorem cSet {A : List (List Cnt)} {l : List Cnt} {m : Nat} (hm : 1 ≤ m) : (ccRow A ++ List.replicate m nilE).set A.length [cSl l] = ccRow (A ++ [l]) ++ List.replicate (m - 1) nilE := by
  obtain ⟨m, rfl⟩ : ∃ k, m = k + 1 := ⟨m - 1, by omega⟩
  rw [List.replicate_succ, List.set_append_right _ _ (by simp [ccRow])]
  simp [ccRow]
theorem cGet {A : List (List Cnt)} {m : Nat} (hm : 1 ≤ m) : (ccRow A ++ List.replicate m nilE)[A.length]? = some nilE := by
  obtain ⟨m, rfl⟩ : ∃ k, m = k + 1 := ⟨m - 1, by omega⟩
  rw [List.getElem?_append_right (by simp [ccRow])]
  simp [ccRow]
theorem cBase (A : List (List Cnt)) (m : Nat) : closedLL (ccRow A ++ List.replicate m nilE) := by
  intro el h
  rcases List.mem_append.1 h with h | h
  · exact ccRow_closed el h
  · rw [List.eq_of_mem_replicate h]; rfl
theorem nomD {base : List (List PC)} {n k r sz q : Nat} {el' : List PC} (hbc : closedLL base) (hbl : n < base.length) (he : el' ∈ ((base.set n [.ow k r sz]).set n (spl [.ow k r sz] 0 (List.replicate 1 .dead)))) (hm : mentA q el' = true) : memB q [] = true := by
  have e : spl [PC.ow k r sz] 0 (List.replicate 1 .dead) = [PC.dead] := rfl
  rw [List.set_set, e] at he
  rcases List.mem_or_eq_of_mem_set he with he | he
  · rw [mentA, closedL_ment (hbc el' he)] at hm; cases hm
  · subst he; cases hm
theorem setD {base : List (List PC)} {n : Nat} {a b c : List PC} : ((base.set n a).set n b).set n c = base.set n c := by rw [List.set_set, List.set_set]
theorem vwBase (V : Objs) (A : List (List Cnt)) (m : Nat) : (ccRow A ++ List.replicate m nilE).map (·.map (viewN 3 V)) = ccRow A ++ List.replicate m nilE := by
  rw [List.map_append, List.map_replicate]
  congr 1
  unfold ccRow
  rw [List.map_map]
  rfl
theorem counts_len (L : List (List Cnt)) : (counts L).length = L.length := by simp [counts]
theorem counts_at {L : List (List Cnt)} {n : Nat} (h : n < L.length) : (counts L)[n]'(by rw [counts_len]; exact h) = L[n].map (cnt1 L n) := by
  simp [counts, h]
theorem counts_take {L : List (List Cnt)} {n : Nat} (h : n < L.length) : (counts L).take (n + 1) = (counts L).take n ++ [L[n].map (cnt1 L n)] := by
  rw [List.take_succ_eq_append_getElem (by rw [counts_len]; exact h), counts_at h]
theorem acounts_ok (L : List (List Cnt)) (hL : CCLim L) (h : wrong L = 0) : Ct P 62 [.c (ccSl L)] [.c (ccSl (counts L)), .c (eI .i64 0)] := by
  have hok := wrong_ok h
  have h8 := hok.len8
  refine Ct.go T_ok T_mix (N := 89) Tryz.func62 rfl rfl rfl rfl ?_
  refine X1 _ (acheck_ct L hL) ?_
  refine ncase (fun h2 => absurd h h2) (fun _ => ?_)
  refine And.intro (by rw [ccRow_len]; omega) ?_
  rw [ccRow_len]
  refine And.intro (by omega) (And.intro (by omega) (And.intro (by omega) (And.intro ?_ ?_)))
  · exact .inr (by show (L.length : Int) * 24 ≤ _; omega)
  refine And.intro (by rw [ccRow_len]; omega) ?_
  rw [ccRow_len]
  refine loopJI (fun n : Nat => n ≤ L.length) (fun n => [(0, .c (ccSl L)), (5, .c (.ow 20 1 L.length)), (21, .c (ccSl L)), (22, .c (nI .i64 L.length)), (23, .c (nI .i64 n))]) (fun n => [(20, .row 1 (ccRow ((counts L).take n) ++ List.replicate (L.length - n) nilE))]) (fun n => L.length - n)
    0 (by omega) ⟨rfl, by rw [Int.toNat_natCast]; rfl, rfl, rfl, rfl, trivial⟩ ⟨by rw [Int.toNat_natCast]; rfl, trivial⟩ (fun _ : Unit => True) (fun _ => [(5, .c (.ow 20 1 L.length))]) (fun _ => [(20, .row 1 (ccRow (counts L)))]) (fun n hn => ?_) (fun _ _ => ?_)
  · refine seqI T_ok T_mix ?_
    refine seqI T_ok T_mix ?_
    refine dcase (fun h5 => ?_) (fun h5 => ?_)
    · have hn' : n < L.length := by omega
      have hLn := hL.at' hn'
      have hff := hok.form n hn'
      refine seqW (blockI ?_)
      refine seqI T_ok T_mix ?_
      refine And.intro (by omega) (X1 _ (ccRow_get rfl hn') ?_)
      refine seqI T_ok T_mix ?_
      refine nilS (t := 8) (sz := 2) rfl ?_
      refine cutI T_ok T_mix (G2 := List Cnt) (fun v => n + 1 < L.length → EndsOk (L.getD (n + 1) []) v)
        (fun v => [(0, .c (ccSl L)), (5, .c (.ow 20 1 L.length)), (6, .c (nI .i64 n)), (7, .c (cSl L[n])), (8, .c (cSl v)), (21, .c (ccSl L)), (22, .c (nI .i64 L.length)), (23, .c (nI .i64 n))]) (fun _ => [(20, .row 1 (ccRow ((counts L).take n) ++ List.replicate (L.length - n) nilE))]) ?_ (fun v hv => ?_)
      · refine X1 ((n + 1 : Nat) : Int) (wI (by simp) (by omega) (by omega)) ?_
        refine And.intro (by rw [ccRow_len]; omega) ?_
        rw [ccRow_len]
        refine dcase (fun h6 => ?_) (fun h6 => ?_)
        · have hn1 : n + 1 < L.length := by omega
          refine X1 ((n + 1 : Nat) : Int) (wI (by simp) (by omega) (by omega)) ?_
          refine And.intro (by omega) (X1 _ (ccRow_get rfl hn1) ?_)
          refine X1 _ (aends_ct L[n + 1] (hL.at' hn1) (fun x hx => by have := (hok.form (n + 1) hn1 x hx).1; omega)) ?_
          exact ⟨endsP L[n + 1] (hL.at' hn1), fun _ => by rw [show L.getD (n + 1) [] = L[n + 1] by simp [List.getD_eq_getElem?_getD, hn1]]; exact endsP_ok L[n + 1] (hL.at' hn1), ⟨rfl, rfl, rfl, rfl, rfl, rfl, rfl, rfl, trivial⟩, ⟨rfl, trivial⟩⟩
        · exact ⟨[], fun h => absurd h (by omega), ⟨rfl, rfl, rfl, rfl, rfl, rfl, rfl, rfl, trivial⟩, ⟨rfl, trivial⟩⟩
      · have hbl : n < (ccRow ((counts L).take n) ++ List.replicate (L.length - n) nilE).length := by
          rw [List.length_append, ccRow_len, List.length_take, counts_len, List.length_replicate]; omega
        have hct : ((counts L).take n).length = n := by rw [List.length_take, counts_len]; omega
        have hbg : (ccRow ((counts L).take n) ++ List.replicate (L.length - n) nilE)[n]? = some nilE := by
          have := cGet (A := (counts L).take n) (m := L.length - n) (by omega)
          rwa [hct] at this
        have hbc := cBase ((counts L).take n) (L.length - n)
        have hend : ∀ l' : List Cnt, l' = L[n].map (cnt1 L n) → (ccRow ((counts L).take n) ++ List.replicate (L.length - n) nilE).set n [cSl l'] = ccRow ((counts L).take (n + 1)) ++ List.replicate (L.length - (n + 1)) nilE := fun l' hl' => by
          have := cSet (A := (counts L).take n) (l := l') (m := L.length - n) (by omega)
          rw [hct] at this
          rw [this, hl', counts_take hn']
          rfl
        have hvw : ∀ V : Objs, (ccRow ((counts L).take n) ++ List.replicate (L.length - n) nilE).map (·.map (viewN 3 V)) = ccRow ((counts L).take n) ++ List.replicate (L.length - n) nilE := fun V => vwBase V _ _
        have hahd : n + 1 < L.length → ∀ x, x ∈ L.getD (n + 1) [] → x.1.length = n + 2 := fun hn1 x hx => by
          rw [show L.getD (n + 1) [] = L[n + 1] by simp [List.getD_eq_getElem?_getD, hn1]] at hx
          exact (hok.form (n + 1) hn1 x hx).1
        have hahl : n + 1 < L.length → (L.getD (n + 1) []).length ≤ 1000000 := fun hn1 => by
          rw [show L.getD (n + 1) [] = L[n + 1] by simp [List.getD_eq_getElem?_getD, hn1]]
          exact (hL.at' hn1).len
        generalize L[n] = l at *
        generalize (ccRow ((counts L).take n) ++ List.replicate (L.length - n) nilE) = base at *
        have hll := hLn.len
        refine nilEl (r := 84) (k := 20) (sz' := 2) rfl (by omega) rfl hbg hbc ?_
        refine seqI T_ok T_mix ?_
        refine And.intro (by rw [cRow_len]; omega) ?_
        rw [cRow_len]
        refine loopI (fun j : Nat => j ≤ l.length) (fun j => [(0, .c (ccSl L)), (5, .c (.ow 20 1 L.length)), (6, .c (nI .i64 n)), (8, .c (cSl v)), (21, .c (ccSl L)), (22, .c (nI .i64 L.length)), (23, .c (nI .i64 n)), (39, .c (cSl l)), (40, .c (nI .i64 l.length)), (41, .c (nI .i64 j))])
          (fun j => [(20, .rowO 1 (base.set n [.ow 84 2 j]) [84]), (84, .row 2 (cRow ((l.take j).map (cnt1 L n))))]) (fun j => l.length - j)
          0 (by omega) ⟨rfl, rfl, rfl, rfl, rfl, rfl, rfl, rfl, rfl, rfl, trivial⟩ ⟨rfl, rfl, trivial⟩ (fun j hj => ?_)
        refine seqI T_ok T_mix ?_
        refine seqI T_ok T_mix ?_
        refine dcase (fun h7 => ?_) (fun h7 => ?_)
        · have hj' : j < l.length := by omega
          have hsn : l.take (j + 1) = l.take j ++ [l[j]] := List.take_succ_eq_append_getElem hj'
          have hx := cRow_get (l := l) (i := (j : Int)) (n := j) rfl hj'
          have hxf := hff l[j] (List.getElem_mem hj')
          have hxl := hLn.at' hj'
          have hcj : (l.take j).length = j := by rw [List.length_take]; omega
          generalize l[j] = x at *
          refine seqW (blockI ?_)
          refine seqI T_ok T_mix ?_
          refine And.intro (by omega) (X1 _ hx ?_)
          refine seqI T_ok T_mix ?_
          refine X1 _ (cloneI_ct x.1 hxl) ?_
          refine And.intro rfl ?_
          refine cutI T_ok T_mix (G2 := Cnt) (fun c => c = cnt1 L n x) (fun _ => [(0, .c (ccSl L)), (5, .c (.ow 20 1 L.length)), (6, .c (nI .i64 n)), (8, .c (cSl v)), (11, .c (.ad 11 0)), (21, .c (ccSl L)), (22, .c (nI .i64 L.length)), (23, .c (nI .i64 n)), (39, .c (cSl l)), (40, .c (nI .i64 l.length)), (41, .c (nI .i64 j))])
            (fun c => [(11, .var [iSl c.1, eI .i64 c.2]), (20, .rowO 1 (base.set n [.ow 84 2 j]) [84]), (84, .row 2 (cRow ((l.take j).map (cnt1 L n))))]) ?_ (fun c hce => ?_)
          · refine X1 ((n + 1 : Nat) : Int) (wI (by simp) (by omega) (by omega)) ?_
            refine And.intro (by rw [ccRow_len]; omega) ?_
            rw [ccRow_len]
            refine dcase (fun h6 => ?_) (fun h6 => ?_)
            · have hn1 : n + 1 < L.length := by omega
              have hE := hv hn1
              refine And.intro (by omega) (X1 _ (iRow_getN (n := 0) rfl (by omega)) ?_)
              refine ncase (fun h9 => ?_) (fun h9 => ?_)
              · have hce : cnt1 L n x = (x.1, (ahead (L.getD (n + 1) []) x.1 : Int)) := if_pos ⟨hn1, by simpa using h9⟩
                have hfi := ends_find hE (n := n + 1) (hahd hn1) (g := x.1) (by omega)
                refine X1 _ (gfind2_ct v x.1 hE.lim hxl hE.rises) ?_
                rcases hfi with ⟨i, hi, f1, f2⟩ | ⟨f1, f2⟩
                · rw [f1]
                  refine And.intro (by omega) (X1 _ (cRow_get (n := i) rfl hi) ?_)
                  rw [f2]
                  exact ⟨(x.1, (ahead (L.getD (n + 1) []) x.1 : Int)), hce.symm, ⟨rfl, rfl, rfl, rfl, rfl, rfl, rfl, rfl, rfl, rfl, rfl, trivial⟩, ⟨rfl, rfl, rfl, trivial⟩⟩
                · rw [f1]
                  rw [f2] at hce
                  exact ⟨(x.1, 0), hce.symm, ⟨rfl, rfl, rfl, rfl, rfl, rfl, rfl, rfl, rfl, rfl, rfl, trivial⟩, ⟨rfl, rfl, rfl, trivial⟩⟩
              · have hce : cnt1 L n x = x := if_neg (fun h => h.2 (by simpa using h9))
                exact ⟨x, hce.symm, ⟨rfl, rfl, rfl, rfl, rfl, rfl, rfl, rfl, rfl, rfl, rfl, trivial⟩, ⟨rfl, rfl, rfl, trivial⟩⟩
            · have hce : cnt1 L n x = x := if_neg (fun h => h6 (by omega))
              exact ⟨x, hce.symm, ⟨rfl, rfl, rfl, rfl, rfl, rfl, rfl, rfl, rfl, rfl, rfl, trivial⟩, ⟨rfl, rfl, rfl, trivial⟩⟩
          · refine joinC (Ty.own_ok [1000001, 1000002] T_ok) T_mix ?_
            refine And.intro (by omega) (And.intro (by omega) (X1 _ (List.getElem?_set_self hbl) ?_))
            refine X1 [] (fun el' q he hm => nomD hbc hbl he hm) ?_
            refine ⟨by rw [cRow_len]; simp; omega, by rw [cRow_len]; simp only [List.length_map, List.length_take]; show (min j l.length + 1 + 768) * 32 ≤ _; omega, by rw [cRow_len]; simp only [List.length_map, List.length_take]; show min j l.length + 1 ≤ _; omega, cRow_closed, one_closed rfl, ?_⟩
            refine And.intro (by omega) (And.intro (by omega) (X1 _ (List.getElem?_set_self (by rw [List.length_set]; exact hbl)) ?_))
            refine And.intro rfl ?_
            refine joinC T_ok T_mix ?_
            refine X1 ((j + 1 : Nat) : Int) (wI (by simp) (by omega) (by omega)) ?_
            exact ⟨j + 1, by omega, by omega, ⟨rfl, rfl, rfl, rfl, rfl, rfl, rfl, rfl, rfl, rfl, trivial⟩, ⟨rowOE ((setD (base := base) (n := n) (a := [PC.ow 84 2 j]) (b := [PC.dead]) (c := [PC.ow 84 2 _])).trans (congrArg (fun k => base.set n [PC.ow 84 2 k]) (by rw [List.length_append, cRow_len, List.length_map, hcj]; rfl))) rfl, rowE (by rw [hsn, List.map_append, ← cRow_app]; simp only [List.map_cons, List.map_nil]; rw [← hce]; rfl), trivial⟩⟩
        · have hje : j = l.length := by omega
          subst hje
          refine frzI [84] ?_
          refine rowCl (k := 20) (sz := 1) (els := ccRow ((counts L).take (n + 1)) ++ List.replicate (L.length - (n + 1)) nilE) (ids := [84]) (rowOE ?_ rfl) (cBase _ _) ?_
          · rw [List.map_set, hvw]
            exact hend _ (by rw [List.take_length])
          · refine joinC T_ok T_mix ?_
            refine X1 ((n + 1 : Nat) : Int) (wI (by simp) (by omega) (by omega)) ?_
            exact ⟨n + 1, by omega, by omega, ⟨rfl, rfl, rfl, rfl, rfl, trivial⟩, ⟨rfl, trivial⟩⟩
    · have e : n = L.length := by omega
      subst e
      exact ⟨(), trivial, ⟨rfl, trivial⟩, ⟨rowE (by rw [List.take_of_length_le (by rw [counts_len]; exact Nat.le_refl _)]; simp), trivial⟩⟩
  · refine joinC T_ok T_mix ?_
    have : L.length = (ccRow (counts L)).length := by rw [ccRow_len, counts_len]
    exact ⟨trivial, r1 rfl, r1 rfl, trivial⟩
end Go.Proofs.YtpmchgndnhgncaaGreat.Pv
namespace Go.Proofs.YtpmchgndnhgncaaGreat.Pv
open Go
abbrev gS (p0 p1 p2 p3 : Nat × Nat) : A1 := .ag [nSl .u64 (dg 18446744073709551616 p0.1), nSl .u64 (dg 18446744073709551616 p0.2), nSl .u64 (dg 18446744073709551616 p1.1), nSl .u64 (dg 18446744073709551616 p1.2), nSl .u64 (dg 18446744073709551616 p2.1), nSl .u64 (dg 18446744073709551616 p2.2), nSl .u64 (dg 18446744073709551616 p3.1), nSl .u64 (dg 18446744073709551616 p3.2)]
def gAt (p0 p1 p2 p3 : Nat × Nat) (n : Int) : Nat × Nat := if n < 1 then p0 else if n = 1 then p1 else if n = 2 then p2 else p3
theorem dAt_ct (p0 p1 p2 p3 : Nat × Nat) (n : Int) : Ct P 47 [gS p0 p1 p2 p3, .c (eI .i64 n)] [qP (gAt p0 p1 p2 p3 n)] := by
  have key : ∀ v : Int, (if 3 < (if (0 : Int) > n then 0 else n) then 3 else (if (0 : Int) > n then 0 else n)) = v → (v = 0 ∧ gAt p0 p1 p2 p3 n = p0) ∨ (v = 1 ∧ gAt p0 p1 p2 p3 n = p1) ∨ (v = 2 ∧ gAt p0 p1 p2 p3 n = p2) ∨ (v = 3 ∧ gAt p0 p1 p2 p3 n = p3) := by
    intro v hv
    by_cases h0 : n < 1
    · refine .inl ⟨by split at hv <;> split at hv <;> omega, by rw [gAt, if_pos h0]⟩
    · by_cases h1 : n = 1
      · exact .inr (.inl ⟨by split at hv <;> split at hv <;> omega, by rw [gAt, if_neg h0, if_pos h1]⟩)
      · by_cases h2 : n = 2
        · exact .inr (.inr (.inl ⟨by split at hv <;> split at hv <;> omega, by rw [gAt, if_neg h0, if_neg h1, if_pos h2]⟩))
        · exact .inr (.inr (.inr ⟨by split at hv <;> split at hv <;> omega, by rw [gAt, if_neg h0, if_neg h1, if_neg h2]⟩))
  refine Ct.go T_ok T_mix (N := 11) Tryz.func47 rfl rfl rfl rfl ?_
  obtain ⟨v, hv⟩ : ∃ v, (if 3 < (if (0 : Int) > n then 0 else n) then 3 else (if (0 : Int) > n then 0 else n)) = v := ⟨_, rfl⟩
  have hk := key v hv
  rcases hk with ⟨rfl, e⟩ | ⟨rfl, e⟩ | ⟨rfl, e⟩ | ⟨rfl, e⟩ <;> rw [e] <;>
  · refine And.intro (by rw [hv]; decide) (And.intro (by rw [hv]; decide) ?_)
    rw [hv]
    exact ⟨trivial, rc rfl, trivial⟩
end Go.Proofs.YtpmchgndnhgncaaGreat.Pv
