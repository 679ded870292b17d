/- Parts of a proof, joined: Sia Ek Sib Sic Sid PvZ. -/
import Derived.Test.YtpmchgndnhgncaaGreatKbJ
import Derived.Sort.AssemblyPlain
namespace Go.Proofs.YtpmchgndnhgncaaGreat.Pv.SrtI
open Go Go.Sort
abbrev El := {l : List Int // l.length ≤ 1000000}
instance : Inhabited El := ⟨⟨[], by simp⟩⟩
def SZ : Nat := 1
abbrev EN (x : El) : List PC := [iSl x.1]
abbrev VL (x : El) : A1 := .c (iSl x.1)
variable (g : FuncId) (cm : El → El → Int)
abbrev lt (cm : El → El → Int) (x y : El) : Bool := decide (cm x y < 0)
def row (d : Array El) : List (List PC) := d.toList.map EN
theorem row_len {d : Array El} : (row d).length = d.size := by simp [row]
theorem row_get {d : Array El} {i : Int} {n : Nat} (h0 : i = n) (h : n < d.size) : (row d)[i.toNat]? = some (EN d[n]!) := by
  subst h0
  simp [row, h]
theorem row_set {d : Array El} {i : Int} {n : Nat} {y : El} (h0 : i = n) : (row d).set i.toNat (EN y) = row (d.setIfInBounds n y) := by
  subst h0
  simp [row, List.map_set]
theorem row_closed {d : Array El} : closedLL (row d) := by
  intro el h
  obtain ⟨x, _, rfl⟩ := List.mem_map.1 h
  rfl
theorem swp_size {d : Array El} {i j : Nat} : (swp d i j).size = d.size := by simp [swp]
theorem row_swp {d : Array El} {i j : Int} {m n : Nat} (h1 : i = m) (h2 : j = n) : ((row d).set i.toNat (EN d[n]!)).set j.toNat (EN d[m]!) = row (swp d m n) := by
  rw [row_set h1, row_set h2]; rfl
abbrev dO (d : Array El) : Nat × Option Ob := (1000000, some (.row SZ (row d)))
abbrev dA (d : Array El) : A1 := .c (.ow 1000000 SZ d.size)
abbrev sO (s : Nat) : Nat × Option Ob := (1000001, some (.var [nI .i64 s]))
theorem row_get2 {d : Array El} {i j : Int} {m n : Nat} {y : El} (h0 : i = m) (h1 : j = n) (h : n < d.size) : ((row d).set i.toNat (EN y))[j.toNat]? = some (EN (d.setIfInBounds m y)[n]!) := by
  rw [row_set h0]; exact row_get h1 (by simpa using h)
theorem order2_le (d : Array El) (a b s : Nat) : (order2 (lt cm) d a b s).2.2 ≤ s + 1 ∧ ((order2 (lt cm) d a b s).1 = a ∧ (order2 (lt cm) d a b s).2.1 = b ∨ (order2 (lt cm) d a b s).1 = b ∧ (order2 (lt cm) d a b s).2.1 = a) := by
  unfold order2; split <;> simp
variable (hc : ∀ x y, Ct P g [VL x, VL y] [.c (eI .i64 (cm x y))])
include hc
theorem order2_ct (d : Array El) (a b s : Nat) (ha : a < d.size) (hb : b < d.size) (hd : d.size ≤ 1000000) (hs : s ≤ 1000000) :
    CtO P 185 [dO d, sO s] [dA d, .c (nI .i64 a), .c (nI .i64 b), .c (.ad 1000001 0), .c (.fn g [])] [dO d, sO (order2 (lt cm) d a b s).2.2] [.c (nI .i64 (order2 (lt cm) d a b s).1), .c (nI .i64 (order2 (lt cm) d a b s).2.1)] := by
  refine Ct.io T_ok T_mix (N := 32) Tryz.func185 rfl rfl rfl rfl ?_
  refine And.intro (by omega) (And.intro (by omega) (X1 _ (row_get rfl hb) ?_))
  refine And.intro (by omega) (And.intro (by omega) (X1 _ (row_get rfl ha) ?_))
  refine X1 _ (hc _ _) ?_
  refine And.intro rfl ?_
  refine dcase (fun h => ?_) (fun h => ?_)
  · have e : order2 (lt cm) d a b s = (b, a, s + 1) := if_pos (decide_eq_true h)
    rw [e]
    refine X1 ((s + 1 : Nat) : Int) (wI (by simp) (by omega) (by omega)) ?_
    exact ⟨trivial, SubO.of (l := [(1000000, .row _ _), (1000001, .var _)]) ⟨rfl, rfl, trivial⟩, r1 rfl, r1 rfl, trivial⟩
  · have e : order2 (lt cm) d a b s = (a, b, s) := if_neg (by simpa using h)
    rw [e]
    exact ⟨trivial, SubO.of (l := [(1000000, .row _ _), (1000001, .var _)]) ⟨rfl, rfl, trivial⟩, r1 rfl, r1 rfl, trivial⟩
theorem median_ct (d : Array El) (a b c s : Nat) (ha : a < d.size) (hb : b < d.size) (hcc : c < d.size) (hd : d.size ≤ 1000000) (hs : s ≤ 1000) :
    CtO P 181 [dO d, sO s] [dA d, .c (nI .i64 a), .c (nI .i64 b), .c (nI .i64 c), .c (.ad 1000001 0), .c (.fn g [])] [dO d, sO (median (lt cm) d a b c s).2] [.c (nI .i64 (median (lt cm) d a b c s).1)] := by
  have l1 := order2_le (cm := cm) d a b s
  have e : median (lt cm) d a b c s = ((order2 (lt cm) d (order2 (lt cm) d a b s).1 (order2 (lt cm) d (order2 (lt cm) d a b s).2.1 c (order2 (lt cm) d a b s).2.2).1 (order2 (lt cm) d (order2 (lt cm) d a b s).2.1 c (order2 (lt cm) d a b s).2.2).2.2).2.1, (order2 (lt cm) d (order2 (lt cm) d a b s).1 (order2 (lt cm) d (order2 (lt cm) d a b s).2.1 c (order2 (lt cm) d a b s).2.2).1 (order2 (lt cm) d (order2 (lt cm) d a b s).2.1 c (order2 (lt cm) d a b s).2.2).2.2).2.2) := rfl
  rw [e]
  have c1 := order2_ct g cm hc d a b s ha hb hd (by omega)
  generalize order2 (lt cm) d a b s = p1 at *
  have l2 := order2_le (cm := cm) d p1.2.1 c p1.2.2
  have c2 := order2_ct g cm hc d p1.2.1 c p1.2.2 (by omega) hcc hd (by omega)
  generalize order2 (lt cm) d p1.2.1 c p1.2.2 = p2 at *
  have l3 := order2_le (cm := cm) d p1.1 p2.1 p2.2.2
  have c3 := order2_ct g cm hc d p1.1 p2.1 p2.2.2 (by omega) (by omega) hd (by omega)
  generalize order2 (lt cm) d p1.1 p2.1 p2.2.2 = p3 at *
  refine Ct.io T_ok T_mix (N := 41) Tryz.func181 rfl rfl rfl rfl ?_
  refine X2 (.own [(1000000, 1000000), (1000001, 1000001)] [(1000000, 1000000), (1000001, 1000001)]) ?_
  refine ⟨_, _, c1, ?_⟩
  refine X2 (.own [(1000000, 1000000), (1000001, 1000001)] [(1000000, 1000000), (1000001, 1000001)]) ?_
  refine ⟨_, _, c2, ?_⟩
  refine X2 (.own [(1000000, 1000000), (1000001, 1000001)] [(1000000, 1000000), (1000001, 1000001)]) ?_
  refine ⟨_, _, c3, ?_⟩
  exact ⟨trivial, SubO.of (l := [(1000000, .row _ _), (1000001, .var _)]) ⟨rfl, rfl, trivial⟩, r1 rfl, trivial⟩
theorem medAdj_ct (d : Array El) (a s : Nat) (ha : 1 ≤ a) (hb : a + 1 < d.size) (hd : d.size ≤ 1000000) (hs : s ≤ 1000) :
    CtO P 180 [dO d, sO s] [dA d, .c (nI .i64 a), .c (.ad 1000001 0), .c (.fn g [])] [dO d, sO (medianAdjacent (lt cm) d a s).2] [.c (nI .i64 (medianAdjacent (lt cm) d a s).1)] := by
  have c1 := median_ct g cm hc d (a - 1) a (a + 1) s (by omega) (by omega) (by omega) hd hs
  refine Ct.io T_ok T_mix (N := 18) Tryz.func180 rfl rfl rfl rfl ?_
  refine X1 ((a - 1 : Nat) : Int) (wI (by omega) (by omega) (by omega)) ?_
  refine X1 ((a + 1 : Nat) : Int) (wI (by simp) (by omega) (by omega)) ?_
  refine X2 (.own [(1000000, 1000000), (1000001, 1000001)] [(1000000, 1000000), (1000001, 1000001)]) ?_
  refine ⟨_, _, c1, ?_⟩
  exact ⟨trivial, SubO.of (l := [(1000000, .row _ _), (1000001, .var _)]) ⟨rfl, rfl, trivial⟩, r1 rfl, trivial⟩
omit hc
def hV : Hint → Int
  | .unknown => 0
  | .increasing => 1
  | .decreasing => 2
theorem median_le (d : Array El) (a b c s : Nat) : (median (lt cm) d a b c s).2 ≤ s + 3 ∧ ((median (lt cm) d a b c s).1 = a ∨ (median (lt cm) d a b c s).1 = b ∨ (median (lt cm) d a b c s).1 = c) := by
  have l1 := order2_le cm d a b s
  unfold median
  generalize order2 (lt cm) d a b s = p1 at *
  have l2 := order2_le cm d p1.2.1 c p1.2.2
  simp only
  generalize order2 (lt cm) d p1.2.1 c p1.2.2 = p2 at *
  have l3 := order2_le cm d p1.1 p2.1 p2.2.2
  generalize order2 (lt cm) d p1.1 p2.1 p2.2.2 = p3 at *
  exact ⟨by omega, by omega⟩
theorem quo4 {x : Int} {n : Nat} (h : x = n) : x.tdiv 4 = ((n / 4 : Nat) : Int) := by
  subst h; rw [Int.tdiv_eq_ediv_of_nonneg (by omega)]; omega
include hc
theorem choose_ct (d : Array El) (a b : Nat) (hab : a < b) (hb : b ≤ d.size) (hd : d.size ≤ 1000000) :
    CtO P 163 [dO d] [dA d, .c (nI .i64 a), .c (nI .i64 b), .c (.fn g [])] [dO d] [.c (nI .i64 (choosePivot (lt cm) d a b).1), .c (eI .i64 (hV (choosePivot (lt cm) d a b).2))] := by
  refine Ct.io T_ok T_mix (N := 63) Tryz.func163 rfl rfl rfl rfl ?_
  refine X1 ((b - a : Nat) : Int) (wI (by omega) (by omega) (by omega)) ?_
  refine And.intro (by omega) (X1 _ (quo4 rfl) (And.intro ⟨by omega, by omega⟩ ?_))
  refine X1 (((b - a) / 4 * 1 : Nat) : Int) (wI (by simp) (by omega) (by omega)) ?_
  refine X1 ((a + (b - a) / 4 * 1 : Nat) : Int) (wI (by simp) (by omega) (by omega)) ?_
  refine And.intro (by omega) (X1 _ (quo4 rfl) (And.intro ⟨by omega, by omega⟩ ?_))
  refine X1 (((b - a) / 4 * 2 : Nat) : Int) (wI (by simp) (by omega) (by omega)) ?_
  refine X1 ((a + (b - a) / 4 * 2 : Nat) : Int) (wI (by simp) (by omega) (by omega)) ?_
  refine And.intro (by omega) (X1 _ (quo4 rfl) (And.intro ⟨by omega, by omega⟩ ?_))
  refine X1 (((b - a) / 4 * 3 : Nat) : Int) (wI (by simp) (by omega) (by omega)) ?_
  refine X1 ((a + (b - a) / 4 * 3 : Nat) : Int) (wI (by simp) (by omega) (by omega)) ?_
  refine dcase (fun h8 => ?_) (fun h8 => ?_)
  · refine dcase (fun h50 => ?_) (fun h50 => ?_)
    · have e : choosePivot (lt cm) d a b = ((median (lt cm) d (medianAdjacent (lt cm) d (a + (b - a) / 4 * 1) 0).1 (medianAdjacent (lt cm) d (a + (b - a) / 4 * 2) (medianAdjacent (lt cm) d (a + (b - a) / 4 * 1) 0).2).1 (medianAdjacent (lt cm) d (a + (b - a) / 4 * 3) (medianAdjacent (lt cm) d (a + (b - a) / 4 * 2) (medianAdjacent (lt cm) d (a + (b - a) / 4 * 1) 0).2).2).1 (medianAdjacent (lt cm) d (a + (b - a) / 4 * 3) (medianAdjacent (lt cm) d (a + (b - a) / 4 * 2) (medianAdjacent (lt cm) d (a + (b - a) / 4 * 1) 0).2).2).2).1,
          if (median (lt cm) d (medianAdjacent (lt cm) d (a + (b - a) / 4 * 1) 0).1 (medianAdjacent (lt cm) d (a + (b - a) / 4 * 2) (medianAdjacent (lt cm) d (a + (b - a) / 4 * 1) 0).2).1 (medianAdjacent (lt cm) d (a + (b - a) / 4 * 3) (medianAdjacent (lt cm) d (a + (b - a) / 4 * 2) (medianAdjacent (lt cm) d (a + (b - a) / 4 * 1) 0).2).2).1 (medianAdjacent (lt cm) d (a + (b - a) / 4 * 3) (medianAdjacent (lt cm) d (a + (b - a) / 4 * 2) (medianAdjacent (lt cm) d (a + (b - a) / 4 * 1) 0).2).2).2).2 = 0 then .increasing else
          if (median (lt cm) d (medianAdjacent (lt cm) d (a + (b - a) / 4 * 1) 0).1 (medianAdjacent (lt cm) d (a + (b - a) / 4 * 2) (medianAdjacent (lt cm) d (a + (b - a) / 4 * 1) 0).2).1 (medianAdjacent (lt cm) d (a + (b - a) / 4 * 3) (medianAdjacent (lt cm) d (a + (b - a) / 4 * 2) (medianAdjacent (lt cm) d (a + (b - a) / 4 * 1) 0).2).2).1 (medianAdjacent (lt cm) d (a + (b - a) / 4 * 3) (medianAdjacent (lt cm) d (a + (b - a) / 4 * 2) (medianAdjacent (lt cm) d (a + (b - a) / 4 * 1) 0).2).2).2).2 = 12 then .decreasing else .unknown) := by
        simp only [choosePivot, if_pos (show b - a ≥ 8 by omega), if_pos (show b - a ≥ 50 by omega)]
      rw [e]
      have m1 := median_le cm d (a + (b - a) / 4 * 1 - 1) (a + (b - a) / 4 * 1) (a + (b - a) / 4 * 1 + 1) 0
      change (medianAdjacent (lt cm) d (a + (b - a) / 4 * 1) 0).2 ≤ _ ∧ _ at m1
      have c1 := medAdj_ct g cm hc d (a + (b - a) / 4 * 1) 0 (by omega) (by omega) hd (by omega)
      have m1' : (medianAdjacent (lt cm) d (a + (b - a) / 4 * 1) 0).1 < d.size := by
        show (median (lt cm) d _ _ _ _).1 < _
        have := m1.2; omega
      have m1'' := m1.1
      generalize medianAdjacent (lt cm) d (a + (b - a) / 4 * 1) 0 = p1 at *
      have m2 := median_le cm d (a + (b - a) / 4 * 2 - 1) (a + (b - a) / 4 * 2) (a + (b - a) / 4 * 2 + 1) p1.2
      have c2 := medAdj_ct g cm hc d (a + (b - a) / 4 * 2) p1.2 (by omega) (by omega) hd (by omega)
      have m2' : (medianAdjacent (lt cm) d (a + (b - a) / 4 * 2) p1.2).1 < d.size := by
        show (median (lt cm) d _ _ _ _).1 < _
        have := m2.2; omega
      have m2'' : (medianAdjacent (lt cm) d (a + (b - a) / 4 * 2) p1.2).2 ≤ p1.2 + 3 := m2.1
      generalize medianAdjacent (lt cm) d (a + (b - a) / 4 * 2) p1.2 = p2 at *
      have m3 := median_le cm d (a + (b - a) / 4 * 3 - 1) (a + (b - a) / 4 * 3) (a + (b - a) / 4 * 3 + 1) p2.2
      have c3 := medAdj_ct g cm hc d (a + (b - a) / 4 * 3) p2.2 (by omega) (by omega) hd (by omega)
      have m3' : (medianAdjacent (lt cm) d (a + (b - a) / 4 * 3) p2.2).1 < d.size := by
        show (median (lt cm) d _ _ _ _).1 < _
        have := m3.2; omega
      have m3'' : (medianAdjacent (lt cm) d (a + (b - a) / 4 * 3) p2.2).2 ≤ p2.2 + 3 := m3.1
      generalize medianAdjacent (lt cm) d (a + (b - a) / 4 * 3) p2.2 = p3 at *
      have c4 := median_ct g cm hc d p1.1 p2.1 p3.1 p3.2 m1' m2' m3' hd (by omega)
      generalize median (lt cm) d p1.1 p2.1 p3.1 p3.2 = p4 at *
      refine X2 (.own [(1000000, 1000000), (11, 1000001)] [(1000000, 1000000), (1000001, 11)]) ?_
      refine ⟨_, _, c1, ?_⟩
      refine X2 (.own [(1000000, 1000000), (11, 1000001)] [(1000000, 1000000), (1000001, 11)]) ?_
      refine ⟨_, _, c2, ?_⟩
      refine X2 (.own [(1000000, 1000000), (11, 1000001)] [(1000000, 1000000), (1000001, 11)]) ?_
      refine ⟨_, _, c3, ?_⟩
      refine X2 (.own [(1000000, 1000000), (11, 1000001)] [(1000000, 1000000), (1000001, 11)]) ?_
      refine ⟨_, _, c4, ?_⟩
      refine ecase (fun h0 => ?_) (fun h0 => ?_)
      · rw [if_pos (by omega)]
        exact ⟨trivial, SubO.of (l := [(1000000, .row _ _)]) ⟨rfl, trivial⟩, r1 rfl, r1 rfl, trivial⟩
      · rw [if_neg (by omega)]
        refine ecase (fun h1 => ?_) (fun h1 => ?_)
        · rw [if_pos (by omega)]
          exact ⟨trivial, SubO.of (l := [(1000000, .row _ _)]) ⟨rfl, trivial⟩, r1 rfl, r1 rfl, trivial⟩
        · rw [if_neg (by omega)]
          exact ⟨trivial, SubO.of (l := [(1000000, .row _ _)]) ⟨rfl, trivial⟩, r1 rfl, r1 rfl, trivial⟩
    · have e : choosePivot (lt cm) d a b = ((median (lt cm) d (a + (b - a) / 4 * 1) (a + (b - a) / 4 * 2) (a + (b - a) / 4 * 3) 0).1, if (median (lt cm) d (a + (b - a) / 4 * 1) (a + (b - a) / 4 * 2) (a + (b - a) / 4 * 3) 0).2 = 0 then .increasing else if (median (lt cm) d (a + (b - a) / 4 * 1) (a + (b - a) / 4 * 2) (a + (b - a) / 4 * 3) 0).2 = 12 then .decreasing else .unknown) := by
        simp only [choosePivot, if_pos (show b - a ≥ 8 by omega), if_neg (show ¬ (b - a ≥ 50) by omega)]
      rw [e]
      have c1 := median_ct g cm hc d (a + (b - a) / 4 * 1) (a + (b - a) / 4 * 2) (a + (b - a) / 4 * 3) 0 (by omega) (by omega) (by omega) hd (by omega)
      generalize median (lt cm) d (a + (b - a) / 4 * 1) (a + (b - a) / 4 * 2) (a + (b - a) / 4 * 3) 0 = p4 at *
      refine X2 (.own [(1000000, 1000000), (11, 1000001)] [(1000000, 1000000), (1000001, 11)]) ?_
      refine ⟨_, _, c1, ?_⟩
      refine ecase (fun h0 => ?_) (fun h0 => ?_)
      · rw [if_pos (by omega)]
        exact ⟨trivial, SubO.of (l := [(1000000, .row _ _)]) ⟨rfl, trivial⟩, r1 rfl, r1 rfl, trivial⟩
      · rw [if_neg (by omega)]
        refine ecase (fun h1 => ?_) (fun h1 => ?_)
        · rw [if_pos (by omega)]
          exact ⟨trivial, SubO.of (l := [(1000000, .row _ _)]) ⟨rfl, trivial⟩, r1 rfl, r1 rfl, trivial⟩
        · rw [if_neg (by omega)]
          exact ⟨trivial, SubO.of (l := [(1000000, .row _ _)]) ⟨rfl, trivial⟩, r1 rfl, r1 rfl, trivial⟩
  · have e : choosePivot (lt cm) d a b = (a + (b - a) / 4 * 2, .increasing) := by
      simp only [choosePivot, if_neg (show ¬ (b - a ≥ 8) by omega), if_true]
    rw [e]
    exact ⟨trivial, SubO.of (l := [(1000000, .row _ _)]) ⟨rfl, trivial⟩, r1 rfl, r1 rfl, trivial⟩
omit hc
theorem reverse_ct (d : Array El) (a b : Nat) (hab : a < b) (hb : b ≤ d.size) (hd : d.size ≤ 1000000) :
    CtO P 164 [dO d] [dA d, .c (nI .i64 a), .c (nI .i64 b), .c (.fn g [])] [dO (reverseRange d a b)] [] := by
  refine Ct.io T_ok T_mix (N := 34) Tryz.func164 rfl rfl rfl rfl ?_
  refine X1 ((b - 1 : Nat) : Int) (wI (by omega) (by omega) (by omega)) ?_
  refine loopB T_ok T_mix (G := Nat × Nat × Array El) (fun (i, j, d') => reverseLoop i j d' = reverseRange d a b ∧ d'.size = d.size ∧ j < d.size) (fun (i, j, _) => [(0, .c (.ow 1000000 SZ d.size)), (8, .c (nI .i64 i)), (9, .c (nI .i64 j))]) (fun (_, _, d') => [(1000000, .row SZ (row d'))]) (fun (i, j, _) => j - i)
    (a, b - 1, d) ⟨rfl, rfl, by omega⟩ ⟨rfl, rfl, rfl, trivial⟩ ⟨rfl, trivial⟩ (fun (i, j, d') hi => ?_)
  obtain ⟨i1, i2, i3⟩ := hi
  refine dcase (fun h5 => ?_) (fun h5 => ?_)
  · rw [reverseLoop, if_pos (by omega)] at i1
    refine And.intro (by omega) (And.intro (by omega) (X1 _ (row_get (n := j) rfl (by omega)) ?_))
    refine And.intro (by omega) (And.intro (by omega) (X1 _ (row_get (n := i) rfl (by omega)) ?_))
    refine And.intro (by omega) (And.intro (by omega) (X1 _ (row_get (n := i) rfl (by omega)) ?_))
    refine And.intro (by omega) (And.intro (by omega) (X1 _ (row_get2 (y := d'[j]!) (m := i) (n := j) rfl rfl (by omega)) ?_))
    refine And.intro rfl ?_
    refine X1 ((i + 1 : Nat) : Int) (wI1 (by omega)) ?_
    refine X1 ((j - 1 : Nat) : Int) (wI (by omega) (by omega) (by omega)) ?_
    exact ⟨(i + 1, j - 1, swp d' i j), ⟨i1, by rw [swp_size]; exact i2, by omega⟩, by show j - 1 - (i + 1) < j - i; omega, ⟨rfl, rfl, rfl, trivial⟩, ⟨rowE (row_swp (m := i) (n := j) rfl rfl), trivial⟩⟩
  · rw [reverseLoop, if_neg (by omega)] at i1
    rw [← i1]
    exact ⟨trivial, SubO.of (l := [(1000000, .row _ _)]) ⟨rfl, trivial⟩, trivial⟩
end Go.Proofs.YtpmchgndnhgncaaGreat.Pv.SrtI
namespace Go.Proofs.YtpmchgndnhgncaaGreat.Pv
open Go Go.Sort
theorem blen_bits (n : Nat) : bitsLen n = blen n := by
  unfold bitsLen
  split
  · rename_i h; subst h; exact blen_zero.symm
  · rename_i h
    exact (blen_is (Nat.log2_self_le h) Nat.lt_log2_self).symm
theorem len_ct (n : Nat) (hn : n < 18446744073709551616) : Ct P 158 [.c (nI .u64 n)] [.c (nI .i64 (bitsLen n))] := by
  rw [blen_bits]
  refine Ct.go T_ok T_mix (N := 8) Tryz.func158 rfl rfl rfl rfl ?_
  refine X1 _ (len64_ct n hn) ?_
  exact ⟨trivial, r1 rfl, trivial⟩
theorem bits_small {n : Nat} (h : n ≤ 1000000) : bitsLen n ≤ 20 := by rw [blen_bits]; exact blen_le (by omega)
theorem pow2_ct (n : Nat) (hn : n ≤ 1000000) : Ct P 178 [.c (nI .i64 n)] [.c (nI .u64 (1 <<< bitsLen n))] := by
  refine Ct.go T_ok T_mix (N := 7) Tryz.func178 rfl rfl rfl rfl ?_
  have hb := bits_small hn
  refine X1 _ (wU (b := (n : Int)) rfl (by omega) (by omega)) ?_
  refine X1 _ (len_ct n (by omega)) ?_
  have hp : 2 ^ bitsLen n ≤ 2 ^ 20 := Nat.pow_le_pow_right (by omega) hb
  refine And.intro (by omega) (X1 ((1 <<< bitsLen n : Nat) : Int) ?_ ?_)
  · rw [Nat.one_shiftLeft]
    have e : (1 : Int) * 2 ^ min ((bitsLen n : Nat) : Int).toNat IntKind.u64.bits = ((2 ^ bitsLen n : Nat) : Int) := by
      have : min ((bitsLen n : Nat) : Int).toNat IntKind.u64.bits = bitsLen n := by
        show min ((bitsLen n : Nat) : Int).toNat 64 = _
        omega
      rw [this]; simp
    generalize 2 ^ bitsLen n = m at *
    exact wU e (by omega) (by omega)
  · exact ⟨trivial, r1 rfl, trivial⟩
theorem u64lt (x : UInt64) : x.toNat < 18446744073709551616 := x.toNat_lt
theorem shlU (x : UInt64) (k : Nat) (y : UInt64) (hk : k < 64) (h : y.toNat = x.toNat * 2 ^ k % 18446744073709551616) : IntKind.u64.wrap ((x.toNat : Int) * 2 ^ min ((k : Nat) : Int).toNat IntKind.u64.bits) = (y.toNat : Int) := by
  have e : min ((k : Nat) : Int).toNat IntKind.u64.bits = k := by show min ((k : Nat) : Int).toNat 64 = _; omega
  rw [e, h]
  have e2 : (x.toNat : Int) * 2 ^ k = ((x.toNat * 2 ^ k : Nat) : Int) := by simp
  rw [e2]
  simp [IntKind.wrap, IntKind.signed, IntKind.bits]
theorem xorU (x y : UInt64) : IntKind.u64.wrap ((BitVec.ofInt IntKind.u64.bits (x.toNat : Int) ^^^ BitVec.ofInt IntKind.u64.bits (y.toNat : Int)).toNat : Int) = ((x ^^^ y).toNat : Int) := by
  have hx := u64lt x
  have hy := u64lt y
  have e : (BitVec.ofInt IntKind.u64.bits (x.toNat : Int) ^^^ BitVec.ofInt IntKind.u64.bits (y.toNat : Int)).toNat = (x ^^^ y).toNat := by
    show (BitVec.ofInt 64 (x.toNat : Int) ^^^ BitVec.ofInt 64 (y.toNat : Int)).toNat = _
    rw [BitVec.ofInt_natCast, BitVec.ofInt_natCast, BitVec.toNat_xor, BitVec.toNat_ofNat, BitVec.toNat_ofNat, Nat.mod_eq_of_lt (by omega : x.toNat < 2 ^ 64), Nat.mod_eq_of_lt (by omega : y.toNat < 2 ^ 64), UInt64.toNat_xor]
  rw [e]
  have := u64lt (x ^^^ y)
  exact wU rfl (by omega) (by omega)
theorem andU (x : UInt64) {n : Nat} (hn : n < 18446744073709551616) : IntKind.u64.wrap ((BitVec.ofInt IntKind.u64.bits (x.toNat : Int) &&& BitVec.ofInt IntKind.u64.bits (n : Int)).toNat : Int) = ((x.toNat &&& n : Nat) : Int) := by
  have hx := u64lt x
  have e : (BitVec.ofInt IntKind.u64.bits (x.toNat : Int) &&& BitVec.ofInt IntKind.u64.bits (n : Int)).toNat = x.toNat &&& n := by
    show (BitVec.ofInt 64 (x.toNat : Int) &&& BitVec.ofInt 64 (n : Int)).toNat = _
    rw [BitVec.ofInt_natCast, BitVec.ofInt_natCast, BitVec.toNat_and, BitVec.toNat_ofNat, BitVec.toNat_ofNat, Nat.mod_eq_of_lt (by omega : x.toNat < 2 ^ 64), Nat.mod_eq_of_lt (by omega : n < 2 ^ 64)]
  rw [e]
  have : x.toNat &&& n ≤ n := Nat.and_le_right
  exact wU rfl (by omega) (by omega)
theorem next_ct (r : UInt64) : CtO P 179 [(1000000, some (.var [nI .u64 r.toNat]))] [.c (.ad 1000000 0)] [(1000000, some (.var [nI .u64 (xorNext r).toNat]))] [.c (nI .u64 (xorNext r).toNat)] := by
  refine Ct.io T_ok T_mix (N := 33) Tryz.func179 rfl rfl rfl rfl ?_
  refine And.intro (by decide) (X1 ((r <<< 13).toNat : Int) (shlU r 13 (r <<< 13) (by omega) ?_) ?_)
  · rw [UInt64.toNat_shiftLeft]; simp [Nat.shiftLeft_eq]
  refine X1 _ (xorU r (r <<< 13)) ?_
  refine And.intro rfl ?_
  generalize hr1 : r ^^^ (r <<< 13) = s1
  have q1 := u64lt (s1 >>> 7)
  refine And.intro (by decide) (X1 ((s1 >>> 7).toNat : Int) ?_ (And.intro ⟨by omega, by omega⟩ ?_))
  · rw [UInt64.toNat_shiftRight]
    show (s1.toNat : Int).fdiv (2 ^ min ((7 : Nat) : Int).toNat 64) = _
    rw [shrN (by omega), Nat.shiftRight_eq_div_pow]; rfl
  refine X1 _ (xorU s1 (s1 >>> 7)) ?_
  refine And.intro rfl ?_
  generalize hr2 : s1 ^^^ (s1 >>> 7) = s2
  refine And.intro (by decide) (X1 ((s2 <<< 17).toNat : Int) (shlU s2 17 (s2 <<< 17) (by omega) ?_) ?_)
  · rw [UInt64.toNat_shiftLeft]; simp [Nat.shiftLeft_eq]
  refine X1 _ (xorU s2 (s2 <<< 17)) ?_
  refine And.intro rfl ?_
  have e : xorNext r = s2 ^^^ (s2 <<< 17) := by rw [← hr2, ← hr1]; rfl
  rw [e]
  exact ⟨trivial, SubO.of (l := [(1000000, .var _)]) ⟨rfl, trivial⟩, r1 rfl, trivial⟩
end Go.Proofs.YtpmchgndnhgncaaGreat.Pv
namespace Go.Proofs.YtpmchgndnhgncaaGreat.Pv.SrtI
open Go Go.Sort
section
variable {cm : El → El → Int} {a b : Nat}
theorem insInner_a {j : Nat} {e : Array El} (h : j ≤ a) : insInner (lt cm) a j e = e := by
  cases j with
  | zero => rfl
  | succ j => rw [insInner, if_neg (by simp; omega)]
theorem insInner_b {j : Nat} {e : Array El} (h : ¬ cm e[j]! e[j - 1]! < 0) : insInner (lt cm) a j e = e := by
  cases j with
  | zero => rfl
  | succ j => rw [insInner, if_neg (by simp at h; simp [lt, h])]
theorem insInner_c {j : Nat} {e : Array El} (h : j > a) (h2 : cm e[j]! e[j - 1]! < 0) : insInner (lt cm) a j e = insInner (lt cm) a (j - 1) (swp e j (j - 1)) := by
  cases j with
  | zero => omega
  | succ j =>
    simp only [Nat.add_sub_cancel] at h2 ⊢
    rw [insInner, if_pos (by simp [lt, h2]; omega)]
end
variable (g : FuncId) (cm : El → El → Int)
variable (hc : ∀ x y, Ct P g [VL x, VL y] [.c (eI .i64 (cm x y))])
include hc
theorem ins_ct (d : Array El) (a b : Nat) (hab : a ≤ b) (hb : b ≤ d.size) (hd : d.size ≤ 1000000) :
    CtO P 160 [dO d] [dA d, .c (nI .i64 a), .c (nI .i64 b), .c (.fn g [])] [dO (insertionSort (lt cm) d a b)] [] := by
  refine Ct.io T_ok T_mix (N := 53) Tryz.func160 rfl rfl rfl rfl ?_
  refine X1 ((a + 1 : Nat) : Int) (wI (by simp) (by omega) (by omega)) ?_
  refine loopB T_ok T_mix (G := Nat × Array El) (fun (i, e) => insOuter (lt cm) a b i e = insertionSort (lt cm) d a b ∧ e.size = d.size ∧ a + 1 ≤ i) (fun (i, _) => [(0, .c (.ow 1000000 SZ d.size)), (1, .c (nI .i64 a)), (2, .c (nI .i64 b)), (3, .c (.fn g [])), (8, .c (nI .i64 i))]) (fun (_, e) => [(1000000, .row SZ (row e))]) (fun (i, _) => b - i)
    (a + 1, d) ⟨rfl, rfl, by omega⟩ ⟨rfl, rfl, rfl, rfl, rfl, trivial⟩ ⟨rfl, trivial⟩ (fun (i, e0) hi => ?_)
  obtain ⟨i1, i2, i3⟩ := hi
  refine dcase (fun h5 => ?_) (fun h5 => ?_)
  · rw [insOuter, if_pos (by omega)] at i1
    have hib : i < b := by omega
    have done : ∀ e : Array El, insInner (lt cm) a i e0 = e → e.size = d.size → insOuter (lt cm) a b (i + 1) e = insertionSort (lt cm) d a b ∧ e.size = d.size ∧ a + 1 ≤ i + 1 := fun e h1 h2 => ⟨by rw [← h1]; exact i1, h2, by omega⟩
    refine loopB T_ok T_mix (G := Nat × Array El) (fun (j, e) => insInner (lt cm) a j e = insInner (lt cm) a i e0 ∧ e.size = d.size ∧ j ≤ i) (fun (j, _) => [(0, .c (.ow 1000000 SZ d.size)), (1, .c (nI .i64 a)), (2, .c (nI .i64 b)), (3, .c (.fn g [])), (8, .c (nI .i64 i)), (9, .c (nI .i64 j))]) (fun (_, e) => [(1000000, .row SZ (row e))]) (fun (j, _) => j)
      (i, e0) ⟨rfl, i2, by omega⟩ ⟨rfl, rfl, rfl, rfl, rfl, rfl, trivial⟩ ⟨rfl, trivial⟩ (fun (j, e) hj => ?_)
    obtain ⟨j1, j2, j3⟩ := hj
    refine dcase (fun h6 => ?_) (fun h6 => ?_)
    · refine And.intro (by omega) (And.intro (by omega) (X1 _ (row_get (n := j) rfl (by omega)) ?_))
      refine X1 ((j - 1 : Nat) : Int) (wI (by omega) (by omega) (by omega)) ?_
      refine And.intro (by omega) (And.intro (by omega) (X1 _ (row_get (n := j - 1) rfl (by omega)) ?_))
      refine X1 _ (hc _ _) ?_
      refine And.intro rfl ?_
      refine dcase (fun h7 => ?_) (fun h7 => ?_)
      · rw [insInner_c (by omega) h7] at j1
        refine X1 ((j - 1 : Nat) : Int) (wI (by omega) (by omega) (by omega)) ?_
        refine X1 ((j - 1 : Nat) : Int) (wI (by omega) (by omega) (by omega)) ?_
        refine And.intro (by omega) (And.intro (by omega) (X1 _ (row_get (d := e) (n := j - 1) rfl (by omega)) ?_))
        refine And.intro (by omega) (And.intro (by omega) (X1 _ (row_get (d := e) (n := j) rfl (by omega)) ?_))
        refine And.intro (by omega) (And.intro (by omega) (X1 _ (row_get (d := e) (n := j) rfl (by omega)) ?_))
        refine And.intro (by omega) (And.intro (by omega) (X1 _ (row_get2 (d := e) (y := e[j - 1]!) (m := j) (n := j - 1) rfl rfl (by omega)) ?_))
        refine And.intro rfl ?_
        refine X1 ((j - 1 : Nat) : Int) (wI (by omega) (by omega) (by omega)) ?_
        exact ⟨(j - 1, swp e j (j - 1)), ⟨j1, by rw [swp_size]; exact j2, by omega⟩, by show j - 1 < j; omega, ⟨rfl, rfl, rfl, rfl, rfl, rfl, trivial⟩, ⟨rowE (row_swp (m := j) (n := j - 1) rfl rfl), trivial⟩⟩
      · rw [insInner_b h7] at j1
        refine X1 ((i + 1 : Nat) : Int) (wI1 (by omega)) ?_
        exact ⟨(i + 1, e), done e j1.symm j2, by show b - (i + 1) < b - i; omega, ⟨rfl, rfl, rfl, rfl, rfl, trivial⟩, ⟨rfl, trivial⟩⟩
    · refine And.intro rfl ?_
      rw [insInner_a (by omega)] at j1
      refine X1 ((i + 1 : Nat) : Int) (wI1 (by omega)) ?_
      exact ⟨(i + 1, e), done e j1.symm j2, by show b - (i + 1) < b - i; omega, ⟨rfl, rfl, rfl, rfl, rfl, trivial⟩, ⟨rfl, trivial⟩⟩
  · rw [insOuter, if_neg (by omega)] at i1
    rw [← i1]
    exact ⟨trivial, SubO.of (l := [(1000000, .row _ _)]) ⟨rfl, trivial⟩, trivial⟩
omit hc
section
variable {cm : El → El → Int} {hi f r : Nat} {e : Array El}
theorem sift_end (h : ¬ 2 * r + 1 < hi) : siftDown (lt cm) hi f r e = e := by rw [siftDown, dif_pos (by omega)]
theorem sift_r (h : 2 * r + 2 < hi) (h2 : cm e[f + (2 * r + 1)]! e[f + (2 * r + 2)]! < 0) : siftDown (lt cm) hi f r e = if cm e[f + r]! e[f + (2 * r + 2)]! < 0 then siftDown (lt cm) hi f (2 * r + 2) (swp e (f + r) (f + (2 * r + 2))) else e := by
  rw [siftDown, dif_neg (by omega)]
  have e1 : f + (2 * r + 1) + 1 = f + (2 * r + 2) := by omega
  rw [e1, if_pos (by simp [lt, h2]; omega)]
  by_cases h3 : cm e[f + r]! e[f + (2 * r + 2)]! < 0
  · rw [if_pos h3, if_neg (by simp [lt, h3]), dif_pos h]
  · rw [if_neg h3, if_pos (by simp [lt]; omega)]
theorem sift_l (h : 2 * r + 1 < hi) (h2 : ¬ (2 * r + 2 < hi ∧ cm e[f + (2 * r + 1)]! e[f + (2 * r + 2)]! < 0)) : siftDown (lt cm) hi f r e = if cm e[f + r]! e[f + (2 * r + 1)]! < 0 then siftDown (lt cm) hi f (2 * r + 1) (swp e (f + r) (f + (2 * r + 1))) else e := by
  rw [siftDown, dif_neg (by omega)]
  have e1 : f + (2 * r + 1) + 1 = f + (2 * r + 2) := by omega
  rw [e1, if_neg (by simp [lt]; omega)]
  by_cases h3 : cm e[f + r]! e[f + (2 * r + 1)]! < 0
  · rw [if_pos h3, if_neg (by simp [lt, h3])]
  · rw [if_neg h3, if_pos (by simp [lt]; omega)]
end
include hc
theorem sift_ct (d : Array El) (lo hi f : Nat) (il ih : Int) (hil : il = lo) (hih : ih = hi) (hb : f + hi ≤ d.size) (hlo : lo ≤ 1000000) (hd : d.size ≤ 1000000) :
    CtO P 177 [dO d] [dA d, .c (eI .i64 il), .c (eI .i64 ih), .c (nI .i64 f), .c (.fn g [])] [dO (siftDown (lt cm) hi f lo d)] [] := by
  subst hil hih
  refine Ct.io T_ok T_mix (N := 82) Tryz.func177 rfl rfl rfl rfl ?_
  refine loopB T_ok T_mix (G := Nat × Array El) (fun (r, e) => siftDown (lt cm) hi f r e = siftDown (lt cm) hi f lo d ∧ e.size = d.size ∧ r ≤ 1000000) (fun (r, _) => [(0, .c (.ow 1000000 SZ d.size)), (2, .c (nI .i64 hi)), (3, .c (nI .i64 f)), (4, .c (.fn g [])), (10, .c (nI .i64 r))]) (fun (_, e) => [(1000000, .row SZ (row e))]) (fun (r, _) => hi - r)
    (lo, d) ⟨rfl, rfl, hlo⟩ ⟨rfl, rfl, rfl, rfl, rfl, trivial⟩ ⟨rfl, trivial⟩ (fun (r, e) hinv => ?_)
  obtain ⟨i1, i2, i3⟩ := hinv
  refine X1 ((2 * r : Nat) : Int) (wI (by simp) (by omega) (by omega)) ?_
  refine X1 ((2 * r + 1 : Nat) : Int) (wI (by simp) (by omega) (by omega)) ?_
  refine dcase (fun h5 => ?_) (fun h5 => ?_)
  · rw [sift_end (by omega)] at i1
    rw [← i1]
    exact ⟨trivial, SubO.of (l := [(1000000, .row _ _)]) ⟨rfl, trivial⟩, trivial⟩
  · refine X1 ((2 * r + 2 : Nat) : Int) (wI (by simp; omega) (by omega) (by omega)) ?_
    refine dcase (fun h6 => ?_) (fun h6 => ?_)
    · refine X1 ((f + (2 * r + 1) : Nat) : Int) (wI (by simp) (by omega) (by omega)) ?_
      refine And.intro (by omega) (And.intro (by omega) (X1 _ (row_get (n := f + (2 * r + 1)) rfl (by omega)) ?_))
      refine X1 ((f + (2 * r + 1) : Nat) : Int) (wI (by simp) (by omega) (by omega)) ?_
      refine X1 ((f + (2 * r + 2) : Nat) : Int) (wI (by omega) (by omega) (by omega)) ?_
      refine And.intro (by omega) (And.intro (by omega) (X1 _ (row_get (n := f + (2 * r + 2)) rfl (by omega)) ?_))
      refine X1 _ (hc _ _) ?_
      refine And.intro rfl ?_
      refine dcase (fun h7 => ?_) (fun h7 => ?_)
      · rw [sift_r (by omega) h7] at i1
        refine X1 ((2 * r + 2 : Nat) : Int) (wI (by simp; omega) (by omega) (by omega)) ?_
        refine X1 ((f + r : Nat) : Int) (wI (by simp) (by omega) (by omega)) ?_
        refine And.intro (by omega) (And.intro (by omega) (X1 _ (row_get (n := f + r) rfl (by omega)) ?_))
        refine X1 ((f + (2 * r + 2) : Nat) : Int) (wI (by simp) (by omega) (by omega)) ?_
        refine And.intro (by omega) (And.intro (by omega) (X1 _ (row_get (n := f + (2 * r + 2)) rfl (by omega)) ?_))
        refine X1 _ (hc _ _) ?_
        refine And.intro rfl ?_
        refine bcase (fun h9 => ?_) (fun h9 => ?_)
        · have h9' : ¬ cm e[f + r]! e[f + (2 * r + 2)]! < 0 := by simpa using h9
          rw [if_neg h9'] at i1
          rw [← i1]
          exact ⟨trivial, SubO.of (l := [(1000000, .row _ _)]) ⟨rfl, trivial⟩, trivial⟩
        · have h9' : cm e[f + r]! e[f + (2 * r + 2)]! < 0 := by simpa using h9
          rw [if_pos h9'] at i1
          refine X1 ((f + r : Nat) : Int) (wI (by simp) (by omega) (by omega)) ?_
          refine X1 ((f + (2 * r + 2) : Nat) : Int) (wI (by simp) (by omega) (by omega)) ?_
          refine X1 ((f + (2 * r + 2) : Nat) : Int) (wI (by simp) (by omega) (by omega)) ?_
          refine And.intro (by omega) (And.intro (by omega) (X1 _ (row_get (n := f + (2 * r + 2)) rfl (by omega)) ?_))
          refine X1 ((f + r : Nat) : Int) (wI (by simp) (by omega) (by omega)) ?_
          refine And.intro (by omega) (And.intro (by omega) (X1 _ (row_get (n := f + r) rfl (by omega)) ?_))
          refine And.intro (by omega) (And.intro (by omega) (X1 _ (row_get (n := f + r) rfl (by omega)) ?_))
          refine And.intro (by omega) (And.intro (by omega) (X1 _ (row_get2 (y := e[f + (2 * r + 2)]!) (m := f + r) (n := f + (2 * r + 2)) rfl rfl (by omega)) ?_))
          refine And.intro rfl ?_
          exact ⟨(2 * r + 2, swp e (f + r) (f + (2 * r + 2))), ⟨i1, by rw [swp_size]; exact i2, by omega⟩, by show hi - (2 * r + 2) < hi - r; omega, ⟨rfl, rfl, rfl, rfl, rfl, trivial⟩, ⟨rowE (row_swp (m := f + r) (n := f + (2 * r + 2)) rfl rfl), trivial⟩⟩
      · rw [sift_l (by omega) (fun h => h7 h.2)] at i1
        refine X1 ((f + r : Nat) : Int) (wI (by simp) (by omega) (by omega)) ?_
        refine And.intro (by omega) (And.intro (by omega) (X1 _ (row_get (n := f + r) rfl (by omega)) ?_))
        refine X1 ((f + (2 * r + 1) : Nat) : Int) (wI (by simp) (by omega) (by omega)) ?_
        refine And.intro (by omega) (And.intro (by omega) (X1 _ (row_get (n := f + (2 * r + 1)) rfl (by omega)) ?_))
        refine X1 _ (hc _ _) ?_
        refine And.intro rfl ?_
        refine bcase (fun h9 => ?_) (fun h9 => ?_)
        · have h9' : ¬ cm e[f + r]! e[f + (2 * r + 1)]! < 0 := by simpa using h9
          rw [if_neg h9'] at i1
          rw [← i1]
          exact ⟨trivial, SubO.of (l := [(1000000, .row _ _)]) ⟨rfl, trivial⟩, trivial⟩
        · have h9' : cm e[f + r]! e[f + (2 * r + 1)]! < 0 := by simpa using h9
          rw [if_pos h9'] at i1
          refine X1 ((f + r : Nat) : Int) (wI (by simp) (by omega) (by omega)) ?_
          refine X1 ((f + (2 * r + 1) : Nat) : Int) (wI (by simp) (by omega) (by omega)) ?_
          refine X1 ((f + (2 * r + 1) : Nat) : Int) (wI (by simp) (by omega) (by omega)) ?_
          refine And.intro (by omega) (And.intro (by omega) (X1 _ (row_get (n := f + (2 * r + 1)) rfl (by omega)) ?_))
          refine X1 ((f + r : Nat) : Int) (wI (by simp) (by omega) (by omega)) ?_
          refine And.intro (by omega) (And.intro (by omega) (X1 _ (row_get (n := f + r) rfl (by omega)) ?_))
          refine And.intro (by omega) (And.intro (by omega) (X1 _ (row_get (n := f + r) rfl (by omega)) ?_))
          refine And.intro (by omega) (And.intro (by omega) (X1 _ (row_get2 (y := e[f + (2 * r + 1)]!) (m := f + r) (n := f + (2 * r + 1)) rfl rfl (by omega)) ?_))
          refine And.intro rfl ?_
          exact ⟨(2 * r + 1, swp e (f + r) (f + (2 * r + 1))), ⟨i1, by rw [swp_size]; exact i2, by omega⟩, by show hi - (2 * r + 1) < hi - r; omega, ⟨rfl, rfl, rfl, rfl, rfl, trivial⟩, ⟨rowE (row_swp (m := f + r) (n := f + (2 * r + 1)) rfl rfl), trivial⟩⟩
    · refine And.intro rfl ?_
      rw [sift_l (by omega) (fun h => h6 (by omega))] at i1
      refine X1 ((f + r : Nat) : Int) (wI (by simp) (by omega) (by omega)) ?_
      refine And.intro (by omega) (And.intro (by omega) (X1 _ (row_get (n := f + r) rfl (by omega)) ?_))
      refine X1 ((f + (2 * r + 1) : Nat) : Int) (wI (by simp) (by omega) (by omega)) ?_
      refine And.intro (by omega) (And.intro (by omega) (X1 _ (row_get (n := f + (2 * r + 1)) rfl (by omega)) ?_))
      refine X1 _ (hc _ _) ?_
      refine And.intro rfl ?_
      refine bcase (fun h9 => ?_) (fun h9 => ?_)
      · have h9' : ¬ cm e[f + r]! e[f + (2 * r + 1)]! < 0 := by simpa using h9
        rw [if_neg h9'] at i1
        rw [← i1]
        exact ⟨trivial, SubO.of (l := [(1000000, .row _ _)]) ⟨rfl, trivial⟩, trivial⟩
      · have h9' : cm e[f + r]! e[f + (2 * r + 1)]! < 0 := by simpa using h9
        rw [if_pos h9'] at i1
        refine X1 ((f + r : Nat) : Int) (wI (by simp) (by omega) (by omega)) ?_
        refine X1 ((f + (2 * r + 1) : Nat) : Int) (wI (by simp) (by omega) (by omega)) ?_
        refine X1 ((f + (2 * r + 1) : Nat) : Int) (wI (by simp) (by omega) (by omega)) ?_
        refine And.intro (by omega) (And.intro (by omega) (X1 _ (row_get (n := f + (2 * r + 1)) rfl (by omega)) ?_))
        refine X1 ((f + r : Nat) : Int) (wI (by simp) (by omega) (by omega)) ?_
        refine And.intro (by omega) (And.intro (by omega) (X1 _ (row_get (n := f + r) rfl (by omega)) ?_))
        refine And.intro (by omega) (And.intro (by omega) (X1 _ (row_get (n := f + r) rfl (by omega)) ?_))
        refine And.intro (by omega) (And.intro (by omega) (X1 _ (row_get2 (y := e[f + (2 * r + 1)]!) (m := f + r) (n := f + (2 * r + 1)) rfl rfl (by omega)) ?_))
        refine And.intro rfl ?_
        exact ⟨(2 * r + 1, swp e (f + r) (f + (2 * r + 1))), ⟨i1, by rw [swp_size]; exact i2, by omega⟩, by show hi - (2 * r + 1) < hi - r; omega, ⟨rfl, rfl, rfl, rfl, rfl, trivial⟩, ⟨rowE (row_swp (m := f + r) (n := f + (2 * r + 1)) rfl rfl), trivial⟩⟩
theorem sift_size (hi f : Nat) : ∀ (n r : Nat) (e : Array El), hi - r ≤ n → (siftDown (lt cm) hi f r e).size = e.size := by
  have _hc := hc
  intro n
  induction n with
  | zero => intro r e h; rw [sift_end (by omega)]
  | succ n ih =>
    intro r e h
    by_cases h1 : 2 * r + 1 < hi
    · by_cases h2 : 2 * r + 2 < hi ∧ cm e[f + (2 * r + 1)]! e[f + (2 * r + 2)]! < 0
      · rw [sift_r h2.1 h2.2]; split
        · rw [ih _ _ (by omega), swp_size]
        · rfl
      · rw [sift_l h1 h2]; split
        · rw [ih _ _ (by omega), swp_size]
        · rfl
    · rw [sift_end h1]
theorem heap_ct (d : Array El) (a b : Nat) (hab : a < b) (hb : b ≤ d.size) (hd : d.size ≤ 1000000) :
    CtO P 161 [dO d] [dA d, .c (nI .i64 a), .c (nI .i64 b), .c (.fn g [])] [dO (heapSort (lt cm) d a b)] [] := by
  refine Ct.io T_ok T_mix (N := 60) Tryz.func161 rfl rfl rfl rfl ?_
  refine X1 ((b - a : Nat) : Int) (wI (by omega) (by omega) (by omega)) ?_
  refine X1 ((b - a - 1 : Nat) : Int) (wI (by omega) (by omega) (by omega)) ?_
  have q2 : ((b - a - 1 : Nat) : Int).tdiv 2 = (((b - a - 1) / 2 + 1 : Nat) : Int) - 1 := by
    rw [Int.tdiv_eq_ediv_of_nonneg (by omega)]; omega
  refine And.intro (by omega) (X1 _ q2 (And.intro ⟨by omega, by omega⟩ ?_))
  refine loopJ T_ok T_mix (G := Nat × Array El) (fun (k, e) => heapBuild (lt cm) (b - a) a k e = heapBuild (lt cm) (b - a) a ((b - a - 1) / 2 + 1) d ∧ e.size = d.size ∧ k ≤ 1000000) (fun (k, _) => [(0, .c (.ow 1000000 SZ d.size)), (3, .c (.fn g [])), (8, .c (nI .i64 a)), (9, .c (eI .i64 0)), (10, .c (nI .i64 (b - a))), (11, .c (eI .i64 ((k : Int) - 1)))]) (fun (_, e) => [(1000000, .row SZ (row e))]) (fun (k, _) => k)
    ((b - a - 1) / 2 + 1, d) ⟨rfl, rfl, by omega⟩ ⟨rfl, rfl, rfl, rfl, rfl, rfl, trivial⟩ ⟨rfl, trivial⟩
    (G2 := Array El) (fun e => e = heapBuild (lt cm) (b - a) a ((b - a - 1) / 2 + 1) d ∧ e.size = d.size) (fun _ => [(0, .c (.ow 1000000 SZ d.size)), (3, .c (.fn g [])), (8, .c (nI .i64 a)), (9, .c (eI .i64 0)), (10, .c (nI .i64 (b - a)))]) (fun e => [(1000000, .row SZ (row e))]) (fun (k, e) hi => ?_) (fun e0 he => ?_)
  · obtain ⟨i1, i2, i3⟩ := hi
    refine dcase (fun h5 => ?_) (fun h5 => ?_)
    · cases k with
      | zero => omega
      | succ k =>
        refine X2 (.upd 1000000) ?_
        have hs := sift_ct g cm hc e k (b - a) a (((k + 1 : Nat) : Int) - 1) ((b - a : Nat) : Int) (by omega) rfl (by omega) (by omega) (by omega)
        rw [dA, i2] at hs
        refine ⟨_, _, hs, ?_⟩
        refine X1 ((k : Int) - 1) (wI (by omega) (by omega) (by omega)) ?_
        rw [heapBuild] at i1
        exact ⟨(k, siftDown (lt cm) (b - a) a k e), ⟨i1, by rw [sift_size g cm hc (b - a) a _ k e (Nat.le_refl _)]; exact i2, by omega⟩, by show k < k + 1; omega, ⟨rfl, rfl, rfl, rfl, rfl, rfl, trivial⟩, ⟨rfl, trivial⟩⟩
    · have hk : k = 0 := by omega
      subst hk
      exact ⟨e, ⟨i1, i2⟩, ⟨rfl, rfl, rfl, rfl, rfl, trivial⟩, ⟨rfl, trivial⟩⟩
  · obtain ⟨e1, e2⟩ := he
    have hpop : heapSort (lt cm) d a b = heapPop (lt cm) a (b - a) e0 := by rw [e1]; rfl
    rw [hpop]
    refine X1 (((b - a : Nat) : Int) - 1) (wI (by omega) (by omega) (by omega)) ?_
    refine loopB T_ok T_mix (G := Nat × Array El) (fun (k, e) => heapPop (lt cm) a k e = heapPop (lt cm) a (b - a) e0 ∧ e.size = d.size ∧ k ≤ b - a) (fun (k, _) => [(0, .c (.ow 1000000 SZ d.size)), (3, .c (.fn g [])), (8, .c (nI .i64 a)), (9, .c (eI .i64 0)), (12, .c (eI .i64 ((k : Int) - 1)))]) (fun (_, e) => [(1000000, .row SZ (row e))]) (fun (k, _) => k)
      (b - a, e0) ⟨rfl, e2, by omega⟩ ⟨rfl, rfl, rfl, rfl, rfl, trivial⟩ ⟨rfl, trivial⟩ (fun (k, e) hi => ?_)
    obtain ⟨i1, i2, i3⟩ := hi
    refine dcase (fun h5 => ?_) (fun h5 => ?_)
    · cases k with
      | zero => omega
      | succ k =>
        refine X1 ((a + k : Nat) : Int) (wI (by omega) (by omega) (by omega)) ?_
        refine X1 ((a + k : Nat) : Int) (wI (by omega) (by omega) (by omega)) ?_
        refine And.intro (by omega) (And.intro (by omega) (X1 _ (row_get (d := e) (n := a + k) rfl (by omega)) ?_))
        refine And.intro (by omega) (And.intro (by omega) (X1 _ (row_get (d := e) (n := a) rfl (by omega)) ?_))
        refine And.intro (by omega) (And.intro (by omega) (X1 _ (row_get (d := e) (n := a) rfl (by omega)) ?_))
        refine And.intro (by omega) (And.intro (by omega) (X1 _ (row_get2 (d := e) (y := e[a + k]!) (m := a) (n := a + k) rfl rfl (by omega)) ?_))
        refine And.intro rfl ?_
        have hs := sift_ct g cm hc (swp e a (a + k)) 0 k a 0 (((k + 1 : Nat) : Int) - 1) rfl (by omega) (by rw [swp_size]; omega) (by omega) (by rw [swp_size]; omega)
        rw [dA, swp_size, i2, dO, ← row_swp (i := (a : Int)) (j := ((a + k : Nat) : Int)) rfl rfl] at hs
        refine X2 (.upd 1000000) ?_
        refine ⟨_, _, hs, ?_⟩
        refine X1 ((k : Int) - 1) (wI (by omega) (by omega) (by omega)) ?_
        rw [heapPop] at i1
        exact ⟨(k, siftDown (lt cm) k a 0 (swp e a (a + k))), ⟨i1, by rw [sift_size g cm hc k a _ 0 _ (Nat.le_refl _), swp_size]; exact i2, by omega⟩, by show k < k + 1; omega, ⟨rfl, rfl, rfl, rfl, rfl, trivial⟩, ⟨rfl, trivial⟩⟩
    · have hk : k = 0 := by omega
      subst hk
      rw [← i1]
      exact ⟨trivial, SubO.of (l := [(1000000, .row _ _)]) ⟨rfl, trivial⟩, trivial⟩
end Go.Proofs.YtpmchgndnhgncaaGreat.Pv.SrtI
namespace Go.Proofs.YtpmchgndnhgncaaGreat.Pv.SrtI
open Go Go.Sort
variable (g : FuncId) (cm : El → El → Int)
def bst (a len m i0 : Nat) (d : Array El) : Nat → UInt64 × Array El
  | 0 => (UInt64.ofNat len, d)
  | t + 1 => breakStep a len m (bst a len m i0 d t) (i0 + t)
theorem bst_size (a len m i0 : Nat) (d : Array El) : ∀ t, (bst a len m i0 d t).2.size = d.size
  | 0 => rfl
  | t + 1 => by rw [bst, breakStep, swp_size]; exact bst_size a len m i0 d t
theorem break_ct (d : Array El) (a b : Nat) (hab : a + 8 ≤ b) (hb : b ≤ d.size) (hd : d.size ≤ 1000000) :
    CtO P 162 [dO d] [dA d, .c (nI .i64 a), .c (nI .i64 b), .c (.fn g [])] [dO (breakPatterns d a b)] [] := by
  have hbits := bits_small (n := b - a) (by omega)
  have hm1 : 1 <<< bitsLen (b - a) = 2 ^ bitsLen (b - a) := Nat.one_shiftLeft _
  have hm2 : 2 ^ bitsLen (b - a) ≤ 2 * (b - a) := by
    rw [blen_bits]
    have h1 := le_blen (n := b - a) (by omega)
    have h2 : blen (b - a) ≠ 0 := fun h => by
      have := lt_blen (b - a); rw [h] at this; omega
    have h3 : 2 ^ blen (b - a) = 2 * 2 ^ (blen (b - a) - 1) := by
      rw [← Nat.pow_succ']; congr 1; omega
    omega
  have hm3 : 0 < 2 ^ bitsLen (b - a) := Nat.two_pow_pos _
  have hbp : breakPatterns d a b = (bst a (b - a) (1 <<< bitsLen (b - a)) (a + (b - a) / 4 * 2 - 1) d 3).2 := by
    simp only [breakPatterns, if_pos (show b - a ≥ 8 by omega)]; rfl
  have hms : ∀ m, m = 1 <<< bitsLen (b - a) → 0 < m ∧ m ≤ 2 * (b - a) := fun m hm => by rw [hm, hm1]; exact ⟨hm3, hm2⟩
  refine Ct.io T_ok T_mix (N := 67) Tryz.func162 rfl rfl rfl rfl ?_
  refine X1 ((b - a : Nat) : Int) (wI (by omega) (by omega) (by omega)) ?_
  refine dcase (fun h8 => ?_) (fun h8 => absurd (show ((b - a : Nat) : Int) ≥ 8 by omega) h8)
  have hlen : (UInt64.ofNat (b - a)).toNat = b - a := by rw [UInt64.toNat_ofNat']; omega
  refine X1 ((UInt64.ofNat (b - a)).toNat : Int) (by rw [hlen]; exact wU rfl (by omega) (by omega)) ?_
  refine X1 _ (pow2_ct (b - a) (by omega)) ?_
  rw [hbp]
  have hms' := hms _ rfl
  generalize 1 <<< bitsLen (b - a) = m at *
  have q4 : ((b - a : Nat) : Int).tdiv 4 = (((b - a) / 4 : Nat) : Int) := quo4 rfl
  refine And.intro (by omega) (X1 _ q4 (And.intro ⟨by omega, by omega⟩ ?_))
  refine X1 (((b - a) / 4 * 2 : Nat) : Int) (wI (by simp) (by omega) (by omega)) ?_
  refine X1 ((a + (b - a) / 4 * 2 : Nat) : Int) (wI (by simp) (by omega) (by omega)) ?_
  refine X1 ((a + (b - a) / 4 * 2 - 1 : Nat) : Int) (wI (by omega) (by omega) (by omega)) ?_
  refine loopB T_ok T_mix (G := Nat) (fun t => t ≤ 3) (fun t => [(0, .c (.ow 1000000 SZ d.size)), (1, .c (nI .i64 a)), (8, .c (nI .i64 (b - a))), (9, .c (.ad 9 0)), (10, .c (nI .u64 m)), (11, .c (nI .i64 (a + (b - a) / 4 * 2 - 1 + t)))]) (fun t => [(9, .var [nI .u64 (bst a (b - a) m (a + (b - a) / 4 * 2 - 1) d t).1.toNat]), (1000000, .row SZ (row (bst a (b - a) m (a + (b - a) / 4 * 2 - 1) d t).2))]) (fun t => 3 - t)
    0 (by omega) ⟨rfl, rfl, rfl, rfl, rfl, rfl, trivial⟩ ⟨rfl, rfl, trivial⟩ (fun t ht => ?_)
  have hs := bst_size a (b - a) m (a + (b - a) / 4 * 2 - 1) d t
  have hst : bst a (b - a) m (a + (b - a) / 4 * 2 - 1) d (t + 1) = breakStep a (b - a) m (bst a (b - a) m (a + (b - a) / 4 * 2 - 1) d t) (a + (b - a) / 4 * 2 - 1 + t) := rfl
  have hend : t = 3 → (bst a (b - a) m (a + (b - a) / 4 * 2 - 1) d t).2 = (bst a (b - a) m (a + (b - a) / 4 * 2 - 1) d 3).2 := fun h => by rw [h]
  generalize hst' : bst a (b - a) m (a + (b - a) / 4 * 2 - 1) d t = st at *
  obtain ⟨r, e⟩ := st
  simp only at hs
  refine And.intro (by omega) (X1 _ q4 (And.intro ⟨by omega, by omega⟩ ?_))
  refine X1 (((b - a) / 4 * 2 : Nat) : Int) (wI (by simp) (by omega) (by omega)) ?_
  refine X1 ((a + (b - a) / 4 * 2 : Nat) : Int) (wI (by simp) (by omega) (by omega)) ?_
  refine X1 ((a + (b - a) / 4 * 2 + 1 : Nat) : Int) (wI (by simp) (by omega) (by omega)) ?_
  refine dcase (fun h5 => ?_) (fun h5 => ?_)
  · refine X2 (.upd 9) ?_
    refine ⟨_, _, next_ct r, ?_⟩
    refine X1 ((m - 1 : Nat) : Int) (wU (by omega) (by omega) (by omega)) ?_
    refine X1 _ (andU (xorNext r) (n := m - 1) (by omega)) ?_
    have hle : (xorNext r).toNat &&& (m - 1) ≤ m - 1 := Nat.and_le_right
    rw [breakStep] at hst
    simp only at hst
    generalize (xorNext r).toNat &&& (m - 1) = o at *
    refine X1 ((o : Nat) : Int) (wI rfl (by omega) (by omega)) ?_
    refine dcase (fun h6 => ?_) (fun h6 => ?_)
    · rw [if_pos (by omega)] at hst
      refine X1 ((o - (b - a) : Nat) : Int) (wI (by omega) (by omega) (by omega)) ?_
      refine X1 ((a + (o - (b - a)) : Nat) : Int) (wI (by omega) (by omega) (by omega)) ?_
      refine X1 ((a + (o - (b - a)) : Nat) : Int) (wI (by omega) (by omega) (by omega)) ?_
      refine And.intro (by omega) (And.intro (by omega) (X1 _ (row_get (d := e) (n := a + (o - (b - a))) rfl (by omega)) ?_))
      refine And.intro (by omega) (And.intro (by omega) (X1 _ (row_get (d := e) (n := a + (b - a) / 4 * 2 - 1 + t) rfl (by omega)) ?_))
      refine And.intro (by omega) (And.intro (by omega) (X1 _ (row_get (d := e) (n := a + (b - a) / 4 * 2 - 1 + t) rfl (by omega)) ?_))
      refine And.intro (by omega) (And.intro (by omega) (X1 _ (row_get2 (d := e) (y := e[a + (o - (b - a))]!) (m := a + (b - a) / 4 * 2 - 1 + t) (n := a + (o - (b - a))) rfl rfl (by omega)) ?_))
      refine And.intro rfl ?_
      refine X1 ((a + (b - a) / 4 * 2 - 1 + (t + 1) : Nat) : Int) (wI (by omega) (by omega) (by omega)) ?_
      exact ⟨t + 1, by omega, by show 3 - (t + 1) < 3 - t; omega, ⟨rfl, rfl, rfl, rfl, rfl, rfl, trivial⟩, ⟨by rw [hst]; rfl, rowE (by rw [hst]; exact row_swp (m := a + (b - a) / 4 * 2 - 1 + t) (n := a + (o - (b - a))) rfl rfl), trivial⟩⟩
    · rw [if_neg (by omega)] at hst
      refine X1 ((a + o : Nat) : Int) (wI (by omega) (by omega) (by omega)) ?_
      refine X1 ((a + o : Nat) : Int) (wI (by omega) (by omega) (by omega)) ?_
      refine And.intro (by omega) (And.intro (by omega) (X1 _ (row_get (d := e) (n := a + o) rfl (by omega)) ?_))
      refine And.intro (by omega) (And.intro (by omega) (X1 _ (row_get (d := e) (n := a + (b - a) / 4 * 2 - 1 + t) rfl (by omega)) ?_))
      refine And.intro (by omega) (And.intro (by omega) (X1 _ (row_get (d := e) (n := a + (b - a) / 4 * 2 - 1 + t) rfl (by omega)) ?_))
      refine And.intro (by omega) (And.intro (by omega) (X1 _ (row_get2 (d := e) (y := e[a + o]!) (m := a + (b - a) / 4 * 2 - 1 + t) (n := a + o) rfl rfl (by omega)) ?_))
      refine And.intro rfl ?_
      refine X1 ((a + (b - a) / 4 * 2 - 1 + (t + 1) : Nat) : Int) (wI (by omega) (by omega) (by omega)) ?_
      exact ⟨t + 1, by omega, by show 3 - (t + 1) < 3 - t; omega, ⟨rfl, rfl, rfl, rfl, rfl, rfl, trivial⟩, ⟨by rw [hst]; rfl, rowE (by rw [hst]; exact row_swp (m := a + (b - a) / 4 * 2 - 1 + t) (n := a + o) rfl rfl), trivial⟩⟩
  · rw [← hend (by omega)]
    exact ⟨trivial, SubO.of (l := [(1000000, .row _ _)]) ⟨rfl, trivial⟩, trivial⟩
section
variable {cm : El → El → Int} {a b i j : Nat} {e : Array El}
theorem scanS_a (h : ¬ i < b) : scanSorted (lt cm) e b i = i := by rw [scanSorted, if_neg (by simp; omega)]
theorem scanS_b (h : cm e[i]! e[i - 1]! < 0) : scanSorted (lt cm) e b i = i := by rw [scanSorted, if_neg (by simp [lt, h])]
theorem scanS_c (h : i < b) (h2 : ¬ cm e[i]! e[i - 1]! < 0) : scanSorted (lt cm) e b i = scanSorted (lt cm) e b (i + 1) := by rw [scanSorted, if_pos (by simp [lt]; omega)]
theorem shD_a (h : j < 1) : shiftDown (lt cm) j e = e := by
  have : j = 0 := by omega
  subst this; rfl
theorem shD_b (h : ¬ cm e[j]! e[j - 1]! < 0) : shiftDown (lt cm) j e = e := by
  cases j with
  | zero => rfl
  | succ j => simp only [Nat.add_sub_cancel] at h; rw [shiftDown, if_pos (by simp [lt]; omega)]
theorem shD_c (h0 : 1 ≤ j) (h : cm e[j]! e[j - 1]! < 0) : shiftDown (lt cm) j e = shiftDown (lt cm) (j - 1) (swp e j (j - 1)) := by
  cases j with
  | zero => omega
  | succ j => simp only [Nat.add_sub_cancel] at h ⊢; rw [shiftDown, if_neg (by simp [lt, h])]
theorem shU_a (h : ¬ j < b) : shiftUp (lt cm) b j e = e := by rw [shiftUp, if_neg h]
theorem shU_b (h0 : j < b) (h : ¬ cm e[j]! e[j - 1]! < 0) : shiftUp (lt cm) b j e = e := by rw [shiftUp, if_pos h0, if_pos (by simp [lt]; omega)]
theorem shU_c (h0 : j < b) (h : cm e[j]! e[j - 1]! < 0) : shiftUp (lt cm) b j e = shiftUp (lt cm) b (j + 1) (swp e j (j - 1)) := by rw [shiftUp, if_pos h0, if_neg (by simp [lt, h])]
end
variable (hc : ∀ x y, Ct P g [VL x, VL y] [.c (eI .i64 (cm x y))])
include hc
theorem pIns_ct (d : Array El) (a b : Nat) (hab : a < b) (hb : b ≤ d.size) (hd : d.size ≤ 1000000) :
    CtO P 165 [dO d] [dA d, .c (nI .i64 a), .c (nI .i64 b), .c (.fn g [])] [dO (partialInsertionSort (lt cm) d a b).1] [.c (.sc (.bool (partialInsertionSort (lt cm) d a b).2))] := by
  have key : ∀ F : Array El × Bool, partialIns (lt cm) a b 5 (a + 1) d = F → CtO P 165 [dO d] [dA d, .c (nI .i64 a), .c (nI .i64 b), .c (.fn g [])] [dO F.1] [.c (.sc (.bool F.2))] := by
    intro F hF
    refine Ct.io T_ok T_mix (N := 141) Tryz.func165 rfl rfl rfl rfl ?_
    refine X1 ((a + 1 : Nat) : Int) (wI (by simp) (by omega) (by omega)) ?_
    refine loopJ T_ok T_mix (G := Nat × Nat × Array El) (fun (s, i, e) => s ≤ 5 ∧ partialIns (lt cm) a b (5 - s) i e = F ∧ e.size = d.size ∧ a + 1 ≤ i ∧ i ≤ b) (fun (s, i, _) => [(0, .c (.ow 1000000 SZ d.size)), (1, .c (nI .i64 a)), (2, .c (nI .i64 b)), (3, .c (.fn g [])), (9, .c (nI .i64 i)), (10, .c (nI .i64 s))]) (fun (_, _, e) => [(1000000, .row SZ (row e))]) (fun (s, _, _) => 5 - s)
      (0, a + 1, d) ⟨by omega, hF, rfl, by omega, by omega⟩ ⟨rfl, rfl, rfl, rfl, rfl, rfl, trivial⟩ ⟨rfl, trivial⟩ (G2 := Array El) (fun e => F = (e, false)) (fun _ => []) (fun e => [(1000000, .row SZ (row e))]) (fun (s, i, e0) hi => ?_) (fun e he => ?_)
    · obtain ⟨i1, i2, i3, i4, i5⟩ := hi
      refine dcase (fun h5 => ?_) (fun h5 => ?_)
      · rw [show 5 - s = (4 - s) + 1 by omega, partialIns] at i2
        refine loopJ T_ok T_mix (G := Nat) (fun j => scanSorted (lt cm) e0 b j = scanSorted (lt cm) e0 b i ∧ i ≤ j ∧ j ≤ b) (fun j => [(0, .c (.ow 1000000 SZ d.size)), (1, .c (nI .i64 a)), (2, .c (nI .i64 b)), (3, .c (.fn g [])), (9, .c (nI .i64 j)), (10, .c (nI .i64 s))]) (fun _ => [(1000000, .row SZ (row e0))]) (fun j => b - j)
          i ⟨rfl, by omega, by omega⟩ ⟨rfl, rfl, rfl, rfl, rfl, rfl, trivial⟩ ⟨rfl, trivial⟩ (G2 := Nat) (fun j => scanSorted (lt cm) e0 b i = j ∧ i ≤ j ∧ j ≤ b) (fun j => [(0, .c (.ow 1000000 SZ d.size)), (1, .c (nI .i64 a)), (2, .c (nI .i64 b)), (3, .c (.fn g [])), (9, .c (nI .i64 j)), (10, .c (nI .i64 s))]) (fun _ => [(1000000, .row SZ (row e0))]) (fun j hj => ?_) (fun k hk => ?_)
        · obtain ⟨j1, j2, j3⟩ := hj
          refine dcase (fun h6 => ?_) (fun h6 => ?_)
          · refine And.intro (by omega) (And.intro (by omega) (X1 _ (row_get (n := j) rfl (by omega)) ?_))
            refine X1 ((j - 1 : Nat) : Int) (wI (by omega) (by omega) (by omega)) ?_
            refine And.intro (by omega) (And.intro (by omega) (X1 _ (row_get (n := j - 1) rfl (by omega)) ?_))
            refine X1 _ (hc _ _) ?_
            refine And.intro rfl ?_
            refine bcase (fun h7 => ?_) (fun h7 => ?_)
            · have h7' : ¬ cm e0[j]! e0[j - 1]! < 0 := by simpa using h7
              rw [scanS_c (by omega) h7'] at j1
              refine X1 ((j + 1 : Nat) : Int) (wI (by simp) (by omega) (by omega)) ?_
              exact ⟨j + 1, ⟨j1, by omega, by omega⟩, by omega, ⟨rfl, rfl, rfl, rfl, rfl, rfl, trivial⟩, ⟨rfl, trivial⟩⟩
            · have h7' : cm e0[j]! e0[j - 1]! < 0 := by simpa using h7
              rw [scanS_b h7'] at j1
              exact ⟨j, ⟨j1.symm, j2, j3⟩, ⟨rfl, rfl, rfl, rfl, rfl, rfl, trivial⟩, ⟨rfl, trivial⟩⟩
          · refine And.intro rfl ?_
            rw [scanS_a (by omega)] at j1
            exact ⟨j, ⟨j1.symm, j2, j3⟩, ⟨rfl, rfl, rfl, rfl, rfl, rfl, trivial⟩, ⟨rfl, trivial⟩⟩
        · obtain ⟨k1, k2, k3⟩ := hk
          simp only [k1] at i2
          refine ecase (fun h6 => ?_) (fun h6 => ?_)
          · rw [if_pos (by omega)] at i2
            rw [← i2]
            exact ⟨trivial, SubO.of (l := [(1000000, .row _ _)]) ⟨rfl, trivial⟩, r1 rfl, trivial⟩
          · rw [if_neg (by omega)] at i2
            refine X1 ((b - a : Nat) : Int) (wI (by omega) (by omega) (by omega)) ?_
            refine dcase (fun h7 => ?_) (fun h7 => ?_)
            · rw [if_pos (by omega)] at i2
              rw [← i2]
              exact ⟨trivial, SubO.of (l := [(1000000, .row _ _)]) ⟨rfl, trivial⟩, r1 rfl, trivial⟩
            · rw [if_neg (by omega)] at i2
              refine X1 ((k - 1 : Nat) : Int) (wI (by omega) (by omega) (by omega)) ?_
              refine X1 ((k - 1 : Nat) : Int) (wI (by omega) (by omega) (by omega)) ?_
              refine And.intro (by omega) (And.intro (by omega) (X1 _ (row_get (d := e0) (n := k - 1) rfl (by omega)) ?_))
              refine And.intro (by omega) (And.intro (by omega) (X1 _ (row_get (d := e0) (n := k) rfl (by omega)) ?_))
              refine And.intro (by omega) (And.intro (by omega) (X1 _ (row_get (d := e0) (n := k) rfl (by omega)) ?_))
              refine And.intro (by omega) (And.intro (by omega) (X1 _ (row_get2 (d := e0) (y := e0[k - 1]!) (m := k) (n := k - 1) rfl rfl (by omega)) ?_))
              refine And.intro rfl ?_
              have hrow := row_swp (d := e0) (i := (k : Int)) (j := ((k - 1 : Nat) : Int)) (m := k) (n := k - 1) rfl rfl
              have hsz : (swp e0 k (k - 1)).size = d.size := by rw [swp_size]; exact i3
              generalize swp e0 k (k - 1) = e1 at *
              refine X1 ((k - a : Nat) : Int) (wI (by omega) (by omega) (by omega)) ?_
              refine dcase (fun h8 => ?_) (fun h8 => ?_)
              · rw [if_pos (show k - a ≥ 2 by omega)] at i2
                refine X1 ((k - 1 : Nat) : Int) (wI (by omega) (by omega) (by omega)) ?_
                refine loopB T_ok T_mix (G := Nat × Array El) (fun (j, e) => shiftDown (lt cm) j e = shiftDown (lt cm) (k - 1) e1 ∧ e.size = d.size ∧ j ≤ k - 1) (fun (j, _) => [(0, .c (.ow 1000000 SZ d.size)), (1, .c (nI .i64 a)), (2, .c (nI .i64 b)), (3, .c (.fn g [])), (9, .c (nI .i64 k)), (10, .c (nI .i64 s)), (11, .c (nI .i64 j))]) (fun (_, e) => [(1000000, .row SZ (row e))]) (fun (j, _) => j)
                  (k - 1, e1) ⟨rfl, hsz, by omega⟩ ⟨rfl, rfl, rfl, rfl, rfl, rfl, rfl, trivial⟩ ⟨rowE hrow, trivial⟩ (fun (j, e) hj => ?_)
                obtain ⟨j1, j2, j3⟩ := hj
                refine dcase (fun h9 => ?_) (fun h9 => ?_)
                · refine And.intro (by omega) (And.intro (by omega) (X1 _ (row_get (n := j) rfl (by omega)) ?_))
                  refine X1 ((j - 1 : Nat) : Int) (wI (by omega) (by omega) (by omega)) ?_
                  refine And.intro (by omega) (And.intro (by omega) (X1 _ (row_get (n := j - 1) rfl (by omega)) ?_))
                  refine X1 _ (hc _ _) ?_
                  refine And.intro rfl ?_
                  refine bcase (fun ha => ?_) (fun ha => ?_)
                  · have ha' : ¬ cm e[j]! e[j - 1]! < 0 := by simpa using ha
                    rw [shD_b ha'] at j1
                    rw [← j1] at i2
                    refine X1 ((b - k : Nat) : Int) (wI (by omega) (by omega) (by omega)) ?_
                    refine dcase (fun hb8 => ?_) (fun hb8 => ?_)
                    · rw [if_pos (show b - k ≥ 2 by omega)] at i2
                      refine X1 ((k + 1 : Nat) : Int) (wI (by simp) (by omega) (by omega)) ?_
                      refine loopB T_ok T_mix (G := Nat × Array El) (fun (j, e') => shiftUp (lt cm) b j e' = shiftUp (lt cm) b (k + 1) e ∧ e'.size = d.size ∧ k + 1 ≤ j ∧ j ≤ b) (fun (j, _) => [(0, .c (.ow 1000000 SZ d.size)), (1, .c (nI .i64 a)), (2, .c (nI .i64 b)), (3, .c (.fn g [])), (9, .c (nI .i64 k)), (10, .c (nI .i64 s)), (12, .c (nI .i64 j))]) (fun (_, e') => [(1000000, .row SZ (row e'))]) (fun (j, _) => b - j)
                        (k + 1, e) ⟨rfl, j2, by omega, by omega⟩ ⟨rfl, rfl, rfl, rfl, rfl, rfl, rfl, trivial⟩ ⟨rfl, trivial⟩ (fun (q, e') hq => ?_)
                      obtain ⟨q1, q2, q3, q4⟩ := hq
                      have fin : ∀ e2 : Array El, shiftUp (lt cm) b (k + 1) e = e2 → e2.size = d.size → s + 1 ≤ 5 ∧ partialIns (lt cm) a b (5 - (s + 1)) k e2 = F ∧ e2.size = d.size ∧ a + 1 ≤ k ∧ k ≤ b := fun e2 g1 g2 => ⟨by omega, by rw [← g1, show 5 - (s + 1) = 4 - s by omega]; exact i2, g2, by omega, by omega⟩
                      refine dcase (fun hb9 => ?_) (fun hb9 => ?_)
                      · refine And.intro (by omega) (And.intro (by omega) (X1 _ (row_get (n := q) rfl (by omega)) ?_))
                        refine X1 ((q - 1 : Nat) : Int) (wI (by omega) (by omega) (by omega)) ?_
                        refine And.intro (by omega) (And.intro (by omega) (X1 _ (row_get (n := q - 1) rfl (by omega)) ?_))
                        refine X1 _ (hc _ _) ?_
                        refine And.intro rfl ?_
                        refine bcase (fun hba => ?_) (fun hba => ?_)
                        · have hba' : ¬ cm e'[q]! e'[q - 1]! < 0 := by simpa using hba
                          rw [shU_b (by omega) hba'] at q1
                          refine X1 ((s + 1 : Nat) : Int) (wI (by simp) (by omega) (by omega)) ?_
                          exact ⟨(s + 1, k, e'), fin e' q1.symm q2, by show 5 - (s + 1) < 5 - s; omega, ⟨rfl, rfl, rfl, rfl, rfl, rfl, trivial⟩, ⟨rfl, trivial⟩⟩
                        · have hba' : cm e'[q]! e'[q - 1]! < 0 := by simpa using hba
                          rw [shU_c (by omega) hba'] at q1
                          refine X1 ((q - 1 : Nat) : Int) (wI (by omega) (by omega) (by omega)) ?_
                          refine X1 ((q - 1 : Nat) : Int) (wI (by omega) (by omega) (by omega)) ?_
                          refine And.intro (by omega) (And.intro (by omega) (X1 _ (row_get (d := e') (n := q - 1) rfl (by omega)) ?_))
                          refine And.intro (by omega) (And.intro (by omega) (X1 _ (row_get (d := e') (n := q) rfl (by omega)) ?_))
                          refine And.intro (by omega) (And.intro (by omega) (X1 _ (row_get (d := e') (n := q) rfl (by omega)) ?_))
                          refine And.intro (by omega) (And.intro (by omega) (X1 _ (row_get2 (d := e') (y := e'[q - 1]!) (m := q) (n := q - 1) rfl rfl (by omega)) ?_))
                          refine And.intro rfl ?_
                          refine X1 ((q + 1 : Nat) : Int) (wI (by simp) (by omega) (by omega)) ?_
                          exact ⟨(q + 1, swp e' q (q - 1)), ⟨q1, by rw [swp_size]; exact q2, by omega, by omega⟩, by show b - (q + 1) < b - q; omega, ⟨rfl, rfl, rfl, rfl, rfl, rfl, rfl, trivial⟩, ⟨rowE (row_swp (m := q) (n := q - 1) rfl rfl), trivial⟩⟩
                      · rw [shU_a (by omega)] at q1
                        refine X1 ((s + 1 : Nat) : Int) (wI (by simp) (by omega) (by omega)) ?_
                        exact ⟨(s + 1, k, e'), fin e' q1.symm q2, by show 5 - (s + 1) < 5 - s; omega, ⟨rfl, rfl, rfl, rfl, rfl, rfl, trivial⟩, ⟨rfl, trivial⟩⟩
                    · rw [if_neg (show ¬ b - k ≥ 2 by omega)] at i2
                      refine X1 ((s + 1 : Nat) : Int) (wI (by simp) (by omega) (by omega)) ?_
                      exact ⟨(s + 1, k, e), ⟨by omega, by rw [show 5 - (s + 1) = 4 - s by omega]; exact i2, j2, by omega, by omega⟩, by show 5 - (s + 1) < 5 - s; omega, ⟨rfl, rfl, rfl, rfl, rfl, rfl, trivial⟩, ⟨rfl, trivial⟩⟩
                  · have ha' : cm e[j]! e[j - 1]! < 0 := by simpa using ha
                    rw [shD_c (by omega) ha'] at j1
                    refine X1 ((j - 1 : Nat) : Int) (wI (by omega) (by omega) (by omega)) ?_
                    refine X1 ((j - 1 : Nat) : Int) (wI (by omega) (by omega) (by omega)) ?_
                    refine And.intro (by omega) (And.intro (by omega) (X1 _ (row_get (d := e) (n := j - 1) rfl (by omega)) ?_))
                    refine And.intro (by omega) (And.intro (by omega) (X1 _ (row_get (d := e) (n := j) rfl (by omega)) ?_))
                    refine And.intro (by omega) (And.intro (by omega) (X1 _ (row_get (d := e) (n := j) rfl (by omega)) ?_))
                    refine And.intro (by omega) (And.intro (by omega) (X1 _ (row_get2 (d := e) (y := e[j - 1]!) (m := j) (n := j - 1) rfl rfl (by omega)) ?_))
                    refine And.intro rfl ?_
                    refine X1 ((j - 1 : Nat) : Int) (wI (by omega) (by omega) (by omega)) ?_
                    exact ⟨(j - 1, swp e j (j - 1)), ⟨j1, by rw [swp_size]; exact j2, by omega⟩, by show j - 1 < j; omega, ⟨rfl, rfl, rfl, rfl, rfl, rfl, rfl, trivial⟩, ⟨rowE (row_swp (m := j) (n := j - 1) rfl rfl), trivial⟩⟩
                · rw [shD_a (by omega)] at j1
                  rw [← j1] at i2
                  refine X1 ((b - k : Nat) : Int) (wI (by omega) (by omega) (by omega)) ?_
                  refine dcase (fun hb8 => ?_) (fun hb8 => ?_)
                  · rw [if_pos (show b - k ≥ 2 by omega)] at i2
                    refine X1 ((k + 1 : Nat) : Int) (wI (by simp) (by omega) (by omega)) ?_
                    refine loopB T_ok T_mix (G := Nat × Array El) (fun (j, e') => shiftUp (lt cm) b j e' = shiftUp (lt cm) b (k + 1) e ∧ e'.size = d.size ∧ k + 1 ≤ j ∧ j ≤ b) (fun (j, _) => [(0, .c (.ow 1000000 SZ d.size)), (1, .c (nI .i64 a)), (2, .c (nI .i64 b)), (3, .c (.fn g [])), (9, .c (nI .i64 k)), (10, .c (nI .i64 s)), (12, .c (nI .i64 j))]) (fun (_, e') => [(1000000, .row SZ (row e'))]) (fun (j, _) => b - j)
                      (k + 1, e) ⟨rfl, j2, by omega, by omega⟩ ⟨rfl, rfl, rfl, rfl, rfl, rfl, rfl, trivial⟩ ⟨rfl, trivial⟩ (fun (q, e') hq => ?_)
                    obtain ⟨q1, q2, q3, q4⟩ := hq
                    have fin : ∀ e2 : Array El, shiftUp (lt cm) b (k + 1) e = e2 → e2.size = d.size → s + 1 ≤ 5 ∧ partialIns (lt cm) a b (5 - (s + 1)) k e2 = F ∧ e2.size = d.size ∧ a + 1 ≤ k ∧ k ≤ b := fun e2 g1 g2 => ⟨by omega, by rw [← g1, show 5 - (s + 1) = 4 - s by omega]; exact i2, g2, by omega, by omega⟩
                    refine dcase (fun hb9 => ?_) (fun hb9 => ?_)
                    · refine And.intro (by omega) (And.intro (by omega) (X1 _ (row_get (n := q) rfl (by omega)) ?_))
                      refine X1 ((q - 1 : Nat) : Int) (wI (by omega) (by omega) (by omega)) ?_
                      refine And.intro (by omega) (And.intro (by omega) (X1 _ (row_get (n := q - 1) rfl (by omega)) ?_))
                      refine X1 _ (hc _ _) ?_
                      refine And.intro rfl ?_
                      refine bcase (fun hba => ?_) (fun hba => ?_)
                      · have hba' : ¬ cm e'[q]! e'[q - 1]! < 0 := by simpa using hba
                        rw [shU_b (by omega) hba'] at q1
                        refine X1 ((s + 1 : Nat) : Int) (wI (by simp) (by omega) (by omega)) ?_
                        exact ⟨(s + 1, k, e'), fin e' q1.symm q2, by show 5 - (s + 1) < 5 - s; omega, ⟨rfl, rfl, rfl, rfl, rfl, rfl, trivial⟩, ⟨rfl, trivial⟩⟩
                      · have hba' : cm e'[q]! e'[q - 1]! < 0 := by simpa using hba
                        rw [shU_c (by omega) hba'] at q1
                        refine X1 ((q - 1 : Nat) : Int) (wI (by omega) (by omega) (by omega)) ?_
                        refine X1 ((q - 1 : Nat) : Int) (wI (by omega) (by omega) (by omega)) ?_
                        refine And.intro (by omega) (And.intro (by omega) (X1 _ (row_get (d := e') (n := q - 1) rfl (by omega)) ?_))
                        refine And.intro (by omega) (And.intro (by omega) (X1 _ (row_get (d := e') (n := q) rfl (by omega)) ?_))
                        refine And.intro (by omega) (And.intro (by omega) (X1 _ (row_get (d := e') (n := q) rfl (by omega)) ?_))
                        refine And.intro (by omega) (And.intro (by omega) (X1 _ (row_get2 (d := e') (y := e'[q - 1]!) (m := q) (n := q - 1) rfl rfl (by omega)) ?_))
                        refine And.intro rfl ?_
                        refine X1 ((q + 1 : Nat) : Int) (wI (by simp) (by omega) (by omega)) ?_
                        exact ⟨(q + 1, swp e' q (q - 1)), ⟨q1, by rw [swp_size]; exact q2, by omega, by omega⟩, by show b - (q + 1) < b - q; omega, ⟨rfl, rfl, rfl, rfl, rfl, rfl, rfl, trivial⟩, ⟨rowE (row_swp (m := q) (n := q - 1) rfl rfl), trivial⟩⟩
                    · rw [shU_a (by omega)] at q1
                      refine X1 ((s + 1 : Nat) : Int) (wI (by simp) (by omega) (by omega)) ?_
                      exact ⟨(s + 1, k, e'), fin e' q1.symm q2, by show 5 - (s + 1) < 5 - s; omega, ⟨rfl, rfl, rfl, rfl, rfl, rfl, trivial⟩, ⟨rfl, trivial⟩⟩
                  · rw [if_neg (show ¬ b - k ≥ 2 by omega)] at i2
                    refine X1 ((s + 1 : Nat) : Int) (wI (by simp) (by omega) (by omega)) ?_
                    exact ⟨(s + 1, k, e), ⟨by omega, by rw [show 5 - (s + 1) = 4 - s by omega]; exact i2, j2, by omega, by omega⟩, by show 5 - (s + 1) < 5 - s; omega, ⟨rfl, rfl, rfl, rfl, rfl, rfl, trivial⟩, ⟨rfl, trivial⟩⟩
              · rw [if_neg (show ¬ k - a ≥ 2 by omega)] at i2
                refine X1 ((b - k : Nat) : Int) (wI (by omega) (by omega) (by omega)) ?_
                refine dcase (fun hb8 => ?_) (fun hb8 => ?_)
                · rw [if_pos (show b - k ≥ 2 by omega)] at i2
                  refine X1 ((k + 1 : Nat) : Int) (wI (by simp) (by omega) (by omega)) ?_
                  refine loopB T_ok T_mix (G := Nat × Array El) (fun (j, e') => shiftUp (lt cm) b j e' = shiftUp (lt cm) b (k + 1) e1 ∧ e'.size = d.size ∧ k + 1 ≤ j ∧ j ≤ b) (fun (j, _) => [(0, .c (.ow 1000000 SZ d.size)), (1, .c (nI .i64 a)), (2, .c (nI .i64 b)), (3, .c (.fn g [])), (9, .c (nI .i64 k)), (10, .c (nI .i64 s)), (12, .c (nI .i64 j))]) (fun (_, e') => [(1000000, .row SZ (row e'))]) (fun (j, _) => b - j)
                    (k + 1, e1) ⟨rfl, hsz, by omega, by omega⟩ ⟨rfl, rfl, rfl, rfl, rfl, rfl, rfl, trivial⟩ ⟨rowE hrow, trivial⟩ (fun (q, e') hq => ?_)
                  obtain ⟨q1, q2, q3, q4⟩ := hq
                  have fin : ∀ e2 : Array El, shiftUp (lt cm) b (k + 1) e1 = e2 → e2.size = d.size → s + 1 ≤ 5 ∧ partialIns (lt cm) a b (5 - (s + 1)) k e2 = F ∧ e2.size = d.size ∧ a + 1 ≤ k ∧ k ≤ b := fun e2 g1 g2 => ⟨by omega, by rw [← g1, show 5 - (s + 1) = 4 - s by omega]; exact i2, g2, by omega, by omega⟩
                  refine dcase (fun hb9 => ?_) (fun hb9 => ?_)
                  · refine And.intro (by omega) (And.intro (by omega) (X1 _ (row_get (n := q) rfl (by omega)) ?_))
                    refine X1 ((q - 1 : Nat) : Int) (wI (by omega) (by omega) (by omega)) ?_
                    refine And.intro (by omega) (And.intro (by omega) (X1 _ (row_get (n := q - 1) rfl (by omega)) ?_))
                    refine X1 _ (hc _ _) ?_
                    refine And.intro rfl ?_
                    refine bcase (fun hba => ?_) (fun hba => ?_)
                    · have hba' : ¬ cm e'[q]! e'[q - 1]! < 0 := by simpa using hba
                      rw [shU_b (by omega) hba'] at q1
                      refine X1 ((s + 1 : Nat) : Int) (wI (by simp) (by omega) (by omega)) ?_
                      exact ⟨(s + 1, k, e'), fin e' q1.symm q2, by show 5 - (s + 1) < 5 - s; omega, ⟨rfl, rfl, rfl, rfl, rfl, rfl, trivial⟩, ⟨rfl, trivial⟩⟩
                    · have hba' : cm e'[q]! e'[q - 1]! < 0 := by simpa using hba
                      rw [shU_c (by omega) hba'] at q1
                      refine X1 ((q - 1 : Nat) : Int) (wI (by omega) (by omega) (by omega)) ?_
                      refine X1 ((q - 1 : Nat) : Int) (wI (by omega) (by omega) (by omega)) ?_
                      refine And.intro (by omega) (And.intro (by omega) (X1 _ (row_get (d := e') (n := q - 1) rfl (by omega)) ?_))
                      refine And.intro (by omega) (And.intro (by omega) (X1 _ (row_get (d := e') (n := q) rfl (by omega)) ?_))
                      refine And.intro (by omega) (And.intro (by omega) (X1 _ (row_get (d := e') (n := q) rfl (by omega)) ?_))
                      refine And.intro (by omega) (And.intro (by omega) (X1 _ (row_get2 (d := e') (y := e'[q - 1]!) (m := q) (n := q - 1) rfl rfl (by omega)) ?_))
                      refine And.intro rfl ?_
                      refine X1 ((q + 1 : Nat) : Int) (wI (by simp) (by omega) (by omega)) ?_
                      exact ⟨(q + 1, swp e' q (q - 1)), ⟨q1, by rw [swp_size]; exact q2, by omega, by omega⟩, by show b - (q + 1) < b - q; omega, ⟨rfl, rfl, rfl, rfl, rfl, rfl, rfl, trivial⟩, ⟨rowE (row_swp (m := q) (n := q - 1) rfl rfl), trivial⟩⟩
                  · rw [shU_a (by omega)] at q1
                    refine X1 ((s + 1 : Nat) : Int) (wI (by simp) (by omega) (by omega)) ?_
                    exact ⟨(s + 1, k, e'), fin e' q1.symm q2, by show 5 - (s + 1) < 5 - s; omega, ⟨rfl, rfl, rfl, rfl, rfl, rfl, trivial⟩, ⟨rfl, trivial⟩⟩
                · rw [if_neg (show ¬ b - k ≥ 2 by omega)] at i2
                  refine X1 ((s + 1 : Nat) : Int) (wI (by simp) (by omega) (by omega)) ?_
                  exact ⟨(s + 1, k, e1), ⟨by omega, by rw [show 5 - (s + 1) = 4 - s by omega]; exact i2, hsz, by omega, by omega⟩, by show 5 - (s + 1) < 5 - s; omega, ⟨rfl, rfl, rfl, rfl, rfl, rfl, trivial⟩, ⟨rowE hrow, trivial⟩⟩
      · rw [show 5 - s = 0 by omega, partialIns] at i2
        exact ⟨e0, i2.symm, trivial, ⟨rfl, trivial⟩⟩
    · rw [he]
      exact ⟨trivial, SubO.of (l := [(1000000, .row _ _)]) ⟨rfl, trivial⟩, r1 rfl, trivial⟩
  exact key _ rfl
end Go.Proofs.YtpmchgndnhgncaaGreat.Pv.SrtI
namespace Go.Proofs.YtpmchgndnhgncaaGreat.Pv.SrtI
open Go Go.Sort
section
variable {p : El → Bool} {e : Array El} {i j : Nat}
theorem sUp_a (h : ¬ i ≤ j) : scanUp p e j i = i := by rw [scanUp, if_neg (by simp; omega)]
theorem sUp_b (h : p e[i]! = false) : scanUp p e j i = i := by rw [scanUp, if_neg (by simp [h])]
theorem sUp_c (h : i ≤ j) (h2 : p e[i]! = true) : scanUp p e j i = scanUp p e j (i + 1) := by rw [scanUp, if_pos (by simp [h2]; omega)]
theorem sDn_a (h : ¬ i ≤ j) : scanDown p e i j = j := by
  cases j with
  | zero => rfl
  | succ j => rw [scanDown, if_neg (by simp; omega)]
theorem sDn_b (h : p e[j]! = false) : scanDown p e i j = j := by
  cases j with
  | zero => rfl
  | succ j => rw [scanDown, if_neg (by simp [h])]
theorem sDn_c (h0 : 1 ≤ j) (h : i ≤ j) (h2 : p e[j]! = true) : scanDown p e i j = scanDown p e i (j - 1) := by
  cases j with
  | zero => omega
  | succ j => rw [scanDown, if_pos (by simp [h2]; omega)]; rfl
end
variable {cm : El → El → Int}
theorem pEqL {a i j i2 j2 : Nat} {e : Array El} (hi2 : scanUp (fun x => !lt cm e[a]! x) e j i = i2) (hj2 : scanDown (fun x => lt cm e[a]! x) e i2 j = j2) : partEqLoop (lt cm) a i j e = if i2 > j2 then (i2, e) else if _h : (j2 - 1) + 1 - (i2 + 1) < j + 1 - i then partEqLoop (lt cm) a (i2 + 1) (j2 - 1) (swp e i2 j2) else (i2, e) := by
  subst hi2 hj2
  rw [partEqLoop]
theorem pL {a i j i2 j2 : Nat} {e : Array El} (hi2 : scanUp (fun x => lt cm x e[a]!) e j i = i2) (hj2 : scanDown (fun x => !lt cm x e[a]!) e i2 j = j2) : partLoop (lt cm) a i j e = if i2 > j2 then (j2, e) else if _h : (j2 - 1) + 1 - (i2 + 1) < j + 1 - i then partLoop (lt cm) a (i2 + 1) (j2 - 1) (swp e i2 j2) else (j2, e) := by
  subst hi2 hj2
  rw [partLoop]
variable (g : FuncId) (cm)
variable (hc : ∀ x y, Ct P g [VL x, VL y] [.c (eI .i64 (cm x y))])
include hc
theorem pEq_ct (d : Array El) (a b p : Nat) (hab : a < b) (hp : p < d.size) (hb : b ≤ d.size) (hd : d.size ≤ 1000000) :
    CtO P 166 [dO d] [dA d, .c (nI .i64 a), .c (nI .i64 b), .c (nI .i64 p), .c (.fn g [])] [dO (partitionEqual (lt cm) d a b p).2] [.c (nI .i64 (partitionEqual (lt cm) d a b p).1)] := by
  have key : ∀ F : Nat × Array El, partEqLoop (lt cm) a (a + 1) (b - 1) (swp d a p) = F → CtO P 166 [dO d] [dA d, .c (nI .i64 a), .c (nI .i64 b), .c (nI .i64 p), .c (.fn g [])] [dO F.2] [.c (nI .i64 F.1)] := by
    intro F hF
    refine Ct.io T_ok T_mix (N := 90) Tryz.func166 rfl rfl rfl rfl ?_
    refine And.intro (by omega) (And.intro (by omega) (X1 _ (row_get (d := d) (n := p) rfl (by omega)) ?_))
    refine And.intro (by omega) (And.intro (by omega) (X1 _ (row_get (d := d) (n := a) rfl (by omega)) ?_))
    refine And.intro (by omega) (And.intro (by omega) (X1 _ (row_get (d := d) (n := a) rfl (by omega)) ?_))
    refine And.intro (by omega) (And.intro (by omega) (X1 _ (row_get2 (d := d) (y := d[p]!) (m := a) (n := p) rfl rfl (by omega)) ?_))
    refine And.intro rfl ?_
    refine X1 ((a + 1 : Nat) : Int) (wI (by simp) (by omega) (by omega)) ?_
    refine X1 ((b - 1 : Nat) : Int) (wI (by omega) (by omega) (by omega)) ?_
    refine loopJ T_ok T_mix (G := Nat × Nat × Array El) (fun (i, j, e) => partEqLoop (lt cm) a i j e = F ∧ e.size = d.size ∧ 1 ≤ i ∧ j < d.size ∧ i ≤ j + 2) (fun (i, j, _) => [(0, .c (.ow 1000000 SZ d.size)), (1, .c (nI .i64 a)), (4, .c (.fn g [])), (11, .c (nI .i64 i)), (12, .c (nI .i64 j))]) (fun (_, _, e) => [(1000000, .row SZ (row e))]) (fun (i, j, _) => j + 1 - i)
      (a + 1, b - 1, swp d a p) ⟨hF, swp_size, by omega, by omega, by omega⟩ ⟨rfl, rfl, rfl, rfl, rfl, trivial⟩ ⟨rowE (row_swp (m := a) (n := p) rfl rfl), trivial⟩ (G2 := Nat × Array El) (fun (i, e) => F = (i, e)) (fun (i, _) => [(11, .c (nI .i64 i))]) (fun (_, e) => [(1000000, .row SZ (row e))]) (fun (i, j, e) hi => ?_) (fun (i, e) he => ?_)
    · obtain ⟨i1, i2, i3, i4, i5⟩ := hi
      refine loopJ T_ok T_mix (G := Nat) (fun q => scanUp (fun x => !lt cm e[a]! x) e j q = scanUp (fun x => !lt cm e[a]! x) e j i ∧ i ≤ q ∧ (q ≤ j + 1 ∨ q = i)) (fun q => [(0, .c (.ow 1000000 SZ d.size)), (1, .c (nI .i64 a)), (4, .c (.fn g [])), (11, .c (nI .i64 q)), (12, .c (nI .i64 j))]) (fun _ => [(1000000, .row SZ (row e))]) (fun q => j + 1 - q)
        i ⟨rfl, by omega, by omega⟩ ⟨rfl, rfl, rfl, rfl, rfl, trivial⟩ ⟨rfl, trivial⟩ (G2 := Nat) (fun q => scanUp (fun x => !lt cm e[a]! x) e j i = q ∧ i ≤ q ∧ (q ≤ j + 1 ∨ q = i)) (fun q => [(0, .c (.ow 1000000 SZ d.size)), (1, .c (nI .i64 a)), (4, .c (.fn g [])), (11, .c (nI .i64 q)), (12, .c (nI .i64 j))]) (fun _ => [(1000000, .row SZ (row e))]) (fun q hq => ?_) (fun k hk => ?_)
      · obtain ⟨q1, q2, q3⟩ := hq
        refine dcase (fun h6 => ?_) (fun h6 => ?_)
        · refine And.intro (by omega) (And.intro (by omega) (X1 _ (row_get (d := e) (n := a) rfl (by omega)) ?_))
          refine And.intro (by omega) (And.intro (by omega) (X1 _ (row_get (d := e) (n := q) rfl (by omega)) ?_))
          refine X1 _ (hc _ _) ?_
          refine And.intro rfl ?_
          refine bcase (fun h7 => ?_) (fun h7 => ?_)
          · have h7p : (!lt cm e[a]! e[q]!) = true := h7
            rw [sUp_c (p := (fun x => !lt cm e[a]! x)) (e := e) (i := q) (by omega) h7p] at q1
            refine X1 ((q + 1 : Nat) : Int) (wI (by simp) (by omega) (by omega)) ?_
            exact ⟨q + 1, ⟨q1, by omega, by omega⟩, by show j + 1 - (q + 1) < j + 1 - q; omega, ⟨rfl, rfl, rfl, rfl, rfl, trivial⟩, ⟨rfl, trivial⟩⟩
          · have h7p : (!lt cm e[a]! e[q]!) = false := h7
            rw [sUp_b (p := (fun x => !lt cm e[a]! x)) (e := e) (i := q) h7p] at q1
            exact ⟨q, ⟨q1.symm, q2, q3⟩, ⟨rfl, rfl, rfl, rfl, rfl, trivial⟩, ⟨rfl, trivial⟩⟩
        · refine And.intro rfl ?_
          rw [sUp_a (by omega)] at q1
          exact ⟨q, ⟨q1.symm, q2, q3⟩, ⟨rfl, rfl, rfl, rfl, rfl, trivial⟩, ⟨rfl, trivial⟩⟩
      · obtain ⟨k1, k2, k3⟩ := hk
        refine loopJ T_ok T_mix (G := Nat) (fun q => scanDown (fun x => lt cm e[a]! x) e k q = scanDown (fun x => lt cm e[a]! x) e k j ∧ q ≤ j ∧ (k ≤ q + 1 ∨ q = j)) (fun q => [(0, .c (.ow 1000000 SZ d.size)), (1, .c (nI .i64 a)), (4, .c (.fn g [])), (11, .c (nI .i64 k)), (12, .c (nI .i64 q))]) (fun _ => [(1000000, .row SZ (row e))]) (fun q => q)
          j ⟨rfl, by omega, by omega⟩ ⟨rfl, rfl, rfl, rfl, rfl, trivial⟩ ⟨rfl, trivial⟩ (G2 := Nat) (fun q => scanDown (fun x => lt cm e[a]! x) e k j = q ∧ q ≤ j ∧ (k ≤ q + 1 ∨ q = j)) (fun q => [(0, .c (.ow 1000000 SZ d.size)), (1, .c (nI .i64 a)), (4, .c (.fn g [])), (11, .c (nI .i64 k)), (12, .c (nI .i64 q))]) (fun _ => [(1000000, .row SZ (row e))]) (fun q hq => ?_) (fun r hr => ?_)
        · obtain ⟨q1, q2, q3⟩ := hq
          refine dcase (fun h6 => ?_) (fun h6 => ?_)
          · refine And.intro (by omega) (And.intro (by omega) (X1 _ (row_get (d := e) (n := a) rfl (by omega)) ?_))
            refine And.intro (by omega) (And.intro (by omega) (X1 _ (row_get (d := e) (n := q) rfl (by omega)) ?_))
            refine X1 _ (hc _ _) ?_
            refine And.intro rfl ?_
            refine bcase (fun h7 => ?_) (fun h7 => ?_)
            · have h7p : lt cm e[a]! e[q]! = true := h7
              rw [sDn_c (p := (fun x => lt cm e[a]! x)) (e := e) (j := q) (by omega) (by omega) h7p] at q1
              refine X1 ((q - 1 : Nat) : Int) (wI (by omega) (by omega) (by omega)) ?_
              exact ⟨q - 1, ⟨q1, by omega, by omega⟩, by show q - 1 < q; omega, ⟨rfl, rfl, rfl, rfl, rfl, trivial⟩, ⟨rfl, trivial⟩⟩
            · have h7p : lt cm e[a]! e[q]! = false := h7
              rw [sDn_b (p := (fun x => lt cm e[a]! x)) (e := e) (j := q) h7p] at q1
              exact ⟨q, ⟨q1.symm, q2, q3⟩, ⟨rfl, rfl, rfl, rfl, rfl, trivial⟩, ⟨rfl, trivial⟩⟩
          · refine And.intro rfl ?_
            rw [sDn_a (by omega)] at q1
            exact ⟨q, ⟨q1.symm, q2, q3⟩, ⟨rfl, rfl, rfl, rfl, rfl, trivial⟩, ⟨rfl, trivial⟩⟩
        · obtain ⟨r1', r2', r3'⟩ := hr
          rw [pEqL k1 r1'] at i1
          refine dcase (fun h8 => ?_) (fun h8 => ?_)
          · rw [if_pos (by omega)] at i1
            exact ⟨(k, e), i1.symm, ⟨rfl, trivial⟩, ⟨rfl, trivial⟩⟩
          · rw [if_neg (by omega), dif_pos (by omega)] at i1
            refine And.intro (by omega) (And.intro (by omega) (X1 _ (row_get (d := e) (n := r) rfl (by omega)) ?_))
            refine And.intro (by omega) (And.intro (by omega) (X1 _ (row_get (d := e) (n := k) rfl (by omega)) ?_))
            refine And.intro (by omega) (And.intro (by omega) (X1 _ (row_get (d := e) (n := k) rfl (by omega)) ?_))
            refine And.intro (by omega) (And.intro (by omega) (X1 _ (row_get2 (d := e) (y := e[r]!) (m := k) (n := r) rfl rfl (by omega)) ?_))
            refine And.intro rfl ?_
            refine X1 ((k + 1 : Nat) : Int) (wI (by simp) (by omega) (by omega)) ?_
            refine X1 ((r - 1 : Nat) : Int) (wI (by omega) (by omega) (by omega)) ?_
            exact ⟨(k + 1, r - 1, swp e k r), ⟨i1, by rw [swp_size]; exact i2, by omega, by omega, by omega⟩, by show r - 1 + 1 - (k + 1) < j + 1 - i; omega, ⟨rfl, rfl, rfl, rfl, rfl, trivial⟩, ⟨rowE (row_swp (m := k) (n := r) rfl rfl), trivial⟩⟩
    · rw [he]
      exact ⟨trivial, SubO.of (l := [(1000000, .row _ _)]) ⟨rfl, trivial⟩, r1 rfl, trivial⟩
  exact key _ rfl
theorem part_ct (d : Array El) (a b p : Nat) (hab : a < b) (hp : p < d.size) (hb : b ≤ d.size) (hd : d.size ≤ 1000000) :
    CtO P 167 [dO d] [dA d, .c (nI .i64 a), .c (nI .i64 b), .c (nI .i64 p), .c (.fn g [])] [dO (partition (lt cm) d a b p).2.2] [.c (nI .i64 (partition (lt cm) d a b p).1), .c (.sc (.bool (partition (lt cm) d a b p).2.1))] := by
  have key : ∀ e0 : Array El, swp d a p = e0 → CtO P 167 [dO d] [dA d, .c (nI .i64 a), .c (nI .i64 b), .c (nI .i64 p), .c (.fn g [])] [dO (partition (lt cm) d a b p).2.2] [.c (nI .i64 (partition (lt cm) d a b p).1), .c (.sc (.bool (partition (lt cm) d a b p).2.1))] := by
    intro e0 he0
    have hpt : partition (lt cm) d a b p = (if scanUp (fun x => lt cm x e0[a]!) e0 (b - 1) (a + 1) > scanDown (fun x => !lt cm x e0[a]!) e0 (scanUp (fun x => lt cm x e0[a]!) e0 (b - 1) (a + 1)) (b - 1) then (scanDown (fun x => !lt cm x e0[a]!) e0 (scanUp (fun x => lt cm x e0[a]!) e0 (b - 1) (a + 1)) (b - 1), true, swp e0 (scanDown (fun x => !lt cm x e0[a]!) e0 (scanUp (fun x => lt cm x e0[a]!) e0 (b - 1) (a + 1)) (b - 1)) a) else
        ((partLoop (lt cm) a (scanUp (fun x => lt cm x e0[a]!) e0 (b - 1) (a + 1) + 1) (scanDown (fun x => !lt cm x e0[a]!) e0 (scanUp (fun x => lt cm x e0[a]!) e0 (b - 1) (a + 1)) (b - 1) - 1) (swp e0 (scanUp (fun x => lt cm x e0[a]!) e0 (b - 1) (a + 1)) (scanDown (fun x => !lt cm x e0[a]!) e0 (scanUp (fun x => lt cm x e0[a]!) e0 (b - 1) (a + 1)) (b - 1)))).1, false, swp (partLoop (lt cm) a (scanUp (fun x => lt cm x e0[a]!) e0 (b - 1) (a + 1) + 1) (scanDown (fun x => !lt cm x e0[a]!) e0 (scanUp (fun x => lt cm x e0[a]!) e0 (b - 1) (a + 1)) (b - 1) - 1) (swp e0 (scanUp (fun x => lt cm x e0[a]!) e0 (b - 1) (a + 1)) (scanDown (fun x => !lt cm x e0[a]!) e0 (scanUp (fun x => lt cm x e0[a]!) e0 (b - 1) (a + 1)) (b - 1)))).2 (partLoop (lt cm) a (scanUp (fun x => lt cm x e0[a]!) e0 (b - 1) (a + 1) + 1) (scanDown (fun x => !lt cm x e0[a]!) e0 (scanUp (fun x => lt cm x e0[a]!) e0 (b - 1) (a + 1)) (b - 1) - 1) (swp e0 (scanUp (fun x => lt cm x e0[a]!) e0 (b - 1) (a + 1)) (scanDown (fun x => !lt cm x e0[a]!) e0 (scanUp (fun x => lt cm x e0[a]!) e0 (b - 1) (a + 1)) (b - 1)))).1 a)) := by
      rw [← he0]; rfl
    have hs0 : e0.size = d.size := by rw [← he0, swp_size]
    refine Ct.io T_ok T_mix (N := 178) Tryz.func167 rfl rfl rfl rfl ?_
    refine And.intro (by omega) (And.intro (by omega) (X1 _ (row_get (d := d) (n := p) rfl (by omega)) ?_))
    refine And.intro (by omega) (And.intro (by omega) (X1 _ (row_get (d := d) (n := a) rfl (by omega)) ?_))
    refine And.intro (by omega) (And.intro (by omega) (X1 _ (row_get (d := d) (n := a) rfl (by omega)) ?_))
    refine And.intro (by omega) (And.intro (by omega) (X1 _ (row_get2 (d := d) (y := d[p]!) (m := a) (n := p) rfl rfl (by omega)) ?_))
    refine And.intro rfl ?_
    have hrow := row_swp (d := d) (i := (a : Int)) (j := (p : Int)) (m := a) (n := p) rfl rfl
    rw [he0] at hrow
    refine X1 ((a + 1 : Nat) : Int) (wI (by simp) (by omega) (by omega)) ?_
    refine X1 ((b - 1 : Nat) : Int) (wI (by omega) (by omega) (by omega)) ?_
    refine loopJ T_ok T_mix (G := Nat) (fun q => scanUp (fun x => lt cm x e0[a]!) e0 (b - 1) q = scanUp (fun x => lt cm x e0[a]!) e0 (b - 1) (a + 1) ∧ (a + 1) ≤ q ∧ (q ≤ (b - 1) + 1 ∨ q = (a + 1))) (fun q => [(0, .c (.ow 1000000 SZ d.size)), (1, .c (nI .i64 a)), (4, .c (.fn g [])), (12, .c (nI .i64 q)), (13, .c (nI .i64 (b - 1)))]) (fun _ => [(1000000, .row SZ (row e0))]) (fun q => (b - 1) + 1 - q)
      (a + 1) ⟨rfl, by omega, by omega⟩ ⟨rfl, rfl, rfl, rfl, rfl, trivial⟩ ⟨rowE hrow, trivial⟩ (G2 := Nat) (fun q => scanUp (fun x => lt cm x e0[a]!) e0 (b - 1) (a + 1) = q ∧ (a + 1) ≤ q ∧ (q ≤ (b - 1) + 1 ∨ q = (a + 1))) (fun q => [(0, .c (.ow 1000000 SZ d.size)), (1, .c (nI .i64 a)), (4, .c (.fn g [])), (12, .c (nI .i64 q)), (13, .c (nI .i64 (b - 1)))]) (fun _ => [(1000000, .row SZ (row e0))]) (fun q hq => ?_) (fun k hk => ?_)
    · obtain ⟨q1, q2, q3⟩ := hq
      refine dcase (fun h6 => ?_) (fun h6 => ?_)
      · refine And.intro (by omega) (And.intro (by omega) (X1 _ (row_get (d := e0) (n := q) rfl (by omega)) ?_))
        refine And.intro (by omega) (And.intro (by omega) (X1 _ (row_get (d := e0) (n := a) rfl (by omega)) ?_))
        refine X1 _ (hc _ _) ?_
        refine And.intro rfl ?_
        refine bcase (fun h7 => ?_) (fun h7 => ?_)
        · have h7p : lt cm e0[q]! e0[a]! = true := h7
          rw [sUp_c (p := (fun x => lt cm x e0[a]!)) (e := e0) (i := q) (by omega) h7p] at q1
          refine X1 ((q + 1 : Nat) : Int) (wI (by simp) (by omega) (by omega)) ?_
          exact ⟨q + 1, ⟨q1, by omega, by omega⟩, by show (b - 1) + 1 - (q + 1) < (b - 1) + 1 - q; omega, ⟨rfl, rfl, rfl, rfl, rfl, trivial⟩, ⟨rfl, trivial⟩⟩
        · have h7p : lt cm e0[q]! e0[a]! = false := h7
          rw [sUp_b (p := (fun x => lt cm x e0[a]!)) (e := e0) (i := q) h7p] at q1
          exact ⟨q, ⟨q1.symm, q2, q3⟩, ⟨rfl, rfl, rfl, rfl, rfl, trivial⟩, ⟨rfl, trivial⟩⟩
      · refine And.intro rfl ?_
        rw [sUp_a (by omega)] at q1
        exact ⟨q, ⟨q1.symm, q2, q3⟩, ⟨rfl, rfl, rfl, rfl, rfl, trivial⟩, ⟨rfl, trivial⟩⟩
    · obtain ⟨k1, k2, k3⟩ := hk
      refine loopJ T_ok T_mix (G := Nat) (fun q => scanDown (fun x => !lt cm x e0[a]!) e0 k q = scanDown (fun x => !lt cm x e0[a]!) e0 k (b - 1) ∧ q ≤ (b - 1) ∧ (k ≤ q + 1 ∨ q = (b - 1))) (fun q => [(0, .c (.ow 1000000 SZ d.size)), (1, .c (nI .i64 a)), (4, .c (.fn g [])), (12, .c (nI .i64 k)), (13, .c (nI .i64 q))]) (fun _ => [(1000000, .row SZ (row e0))]) (fun q => q)
        (b - 1) ⟨rfl, by omega, by omega⟩ ⟨rfl, rfl, rfl, rfl, rfl, trivial⟩ ⟨rfl, trivial⟩ (G2 := Nat) (fun q => scanDown (fun x => !lt cm x e0[a]!) e0 k (b - 1) = q ∧ q ≤ (b - 1) ∧ (k ≤ q + 1 ∨ q = (b - 1))) (fun q => [(0, .c (.ow 1000000 SZ d.size)), (1, .c (nI .i64 a)), (4, .c (.fn g [])), (12, .c (nI .i64 k)), (13, .c (nI .i64 q))]) (fun _ => [(1000000, .row SZ (row e0))]) (fun q hq => ?_) (fun r hr => ?_)
      · obtain ⟨q1, q2, q3⟩ := hq
        refine dcase (fun h6 => ?_) (fun h6 => ?_)
        · refine And.intro (by omega) (And.intro (by omega) (X1 _ (row_get (d := e0) (n := q) rfl (by omega)) ?_))
          refine And.intro (by omega) (And.intro (by omega) (X1 _ (row_get (d := e0) (n := a) rfl (by omega)) ?_))
          refine X1 _ (hc _ _) ?_
          refine And.intro rfl ?_
          refine bcase (fun h7 => ?_) (fun h7 => ?_)
          · have h7p : (!lt cm e0[q]! e0[a]!) = true := h7
            rw [sDn_c (p := (fun x => !lt cm x e0[a]!)) (e := e0) (j := q) (by omega) (by omega) h7p] at q1
            refine X1 ((q - 1 : Nat) : Int) (wI (by omega) (by omega) (by omega)) ?_
            exact ⟨q - 1, ⟨q1, by omega, by omega⟩, by show q - 1 < q; omega, ⟨rfl, rfl, rfl, rfl, rfl, trivial⟩, ⟨rfl, trivial⟩⟩
          · have h7p : (!lt cm e0[q]! e0[a]!) = false := h7
            rw [sDn_b (p := (fun x => !lt cm x e0[a]!)) (e := e0) (j := q) h7p] at q1
            exact ⟨q, ⟨q1.symm, q2, q3⟩, ⟨rfl, rfl, rfl, rfl, rfl, trivial⟩, ⟨rfl, trivial⟩⟩
        · refine And.intro rfl ?_
          rw [sDn_a (by omega)] at q1
          exact ⟨q, ⟨q1.symm, q2, q3⟩, ⟨rfl, rfl, rfl, rfl, rfl, trivial⟩, ⟨rfl, trivial⟩⟩
      · obtain ⟨s1, s2, s3⟩ := hr
        rw [k1, s1] at hpt
        refine dcase (fun h8 => ?_) (fun h8 => ?_)
        · rw [if_pos (by omega)] at hpt
          rw [hpt]
          refine And.intro (by omega) (And.intro (by omega) (X1 _ (row_get (d := e0) (n := a) rfl (by omega)) ?_))
          refine And.intro (by omega) (And.intro (by omega) (X1 _ (row_get (d := e0) (n := r) rfl (by omega)) ?_))
          refine And.intro (by omega) (And.intro (by omega) (X1 _ (row_get (d := e0) (n := r) rfl (by omega)) ?_))
          refine And.intro (by omega) (And.intro (by omega) (X1 _ (row_get2 (d := e0) (y := e0[a]!) (m := r) (n := a) rfl rfl (by omega)) ?_))
          refine And.intro rfl ?_
          exact ⟨trivial, SubO.of (l := [(1000000, .row _ _)]) ⟨rowE (row_swp (m := r) (n := a) rfl rfl), trivial⟩, r1 rfl, r1 rfl, trivial⟩
        · rw [if_neg (by omega)] at hpt
          rw [hpt]
          refine And.intro (by omega) (And.intro (by omega) (X1 _ (row_get (d := e0) (n := r) rfl (by omega)) ?_))
          refine And.intro (by omega) (And.intro (by omega) (X1 _ (row_get (d := e0) (n := k) rfl (by omega)) ?_))
          refine And.intro (by omega) (And.intro (by omega) (X1 _ (row_get (d := e0) (n := k) rfl (by omega)) ?_))
          refine And.intro (by omega) (And.intro (by omega) (X1 _ (row_get2 (d := e0) (y := e0[r]!) (m := k) (n := r) rfl rfl (by omega)) ?_))
          refine And.intro rfl ?_
          have hrow2 := row_swp (d := e0) (i := (k : Int)) (j := (r : Int)) (m := k) (n := r) rfl rfl
          have hs1 : (swp e0 k r).size = d.size := by rw [swp_size]; exact hs0
          generalize swp e0 k r = e1 at *
          generalize hF : partLoop (lt cm) a (k + 1) (r - 1) e1 = F at *
          refine X1 ((k + 1 : Nat) : Int) (wI (by simp) (by omega) (by omega)) ?_
          refine X1 ((r - 1 : Nat) : Int) (wI (by omega) (by omega) (by omega)) ?_
          refine loopJ T_ok T_mix (G := Nat × Nat × Array El) (fun (i, j, e) => partLoop (lt cm) a i j e = F ∧ e.size = d.size ∧ 1 ≤ i ∧ j < d.size ∧ i ≤ j + 2) (fun (i, j, _) => [(0, .c (.ow 1000000 SZ d.size)), (1, .c (nI .i64 a)), (4, .c (.fn g [])), (12, .c (nI .i64 i)), (13, .c (nI .i64 j))]) (fun (_, _, e) => [(1000000, .row SZ (row e))]) (fun (i, j, _) => j + 1 - i)
            (k + 1, r - 1, e1) ⟨hF, hs1, by omega, by omega, by omega⟩ ⟨rfl, rfl, rfl, rfl, rfl, trivial⟩ ⟨rowE hrow2, trivial⟩ (G2 := Nat × Array El) (fun (j, e) => F = (j, e) ∧ j < d.size ∧ e.size = d.size) (fun (j, _) => [(0, .c (.ow 1000000 SZ d.size)), (1, .c (nI .i64 a)), (13, .c (nI .i64 j))]) (fun (_, e) => [(1000000, .row SZ (row e))]) (fun (i, j, e) hi => ?_) (fun (j, e) he => ?_)
          · obtain ⟨i1, i2, i3, i4, i5⟩ := hi
            refine loopJ T_ok T_mix (G := Nat) (fun q => scanUp (fun x => lt cm x e[a]!) e j q = scanUp (fun x => lt cm x e[a]!) e j i ∧ i ≤ q ∧ (q ≤ j + 1 ∨ q = i)) (fun q => [(0, .c (.ow 1000000 SZ d.size)), (1, .c (nI .i64 a)), (4, .c (.fn g [])), (12, .c (nI .i64 q)), (13, .c (nI .i64 j))]) (fun _ => [(1000000, .row SZ (row e))]) (fun q => j + 1 - q)
              i ⟨rfl, by omega, by omega⟩ ⟨rfl, rfl, rfl, rfl, rfl, trivial⟩ ⟨rfl, trivial⟩ (G2 := Nat) (fun q => scanUp (fun x => lt cm x e[a]!) e j i = q ∧ i ≤ q ∧ (q ≤ j + 1 ∨ q = i)) (fun q => [(0, .c (.ow 1000000 SZ d.size)), (1, .c (nI .i64 a)), (4, .c (.fn g [])), (12, .c (nI .i64 q)), (13, .c (nI .i64 j))]) (fun _ => [(1000000, .row SZ (row e))]) (fun q hq => ?_) (fun u hu => ?_)
            · obtain ⟨q1, q2, q3⟩ := hq
              refine dcase (fun h6 => ?_) (fun h6 => ?_)
              · refine And.intro (by omega) (And.intro (by omega) (X1 _ (row_get (d := e) (n := q) rfl (by omega)) ?_))
                refine And.intro (by omega) (And.intro (by omega) (X1 _ (row_get (d := e) (n := a) rfl (by omega)) ?_))
                refine X1 _ (hc _ _) ?_
                refine And.intro rfl ?_
                refine bcase (fun h7 => ?_) (fun h7 => ?_)
                · have h7p : lt cm e[q]! e[a]! = true := h7
                  rw [sUp_c (p := (fun x => lt cm x e[a]!)) (e := e) (i := q) (by omega) h7p] at q1
                  refine X1 ((q + 1 : Nat) : Int) (wI (by simp) (by omega) (by omega)) ?_
                  exact ⟨q + 1, ⟨q1, by omega, by omega⟩, by show j + 1 - (q + 1) < j + 1 - q; omega, ⟨rfl, rfl, rfl, rfl, rfl, trivial⟩, ⟨rfl, trivial⟩⟩
                · have h7p : lt cm e[q]! e[a]! = false := h7
                  rw [sUp_b (p := (fun x => lt cm x e[a]!)) (e := e) (i := q) h7p] at q1
                  exact ⟨q, ⟨q1.symm, q2, q3⟩, ⟨rfl, rfl, rfl, rfl, rfl, trivial⟩, ⟨rfl, trivial⟩⟩
              · refine And.intro rfl ?_
                rw [sUp_a (by omega)] at q1
                exact ⟨q, ⟨q1.symm, q2, q3⟩, ⟨rfl, rfl, rfl, rfl, rfl, trivial⟩, ⟨rfl, trivial⟩⟩
            · obtain ⟨u1, u2, u3⟩ := hu
              refine loopJ T_ok T_mix (G := Nat) (fun q => scanDown (fun x => !lt cm x e[a]!) e u q = scanDown (fun x => !lt cm x e[a]!) e u j ∧ q ≤ j ∧ (u ≤ q + 1 ∨ q = j)) (fun q => [(0, .c (.ow 1000000 SZ d.size)), (1, .c (nI .i64 a)), (4, .c (.fn g [])), (12, .c (nI .i64 u)), (13, .c (nI .i64 q))]) (fun _ => [(1000000, .row SZ (row e))]) (fun q => q)
                j ⟨rfl, by omega, by omega⟩ ⟨rfl, rfl, rfl, rfl, rfl, trivial⟩ ⟨rfl, trivial⟩ (G2 := Nat) (fun q => scanDown (fun x => !lt cm x e[a]!) e u j = q ∧ q ≤ j ∧ (u ≤ q + 1 ∨ q = j)) (fun q => [(0, .c (.ow 1000000 SZ d.size)), (1, .c (nI .i64 a)), (4, .c (.fn g [])), (12, .c (nI .i64 u)), (13, .c (nI .i64 q))]) (fun _ => [(1000000, .row SZ (row e))]) (fun q hq => ?_) (fun v hv => ?_)
              · obtain ⟨q1, q2, q3⟩ := hq
                refine dcase (fun h6 => ?_) (fun h6 => ?_)
                · refine And.intro (by omega) (And.intro (by omega) (X1 _ (row_get (d := e) (n := q) rfl (by omega)) ?_))
                  refine And.intro (by omega) (And.intro (by omega) (X1 _ (row_get (d := e) (n := a) rfl (by omega)) ?_))
                  refine X1 _ (hc _ _) ?_
                  refine And.intro rfl ?_
                  refine bcase (fun h7 => ?_) (fun h7 => ?_)
                  · have h7p : (!lt cm e[q]! e[a]!) = true := h7
                    rw [sDn_c (p := (fun x => !lt cm x e[a]!)) (e := e) (j := q) (by omega) (by omega) h7p] at q1
                    refine X1 ((q - 1 : Nat) : Int) (wI (by omega) (by omega) (by omega)) ?_
                    exact ⟨q - 1, ⟨q1, by omega, by omega⟩, by show q - 1 < q; omega, ⟨rfl, rfl, rfl, rfl, rfl, trivial⟩, ⟨rfl, trivial⟩⟩
                  · have h7p : (!lt cm e[q]! e[a]!) = false := h7
                    rw [sDn_b (p := (fun x => !lt cm x e[a]!)) (e := e) (j := q) h7p] at q1
                    exact ⟨q, ⟨q1.symm, q2, q3⟩, ⟨rfl, rfl, rfl, rfl, rfl, trivial⟩, ⟨rfl, trivial⟩⟩
                · refine And.intro rfl ?_
                  rw [sDn_a (by omega)] at q1
                  exact ⟨q, ⟨q1.symm, q2, q3⟩, ⟨rfl, rfl, rfl, rfl, rfl, trivial⟩, ⟨rfl, trivial⟩⟩
              · obtain ⟨v1, v2, v3⟩ := hv
                rw [pL u1 v1] at i1
                refine dcase (fun h8 => ?_) (fun h8 => ?_)
                · rw [if_pos (by omega)] at i1
                  exact ⟨(v, e), ⟨i1.symm, by omega, i2⟩, ⟨rfl, rfl, rfl, trivial⟩, ⟨rfl, trivial⟩⟩
                · rw [if_neg (by omega), dif_pos (by omega)] at i1
                  refine And.intro (by omega) (And.intro (by omega) (X1 _ (row_get (d := e) (n := v) rfl (by omega)) ?_))
                  refine And.intro (by omega) (And.intro (by omega) (X1 _ (row_get (d := e) (n := u) rfl (by omega)) ?_))
                  refine And.intro (by omega) (And.intro (by omega) (X1 _ (row_get (d := e) (n := u) rfl (by omega)) ?_))
                  refine And.intro (by omega) (And.intro (by omega) (X1 _ (row_get2 (d := e) (y := e[v]!) (m := u) (n := v) rfl rfl (by omega)) ?_))
                  refine And.intro rfl ?_
                  refine X1 ((u + 1 : Nat) : Int) (wI (by simp) (by omega) (by omega)) ?_
                  refine X1 ((v - 1 : Nat) : Int) (wI (by omega) (by omega) (by omega)) ?_
                  exact ⟨(u + 1, v - 1, swp e u v), ⟨i1, by rw [swp_size]; exact i2, by omega, by omega, by omega⟩, by show v - 1 + 1 - (u + 1) < j + 1 - i; omega, ⟨rfl, rfl, rfl, rfl, rfl, trivial⟩, ⟨rowE (row_swp (m := u) (n := v) rfl rfl), trivial⟩⟩
          · obtain ⟨g1, g2, g3⟩ := he
            rw [g1]
            refine And.intro (by omega) (And.intro (by omega) (X1 _ (row_get (d := e) (n := a) rfl (by omega)) ?_))
            refine And.intro (by omega) (And.intro (by omega) (X1 _ (row_get (d := e) (n := j) rfl (by omega)) ?_))
            refine And.intro (by omega) (And.intro (by omega) (X1 _ (row_get (d := e) (n := j) rfl (by omega)) ?_))
            refine And.intro (by omega) (And.intro (by omega) (X1 _ (row_get2 (d := e) (y := e[a]!) (m := j) (n := a) rfl rfl (by omega)) ?_))
            refine And.intro rfl ?_
            exact ⟨trivial, SubO.of (l := [(1000000, .row _ _)]) ⟨rowE (row_swp (m := j) (n := a) rfl rfl), trivial⟩, r1 rfl, r1 rfl, trivial⟩
  exact key _ rfl
end Go.Proofs.YtpmchgndnhgncaaGreat.Pv.SrtI
namespace Go.Proofs.YtpmchgndnhgncaaGreat.Pv
open Go
section
variable {P : Program} {T : Ty} {N : Nx} {E : Env} {O : Objs} {c x y : Code} {Q : PQ}
theorem loopI {i : Nat} {G : Type} (inv : G → Prop) (sE : G → List (Nat × AV)) (sO : G → List (Nat × Ob)) (m : G → Nat) (g0 : G) (h0 : inv g0) (hE : AllIn E (sE g0)) (hO : AllInO O (sO g0))
    (round : ∀ g, inv g → WI P N (envL (sE g)) (objL (sO g)) c (loopQ i (fun E' O' => ∃ g', inv g' ∧ m g' < m g ∧ AllIn E' (sE g') ∧ AllInO O' (sO g')) (fun E' O' => Q .normal E' O') Q)) : WI P N E O (.block i (.loop c)) Q := by
  refine .of (W.block (W.loop inv sE sO m g0 h0 hE hO fun g hg => (round g hg).out.mono fun e E O h => ?_))
  cases e with
  | exit j =>
    simp only [loopQ] at h
    show inBlockQ i _ (.exit j) E O
    simp only [inBlockQ]
    cases hb : Nat.beq j i with
    | true => rw [hb] at h; exact h
    | false => rw [hb] at h; exact h
  | _ => exact h
theorem blockI {i : Nat} (h : WI P N E O c (inBlockQ i Q)) : WI P N E O (.block i c) Q := .of (W.block h.out)
theorem seqI (hT : T.ok P) (hm : P.follows .mixedOrders = true) (h : codeS P T N x E O (thenQ (fun E O => WI P N E O y Q) Q)) : WI P N E O (.seq x y) Q :=
  .of (W.seq ((codeS_sound hT hm x E O _ h).mono fun e E O hq => by
    cases e with
    | normal => exact WI.out hq
    | _ => exact hq))
theorem cutI (hT : T.ok P) (hm : P.follows .mixedOrders = true) {G2 : Type} (post : G2 → Prop) (pE : G2 → List (Nat × AV)) (pO : G2 → List (Nat × Ob))
    (h : codeS P T N x E O (thenQ (fun E' O' => ∃ g2, post g2 ∧ AllIn E' (pE g2) ∧ AllInO O' (pO g2)) Q)) (hy : ∀ g2, post g2 → WI P N (envL (pE g2)) (objL (pO g2)) y Q) : WI P N E O (.seq x y) Q :=
  .of (W.seq ((codeS_sound hT hm x E O _ h).mono fun e E O hq => by
    cases e with
    | normal =>
      obtain ⟨g2, hp, h1, h2⟩ := hq
      exact W.weak (Sub.of h1) (SubO.of h2) (hy g2 hp).out
    | _ => exact hq))
theorem seqW (h : WI P N E O x (thenQ (fun E O => WI P N E O y Q) Q)) : WI P N E O (.seq x y) Q :=
  .of (W.seq (h.out.mono fun e E O hq => by
    cases e with
    | normal => exact WI.out hq
    | _ => exact hq))
theorem loopJI {i : Nat} {G : Type} (inv : G → Prop) (sE : G → List (Nat × AV)) (sO : G → List (Nat × Ob)) (m : G → Nat) (g0 : G) (h0 : inv g0) (hE : AllIn E (sE g0)) (hO : AllInO O (sO g0))
    {G2 : Type} (post : G2 → Prop) (pE : G2 → List (Nat × AV)) (pO : G2 → List (Nat × Ob))
    (round : ∀ g, inv g → WI P N (envL (sE g)) (objL (sO g)) c (loopQ i (fun E' O' => ∃ g', inv g' ∧ m g' < m g ∧ AllIn E' (sE g') ∧ AllInO O' (sO g')) (fun E' O' => ∃ g2, post g2 ∧ AllIn E' (pE g2) ∧ AllInO O' (pO g2)) Q))
    (after : ∀ g2, post g2 → WI P N (envL (pE g2)) (objL (pO g2)) y Q) : WI P N E O (.block i (.loop c)) (thenQ (fun E O => WI P N E O y Q) Q) := by
  refine .of (W.block (W.loop inv sE sO m g0 h0 hE hO fun g hg => (round g hg).out.mono fun e E O h => ?_))
  cases e with
  | normal => exact h
  | exit j =>
    simp only [loopQ] at h
    show inBlockQ i _ (.exit j) E O
    simp only [inBlockQ]
    cases hb : Nat.beq j i with
    | true =>
      rw [hb] at h
      obtain ⟨g2, hp, h1, h2⟩ := h
      exact .of (W.weak (Sub.of h1) (SubO.of h2) (after g2 hp).out)
    | false => rw [hb] at h; exact h
  | ret => exact h
  | goto _ => exact h
  | panic _ => exact h
  | outgrown => exact h
theorem frzI (ks : List Nat) (h : WI P N (.vw (O.only ks) :: E) (O.froze ks (O.only ks)) c Q) : WI P N E O c Q :=
  WI.step (fun _ K _ _ _ hs => ⟨K, _, hs.view ks⟩) h
theorem rowCl {k sz : Nat} {els : List (List PC)} {ids : List Nat} (hk : O.get k = some (.rowO sz els ids)) (hc : closedLL els) (h : WI P N E (O.set k (.row sz els)) c Q) : WI P N E O c Q :=
  WI.step (fun X K ok w a hs => ⟨K, ok, hs.less hk fun hob => by
    rcases hob.2 with h0 | ⟨b, cs, e, fr, a1, a2, a3, a4, a5, a6, a7⟩
    · exact .inl h0
    · exact .inr ⟨b, cs, e, fr, a1, a2, a3, a4, a5, a6, fun j i el x hj hi => by
        obtain ⟨u, hu, hr⟩ := a7 j i el x hj hi
        exact ⟨u, hu, hr.closed (closedL_get (hc el (List.mem_of_getElem? hj)) i x hi)⟩⟩⟩) h
mutual
theorem closed_ment {r : Nat} : ∀ {x : PC}, x.closed = true → x.ment r = false
  | .fn _ caps, h => closedL_ment (l := caps) (by simpa [PC.closed] using h)
  | .sc _, _ => rfl
  | .sl _ _, _ => rfl
  | .rd _, _ => rfl
  | .cb _, _ => rfl
  | .dead, _ => rfl
  | .ow _ _ _, h => by cases h
  | .os _ _ _ _, h => by cases h
  | .ad _ _, h => by cases h
  | .ea _ _ _ _, h => by cases h
  | .mp _, h => by cases h
theorem closedL_ment {r : Nat} : ∀ {l : List PC}, closedL l = true → PC.ment.mentL r l = false
  | [], _ => rfl
  | x :: l, h => by
    simp only [closedL, Bool.and_eq_true] at h
    simp only [PC.ment.mentL]
    rw [closed_ment h.1, closedL_ment h.2]; rfl
end
theorem nilEl {r k sz sz' i : Nat} {els : List (List PC)} (hr : noMB r (O.set k (.row sz els)) = true) (hrk : r ≠ k) (hk : O.get k = some (.row sz els)) (hi : els[i]? = some [.sc (.slice none 0 0)]) (hc : closedLL els)
    (h : WI P N (.k r :: E) ((O.set r (.row sz' [])).set k (.rowO sz (els.set i [.ow r sz' 0]) [r])) c Q) : WI P N E O c Q := by
  have hO : ∀ t o, O.get t = some o → (O.set k (.row sz els)).get t = some o := fun t o h => by
    rw [Objs.get_set]
    split
    · rename_i e; subst e; rw [hk] at h; exact h
    · exact h
  have hnm : NoM r O := ⟨(NoM.of (noMB_spec hr)).1, fun t o h => (NoM.of (noMB_spec hr)).2 t o (hO t o h)⟩
  refine WI.step (fun X K ok w a hs => ?_) h
  obtain ⟨h1, h2⟩ := hs.putNone (sz := sz') hnm
  have hk' : (O.set r (.row sz' [])).get k = some (.row sz els) := by rw [Objs.get_set, if_neg hrk]; exact hk
  have hl : HOb (K.put r none) ok w k (.row sz els) → HOb (K.put r none) ok w k (.rowO sz (els.set i [.ow r sz' 0]) [r]) := fun hob => by
    have hilt := (List.getElem?_eq_some_iff.1 hi).1
    refine ⟨fun el q he hm => ?_, ?_⟩
    · rcases List.mem_or_eq_of_mem_set he with he | he
      · have := closedL_ment (r := q) (hc el he)
        rw [mentA, this] at hm; cases hm
      · subst he
        have : q = r := by
          simp only [mentA, PC.ment.mentL, PC.ment, Bool.or_false] at hm
          exact (Nat.eq_of_beq_eq_true hm).symm
        subst this
        simp [memB]
    · rcases hob with ⟨a1, a2⟩ | ⟨b, cs, e, fr, a1, a2, a3, a4, a5, a6, a7⟩
      · subst a2; simp at hi
      · refine .inr ⟨b, cs, e, fr, by simpa using a1, a2, a3, by simpa using a4, by simpa using a5, fun j el hj => ?_, fun j q el x hj hq => ?_⟩
        · rw [List.getElem?_set] at hj
          split at hj
          · rename_i e1
            subst e1
            cases hj
            have := a6 i _ hi
            simpa using this
          · exact a6 j el hj
        · rw [List.getElem?_set] at hj
          split at hj
          · rename_i e1
            subst e1
            cases hj
            cases q with
            | succ q => simp at hq
            | zero =>
              simp at hq
              subst hq
              obtain ⟨u, hu, hru⟩ := a7 i 0 _ _ hi rfl
              refine ⟨u, hu, ?_⟩
              cases hru with
              | sc _ => exact .owN (K.put_self r _)
          · obtain ⟨u, hu, hru⟩ := a7 j q el x hj hq
            exact ⟨u, hu, .cl hru⟩
  obtain ⟨h3, h4⟩ := h1.less hk' hl
  exact ⟨_, ok, h3, h2.trans h4⟩
end
end Go.Proofs.YtpmchgndnhgncaaGreat.Pv
