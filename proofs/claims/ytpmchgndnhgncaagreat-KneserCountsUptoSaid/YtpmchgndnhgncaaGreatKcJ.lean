/- Parts of a proof, joined: Cn Co Cp Fd Ed Cs Ee Ea Fe Cq Ct. -/
import Derived.Test.YtpmchgndnhgncaaGreatKcI
namespace Go.Proofs.YtpmchgndnhgncaaGreat.Pv
open Go
abbrev Cnt := List Int × Int
def cRow (l : List Cnt) : List (List PC) := l.map fun x => [iSl x.1, eI .i64 x.2]
abbrev cSl (l : List Cnt) : PC := .sl 2 (cRow l)
def ccRow (L : List (List Cnt)) : List (List PC) := L.map fun l => [cSl l]
abbrev ccSl (L : List (List Cnt)) : PC := .sl 1 (ccRow L)
theorem cRow_len {l : List Cnt} : (cRow l).length = l.length := by simp [cRow]
theorem ccRow_len {l : List (List Cnt)} : (ccRow l).length = l.length := by simp [ccRow]
theorem cRow_get {l : List Cnt} {i : Int} {n : Nat} (h0 : i = n) (h : n < l.length) : (cRow l)[i.toNat]? = some [iSl l[n].1, eI .i64 l[n].2] := by
  subst h0
  simp [cRow, h]
theorem ccRow_get {l : List (List Cnt)} {i : Int} {n : Nat} (h0 : i = n) (h : n < l.length) : (ccRow l)[i.toNat]? = some [cSl l[n]] := by
  subst h0
  simp [ccRow, h]
structure CLim (l : List Cnt) : Prop where
  len : l.length ≤ 1000000
  g : ∀ x, x ∈ l → x.1.length ≤ 1000000
structure CCLim (L : List (List Cnt)) : Prop where
  len : L.length ≤ 1000000
  l : ∀ l, l ∈ L → CLim l
theorem CLim.at' {l : List Cnt} (h : CLim l) {i : Nat} (hi : i < l.length) : l[i].1.length ≤ 1000000 := h.g _ (List.getElem_mem hi)
theorem CCLim.at' {L : List (List Cnt)} (h : CCLim L) {i : Nat} (hi : i < L.length) : CLim L[i] := h.l _ (List.getElem_mem hi)
theorem drop_getD {l : List Int} {i : Nat} (h : i < l.length) : l.drop i = l.getD i 0 :: l.drop (i + 1) := by
  rw [List.drop_eq_getElem_cons h]; simp [List.getD_eq_getElem?_getD, h]
theorem lexC_end {l m : List Int} {i : Nat} (h1 : i ≤ l.length) (h2 : i ≤ m.length) (h3 : i = l.length ∨ i = m.length) (h : lexC l m = lexC (l.drop i) (m.drop i)) : lexC l m = if l.length < m.length then -1 else if l.length > m.length then 1 else 0 := by
  rw [h]
  rcases Nat.lt_trichotomy l.length m.length with hl | hl | hl
  · have : i = l.length := by omega
    subst this
    rw [if_pos hl, List.drop_length, drop_getD hl]; rfl
  · have e1 : l.drop i = [] := List.drop_eq_nil_of_le (by omega)
    have e2 : m.drop i = [] := List.drop_eq_nil_of_le (by omega)
    rw [e1, e2, if_neg (by omega), if_neg (by omega)]; rfl
  · have : i = m.length := by omega
    subst this
    rw [if_neg (by omega), if_pos hl, List.drop_length, drop_getD hl]; rfl
theorem rcompare_ct (l m : List Int) (hl : l.length ≤ 1000000) (hm : m.length ≤ 1000000) : Ct P 112 [.c (iSl l), .c (iSl m)] [.c (eI .i64 (lexC l m))] := by
  refine Ct.go T_ok T_mix (N := 46) Tryz.func112 rfl rfl rfl rfl ?_
  refine loopJ T_ok T_mix (fun i : Nat => i ≤ l.length ∧ i ≤ m.length ∧ lexC l m = lexC (l.drop i) (m.drop i)) (fun i => [(0, .c (iSl l)), (1, .c (iSl m)), (5, .c (nI .i64 i))]) (fun _ => []) (fun i => l.length - i)
    0 ⟨by omega, by omega, rfl⟩ ⟨rfl, rfl, rfl, trivial⟩ trivial (fun _ : Unit => lexC l m = if l.length < m.length then -1 else if l.length > m.length then 1 else 0) (fun _ => [(0, .c (iSl l)), (1, .c (iSl m))]) (fun _ => []) (fun i hi => ?_) (fun _ he => ?_)
  · obtain ⟨h1, h2, h3⟩ := hi
    refine And.intro (by rw [iRow_len]; omega) ?_
    rw [iRow_len]
    refine dcase (fun h5 => ?_) (fun h5 => ?_)
    · refine And.intro (by rw [iRow_len]; omega) ?_
      rw [iRow_len]
      refine dcase (fun h6 => ?_) (fun h6 => ?_)
      · have hd := h3
        rw [drop_getD (l := l) (i := i) (by omega), drop_getD (l := m) (i := i) (by omega), lexC] at hd
        refine And.intro (by omega) (X1 _ (iRow_getN rfl (by omega)) ?_)
        refine And.intro (by omega) (X1 _ (iRow_getN rfl (by omega)) ?_)
        refine And.intro rfl ?_
        refine dcase (fun h7 => ?_) (fun h7 => ?_)
        · have e : cmpI (l.getD i 0) (m.getD i 0) = -1 := by rw [cmpI, if_pos h7]
          rw [e, if_pos (by decide)] at hd
          exact ⟨trivial, r1 (iE hd.symm), trivial⟩
        · refine And.intro (by omega) (X1 _ (iRow_getN rfl (by omega)) ?_)
          refine And.intro (by omega) (X1 _ (iRow_getN rfl (by omega)) ?_)
          refine And.intro rfl ?_
          refine dcase (fun h8 => ?_) (fun h8 => ?_)
          · have e : cmpI (l.getD i 0) (m.getD i 0) = 1 := by rw [cmpI, if_neg h7, if_pos h8]
            rw [e, if_pos (by decide)] at hd
            exact ⟨trivial, r1 (iE hd.symm), trivial⟩
          · have e : cmpI (l.getD i 0) (m.getD i 0) = 0 := by rw [cmpI, if_neg h7, if_neg h8]
            rw [e, if_neg (by decide)] at hd
            refine X1 ((i + 1 : Nat) : Int) (wI (by simp) (by omega) (by omega)) ?_
            exact ⟨i + 1, ⟨by omega, by omega, hd⟩, by omega, ⟨rfl, rfl, rfl, trivial⟩, trivial⟩
      · exact ⟨(), lexC_end h1 h2 (.inr (by omega)) h3, ⟨rfl, rfl, trivial⟩, trivial⟩
    · exact ⟨(), lexC_end h1 h2 (.inl (by omega)) h3, ⟨rfl, rfl, trivial⟩, trivial⟩
  · refine And.intro (by rw [iRow_len]; omega) ?_
    refine And.intro (by rw [iRow_len]; omega) ?_
    rw [iRow_len, iRow_len]
    refine dcase (fun h5 => ?_) (fun h5 => ?_)
    · rw [if_pos (by omega)] at he
      exact ⟨trivial, r1 (iE he.symm), trivial⟩
    · rw [if_neg (by omega)] at he
      refine And.intro (by rw [iRow_len]; omega) ?_
      refine And.intro (by rw [iRow_len]; omega) ?_
      rw [iRow_len, iRow_len]
      refine dcase (fun h6 => ?_) (fun h6 => ?_)
      · rw [if_pos (by omega)] at he
        exact ⟨trivial, r1 (iE he.symm), trivial⟩
      · rw [if_neg (by omega)] at he
        exact ⟨trivial, r1 (iE he.symm), trivial⟩
def fidx (g : List Int) : List Cnt → Int
  | [] => -1
  | x :: l => if x.1 = g then 0 else if fidx g l < 0 then -1 else fidx g l + 1
theorem fidx_spec (g : List Int) : ∀ (l : List Cnt) (i : Nat) (h : i < l.length), (∀ (j : Nat) (hj : j < i), l[j].1 ≠ g) → l[i].1 = g → fidx g l = i
  | [], i, h, _, _ => by simp at h
  | x :: l, 0, _, _, h => by simp at h; simp [fidx, h]
  | x :: l, i + 1, hi, h1, h => by
    have h0 := h1 0 (by omega)
    have := fidx_spec g l i (by simpa using hi) (fun j hj => by simpa using h1 (j + 1) (by omega)) (by simpa using h)
    simp only [List.getElem_cons_zero] at h0
    rw [fidx, if_neg h0, this, if_neg (by omega)]; simp
theorem fidx_none (g : List Int) : ∀ (l : List Cnt), (∀ (j : Nat) (hj : j < l.length), l[j].1 ≠ g) → fidx g l = -1
  | [], _ => rfl
  | x :: l, h => by
    have h0 := h 0 (by simp)
    have := fidx_none g l (fun j hj => h (j + 1) (Nat.succ_lt_succ hj))
    simp only [List.getElem_cons_zero] at h0
    rw [fidx, if_neg h0, this, if_pos (by omega)]
theorem rfind_ct (l : List Cnt) (g : List Int) (hl : CLim l) (hg : g.length ≤ 1000000) : Ct P 60 [.c (cSl l), .c (iSl g)] [.c (eI .i64 (fidx g l))] := by
  have hll := hl.len
  refine Ct.go T_ok T_mix (N := 20) Tryz.func60 rfl rfl rfl rfl ?_
  refine loopJ T_ok T_mix (fun i : Nat => i ≤ l.length ∧ ∀ (j : Nat) (hj : j < l.length), j < i → l[j].1 ≠ g) (fun i => [(0, .c (cSl l)), (1, .c (iSl g)), (5, .c (nI .i64 i))]) (fun _ => []) (fun i => l.length - i)
    0 ⟨by omega, fun j _ hj => by omega⟩ ⟨rfl, rfl, rfl, trivial⟩ trivial (fun _ : Unit => fidx g l = -1) (fun _ => []) (fun _ => []) (fun i hi => ?_) (fun _ he => ?_)
  · obtain ⟨h1, h2⟩ := hi
    refine And.intro (by rw [cRow_len]; omega) ?_
    rw [cRow_len]
    refine dcase (fun h5 => ?_) (fun h5 => ?_)
    · refine And.intro (by omega) (X1 _ (cRow_get rfl (by omega)) ?_)
      refine X1 _ (ints_ct _ g (hl.at' (by omega)) hg) ?_
      refine dcase (fun h6 => ?_) (fun h6 => ?_)
      · exact ⟨trivial, r1 (iE (fidx_spec g l i (by omega) (fun j hj => h2 j (by omega) hj) h6).symm), trivial⟩
      · refine X1 ((i + 1 : Nat) : Int) (wI (by simp) (by omega) (by omega)) ?_
        refine ⟨i + 1, ⟨by omega, fun j hj hji => ?_⟩, by omega, ⟨rfl, rfl, rfl, trivial⟩, trivial⟩
        by_cases e : j = i
        · subst e; exact h6
        · exact h2 j hj (by omega)
    · exact ⟨(), fidx_none g l (fun j hj => h2 j hj (by omega)), trivial, trivial⟩
  · exact ⟨trivial, r1 (iE he.symm), trivial⟩
theorem blC {a b : Bool} (h : a = b) : (some (.c (.sc (.bool a))) : Option AV) = some (.c (.sc (.bool b))) := by rw [h]
def small18 (l : List Cnt) (most long : Int) : Bool := !(decide ((l.length : Int) > most)) && l.all fun x => !(decide ((x.1.length : Int) > long))
structure WLim (l : List Cnt) : Prop where
  len : l.length ≤ 140737488355328
  g : ∀ x, x ∈ l → x.1.length ≤ 140737488355328
structure WWLim (L : List (List Cnt)) : Prop where
  len : L.length ≤ 140737488355328
  l : ∀ l, l ∈ L → WLim l
theorem WLim.at' {l : List Cnt} (h : WLim l) {i : Nat} (hi : i < l.length) : l[i].1.length ≤ 140737488355328 := h.g _ (List.getElem_mem hi)
theorem WWLim.at' {L : List (List Cnt)} (h : WWLim L) {i : Nat} (hi : i < L.length) : WLim L[i] := h.l _ (List.getElem_mem hi)
theorem rsmall_ct (l : List Cnt) (most long : Int) (hl : WLim l) : Ct P 61 [.c (cSl l), .c (eI .i64 most), .c (eI .i64 long)] [.c (.sc (.bool (small18 l most long)))] := by
  have hll := hl.len
  refine Ct.go T_ok T_mix (N := 26) Tryz.func61 rfl rfl rfl rfl ?_
  refine And.intro (by rw [cRow_len]; omega) ?_
  rw [cRow_len]
  refine dcase (fun h0 => ?_) (fun h0 => ?_)
  · exact ⟨trivial, r1 (blC (by unfold small18; rw [decide_eq_true h0]; rfl)), trivial⟩
  · refine loopJ T_ok T_mix (fun i : Nat => i ≤ l.length ∧ ∀ (j : Nat) (hj : j < l.length), j < i → ¬ ((l[j].1.length : Int) > long)) (fun i => [(0, .c (cSl l)), (2, .c (eI .i64 long)), (7, .c (nI .i64 i))]) (fun _ => []) (fun i => l.length - i)
      0 ⟨by omega, fun j _ hj => by omega⟩ ⟨rfl, rfl, rfl, trivial⟩ trivial (fun _ : Unit => small18 l most long = true) (fun _ => []) (fun _ => []) (fun i hi => ?_) (fun _ he => ?_)
    · obtain ⟨h1, h2⟩ := hi
      refine And.intro (by rw [cRow_len]; omega) ?_
      rw [cRow_len]
      refine dcase (fun h5 => ?_) (fun h5 => ?_)
      · have hgl := hl.at' (i := i) (by omega)
        refine And.intro (by omega) (X1 _ (cRow_get rfl (by omega)) ?_)
        refine And.intro (by rw [iRow_len]; omega) ?_
        rw [iRow_len]
        refine dcase (fun h6 => ?_) (fun h6 => ?_)
        · refine ⟨trivial, r1 (blC ?_), trivial⟩
          unfold small18
          rw [Bool.and_comm]
          have : (l.all fun x => !(decide ((x.1.length : Int) > long))) = false := by
            rw [List.all_eq_false]
            exact ⟨l[i], List.getElem_mem _, by simp [h6]⟩
          rw [this]; rfl
        · refine X1 ((i + 1 : Nat) : Int) (wI (by simp) (by omega) (by omega)) ?_
          refine ⟨i + 1, ⟨by omega, fun j hj hji => ?_⟩, by omega, ⟨rfl, rfl, rfl, trivial⟩, trivial⟩
          by_cases e : j = i
          · subst e; exact h6
          · exact h2 j hj (by omega)
      · refine ⟨(), ?_, trivial, trivial⟩
        unfold small18
        rw [decide_eq_false h0]
        simp only [Bool.not_false, Bool.true_and, List.all_eq_true]
        intro x hx
        obtain ⟨j, hj, rfl⟩ := List.getElem_of_mem hx
        rw [decide_eq_false (h2 j hj (by omega))]; rfl
    · exact ⟨trivial, r1 (blC he.symm), trivial⟩
def small23 (L : List (List Cnt)) : Bool := !(decide ((L.length : Int) > 12)) && L.all fun l => small18 l 60 12
theorem csmall_ct (L : List (List Cnt)) (hL : WWLim L) : Ct P 25 [.c (ccSl L)] [.c (.sc (.bool (small23 L)))] := by
  have hll := hL.len
  refine Ct.go T_ok T_mix (N := 19) Tryz.func25 rfl rfl rfl rfl ?_
  refine And.intro (by rw [ccRow_len]; omega) ?_
  rw [ccRow_len]
  refine dcase (fun h0 => ?_) (fun h0 => ?_)
  · exact ⟨trivial, r1 (blC (by unfold small23; rw [decide_eq_true h0]; rfl)), trivial⟩
  · refine loopJ T_ok T_mix (fun i : Nat => i ≤ L.length ∧ ∀ (j : Nat) (hj : j < L.length), j < i → small18 L[j] 60 12 = true) (fun i => [(0, .c (ccSl L)), (3, .c (nI .i64 i))]) (fun _ => []) (fun i => L.length - i)
      0 ⟨by omega, fun j _ hj => by omega⟩ ⟨rfl, rfl, trivial⟩ trivial (fun _ : Unit => small23 L = true) (fun _ => []) (fun _ => []) (fun i hi => ?_) (fun _ he => ?_)
    · obtain ⟨h1, h2⟩ := hi
      refine And.intro (by rw [ccRow_len]; omega) ?_
      rw [ccRow_len]
      refine dcase (fun h5 => ?_) (fun h5 => ?_)
      · refine And.intro (by omega) (X1 _ (ccRow_get rfl (by omega)) ?_)
        refine X1 _ (rsmall_ct L[i] 60 12 (hL.at' (by omega))) ?_
        refine bcase (fun h6 => ?_) (fun h6 => ?_)
        · refine ⟨trivial, r1 (blC ?_), trivial⟩
          unfold small23
          rw [Bool.and_comm]
          have : (L.all fun l => small18 l 60 12) = false := by
            rw [List.all_eq_false]
            exact ⟨L[i], List.getElem_mem _, by simpa using h6⟩
          rw [this]; rfl
        · refine X1 ((i + 1 : Nat) : Int) (wI (by simp) (by omega) (by omega)) ?_
          refine ⟨i + 1, ⟨by omega, fun j hj hji => ?_⟩, by omega, ⟨rfl, rfl, trivial⟩, trivial⟩
          by_cases e : j = i
          · subst e; simpa using h6
          · exact h2 j hj (by omega)
      · refine ⟨(), ?_, trivial, trivial⟩
        unfold small23
        rw [decide_eq_false h0]
        simp only [Bool.not_false, Bool.true_and, List.all_eq_true]
        intro x hx
        obtain ⟨j, hj, rfl⟩ := List.getElem_of_mem hx
        exact h2 j hj (by omega)
    · exact ⟨trivial, r1 (blC he.symm), trivial⟩
end Go.Proofs.YtpmchgndnhgncaaGreat.Pv
namespace Go.Proofs.YtpmchgndnhgncaaGreat.Pv
open Go
def wrongL (n : Nat) : Option (List Int) → List Cnt → Int
  | _, [] => 0
  | p, x :: l => if (x.1.length : Int) ≠ n + 1 then 1 else if x.2 < 1 then 8 else if (match p with | none => false | some q => decide (lexC q x.1 ≥ 0)) = true then 9 else wrongL n (some x.1) l
def wrongLL : Nat → List (List Cnt) → Int
  | _, [] => 0
  | n, l :: ls => if wrongL n none l ≠ 0 then wrongL n none l else wrongLL (n + 1) ls
def wrong (L : List (List Cnt)) : Int := if (L.length : Int) = 0 ∨ (L.length : Int) > 8 then 1 else wrongLL 0 L
def prevG (l : List Cnt) : Nat → Option (List Int)
  | 0 => none
  | i + 1 => (l[i]?).map (·.1)
theorem wrongL_cons {n : Nat} {p : Option (List Int)} {x : Cnt} {l : List Cnt} : wrongL n p (x :: l) = if (x.1.length : Int) ≠ n + 1 then 1 else if x.2 < 1 then 8 else if (match p with | none => false | some q => decide (lexC q x.1 ≥ 0)) = true then 9 else wrongL n (some x.1) l := by cases p <;> rfl
theorem wrongL_nil {n : Nat} {p : Option (List Int)} : wrongL n p [] = 0 := by cases p <;> rfl
theorem wrongL_at {n : Nat} {l : List Cnt} {i : Nat} (h : i < l.length) : wrongL n (prevG l i) (l.drop i) = if (l[i].1.length : Int) ≠ n + 1 then 1 else if l[i].2 < 1 then 8 else if (match prevG l i with | none => false | some q => decide (lexC q l[i].1 ≥ 0)) = true then 9 else wrongL n (prevG l (i + 1)) (l.drop (i + 1)) := by
  have e : prevG l (i + 1) = some l[i].1 := by simp [prevG, h]
  rw [List.drop_eq_getElem_cons h, wrongL_cons, e]
theorem wrongLL_of {n : Nat} {L : List (List Cnt)} (h : n < L.length) {v : Int} (hv : wrongL n none L[n] = v) (h0 : v ≠ 0) : wrongLL n (L.drop n) = v := by
  rw [List.drop_eq_getElem_cons h, wrongLL, hv, if_pos h0]
theorem wrongLL_next {n : Nat} {L : List (List Cnt)} (h : n < L.length) (hv : wrongL n none L[n] = 0) : wrongLL n (L.drop n) = wrongLL (n + 1) (L.drop (n + 1)) := by
  rw [List.drop_eq_getElem_cons h, wrongLL, hv, if_neg (by simp)]
theorem wrong_ct (L : List (List Cnt)) (hL : CCLim L) : Ct P 66 [.c (ccSl L)] [.c (eI .i64 (wrong L))] := by
  have hll := hL.len
  refine Ct.go T_ok T_mix (N := 72) Tryz.func66 rfl rfl rfl rfl ?_
  refine And.intro (by rw [ccRow_len]; omega) ?_
  rw [ccRow_len]
  refine ecase (fun h0 => ?_) (fun h0 => ?_)
  · exact ⟨trivial, r1 (iE (by rw [wrong, if_pos (.inl h0)])), trivial⟩
  refine And.intro (by rw [ccRow_len]; omega) ?_
  rw [ccRow_len]
  refine dcase (fun h1 => ?_) (fun h1 => ?_)
  · exact ⟨trivial, r1 (iE (by rw [wrong, if_pos (.inr h1)])), trivial⟩
  have hw : wrong L = wrongLL 0 L := by rw [wrong, if_neg (by omega)]
  rw [hw]
  refine loopJ T_ok T_mix (fun n : Nat => n ≤ L.length ∧ wrongLL 0 L = wrongLL n (L.drop n)) (fun n => [(0, .c (ccSl L)), (3, .c (nI .i64 n))]) (fun _ => []) (fun n => L.length - n)
    0 ⟨by omega, rfl⟩ ⟨rfl, rfl, trivial⟩ trivial (fun _ : Unit => wrongLL 0 L = 0) (fun _ => []) (fun _ => []) (fun n hi => ?_) (fun _ he => ?_)
  · obtain ⟨h2, h3⟩ := hi
    refine And.intro (by rw [ccRow_len]; omega) ?_
    rw [ccRow_len]
    refine dcase (fun h4 => ?_) (fun h4 => ?_)
    · have hn : n < L.length := by omega
      have hl := hL.at' hn
      have hlen := hl.len
      have hget := ccRow_get (l := L) (i := (n : Int)) (n := n) rfl hn
      have hof := fun v => wrongLL_of (n := n) (L := L) hn (v := v)
      have hnext := wrongLL_next (n := n) (L := L) hn
      generalize L[n] = l at *
      refine loopB T_ok T_mix (fun i : Nat => i ≤ l.length ∧ wrongL n none l = wrongL n (prevG l i) (l.drop i)) (fun i => [(0, .c (ccSl L)), (3, .c (nI .i64 n)), (4, .c (nI .i64 i))]) (fun _ => []) (fun i => l.length - i)
        0 ⟨by omega, rfl⟩ ⟨rfl, rfl, rfl, trivial⟩ trivial (fun i hi => ?_)
      · obtain ⟨i1, i2⟩ := hi
        refine And.intro (by omega) (X1 _ hget ?_)
        refine And.intro (by rw [cRow_len]; omega) ?_
        rw [cRow_len]
        refine dcase (fun h5 => ?_) (fun h5 => ?_)
        · have hi : i < l.length := by omega
          have hxl := hl.at' hi
          have hx := cRow_get (l := l) (i := (i : Int)) (n := i) rfl hi
          rw [wrongL_at hi] at i2
          refine And.intro (by omega) (X1 _ hget ?_)
          refine And.intro (by omega) (X1 _ hx ?_)
          refine And.intro (by rw [iRow_len]; omega) ?_
          rw [iRow_len]
          refine X1 ((n + 1 : Nat) : Int) (wI (by simp) (by omega) (by omega)) ?_
          refine ncase (fun h6 => ?_) (fun h6 => ?_)
          · rw [if_pos (by simpa using h6)] at i2
            exact ⟨trivial, r1 (iE (by rw [h3, hof 1 i2 (by decide)])), trivial⟩
          · rw [if_neg (by simpa using h6)] at i2
            refine And.intro (by omega) (X1 _ hget ?_)
            refine And.intro (by omega) (X1 _ hx ?_)
            refine dcase (fun h7 => ?_) (fun h7 => ?_)
            · rw [if_pos h7] at i2
              exact ⟨trivial, r1 (iE (by rw [h3, hof 8 i2 (by decide)])), trivial⟩
            · rw [if_neg h7] at i2
              refine dcase (fun h8 => ?_) (fun h8 => ?_)
              · obtain ⟨j, rfl⟩ : ∃ j, i = j + 1 := ⟨i - 1, by omega⟩
                have hp : prevG l (j + 1) = some l[j].1 := by simp [prevG, (by omega : j < l.length)]
                rw [hp] at i2
                refine And.intro (by omega) (X1 _ hget ?_)
                refine X1 ((j : Nat) : Int) (wI (by omega) (by omega) (by omega)) ?_
                refine And.intro (by omega) (X1 _ (cRow_get rfl (by omega)) ?_)
                refine And.intro (by omega) (X1 _ hget ?_)
                refine And.intro (by omega) (X1 _ hx ?_)
                refine X1 _ (rcompare_ct l[j].1 l[j + 1].1 (hl.at' (by omega)) hxl) ?_
                refine And.intro rfl ?_
                refine dcase (fun h9 => ?_) (fun h9 => ?_)
                · rw [if_pos (decide_eq_true h9)] at i2
                  exact ⟨trivial, r1 (iE (by rw [h3, hof 9 i2 (by decide)])), trivial⟩
                · rw [if_neg (by simpa using h9)] at i2
                  refine X1 ((j + 1 + 1 : Nat) : Int) (wI (by simp) (by omega) (by omega)) ?_
                  exact ⟨j + 1 + 1, ⟨by omega, i2⟩, by omega, ⟨rfl, rfl, rfl, trivial⟩, trivial⟩
              · have e0 : i = 0 := by omega
                subst e0
                rw [if_neg (by simp [prevG])] at i2
                refine And.intro rfl ?_
                refine X1 ((0 + 1 : Nat) : Int) (wI (by simp) (by omega) (by omega)) ?_
                exact ⟨0 + 1, ⟨by omega, i2⟩, by omega, ⟨rfl, rfl, rfl, trivial⟩, trivial⟩
        · have e : i = l.length := by omega
          subst e
          rw [List.drop_length, wrongL_nil] at i2
          refine X1 ((n + 1 : Nat) : Int) (wI (by simp) (by omega) (by omega)) ?_
          exact ⟨n + 1, ⟨by omega, by rw [h3, hnext i2]⟩, by omega, ⟨rfl, rfl, trivial⟩, trivial⟩
    · have e : n = L.length := by omega
      subst e
      rw [List.drop_length] at h3
      exact ⟨(), h3, trivial, trivial⟩
  · rw [he]
    exact ⟨trivial, r1 rfl, trivial⟩
theorem acheck_ct (L : List (List Cnt)) (hL : CCLim L) : Ct P 105 [.c (ccSl L)] [.c (eI .i64 (wrong L))] := by
  have hll := hL.len
  refine Ct.go T_ok T_mix (N := 57) Tryz.func105 rfl rfl rfl rfl ?_
  refine And.intro (by rw [ccRow_len]; omega) ?_
  rw [ccRow_len]
  refine ecase (fun h0 => ?_) (fun h0 => ?_)
  · exact ⟨trivial, r1 (iE (by rw [wrong, if_pos (.inl h0)])), trivial⟩
  refine And.intro (by rw [ccRow_len]; omega) ?_
  rw [ccRow_len]
  refine dcase (fun h1 => ?_) (fun h1 => ?_)
  · exact ⟨trivial, r1 (iE (by rw [wrong, if_pos (.inr h1)])), trivial⟩
  have hw : wrong L = wrongLL 0 L := by rw [wrong, if_neg (by omega)]
  rw [hw]
  refine And.intro (by rw [ccRow_len]; omega) ?_
  rw [ccRow_len]
  refine loopJ T_ok T_mix (fun n : Nat => n ≤ L.length ∧ wrongLL 0 L = wrongLL n (L.drop n)) (fun n => [(15, .c (ccSl L)), (16, .c (nI .i64 L.length)), (17, .c (nI .i64 n))]) (fun _ => []) (fun n => L.length - n)
    0 ⟨by omega, rfl⟩ ⟨rfl, rfl, rfl, trivial⟩ trivial (fun _ : Unit => wrongLL 0 L = 0) (fun _ => []) (fun _ => []) (fun n hi => ?_) (fun _ he => ?_)
  · obtain ⟨h2, h3⟩ := hi
    refine dcase (fun h4 => ?_) (fun h4 => ?_)
    · have hn : n < L.length := by omega
      have hl := hL.at' hn
      have hlen := hl.len
      have hget := ccRow_get (l := L) (i := (n : Int)) (n := n) rfl hn
      have hof := fun v => wrongLL_of (n := n) (L := L) hn (v := v)
      have hnext := wrongLL_next (n := n) (L := L) hn
      generalize L[n] = l at *
      refine And.intro (by omega) (X1 _ hget ?_)
      refine And.intro (by rw [cRow_len]; omega) ?_
      rw [cRow_len]
      refine loopB T_ok T_mix (fun i : Nat => i ≤ l.length ∧ wrongL n none l = wrongL n (prevG l i) (l.drop i)) (fun i => [(3, .c (nI .i64 n)), (4, .c (cSl l)), (15, .c (ccSl L)), (16, .c (nI .i64 L.length)), (17, .c (nI .i64 n)), (22, .c (cSl l)), (23, .c (nI .i64 l.length)), (24, .c (nI .i64 i))]) (fun _ => []) (fun i => l.length - i)
        0 ⟨by omega, rfl⟩ ⟨rfl, rfl, rfl, rfl, rfl, rfl, rfl, rfl, trivial⟩ trivial (fun i hi => ?_)
      · obtain ⟨i1, i2⟩ := hi
        refine dcase (fun h5 => ?_) (fun h5 => ?_)
        · have hi : i < l.length := by omega
          have hxl := hl.at' hi
          have hx := cRow_get (l := l) (i := (i : Int)) (n := i) rfl hi
          rw [wrongL_at hi] at i2
          refine And.intro (by omega) (X1 _ hx ?_)
          refine And.intro (by rw [iRow_len]; omega) ?_
          rw [iRow_len]
          refine X1 ((n + 1 : Nat) : Int) (wI (by simp) (by omega) (by omega)) ?_
          refine ncase (fun h6 => ?_) (fun h6 => ?_)
          · rw [if_pos (by simpa using h6)] at i2
            exact ⟨trivial, r1 (iE (by rw [h3, hof 1 i2 (by decide)])), trivial⟩
          · rw [if_neg (by simpa using h6)] at i2
            refine dcase (fun h7 => ?_) (fun h7 => ?_)
            · rw [if_pos h7] at i2
              exact ⟨trivial, r1 (iE (by rw [h3, hof 8 i2 (by decide)])), trivial⟩
            · rw [if_neg h7] at i2
              refine dcase (fun h8 => ?_) (fun h8 => ?_)
              · obtain ⟨j, rfl⟩ : ∃ j, i = j + 1 := ⟨i - 1, by omega⟩
                have hp : prevG l (j + 1) = some l[j].1 := by simp [prevG, (by omega : j < l.length)]
                rw [hp] at i2
                refine X1 ((j : Nat) : Int) (wI (by omega) (by omega) (by omega)) ?_
                refine And.intro (by omega) (X1 _ (cRow_get rfl (by omega)) ?_)
                refine X1 _ (gcompare_ct l[j].1 l[j + 1].1 (hl.at' (by omega)) hxl) ?_
                refine And.intro rfl ?_
                refine dcase (fun h9 => ?_) (fun h9 => ?_)
                · rw [if_pos (decide_eq_true h9)] at i2
                  exact ⟨trivial, r1 (iE (by rw [h3, hof 9 i2 (by decide)])), trivial⟩
                · rw [if_neg (by simpa using h9)] at i2
                  refine X1 ((j + 1 + 1 : Nat) : Int) (wI (by simp) (by omega) (by omega)) ?_
                  exact ⟨j + 1 + 1, ⟨by omega, i2⟩, by omega, ⟨rfl, rfl, rfl, rfl, rfl, rfl, rfl, rfl, trivial⟩, trivial⟩
              · have e0 : i = 0 := by omega
                subst e0
                rw [if_neg (by simp [prevG])] at i2
                refine And.intro rfl ?_
                refine X1 ((0 + 1 : Nat) : Int) (wI (by simp) (by omega) (by omega)) ?_
                exact ⟨0 + 1, ⟨by omega, i2⟩, by omega, ⟨rfl, rfl, rfl, rfl, rfl, rfl, rfl, rfl, trivial⟩, trivial⟩
        · have e : i = l.length := by omega
          subst e
          rw [List.drop_length, wrongL_nil] at i2
          refine X1 ((n + 1 : Nat) : Int) (wI (by simp) (by omega) (by omega)) ?_
          exact ⟨n + 1, ⟨by omega, by rw [h3, hnext i2]⟩, by omega, ⟨rfl, rfl, rfl, trivial⟩, trivial⟩
    · have e : n = L.length := by omega
      subst e
      rw [List.drop_length] at h3
      exact ⟨(), h3, trivial, trivial⟩
  · rw [he]
    exact ⟨trivial, r1 rfl, trivial⟩
def mx0 (x : Int) : Int := if 0 > x then 0 else x
def mayL : Int → List Cnt → Option Int
  | left, [] => some left
  | left, x :: l => if x.2 > left then none else mayL (left - mx0 x.2) l
def mayLL : Int → List (List Cnt) → Option Int
  | left, [] => some left
  | left, l :: ls => (mayL left l).bind fun left => mayLL left ls
theorem mayL_at {a : Int} {l : List Cnt} {i : Nat} (h : i < l.length) : mayL a (l.drop i) = if l[i].2 > a then none else mayL (a - mx0 l[i].2) (l.drop (i + 1)) := by
  rw [List.drop_eq_getElem_cons h, mayL]
theorem mayLL_at {a : Int} {L : List (List Cnt)} {n : Nat} (h : n < L.length) : mayLL a (L.drop n) = (mayL a L[n]).bind fun b => mayLL b (L.drop (n + 1)) := by
  rw [List.drop_eq_getElem_cons h, mayLL]
theorem may_ct (L : List (List Cnt)) (hL : CCLim L) : Ct P 26 [.c (ccSl L)] [.c (.sc (.bool (mayLL 1099511627776 L).isSome))] := by
  have hll := hL.len
  refine Ct.go T_ok T_mix (N := 42) Tryz.func26 rfl rfl rfl rfl ?_
  refine loopJ T_ok T_mix (G := Nat × Int) (fun (n, a) => n ≤ L.length ∧ 0 ≤ a ∧ a ≤ 1099511627776 ∧ mayLL 1099511627776 L = mayLL a (L.drop n)) (fun (n, a) => [(0, .c (ccSl L)), (3, .c (eI .i64 a)), (4, .c (nI .i64 n))]) (fun _ => []) (fun (n, _) => L.length - n)
    (0, 1099511627776) ⟨by omega, by omega, by omega, rfl⟩ ⟨rfl, rfl, rfl, trivial⟩ trivial (fun _ : Unit => (mayLL 1099511627776 L).isSome = true) (fun _ => []) (fun _ => []) (fun (n, a) hi => ?_) (fun _ he => ?_)
  · obtain ⟨h2, h3, h3', h6⟩ := hi
    refine And.intro (by rw [ccRow_len]; omega) ?_
    rw [ccRow_len]
    refine dcase (fun h4 => ?_) (fun h4 => ?_)
    · have hn : n < L.length := by omega
      have hl := hL.at' hn
      have hlen := hl.len
      have hget := ccRow_get (l := L) (i := (n : Int)) (n := n) rfl hn
      rw [mayLL_at hn] at h6
      generalize L[n] = l at *
      refine loopB T_ok T_mix (G := Nat × Int) (fun (i, b) => i ≤ l.length ∧ 0 ≤ b ∧ b ≤ 1099511627776 ∧ mayL a l = mayL b (l.drop i)) (fun (i, b) => [(0, .c (ccSl L)), (3, .c (eI .i64 b)), (4, .c (nI .i64 n)), (5, .c (nI .i64 i))]) (fun _ => []) (fun (i, _) => l.length - i)
        (0, a) ⟨by omega, h3, h3', rfl⟩ ⟨rfl, rfl, rfl, rfl, trivial⟩ trivial (fun (i, b) hi => ?_)
      obtain ⟨i1, i2, i3, i4⟩ := hi
      refine And.intro (by omega) (X1 _ hget ?_)
      refine And.intro (by rw [cRow_len]; omega) ?_
      rw [cRow_len]
      refine dcase (fun h5 => ?_) (fun h5 => ?_)
      · have hi : i < l.length := by omega
        have hx := cRow_get (l := l) (i := (i : Int)) (n := i) rfl hi
        rw [mayL_at hi] at i4
        generalize l[i] = x at *
        refine And.intro (by omega) (X1 _ hget ?_)
        refine And.intro (by omega) (X1 _ hx ?_)
        refine dcase (fun h7 => ?_) (fun h7 => ?_)
        · rw [if_pos h7] at i4
          exact ⟨trivial, r1 (blC (by rw [h6, i4]; rfl)), trivial⟩
        · rw [if_neg h7] at i4
          refine And.intro (by omega) (X1 _ hget ?_)
          refine And.intro (by omega) (X1 _ hx ?_)
          have hm : 0 ≤ mx0 x.2 ∧ mx0 x.2 ≤ b := by unfold mx0; split <;> omega
          refine X1 (b - mx0 x.2) (wI rfl (by omega) (by omega)) ?_
          refine X1 ((i + 1 : Nat) : Int) (wI (by simp) (by omega) (by omega)) ?_
          exact ⟨(i + 1, b - mx0 x.2), ⟨by omega, by omega, by omega, i4⟩, by show _ - (i + 1) < _ - i; omega, ⟨rfl, rfl, rfl, rfl, trivial⟩, trivial⟩
      · have e : i = l.length := by omega
        subst e
        rw [List.drop_length, mayL] at i4
        rw [i4] at h6
        refine X1 ((n + 1 : Nat) : Int) (wI (by simp) (by omega) (by omega)) ?_
        exact ⟨(n + 1, b), ⟨by omega, i2, i3, h6⟩, by show _ - (n + 1) < _ - n; omega, ⟨rfl, rfl, rfl, trivial⟩, trivial⟩
    · have e : n = L.length := by omega
      subst e
      rw [List.drop_length, mayLL] at h6
      exact ⟨(), by rw [h6]; rfl, trivial, trivial⟩
  · exact ⟨trivial, r1 (blC he.symm), trivial⟩
end Go.Proofs.YtpmchgndnhgncaaGreat.Pv
namespace Go.Proofs.YtpmchgndnhgncaaGreat.Pv
open Go
theorem iRow_sub {l : List Int} {a b : Nat} : ((iRow l).drop a).take b = iRow ((l.drop a).take b) := by simp [iRow, List.map_take, List.map_drop]
def ahead (l : List Cnt) (g : List Int) : Nat := (l.filter fun x => decide (x.1.length = g.length + 1) && decide (x.1.drop 1 = g)).length
theorem ahead_ct (l : List Cnt) (g : List Int) (hl : CLim l) (hg : g.length ≤ 1000000) : Ct P 113 [.c (cSl l), .c (iSl g)] [.c (nI .i64 (ahead l g))] := by
  have hll := hl.len
  refine Ct.go T_ok T_mix (N := 36) Tryz.func113 rfl rfl rfl rfl ?_
  refine loopJ T_ok T_mix (fun i : Nat => i ≤ l.length) (fun i => [(0, .c (cSl l)), (1, .c (iSl g)), (5, .c (nI .i64 (ahead (l.take i) g))), (6, .c (nI .i64 i))]) (fun _ => []) (fun i => l.length - i)
    0 (by omega) ⟨rfl, rfl, rfl, rfl, trivial⟩ trivial (fun _ : Unit => True) (fun _ => [(5, .c (nI .i64 (ahead l g)))]) (fun _ => []) (fun i hi => ?_) (fun _ _ => ?_)
  · refine And.intro (by rw [cRow_len]; omega) ?_
    rw [cRow_len]
    refine dcase (fun h5 => ?_) (fun h5 => ?_)
    · have hi' : i < l.length := by omega
      have hxl := hl.at' hi'
      have hx := cRow_get (l := l) (i := (i : Int)) (n := i) rfl hi'
      have hs : ahead (l.take (i + 1)) g = ahead (l.take i) g + (if l[i].1.length = g.length + 1 ∧ l[i].1.drop 1 = g then 1 else 0) := by
        unfold ahead
        rw [List.take_succ_eq_append_getElem hi', List.filter_append, List.length_append]
        congr 1
        by_cases h1 : l[i].1.length = g.length + 1
        · by_cases h2 : l[i].1.drop 1 = g
          · rw [List.filter_cons_of_pos (by rw [decide_eq_true h1, decide_eq_true h2]; rfl), if_pos ⟨h1, h2⟩]; rfl
          · rw [List.filter_cons_of_neg (by rw [decide_eq_true h1, decide_eq_false h2]; simp), if_neg (fun h => h2 h.2)]; rfl
        · rw [List.filter_cons_of_neg (by rw [decide_eq_false h1]; simp), if_neg (fun h => h1 h.1)]; rfl
      have ha : ahead (l.take i) g ≤ i := by
        unfold ahead
        refine Nat.le_trans (List.length_filter_le _ _) ?_
        rw [List.length_take]; omega
      generalize l[i] = x at *
      refine And.intro (by omega) (X1 _ hx ?_)
      refine And.intro (by rw [iRow_len]; omega) ?_
      refine And.intro (by rw [iRow_len]; omega) ?_
      rw [iRow_len, iRow_len]
      refine X1 ((g.length + 1 : Nat) : Int) (wI (by simp) (by omega) (by omega)) ?_
      refine ecase (fun h6 => ?_) (fun h6 => ?_)
      · have h6' : x.1.length = g.length + 1 := by omega
        refine And.intro (by omega) (X1 _ hx ?_)
        refine ⟨1, x.1.length, by simp, by simp [iRow_len], by omega, by rw [iRow_len]; omega, ?_⟩
        rw [iRow_sub, List.take_of_length_le (show (x.1.drop 1).length ≤ x.1.length - 1 by rw [List.length_drop]; exact Nat.le_refl _)]
        refine X1 _ (ints_ct _ g (by rw [List.length_drop]; omega) hg) ?_
        refine dcase (fun h7 => ?_) (fun h7 => ?_)
        · rw [if_pos ⟨h6', h7⟩] at hs
          refine X1 ((ahead (l.take i) g + 1 : Nat) : Int) (wI (by simp) (by omega) (by omega)) ?_
          refine X1 ((i + 1 : Nat) : Int) (wI (by simp) (by omega) (by omega)) ?_
          exact ⟨i + 1, by omega, by omega, ⟨rfl, rfl, by rw [hs]; rfl, rfl, trivial⟩, trivial⟩
        · rw [if_neg (fun h => h7 h.2)] at hs
          refine X1 ((i + 1 : Nat) : Int) (wI (by simp) (by omega) (by omega)) ?_
          exact ⟨i + 1, by omega, by omega, ⟨rfl, rfl, by rw [hs]; rfl, rfl, trivial⟩, trivial⟩
      · rw [if_neg (fun h => h6 (by omega))] at hs
        refine X1 ((i + 1 : Nat) : Int) (wI (by simp) (by omega) (by omega)) ?_
        exact ⟨i + 1, by omega, by omega, ⟨rfl, rfl, by rw [hs]; rfl, rfl, trivial⟩, trivial⟩
    · have e : i = l.length := by omega
      subst e
      rw [List.take_length]
      exact ⟨(), trivial, ⟨rfl, trivial⟩, trivial⟩
  · exact ⟨trivial, r1 rfl, trivial⟩
def cnt1 (L : List (List Cnt)) (n : Nat) (x : Cnt) : Cnt := if n + 1 < L.length ∧ x.1.getD 0 0 ≠ 1 then (x.1, (ahead (L.getD (n + 1) []) x.1 : Int)) else x
def counts (L : List (List Cnt)) : List (List Cnt) := (List.range L.length).map fun n => (L.getD n []).map (cnt1 L n)
structure CCForm (L : List (List Cnt)) : Prop where
  lim : CCLim L
  form : ∀ (n : Nat) (h : n < L.length) (i : Nat) (hi : i < L[n].length), L[n][i].1.length = n + 1
theorem cRow_closed {l : List Cnt} : closedLL (cRow l) := by
  intro el h
  obtain ⟨x, _, rfl⟩ := List.mem_map.1 h
  rfl
theorem ccRow_closed {l : List (List Cnt)} : closedLL (ccRow l) := by
  intro el h
  obtain ⟨x, _, rfl⟩ := List.mem_map.1 h
  rfl
theorem cRow_app {l m : List Cnt} : cRow l ++ cRow m = cRow (l ++ m) := by simp [cRow]
theorem ccRow_app {l m : List (List Cnt)} : ccRow l ++ ccRow m = ccRow (l ++ m) := by simp [ccRow]
theorem one_closed {el : List PC} (h : closedL el = true) : closedLL [el] := by
  intro e he
  simp only [List.mem_singleton] at he
  subst he; exact h
theorem rcounts_ct (L : List (List Cnt)) (hL : CCForm L) (hl8 : L.length ≤ 1000) : Ct P 67 [.c (ccSl L)] [.c (ccSl (counts L))] := by
  refine Ct.go T_ok T_mix (N := 60) Tryz.func67 rfl rfl rfl rfl ?_
  refine nilC (r := 50) (t := 3) (sz := 1) rfl rfl ?_
  refine loopJ T_ok T_mix (fun n : Nat => n ≤ L.length) (fun n => [(0, .c (ccSl L)), (3, .c (.ow 50 1 n)), (4, .c (nI .i64 n))]) (fun n => [(50, .row 1 (ccRow ((List.range n).map fun n => (L.getD n []).map (cnt1 L n))))]) (fun n => L.length - n)
    0 (by omega) ⟨rfl, rfl, rfl, trivial⟩ ⟨rfl, trivial⟩ (fun _ : Unit => True) (fun _ => [(3, .c (.ow 50 1 L.length))]) (fun _ => [(50, .row 1 (ccRow (counts L)))]) (fun n hi => ?_) (fun _ he => ?_)
  · refine And.intro (by rw [ccRow_len]; omega) ?_
    rw [ccRow_len]
    refine dcase (fun h4 => ?_) (fun h4 => ?_)
    · have hn : n < L.length := by omega
      have hl := hL.lim.at' hn
      have hlen := hl.len
      have hget := ccRow_get (l := L) (i := (n : Int)) (n := n) rfl hn
      have hform := hL.form n hn
      have hgd : L.getD n [] = L[n] := by simp [List.getD_eq_getElem?_getD, hn]
      refine nilC (r := 51) (t := 5) (sz := 2) rfl rfl ?_
      refine loopW T_ok T_mix (fun i : Nat => i ≤ L[n].length) (fun i => [(0, .c (ccSl L)), (3, .c (.ow 50 1 n)), (4, .c (nI .i64 n)), (5, .c (.ow 51 2 i)), (6, .c (nI .i64 i))])
        (fun i => [(50, .row 1 (ccRow ((List.range n).map fun n => (L.getD n []).map (cnt1 L n)))), (51, .row 2 (cRow ((L[n].take i).map (cnt1 L n))))]) (fun i => L[n].length - i)
        0 (by omega) ⟨rfl, rfl, rfl, rfl, rfl, trivial⟩ ⟨rfl, rfl, trivial⟩ (fun _ : Unit => True) (fun _ => [(0, .c (ccSl L)), (3, .c (.ow 50 1 n)), (4, .c (nI .i64 n)), (5, .c (.ow 51 2 L[n].length))])
        (fun _ => [(50, .row 1 (ccRow ((List.range n).map fun n => (L.getD n []).map (cnt1 L n)))), (51, .row 2 (cRow (L[n].map (cnt1 L n))))]) (fun i hi => ?_) (fun _ _ => ?_)
      · refine And.intro (by omega) (X1 _ hget ?_)
        refine And.intro (by rw [cRow_len]; omega) ?_
        rw [cRow_len]
        refine dcase (fun h5 => ?_) (fun h5 => ?_)
        · have hi' : i < L[n].length := by omega
          have hxl := hl.at' hi'
          have hxf := hform i hi'
          have hx := cRow_get (l := L[n]) (i := (i : Int)) (n := i) rfl hi'
          have e0 : (cRow ((L[n].take i).map (cnt1 L n))).length = i := by rw [cRow_len, List.length_map, List.length_take]; omega
          have e1 : (L[n].take (i + 1)).map (cnt1 L n) = (L[n].take i).map (cnt1 L n) ++ [cnt1 L n L[n][i]] := by
            rw [List.take_succ_eq_append_getElem hi', List.map_append]; rfl
          generalize L[n][i] = x at *
          refine And.intro (by omega) (X1 _ hget ?_)
          refine And.intro (by omega) (X1 _ hx ?_)
          refine And.intro (by rw [ccRow_len]; omega) ?_
          rw [ccRow_len]
          refine X1 ((L.length : Int) - 1) (wI rfl (by omega) (by omega)) ?_
          refine dcase (fun h6 => ?_) (fun h6 => ?_)
          · refine And.intro (by omega) (X1 _ (iRow_getN (n := 0) rfl (by omega)) ?_)
            refine ncase (fun h7 => ?_) (fun h7 => ?_)
            · have hc : cnt1 L n x = (x.1, (ahead L[n + 1] x.1 : Int)) := by
                have : L.getD (n + 1) [] = L[n + 1] := by simp [List.getD_eq_getElem?_getD, (by omega : n + 1 < L.length)]
                rw [cnt1, if_pos ⟨by omega, h7⟩, this]
              rw [hc] at e1
              refine X1 ((n + 1 : Nat) : Int) (wI (by simp) (by omega) (by omega)) ?_
              refine And.intro (by omega) (X1 _ (ccRow_get rfl (by omega)) ?_)
              refine X1 _ (ahead_ct L[n + 1] x.1 (hL.lim.at' (by omega)) hxl) ?_
              refine And.intro rfl ?_
              refine ⟨e0.symm, by rw [e0]; show (i + 1 + 768) * 32 ≤ _; omega, by rw [e0]; show i + 1 ≤ _; omega, cRow_closed, one_closed rfl, ?_⟩
              refine X1 ((i + 1 : Nat) : Int) (wI (by simp) (by omega) (by omega)) ?_
              exact ⟨i + 1, by omega, by omega, ⟨rfl, rfl, rfl, owE (by rw [List.length_append, e0]; rfl), rfl, trivial⟩, ⟨rfl, rowE (by rw [e1, ← cRow_app]; rfl), trivial⟩⟩
            · have hc : cnt1 L n x = x := by rw [cnt1, if_neg (fun h => h.2 h7)]
              rw [hc] at e1
              refine ⟨e0.symm, by rw [e0]; show (i + 1 + 768) * 32 ≤ _; omega, by rw [e0]; show i + 1 ≤ _; omega, cRow_closed, one_closed rfl, ?_⟩
              refine X1 ((i + 1 : Nat) : Int) (wI (by simp) (by omega) (by omega)) ?_
              exact ⟨i + 1, by omega, by omega, ⟨rfl, rfl, rfl, owE (by rw [List.length_append, e0]; rfl), rfl, trivial⟩, ⟨rfl, rowE (by rw [e1, ← cRow_app]; rfl), trivial⟩⟩
          · have hc : cnt1 L n x = x := by rw [cnt1, if_neg (fun h => h6 (by omega))]
            rw [hc] at e1
            refine ⟨e0.symm, by rw [e0]; show (i + 1 + 768) * 32 ≤ _; omega, by rw [e0]; show i + 1 ≤ _; omega, cRow_closed, one_closed rfl, ?_⟩
            refine X1 ((i + 1 : Nat) : Int) (wI (by simp) (by omega) (by omega)) ?_
            exact ⟨i + 1, by omega, by omega, ⟨rfl, rfl, rfl, owE (by rw [List.length_append, e0]; rfl), rfl, trivial⟩, ⟨rfl, rowE (by rw [e1, ← cRow_app]; rfl), trivial⟩⟩
        · have e : i = L[n].length := by omega
          subst e
          exact ⟨(), trivial, ⟨rfl, rfl, rfl, rfl, trivial⟩, ⟨rfl, rowE (by rw [List.take_length]), trivial⟩⟩
      · refine frzC T_ok T_mix [51] ?_
        have e0 : (ccRow ((List.range n).map fun n => (L.getD n []).map (cnt1 L n))).length = n := by rw [ccRow_len, List.length_map, List.length_range]
        have e1 : (List.range (n + 1)).map (fun n => (L.getD n []).map (cnt1 L n)) = (List.range n).map (fun n => (L.getD n []).map (cnt1 L n)) ++ [L[n].map (cnt1 L n)] := by
          rw [List.range_succ, List.map_append, ← hgd]; rfl
        refine ⟨e0.symm, by rw [e0]; show (n + 1 + 768) * 24 ≤ _; omega, by rw [e0]; show n + 1 ≤ _; omega, ccRow_closed, one_closed rfl, ?_⟩
        refine X1 ((n + 1 : Nat) : Int) (wI (by simp) (by omega) (by omega)) ?_
        exact ⟨n + 1, by omega, by omega, ⟨rfl, owE (by rw [List.length_append, e0]; rfl), rfl, trivial⟩, ⟨rowE (by rw [e1, ← ccRow_app]; rfl), trivial⟩⟩
    · have e : n = L.length := by omega
      subst e
      exact ⟨(), trivial, ⟨rfl, trivial⟩, ⟨rfl, trivial⟩⟩
  · exact ⟨trivial, r1 rfl, trivial⟩
end Go.Proofs.YtpmchgndnhgncaaGreat.Pv
namespace Go.Proofs.YtpmchgndnhgncaaGreat.Pv
open Go
theorem dg_getD {B : Nat} (hB : 2 ≤ B) : ∀ (i n : Nat), (dg B n).getD i 0 = n / B ^ i % B
  | i, n => by
    by_cases h0 : n = 0
    · subst h0; rw [dg_zero]; simp
    · rw [dg_pos hB h0]
      cases i with
      | zero => simp
      | succ i =>
        rw [List.getD_cons_succ, dg_getD hB i (n / B), Nat.div_div_eq_div_mul, Nat.pow_succ, Nat.mul_comm B]
theorem byte_word (n i : Nat) : (n / 18446744073709551616 ^ (i / 8) % 18446744073709551616) / 2 ^ (8 * (i % 8)) % 256 = n / 256 ^ i % 256 := by
  have hr : i % 8 < 8 := Nat.mod_lt _ (by omega)
  have e1 : (18446744073709551616 : Nat) = 2 ^ (8 * (i % 8)) * (256 * 256 ^ (7 - i % 8)) := by
    have : (2 : Nat) ^ (8 * (i % 8)) = 256 ^ (i % 8) := by rw [Nat.pow_mul]
    rw [this, ← Nat.mul_assoc, ← Nat.pow_succ, ← Nat.pow_add]
    have : i % 8 + 1 + (7 - i % 8) = 8 := by omega
    rw [this]
  have e2 : (18446744073709551616 : Nat) ^ (i / 8) = 256 ^ (8 * (i / 8)) := by rw [Nat.pow_mul]
  rw [e2]
  generalize hm : n / 256 ^ (8 * (i / 8)) = m
  have e3 : m % 18446744073709551616 / 2 ^ (8 * (i % 8)) = m / 2 ^ (8 * (i % 8)) % (256 * 256 ^ (7 - i % 8)) := by
    conv => lhs; rw [e1]
    exact Nat.mod_mul_right_div_self _ _ _
  rw [e3, Nat.mod_mod_of_dvd _ (Nat.dvd_mul_right _ _), ← hm, Nat.div_div_eq_div_mul]
  congr 2
  have : (2 : Nat) ^ (8 * (i % 8)) = 256 ^ (i % 8) := by rw [Nat.pow_mul]
  rw [this, ← Nat.pow_add]
  congr 1
  omega
theorem len_blen (n : Nat) : (blen n + 7) / 8 = (dg 256 n).length := by
  have h1 : (dg 256 n).length ≤ (blen n + 7) / 8 := by
    refine dg_len (by omega) (Nat.lt_of_lt_of_le (lt_blen n) ?_)
    rw [show (256 : Nat) = 2 ^ 8 by rfl, ← Nat.pow_mul]
    exact Nat.pow_le_pow_right (by omega) (by omega)
  have h2 : blen n ≤ 8 * (dg 256 n).length := by
    apply blen_le
    rw [Nat.pow_mul]
    exact lt_dg_len (by omega) n
  omega
def bN (l : List Nat) : List (List PC) := l.reverse.map fun b : Nat => [.sc (.int .u8 (b : Int))]
theorem bN_snoc (x : Nat) (l : List Nat) : bN (x :: l) = bN l ++ [[.sc (.int .u8 (x : Int))]] := by simp [bN]
theorem bN_len (l : List Nat) : (bN l).length = l.length := by simp [bN]
theorem bN_closed (l : List Nat) : closedLL (bN l) := by
  intro el h
  obtain ⟨x, _, rfl⟩ := List.mem_map.1 h
  rfl
theorem rbytes_ct (n : Nat) (hn : (dg 256 n).length ≤ 1000000) : Ct P 93 [.c (dV n)] [.c (.sl 1 (bN (dg 256 n)))] := by
  have hd := dig_dg (B := 256) (by omega) n
  show Ct P 93 [.c (nSl .i64 (dg 256 n))] [.c (.sl 1 (bN (dg 256 n)))]
  generalize dg 256 n = l at *
  refine Ct.go T_ok T_mix (N := 21) Tryz.func93 rfl rfl rfl rfl ?_
  refine And.intro (by rw [nRow_len]; omega) ?_
  rw [nRow_len]
  refine X1 ((l.length : Int) - 1) (wI rfl (by omega) (by omega)) ?_
  refine nilC (r := 25) (t := 3) (sz := 1) rfl rfl ?_
  refine loopJ T_ok T_mix (fun j : Nat => j ≤ l.length) (fun j => [(0, .c (nSl .i64 l)), (3, .c (.ow 25 1 (l.length - j))), (4, .c (eI .i64 ((j : Int) - 1)))]) (fun j => [(25, .row 1 (bN (l.drop j)))]) (fun j => j)
    l.length (by omega) ⟨rfl, owE (by omega), rfl, trivial⟩ ⟨rowE (by simp [bN]), trivial⟩ (fun _ : Unit => True) (fun _ => [(3, .c (.ow 25 1 l.length))]) (fun _ => [(25, .row 1 (bN l))]) (fun j hj => ?_) (fun _ _ => ?_)
  · refine dcase (fun h1 => ?_) (fun h1 => ?_)
    · have h2 : (0 : Int) ≤ (j : Int) - 1 := h1
      obtain ⟨i, rfl⟩ : ∃ i, j = i + 1 := ⟨j - 1, by omega⟩
      have hi : i < l.length := by omega
      have hx : l.getD i 0 < 256 := hd.getD (by omega) i
      have hdrop : l.drop i = l.getD i 0 :: l.drop (i + 1) := by rw [List.drop_eq_getElem_cons hi]; simp [List.getD_eq_getElem?_getD, hi]
      refine And.intro (by omega) (X1 _ (nRow_getN (n := i) (by omega) hi) ?_)
      refine X1 (l.getD i 0 : Int) (wrap_of_inR ⟨by show (0 : Int) ≤ _; omega, by show _ ≤ (255 : Int); omega⟩) ?_
      refine ⟨by rw [bN_len, List.length_drop], by rw [bN_len, List.length_drop]; show (l.length - (i + 1) + 1 + 768) * 1 ≤ _; omega, by rw [bN_len, List.length_drop]; show l.length - (i + 1) + 1 ≤ _; omega, bN_closed _, one_closed rfl, ?_⟩
      refine X1 ((i : Int) - 1) (wI (by omega) (by omega) (by omega)) ?_
      refine ⟨i, by omega, by omega, ⟨rfl, owE (by rw [List.length_append, bN_len, List.length_drop]; show l.length - (i + 1) + 1 = _; omega), rfl, trivial⟩, ⟨rowE (by rw [hdrop, bN_snoc]; rfl), trivial⟩⟩
    · have h2 : ¬ (0 : Int) ≤ (j : Int) - 1 := h1
      have e : j = 0 := by omega
      subst e
      exact ⟨(), trivial, ⟨rfl, trivial⟩, ⟨rfl, trivial⟩⟩
  · exact ⟨trivial, r1 rfl, trivial⟩
end Go.Proofs.YtpmchgndnhgncaaGreat.Pv
namespace Go.Proofs.YtpmchgndnhgncaaGreat.Pv
open Go
theorem nsub_err (a b : Nat) (hab : a < b) (ha : (dg 18446744073709551616 a).length ≤ 1000000) (hb : (dg 18446744073709551616 b).length ≤ 1000000) : Ct P 87 [nV a, nV b] [nV 0, .c (eI .i64 8)] := by
  refine Ct.go T_ok T_mix (N := 52) Tryz.func87 rfl rfl rfl rfl ?_
  refine X1 _ (ncmp_ct a b ha hb) ?_
  refine btrue (decide_eq_true (by unfold cmpI; rw [if_pos (by omega)]; decide)) ?_
  exact ⟨trivial, ⟨_, rfl, nilNV⟩, r1 rfl, trivial⟩
theorem qless_err (a b c d : Nat) (h1 : LimQ a b) (h2 : LimQ c d) (hlt : a * dn d < c * dn b) : Ct P 46 [qV a b, qV c d] [qV 0 1] := by
  obtain ⟨n1, k1⟩ := h1
  obtain ⟨n2, k2⟩ := h2
  have l1 := dn_len (by omega) k1
  have l2 := dn_len (by omega) k2
  refine Ct.go T_ok T_mix (N := 31) Tryz.func46 rfl rfl rfl rfl ?_
  refine X1 _ (qnum_ct a b) (X1 _ (qden_ct c d (by omega)) (X1 _ (nmul_ct a (dn d) (by omega) (by omega)) ?_))
  refine X1 _ (qnum_ct c d) (X1 _ (qden_ct a b (by omega)) (X1 _ (nmul_ct c (dn b) (by omega) (by omega)) ?_))
  have m1 := nmul_len n1 l2
  have m2 := nmul_len n2 l1
  refine X1 _ (nsub_err _ _ hlt (by omega) (by omega)) ?_
  refine And.intro rfl ?_
  refine X1 _ (qint_ct 0 (by omega)) ?_
  exact ⟨trivial, rc rfl, trivial⟩
end Go.Proofs.YtpmchgndnhgncaaGreat.Pv
namespace Go.Proofs.YtpmchgndnhgncaaGreat.Pv
open Go
def wh (n : Int) : Nat := n.toNat
theorem whole_ct (n : Int) (hn : n < 9223372036854775808) : Ct P 109 [.c (eI .i64 n)] [qV (wh n) 1] := by
  refine Ct.go T_ok T_mix (N := 7) Tryz.func109 rfl rfl rfl rfl ?_
  have e : (if (0 : Int) > n then 0 else n) = ((wh n : Nat) : Int) := by unfold wh; split <;> omega
  have hw : wh n < 18446744073709551616 := by unfold wh; omega
  refine X1 ((wh n : Nat) : Int) (by rw [e]; exact wU rfl (by omega) (by omega)) ?_
  refine X1 _ (qint_ct (wh n) hw) ?_
  exact ⟨trivial, rc rfl, trivial⟩
theorem dby_ct (a b c d : Nat) (h1 : LimQ a b) (h2 : LimQ c d) (hc : c ≠ 0) : Ct P 110 [qV a b, qV c d] [qR (a * dn d) (dn b * c)] := by
  refine Ct.go T_ok T_mix (N := 17) Tryz.func110 rfl rfl rfl rfl ?_
  refine X1 _ (qdiv_ct a b c d h1 h2 hc) ?_
  exact ⟨trivial, rc rfl, trivial⟩
end Go.Proofs.YtpmchgndnhgncaaGreat.Pv
namespace Go.Proofs.YtpmchgndnhgncaaGreat.Pv
open Go
def gR (n d : Nat) : Nat × Nat := (n / Nat.gcd n d, d / Nat.gcd n d)
def gMul (p q : Nat × Nat) : Nat × Nat := gR (p.1 * q.1) (dn p.2 * dn q.2)
def gDiv (p q : Nat × Nat) : Nat × Nat := gR (p.1 * dn q.2) (dn p.2 * q.1)
def gSub (p q : Nat × Nat) : Nat × Nat := if p.1 * dn q.2 < q.1 * dn p.2 then (0, 1) else gR (p.1 * dn q.2 - q.1 * dn p.2) (dn p.2 * dn q.2)
abbrev qP (p : Nat × Nat) : A1 := qV p.1 p.2
structure Bg (k : Nat) (p : Nat × Nat) : Prop where
  n : p.1 < 2 ^ k
  d : p.2 < 2 ^ k
theorem pow_le_w {k n : Nat} (h : k ≤ 64 * n) : 2 ^ k ≤ 18446744073709551616 ^ n := by
  rw [w_pow]
  exact Nat.pow_le_pow_right (by omega) h
theorem Bg.lim {k : Nat} {p : Nat × Nat} (h : Bg k p) (hk : k ≤ 2000000) : LimQ p.1 p.2 := by
  obtain ⟨N, hN⟩ : ∃ N, N = 40000 := ⟨_, rfl⟩
  have e : 2 ^ k ≤ 18446744073709551616 ^ N := pow_le_w (by omega)
  have a1 := dg_len (by omega) (Nat.lt_of_lt_of_le h.n e)
  have a2 := dg_len (by omega) (Nat.lt_of_lt_of_le h.d e)
  rw [hN] at a1 a2
  exact ⟨a1, a2⟩
theorem Bg.dn {k : Nat} {p : Nat × Nat} (h : Bg k p) (hk : 1 ≤ k) : dn p.2 < 2 ^ k := by
  unfold Pv.dn
  split
  · have := Nat.pow_le_pow_right (show 0 < 2 by omega) hk
    omega
  · exact h.d
theorem gmul_ct {k m : Nat} {p q : Nat × Nat} (h1 : Bg k p) (h2 : Bg m q) (hk : k ≤ 2000000) (hm : m ≤ 2000000) : Ct P 24 [qP p, qP q] [qP (gMul p q)] := qmul_ct _ _ _ _ (h1.lim hk) (h2.lim hm)
theorem gdiv_ct {k m : Nat} {p q : Nat × Nat} (h1 : Bg k p) (h2 : Bg m q) (hq : q.1 ≠ 0) (hk : k ≤ 2000000) (hm : m ≤ 2000000) : Ct P 83 [qP p, qP q] [qP (gDiv p q), .c (eI .i64 0)] := qdiv_ct _ _ _ _ (h1.lim hk) (h2.lim hm) hq
theorem gby_ct {k m : Nat} {p q : Nat × Nat} (h1 : Bg k p) (h2 : Bg m q) (hq : q.1 ≠ 0) (hk : k ≤ 2000000) (hm : m ≤ 2000000) : Ct P 110 [qP p, qP q] [qP (gDiv p q)] := dby_ct _ _ _ _ (h1.lim hk) (h2.lim hm) hq
theorem gsub_ct {k m : Nat} {p q : Nat × Nat} (h1 : Bg k p) (h2 : Bg m q) (hk : k ≤ 2000000) (hm : m ≤ 2000000) : Ct P 46 [qP p, qP q] [qP (gSub p q)] := by
  unfold gSub
  split
  · rename_i h
    exact qless_err _ _ _ _ (h1.lim hk) (h2.lim hm) h
  · rename_i h
    exact qless_ct _ _ _ _ (h1.lim hk) (h2.lim hm) (Nat.le_of_not_lt h)
end Go.Proofs.YtpmchgndnhgncaaGreat.Pv
namespace Go.Proofs.YtpmchgndnhgncaaGreat.Pv
open Go
def fR (n d : Nat) : Nat × Nat := (n / Nat.gcd n d, d / Nat.gcd n d)
def fMul (p q : Nat × Nat) : Nat × Nat := fR (p.1 * q.1) (p.2 * q.2)
def fDiv (p q : Nat × Nat) : Nat × Nat := fR (p.1 * q.2) (p.2 * q.1)
def fAdd (p q : Nat × Nat) : Nat × Nat := fR (p.1 * q.2 + q.1 * p.2) (p.2 * q.2)
def fSub (p q : Nat × Nat) : Nat × Nat := fR (p.1 * q.2 - q.1 * p.2) (p.2 * q.2)
structure Bd (k : Nat) (p : Nat × Nat) : Prop where
  pos : p.2 ≠ 0
  n : p.1 < 2 ^ k
  d : p.2 < 2 ^ k
theorem fR_pos {n d : Nat} (h : d ≠ 0) : (fR n d).2 ≠ 0 := by
  have hg : 0 < Nat.gcd n d := Nat.gcd_pos_of_pos_right n (Nat.pos_of_ne_zero h)
  have := Nat.div_pos (Nat.gcd_le_right n (Nat.pos_of_ne_zero h)) hg
  show d / Nat.gcd n d ≠ 0
  omega
theorem fR_bd {n d k : Nat} (h : d ≠ 0) (hn : n < 2 ^ k) (hd : d < 2 ^ k) : Bd k (fR n d) :=
  ⟨fR_pos h, Nat.lt_of_le_of_lt (Nat.div_le_self _ _) hn, Nat.lt_of_le_of_lt (Nat.div_le_self _ _) hd⟩
theorem mul_bd {a b k m : Nat} (ha : a < 2 ^ k) (hb : b < 2 ^ m) : a * b < 2 ^ (k + m) := by
  rw [Nat.pow_add]; exact Nat.mul_lt_mul'' ha hb
theorem Bd.le {k m : Nat} {p : Nat × Nat} (h : Bd k p) (hk : k ≤ m) : Bd m p :=
  ⟨h.pos, Nat.lt_of_lt_of_le h.n (Nat.pow_le_pow_right (by omega) hk), Nat.lt_of_lt_of_le h.d (Nat.pow_le_pow_right (by omega) hk)⟩
theorem fMul_bd {k m : Nat} {p q : Nat × Nat} (h1 : Bd k p) (h2 : Bd m q) : Bd (k + m) (fMul p q) := fR_bd (Nat.mul_ne_zero h1.pos h2.pos) (mul_bd h1.n h2.n) (mul_bd h1.d h2.d)
theorem fDiv_bd {k m : Nat} {p q : Nat × Nat} (h1 : Bd k p) (h2 : Bd m q) (hq : q.1 ≠ 0) : Bd (k + m) (fDiv p q) := fR_bd (Nat.mul_ne_zero h1.pos hq) (mul_bd h1.n h2.d) (mul_bd h1.d h2.n)
theorem fAdd_bd {k m : Nat} {p q : Nat × Nat} (h1 : Bd k p) (h2 : Bd m q) : Bd (k + m + 1) (fAdd p q) := by
  have a1 := mul_bd h1.n h2.d
  have a2 := mul_bd h2.n h1.d
  have a3 := mul_bd h1.d h2.d
  rw [Nat.add_comm m k] at a2
  refine fR_bd (Nat.mul_ne_zero h1.pos h2.pos) ?_ ?_ <;> rw [Nat.pow_succ] <;> omega
theorem fSub_bd {k m : Nat} {p q : Nat × Nat} (h1 : Bd k p) (h2 : Bd m q) : Bd (k + m) (fSub p q) := by
  have a1 := mul_bd h1.n h2.d
  exact fR_bd (Nat.mul_ne_zero h1.pos h2.pos) (by omega) (mul_bd h1.d h2.d)
theorem int_bd {v k : Nat} (h : v < 2 ^ k) (hk : 1 ≤ k) : Bd k (v, 1) :=
  ⟨by simp, h, by show 1 < 2 ^ k; have := Nat.pow_le_pow_right (show 0 < 2 by omega) hk; omega⟩
theorem pow_le_256 {k n : Nat} (h : k ≤ 8 * n) : 2 ^ k ≤ 256 ^ n := by
  rw [show (256 : Nat) = 2 ^ 8 from rfl, ← Nat.pow_mul]
  exact Nat.pow_le_pow_right (by omega) h
theorem Bd.lim {k : Nat} {p : Nat × Nat} (h : Bd k p) (hk : k ≤ 800000) : Lim p.1 p.2 := by
  obtain ⟨N, hN⟩ : ∃ N, N = 100000 := ⟨_, rfl⟩
  have e : 2 ^ k ≤ 256 ^ N := pow_le_256 (by omega)
  have a1 := dg_len (by omega) (Nat.lt_of_lt_of_le h.n e)
  have a2 := dg_len (by omega) (Nat.lt_of_lt_of_le h.d e)
  rw [hN] at a1 a2
  exact ⟨h.pos, a1, a2⟩
abbrev rP (p : Nat × Nat) : A1 := rV p.1 p.2
theorem fmul_ct {k m : Nat} {p q : Nat × Nat} (h1 : Bd k p) (h2 : Bd m q) (hk : k ≤ 400000) (hm : m ≤ 400000) : Ct P 56 [rP p, rP q] [rP (fMul p q)] := rmul_ct _ _ _ _ (h1.lim (by omega)) (h2.lim (by omega))
theorem fdiv_ct {k m : Nat} {p q : Nat × Nat} (h1 : Bd k p) (h2 : Bd m q) (hq : q.1 ≠ 0) (hk : k ≤ 400000) (hm : m ≤ 400000) : Ct P 51 [rP p, rP q] [rP (fDiv p q)] := rdiv_ct _ _ _ _ (h1.lim (by omega)) (h2.lim (by omega)) hq
theorem fadd_ct {k m : Nat} {p q : Nat × Nat} (h1 : Bd k p) (h2 : Bd m q) (hk : k ≤ 400000) (hm : m ≤ 400000) : Ct P 55 [rP p, rP q] [rP (fAdd p q)] := radd_ct _ _ _ _ (h1.lim (by omega)) (h2.lim (by omega))
theorem fsub_ct {k m : Nat} {p q : Nat × Nat} (h1 : Bd k p) (h2 : Bd m q) (hk : k ≤ 400000) (hm : m ≤ 400000) : Ct P 53 [rP p, rP q] [rP (fSub p q)] := rless_ct _ _ _ _ (h1.lim (by omega)) (h2.lim (by omega))
end Go.Proofs.YtpmchgndnhgncaaGreat.Pv
namespace Go.Proofs.YtpmchgndnhgncaaGreat.Pv
open Go
theorem bN_get {l : List Nat} {i : Int} {n : Nat} (h0 : i = n) (h : n < l.length) : (bN l)[i.toNat]? = some [.sc (.int .u8 ((l.getD (l.length - 1 - n) 0 : Nat) : Int))] := by
  subst h0
  have : l.length - 1 - n < l.length := by omega
  simp [bN, h, List.getElem?_reverse, this]
theorem u8wn (m : Nat) : IntKind.u8.wrap (m : Int) = ((m % 256 : Nat) : Int) := by
  simp [IntKind.wrap, IntKind.signed, IntKind.bits]
theorem words_of {n i : Nat} (h : i < (dg 256 n).length) : i / 8 < (dg 18446744073709551616 n).length := by
  have h1 : (dg 256 n).length ≤ 8 * (dg 18446744073709551616 n).length := by
    refine dg_len (by omega) ?_
    rw [Nat.pow_mul]
    exact lt_dg_len (by omega) n
  omega
theorem nbytes_ct (n : Nat) (hn : (dg 18446744073709551616 n).length ≤ 1000000) (hb : (dg 256 n).length ≤ 1000000) : Ct P 92 [nV n] [.c (.sl 1 (bN (dg 256 n)))] := by
  have hlb := len_blen n
  have hbits := nbits_ct n hn
  obtain ⟨L, hL⟩ : ∃ L, L = (dg 256 n).length := ⟨_, rfl⟩
  refine Ct.go T_ok T_mix (N := 36) Tryz.func92 rfl rfl rfl rfl ?_
  refine X1 _ hbits ?_
  refine X1 ((blen n + 7 : Nat) : Int) (wI (by omega) (by omega) (by omega)) ?_
  refine And.intro (by omega) (X1 (L : Int) ?_ (And.intro ⟨by show (-9223372036854775808 : Int) ≤ _; omega, by show _ ≤ (9223372036854775807 : Int); omega⟩ ?_))
  · rw [Int.tdiv_eq_ediv_of_nonneg (by omega)]; omega
  refine ⟨by omega, by omega, by omega, .inl (by decide), ?_⟩
  refine loopJ T_ok T_mix (fun i : Nat => i ≤ L) (fun i => [(1, .c (.ad 1 0)), (3, .c (nI .i64 L)), (4, .c (.ow 11 1 L)), (12, .c (nI .i64 L)), (13, .c (nI .i64 i))])
    (fun i => [(1, .var [nSl .u64 (dg 18446744073709551616 n)]), (11, .row 1 (List.replicate (L - i) [.sc (.int .u8 0)] ++ bN ((dg 256 n).take i)))]) (fun i => L - i)
    0 (by omega) ⟨rfl, rfl, owE (by simp), rfl, rfl, trivial⟩ ⟨rfl, rowE (by simp [bN]; exact .inr rfl), trivial⟩ (fun _ : Unit => True) (fun _ => [(4, .c (.ow 11 1 L))]) (fun _ => [(11, .row 1 (bN (dg 256 n)))]) (fun i hi => ?_) (fun _ _ => ?_)
  · refine dcase (fun h1 => ?_) (fun h1 => ?_)
    · have hi' : i < L := by omega
      have hiw := words_of (n := n) (i := i) (by omega)
      refine X1 ((L - 1 : Nat) : Int) (wI (by omega) (by omega) (by omega)) ?_
      refine X1 ((L - 1 - i : Nat) : Int) (wI (by omega) (by omega) (by omega)) ?_
      refine And.intro (by omega) (X1 ((i / 8 : Nat) : Int) ?_ (And.intro ⟨by show (-9223372036854775808 : Int) ≤ _; omega, by show _ ≤ (9223372036854775807 : Int); omega⟩ ?_))
      · rw [Int.tdiv_eq_ediv_of_nonneg (by omega)]; omega
      refine And.intro (by omega) (X1 _ (nRow_getN (n := i / 8) rfl hiw) ?_)
      refine And.intro (by omega) (X1 ((i % 8 : Nat) : Int) ?_ (And.intro ⟨by show (-9223372036854775808 : Int) ≤ _; omega, by show _ ≤ (9223372036854775807 : Int); omega⟩ ?_))
      · rw [Int.tmod_eq_emod_of_nonneg (by omega)]; omega
      refine X1 ((8 * (i % 8) : Nat) : Int) (wI (by omega) (by omega) (by omega)) ?_
      refine X1 ((8 * (i % 8) : Nat) : Int) (wU (by omega) (by omega) (by omega)) ?_
      generalize hwv : (dg 18446744073709551616 n).getD (i / 8) 0 = wv
      have hwlt : wv < 18446744073709551616 := by rw [← hwv]; exact (dig_dg (B := 18446744073709551616) (by omega) n).getD (by omega) _
      obtain ⟨q, hq⟩ : ∃ q, q = wv / 2 ^ (8 * (i % 8)) := ⟨_, rfl⟩
      have hdv : q ≤ wv := by rw [hq]; exact Nat.div_le_self _ _
      refine And.intro (by omega) (X1 (q : Int) (by rw [hq]; exact shrN (by omega)) (And.intro ⟨by show (0 : Int) ≤ _; omega, by show _ ≤ (18446744073709551615 : Int); omega⟩ ?_))
      refine X1 _ (u8wn _) ?_
      have hbyte : q % 256 = (dg 256 n).getD i 0 := by
        rw [hq, dg_getD (by omega), ← byte_word, ← hwv, dg_getD (by omega)]
      rw [hbyte]
      have htake : (dg 256 n).take (i + 1) = (dg 256 n).take i ++ [(dg 256 n).getD i 0] := by
        rw [List.take_succ_eq_append_getElem (by omega)]; simp [List.getD_eq_getElem?_getD, show i < (dg 256 n).length by omega]
      have hset : (List.replicate (L - i) [PC.sc (.int .u8 0)] ++ bN ((dg 256 n).take i)).set (L - 1 - i) [PC.sc (.int .u8 ((dg 256 n).getD i 0 : Int))] = List.replicate (L - (i + 1)) [PC.sc (.int .u8 0)] ++ bN ((dg 256 n).take (i + 1)) := by
        rw [htake, show L - i = (L - (i + 1)) + 1 by omega, List.replicate_succ', List.append_assoc, List.set_append_right _ _ (by rw [List.length_replicate]; omega), List.length_replicate, show L - 1 - i - (L - (i + 1)) = 0 by omega]
        simp [bN]
      have hget : (List.replicate (L - i) [PC.sc (.int .u8 0)] ++ bN ((dg 256 n).take i))[((L - 1 - i : Nat) : Int).toNat]? = some [PC.sc (.int .u8 0)] := by
        rw [Int.toNat_natCast, List.getElem?_append_left (by rw [List.length_replicate]; omega), List.getElem?_replicate, if_pos (by omega)]
      refine And.intro (by omega) (And.intro (by omega) (X1 [PC.sc (.int .u8 0)] hget ?_))
      refine X1 ((i + 1 : Nat) : Int) (wI (by simp) (by omega) (by omega)) ?_
      refine ⟨i + 1, by omega, by omega, ⟨rfl, rfl, rfl, rfl, rfl, trivial⟩, ⟨rfl, rowE ?_, trivial⟩⟩
      rw [← hset]
      rfl
    · have e : i = L := by omega
      subst e
      refine ⟨(), trivial, ⟨rfl, trivial⟩, ⟨rowE ?_, trivial⟩⟩
      rw [hL, List.take_length, Nat.sub_self]; rfl
  · exact ⟨trivial, r1 rfl, trivial⟩
theorem is25_ct (n : Nat) (hn : (dg 18446744073709551616 n).length ≤ 100000) (hb : (dg 256 n).length ≤ 1000000) : Ct P 49 [nV n, .c (dV n)] [.c (.sc (.bool true))] := by
  refine Ct.go T_ok T_mix (N := 32) Tryz.func49 rfl rfl rfl rfl ?_
  refine X1 _ (nbytes_ct n (by omega) hb) ?_
  refine X1 _ (rbytes_ct n hb) ?_
  generalize dg 256 n = l at *
  refine And.intro (by rw [bN_len]; omega) (And.intro (by rw [bN_len]; omega) ?_)
  refine ncase (fun h => absurd rfl h) (fun _ => ?_)
  refine loopJ T_ok T_mix (fun i : Nat => i ≤ l.length) (fun i => [(5, .c (.sl 1 (bN l))), (6, .c (.sl 1 (bN l))), (7, .c (nI .i64 i))]) (fun _ => []) (fun i => l.length - i)
    0 (by omega) ⟨rfl, rfl, rfl, trivial⟩ trivial (fun _ : Unit => True) (fun _ => []) (fun _ => []) (fun i hi => ?_) (fun _ _ => ?_)
  · refine And.intro (by rw [bN_len]; omega) ?_
    rw [bN_len]
    refine dcase (fun h1 => ?_) (fun h1 => ?_)
    · have hg := bN_get (l := l) (i := (i : Int)) (n := i) rfl (by omega)
      refine And.intro (by omega) (X1 _ hg ?_)
      refine And.intro (by omega) (X1 _ hg ?_)
      refine And.intro rfl ?_
      refine ncase (fun h => absurd rfl h) (fun _ => ?_)
      refine X1 ((i + 1 : Nat) : Int) (wI (by simp) (by omega) (by omega)) ?_
      exact ⟨i + 1, by omega, by omega, ⟨rfl, rfl, rfl, trivial⟩, trivial⟩
    · exact ⟨(), trivial, trivial, trivial⟩
  · exact ⟨trivial, r1 rfl, trivial⟩
theorem dg_le {B n k : Nat} (hB : 2 ≤ B) (h : n < 2 ^ k) : (dg B n).length ≤ k := dg_len hB (Nat.lt_of_lt_of_le h (Nat.pow_le_pow_left hB k))
theorem is26_ct {k : Nat} (n d : Nat) (hn : n < 2 ^ k) (hd : dn d < 2 ^ k) (hk : k ≤ 100000) : Ct P 14 [qV n d, rV n (dn d)] [.c (.sc (.bool true))] := by
  have hd0 : d < 2 ^ k := Nat.lt_of_le_of_lt (show d ≤ dn d by unfold dn; split <;> omega) hd
  refine Ct.go T_ok T_mix (N := 17) Tryz.func14 rfl rfl rfl rfl ?_
  refine X1 _ (qnum_ct n d) ?_
  refine X1 _ (is25_ct n (Nat.le_trans (dg_le (by omega) hn) hk) (Nat.le_trans (dg_le (by omega) hn) (by omega))) ?_
  refine X1 _ (qden_ct n d (Nat.le_trans (dg_le (by omega) hd0) (by omega))) ?_
  refine X1 _ (is25_ct (dn d) (Nat.le_trans (dg_le (by omega) hd) hk) (Nat.le_trans (dg_le (by omega) hd) (by omega))) ?_
  refine And.intro rfl ?_
  exact ⟨trivial, r1 rfl, trivial⟩
end Go.Proofs.YtpmchgndnhgncaaGreat.Pv
namespace Go.Proofs.YtpmchgndnhgncaaGreat.Pv
open Go
def liveC (x : Cnt) : Bool := !(decide (x.2 < 1)) && !(decide (x.1 = [1]))
def tys (l : List Cnt) : Int := ((l.filter liveC).length : Nat)
def tot (l : List Cnt) : Int := ((l.filter liveC).map (·.2)).sum
def num (l : List Cnt) (k : Int) : Int := ((l.filter fun x => liveC x && decide (x.2 = k)).length : Nat)
section
variable {l : List Cnt} {x : Cnt} {k : Int}
theorem tys_1 (h : liveC x = true) : tys (l ++ [x]) = tys l + 1 := by
  unfold tys; rw [List.filter_append, List.length_append, List.filter_cons_of_pos h]; simp
theorem tys_0 (h : liveC x = false) : tys (l ++ [x]) = tys l := by
  unfold tys; rw [List.filter_append, List.length_append, List.filter_cons_of_neg (by simp [h])]; simp
theorem tot_1 (h : liveC x = true) : tot (l ++ [x]) = tot l + x.2 := by
  unfold tot; rw [List.filter_append, List.filter_cons_of_pos h]; simp
theorem tot_0 (h : liveC x = false) : tot (l ++ [x]) = tot l := by
  unfold tot; rw [List.filter_append, List.filter_cons_of_neg (by simp [h])]; simp
theorem num_1 (h : liveC x = true) (hk : x.2 = k) : num (l ++ [x]) k = num l k + 1 := by
  unfold num; rw [List.filter_append, List.length_append, List.filter_cons_of_pos (by simp [h, hk])]; simp
theorem num_0 (h : liveC x = false ∨ x.2 ≠ k) : num (l ++ [x]) k = num l k := by
  unfold num; rw [List.filter_append, List.length_append, List.filter_cons_of_neg (by rcases h with h | h <;> simp [h])]; simp
theorem tot_nonneg (l : List Cnt) : 0 ≤ tot l := by
  unfold tot
  induction l with
  | nil => simp
  | cons x l ih =>
    by_cases h : liveC x = true
    · rw [List.filter_cons_of_pos h, List.map_cons, List.sum_cons]
      have : ¬ x.2 < 1 := by unfold liveC at h; intro h1; rw [decide_eq_true h1] at h; simp at h
      omega
    · rw [List.filter_cons_of_neg h]; exact ih
theorem tot_app (l m : List Cnt) : tot (l ++ m) = tot l + tot m := by
  unfold tot; rw [List.filter_append, List.map_append, List.sum_append]
theorem tot_take (l : List Cnt) (i : Nat) : tot (l.take i) ≤ tot l := by
  have h := tot_app (l.take i) (l.drop i)
  rw [List.take_append_drop] at h
  have := tot_nonneg (l.drop i)
  omega
theorem tys_le (l : List Cnt) : 0 ≤ tys l ∧ tys l ≤ l.length := by
  unfold tys; have := List.length_filter_le liveC l; omega
theorem num_le (l : List Cnt) (k : Int) : 0 ≤ num l k ∧ num l k ≤ l.length := by
  unfold num; have := List.length_filter_le (fun x => liveC x && decide (x.2 = k)) l; omega
end
def cen (l : List Cnt) : List PC := [eI .i64 (tys l), eI .i64 (tot l), eI .i64 (num l 1), eI .i64 (num l 2), eI .i64 (num l 3), eI .i64 (num l 4)]
theorem cen_0 {l : List Cnt} {x : Cnt} (h : liveC x = false) : cen (l ++ [x]) = cen l := by
  unfold cen; rw [tys_0 h, tot_0 h, num_0 (.inl h), num_0 (.inl h), num_0 (.inl h), num_0 (.inl h)]
theorem numE {l : List Cnt} {x : Cnt} {k : Int} (h : liveC x = true) : num (l ++ [x]) k = if x.2 = k then num l k + 1 else num l k := by
  by_cases hk : x.2 = k
  · rw [if_pos hk, num_1 h hk]
  · rw [if_neg hk, num_0 (.inr hk)]
theorem rof24_ct (l : List Cnt) (hl : CLim l) (ht : tot l ≤ 4611686018427387904) : Ct P 31 [.c (cSl l)] [.ag (cen l)] := by
  have hll := hl.len
  refine Ct.go T_ok T_mix (N := 48) Tryz.func31 rfl rfl rfl rfl ?_
  refine loopJ T_ok T_mix (fun i : Nat => i ≤ l.length) (fun i => [(0, .c (cSl l)), (2, .c (.ad 2 0)), (3, .c (.ad 3 0)), (4, .c (nI .i64 i))])
    (fun i => [(2, .var [eI .i64 0, eI .i64 0, eI .i64 0, eI .i64 0, eI .i64 0, eI .i64 0]), (3, .var (cen (l.take i)))]) (fun i => l.length - i)
    0 (by omega) ⟨rfl, rfl, rfl, rfl, trivial⟩ ⟨rfl, rfl, trivial⟩ (fun _ : Unit => True) (fun _ => [(2, .c (.ad 2 0)), (3, .c (.ad 3 0))]) (fun _ => [(2, .var [eI .i64 0, eI .i64 0, eI .i64 0, eI .i64 0, eI .i64 0, eI .i64 0]), (3, .var (cen l))]) (fun i hi => ?_) (fun _ _ => ?_)
  · refine And.intro (by rw [cRow_len]; omega) ?_
    rw [cRow_len]
    refine dcase (fun h5 => ?_) (fun h5 => ?_)
    · have hi' : i < l.length := by omega
      have hxl := hl.at' hi'
      have hx := cRow_get (l := l) (i := (i : Int)) (n := i) rfl hi'
      have hs : l.take (i + 1) = l.take i ++ [l[i]] := List.take_succ_eq_append_getElem hi'
      have t1 := tot_take l (i + 1)
      have t2 := tys_le (l.take i)
      have t3 := tot_nonneg (l.take i)
      have t4 := num_le (l.take i)
      rw [hs] at t1
      rw [List.length_take] at t2
      simp only [List.length_take] at t4
      generalize l[i] = x at *
      generalize l.take i = a at *
      refine And.intro (by omega) (X1 _ hx ?_)
      refine dcase (fun h6 => ?_) (fun h6 => ?_)
      · have hlv : liveC x = false := by unfold liveC; rw [decide_eq_true h6]; rfl
        refine X1 ((i + 1 : Nat) : Int) (wI (by simp) (by omega) (by omega)) ?_
        exact ⟨i + 1, by omega, by omega, ⟨rfl, rfl, rfl, rfl, trivial⟩, ⟨rfl, by rw [hs, cen_0 hlv]; rfl, trivial⟩⟩
      · refine And.intro (by omega) (X1 _ hx ?_)
        refine X2 .look (X1 _ (ints_ct x.1 [1] hxl (by simp)) ?_)
        refine dcase (fun h7 => ?_) (fun h7 => ?_)
        · have hlv : liveC x = false := by unfold liveC; rw [decide_eq_true h7]; simp
          refine X1 ((i + 1 : Nat) : Int) (wI (by simp) (by omega) (by omega)) ?_
          exact ⟨i + 1, by omega, by omega, ⟨rfl, rfl, rfl, rfl, trivial⟩, ⟨rfl, by rw [hs, cen_0 hlv]; rfl, trivial⟩⟩
        · have hlv : liveC x = true := by unfold liveC; rw [decide_eq_false h6, decide_eq_false h7]; rfl
          rw [tot_1 hlv] at t1
          refine And.intro (by omega) (And.intro (by omega) ?_)
          refine X1 (tys a + 1) (wI rfl (by omega) (by omega)) ?_
          refine And.intro (by omega) (And.intro (by omega) ?_)
          refine And.intro (by omega) (And.intro (by omega) ?_)
          refine X1 (tot a + x.2) (wI rfl (by omega) (by omega)) ?_
          refine And.intro (by omega) (And.intro (by omega) ?_)
          refine dcase (fun h8 => ?_) (fun h8 => ?_)
          · have h9 : x.2 = 1 ∨ x.2 = 2 ∨ x.2 = 3 ∨ x.2 = 4 := by omega
            rcases h9 with h9 | h9 | h9 | h9
            · have q1 := t4 1
              have hc : cen (a ++ [x]) = [eI .i64 (tys a + 1), eI .i64 (tot a + 1), eI .i64 (num a 1 + 1), eI .i64 (num a 2), eI .i64 (num a 3), eI .i64 (num a 4)] := by
                unfold cen; rw [tys_1 hlv, tot_1 hlv, numE hlv, numE hlv, numE hlv, numE hlv, h9]; simp
              rw [h9] at *
              refine X1 2 (wI (by omega) (by omega) (by omega)) ?_
              refine X1 2 (wI (by omega) (by omega) (by omega)) ?_
              refine And.intro (by omega) (And.intro (by omega) ?_)
              refine X1 (num a 1 + 1) (wI rfl (by omega) (by omega)) ?_
              refine And.intro (by omega) (And.intro (by omega) ?_)
              refine X1 ((i + 1 : Nat) : Int) (wI (by simp) (by omega) (by omega)) ?_
              exact ⟨i + 1, by omega, by omega, ⟨rfl, rfl, rfl, rfl, trivial⟩, ⟨rfl, by rw [hs, hc]; rfl, trivial⟩⟩
            · have q1 := t4 2
              have hc : cen (a ++ [x]) = [eI .i64 (tys a + 1), eI .i64 (tot a + 2), eI .i64 (num a 1), eI .i64 (num a 2 + 1), eI .i64 (num a 3), eI .i64 (num a 4)] := by
                unfold cen; rw [tys_1 hlv, tot_1 hlv, numE hlv, numE hlv, numE hlv, numE hlv, h9]; simp
              rw [h9] at *
              refine X1 3 (wI (by omega) (by omega) (by omega)) ?_
              refine X1 3 (wI (by omega) (by omega) (by omega)) ?_
              refine And.intro (by omega) (And.intro (by omega) ?_)
              refine X1 (num a 2 + 1) (wI rfl (by omega) (by omega)) ?_
              refine And.intro (by omega) (And.intro (by omega) ?_)
              refine X1 ((i + 1 : Nat) : Int) (wI (by simp) (by omega) (by omega)) ?_
              exact ⟨i + 1, by omega, by omega, ⟨rfl, rfl, rfl, rfl, trivial⟩, ⟨rfl, by rw [hs, hc]; rfl, trivial⟩⟩
            · have q1 := t4 3
              have hc : cen (a ++ [x]) = [eI .i64 (tys a + 1), eI .i64 (tot a + 3), eI .i64 (num a 1), eI .i64 (num a 2), eI .i64 (num a 3 + 1), eI .i64 (num a 4)] := by
                unfold cen; rw [tys_1 hlv, tot_1 hlv, numE hlv, numE hlv, numE hlv, numE hlv, h9]; simp
              rw [h9] at *
              refine X1 4 (wI (by omega) (by omega) (by omega)) ?_
              refine X1 4 (wI (by omega) (by omega) (by omega)) ?_
              refine And.intro (by omega) (And.intro (by omega) ?_)
              refine X1 (num a 3 + 1) (wI rfl (by omega) (by omega)) ?_
              refine And.intro (by omega) (And.intro (by omega) ?_)
              refine X1 ((i + 1 : Nat) : Int) (wI (by simp) (by omega) (by omega)) ?_
              exact ⟨i + 1, by omega, by omega, ⟨rfl, rfl, rfl, rfl, trivial⟩, ⟨rfl, by rw [hs, hc]; rfl, trivial⟩⟩
            · have q1 := t4 4
              have hc : cen (a ++ [x]) = [eI .i64 (tys a + 1), eI .i64 (tot a + 4), eI .i64 (num a 1), eI .i64 (num a 2), eI .i64 (num a 3), eI .i64 (num a 4 + 1)] := by
                unfold cen; rw [tys_1 hlv, tot_1 hlv, numE hlv, numE hlv, numE hlv, numE hlv, h9]; simp
              rw [h9] at *
              refine X1 5 (wI (by omega) (by omega) (by omega)) ?_
              refine X1 5 (wI (by omega) (by omega) (by omega)) ?_
              refine And.intro (by omega) (And.intro (by omega) ?_)
              refine X1 (num a 4 + 1) (wI rfl (by omega) (by omega)) ?_
              refine And.intro (by omega) (And.intro (by omega) ?_)
              refine X1 ((i + 1 : Nat) : Int) (wI (by simp) (by omega) (by omega)) ?_
              exact ⟨i + 1, by omega, by omega, ⟨rfl, rfl, rfl, rfl, trivial⟩, ⟨rfl, by rw [hs, hc]; rfl, trivial⟩⟩
          · have hc : cen (a ++ [x]) = [eI .i64 (tys a + 1), eI .i64 (tot a + x.2), eI .i64 (num a 1), eI .i64 (num a 2), eI .i64 (num a 3), eI .i64 (num a 4)] := by
              unfold cen; rw [tys_1 hlv, tot_1 hlv, num_0 (.inr (by omega)), num_0 (.inr (by omega)), num_0 (.inr (by omega)), num_0 (.inr (by omega))]
            refine X1 ((i + 1 : Nat) : Int) (wI (by simp) (by omega) (by omega)) ?_
            exact ⟨i + 1, by omega, by omega, ⟨rfl, rfl, rfl, rfl, trivial⟩, ⟨rfl, by rw [hs, hc]; rfl, trivial⟩⟩
    · have e : i = l.length := by omega
      subst e
      rw [List.take_length]
      exact ⟨(), trivial, ⟨rfl, rfl, trivial⟩, ⟨rfl, rfl, trivial⟩⟩
  · exact ⟨trivial, rc rfl, trivial⟩
theorem tot_filter (p : Cnt → Bool) (l : List Cnt) : tot (l.filter p) ≤ tot l := by
  induction l with
  | nil => simp
  | cons x l ih =>
    have h1 : tot (x :: l) = tot [x] + tot l := tot_app [x] l
    have h2 := tot_nonneg [x]
    by_cases h : p x = true
    · have h3 : tot (x :: l.filter p) = tot [x] + tot (l.filter p) := tot_app [x] _
      rw [List.filter_cons_of_pos h]
      omega
    · rw [List.filter_cons_of_neg h]
      omega
def afterP (h : List Int) (x : Cnt) : Bool := decide (x.1.length = h.length + 1) && decide (x.1.take h.length = h)
def after (l : List Cnt) (h : List Int) : List Cnt := l.filter (afterP h)
theorem CLim.filter {l : List Cnt} (h : CLim l) (p : Cnt → Bool) : CLim (l.filter p) :=
  ⟨Nat.le_trans (List.length_filter_le _ _) h.len, fun x hx => h.g x (List.mem_filter.1 hx).1⟩
theorem rafter_ct (l : List Cnt) (h : List Int) (hl : CLim l) (hh : h.length ≤ 1000000) (ht : tot l ≤ 4611686018427387904) : Ct P 52 [.c (cSl l), .c (iSl h)] [.ag (cen (after l h))] := by
  have hll := hl.len
  refine Ct.go T_ok T_mix (N := 42) Tryz.func52 rfl rfl rfl rfl ?_
  refine nilC (r := 50) (t := 5) (sz := 2) rfl rfl ?_
  refine loopW T_ok T_mix (fun i : Nat => i ≤ l.length) (fun i => [(0, .c (cSl l)), (1, .c (iSl h)), (4, .c (.ad 4 0)), (5, .c (.ow 50 2 (after (l.take i) h).length)), (6, .c (nI .i64 i))])
    (fun i => [(4, .var [eI .i64 0, eI .i64 0, eI .i64 0, eI .i64 0, eI .i64 0, eI .i64 0]), (50, .row 2 (cRow (after (l.take i) h)))]) (fun i => l.length - i)
    0 (by omega) ⟨rfl, rfl, rfl, rfl, rfl, trivial⟩ ⟨rfl, rfl, trivial⟩ (fun _ : Unit => True) (fun _ => [(4, .c (.ad 4 0)), (5, .c (.ow 50 2 (after l h).length))]) (fun _ => [(4, .var [eI .i64 0, eI .i64 0, eI .i64 0, eI .i64 0, eI .i64 0, eI .i64 0]), (50, .row 2 (cRow (after l h)))]) (fun i hi => ?_) (fun _ _ => ?_)
  · refine And.intro (by rw [cRow_len]; omega) ?_
    rw [cRow_len]
    refine dcase (fun h5 => ?_) (fun h5 => ?_)
    · have hi' : i < l.length := by omega
      have hxl := hl.at' hi'
      have hx := cRow_get (l := l) (i := (i : Int)) (n := i) rfl hi'
      have hs : after (l.take (i + 1)) h = after (l.take i) h ++ (if afterP h l[i] = true then [l[i]] else []) := by
        unfold after
        rw [List.take_succ_eq_append_getElem hi', List.filter_append]
        by_cases hp : afterP h l[i] = true
        · rw [if_pos hp, List.filter_cons_of_pos hp]; rfl
        · rw [if_neg hp, List.filter_cons_of_neg hp]; rfl
      have ha : (after (l.take i) h).length ≤ i := by
        refine Nat.le_trans (List.length_filter_le _ _) ?_
        rw [List.length_take]; omega
      generalize l[i] = x at *
      refine And.intro (by omega) (X1 _ hx ?_)
      refine And.intro (by rw [iRow_len]; omega) ?_
      refine And.intro (by rw [iRow_len]; omega) ?_
      rw [iRow_len, iRow_len]
      refine X1 ((h.length + 1 : Nat) : Int) (wI (by simp) (by omega) (by omega)) ?_
      have skip : afterP h x = false → after (l.take (i + 1)) h = after (l.take i) h := fun hp => by rw [hs, if_neg (by rw [hp]; simp), List.append_nil]
      refine ecase (fun h6 => ?_) (fun h6 => ?_)
      · have h6' : x.1.length = h.length + 1 := by omega
        refine And.intro (by rw [iRow_len]; omega) ?_
        rw [iRow_len]
        refine ⟨0, h.length, by simp, by simp, by omega, by rw [iRow_len]; omega, ?_⟩
        rw [iRow_sub, List.drop_zero, Nat.sub_zero]
        refine X1 _ (ints_ct _ h (by rw [List.length_take]; omega) hh) ?_
        refine dcase (fun h7 => ?_) (fun h7 => ?_)
        · have h7' : x.1.take h.length = h := h7
          have hp : afterP h x = true := by unfold afterP; rw [decide_eq_true h6', decide_eq_true h7']; rfl
          rw [if_pos hp] at hs
          refine And.intro (by omega) (X1 _ hx ?_)
          refine ⟨cRow_len.symm, by rw [cRow_len]; show ((after (l.take i) h).length + 1 + 768) * 32 ≤ _; omega, by rw [cRow_len]; show (after (l.take i) h).length + 1 ≤ _; omega, cRow_closed, one_closed rfl, ?_⟩
          refine X1 ((i + 1 : Nat) : Int) (wI (by simp) (by omega) (by omega)) ?_
          exact ⟨i + 1, by omega, by omega, ⟨rfl, rfl, rfl, owE (by rw [hs, List.length_append, List.length_append, cRow_len]; rfl), rfl, trivial⟩, ⟨rfl, rowE (by rw [hs, ← cRow_app]; rfl), trivial⟩⟩
        · have h7' : ¬ x.1.take h.length = h := h7
          have hp : afterP h x = false := by unfold afterP; rw [decide_eq_false h7', Bool.and_false]
          refine X1 ((i + 1 : Nat) : Int) (wI (by simp) (by omega) (by omega)) ?_
          exact ⟨i + 1, by omega, by omega, ⟨rfl, rfl, rfl, owE (by rw [skip hp]), rfl, trivial⟩, ⟨rfl, rowE (by rw [skip hp]), trivial⟩⟩
      · have hp : afterP h x = false := by unfold afterP; rw [decide_eq_false (fun h => h6 (by omega)), Bool.false_and]
        refine X1 ((i + 1 : Nat) : Int) (wI (by simp) (by omega) (by omega)) ?_
        exact ⟨i + 1, by omega, by omega, ⟨rfl, rfl, rfl, owE (by rw [skip hp]), rfl, trivial⟩, ⟨rfl, rowE (by rw [skip hp]), trivial⟩⟩
    · have e : i = l.length := by omega
      subst e
      refine ⟨(), trivial, ⟨rfl, owE (by rw [List.take_length]), trivial⟩, ⟨rfl, rowE (by rw [List.take_length]), trivial⟩⟩
  · refine frzC T_ok T_mix [50] ?_
    refine X1 _ (rof24_ct (after l h) (hl.filter _) (Int.le_trans (tot_filter _ l) ht)) ?_
    exact ⟨trivial, rc rfl, trivial⟩
end Go.Proofs.YtpmchgndnhgncaaGreat.Pv
namespace Go.Proofs.YtpmchgndnhgncaaGreat.Pv
open Go
def cen7 (l : List Cnt) : List PC := [eI .i64 (tys l), eI .i64 (tot l), eI .i64 0, eI .i64 (num l 1), eI .i64 (num l 2), eI .i64 (num l 3), eI .i64 (num l 4)]
theorem cen7_0 {l : List Cnt} {x : Cnt} (h : liveC x = false) : cen7 (l ++ [x]) = cen7 l := by
  unfold cen7; rw [tys_0 h, tot_0 h, num_0 (.inl h), num_0 (.inl h), num_0 (.inl h), num_0 (.inl h)]
theorem add24_ct (a : List Cnt) (x : Cnt) (ha : a.length ≤ 1000000) (hx : x.1.length ≤ 1000000) (ht : tot (a ++ [x]) ≤ 4611686018427387904) :
    CtO P 111 [(1000000, some (.var (cen7 a)))] [.c (.ad 1000000 0), .ag [iSl x.1, eI .i64 x.2]] [(1000000, some (.var (cen7 (a ++ [x]))))] [] := by
  have t2 := tys_le a
  have t3 := tot_nonneg a
  have t4 := num_le a
  refine Ct.io T_ok T_mix (N := 50) Tryz.func111 rfl rfl rfl rfl ?_
  refine dcase (fun h1 => ?_) (fun h1 => ?_)
  · have hlv : liveC x = false := by unfold liveC; rw [decide_eq_true h1]; rfl
    rw [cen7_0 hlv]
    exact ⟨trivial, SubO.of (l := [(1000000, .var _)]) ⟨rfl, trivial⟩, trivial⟩
  · refine And.intro (by rw [iRow_len]; omega) ?_
    rw [iRow_len]
    refine ecase (fun h2 => ?_) (fun h2 => ?_)
    · refine And.intro (by omega) (X1 _ (iRow_getN (n := 0) rfl (by omega)) ?_)
      refine ecase (fun h3 => ?_) (fun h3 => ?_)
      · have hx1 : x.1 = [1] := by
          obtain ⟨g, n⟩ := x
          match g, h2, h3 with
          | [v], _, h3 => simp at h3; simp [h3]
        have hlv : liveC x = false := by unfold liveC; rw [decide_eq_true hx1, Bool.not_true, Bool.and_false]
        rw [cen7_0 hlv]
        exact ⟨trivial, SubO.of (l := [(1000000, .var _)]) ⟨rfl, trivial⟩, trivial⟩
      · have hlv : liveC x = true := by
          have : ¬ x.1 = [1] := fun h => h3 (by rw [h]; rfl)
          unfold liveC; rw [decide_eq_false h1, decide_eq_false this]; rfl
        rw [tot_1 hlv] at ht
        refine X1 (tys a + 1) (wI rfl (by omega) (by omega)) ?_
        refine X1 (tot a + x.2) (wI rfl (by omega) (by omega)) ?_
        refine And.intro rfl ?_
        refine dcase (fun h8 => ?_) (fun h8 => ?_)
        · have h9 : x.2 = 1 ∨ x.2 = 2 ∨ x.2 = 3 ∨ x.2 = 4 := by omega
          rcases h9 with h9 | h9 | h9 | h9
          · have q1 := t4 1
            have hc : cen7 (a ++ [x]) = [eI .i64 (tys a + 1), eI .i64 (tot a + 1), eI .i64 0, eI .i64 (num a 1 + 1), eI .i64 (num a 2), eI .i64 (num a 3), eI .i64 (num a 4)] := by
              unfold cen7; rw [tys_1 hlv, tot_1 hlv, numE hlv, numE hlv, numE hlv, numE hlv, h9]; simp
            rw [hc]
            rw [h9] at *
            refine And.intro (by omega) (And.intro (by omega) ?_)
            refine X1 (num a 1 + 1) (wI rfl (by omega) (by omega)) ?_
            refine And.intro (by omega) (And.intro (by omega) ?_)
            refine And.intro rfl ?_
            exact ⟨trivial, SubO.of (l := [(1000000, .var _)]) ⟨rfl, trivial⟩, trivial⟩
          · have q1 := t4 2
            have hc : cen7 (a ++ [x]) = [eI .i64 (tys a + 1), eI .i64 (tot a + 2), eI .i64 0, eI .i64 (num a 1), eI .i64 (num a 2 + 1), eI .i64 (num a 3), eI .i64 (num a 4)] := by
              unfold cen7; rw [tys_1 hlv, tot_1 hlv, numE hlv, numE hlv, numE hlv, numE hlv, h9]; simp
            rw [hc]
            rw [h9] at *
            refine And.intro (by omega) (And.intro (by omega) ?_)
            refine X1 (num a 2 + 1) (wI rfl (by omega) (by omega)) ?_
            refine And.intro (by omega) (And.intro (by omega) ?_)
            refine And.intro rfl ?_
            exact ⟨trivial, SubO.of (l := [(1000000, .var _)]) ⟨rfl, trivial⟩, trivial⟩
          · have q1 := t4 3
            have hc : cen7 (a ++ [x]) = [eI .i64 (tys a + 1), eI .i64 (tot a + 3), eI .i64 0, eI .i64 (num a 1), eI .i64 (num a 2), eI .i64 (num a 3 + 1), eI .i64 (num a 4)] := by
              unfold cen7; rw [tys_1 hlv, tot_1 hlv, numE hlv, numE hlv, numE hlv, numE hlv, h9]; simp
            rw [hc]
            rw [h9] at *
            refine And.intro (by omega) (And.intro (by omega) ?_)
            refine X1 (num a 3 + 1) (wI rfl (by omega) (by omega)) ?_
            refine And.intro (by omega) (And.intro (by omega) ?_)
            refine And.intro rfl ?_
            exact ⟨trivial, SubO.of (l := [(1000000, .var _)]) ⟨rfl, trivial⟩, trivial⟩
          · have q1 := t4 4
            have hc : cen7 (a ++ [x]) = [eI .i64 (tys a + 1), eI .i64 (tot a + 4), eI .i64 0, eI .i64 (num a 1), eI .i64 (num a 2), eI .i64 (num a 3), eI .i64 (num a 4 + 1)] := by
              unfold cen7; rw [tys_1 hlv, tot_1 hlv, numE hlv, numE hlv, numE hlv, numE hlv, h9]; simp
            rw [hc]
            rw [h9] at *
            refine And.intro (by omega) (And.intro (by omega) ?_)
            refine X1 (num a 4 + 1) (wI rfl (by omega) (by omega)) ?_
            refine And.intro (by omega) (And.intro (by omega) ?_)
            refine And.intro rfl ?_
            exact ⟨trivial, SubO.of (l := [(1000000, .var _)]) ⟨rfl, trivial⟩, trivial⟩
        · have hc : cen7 (a ++ [x]) = [eI .i64 (tys a + 1), eI .i64 (tot a + x.2), eI .i64 0, eI .i64 (num a 1), eI .i64 (num a 2), eI .i64 (num a 3), eI .i64 (num a 4)] := by
            unfold cen7; rw [tys_1 hlv, tot_1 hlv, num_0 (.inr (by omega)), num_0 (.inr (by omega)), num_0 (.inr (by omega)), num_0 (.inr (by omega))]
          rw [hc]
          exact ⟨trivial, SubO.of (l := [(1000000, .var _)]) ⟨rfl, trivial⟩, trivial⟩
    · have hlv : liveC x = true := by
        have : ¬ x.1 = [1] := fun h => h2 (by rw [h]; rfl)
        unfold liveC; rw [decide_eq_false h1, decide_eq_false this]; rfl
      rw [tot_1 hlv] at ht
      refine X1 (tys a + 1) (wI rfl (by omega) (by omega)) ?_
      refine X1 (tot a + x.2) (wI rfl (by omega) (by omega)) ?_
      refine And.intro rfl ?_
      refine dcase (fun h8 => ?_) (fun h8 => ?_)
      · have h9 : x.2 = 1 ∨ x.2 = 2 ∨ x.2 = 3 ∨ x.2 = 4 := by omega
        rcases h9 with h9 | h9 | h9 | h9
        · have q1 := t4 1
          have hc : cen7 (a ++ [x]) = [eI .i64 (tys a + 1), eI .i64 (tot a + 1), eI .i64 0, eI .i64 (num a 1 + 1), eI .i64 (num a 2), eI .i64 (num a 3), eI .i64 (num a 4)] := by
            unfold cen7; rw [tys_1 hlv, tot_1 hlv, numE hlv, numE hlv, numE hlv, numE hlv, h9]; simp
          rw [hc]
          rw [h9] at *
          refine And.intro (by omega) (And.intro (by omega) ?_)
          refine X1 (num a 1 + 1) (wI rfl (by omega) (by omega)) ?_
          refine And.intro (by omega) (And.intro (by omega) ?_)
          refine And.intro rfl ?_
          exact ⟨trivial, SubO.of (l := [(1000000, .var _)]) ⟨rfl, trivial⟩, trivial⟩
        · have q1 := t4 2
          have hc : cen7 (a ++ [x]) = [eI .i64 (tys a + 1), eI .i64 (tot a + 2), eI .i64 0, eI .i64 (num a 1), eI .i64 (num a 2 + 1), eI .i64 (num a 3), eI .i64 (num a 4)] := by
            unfold cen7; rw [tys_1 hlv, tot_1 hlv, numE hlv, numE hlv, numE hlv, numE hlv, h9]; simp
          rw [hc]
          rw [h9] at *
          refine And.intro (by omega) (And.intro (by omega) ?_)
          refine X1 (num a 2 + 1) (wI rfl (by omega) (by omega)) ?_
          refine And.intro (by omega) (And.intro (by omega) ?_)
          refine And.intro rfl ?_
          exact ⟨trivial, SubO.of (l := [(1000000, .var _)]) ⟨rfl, trivial⟩, trivial⟩
        · have q1 := t4 3
          have hc : cen7 (a ++ [x]) = [eI .i64 (tys a + 1), eI .i64 (tot a + 3), eI .i64 0, eI .i64 (num a 1), eI .i64 (num a 2), eI .i64 (num a 3 + 1), eI .i64 (num a 4)] := by
            unfold cen7; rw [tys_1 hlv, tot_1 hlv, numE hlv, numE hlv, numE hlv, numE hlv, h9]; simp
          rw [hc]
          rw [h9] at *
          refine And.intro (by omega) (And.intro (by omega) ?_)
          refine X1 (num a 3 + 1) (wI rfl (by omega) (by omega)) ?_
          refine And.intro (by omega) (And.intro (by omega) ?_)
          refine And.intro rfl ?_
          exact ⟨trivial, SubO.of (l := [(1000000, .var _)]) ⟨rfl, trivial⟩, trivial⟩
        · have q1 := t4 4
          have hc : cen7 (a ++ [x]) = [eI .i64 (tys a + 1), eI .i64 (tot a + 4), eI .i64 0, eI .i64 (num a 1), eI .i64 (num a 2), eI .i64 (num a 3), eI .i64 (num a 4 + 1)] := by
            unfold cen7; rw [tys_1 hlv, tot_1 hlv, numE hlv, numE hlv, numE hlv, numE hlv, h9]; simp
          rw [hc]
          rw [h9] at *
          refine And.intro (by omega) (And.intro (by omega) ?_)
          refine X1 (num a 4 + 1) (wI rfl (by omega) (by omega)) ?_
          refine And.intro (by omega) (And.intro (by omega) ?_)
          refine And.intro rfl ?_
          exact ⟨trivial, SubO.of (l := [(1000000, .var _)]) ⟨rfl, trivial⟩, trivial⟩
      · have hc : cen7 (a ++ [x]) = [eI .i64 (tys a + 1), eI .i64 (tot a + x.2), eI .i64 0, eI .i64 (num a 1), eI .i64 (num a 2), eI .i64 (num a 3), eI .i64 (num a 4)] := by
          unfold cen7; rw [tys_1 hlv, tot_1 hlv, num_0 (.inr (by omega)), num_0 (.inr (by omega)), num_0 (.inr (by omega)), num_0 (.inr (by omega))]
        rw [hc]
        exact ⟨trivial, SubO.of (l := [(1000000, .var _)]) ⟨rfl, trivial⟩, trivial⟩
theorem of24_ct (l : List Cnt) (hl : CLim l) (ht : tot l ≤ 4611686018427387904) : Ct P 65 [.c (cSl l)] [.ag (cen7 l)] := by
  have hll := hl.len
  refine Ct.go T_ok T_mix (N := 16) Tryz.func65 rfl rfl rfl rfl ?_
  refine And.intro (by rw [cRow_len]; omega) ?_
  rw [cRow_len]
  refine loopJ T_ok T_mix (fun i : Nat => i ≤ l.length) (fun i => [(2, .c (.ad 2 0)), (3, .c (.ad 3 0)), (6, .c (cSl l)), (7, .c (nI .i64 l.length)), (8, .c (nI .i64 i))])
    (fun i => [(2, .var [eI .i64 0, eI .i64 0, eI .i64 0, eI .i64 0, eI .i64 0, eI .i64 0, eI .i64 0]), (3, .var (cen7 (l.take i)))]) (fun i => l.length - i)
    0 (by omega) ⟨rfl, rfl, rfl, rfl, rfl, trivial⟩ ⟨rfl, rfl, trivial⟩ (fun _ : Unit => True) (fun _ => [(2, .c (.ad 2 0)), (3, .c (.ad 3 0))])
    (fun _ => [(2, .var [eI .i64 0, eI .i64 0, eI .i64 0, eI .i64 0, eI .i64 0, eI .i64 0, eI .i64 0]), (3, .var (cen7 l))]) (fun i hi => ?_) (fun _ _ => ?_)
  · refine dcase (fun h5 => ?_) (fun h5 => ?_)
    · have hi' : i < l.length := by omega
      have hxl := hl.at' hi'
      have hx := cRow_get (l := l) (i := (i : Int)) (n := i) rfl hi'
      have hs : l.take (i + 1) = l.take i ++ [l[i]] := List.take_succ_eq_append_getElem hi'
      have t1 := tot_take l (i + 1)
      have hal : (l.take i).length ≤ 1000000 := by rw [List.length_take]; omega
      rw [hs] at t1
      generalize l[i] = x at *
      generalize l.take i = a at *
      refine And.intro (by omega) (X1 _ hx ?_)
      refine X2 (.upd 3) ?_
      refine ⟨_, _, add24_ct a x hal hxl (by omega), ?_⟩
      refine X1 ((i + 1 : Nat) : Int) (wI (by simp) (by omega) (by omega)) ?_
      exact ⟨i + 1, by omega, by omega, ⟨rfl, rfl, rfl, rfl, rfl, trivial⟩, ⟨rfl, by rw [hs]; rfl, trivial⟩⟩
    · have e : i = l.length := by omega
      subst e
      rw [List.take_length]
      exact ⟨(), trivial, ⟨rfl, rfl, trivial⟩, ⟨rfl, rfl, trivial⟩⟩
  · exact ⟨trivial, rc rfl, trivial⟩
end Go.Proofs.YtpmchgndnhgncaaGreat.Pv
