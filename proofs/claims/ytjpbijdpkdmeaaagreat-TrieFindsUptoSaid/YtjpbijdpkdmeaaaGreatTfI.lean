/- Parts of a proof, joined: Je Jf Jg Cf Ch Jh Qa Jl Jm Jn Mc PvZ Hy. -/
import Derived.Test.YtjpbijdpkdmeaaaGreatTfH
namespace Go.Proofs.YtjpbijdpkdmeaaaGreat.Pv
open Go
def Up (l : List Nat) : Prop := ∀ i j, i ≤ j → j < l.length → l.getD i 0 ≤ l.getD j 0
theorem Up.snoc {l : List Nat} {v : Nat} (h : Up (l ++ [v])) : Up l := fun i j hij hj => by
  have := h i j hij (by rw [List.length_append]; omega)
  rw [List.getD_eq_getElem?_getD, List.getD_eq_getElem?_getD, List.getElem?_append_left (by omega), List.getElem?_append_left (by omega)] at this
  rw [List.getD_eq_getElem?_getD, List.getD_eq_getElem?_getD]; exact this
theorem getD_snoc {α : Type} {l : List α} {v d : α} {i : Nat} : (l ++ [v]).getD i d = if i < l.length then l.getD i d else if i = l.length then v else d := by
  rw [List.getD_eq_getElem?_getD, List.getD_eq_getElem?_getD]
  split
  · rw [List.getElem?_append_left (by omega)]
  · split
    · rename_i e; subst e; rw [List.getElem?_append_right (Nat.le_refl _), Nat.sub_self]; rfl
    · rw [List.getElem?_eq_none (by rw [List.length_append, List.length_singleton]; omega)]; rfl
def hiV (w : Nat) (l : List Nat) : Nat := ((List.range l.length).map fun i => 2 ^ (l.getD i 0 / 2 ^ w + i)).sum
def hiN (w : Nat) (l : List Nat) : Nat := if l.length = 0 then 0 else l.getD (l.length - 1) 0 / 2 ^ w + l.length
theorem hiV_nil (w : Nat) : hiV w [] = 0 := rfl
theorem hiV_snoc (w : Nat) (l : List Nat) (v : Nat) : hiV w (l ++ [v]) = hiV w l + 2 ^ (v / 2 ^ w + l.length) := by
  unfold hiV
  rw [List.length_append, List.length_singleton, List.range_succ, List.map_append, List.sum_append]
  congr 1
  · congr 1
    refine List.map_congr_left fun i hi => ?_
    rw [List.mem_range] at hi
    rw [getD_snoc, if_pos hi]
  · simp only [List.map_cons, List.map_nil, List.sum_cons, List.sum_nil]
    rw [getD_snoc, if_neg (by omega), if_pos rfl, Nat.add_zero]
theorem hiN_snoc (w : Nat) (l : List Nat) (v : Nat) : hiN w (l ++ [v]) = v / 2 ^ w + l.length + 1 := by
  unfold hiN
  rw [List.length_append, List.length_singleton, if_neg (by omega), Nat.add_sub_cancel, getD_snoc, if_neg (by omega), if_pos rfl]
  omega
theorem hiN_le {w : Nat} {l : List Nat} {v : Nat} (h : Up (l ++ [v])) : hiN w l ≤ v / 2 ^ w + l.length := by
  unfold hiN
  split
  · exact Nat.zero_le _
  · have := h (l.length - 1) l.length (by omega) (by rw [List.length_append]; simp)
    rw [getD_snoc, if_pos (by omega), getD_snoc, if_neg (by omega), if_pos rfl] at this
    have := Nat.div_le_div_right (c := 2 ^ w) this
    omega
theorem snoc_ind {P : List Nat → Prop} (h0 : P []) (h1 : ∀ l v, P l → P (l ++ [v])) : ∀ l, P l := fun l => by
  have : ∀ n (l : List Nat), l.length = n → P l := by
    intro n
    induction n with
    | zero => intro l h; rw [List.length_eq_zero_iff.1 h]; exact h0
    | succ n ih =>
      intro l h
      have hne : l ≠ [] := fun e => by rw [e] at h; simp at h
      rw [← List.dropLast_concat_getLast hne]
      exact h1 _ _ (ih _ (by rw [List.length_dropLast, h]; rfl))
  exact this _ l rfl
theorem rk_low {V N j : Nat} (b : Nat) (hj : j ≤ N) : rk (V + b * 2 ^ N) j = rk V j := by
  unfold rk
  obtain ⟨d, rfl⟩ := Nat.exists_eq_add_of_le hj
  rw [show b * 2 ^ (j + d) = 2 ^ j * (2 ^ d * b) by rw [Nat.pow_add, Nat.mul_comm, Nat.mul_assoc], Nat.add_mul_mod_self_left]
theorem bit_low {V N j : Nat} (b : Nat) (hj : j < N) : (V + b * 2 ^ N) / 2 ^ j % 2 = V / 2 ^ j % 2 := by
  obtain ⟨d, rfl⟩ := Nat.exists_eq_add_of_lt hj
  rw [show b * 2 ^ (j + d + 1) = 2 * (2 ^ d * b) * 2 ^ j by rw [Nat.pow_succ, Nat.pow_add]; simp only [Nat.mul_assoc, Nat.mul_comm, Nat.mul_left_comm], Nat.add_mul_div_right _ _ (Nat.two_pow_pos _), Nat.add_mul_mod_self_left]
theorem hi_all (w : Nat) : ∀ l : List Nat, Up l → hiV w l < 2 ^ hiN w l ∧ popc (hiV w l) = l.length ∧ ∀ i, i < l.length → IsOne (hiV w l) i (l.getD i 0 / 2 ^ w + i) := by
  refine snoc_ind ?_ ?_
  · intro _
    refine ⟨by rw [hiV_nil]; exact Nat.two_pow_pos _, by rw [hiV_nil, popc_zero]; rfl, fun i hi => by simp at hi⟩
  · intro l v ih h
    obtain ⟨a1, a2, a3⟩ := ih h.snoc
    have hle := hiN_le (w := w) h
    rw [hiV_snoc, hiN_snoc]
    generalize hN : v / 2 ^ w + l.length = N at *
    have hlt : hiV w l < 2 ^ N := Nat.lt_of_lt_of_le a1 (Nat.pow_le_pow_right (by omega) hle)
    have e1 : hiV w l + 2 ^ N = hiV w l + 1 * 2 ^ N := by rw [Nat.one_mul]
    refine ⟨by rw [Nat.pow_succ]; omega, ?_, fun i hi => ?_⟩
    · have := popc_split N (hiV w l) 1 hlt
      rw [Nat.mul_one] at this
      rw [this, a2, popc_1 (by decide), List.length_append]; rfl
    · rw [List.length_append, List.length_singleton] at hi
      by_cases hil : i < l.length
      · obtain ⟨b1, b2⟩ := a3 i hil
        have hp : l.getD i 0 / 2 ^ w + i < N := by
          have := h i l.length (by omega) (by rw [List.length_append]; simp)
          rw [getD_snoc, if_pos hil, getD_snoc, if_neg (by omega), if_pos rfl] at this
          have := Nat.div_le_div_right (c := 2 ^ w) this
          omega
        rw [getD_snoc, if_pos hil, e1]
        exact ⟨by rw [rk_low 1 (by omega)]; exact b1, by rw [bit_low 1 hp]; exact b2⟩
      · have e : i = l.length := by omega
        subst e
        rw [getD_snoc, if_neg (by omega), if_pos rfl, hN, e1]
        refine ⟨by rw [rk_low 1 (Nat.le_refl _), rk_top hlt (Nat.le_refl _), a2], ?_⟩
        rw [Nat.add_mul_div_right _ _ (Nat.two_pow_pos _), Nat.div_eq_of_lt hlt]
theorem hi_nil {w : Nat} {l : List Nat} (h : Up l) {c z : Nat} (hc : c ≤ l.length) (h1 : ∀ i, i < c → l.getD i 0 / 2 ^ w + i < z) (h2 : ∀ i, c ≤ i → i < l.length → z < l.getD i 0 / 2 ^ w + i) : rk (hiV w l) z = c ∧ hiV w l / 2 ^ z % 2 = 0 := by
  obtain ⟨a1, a2, a3⟩ := hi_all w l h
  have lo : c ≤ rk (hiV w l) z := by
    by_cases h0 : c = 0
    · omega
    · obtain ⟨b1, b2⟩ := a3 (c - 1) (by omega)
      have s := rk_succ (hiV w l) (l.getD (c - 1) 0 / 2 ^ w + (c - 1))
      have := rk_mono (hiV w l) (i := l.getD (c - 1) 0 / 2 ^ w + (c - 1) + 1) (j := z) (h1 (c - 1) (by omega))
      omega
  have hi : rk (hiV w l) (z + 1) ≤ c := by
    by_cases h0 : c < l.length
    · have := rk_mono (hiV w l) (i := z + 1) (j := l.getD c 0 / 2 ^ w + c) (h2 c (Nat.le_refl _) h0)
      rw [(a3 c h0).1] at this
      exact this
    · have := rk_mono (hiV w l) (i := z + 1) (j := z + 1 + hiN w l) (by omega)
      rw [rk_top a1 (i := z + 1 + hiN w l) (by omega), a2] at this
      omega
  have s := rk_succ (hiV w l) z
  have := Nat.mod_lt (hiV w l / 2 ^ z) (show 0 < 2 by decide)
  omega
def below (l : List Nat) (v : Nat) : Nat := (l.filter fun x => decide (x < v)).length
theorem below_le (l : List Nat) (v : Nat) : below l v ≤ l.length := List.length_filter_le _ _
theorem below_is {l : List Nat} {v c : Nat} (hc : c ≤ l.length) (h1 : ∀ i, i < c → l.getD i 0 < v) (h2 : ∀ i, c ≤ i → i < l.length → v ≤ l.getD i 0) : below l v = c := by
  have e : l = l.take c ++ l.drop c := (List.take_append_drop c l).symm
  have t1 : (l.take c).filter (fun x => decide (x < v)) = l.take c := by
    rw [List.filter_eq_self]
    intro x hx
    obtain ⟨i, hi⟩ := List.mem_iff_getElem?.1 hx
    rw [List.getElem?_take] at hi
    split at hi
    · rename_i hic
      have := h1 i hic
      rw [List.getD_eq_getElem?_getD, hi] at this
      simpa using this
    · cases hi
  have t2 : (l.drop c).filter (fun x => decide (x < v)) = [] := by
    rw [List.filter_eq_nil_iff]
    intro x hx
    obtain ⟨i, hi⟩ := List.mem_iff_getElem?.1 hx
    rw [List.getElem?_drop] at hi
    have hlt := (List.getElem?_eq_some_iff.1 hi).1
    have := h2 (c + i) (by omega) hlt
    rw [List.getD_eq_getElem?_getD, hi] at this
    simp only [Option.getD_some] at this
    simpa using this
  unfold below
  conv => lhs; rw [e]
  rw [List.filter_append, t1, t2, List.append_nil, List.length_take]
  omega
theorem below_up {l : List Nat} (h : Up l) (v : Nat) : (∀ i, i < below l v → l.getD i 0 < v) ∧ ∀ i, below l v ≤ i → i < l.length → v ≤ l.getD i 0 := by
  have ex : ∃ c, c ≤ l.length ∧ (∀ i, i < c → l.getD i 0 < v) ∧ ∀ i, c ≤ i → i < l.length → v ≤ l.getD i 0 := by
    revert h
    refine snoc_ind (P := fun l => Up l → ∃ c, c ≤ l.length ∧ (∀ i, i < c → l.getD i 0 < v) ∧ ∀ i, c ≤ i → i < l.length → v ≤ l.getD i 0) ?_ ?_ l
    · exact fun _ => ⟨0, by simp, fun i hi => by omega, fun i _ hi => by simp at hi⟩
    · intro l x ih h
      obtain ⟨c, c1, c2, c3⟩ := ih h.snoc
      by_cases hx : x < v
      · refine ⟨l.length + 1, by rw [List.length_append]; simp, fun i hi => ?_, fun i hi hi2 => by rw [List.length_append, List.length_singleton] at hi2; omega⟩
        have := h i l.length (by omega) (by rw [List.length_append]; simp)
        rw [getD_snoc (i := l.length), if_neg (by omega), if_pos rfl] at this
        omega
      · refine ⟨c, by rw [List.length_append]; omega, fun i hi => by rw [getD_snoc, if_pos (by omega)]; exact c2 i hi, fun i hi hi2 => ?_⟩
        rw [List.length_append, List.length_singleton] at hi2
        rw [getD_snoc]
        split
        · rename_i hl; exact c3 i hi hl
        · rw [if_pos (by omega)]; omega
  obtain ⟨c, c1, c2, c3⟩ := ex
  rw [below_is c1 c2 c3]
  exact ⟨c2, c3⟩
def preS (c : List Nat) : List Nat := (List.range (c.length + 1)).map fun i => (c.take i).sum
theorem preS_len (c : List Nat) : (preS c).length = c.length + 1 := by simp [preS]
theorem preS_get {c : List Nat} {i : Nat} (h : i ≤ c.length) : (preS c).getD i 0 = (c.take i).sum := by
  rw [preS, List.getD_eq_getElem?_getD, List.getElem?_map, List.getElem?_range (by omega)]; rfl
theorem take_sum_succ {c : List Nat} {i : Nat} (h : i < c.length) : (c.take (i + 1)).sum = (c.take i).sum + c.getD i 0 := by
  rw [List.take_succ_eq_append_getElem h, List.sum_append, List.getD_eq_getElem?_getD, List.getElem?_eq_getElem h]; simp
theorem take_sum_mono (c : List Nat) {i j : Nat} (h : i ≤ j) : (c.take i).sum ≤ (c.take j).sum := by
  obtain ⟨d, rfl⟩ := Nat.exists_eq_add_of_le h
  rw [List.take_add, List.sum_append]; omega
theorem preS_up (c : List Nat) : Up (preS c) := fun i j hij hj => by
  rw [preS_len] at hj
  rw [preS_get (by omega), preS_get (by omega)]
  exact take_sum_mono c hij
def Rise (l : List Nat) : Prop := ∀ i j, i < j → j < l.length → l.getD i 0 < l.getD j 0
theorem Rise.up {l : List Nat} (h : Rise l) : Up l := fun i j hij hj => by
  by_cases e : i = j
  · subst e; exact Nat.le_refl _
  · exact Nat.le_of_lt (h i j (by omega) hj)
theorem Rise.below {l : List Nat} (h : Rise l) {i : Nat} (hi : i < l.length) : Pv.below l (l.getD i 0) = i :=
  below_is (by omega) (fun j hj => h j i hj hi) (fun j hj hj2 => h.up i j hj hj2)
def baseC (c : List Nat) : Nat := if c.length = 0 then 0 else c.getD (c.length - 1) 0 + 1
def chainF (G : List (List Nat)) : List Nat := G.foldl (fun c g => c ++ g.map (baseC c + ·)) []
theorem chainF_snoc (G : List (List Nat)) (g : List Nat) : chainF (G ++ [g]) = chainF G ++ g.map (baseC (chainF G) + ·) := by simp [chainF, List.foldl_append]
def cnts (G : List (List Nat)) : List Nat := G.map List.length
theorem chainF_len : ∀ G : List (List Nat), (chainF G).length = (cnts G).sum := fun G => by
  have key : ∀ (G : List (List Nat)) (c : List Nat), (G.foldl (fun c g => c ++ g.map (baseC c + ·)) c).length = c.length + (cnts G).sum := by
    intro G
    induction G with
    | nil => intro c; simp [cnts]
    | cons g G ih =>
      intro c
      rw [List.foldl_cons, ih, List.length_append, List.length_map]
      simp [cnts]; omega
  have := key G []
  simpa [chainF] using this
theorem getD_app_l {α : Type} {l m : List α} {i : Nat} {d : α} (h : i < l.length) : (l ++ m).getD i d = l.getD i d := by
  rw [List.getD_eq_getElem?_getD, List.getD_eq_getElem?_getD, List.getElem?_append_left h]
theorem getD_app_r {α : Type} {l m : List α} {i : Nat} {d : α} : (l ++ m).getD (l.length + i) d = m.getD i d := by
  rw [List.getD_eq_getElem?_getD, List.getD_eq_getElem?_getD, List.getElem?_append_right (by omega), Nat.add_sub_cancel_left]
theorem getD_map_add {l : List Nat} {b i : Nat} (h : i < l.length) : (l.map (b + ·)).getD i 0 = b + l.getD i 0 := by
  rw [List.getD_eq_getElem?_getD, List.getD_eq_getElem?_getD, List.getElem?_map, List.getElem?_eq_getElem h]; rfl
theorem baseC_gt {c : List Nat} (h : Rise c) {i : Nat} (hi : i < c.length) : c.getD i 0 < baseC c := by
  unfold baseC
  rw [if_neg (by omega)]
  have := h.up i (c.length - 1) (by omega) (by omega)
  omega
theorem chain_rise_snoc {c g : List Nat} (h : Rise c) (hg : Rise g) : Rise (c ++ g.map (baseC c + ·)) := fun i j hij hj => by
  rw [List.length_append, List.length_map] at hj
  by_cases h1 : j < c.length
  · rw [getD_app_l (by omega), getD_app_l h1]; exact h i j hij h1
  · obtain ⟨k, rfl⟩ := Nat.exists_eq_add_of_le (Nat.le_of_not_lt h1)
    rw [getD_app_r, getD_map_add (by omega)]
    by_cases h2 : i < c.length
    · rw [getD_app_l h2]
      have := baseC_gt h h2
      omega
    · obtain ⟨m, rfl⟩ := Nat.exists_eq_add_of_le (Nat.le_of_not_lt h2)
      rw [getD_app_r, getD_map_add (by omega)]
      have := hg m k (by omega) (by omega)
      omega
theorem cnts_snoc (G : List (List Nat)) (g : List Nat) : cnts (G ++ [g]) = cnts G ++ [g.length] := by simp [cnts]
theorem snocG_ind {P : List (List Nat) → Prop} (h0 : P []) (h1 : ∀ G g, P G → P (G ++ [g])) : ∀ G, P G := fun G => by
  have : ∀ n (l : List (List Nat)), l.length = n → P l := by
    intro n
    induction n with
    | zero => intro l h; rw [List.length_eq_zero_iff.1 h]; exact h0
    | succ n ih =>
      intro l h
      have hne : l ≠ [] := fun e => by rw [e] at h; simp at h
      rw [← List.dropLast_concat_getLast hne]
      exact h1 _ _ (ih _ (by rw [List.length_dropLast, h]; rfl))
  exact this _ G rfl
theorem chainF_rise : ∀ G : List (List Nat), (∀ g, g ∈ G → Rise g) → Rise (chainF G) := by
  refine snocG_ind ?_ ?_
  · intro _ i j _ hj; simp [chainF] at hj
  · intro G g ih h
    rw [chainF_snoc]
    exact chain_rise_snoc (ih fun x hx => h x (by simp [hx])) (h g (by simp))
def loG (G : List (List Nat)) (g : Nat) : Nat := ((cnts G).take g).sum
theorem chainF_take (G : List (List Nat)) (g : Nat) (hg : g < G.length) : chainF (G.take (g + 1)) = chainF (G.take g) ++ (G.getD g []).map (baseC (chainF (G.take g)) + ·) := by
  rw [List.take_succ_eq_append_getElem hg, chainF_snoc, List.getD_eq_getElem?_getD, List.getElem?_eq_getElem hg]; rfl
theorem chainF_pre (G H : List (List Nat)) : ∃ r, chainF (G ++ H) = chainF G ++ r := by
  revert H
  refine snocG_ind (P := fun H => ∃ r, chainF (G ++ H) = chainF G ++ r) ⟨[], by simp⟩ ?_
  intro H g ⟨r, hr⟩
  refine ⟨r ++ g.map (baseC (chainF (G ++ H)) + ·), ?_⟩
  rw [← List.append_assoc, chainF_snoc, hr, List.append_assoc]
theorem lo_len (G : List (List Nat)) (g : Nat) : (chainF (G.take g)).length = loG G g := by
  rw [chainF_len, loG]; simp [cnts, List.map_take]
theorem chain_at {G : List (List Nat)} {g j : Nat} (hg : g < G.length) (hj : j < (G.getD g []).length) : (chainF G).getD (loG G g + j) 0 = baseC (chainF (G.take g)) + (G.getD g []).getD j 0 := by
  obtain ⟨r, hr⟩ := chainF_pre (G.take (g + 1)) (G.drop (g + 1))
  rw [List.take_append_drop] at hr
  rw [hr, chainF_take G g hg, List.append_assoc, ← lo_len, getD_app_r, getD_app_l (by rw [List.length_map]; exact hj), getD_map_add hj]
theorem chain_base {G : List (List Nat)} {g : Nat} (hg : g ≤ G.length) : baseC (chainF (G.take g)) = if loG G g = 0 then 0 else (chainF G).getD (loG G g - 1) 0 + 1 := by
  obtain ⟨r, hr⟩ := chainF_pre (G.take g) (G.drop g)
  rw [List.take_append_drop] at hr
  unfold baseC
  rw [lo_len]
  split
  · rfl
  · rename_i h0
    rw [hr, getD_app_l (by rw [lo_len]; omega)]
theorem lo_succ {G : List (List Nat)} {g : Nat} (hg : g < G.length) : loG G (g + 1) = loG G g + (G.getD g []).length := by
  unfold loG
  rw [take_sum_succ (by simpa [cnts] using hg)]
  congr 1
  simp [cnts, List.getD_eq_getElem?_getD, hg]
end Go.Proofs.YtjpbijdpkdmeaaaGreat.Pv
namespace Go.Proofs.YtjpbijdpkdmeaaaGreat.Pv
open Go
section
variable {α : Type} [DecidableEq α] {H : α → Nat} {T : List α} {s : List Nat}
def stopS (T : List α) (s : List Nat) (k : α) (p : Nat) : Prop := s.getD p 0 = 0 ∨ T[s.getD p 0 - 1]? = some k
instance (T : List α) (s : List Nat) (k : α) (p : Nat) : Decidable (stopS T s k p) := by unfold stopS; infer_instance
def wayS (H : α → Nat) (s : List Nat) (k : α) (d : Nat) : Nat := (H k + d) % s.length
structure Tab (H : α → Nat) (T : List α) (s : List Nat) : Prop where
  val : ∀ p, s.getD p 0 ≤ T.length
  slot : ∀ (j : Nat) k, T[j]? = some k → ∃ d, d < s.length ∧ s.getD (wayS H s k d) 0 = j + 1 ∧ ∀ e, e < d → s.getD (wayS H s k e) 0 ≠ 0
  one : ∀ p q, s.getD p 0 ≠ 0 → s.getD p 0 = s.getD q 0 → p = q
  nod : ∀ (i j : Nat) k, T[i]? = some k → T[j]? = some k → i = j
  cnt : (s.filter fun x => decide (x ≠ 0)).length = T.length
  room : T.length < s.length
structure First (H : α → Nat) (T : List α) (s : List Nat) (k : α) (d : Nat) : Prop where
  lt : d < s.length
  at' : stopS T s k (wayS H s k d)
  no : ∀ e, e < d → ¬ stopS T s k (wayS H s k e)
theorem set_cnt {v : Nat} (hv : v ≠ 0) : ∀ {l : List Nat} {p : Nat}, p < l.length → l.getD p 0 = 0 → ((l.set p v).filter fun x => decide (x ≠ 0)).length = (l.filter fun x => decide (x ≠ 0)).length + 1
  | [], p, h, _ => by simp at h
  | x :: l, 0, _, h => by
    have : x = 0 := by simpa using h
    subst this
    simp [hv]
  | x :: l, p + 1, h, h0 => by
    have ih := set_cnt hv (l := l) (p := p) (by simpa using h) (by simpa using h0)
    rw [List.set_cons_succ, List.filter_cons, List.filter_cons]
    split <;> simp only [List.length_cons, ih]
omit [DecidableEq α] in
theorem Tab.zero (h : Tab H T s) : ∃ p, p < s.length ∧ s.getD p 0 = 0 := by
  apply Classical.byContradiction
  intro hn
  have : s.filter (fun x => decide (x ≠ 0)) = s := by
    rw [List.filter_eq_self]
    intro x hx
    obtain ⟨i, hi⟩ := List.mem_iff_getElem?.1 hx
    have hlt := (List.getElem?_eq_some_iff.1 hi).1
    simp only [ne_eq, decide_not, Bool.not_eq_eq_eq_not, Bool.not_true, decide_eq_false_iff_not]
    intro e
    exact hn ⟨i, hlt, by rw [List.getD_eq_getElem?_getD, hi, e]; rfl⟩
  have h1 := h.cnt
  rw [this] at h1
  have := h.room
  omega
theorem Tab.first (h : Tab H T s) (k : α) : ∃ d, First H T s k d := by
  obtain ⟨p, hp, h0⟩ := h.zero
  have hs : 0 < s.length := by omega
  have ex : ∃ d, d < s.length ∧ stopS T s k (wayS H s k d) := by
    have h1 := Nat.mod_lt (H k) hs
    refine ⟨(p + (s.length - H k % s.length)) % s.length, Nat.mod_lt _ hs, .inl ?_⟩
    have e : wayS H s k ((p + (s.length - H k % s.length)) % s.length) = p := by
      unfold wayS
      rw [Nat.add_mod, Nat.mod_mod, ← Nat.add_mod, ← Nat.mod_add_div (H k) s.length]
      have : H k % s.length + s.length * (H k / s.length) + (p + (s.length - (H k % s.length + s.length * (H k / s.length)) % s.length)) = p + s.length * (H k / s.length + 1) := by
        rw [Nat.add_mul_mod_self_left, Nat.mod_mod, Nat.mul_add, Nat.mul_one]
        omega
      rw [this, Nat.add_mul_mod_self_left, Nat.mod_eq_of_lt hp]
    rw [e]; exact h0
  have least : ∀ n d, d = n → d < s.length → stopS T s k (wayS H s k d) → ∃ d, First H T s k d := by
    intro n
    induction n using Nat.strongRecOn with
    | ind n ih =>
      intro d e hd hst
      subst e
      by_cases hl : ∃ e, e < d ∧ stopS T s k (wayS H s k e)
      · obtain ⟨e, h1, h2⟩ := hl
        exact ih e h1 e rfl (by omega) h2
      · exact ⟨d, hd, hst, fun e he hs => hl ⟨e, he, hs⟩⟩
  obtain ⟨d, h1, h2⟩ := ex
  exact least d d rfl h1 h2
omit [DecidableEq α] in
theorem Tab.hit (h : Tab H T s) {k : α} {d j : Nat} (hf : First H T s k d) (hk : T[j]? = some k) : s.getD (wayS H s k d) 0 = j + 1 := by
  obtain ⟨d', h1, h2, h3⟩ := h.slot j k hk
  have st : stopS T s k (wayS H s k d') := .inr (by rw [h2, Nat.add_sub_cancel]; exact hk)
  have h4 : ¬ d' < d := fun hlt => hf.no d' hlt st
  have h5 : ¬ d < d' := fun hlt => by
    have hne := h3 d hlt
    rcases hf.at' with h0 | h0
    · exact hne h0
    · have := h.nod _ _ k h0 hk
      have e : s.getD (wayS H s k d) 0 = s.getD (wayS H s k d') 0 := by rw [h2]; omega
      have hw := h.one _ _ hne e
      have hs : 0 < s.length := by omega
      unfold wayS at hw
      have a1 : d < s.length := hf.lt
      have b1 := Nat.mod_add_div (H k + d) s.length
      have b2 := Nat.mod_add_div (H k + d') s.length
      rw [hw] at b1
      generalize (H k + d') % s.length = r at *
      have : s.length * ((H k + d') / s.length) = s.length * ((H k + d) / s.length) + (d' - d) := by omega
      have hlt' : s.length * ((H k + d) / s.length) < s.length * ((H k + d') / s.length) := by omega
      have := Nat.lt_of_mul_lt_mul_left hlt'
      have := Nat.mul_le_mul_left s.length this
      rw [Nat.mul_succ] at this
      omega
  have : d = d' := by omega
  rw [this]; exact h2
omit [DecidableEq α] in
theorem Tab.miss (h : Tab H T s) {k : α} {d : Nat} (hf : First H T s k d) (hk : k ∉ T) : s.getD (wayS H s k d) 0 = 0 := by
  rcases hf.at' with h0 | h0
  · exact h0
  · exact absurd (List.mem_of_getElem? h0) hk
theorem getDs_ne {l : List Nat} {p q v : Nat} (h : p ≠ q) : (l.set p v).getD q 0 = l.getD q 0 := by
  rw [List.getD_eq_getElem?_getD, List.getD_eq_getElem?_getD, List.getElem?_set_ne h]
theorem getDs_self {l : List Nat} {p v : Nat} (h : p < l.length) : (l.set p v).getD p 0 = v := by
  rw [List.getD_eq_getElem?_getD, List.getElem?_set_self h]; rfl
omit [DecidableEq α] in
theorem Tab.ins (h : Tab H T s) {k : α} {d : Nat} (hf : First H T s k d) (hk : k ∉ T) (hr : T.length + 1 < s.length) : Tab H (T ++ [k]) (s.set (wayS H s k d) (T.length + 1)) := by
  have hs : 0 < s.length := by omega
  have h0 := h.miss hf hk
  have hp : wayS H s k d < s.length := Nat.mod_lt _ hs
  have way : ∀ x e, wayS H (s.set (wayS H s k d) (T.length + 1)) x e = wayS H s x e := fun x e => by unfold wayS; rw [List.length_set]
  have len : (T ++ [k]).length = T.length + 1 := by simp
  have get : ∀ q, (s.set (wayS H s k d) (T.length + 1)).getD q 0 = if q = wayS H s k d then T.length + 1 else s.getD q 0 := fun q => by
    split
    · rename_i e; rw [e, getDs_self hp]
    · rename_i e; rw [getDs_ne fun e' => e e'.symm]
  refine ⟨fun p => ?_, fun j x hj => ?_, fun p q h1 h2 => ?_, fun i j x hi hj => ?_, ?_, by rw [len, List.length_set]; exact hr⟩
  · rw [get, len]
    have := h.val p
    split <;> omega
  · by_cases hjl : j < T.length
    · rw [List.getElem?_append_left hjl] at hj
      obtain ⟨d', a1, a2, a3⟩ := h.slot j x hj
      refine ⟨d', by rw [List.length_set]; exact a1, ?_, fun e he => ?_⟩
      · rw [way, get, if_neg (fun e => by rw [e, h0] at a2; omega)]; exact a2
      · rw [way, get]
        have := a3 e he
        split <;> omega
    · have hj2 : j = T.length := by
        have := (List.getElem?_eq_some_iff.1 hj).1
        rw [len] at this; omega
      subst hj2
      rw [List.getElem?_append_right (Nat.le_refl _), Nat.sub_self] at hj
      have e : k = x := by simpa using hj
      subst e
      refine ⟨d, by rw [List.length_set]; exact hf.lt, by rw [way, get, if_pos rfl], fun e he => ?_⟩
      rw [way, get]
      have hno := hf.no e he
      split
      · omega
      · exact fun e0 => hno (.inl e0)
  · rw [get] at h1 h2
    rw [get] at h2
    have v1 := h.val p
    have v2 := h.val q
    split at h2
    · rename_i e1
      split at h2
      · rename_i e2; rw [e1, e2]
      · omega
    · split at h2
      · omega
      · rename_i e1 e2
        rw [if_neg e1] at h1
        exact h.one p q h1 h2
  · by_cases hil : i < T.length
    · rw [List.getElem?_append_left hil] at hi
      by_cases hjl : j < T.length
      · rw [List.getElem?_append_left hjl] at hj
        exact h.nod i j x hi hj
      · have hj2 : j = T.length := by
          have := (List.getElem?_eq_some_iff.1 hj).1
          rw [len] at this; omega
        subst hj2
        rw [List.getElem?_append_right (Nat.le_refl _), Nat.sub_self] at hj
        have e : k = x := by simpa using hj
        subst e
        exact absurd (List.mem_of_getElem? hi) hk
    · have hi2 : i = T.length := by
        have := (List.getElem?_eq_some_iff.1 hi).1
        rw [len] at this; omega
      subst hi2
      rw [List.getElem?_append_right (Nat.le_refl _), Nat.sub_self] at hi
      have e : k = x := by simpa using hi
      subst e
      by_cases hjl : j < T.length
      · rw [List.getElem?_append_left hjl] at hj
        exact absurd (List.mem_of_getElem? hj) hk
      · have := (List.getElem?_eq_some_iff.1 hj).1
        rw [len] at this; omega
  · rw [set_cnt (by omega) hp h0, h.cnt, len]
omit [DecidableEq α] in
theorem Tab.nil {n : Nat} (hn : 0 < n) : Tab H ([] : List α) (List.replicate n 0) := by
  have z : ∀ p, (List.replicate n 0).getD p 0 = 0 := fun p => by
    rw [List.getD_eq_getElem?_getD, List.getElem?_replicate]; split <;> rfl
  refine ⟨fun p => by rw [z]; exact Nat.zero_le _, fun j k h => by simp at h, fun p q h _ => absurd (z p) h, fun i j k h _ => by simp at h, ?_, by simpa using hn⟩
  rw [List.length_nil, List.length_eq_zero_iff, List.filter_eq_nil_iff]
  intro x hx
  rw [List.eq_of_mem_replicate hx]; simp
end
end Go.Proofs.YtjpbijdpkdmeaaaGreat.Pv
namespace Go.Proofs.YtjpbijdpkdmeaaaGreat.Pv
open Go
def iRow (l : List Int) : List (List PC) := l.map fun x => [eI .i64 x]
abbrev iSl (l : List Int) : PC := .sl 1 (iRow l)
theorem iRow_len {l : List Int} : (iRow l).length = l.length := by simp [iRow]
theorem iRow_getN {l : List Int} {i : Int} {n : Nat} (h0 : i = n) (h : n < l.length) : (iRow l)[i.toNat]? = some [eI .i64 (l.getD n 0)] := by
  subst h0
  simp [iRow, h]
theorem getD_eq_of {l m : List Int} {i : Nat} (hl : i < l.length) (hm : i < m.length) (h : l.getD i 0 = m.getD i 0) : l[i]? = m[i]? := by
  rw [List.getD_eq_getElem?_getD, List.getD_eq_getElem?_getD, List.getElem?_eq_getElem hl, List.getElem?_eq_getElem hm] at h
  rw [List.getElem?_eq_getElem hl, List.getElem?_eq_getElem hm]
  exact congrArg some h
theorem take_eq_succ {l m : List Int} {i : Nat} (hl : i < l.length) (hm : i < m.length) (h0 : l.take i = m.take i) (h : l.getD i 0 = m.getD i 0) : l.take (i + 1) = m.take (i + 1) := by
  rw [List.take_add_one, List.take_add_one, h0, getD_eq_of hl hm h]
theorem equal_ct (l m : List Int) (hl : l.length ≤ 1000000) (hm : m.length ≤ 1000000) : Ct P 100 [.c (iSl l), .c (iSl m)] [.c (.sc (.bool (decide (l = m))))] := by
  refine Ct.go T_ok T_mix (N := 26) Tryz.func100 rfl rfl rfl rfl ?_
  refine And.intro (by rw [iRow_len]; omega) ?_
  refine And.intro (by rw [iRow_len]; omega) ?_
  rw [iRow_len, iRow_len]
  refine ncase (fun h => ?_) (fun h => ?_)
  · have hne : l ≠ m := fun e => h (by rw [e])
    rw [decide_eq_false hne]
    exact ⟨trivial, r1 rfl, trivial⟩
  · refine And.intro (by rw [iRow_len]; omega) ?_
    rw [iRow_len]
    refine loopJ T_ok T_mix (fun i : Nat => i ≤ l.length ∧ l.take i = m.take i) (fun i => [(0, .c (iSl l)), (1, .c (iSl m)), (12, .c (nI .i64 l.length)), (13, .c (nI .i64 i))]) (fun _ => []) (fun i => l.length - i)
      0 ⟨by omega, rfl⟩ ⟨rfl, rfl, rfl, rfl, trivial⟩ trivial (fun _ : Unit => l = m) (fun _ => []) (fun _ => []) (fun i hi => ?_) (fun _ he => ?_)
    · obtain ⟨h1, h2⟩ := hi
      refine dcase (fun h5 => ?_) (fun h5 => ?_)
      · refine And.intro (by omega) (X1 _ (iRow_getN rfl (by omega)) ?_)
        refine And.intro (by omega) (X1 _ (iRow_getN rfl (by omega)) ?_)
        refine And.intro rfl ?_
        refine ncase (fun h6 => ?_) (fun h6 => ?_)
        · have hne : l ≠ m := fun e => h6 (by rw [e])
          rw [decide_eq_false hne]
          exact ⟨trivial, r1 rfl, trivial⟩
        · refine X1 ((i + 1 : Nat) : Int) (wI1 (by omega)) ?_
          exact ⟨i + 1, ⟨by omega, take_eq_succ (by omega) (by omega) h2 h6⟩, by omega, ⟨rfl, rfl, rfl, rfl, trivial⟩, trivial⟩
      · have e : i = l.length := by omega
        subst e
        rw [List.take_length, List.take_of_length_le (by omega)] at h2
        exact ⟨(), h2, trivial, trivial⟩
    · rw [decide_eq_true he]
      exact ⟨trivial, r1 rfl, trivial⟩
theorem ints_ct (l m : List Int) (hl : l.length ≤ 1000000) (hm : m.length ≤ 1000000) : Ct P 19 [.c (iSl l), .c (iSl m)] [.c (.sc (.bool (decide (l = m))))] := by
  refine Ct.go T_ok T_mix (N := 26) Tryz.func19 rfl rfl rfl rfl ?_
  refine And.intro (by rw [iRow_len]; omega) ?_
  refine And.intro (by rw [iRow_len]; omega) ?_
  rw [iRow_len, iRow_len]
  refine ncase (fun h => ?_) (fun h => ?_)
  · have hne : l ≠ m := fun e => h (by rw [e])
    rw [decide_eq_false hne]
    exact ⟨trivial, r1 rfl, trivial⟩
  · refine loopJ T_ok T_mix (fun i : Nat => i ≤ l.length ∧ l.take i = m.take i) (fun i => [(0, .c (iSl l)), (1, .c (iSl m)), (5, .c (nI .i64 i))]) (fun _ => []) (fun i => l.length - i)
      0 ⟨by omega, rfl⟩ ⟨rfl, rfl, rfl, trivial⟩ trivial (fun _ : Unit => l = m) (fun _ => []) (fun _ => []) (fun i hi => ?_) (fun _ he => ?_)
    · obtain ⟨h1, h2⟩ := hi
      refine And.intro (by rw [iRow_len]; omega) ?_
      rw [iRow_len]
      refine dcase (fun h5 => ?_) (fun h5 => ?_)
      · refine And.intro (by omega) (X1 _ (iRow_getN rfl (by omega)) ?_)
        refine And.intro (by omega) (X1 _ (iRow_getN rfl (by omega)) ?_)
        refine And.intro rfl ?_
        refine ncase (fun h6 => ?_) (fun h6 => ?_)
        · have hne : l ≠ m := fun e => h6 (by rw [e])
          rw [decide_eq_false hne]
          exact ⟨trivial, r1 rfl, trivial⟩
        · refine X1 ((i + 1 : Nat) : Int) (wI1 (by omega)) ?_
          exact ⟨i + 1, ⟨by omega, take_eq_succ (by omega) (by omega) h2 h6⟩, by omega, ⟨rfl, rfl, rfl, trivial⟩, trivial⟩
      · have e : i = l.length := by omega
        subst e
        rw [List.take_length, List.take_of_length_le (by omega)] at h2
        exact ⟨(), h2, trivial, trivial⟩
    · rw [decide_eq_true he]
      exact ⟨trivial, r1 rfl, trivial⟩
def idx (x : Int) : List Int → Int
  | [] => -1
  | y :: l => if x = y then 0 else if idx x l < 0 then -1 else idx x l + 1
theorem idx_spec (x : Int) : ∀ (l : List Int) (i : Nat), (∀ j, j < i → l[j]? ≠ some x) → l[i]? = some x → idx x l = i
  | [], i, _, h => by simp at h
  | y :: l, 0, _, h => by simp at h; simp [idx, h]
  | y :: l, i + 1, h1, h => by
    have h0 : y ≠ x := fun e => h1 0 (by omega) (by simp [e])
    have := idx_spec x l i (fun j hj => by simpa using h1 (j + 1) (by omega)) (by simpa using h)
    simp only [idx, this]
    rw [if_neg (fun e => h0 e.symm), if_neg (by omega)]
    simp
theorem idx_none (x : Int) : ∀ (l : List Int), (∀ j : Nat, l[j]? ≠ some x) → idx x l = -1
  | [], _ => rfl
  | y :: l, h => by
    have h0 : y ≠ x := fun e => h 0 (by simp [e])
    have := idx_none x l (fun j => by simpa using h (j + 1))
    simp only [idx, this]
    rw [if_neg (fun e => h0 e.symm), if_pos (by omega)]
theorem index_ct (l : List Int) (x : Int) (hl : l.length ≤ 1000000) : Ct P 164 [.c (iSl l), .c (eI .i64 x)] [.c (eI .i64 (idx x l))] := by
  refine Ct.go T_ok T_mix (N := 19) Tryz.func164 rfl rfl rfl rfl ?_
  refine And.intro (by rw [iRow_len]; omega) ?_
  rw [iRow_len]
  refine loopJ T_ok T_mix (fun i : Nat => i ≤ l.length ∧ ∀ j, j < i → l[j]? ≠ some x) (fun i => [(0, .c (iSl l)), (1, .c (eI .i64 x)), (7, .c (nI .i64 l.length)), (8, .c (nI .i64 i))]) (fun _ => []) (fun i => l.length - i)
    0 ⟨by omega, fun j hj => by omega⟩ ⟨rfl, rfl, rfl, rfl, trivial⟩ trivial (fun _ : Unit => idx x l = -1) (fun _ => []) (fun _ => []) (fun i hi => ?_) (fun _ he => ?_)
  · obtain ⟨h1, h2⟩ := hi
    refine dcase (fun h5 => ?_) (fun h5 => ?_)
    · refine And.intro (by omega) (X1 _ (iRow_getN rfl (by omega)) ?_)
      have hg : l[i]? = some (l.getD i 0) := by simp [List.getD_eq_getElem?_getD, (by omega : i < l.length)]
      refine ecase (fun h6 => ?_) (fun h6 => ?_)
      · exact ⟨trivial, r1 (iE (idx_spec x l i h2 (by rw [hg, h6])).symm), trivial⟩
      · refine X1 ((i + 1 : Nat) : Int) (wI1 (by omega)) ?_
        refine ⟨i + 1, ⟨by omega, fun j hj => ?_⟩, by omega, ⟨rfl, rfl, rfl, rfl, trivial⟩, trivial⟩
        by_cases hji : j = i
        · subst hji
          rw [hg]
          intro e
          exact h6 (Option.some.inj e).symm
        · exact h2 j (by omega)
    · refine ⟨(), idx_none x l (fun j => ?_), trivial, trivial⟩
      by_cases hj : j < i
      · exact h2 j hj
      · rw [List.getElem?_eq_none (by omega)]; simp
  · exact ⟨trivial, r1 (iE he.symm), trivial⟩
theorem contains_ct (l : List Int) (x : Int) (hl : l.length ≤ 1000000) : Ct P 133 [.c (iSl l), .c (eI .i64 x)] [.c (.sc (.bool (decide (idx x l ≥ 0))))] := by
  refine Ct.go T_ok T_mix (N := 9) Tryz.func133 rfl rfl rfl rfl ?_
  refine X1 _ (index_ct l x hl) ?_
  exact ⟨trivial, r1 rfl, trivial⟩
def lexC : List Int → List Int → Int
  | [], [] => 0
  | [], _ :: _ => -1
  | _ :: _, [] => 1
  | x :: l, y :: m => if cmpI x y ≠ 0 then cmpI x y else lexC l m
theorem compare_ct (l m : List Int) (hl : l.length ≤ 1000000) (hm : m.length ≤ 1000000) : Ct P 135 [.c (iSl l), .c (iSl m)] [.c (eI .i64 (lexC l m))] := by
  refine Ct.go T_ok T_mix (N := 36) Tryz.func135 rfl rfl rfl rfl ?_
  refine And.intro (by rw [iRow_len]; omega) ?_
  rw [iRow_len]
  refine loopJ T_ok T_mix (fun i : Nat => i ≤ l.length ∧ i ≤ m.length ∧ lexC l m = lexC (l.drop i) (m.drop i)) (fun i => [(0, .c (iSl l)), (1, .c (iSl m)), (9, .c (iSl l)), (10, .c (nI .i64 l.length)), (11, .c (nI .i64 i))]) (fun _ => []) (fun i => l.length - i)
    0 ⟨by omega, by omega, rfl⟩ ⟨rfl, rfl, rfl, rfl, rfl, trivial⟩ trivial (fun _ : Unit => l.length ≤ m.length ∧ lexC l m = if l.length < m.length then -1 else 0) (fun _ => [(0, .c (iSl l)), (1, .c (iSl m))]) (fun _ => []) (fun i hi => ?_) (fun _ he => ?_)
  · obtain ⟨h1, h2, h3⟩ := hi
    refine dcase (fun h5 => ?_) (fun h5 => ?_)
    · refine And.intro (by omega) (X1 _ (iRow_getN rfl (by omega)) ?_)
      refine And.intro (by rw [iRow_len]; omega) ?_
      rw [iRow_len]
      have dl : l.drop i = l.getD i 0 :: l.drop (i + 1) := by
        rw [List.drop_eq_getElem_cons (by omega)]; simp [List.getD_eq_getElem?_getD, (by omega : i < l.length)]
      refine dcase (fun h6 => ?_) (fun h6 => ?_)
      · have dm : m.drop i = [] := List.drop_eq_nil_of_le (by omega)
        rw [dl, dm, lexC] at h3
        exact ⟨trivial, r1 (iE h3.symm), trivial⟩
      · have dm : m.drop i = m.getD i 0 :: m.drop (i + 1) := by
          rw [List.drop_eq_getElem_cons (by omega)]; simp [List.getD_eq_getElem?_getD, (by omega : i < m.length)]
        rw [dl, dm, lexC] at h3
        refine And.intro (by omega) (X1 _ (iRow_getN rfl (by omega)) ?_)
        refine X1 _ (cmpI_ct _ _) ?_
        refine ncase (fun h7 => ?_) (fun h7 => ?_)
        · rw [if_pos h7] at h3
          exact ⟨trivial, r1 (iE h3.symm), trivial⟩
        · rw [if_neg (fun h => h h7)] at h3
          refine X1 ((i + 1 : Nat) : Int) (wI1 (by omega)) ?_
          exact ⟨i + 1, ⟨by omega, by omega, h3⟩, by omega, ⟨rfl, rfl, rfl, rfl, rfl, trivial⟩, trivial⟩
    · have e : i = l.length := by omega
      subst e
      refine ⟨(), ⟨h2, ?_⟩, ⟨rfl, rfl, trivial⟩, trivial⟩
      rw [h3, List.drop_length]
      cases hd : m.drop l.length with
      | nil =>
        have := List.drop_eq_nil_iff.1 hd
        rw [if_neg (by omega)]; rfl
      | cons y t =>
        have : ¬ m.length ≤ l.length := fun h => by rw [List.drop_eq_nil_of_le h] at hd; cases hd
        rw [if_pos (by omega)]; rfl
  · obtain ⟨h1, h2⟩ := he
    refine And.intro (by rw [iRow_len]; omega) ?_
    refine And.intro (by rw [iRow_len]; omega) ?_
    rw [iRow_len, iRow_len]
    refine dcase (fun h5 => ?_) (fun h5 => ?_)
    · rw [if_pos (by omega)] at h2
      exact ⟨trivial, r1 (iE h2.symm), trivial⟩
    · rw [if_neg (by omega)] at h2
      exact ⟨trivial, r1 (iE h2.symm), trivial⟩
theorem gcompare_ct (l m : List Int) (hl : l.length ≤ 1000000) (hm : m.length ≤ 1000000) : Ct P 91 [.c (iSl l), .c (iSl m)] [.c (eI .i64 (lexC l m))] := by
  refine Ct.go T_ok T_mix (N := 8) Tryz.func91 rfl rfl rfl rfl ?_
  refine X1 _ (compare_ct l m hl hm) ?_
  exact ⟨trivial, r1 rfl, trivial⟩
theorem iRow_closed {l : List Int} : closedLL (iRow l) := by
  intro el h
  obtain ⟨x, _, rfl⟩ := List.mem_map.1 h
  rfl
def blankI (n : Int) : Bool := n == 9 || n == 11 || n == 12 || n == 13 || n == 32
theorem blE {a b : Bool} (h : a = b) : (some (.c (.sc (.bool a))) : Option AV) = some (.c (.sc (.bool b))) := by rw [h]
theorem blank_ct (n : Int) : Ct P 131 [.c (eI .u8 n)] [.c (.sc (.bool (blankI n)))] := by
  refine Ct.go T_ok T_mix (N := 21) Tryz.func131 rfl rfl rfl rfl ?_
  refine ecase (fun h1 => ?_) (fun h1 => ?_)
  · exact ⟨trivial, r1 (blE (by subst h1; rfl)), trivial⟩
  · refine ecase (fun h2 => ?_) (fun h2 => ?_)
    · exact ⟨trivial, r1 (blE (by subst h2; rfl)), trivial⟩
    · refine ecase (fun h3 => ?_) (fun h3 => ?_)
      · exact ⟨trivial, r1 (blE (by subst h3; rfl)), trivial⟩
      · refine ecase (fun h4 => ?_) (fun h4 => ?_)
        · exact ⟨trivial, r1 (blE (by subst h4; rfl)), trivial⟩
        · exact ⟨trivial, r1 (blE (show (n == 32) = blankI n by simp [blankI, h1, h2, h3, h4])), trivial⟩
abbrev sS (s : ByteArray) : PC := .sc (.string s)
def markB (s : ByteArray) : Bool := (s.toList == (ByteArray.mk #[60, 115, 62]).toList) || (s.toList == (ByteArray.mk #[60, 47, 115, 62]).toList)
theorem mark_ct (s : ByteArray) : Ct P 132 [.c (sS s)] [.c (.sc (.bool (markB s)))] := by
  refine Ct.go T_ok T_mix (N := 9) Tryz.func132 rfl rfl rfl rfl ?_
  refine bcase (fun h1 => ?_) (fun h1 => ?_)
  · exact ⟨trivial, r1 (blE (show true = markB s by unfold markB; rw [show (s.toList == (ByteArray.mk #[60, 115, 62]).toList) = true from h1]; rfl)), trivial⟩
  · exact ⟨trivial, r1 (blE (show (s.toList == (ByteArray.mk #[60, 47, 115, 62]).toList) = markB s by unfold markB; rw [show (s.toList == (ByteArray.mk #[60, 115, 62]).toList) = false from h1]; rfl)), trivial⟩
def sRow (l : List ByteArray) : List (List PC) := l.map fun x => [sS x]
abbrev sSl (l : List ByteArray) : PC := .sl 1 (sRow l)
theorem sRow_len {l : List ByteArray} : (sRow l).length = l.length := by simp [sRow]
theorem sRow_getN {l : List ByteArray} {i : Int} {n : Nat} (h0 : i = n) (h : n < l.length) : (sRow l)[i.toNat]? = some [sS l[n]] := by
  subst h0
  simp [sRow, h]
def find14 (s : ByteArray) : List ByteArray → Int
  | [] => -1
  | y :: l => if (y.toList == s.toList) = true then 0 else if find14 s l < 0 then -1 else find14 s l + 1
theorem find14_spec (s : ByteArray) : ∀ (l : List ByteArray) (i : Nat) (h : i < l.length), (∀ (j : Nat) (hj : j < i), (l[j].toList == s.toList) = false) → (l[i].toList == s.toList) = true → find14 s l = i
  | [], i, h, _, _ => by simp at h
  | y :: l, 0, _, _, h => by simp at h; simp [find14, h]
  | y :: l, i + 1, hi, h1, h => by
    have h0 := h1 0 (by omega)
    have := find14_spec s l i (by simpa using hi) (fun j hj => by simpa using h1 (j + 1) (by omega)) (by simpa using h)
    simp only [List.getElem_cons_zero] at h0
    simp only [find14, this, h0]
    rw [if_neg (by simp), if_neg (by omega)]
    simp
theorem find14_none (s : ByteArray) : ∀ (l : List ByteArray), (∀ (j : Nat) (hj : j < l.length), (l[j].toList == s.toList) = false) → find14 s l = -1
  | [], _ => rfl
  | y :: l, h => by
    have h0 := h 0 (by simp)
    have := find14_none s l (fun j hj => h (j + 1) (Nat.succ_lt_succ hj))
    simp only [List.getElem_cons_zero] at h0
    simp only [find14, this, h0]
    rw [if_neg (by simp), if_pos (by omega)]
theorem find14_ct (l : List ByteArray) (s : ByteArray) (hl : l.length ≤ 1000000) : Ct P 89 [.c (sSl l), .c (sS s)] [.c (eI .i64 (find14 s l))] := by
  refine Ct.go T_ok T_mix (N := 19) Tryz.func89 rfl rfl rfl rfl ?_
  refine loopJ T_ok T_mix (fun i : Nat => i ≤ l.length ∧ ∀ (j : Nat) (hj : j < l.length), j < i → (l[j].toList == s.toList) = false) (fun i => [(0, .c (sSl l)), (1, .c (sS s)), (5, .c (nI .i64 i))]) (fun _ => []) (fun i => l.length - i)
    0 ⟨by omega, fun j _ hj => by omega⟩ ⟨rfl, rfl, rfl, trivial⟩ trivial (fun _ : Unit => find14 s l = -1) (fun _ => []) (fun _ => []) (fun i hi => ?_) (fun _ he => ?_)
  · obtain ⟨h1, h2⟩ := hi
    refine And.intro (by rw [sRow_len]; omega) ?_
    rw [sRow_len]
    refine dcase (fun h5 => ?_) (fun h5 => ?_)
    · refine And.intro (by omega) (X1 _ (sRow_getN rfl (by omega)) ?_)
      refine bcase (fun h6 => ?_) (fun h6 => ?_)
      · exact ⟨trivial, r1 (iE (find14_spec s l i (by omega) (fun j hj => h2 j (by omega) hj) h6).symm), trivial⟩
      · refine X1 ((i + 1 : Nat) : Int) (wI1 (by omega)) ?_
        refine ⟨i + 1, ⟨by omega, fun j hj hji => ?_⟩, by omega, ⟨rfl, rfl, rfl, trivial⟩, trivial⟩
        by_cases e : j = i
        · subst e; exact h6
        · exact h2 j hj (by omega)
    · exact ⟨(), find14_none s l (fun j hj => h2 j hj (by omega)), trivial, trivial⟩
  · exact ⟨trivial, r1 (iE he.symm), trivial⟩
def marks15 : List ByteArray := [⟨#[60, 117, 110, 107, 62]⟩, ⟨#[60, 115, 62]⟩, ⟨#[60, 47, 115, 62]⟩]
theorem marks15_ct : Ct P 87 [] [.c (sSl marks15)] := by
  refine Ct.go T_ok T_mix (N := 2) Tryz.func87 rfl rfl rfl rfl ?_
  exact ⟨trivial, r1 rfl, trivial⟩
def addG (G : List (List Nat)) (i v : Nat) : List (List Nat) := G.set i (G.getD i [] ++ [v])
def grpF (m : Nat) (lv : List (Nat × Nat)) : List (List Nat) := lv.foldl (fun G x => addG G x.1 x.2) (List.replicate m [])
theorem grpF_snoc (m : Nat) (lv : List (Nat × Nat)) (x : Nat × Nat) : grpF m (lv ++ [x]) = addG (grpF m lv) x.1 x.2 := by simp [grpF, List.foldl_append]
def Srt2 (m : Nat) (lv : List (Nat × Nat)) : Prop := (∀ x, x ∈ lv → x.1 < m) ∧ ∀ (p q : Nat) x y, p < q → lv[p]? = some x → lv[q]? = some y → x.1 ≤ y.1 ∧ (x.1 = y.1 → x.2 < y.2)
theorem Srt2.snoc {m : Nat} {lv : List (Nat × Nat)} {x : Nat × Nat} (h : Srt2 m (lv ++ [x])) : Srt2 m lv :=
  ⟨fun y hy => h.1 y (by simp [hy]), fun p q a b hpq ha hb => h.2 p q a b hpq (by rw [List.getElem?_append_left (List.getElem?_eq_some_iff.1 ha).1]; exact ha) (by rw [List.getElem?_append_left (List.getElem?_eq_some_iff.1 hb).1]; exact hb)⟩
theorem Srt2.last {m : Nat} {lv : List (Nat × Nat)} {x : Nat × Nat} (h : Srt2 m (lv ++ [x])) {y : Nat × Nat} (hy : y ∈ lv) : y.1 ≤ x.1 ∧ (y.1 = x.1 → y.2 < x.2) := by
  obtain ⟨p, hp⟩ := List.mem_iff_getElem?.1 hy
  have hlt := (List.getElem?_eq_some_iff.1 hp).1
  exact h.2 p lv.length y x hlt (by rw [List.getElem?_append_left hlt]; exact hp) (by simp)
structure GrpOK (m : Nat) (lv : List (Nat × Nat)) (G : List (List Nat)) : Prop where
  len : G.length = m
  tot : (cnts G).sum = lv.length
  pos : ∀ (p : Nat) x, lv[p]? = some x → ∃ j, j < (G.getD x.1 []).length ∧ (G.getD x.1 []).getD j 0 = x.2 ∧ p = loG G x.1 + j
  rise : ∀ i, Rise (G.getD i [])
  mem : ∀ i v, v ∈ G.getD i [] → (i, v) ∈ lv
theorem getD_set_G {G : List (List Nat)} {i k : Nat} {g : List Nat} (hi : i < G.length) : (G.set i g).getD k [] = if k = i then g else G.getD k [] := by
  rw [List.getD_eq_getElem?_getD, List.getD_eq_getElem?_getD]
  split
  · rename_i e; subst e; rw [List.getElem?_set_self hi]; rfl
  · rename_i e; rw [List.getElem?_set_ne fun e' => e e'.symm]
theorem cnts_set {G : List (List Nat)} {i : Nat} {g : List Nat} : cnts (G.set i g) = (cnts G).set i g.length := by simp [cnts, List.map_set]
theorem sum_set {c : List Nat} {v : Nat} : ∀ {i : Nat}, i < c.length → (c.set i v).sum + c.getD i 0 = c.sum + v := by
  induction c with
  | nil => intro i h; simp at h
  | cons x c ih =>
    intro i h
    cases i with
    | zero => simp; omega
    | succ i =>
      have := ih (i := i) (by simpa using h)
      simp only [List.set_cons_succ, List.sum_cons, List.getD_cons_succ]
      omega
theorem take_set_ge {c : List Nat} {v i k : Nat} (h : k ≤ i) : (c.set i v).take k = c.take k := by
  rw [List.take_set, List.set_eq_of_length_le (by rw [List.length_take]; omega)]
theorem lo_add_le {G : List (List Nat)} {i v k : Nat} (h : k ≤ i) : loG (addG G i v) k = loG G k := by
  unfold loG addG
  rw [cnts_set, take_set_ge h]
theorem cnts_getD {G : List (List Nat)} {i : Nat} : (cnts G).getD i 0 = (G.getD i []).length := by
  simp only [cnts, List.getD_eq_getElem?_getD, List.getElem?_map]
  cases G[i]? <;> rfl
theorem lo_full {G : List (List Nat)} {i : Nat} (hi : i < G.length) (h : ∀ k, i < k → G.getD k [] = []) : loG G i + (G.getD i []).length = (cnts G).sum := by
  rw [← lo_succ hi]
  have key : ∀ d, loG G (i + 1) = loG G (i + 1 + d) := by
    intro d
    induction d with
    | zero => rfl
    | succ d ih =>
      rw [ih]
      by_cases hl : i + 1 + d < G.length
      · rw [show i + 1 + (d + 1) = i + 1 + d + 1 by omega, lo_succ hl, h _ (by omega)]; rfl
      · unfold loG
        rw [List.take_of_length_le (by rw [cnts, List.length_map]; omega), List.take_of_length_le (by rw [cnts, List.length_map]; omega)]
  rw [key G.length, loG, List.take_of_length_le (by rw [cnts, List.length_map]; omega)]
theorem rep_sum : ∀ m : Nat, (List.replicate m ([] : List Nat).length).sum = 0
  | 0 => rfl
  | m + 1 => by rw [List.replicate_succ, List.sum_cons, rep_sum m]; rfl
theorem getD_mem {l : List Nat} {a : Nat} (h : a < l.length) : l.getD a 0 ∈ l := by
  rw [List.getD_eq_getElem?_getD, List.getElem?_eq_getElem h]; exact List.getElem_mem _
theorem grp_ok (m : Nat) : ∀ lv : List (Nat × Nat), Srt2 m lv → GrpOK m lv (grpF m lv) := by
  have rep : ∀ i, (List.replicate m ([] : List Nat)).getD i [] = [] := fun i => by
    rw [List.getD_eq_getElem?_getD, List.getElem?_replicate]; split <;> rfl
  have ind : ∀ n (lv : List (Nat × Nat)), lv.length = n → Srt2 m lv → GrpOK m lv (grpF m lv) := by
    intro n
    induction n with
    | zero =>
      intro lv hn _
      rw [List.length_eq_zero_iff.1 hn]
      refine ⟨by simp [grpF], ?_, fun p x h => by simp at h, fun i a b _ hb => ?_, fun i v h => ?_⟩
      · show (cnts (List.replicate m [])).sum = 0
        rw [cnts, List.map_replicate]
        exact rep_sum m
      · rw [show grpF m [] = List.replicate m [] from rfl, rep] at hb; simp at hb
      · rw [show grpF m [] = List.replicate m [] from rfl, rep] at h; simp at h
    | succ n ih =>
      intro lv hn hs
      have hne : lv ≠ [] := fun e => by rw [e] at hn; simp at hn
      obtain ⟨l0, x, rfl⟩ : ∃ l0 x, lv = l0 ++ [x] := ⟨_, _, (List.dropLast_concat_getLast hne).symm⟩
      have h := ih l0 (by simpa using hn) hs.snoc
      have hxm := hs.1 x (by simp)
      rw [grpF_snoc]
      generalize grpF m l0 = G at *
      obtain ⟨i, v⟩ := x
      simp only at hxm ⊢
      have hi : i < G.length := by rw [h.len]; exact hxm
      have get : ∀ k, (addG G i v).getD k [] = if k = i then G.getD i [] ++ [v] else G.getD k [] := fun k => by unfold addG; exact getD_set_G hi
      have late : ∀ k, i < k → G.getD k [] = [] := fun k hk => by
        rw [List.eq_nil_iff_forall_not_mem]
        intro y hy
        have := (hs.last (h.mem k y hy)).1
        simp only at this
        omega
      have full := lo_full hi late
      refine ⟨by unfold addG; rw [List.length_set]; exact h.len, ?_, fun p y hp => ?_, fun k => ?_, fun k y hy => ?_⟩
      · have := sum_set (c := cnts G) (v := (G.getD i [] ++ [v]).length) (i := i) (by rw [cnts, List.length_map]; exact hi)
        unfold addG
        rw [cnts_set]
        rw [cnts_getD] at this
        rw [List.length_append, List.length_singleton] at this ⊢
        rw [List.length_append, List.length_singleton, ← h.tot]
        omega
      · by_cases hpl : p < l0.length
        · rw [List.getElem?_append_left hpl] at hp
          obtain ⟨j, j1, j2, j3⟩ := h.pos p y hp
          have hle := (hs.last (List.mem_of_getElem? hp)).1
          simp only at hle
          refine ⟨j, ?_, ?_, by rw [lo_add_le hle]; exact j3⟩
          · rw [get]
            split
            · rename_i e; rw [e] at j1; rw [List.length_append]; omega
            · exact j1
          · rw [get]
            split
            · rename_i e; rw [e] at j1 j2; rw [getD_app_l j1]; exact j2
            · exact j2
        · have e : p = l0.length := by
            have := (List.getElem?_eq_some_iff.1 hp).1
            simp at this; omega
          subst e
          rw [List.getElem?_append_right (Nat.le_refl _), Nat.sub_self] at hp
          have e : (i, v) = y := by simpa using hp
          subst e
          refine ⟨(G.getD i []).length, ?_, ?_, ?_⟩
          · rw [get, if_pos rfl, List.length_append]; simp
          · rw [get, if_pos rfl]
            have := getD_app_r (l := G.getD i []) (m := [v]) (i := 0) (d := 0)
            rw [Nat.add_zero] at this
            rw [this]; rfl
          · rw [lo_add_le (Nat.le_refl _), full, h.tot]
      · rw [get]
        split
        · intro a b hab hb
          rw [List.length_append, List.length_singleton] at hb
          by_cases hbl : b < (G.getD i []).length
          · rw [getD_app_l (by omega), getD_app_l hbl]; exact h.rise i a b hab hbl
          · have e : b = (G.getD i []).length := by omega
            subst e
            have e2 := getD_app_r (l := G.getD i []) (m := [v]) (i := 0) (d := 0)
            rw [Nat.add_zero] at e2
            rw [e2, getD_app_l hab]
            have hm := h.mem i ((G.getD i []).getD a 0) (getD_mem hab)
            exact (hs.last hm).2 rfl
        · exact h.rise k
      · rw [get] at hy
        split at hy
        · rename_i e
          subst e
          rcases List.mem_append.1 hy with hy | hy
          · exact List.mem_append.2 (.inl (h.mem _ _ hy))
          · simp at hy; subst hy; simp
        · exact List.mem_append.2 (.inl (h.mem k y hy))
  exact fun lv hs => ind lv.length lv rfl hs
theorem cmpI_self (x : Int) : cmpI x x = 0 := by unfold cmpI; rw [if_neg (by omega), if_neg (by omega)]
theorem cmpI_0 {x y : Int} (h : cmpI x y = 0) : x = y := by unfold cmpI at h; split at h <;> (try split at h) <;> omega
theorem cmpI_lt {x y : Int} : cmpI x y < 0 ↔ x < y := by unfold cmpI; split <;> (try split) <;> omega
theorem cmpI_neg (x y : Int) : cmpI y x = - cmpI x y := by unfold cmpI; split <;> split <;> omega
theorem lexC_self : ∀ l : List Int, lexC l l = 0
  | [] => rfl
  | x :: l => by rw [lexC, cmpI_self, if_neg (by simp)]; exact lexC_self l
theorem lexC_0 : ∀ {l m : List Int}, lexC l m = 0 → l = m
  | [], [], _ => rfl
  | [], _ :: _, h => by simp [lexC] at h
  | _ :: _, [], h => by simp [lexC] at h
  | x :: l, y :: m, h => by
    rw [lexC] at h
    split at h
    · contradiction
    · rename_i h0
      have e := cmpI_0 (x := x) (y := y) (by simpa using h0)
      rw [e, lexC_0 h]
theorem lexC_neg : ∀ l m : List Int, lexC m l = - lexC l m
  | [], [] => rfl
  | [], _ :: _ => rfl
  | _ :: _, [] => rfl
  | x :: l, y :: m => by
    rw [lexC, lexC, cmpI_neg x y, lexC_neg l m]
    by_cases h : cmpI x y = 0
    · rw [h]; simp
    · rw [if_pos (by omega), if_pos h]
theorem lexC_trans : ∀ {a b c : List Int}, lexC a b < 0 → lexC b c < 0 → lexC a c < 0
  | [], [], _, h, _ => by simp [lexC] at h
  | [], _ :: _, [], _, h => by simp [lexC] at h
  | [], _ :: _, _ :: _, _, _ => by simp [lexC]
  | _ :: _, [], _, h, _ => by simp [lexC] at h
  | _ :: _, _ :: _, [], _, h => by simp [lexC] at h
  | x :: a, y :: b, z :: c, h1, h2 => by
    rw [lexC] at h1 h2 ⊢
    by_cases e1 : cmpI x y = 0
    · have := cmpI_0 e1
      subst this
      rw [if_neg (by omega)] at h1
      by_cases e2 : cmpI x z = 0
      · rw [if_neg (by omega)] at h2 ⊢
        exact lexC_trans h1 h2
      · rw [if_pos e2] at h2 ⊢
        exact h2
    · rw [if_pos e1] at h1
      by_cases e2 : cmpI y z = 0
      · have := cmpI_0 e2
        subst this
        rw [if_pos e1]
        exact h1
      · rw [if_pos e2] at h2
        have h3 := cmpI_lt.1 h1
        have h4 := cmpI_lt.1 h2
        have h5 : cmpI x z < 0 := cmpI_lt.2 (by omega)
        rw [if_pos (by omega)]
        exact h5
end Go.Proofs.YtjpbijdpkdmeaaaGreat.Pv
namespace Go.Proofs.YtjpbijdpkdmeaaaGreat.Pv
open Go
abbrev RiseG (A : List (List Int)) : Prop := A.Pairwise fun a b => lexC a b < 0
theorem idx_lt {A : List (List Int)} {a : List Int} (h : a ∈ A) : A.idxOf a < A.length := List.idxOf_lt_length_iff.2 h
theorem idx_get {A : List (List Int)} {a : List Int} (h : a ∈ A) : A[A.idxOf a]? = some a := by
  rw [List.getElem?_eq_getElem (idx_lt h), List.getElem_idxOf]
theorem rise_at {A : List (List Int)} (hA : RiseG A) {i j : Nat} {a b : List Int} (hij : i < j) (ha : A[i]? = some a) (hb : A[j]? = some b) : lexC a b < 0 := by
  obtain ⟨h1, rfl⟩ := List.getElem?_eq_some_iff.1 ha
  obtain ⟨h2, rfl⟩ := List.getElem?_eq_some_iff.1 hb
  exact List.pairwise_iff_getElem.1 hA i j h1 h2 hij
theorem rise_uniq {A : List (List Int)} (hA : RiseG A) {i j : Nat} {a : List Int} (ha : A[i]? = some a) (hb : A[j]? = some a) : i = j := by
  rcases Nat.lt_trichotomy i j with h | h | h
  · have := rise_at hA h ha hb; rw [lexC_self] at this; omega
  · exact h
  · have := rise_at hA h hb ha; rw [lexC_self] at this; omega
theorem rise_idx {A : List (List Int)} (hA : RiseG A) {i : Nat} {a : List Int} (ha : A[i]? = some a) : A.idxOf a = i := rise_uniq hA (idx_get (List.mem_of_getElem? ha)) ha
theorem idx_mono {A : List (List Int)} (hA : RiseG A) {a b : List Int} (ha : a ∈ A) (hb : b ∈ A) (h : lexC a b < 0) : A.idxOf a < A.idxOf b := by
  rcases Nat.lt_trichotomy (A.idxOf a) (A.idxOf b) with h1 | h1 | h1
  · exact h1
  · have e1 := idx_get ha
    rw [h1, idx_get hb] at e1
    have e2 : b = a := by simpa using e1
    rw [e2, lexC_self] at h; omega
  · have := rise_at hA h1 (idx_get hb) (idx_get ha)
    rw [lexC_neg a b] at this; omega
theorem lex_cons {a b : Int} {l m : List Int} : lexC (a :: l) (b :: m) < 0 ↔ a < b ∨ (a = b ∧ lexC l m < 0) := by
  rw [lexC]
  unfold cmpI
  (repeat' split) <;> omega
theorem lex_take : ∀ (k : Nat) {a b : List Int}, a.length = b.length → lexC a b < 0 → a.take k = b.take k ∨ lexC (a.take k) (b.take k) < 0
  | 0, a, b, _, _ => .inl (by simp)
  | k + 1, [], [], _, h => by simp [lexC] at h
  | k + 1, [], _ :: _, hl, _ => by simp at hl
  | k + 1, _ :: _, [], hl, _ => by simp at hl
  | k + 1, x :: a, y :: b, hl, h => by
    rw [List.take_succ_cons, List.take_succ_cons]
    rcases lex_cons.1 h with h1 | ⟨rfl, h1⟩
    · exact .inr (lex_cons.2 (.inl h1))
    · rcases lex_take k (a := a) (b := b) (by simpa using hl) h1 with e | e
      · exact .inl (by rw [e])
      · exact .inr (lex_cons.2 (.inr ⟨rfl, e⟩))
theorem lex_snoc : ∀ (p : List Int) {a b : Int}, lexC (p ++ [a]) (p ++ [b]) < 0 ↔ a < b
  | [], a, b => by
    show lexC [a] [b] < 0 ↔ _
    rw [lex_cons]
    simp [lexC]
  | x :: p, a, b => by
    show lexC (x :: (p ++ [a])) (x :: (p ++ [b])) < 0 ↔ _
    rw [lex_cons, lex_snoc p]
    omega
theorem split_last {k : Nat} {x : List Int} (h : x.length = k + 1) : x = x.take k ++ [x.getD k 0] := by
  rw [List.getD_eq_getElem?_getD, List.getElem?_eq_getElem (by omega)]
  have := List.take_succ_eq_append_getElem (l := x) (i := k) (by omega)
  rw [List.take_of_length_le (by omega)] at this
  exact this
def lvOf (A : List (List Int)) (k : Nat) (num : List Int → Nat) (L : List (List Int)) : List (Nat × Nat) := L.map fun x => (A.idxOf (x.take k), num x)
structure LevOK (A : List (List Int)) (k : Nat) (num : List Int → Nat) (L : List (List Int)) : Prop where
  a : RiseG A
  l : RiseG L
  len : ∀ x, x ∈ L → x.length = k + 1
  pre : ∀ x, x ∈ L → x.take k ∈ A
  num : ∀ x y, x ∈ L → y ∈ L → x.take k = y.take k → x.getD k 0 < y.getD k 0 → num x < num y
variable {A L : List (List Int)} {k : Nat} {num : List Int → Nat}
theorem LevOK.lt (h : LevOK A k num L) {x y : List Int} (hx : x ∈ L) (hy : y ∈ L) (hxy : lexC x y < 0) : A.idxOf (x.take k) ≤ A.idxOf (y.take k) ∧ (A.idxOf (x.take k) = A.idxOf (y.take k) → num x < num y) := by
  have same : x.take k = y.take k → num x < num y := fun e => by
    refine h.num x y hx hy e ?_
    have h1 := split_last (h.len x hx)
    have h2 := split_last (h.len y hy)
    rw [h1, h2, e, lex_snoc] at hxy
    exact hxy
  rcases lex_take k (by rw [h.len x hx, h.len y hy]) hxy with e | e
  · exact ⟨by rw [e]; exact Nat.le_refl _, fun _ => same e⟩
  · have := idx_mono h.a (h.pre x hx) (h.pre y hy) e
    exact ⟨by omega, fun e2 => by omega⟩
theorem LevOK.srt (h : LevOK A k num L) : Srt2 A.length (lvOf A k num L) := by
  refine ⟨fun x hx => ?_, fun p q x y hpq hx hy => ?_⟩
  · obtain ⟨z, hz, rfl⟩ := List.mem_map.1 hx
    exact idx_lt (h.pre z hz)
  · unfold lvOf at hx hy
    rw [List.getElem?_map, Option.map_eq_some_iff] at hx hy
    obtain ⟨a, ha, rfl⟩ := hx
    obtain ⟨b, hb, rfl⟩ := hy
    exact h.lt (List.mem_of_getElem? ha) (List.mem_of_getElem? hb) (rise_at h.l hpq ha hb)
def levG (A : List (List Int)) (k : Nat) (num : List Int → Nat) (L : List (List Int)) : List (List Nat) := grpF A.length (lvOf A k num L)
theorem LevOK.grp (h : LevOK A k num L) : GrpOK A.length (lvOf A k num L) (levG A k num L) := grp_ok _ _ h.srt
def whereG (G : List (List Nat)) (i v : Nat) : Int := if below (G.getD i []) v < (G.getD i []).length ∧ (G.getD i []).getD (below (G.getD i []) v) 0 = v then ((loG G i + below (G.getD i []) v : Nat) : Int) else -1
theorem whereG_hit {G : List (List Nat)} {i j v : Nat} (hr : Rise (G.getD i [])) (hj : j < (G.getD i []).length) (hv : (G.getD i []).getD j 0 = v) : whereG G i v = ((loG G i + j : Nat) : Int) := by
  have e := hr.below hj
  rw [hv] at e
  unfold whereG
  rw [e, if_pos ⟨hj, hv⟩]
theorem whereG_miss {G : List (List Nat)} {i v : Nat} (h : v ∉ G.getD i []) : whereG G i v = -1 := by
  unfold whereG
  rw [if_neg]
  intro ⟨h1, h2⟩
  exact h (h2 ▸ getD_mem h1)
theorem LevOK.find (h : LevOK A k num L) {g : List Int} (hl : g.length = k + 1) (hp : g.take k ∈ A) {v : Nat} (hv : g ∈ L → num g = v) (hn : ∀ x, x ∈ L → x.take k = g.take k → num x = v → x = g) :
    whereG (levG A k num L) (A.idxOf (g.take k)) v = if g ∈ L then ((L.idxOf g : Nat) : Int) else -1 := by
  have hg := h.grp
  by_cases hm : g ∈ L
  · rw [if_pos hm]
    have hlv : (lvOf A k num L)[L.idxOf g]? = some (A.idxOf (g.take k), num g) := by
      unfold lvOf
      rw [List.getElem?_map, idx_get hm]; rfl
    obtain ⟨j, j1, j2, j3⟩ := hg.pos _ _ hlv
    simp only at j1 j2 j3
    rw [hv hm] at j2
    rw [whereG_hit (hg.rise _) j1 j2, ← j3]
  · rw [if_neg hm]
    refine whereG_miss fun hmem => hm ?_
    have := hg.mem _ _ hmem
    unfold lvOf at this
    obtain ⟨x, hx, e⟩ := List.mem_map.1 this
    have e1 : A.idxOf (x.take k) = A.idxOf (g.take k) := congrArg Prod.fst e
    have e2 : num x = v := congrArg Prod.snd e
    have e3 : x.take k = g.take k := by
      have a1 := idx_get (h.pre x hx)
      rw [e1, idx_get hp] at a1
      exact (Option.some.inj a1).symm
    exact hn x hx e3 e2 ▸ hx
end Go.Proofs.YtjpbijdpkdmeaaaGreat.Pv
namespace Go.Proofs.YtjpbijdpkdmeaaaGreat.Pv
open Go
def pairL (B : List (List Int)) : List (Nat × Nat) := B.map fun p => ((p.getD 0 0).toNat, (p.getD 1 0).toNat)
def pairG (W : Nat) (B : List (List Int)) : List (List Nat) := grpF W (pairL B)
structure PairOK (W : Nat) (B : List (List Int)) : Prop where
  r : RiseG B
  len : ∀ p, p ∈ B → p.length = 2
  w : ∀ p, p ∈ B → ∀ x, x ∈ p → 0 ≤ x ∧ x < W
theorem two_of {p : List Int} (h : p.length = 2) : p = [p.getD 0 0, p.getD 1 0] := by
  match p, h with
  | [a, b], _ => rfl
theorem PairOK.srt {W : Nat} {B : List (List Int)} (h : PairOK W B) : Srt2 W (pairL B) := by
  refine ⟨fun x hx => ?_, fun p q x y hpq hx hy => ?_⟩
  · obtain ⟨z, hz, rfl⟩ := List.mem_map.1 hx
    have e := two_of (h.len z hz)
    have := h.w z hz (z.getD 0 0) (by rw [e]; simp)
    simp only
    omega
  · unfold pairL at hx hy
    rw [List.getElem?_map, Option.map_eq_some_iff] at hx hy
    obtain ⟨a, ha, rfl⟩ := hx
    obtain ⟨b, hb, rfl⟩ := hy
    have hm := rise_at h.r hpq ha hb
    have ha' := List.mem_of_getElem? ha
    have hb' := List.mem_of_getElem? hb
    have ea := two_of (h.len a ha')
    have eb := two_of (h.len b hb')
    have a0 := h.w a ha' (a.getD 0 0) (by rw [ea]; simp)
    have a1 := h.w a ha' (a.getD 1 0) (by rw [ea]; simp)
    have b0 := h.w b hb' (b.getD 0 0) (by rw [eb]; simp)
    have b1 := h.w b hb' (b.getD 1 0) (by rw [eb]; simp)
    rw [ea, eb, lex_cons, lex_cons] at hm
    have hz : ¬ lexC ([] : List Int) [] < 0 := by simp [lexC]
    simp only
    omega
theorem PairOK.grp {W : Nat} {B : List (List Int)} (h : PairOK W B) : GrpOK W (pairL B) (pairG W B) := grp_ok _ _ h.srt
theorem PairOK.mem {W : Nat} {B : List (List Int)} (h : PairOK W B) {a b : Int} (ha : 0 ≤ a) (hb : 0 ≤ b) : b.toNat ∈ (pairG W B).getD a.toNat [] ↔ [a, b] ∈ B := by
  constructor
  · intro hm
    have := h.grp.mem _ _ hm
    obtain ⟨p, hp, e⟩ := List.mem_map.1 this
    have ep := two_of (h.len p hp)
    have p0 := h.w p hp (p.getD 0 0) (by rw [ep]; simp)
    have p1 := h.w p hp (p.getD 1 0) (by rw [ep]; simp)
    have e1 : (p.getD 0 0).toNat = a.toNat := congrArg Prod.fst e
    have e2 : (p.getD 1 0).toNat = b.toNat := congrArg Prod.snd e
    rw [show a = p.getD 0 0 by omega, show b = p.getD 1 0 by omega, ← ep]
    exact hp
  · intro hp
    obtain ⟨i, hi⟩ := List.mem_iff_getElem?.1 hp
    obtain ⟨j, j1, j2, _⟩ := h.grp.pos i (a.toNat, b.toNat) (by unfold pairL; rw [List.getElem?_map, hi]; rfl)
    simp only at j1 j2
    rw [← j2]
    exact getD_mem j1
def rankG (G : List (List Nat)) (a b : Nat) : Nat := below (G.getD a []) b
theorem rank_lt {G : List (List Nat)} {a b c : Nat} (hr : Rise (G.getD a [])) (hb : b ∈ G.getD a []) (hc : c ∈ G.getD a []) : rankG G a b < rankG G a c ↔ b < c := by
  obtain ⟨i, hi⟩ := List.mem_iff_getElem?.1 hb
  obtain ⟨j, hj⟩ := List.mem_iff_getElem?.1 hc
  have h1 := (List.getElem?_eq_some_iff.1 hi).1
  have h2 := (List.getElem?_eq_some_iff.1 hj).1
  have e1 : (G.getD a []).getD i 0 = b := by rw [List.getD_eq_getElem?_getD, hi]; rfl
  have e2 : (G.getD a []).getD j 0 = c := by rw [List.getD_eq_getElem?_getD, hj]; rfl
  unfold rankG
  rw [← e1, ← e2, hr.below h1, hr.below h2]
  constructor
  · exact fun h => hr i j h h2
  · intro h
    rcases Nat.lt_trichotomy i j with h3 | h3 | h3
    · exact h3
    · rw [h3] at h; omega
    · have := hr j i h3 h1; omega
theorem rank_inj {G : List (List Nat)} {a b c : Nat} (hr : Rise (G.getD a [])) (hb : b ∈ G.getD a []) (hc : c ∈ G.getD a []) (h : rankG G a b = rankG G a c) : b = c := by
  have h1 := rank_lt hr hb hc
  have h2 := rank_lt hr hc hb
  omega
def lastN (k : Nat) (x : List Int) : Nat := (x.getD k 0).toNat
def rankN (G : List (List Nat)) (k : Nat) (x : List Int) : Nat := rankG G (x.getD (k - 1) 0).toNat (x.getD k 0).toNat
theorem take_getD {x y : List Int} {k i : Nat} (hi : i < k) (h : x.take k = y.take k) : x.getD i 0 = y.getD i 0 := by
  have h1 : (x.take k)[i]? = x[i]? := List.getElem?_take_of_lt hi
  have h2 : (y.take k)[i]? = y[i]? := List.getElem?_take_of_lt hi
  rw [List.getD_eq_getElem?_getD, List.getD_eq_getElem?_getD, ← h1, ← h2, h]
theorem lev_last {A L : List (List Int)} {k : Nat} (ha : RiseG A) (hl : RiseG L) (hlen : ∀ x, x ∈ L → x.length = k + 1) (hp : ∀ x, x ∈ L → x.take k ∈ A) (hw : ∀ x, x ∈ L → 0 ≤ x.getD k 0) : LevOK A k (lastN k) L :=
  ⟨ha, hl, hlen, hp, fun x y hx hy _ h => by have := hw x hx; have := hw y hy; unfold lastN; omega⟩
theorem lev_rank {A L B : List (List Int)} {k W : Nat} (hk : 2 ≤ k) (hB : PairOK W B) (ha : RiseG A) (hl : RiseG L) (hlen : ∀ x, x ∈ L → x.length = k + 1) (hp : ∀ x, x ∈ L → x.take k ∈ A)
    (hw : ∀ x, x ∈ L → 0 ≤ x.getD (k - 1) 0 ∧ 0 ≤ x.getD k 0) (hm : ∀ x, x ∈ L → [x.getD (k - 1) 0, x.getD k 0] ∈ B) : LevOK A k (rankN (pairG W B) k) L :=
  ⟨ha, hl, hlen, hp, fun x y hx hy e h => by
    obtain ⟨x1, x2⟩ := hw x hx
    obtain ⟨y1, y2⟩ := hw y hy
    have e1 := take_getD (i := k - 1) (by omega) e
    have mx := (hB.mem x1 x2).2 (hm x hx)
    have my := (hB.mem y1 y2).2 (hm y hy)
    unfold rankN
    rw [e1] at mx ⊢
    exact (rank_lt (hB.grp.rise _) mx my).2 (by omega)⟩
abbrev En := List Int × Int × Int
def inW (W : Nat) (w : Int) : Bool := decide (0 ≤ w) && decide (w < W)
def inC (c : Int) : Bool := decide (-1073741824 ≤ c) && decide (c ≤ 0)
def entF (n W : Nat) (last : Bool) (x : En) : Int :=
  if x.1.length ≠ n then 3 else if x.1.all (inW W) = false then 8 else if (x.1.drop 1).contains 1 = true then 10 else if (inC x.2.1 && inC x.2.2) = false then 8 else if last = true ∧ x.2.2 ≠ 0 then 3 else 0
abbrev grm (l : List En) : List (List Int) := l.map (·.1)
def prevBad (p : Option (List Int)) (g : List Int) : Bool := match p with | none => false | some q => decide (lexC q g ≥ 0)
def preBad (A : Option (List (List Int))) (g : List Int) : Bool := match A with | none => false | some a => !(a.contains g)
def levE (A : Option (List (List Int))) (n W : Nat) (last : Bool) : Option (List Int) → List En → Int
  | _, [] => 0
  | p, x :: r => if entF n W last x ≠ 0 then entF n W last x else if prevBad p x.1 = true then 9 else if preBad A (x.1.take (n - 1)) = true then 7 else levE A n W last (some x.1) r
def grE (W : Nat) : Option (List (List Int)) → Nat → List (List En) → Int
  | _, _, [] => 0
  | A, k, l :: r => if levE A (k + 1) W r.isEmpty none l ≠ 0 then levE A (k + 1) W r.isEmpty none l else if k = 0 ∧ l.length ≠ W then 3 else grE W (some (grm l)) (k + 1) r
structure Lev (A : Option (List (List Int))) (n W : Nat) (last : Bool) (l : List En) : Prop where
  len : ∀ x, x ∈ l → x.1.length = n
  w : ∀ x, x ∈ l → ∀ v, v ∈ x.1 → 0 ≤ v ∧ v < W
  c : ∀ x, x ∈ l → -1073741824 ≤ x.2.1 ∧ x.2.1 ≤ 0 ∧ -1073741824 ≤ x.2.2 ∧ x.2.2 ≤ 0
  z : last = true → ∀ x, x ∈ l → x.2.2 = 0
  r : RiseG (grm l)
  pre : ∀ a, A = some a → ∀ x, x ∈ l → x.1.take (n - 1) ∈ a
theorem entF_0 {n W : Nat} {last : Bool} {x : En} (h : entF n W last x = 0) : x.1.length = n ∧ (∀ v, v ∈ x.1 → 0 ≤ v ∧ v < W) ∧ (-1073741824 ≤ x.2.1 ∧ x.2.1 ≤ 0 ∧ -1073741824 ≤ x.2.2 ∧ x.2.2 ≤ 0) ∧ (last = true → x.2.2 = 0) := by
  unfold entF at h
  by_cases h1 : x.1.length ≠ n
  · rw [if_pos h1] at h; cases h
  rw [if_neg h1] at h
  by_cases h2 : x.1.all (inW W) = false
  · rw [if_pos h2] at h; cases h
  rw [if_neg h2] at h
  by_cases h3 : (x.1.drop 1).contains 1 = true
  · rw [if_pos h3] at h; cases h
  rw [if_neg h3] at h
  by_cases h4 : (inC x.2.1 && inC x.2.2) = false
  · rw [if_pos h4] at h; cases h
  rw [if_neg h4] at h
  by_cases h5 : last = true ∧ x.2.2 ≠ 0
  · rw [if_pos h5] at h; cases h
  refine ⟨by omega, fun v hv => ?_, ?_, fun hl => ?_⟩
  · have h2 : x.1.all (inW W) = true := by simpa using h2
    have := List.all_eq_true.1 h2 v hv
    simpa [inW] using this
  · have h4 : (inC x.2.1 && inC x.2.2) = true := by simpa using h4
    simp only [inC, Bool.and_eq_true, decide_eq_true_eq] at h4
    omega
  · apply Classical.byContradiction
    exact fun hn => h5 ⟨hl, hn⟩
theorem levE_ok {A : Option (List (List Int))} {n W : Nat} {last : Bool} : ∀ {l : List En} {p : Option (List Int)}, levE A n W last p l = 0 → Lev A n W last l ∧ ∀ q, p = some q → ∀ x, x ∈ l → lexC q x.1 < 0
  | [], p, _ => ⟨⟨fun x h => (by cases h), fun x h => (by cases h), fun x h => (by cases h), fun _ x h => (by cases h), List.Pairwise.nil, fun a _ x h => (by cases h)⟩, fun q _ x h => (by cases h)⟩
  | x :: l, p, h => by
    unfold levE at h
    by_cases h1 : entF n W last x ≠ 0
    · rw [if_pos h1] at h; exact absurd h h1
    rw [if_neg h1] at h
    by_cases h2 : prevBad p x.1 = true
    · rw [if_pos h2] at h; cases h
    rw [if_neg h2] at h
    by_cases h3 : preBad A (x.1.take (n - 1)) = true
    · rw [if_pos h3] at h; cases h
    rw [if_neg h3] at h
    obtain ⟨i1, i2⟩ := levE_ok (l := l) h
    obtain ⟨e1, e2, e3, e4⟩ := entF_0 (show entF n W last x = 0 by simpa using h1)
    have hq : ∀ q, p = some q → lexC q x.1 < 0 := fun q hq => by
      subst hq
      simp only [prevBad, decide_eq_true_eq] at h2
      omega
    have all : ∀ {Q : En → Prop}, Q x → (∀ y, y ∈ l → Q y) → ∀ y, y ∈ x :: l → Q y := fun h0 h1 y hy => by
      rcases List.mem_cons.1 hy with rfl | hy
      · exact h0
      · exact h1 y hy
    refine ⟨⟨all e1 i1.len, all e2 i1.w, all e3 i1.c, fun hl => all (e4 hl) (i1.z hl), ?_, fun a ha => all ?_ (i1.pre a ha)⟩, fun q hq' => all (hq q hq') fun y hy => lexC_trans (hq q hq') (i2 _ rfl y hy)⟩
    · show RiseG (x.1 :: grm l)
      refine List.pairwise_cons.2 ⟨fun b hb => ?_, i1.r⟩
      obtain ⟨y, hy, rfl⟩ := List.mem_map.1 hb
      exact i2 _ rfl y hy
    · subst ha
      simpa [preBad] using h3
def Levs (W : Nat) : Option (List (List Int)) → Nat → List (List En) → Prop
  | _, _, [] => True
  | A, k, l :: r => Lev A (k + 1) W r.isEmpty l ∧ (k = 0 → l.length = W) ∧ Levs W (some (grm l)) (k + 1) r
theorem grE_ok {W : Nat} : ∀ {L : List (List En)} {A : Option (List (List Int))} {k : Nat}, grE W A k L = 0 → Levs W A k L
  | [], _, _, _ => trivial
  | l :: r, A, k, h => by
    unfold grE at h
    by_cases h1 : levE A (k + 1) W r.isEmpty none l ≠ 0
    · rw [if_pos h1] at h; exact absurd h h1
    rw [if_neg h1] at h
    by_cases h2 : k = 0 ∧ l.length ≠ W
    · rw [if_pos h2] at h; cases h
    rw [if_neg h2] at h
    exact ⟨(levE_ok (by simpa using h1)).1, fun hk => by
      apply Classical.byContradiction
      exact fun hn => h2 ⟨hk, hn⟩, grE_ok h⟩
theorem Levs.at' {W : Nat} : ∀ {L : List (List En)} {A : Option (List (List Int))} {k i : Nat} {l : List En}, Levs W A k L → L[i]? = some l → Lev (if i = 0 then A else (L[i - 1]?).map grm) (k + i + 1) W (decide (i + 1 = L.length)) l
  | x :: r, A, k, 0, l, h, hl => by
    have e : x = l := by simpa using hl
    subst e
    have := h.1
    rw [if_pos rfl]
    have e : r.isEmpty = decide (0 + 1 = (x :: r).length) := by cases r <;> simp
    rw [← e]; exact this
  | x :: r, A, k, i + 1, l, h, hl => by
    have := Levs.at' (i := i) h.2.2 (by simpa using hl)
    rw [if_neg (by omega), Nat.add_sub_cancel]
    rw [show k + (i + 1) + 1 = k + 1 + i + 1 by omega]
    have e : decide (i + 1 + 1 = (x :: r).length) = decide (i + 1 = r.length) := by simp
    rw [e]
    by_cases hi : i = 0
    · subst hi
      rw [if_pos rfl] at this
      simpa using this
    · rw [if_neg hi] at this
      obtain ⟨j, rfl⟩ : ∃ j, i = j + 1 := ⟨i - 1, by omega⟩
      simpa using this
theorem first_lev {W : Nat} {last : Bool} {l : List En} {A : Option (List (List Int))} (h : Lev A 1 W last l) (hl : l.length = W) : ∀ (i : Nat) (x : En), l[i]? = some x → x.1 = [(i : Int)] := by
  have one : ∀ x : En, x ∈ l → ∃ v : Nat, x.1 = [(v : Int)] ∧ v < W := fun x hx => by
    have h1 := h.len x hx
    match hg : x.1, h1 with
    | [v], _ =>
      have := h.w x hx v (by rw [hg]; simp)
      exact ⟨v.toNat, by rw [show ((v.toNat : Nat) : Int) = v by omega], by omega⟩
  have asc : ∀ (i j : Nat) (x y : En), i < j → l[i]? = some x → l[j]? = some y → ∀ a b : Nat, x.1 = [(a : Int)] → y.1 = [(b : Int)] → a < b := fun i j x y hij hx hy a b ea eb => by
    have := rise_at h.r hij (a := x.1) (b := y.1) (by rw [List.getElem?_map, hx]; rfl) (by rw [List.getElem?_map, hy]; rfl)
    rw [ea, eb] at this
    have := (lex_snoc [] (a := a) (b := b)).1 this
    omega
  have ge : ∀ (i : Nat) (x : En), l[i]? = some x → ∀ a : Nat, x.1 = [(a : Int)] → i ≤ a := by
    intro i
    induction i with
    | zero => intros; omega
    | succ i ih =>
      intro x hx a ea
      have hlt := (List.getElem?_eq_some_iff.1 hx).1
      obtain ⟨b, eb, _⟩ := one l[i] (List.getElem_mem (by omega))
      have h1 := ih _ (List.getElem?_eq_getElem (by omega)) b eb
      have h2 := asc i (i + 1) _ x (by omega) (List.getElem?_eq_getElem (by omega)) hx b a eb ea
      omega
  have le : ∀ (d i : Nat) (x : En), i + d + 1 = l.length → l[i]? = some x → ∀ a : Nat, x.1 = [(a : Int)] → a ≤ i := by
    intro d
    induction d with
    | zero =>
      intro i x hi hx a ea
      obtain ⟨b, eb, hb⟩ := one x (List.mem_of_getElem? hx)
      rw [ea] at eb
      have : (a : Int) = b := by simpa using eb
      omega
    | succ d ih =>
      intro i x hi hx a ea
      obtain ⟨b, eb, _⟩ := one l[i + 1] (List.getElem_mem (by omega))
      have h1 := ih (i + 1) _ (by omega) (List.getElem?_eq_getElem (by omega)) b eb
      have h2 := asc i (i + 1) x _ (by omega) hx (List.getElem?_eq_getElem (by omega)) a b ea eb
      omega
  intro i x hx
  have hlt := (List.getElem?_eq_some_iff.1 hx).1
  obtain ⟨a, ea, _⟩ := one x (List.mem_of_getElem? hx)
  have h1 := ge i x hx a ea
  have h2 := le (l.length - 1 - i) i x (by omega) hx a ea
  rw [ea, show a = i by omega]
theorem tl_loop (s : ByteArray) : ∀ (n i : Nat) (r : List UInt8), s.size - i = n → ByteArray.toList.loop s i r = r.reverse ++ s.data.toList.drop i
  | 0, i, r, h => by
    rw [ByteArray.toList.loop, if_neg (by omega)]
    have : s.data.toList.drop i = [] := List.drop_eq_nil_of_le (by show s.data.toList.length ≤ i; have : s.data.toList.length = s.size := rfl; omega)
    rw [this, List.append_nil]
  | n + 1, i, r, h => by
    have hi : i < s.size := by omega
    rw [ByteArray.toList.loop, if_pos hi, tl_loop s n (i + 1) _ (by omega)]
    have hl : i < s.data.toList.length := hi
    have hd : s.data.toList.drop i = s.data.toList[i] :: s.data.toList.drop (i + 1) := List.drop_eq_getElem_cons hl
    have hi2 : i < s.data.size := hi
    have e : s.get! i = s.data.toList[i] := by
      show s.data[i]! = _
      rw [getElem!_pos s.data i hi2]
      simp
    rw [hd, List.reverse_cons, List.append_assoc, e]
    rfl
theorem tl_data (s : ByteArray) : s.toList = s.data.toList := by
  have := tl_loop s _ 0 [] rfl
  simpa [ByteArray.toList] using this
theorem tl_inj {s t : ByteArray} (h : s.toList = t.toList) : s = t := by
  rw [tl_data, tl_data] at h
  cases s; cases t
  congr 1
  exact Array.toList_inj.1 h
theorem tl_beq (s t : ByteArray) : (s.toList == t.toList) = decide (s = t) := by
  by_cases h : s = t
  · subst h; simp
  · rw [decide_eq_false h]
    cases hb : (s.toList == t.toList) with
    | false => rfl
    | true => exact absurd (tl_inj (by simpa using hb)) h
theorem find14_in (s : ByteArray) : ∀ l : List ByteArray, (0 ≤ find14 s l ↔ s ∈ l)
  | [] => by simp [find14]
  | y :: l => by
    have ih := find14_in s l
    unfold find14
    rw [tl_beq]
    by_cases h : y = s
    · subst h; simp
    · rw [if_neg (by simpa using h), List.mem_cons]
      split
      · rename_i h2
        constructor
        · intro h3; omega
        · rintro (h3 | h3)
          · exact absurd h3.symm h
          · have := ih.2 h3; omega
      · constructor
        · intro _; exact .inr (ih.1 (by omega))
        · intro _; omega
def wdB (b : UInt8) : Bool := !(blankI b.toNat || (b.toNat : Int) == 10)
def rightW (s : ByteArray) : Bool := s.data.toList.all wdB && (decide (s.size ≠ 0) && (decide (s.size ≤ 255) && !markB s))
def wrongR : List ByteArray → List ByteArray → Bool
  | _, [] => false
  | pre, s :: r => (!rightW s || decide (0 ≤ find14 s pre)) || wrongR (pre ++ [s]) r
def wrongV (l : List ByteArray) : Int := if l.length < 3 ∨ l.take 3 ≠ marks15 then 1 else if 65536 < l.length then 12 else if wrongR (l.take 3) (l.drop 3) = true then 10 else 0
structure Md where
  frac : Int
  words : List ByteArray
  L : List (List En)
abbrev eRow (l : List En) : List (List PC) := l.map fun x => [iSl x.1, eI .i64 x.2.1, eI .i64 x.2.2]
abbrev eSl (l : List En) : PC := .sl 3 (eRow l)
abbrev eeRow (L : List (List En)) : List (List PC) := L.map fun l => [eSl l]
abbrev eeSl (L : List (List En)) : PC := .sl 1 (eeRow L)
abbrev mdA (m : Md) : A1 := .ag [eI .i64 m.frac, sSl m.words, eeSl m.L]
def smL (l : List En) : Prop := l.length ≤ 100 ∧ ∀ x, x ∈ l → x.1.length ≤ 12
structure Small (m : Md) : Prop where
  w : m.words.length ≤ 30
  l : m.L.length ≤ 10
  e : ∀ l, l ∈ m.L → smL l
  n : (m.L.map List.length).sum ≤ 200
open Classical in
noncomputable def smallM (m : Md) : Bool := decide (Small m)
def chkM (m : Md) : Int := if m.frac < 0 ∨ 12 < m.frac ∨ m.L.length < 1 ∨ 8 < m.L.length then 1 else if wrongV m.words ≠ 0 then wrongV m.words else grE m.words.length none 0 m.L
theorem chk_ok {m : Md} (h : chkM m = 0) : (0 ≤ m.frac ∧ m.frac ≤ 12 ∧ 1 ≤ m.L.length ∧ m.L.length ≤ 8) ∧ wrongV m.words = 0 ∧ Levs m.words.length none 0 m.L := by
  unfold chkM at h
  by_cases h1 : m.frac < 0 ∨ 12 < m.frac ∨ m.L.length < 1 ∨ 8 < m.L.length
  · rw [if_pos h1] at h; cases h
  rw [if_neg h1] at h
  by_cases h2 : wrongV m.words ≠ 0
  · rw [if_pos h2] at h; exact absurd h h2
  rw [if_neg h2] at h
  exact ⟨by omega, by simpa using h2, grE_ok h⟩
end Go.Proofs.YtjpbijdpkdmeaaaGreat.Pv
namespace Go.Proofs.YtjpbijdpkdmeaaaGreat.Pv
open Go
section
variable {P : Program} {T : Ty} {N : Nx} {E : Env} {O : Objs} {c x y : Code} {Q : PQ}
theorem loopI {i : Nat} {G : Type} (inv : G → Prop) (sE : G → List (Nat × AV)) (sO : G → List (Nat × Ob)) (m : G → Nat) (g0 : G) (h0 : inv g0) (hE : AllIn E (sE g0)) (hO : AllInO O (sO g0))
    (round : ∀ g, inv g → WI P N (envL (sE g)) (objL (sO g)) c (loopQ i (fun E' O' => ∃ g', inv g' ∧ m g' < m g ∧ AllIn E' (sE g') ∧ AllInO O' (sO g')) (fun E' O' => Q .normal E' O') Q)) : WI P N E O (.block i (.loop c)) Q := by
  refine .of (W.block (W.loop inv sE sO m g0 h0 hE hO fun g hg => (round g hg).out.mono fun e E O h => ?_))
  cases e with
  | exit j =>
    simp only [loopQ] at h
    show inBlockQ i _ (.exit j) E O
    simp only [inBlockQ]
    cases hb : Nat.beq j i with
    | true => rw [hb] at h; exact h
    | false => rw [hb] at h; exact h
  | _ => exact h
theorem blockI {i : Nat} (h : WI P N E O c (inBlockQ i Q)) : WI P N E O (.block i c) Q := .of (W.block h.out)
theorem seqI (hT : T.ok P) (hm : P.follows .mixedOrders = true) (h : codeS P T N x E O (thenQ (fun E O => WI P N E O y Q) Q)) : WI P N E O (.seq x y) Q :=
  .of (W.seq ((codeS_sound hT hm x E O _ h).mono fun e E O hq => by
    cases e with
    | normal => exact WI.out hq
    | _ => exact hq))
theorem cutI (hT : T.ok P) (hm : P.follows .mixedOrders = true) {G2 : Type} (post : G2 → Prop) (pE : G2 → List (Nat × AV)) (pO : G2 → List (Nat × Ob))
    (h : codeS P T N x E O (thenQ (fun E' O' => ∃ g2, post g2 ∧ AllIn E' (pE g2) ∧ AllInO O' (pO g2)) Q)) (hy : ∀ g2, post g2 → WI P N (envL (pE g2)) (objL (pO g2)) y Q) : WI P N E O (.seq x y) Q :=
  .of (W.seq ((codeS_sound hT hm x E O _ h).mono fun e E O hq => by
    cases e with
    | normal =>
      obtain ⟨g2, hp, h1, h2⟩ := hq
      exact W.weak (Sub.of h1) (SubO.of h2) (hy g2 hp).out
    | _ => exact hq))
theorem seqW (h : WI P N E O x (thenQ (fun E O => WI P N E O y Q) Q)) : WI P N E O (.seq x y) Q :=
  .of (W.seq (h.out.mono fun e E O hq => by
    cases e with
    | normal => exact WI.out hq
    | _ => exact hq))
theorem loopJI {i : Nat} {G : Type} (inv : G → Prop) (sE : G → List (Nat × AV)) (sO : G → List (Nat × Ob)) (m : G → Nat) (g0 : G) (h0 : inv g0) (hE : AllIn E (sE g0)) (hO : AllInO O (sO g0))
    {G2 : Type} (post : G2 → Prop) (pE : G2 → List (Nat × AV)) (pO : G2 → List (Nat × Ob))
    (round : ∀ g, inv g → WI P N (envL (sE g)) (objL (sO g)) c (loopQ i (fun E' O' => ∃ g', inv g' ∧ m g' < m g ∧ AllIn E' (sE g') ∧ AllInO O' (sO g')) (fun E' O' => ∃ g2, post g2 ∧ AllIn E' (pE g2) ∧ AllInO O' (pO g2)) Q))
    (after : ∀ g2, post g2 → WI P N (envL (pE g2)) (objL (pO g2)) y Q) : WI P N E O (.block i (.loop c)) (thenQ (fun E O => WI P N E O y Q) Q) := by
  refine .of (W.block (W.loop inv sE sO m g0 h0 hE hO fun g hg => (round g hg).out.mono fun e E O h => ?_))
  cases e with
  | normal => exact h
  | exit j =>
    simp only [loopQ] at h
    show inBlockQ i _ (.exit j) E O
    simp only [inBlockQ]
    cases hb : Nat.beq j i with
    | true =>
      rw [hb] at h
      obtain ⟨g2, hp, h1, h2⟩ := h
      exact .of (W.weak (Sub.of h1) (SubO.of h2) (after g2 hp).out)
    | false => rw [hb] at h; exact h
  | ret => exact h
  | goto _ => exact h
  | panic _ => exact h
  | outgrown => exact h
theorem frzI (ks : List Nat) (h : WI P N (.vw (O.only ks) :: E) (O.froze ks (O.only ks)) c Q) : WI P N E O c Q :=
  WI.step (fun _ K _ _ _ hs => ⟨K, _, hs.view ks⟩) h
theorem rowCl {k sz : Nat} {els : List (List PC)} {ids : List Nat} (hk : O.get k = some (.rowO sz els ids)) (hc : closedLL els) (h : WI P N E (O.set k (.row sz els)) c Q) : WI P N E O c Q :=
  WI.step (fun X K ok w a hs => ⟨K, ok, hs.less hk fun hob => by
    rcases hob.2 with h0 | ⟨b, cs, e, fr, a1, a2, a3, a4, a5, a6, a7⟩
    · exact .inl h0
    · exact .inr ⟨b, cs, e, fr, a1, a2, a3, a4, a5, a6, fun j i el x hj hi => by
        obtain ⟨u, hu, hr⟩ := a7 j i el x hj hi
        exact ⟨u, hu, hr.closed (closedL_get (hc el (List.mem_of_getElem? hj)) i x hi)⟩⟩⟩) h
mutual
theorem closed_ment {r : Nat} : ∀ {x : PC}, x.closed = true → x.ment r = false
  | .fn _ caps, h => closedL_ment (l := caps) (by simpa [PC.closed] using h)
  | .sc _, _ => rfl
  | .sl _ _, _ => rfl
  | .rd _, _ => rfl
  | .cb _, _ => rfl
  | .dead, _ => rfl
  | .ow _ _ _, h => by cases h
  | .os _ _ _ _, h => by cases h
  | .ad _ _, h => by cases h
  | .ea _ _ _ _, h => by cases h
  | .mp _, h => by cases h
theorem closedL_ment {r : Nat} : ∀ {l : List PC}, closedL l = true → PC.ment.mentL r l = false
  | [], _ => rfl
  | x :: l, h => by
    simp only [closedL, Bool.and_eq_true] at h
    simp only [PC.ment.mentL]
    rw [closed_ment h.1, closedL_ment h.2]; rfl
end
theorem nilEl {r k sz sz' i : Nat} {els : List (List PC)} (hr : noMB r (O.set k (.row sz els)) = true) (hrk : r ≠ k) (hk : O.get k = some (.row sz els)) (hi : els[i]? = some [.sc (.slice none 0 0)]) (hc : closedLL els)
    (h : WI P N (.k r :: E) ((O.set r (.row sz' [])).set k (.rowO sz (els.set i [.ow r sz' 0]) [r])) c Q) : WI P N E O c Q := by
  have hO : ∀ t o, O.get t = some o → (O.set k (.row sz els)).get t = some o := fun t o h => by
    rw [Objs.get_set]
    split
    · rename_i e; subst e; rw [hk] at h; exact h
    · exact h
  have hnm : NoM r O := ⟨(NoM.of (noMB_spec hr)).1, fun t o h => (NoM.of (noMB_spec hr)).2 t o (hO t o h)⟩
  refine WI.step (fun X K ok w a hs => ?_) h
  obtain ⟨h1, h2⟩ := hs.putNone (sz := sz') hnm
  have hk' : (O.set r (.row sz' [])).get k = some (.row sz els) := by rw [Objs.get_set, if_neg hrk]; exact hk
  have hl : HOb (K.put r none) ok w k (.row sz els) → HOb (K.put r none) ok w k (.rowO sz (els.set i [.ow r sz' 0]) [r]) := fun hob => by
    have hilt := (List.getElem?_eq_some_iff.1 hi).1
    refine ⟨fun el q he hm => ?_, ?_⟩
    · rcases List.mem_or_eq_of_mem_set he with he | he
      · have := closedL_ment (r := q) (hc el he)
        rw [mentA, this] at hm; cases hm
      · subst he
        have : q = r := by
          simp only [mentA, PC.ment.mentL, PC.ment, Bool.or_false] at hm
          exact (Nat.eq_of_beq_eq_true hm).symm
        subst this
        simp [memB]
    · rcases hob with ⟨a1, a2⟩ | ⟨b, cs, e, fr, a1, a2, a3, a4, a5, a6, a7⟩
      · subst a2; simp at hi
      · refine .inr ⟨b, cs, e, fr, by simpa using a1, a2, a3, by simpa using a4, by simpa using a5, fun j el hj => ?_, fun j q el x hj hq => ?_⟩
        · rw [List.getElem?_set] at hj
          split at hj
          · rename_i e1
            subst e1
            cases hj
            have := a6 i _ hi
            simpa using this
          · exact a6 j el hj
        · rw [List.getElem?_set] at hj
          split at hj
          · rename_i e1
            subst e1
            cases hj
            cases q with
            | succ q => simp at hq
            | zero =>
              simp at hq
              subst hq
              obtain ⟨u, hu, hru⟩ := a7 i 0 _ _ hi rfl
              refine ⟨u, hu, ?_⟩
              cases hru with
              | sc _ => exact .owN (K.put_self r _)
          · obtain ⟨u, hu, hru⟩ := a7 j q el x hj hq
            exact ⟨u, hu, .cl hru⟩
  obtain ⟨h3, h4⟩ := h1.less hk' hl
  exact ⟨_, ok, h3, h2.trans h4⟩
end
theorem reRow {P : Program} {N : Nx} {E : Env} {O : Objs} {c : Code} {Q : PQ} {r q k i sz n : Nat} {els : List (List PC)} {cells : List PC} (hq : noMB q O = true) (hqr : q ≠ r) (hqk : q ≠ k) (hrk : r ≠ k) (hr : O.get r = some (.row sz els)) (hk : O.get k = some (.var cells)) (hi : cells[i]? = some (.ow r sz n))
    (h : WI P N (.k q :: E) (((O.del r).set q (.row sz els)).set k (.var (cells.set i (.ow q sz n)))) c Q) : WI P N E O c Q :=
  WI.step (fun X K ok w a hs => by
    have hn : NoM q O := NoM.of (noMB_spec hq)
    have hKne : ∀ {t : Nat}, t ≠ q → (K.put q (K r)) t = K t := fun h => K.put_ne _ h
    have hKe : (K.put q (K r)) q = K r := K.put_self q _
    have hcs : ∀ t o, (((O.del r).set q (.row sz els)).set k (.var (cells.set i (.ow q sz n)))).get t = some o → (t = k ∧ o = .var (cells.set i (.ow q sz n))) ∨ (t = q ∧ o = .row sz els) ∨ (t ≠ k ∧ t ≠ q ∧ t ≠ r ∧ O.get t = some o) := fun t o g => by
      rw [Objs.get_set] at g
      split at g
      · rename_i e; exact .inl ⟨e.symm, (Option.some.inj g).symm⟩
      · rename_i e1
        rw [Objs.get_set] at g
        split at g
        · rename_i e; exact .inr (.inl ⟨e.symm, (Option.some.inj g).symm⟩)
        · rename_i e2
          obtain ⟨g1, g2⟩ := Objs.get_del O r t o g
          exact .inr (.inr ⟨fun e => e1 e.symm, fun e => e2 e.symm, fun e => g1 e.symm, g2⟩)
    have hsh : ∀ t, t ≠ q → Shp K (K.put q (K r)) w w t := fun t ht => ⟨hKne ht, fun b _ _ cs e fr hc => ⟨cs, e, fr, hc, rfl⟩⟩
    -- each object's block is the block of an old one
    have hown : ∀ t o b L, (((O.del r).set q (.row sz els)).set k (.var (cells.set i (.ow q sz n)))).get t = some o → (K.put q (K r)) t = some (b, L) → ∃ t0 o0, O.get t0 = some o0 ∧ K t0 = some (b, L) ∧ (t = q → t0 = r) ∧ (t ≠ q → t0 = t ∧ t ≠ r) := fun t o b L g e => by
      rcases hcs t o g with ⟨rfl, rfl⟩ | ⟨rfl, rfl⟩ | ⟨h1, h2, h3, h4⟩
      · rw [hKne (fun e => hqk e.symm)] at e
        exact ⟨t, _, hk, e, fun e => absurd e.symm hqk, fun _ => ⟨rfl, fun e => hrk e.symm⟩⟩
      · rw [hKe] at e
        exact ⟨r, _, hr, e, fun _ => rfl, fun e => absurd rfl e⟩
      · rw [hKne h2] at e
        exact ⟨t, _, h4, e, fun e => absurd e h2, fun _ => ⟨rfl, h3⟩⟩
    refine ⟨K.put q (K r), ok, ⟨hs.size, hs.defers, hs.base, hs.rnd, hs.old, ⟨fun t o g => ?_, fun t t' o o' b L L' g1 g2 e1 e2 => ?_, fun t o b L g e => ?_, hs.hp.lt, hs.hp.hlt, hs.hp.hok, fun t o b L g e => ?_⟩, fun t av g => ?_⟩,
      ⟨Nat.le_refl _, fun _ _ _ _ => rfl, fun _ h => h, fun _ h => .inl h, fun t o b L g e => ?_, rfl, rfl, rfl, fun _ o h => ⟨o, h, SK.refl o⟩, fun t ht => hKne (by have := hn.1; omega), fun _ h => .inl h⟩⟩
    · rcases hcs t o g with ⟨rfl, rfl⟩ | ⟨rfl, rfl⟩ | ⟨h1, h2, h3, h4⟩
      · obtain ⟨b, cs, e, fr, a1, a2, a3, a4⟩ := hs.hp.obs t _ hk
        have hnc : mentA q cells = false := hn.get hk
        refine ⟨b, cs, e, fr, (hKne (fun e => hqk e.symm)).trans a1, a2, a3, by simpa using a4.len, fun j x hx => ?_⟩
        rw [List.getElem?_set] at hx
        split at hx
        · rename_i e
          subst e
          split at hx
          · cases hx
            obtain ⟨u, hu, hru⟩ := a4.get i _ hi
            refine ⟨u, hu, ?_⟩
            cases hru with
            | cl hru => cases hru
            | ow h1 h2 h3 h4 => exact .ow (hKe.trans h1) h2 h3 h4
            | owN h1 => exact .owN (hKe.trans h1)
          · cases hx
        · obtain ⟨u, hu, hru⟩ := a4.get j x hx
          refine ⟨u, hu, hru.mono (fun _ h => h) (fun _ _ _ => rfl) (Nat.le_refl _) fun t' ht' => hsh t' fun e => ?_⟩
          subst e
          rw [mentL_get hnc j x hx] at ht'; cases ht'
      · rcases hs.hp.obs r _ hr with ⟨h1, h2⟩ | ⟨b, cs, e, fr, a1, rest⟩
        · exact .inl ⟨hKe.trans h1, h2⟩
        · exact .inr ⟨b, cs, e, fr, hKe.trans a1, rest⟩
      · refine (hs.hp.obs t o h4).mono (fun _ h => h) (fun _ _ _ => rfl) (Nat.le_refl _) (hKne h2) (fun _ _ _ => rfl) (fun _ _ => ⟨rfl, fun _ _ => rfl, rfl, rfl, rfl, CSh.same fun _ _ => rfl⟩) fun t' ht' => hsh t' fun e => ?_
        subst e; exact ht' (hn.get h4)
    · obtain ⟨t0, o0, p1, p2, p3, p4⟩ := hown t o b L g1 e1
      obtain ⟨t0', o0', p1', p2', p3', p4'⟩ := hown t' o' b L' g2 e2
      have e := hs.hp.inj t0 t0' o0 o0' b L L' p1 p1' p2 p2'
      by_cases h1 : t = q
      · by_cases h2 : t' = q
        · rw [h1, h2]
        · exfalso; obtain ⟨q1, q2⟩ := p4' h2; rw [p3 h1, q1] at e; exact q2 e.symm
      · by_cases h2 : t' = q
        · exfalso; obtain ⟨q1, q2⟩ := p4 h1; rw [p3' h2, q1] at e; exact q2 e
        · rw [(p4 h1).1, (p4' h2).1] at e; exact e
    · obtain ⟨t0, o0, p1, p2, _⟩ := hown t o b L g e; exact hs.hp.apart t0 o0 b L p1 p2
    · obtain ⟨t0, o0, p1, p2, _⟩ := hown t o b L g e; exact hs.hp.how t0 o0 b L p1 p2
    · obtain ⟨g1, g2⟩ := ment_k (E := E) (r := q) (t := t) (x := av) g
      obtain ⟨v, hv, hrv⟩ := hs.env t av g1
      refine ⟨v, hv, hrv.mono (fun _ h => h) (fun _ _ _ => rfl) (Nat.le_refl _) fun t' ht' => hsh t' fun e => ?_⟩
      subst e; rw [g2] at ht'; cases ht'
    · obtain ⟨t0, o0, p1, p2, _⟩ := hown t o b L g e; exact .inr ⟨t0, o0, L, p1, p2⟩) h
section
variable {P : Program} {T : Ty} {N : Nx} {E : Env} {O : Objs} {c x y : Code} {Q : PQ}
theorem condI {o : Operand} {b : Bool} (h : E.ev o = some (.c (.sc (.bool b)))) (ht : b = true → WI P N E O x Q) (hf : b = false → WI P N E O y Q) : WI P N E O (.cond o x y) Q :=
  .of (W.cond h (fun e => (ht e).out) (fun e => (hf e).out))
theorem retI (h : Q .ret E O) : WI P N E O .ret Q := .of (W.ret h)
theorem skipI (h : Q .normal E O) : WI P N E O .skip Q := .of (W.skip h)
theorem codeI (hT : T.ok P) (hm : P.follows .mixedOrders = true) (h : codeS P T N c E O Q) : WI P N E O c Q := .of (codeS_sound hT hm _ _ _ _ h)
theorem Ct.keepI (hT : T.ok P) (ks : List Nat) {f : FuncId} {fn : Func} {args res : List A1} {O' : Objs} (hf : P.funcs[f]? = some fn) (hb : fn.body = some c) (hn : (fn.name == "runtime.NumGoroutine") = false) (hN : fn.ntmps = N.n) (hl : Nat.ble args.length N.n = true)
    (h : WI P N (envA 0 args) O c (keepQ T fn.results.toList ks O' res)) (hfz : N.fz = [] := by rfl) : CtO P f O args O' res :=
  Ct.fin (some ks) hf hb hn hN hl (h.out.mono fun _ _ _ ⟨h1, h2, h3⟩ => ⟨h1, h2, resT_sound hT h3⟩) hfz
end
end Go.Proofs.YtjpbijdpkdmeaaaGreat.Pv
namespace Go.Proofs.YtjpbijdpkdmeaaaGreat.Pv
open Go
end Go.Proofs.YtjpbijdpkdmeaaaGreat.Pv
