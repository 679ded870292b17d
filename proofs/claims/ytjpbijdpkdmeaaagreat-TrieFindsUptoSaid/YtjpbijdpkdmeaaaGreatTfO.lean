/- Parts of a proof, joined: Ml Mm Mo Mp Mq Mr Nh Ni Nj. -/
import Derived.Test.YtjpbijdpkdmeaaaGreatTfN
namespace Go.Proofs.YtjpbijdpkdmeaaaGreat.Pv
open Go
theorem elen_ct (l : List Nat) : Ct P 31 [.c (esV l)] [.c (nI .i64 l.length)] := by
  refine Ct.go T_ok T_mix (N := 9) Tryz.func31 rfl rfl rfl rfl ?_
  exact ⟨trivial, r1 rfl, trivial⟩
theorem shlI {x k : Nat} (hk : k ≤ 64) (hx : x * 2 ^ k ≤ 9223372036854775807) : IntKind.i64.wrap ((x : Int) * 2 ^ min ((k : Nat) : Int).toNat IntKind.i64.bits) = ((x * 2 ^ k : Nat) : Int) := by
  have e : (x : Int) * 2 ^ min ((k : Nat) : Int).toNat IntKind.i64.bits = ((x * 2 ^ k : Nat) : Int) := by
    show (x : Int) * 2 ^ min ((k : Nat) : Int).toNat 64 = _
    rw [Int.toNat_natCast, Nat.min_eq_left hk]
    simp
  exact wI e (by omega) (by omega)
theorem orI {a b k : Nat} (hb : b < 2 ^ k) (ha : a * 2 ^ k + b ≤ 9223372036854775807) : IntKind.i64.wrap ((BitVec.ofInt IntKind.i64.bits ((a * 2 ^ k : Nat) : Int) ||| BitVec.ofInt IntKind.i64.bits (b : Int)).toNat : Int) = ((a * 2 ^ k + b : Nat) : Int) := by
  have e : (BitVec.ofInt IntKind.i64.bits ((a * 2 ^ k : Nat) : Int) ||| BitVec.ofInt IntKind.i64.bits (b : Int)).toNat = a * 2 ^ k + b := by
    show (BitVec.ofInt 64 ((a * 2 ^ k : Nat) : Int) ||| BitVec.ofInt 64 (b : Int)).toNat = _
    rw [BitVec.ofInt_natCast, BitVec.ofInt_natCast, BitVec.toNat_or, BitVec.toNat_ofNat, BitVec.toNat_ofNat, Nat.mod_eq_of_lt (by omega : a * 2 ^ k < 2 ^ 64), Nat.mod_eq_of_lt (by omega : b < 2 ^ 64), Nat.mul_comm a, Nat.two_pow_add_eq_or_of_lt hb]
  rw [e]
  exact wI rfl (by omega) (by omega)
theorem lows_lt (w : Nat) (l : List Nat) : ∀ x, x ∈ l.map (· % 2 ^ w) → x < 2 ^ w := fun x hx => by
  obtain ⟨y, _, rfl⟩ := List.mem_map.1 hx
  exact Nat.mod_lt _ (Nat.two_pow_pos _)
theorem lows_get {w : Nat} {l : List Nat} {i : Nat} (h : i < l.length) : (l.map (· % 2 ^ w)).getD i 0 = l.getD i 0 % 2 ^ w := by
  simp [List.getD_eq_getElem?_getD, List.getElem?_eq_getElem h]
theorem eatN_ct (l : List Nat) : Ct P 29 [.c (esV l), .c (eI .i64 (-1))] [.c (eI .i64 (-1))] := by
  refine Ct.go T_ok T_mix (N := 41) Tryz.func29 rfl rfl rfl rfl ?_
  exact ⟨trivial, r1 rfl, trivial⟩
theorem eat_ct (l : List Nat) (h : SeqB l) (i : Nat) (hi : i < l.length) : Ct P 29 [.c (esV l), .c (nI .i64 i)] [.c (nI .i64 (l.getD i 0))] := by
  have hn := h.n
  have hw := wEl_le h.le
  have hbd := hiN_bd l
  obtain ⟨hV, hpc, hone⟩ := hi_all (wEl l) l h.up
  have hle := h.get hi
  obtain ⟨v, hv⟩ : ∃ v, v = l.getD i 0 := ⟨_, rfl⟩
  have ho := hone i hi
  rw [← hv] at ho hle
  have hlt := (ho.lt hV).1
  have hdm := Nat.div_add_mod v (2 ^ wEl l)
  have hmod := Nat.mod_lt v (Nat.two_pow_pos (wEl l))
  have hd := Nat.div_le_self v (2 ^ wEl l)
  have hp : 2 ^ wEl l ≤ 2 ^ 40 := Nat.pow_le_pow_right (by omega) hw
  have h40 : (2 : Nat) ^ 40 = 1099511627776 := rfl
  have hat := pat_ct (wEl l) (l.map (· % 2 ^ wEl l)) i (by omega) (by rw [List.length_map]; omega) (lows_lt _ l) (by rw [List.length_map]; exact hi)
  rw [lows_get hi, ← hv] at hat
  rw [← hv]
  rw [Nat.mul_comm] at hdm
  obtain ⟨q, hq⟩ : ∃ q, q = v / 2 ^ wEl l := ⟨_, rfl⟩
  rw [← hq] at ho hdm hd hlt
  refine Ct.go T_ok T_mix (N := 41) Tryz.func29 rfl rfl rfl rfl ?_
  refine dcase (fun h => absurd h (by omega)) (fun _ => ?_)
  refine X1 _ (one_ct _ _ i _ hV (by omega) ho) ?_
  refine X1 ((q : Nat) : Int) (wI (by omega) (by omega) (by omega)) ?_
  refine X1 ((wEl l : Nat) : Int) (wU rfl (by omega) (by omega)) ?_
  refine And.intro (by omega) (X1 _ (shlI (x := q) (k := wEl l) (by omega) (by omega)) ?_)
  refine X1 _ hat ?_
  refine X1 ((v % 2 ^ wEl l : Nat) : Int) (wI rfl (by omega) (by omega)) ?_
  refine X1 _ (orI hmod (by omega)) ?_
  refine And.intro rfl ?_
  exact ⟨trivial, r1 (iE (by rw [hdm])), trivial⟩
theorem eahead_ct (l : List Nat) (h : SeqB l) (u : Nat) (hu : u ≤ 1099511627777) : Ct P 173 [.c (esV l), .c (nI .i64 u)] [.c (nI .i64 (upB (wEl l) l u))] := by
  have hn := h.n
  have hbd := hiN_bd l
  obtain ⟨hV, hpc, hone⟩ := hi_all (wEl l) l h.up
  refine Ct.go T_ok T_mix (N := 27) Tryz.func173 rfl rfl rfl rfl ?_
  refine ecase (fun h1 => ?_) (fun h1 => ?_)
  · have : u = 0 := by omega
    subst this
    exact ⟨trivial, r1 (iE (by rw [upB_0 h.up]; rfl)), trivial⟩
  · obtain ⟨n, rfl⟩ : ∃ n, u = n + 1 := ⟨u - 1, by omega⟩
    obtain ⟨z1, z2⟩ := hi_zero (w := wEl l) h.up n
    obtain ⟨u1, u2, u3⟩ := upB_spec (w := wEl l) h.up (n + 1)
    refine X1 ((n : Nat) : Int) (wI (by omega) (by omega) (by omega)) ?_
    by_cases hz : n + upB (wEl l) l (n + 1) < hiN (wEl l) l
    · refine X1 _ (zero_ct _ _ n _ hV (by omega) z1 hz) ?_
      refine X1 _ (rank_ct _ _ _ hV (by omega) (by omega)) ?_
      exact ⟨trivial, r1 (iE (by rw [z2])), trivial⟩
    · have hall : l.length = 0 ∨ l.getD (l.length - 1) 0 / 2 ^ wEl l < n + 1 := by
        by_cases h0 : l.length = 0
        · exact .inl h0
        · have : hiN (wEl l) l = l.getD (l.length - 1) 0 / 2 ^ wEl l + l.length := by unfold hiN; rw [if_neg h0]
          exact .inr (by omega)
      have e := upB_all h.up hall
      refine X1 _ (zeroN_ct _ _ n hV (by omega) (by omega)) ?_
      exact ⟨trivial, r1 (iE (by rw [e])), trivial⟩
theorem below_last {l : List Nat} (hu : Up l) {v : Nat} (h0 : l.length ≠ 0) (h : v ≤ lastN' l) : below l v < l.length := by
  obtain ⟨b1, b2⟩ := below_up hu v
  have := below_le l v
  apply Classical.byContradiction
  intro hc
  have := b1 (l.length - 1) (by omega)
  unfold lastN' at h
  omega
theorem below_all {l : List Nat} (hu : Up l) {v : Nat} (h : l.length = 0 ∨ lastN' l < v) : below l v = l.length := by
  refine below_is (Nat.le_refl _) (fun i hi => ?_) (fun i h1 h2 => by omega)
  have := hu i (l.length - 1) (by omega) (by omega)
  unfold lastN' at h
  omega
theorem nextN_ct (l : List Nat) (v : Nat) (h : l.length = 0 ∨ lastN' l < v) : Ct P 150 [.c (esV l), .c (nI .i64 v)] [.c (eI .i64 (-1)), .c (eI .i64 (-1))] := by
  refine Ct.go T_ok T_mix (N := 59) Tryz.func150 rfl rfl rfl rfl ?_
  refine X1 _ (elen_ct l) ?_
  refine ecase (fun h1 => ?_) (fun h1 => ?_)
  · exact ⟨trivial, r1 rfl, r1 rfl, trivial⟩
  · have e : lastE l = (lastN' l : Int) := by unfold lastE; rw [if_neg (by omega)]
    refine dcase (fun h2 => ?_) (fun h2 => absurd (show (v : Int) > lastE l by rw [e]; omega) h2)
    exact ⟨trivial, r1 rfl, r1 rfl, trivial⟩
theorem next_ct' (l : List Nat) (h : SeqB l) (v : Nat) (h0 : l.length ≠ 0) (hv : v ≤ lastN' l) : Ct P 150 [.c (esV l), .c (nI .i64 v)] [.c (nI .i64 (below l v)), .c (nI .i64 (l.getD (below l v) 0))] := by
  have hn := h.n
  have hw := wEl_le h.le
  have hb := below_last h.up h0 hv
  have hlast : lastN' l ≤ 1099511627776 := h.get (by omega)
  obtain ⟨k1, k2, k3, k4⟩ := next_k (w := wEl l) h.up v
  have hu2 := (upB_spec (w := wEl l) h.up (v / 2 ^ wEl l + 1)).1
  have hd := Nat.div_le_self v (2 ^ wEl l)
  have hmod := Nat.mod_le v (2 ^ wEl l)
  have e : lastE l = (lastN' l : Int) := by unfold lastE; rw [if_neg (by omega)]
  have hf := pfind_ct (wEl l) (l.map (· % 2 ^ wEl l)) (upB (wEl l) l (v / 2 ^ wEl l)) (upB (wEl l) l (v / 2 ^ wEl l + 1)) (below l v) (v % 2 ^ wEl l) (by omega) (by rw [List.length_map]; omega) (lows_lt _ l) k1 k2 (by rw [List.length_map]; exact hu2)
    (fun i h1 h2 => by rw [lows_get (by omega)]; exact k3 i h1 h2) (fun i h1 h2 => by rw [lows_get (by omega)]; exact k4 i h1 h2)
  obtain ⟨q, hq⟩ : ∃ q, q = v / 2 ^ wEl l := ⟨_, rfl⟩
  obtain ⟨r, hr⟩ : ∃ r, r = v % 2 ^ wEl l := ⟨_, rfl⟩
  rw [← hq] at k1 k2 hu2 hd hf
  rw [← hr] at hmod hf
  refine Ct.go T_ok T_mix (N := 59) Tryz.func150 rfl rfl rfl rfl ?_
  refine X1 _ (elen_ct l) ?_
  refine ecase (fun h1 => absurd h1 (by omega)) (fun _ => ?_)
  refine dcase (fun h2 => absurd (show (v : Int) > lastE l from h2) (by rw [e]; omega)) (fun _ => ?_)
  refine X1 ((wEl l : Nat) : Int) (wU rfl (by omega) (by omega)) ?_
  refine And.intro (by omega) (X1 ((q : Nat) : Int) (by rw [hq]; exact shrN (by omega)) (And.intro ⟨by omega, by omega⟩ ?_))
  refine X1 _ (eahead_ct l h _ (by omega)) ?_
  refine X1 ((q + 1 : Nat) : Int) (wI (by simp) (by omega) (by omega)) ?_
  refine X1 _ (eahead_ct l h _ (by omega)) ?_
  refine X1 ((v : Nat) : Int) (wU (by split <;> omega) (by omega) (by omega)) ?_
  refine X1 _ (mask_ct (wEl l) (by omega)) ?_
  refine X1 ((r : Nat) : Int) (by rw [hr]; exact andM (by omega) (by omega)) ?_
  refine X1 _ hf ?_
  refine And.intro rfl ?_
  by_cases hc : below l v < upB (wEl l) l (q + 1)
  · rw [if_pos hc]
    refine X1 _ (eat_ct l h _ hb) ?_
    exact ⟨trivial, r1 rfl, r1 rfl, trivial⟩
  · rw [if_neg hc]
    have : upB (wEl l) l (q + 1) = below l v := by omega
    rw [this]
    refine X1 _ (eat_ct l h _ hb) ?_
    exact ⟨trivial, r1 rfl, r1 rfl, trivial⟩
theorem efind_ct (l : List Nat) (h : SeqB l) (lo hi v : Nat) (hlo : lo ≤ 100000) (hhi : hi ≤ 100000) : Ct P 101 [.c (esV l), .c (nI .i64 lo), .c (nI .i64 hi), .c (nI .i64 v)] [.c (eI .i64 (findE l lo hi v))] := by
  have hn := h.n
  refine Ct.go T_ok T_mix (N := 43) Tryz.func101 rfl rfl rfl rfl ?_
  by_cases hx : l.length = 0 ∨ lastN' l < v
  · refine X1 _ (nextN_ct l v hx) ?_
    have e : findE l lo hi v = -1 := by unfold findE; rw [below_all h.up hx, if_neg (by omega)]
    exact ⟨trivial, r1 (iE e.symm), trivial⟩
  · have h0 : l.length ≠ 0 := fun h0 => hx (.inl h0)
    have hv : v ≤ lastN' l := by omega
    have hb := below_last h.up h0 hv
    refine X1 _ (next_ct' l h v h0 hv) ?_
    refine ncase (fun h1 => ?_) (fun h1 => ?_)
    · have h1' : ¬ l.getD (below l v) 0 = v := by omega
      exact ⟨trivial, r1 (iE (by unfold findE; rw [if_neg (fun hh => h1' hh.2)])), trivial⟩
    · have h1' : l.getD (below l v) 0 = v := by omega
      obtain ⟨m, hm⟩ : ∃ m, m = max (below l v) lo := ⟨_, rfl⟩
      have em : (if ((below l v : Nat) : Int) < (lo : Int) then (lo : Int) else ((below l v : Nat) : Int)) = (m : Int) := by split <;> omega
      have en : (if (l.length : Int) < (hi : Int) then (l.length : Int) else (hi : Int)) = ((min hi l.length : Nat) : Int) := by split <;> omega
      refine dcase (fun h2 => ?_) (fun h2 => ?_)
      · rw [em, en] at h2
        exact ⟨trivial, r1 (iE (by unfold findE; rw [if_pos ⟨hb, h1'⟩, ← hm, if_neg (by omega)])), trivial⟩
      · rw [em, en] at h2
        have h2' : m < min hi l.length := by omega
        refine X1 _ (show Ct P 29 [.c (esV l), .c (eI .i64 (if ((below l v : Nat) : Int) < (lo : Int) then (lo : Int) else ((below l v : Nat) : Int)))] [.c (nI .i64 (l.getD m 0))] by rw [em]; exact eat_ct l h m (by omega)) ?_
        refine ncase (fun h3 => ?_) (fun h3 => ?_)
        · exact ⟨trivial, r1 (iE (by unfold findE; rw [if_pos ⟨hb, h1'⟩, ← hm, if_neg (by omega)])), trivial⟩
        · exact ⟨trivial, r1 (iE (by rw [em]; unfold findE; rw [if_pos ⟨hb, h1'⟩, ← hm, if_pos ⟨h2', by omega⟩])), trivial⟩
def preP (c : List Nat) (i : Nat) : List Nat := (List.range (i + 1)).map fun j => (c.take j).sum
theorem preP_len (c : List Nat) (i : Nat) : (preP c i).length = i + 1 := by simp [preP]
theorem preP_succ (c : List Nat) (i : Nat) : preP c (i + 1) = preP c i ++ [(c.take (i + 1)).sum] := by
  unfold preP
  rw [List.range_succ, List.map_append]; rfl
theorem preP_all (c : List Nat) : preP c c.length = preS c := rfl
structure SumB (c : List Nat) : Prop where
  n : c.length ≤ 90000
  s : c.sum ≤ 1099511627776
theorem SumB.le {c : List Nat} (h : SumB c) (i : Nat) : (c.take i).sum ≤ c.sum := by
  have := take_sum_mono c (i := min i c.length) (j := c.length) (by omega)
  rw [List.take_length] at this
  by_cases hi : i ≤ c.length
  · rwa [Nat.min_eq_left hi] at this
  · rw [List.take_of_length_le (by omega)]; exact Nat.le_refl _
theorem SumB.seq {c : List Nat} (h : SumB c) : SeqB (preS c) :=
  ⟨by rw [preS_len]; have := h.n; omega, preS_up c, fun x hx => by
    obtain ⟨i, _, rfl⟩ := List.mem_map.1 hx
    have h1 := h.le i
    have h2 := h.s
    omega⟩
theorem running_ct (c : List Nat) (h : SumB c) : Ct P 107 [.c (nSl .i64 c), .c (eI .i64 1099511627776)] [.c (nSl .i64 (preS c))] := by
  have hn := h.n
  have hs := h.s
  refine Ct.go T_ok T_mix (N := 37) Tryz.func107 rfl rfl rfl rfl ?_
  refine And.intro (by rw [nRow_len]; omega) ?_
  rw [nRow_len]
  refine X1 ((c.length + 1 : Nat) : Int) (wI (by simp) (by omega) (by omega)) ?_
  refine ⟨by omega, by omega, by omega, .inl (by decide), ?_⟩
  refine And.intro (by rw [nRow_len]; omega) ?_
  rw [nRow_len]
  refine loopJ T_ok T_mix (fun i : Nat => i ≤ c.length) (fun i => [(1, .c (eI .i64 1099511627776)), (5, .c (.ow 12 1 (i + 1))), (6, .c (nI .i64 (c.take i).sum)), (13, .c (nSl .i64 c)), (14, .c (nI .i64 c.length)), (15, .c (nI .i64 i))])
    (fun i => [(12, .row 1 (nRow .i64 (preP c i)))]) (fun i => c.length - i)
    0 (by omega) ⟨rfl, rfl, rfl, rfl, rfl, rfl, trivial⟩ ⟨rfl, trivial⟩ (fun _ : Unit => True) (fun _ => [(5, .c (.ow 12 1 (preS c).length))]) (fun _ => [(12, .row 1 (nRow .i64 (preS c)))]) (fun i hi => ?_) (fun _ _ => ?_)
  · refine dcase (fun h5 => ?_) (fun h5 => ?_)
    · have hi' : i < c.length := by omega
      have h1 := take_sum_succ hi'
      have h2 := h.le (i + 1)
      obtain ⟨r, hr⟩ : ∃ r, r = 1099511627776 - (c.take i).sum := ⟨_, rfl⟩
      refine And.intro (by omega) (X1 _ (nRow_ix hi') ?_)
      refine X1 ((r : Nat) : Int) (wI (by omega) (by omega) (by omega)) ?_
      refine dcase (fun h6 => absurd h6 (by omega)) (fun _ => ?_)
      refine X1 (((c.take (i + 1)).sum : Nat) : Int) (wI (by omega) (by omega) (by omega)) ?_
      refine app_row (preP_len c i).symm (by rw [preP_len]; show i + 1 + 1 ≤ _; omega) c1_closed ?_
      refine X1 ((i + 1 : Nat) : Int) (wI1 (by omega)) ?_
      refine ⟨i + 1, by omega, by omega, ⟨rfl, owE (by rw [List.length_append, nRow_len, preP_len]; rfl), rfl, rfl, rfl, rfl, trivial⟩, ⟨rowE (by rw [preP_succ, ← nRow_app]; rfl), trivial⟩⟩
    · have e : i = c.length := by omega
      subst e
      exact ⟨(), trivial, ⟨owE (by rw [preS_len]), trivial⟩, ⟨rowE (by rw [preP_all]), trivial⟩⟩
  · exact ⟨trivial, r1 rfl, trivial⟩
theorem pfnew_ct (c : List Nat) (h : SumB c) : Ct P 72 [.c (nSl .i64 c)] [.c (pfV c), .c (nI .i64 0)] := by
  refine Ct.go T_ok T_mix (N := 22) Tryz.func72 rfl rfl rfl rfl ?_
  refine X1 _ (running_ct c h) ?_
  intro b hb
  cases b with
  | true =>
    have := hb rfl
    rw [nRow_len, preS_len] at this
    omega
  | false =>
    refine X1 _ (esnew_ct (preS c) h.seq) ?_
    exact ⟨trivial, r1 rfl, r1 rfl, trivial⟩
theorem pflen_ct (c : List Nat) (h : SumB c) : Ct P 32 [.c (pfV c)] [.c (nI .i64 c.length)] := by
  have hn := h.n
  refine Ct.go T_ok T_mix (N := 12) Tryz.func32 rfl rfl rfl rfl ?_
  refine X1 _ (elen_ct (preS c)) ?_
  rw [preS_len]
  refine X1 ((c.length : Nat) : Int) (wI (by simp) (by omega) (by omega)) ?_
  exact ⟨trivial, r1 (iE (by split <;> omega)), trivial⟩
theorem preS_at (c : List Nat) (h : SumB c) (i : Nat) (hi : i ≤ c.length) : Ct P 29 [.c (esV (preS c)), .c (nI .i64 i)] [.c (nI .i64 (c.take i).sum)] := by
  have := eat_ct (preS c) h.seq i (by rw [preS_len]; omega)
  rwa [preS_get hi] at this
theorem pfat_ct (c : List Nat) (h : SumB c) (i : Nat) (hi : i < c.length) : Ct P 30 [.c (pfV c), .c (nI .i64 i)] [.c (nI .i64 (c.getD i 0))] := by
  have hn := h.n
  have hs := h.s
  have h1 := take_sum_succ hi
  have h2 := h.le (i + 1)
  refine Ct.go T_ok T_mix (N := 27) Tryz.func30 rfl rfl rfl rfl ?_
  refine X1 _ (pflen_ct c h) ?_
  refine dcase (fun h => absurd h (by omega)) (fun _ => ?_)
  refine X1 ((i + 1 : Nat) : Int) (wI1 (by omega)) ?_
  refine X1 _ (preS_at c h (i + 1) (by omega)) ?_
  refine X1 _ (preS_at c h i (by omega)) ?_
  refine X1 ((c.getD i 0 : Nat) : Int) (wI (by omega) (by omega) (by omega)) ?_
  refine And.intro rfl ?_
  exact ⟨trivial, r1 rfl, trivial⟩
theorem pfsum_ct (c : List Nat) (h : SumB c) (g : Nat) (hg : g ≤ c.length) : Ct P 122 [.c (pfV c), .c (nI .i64 0), .c (nI .i64 g)] [.c (nI .i64 (c.take g).sum)] := by
  have hn := h.n
  have hs := h.s
  have h2 := h.le g
  have e : (if (c.length : Int) < (g : Int) then (c.length : Int) else (g : Int)) = (g : Int) := by split <;> omega
  refine Ct.go T_ok T_mix (N := 29) Tryz.func122 rfl rfl rfl rfl ?_
  refine X1 _ (pflen_ct c h) ?_
  refine dcase (fun h1 => ?_) (fun h1 => ?_)
  · have : g = 0 := by rw [e] at h1; split at h1 <;> omega
    subst this
    exact ⟨trivial, r1 rfl, trivial⟩
  · refine X1 _ (show Ct P 29 [.c (esV (preS c)), .c (eI .i64 (if (c.length : Int) < (g : Int) then (c.length : Int) else (g : Int)))] [.c (nI .i64 (c.take g).sum)] by rw [e]; exact preS_at c h g hg) ?_
    refine X1 _ (preS_at c h 0 (by omega)) ?_
    refine X1 (((c.take g).sum : Nat) : Int) (wI (by rw [List.take_zero]; simp) (by omega) (by omega)) ?_
    refine And.intro rfl ?_
    exact ⟨trivial, r1 rfl, trivial⟩
def ggRow (G : List (List Nat)) : List (List PC) := G.map fun g => [nSl .i64 g]
abbrev ggSl (G : List (List Nat)) : PC := .sl 1 (ggRow G)
theorem ggRow_len {G : List (List Nat)} : (ggRow G).length = G.length := by simp [ggRow]
theorem ggRow_ix {G : List (List Nat)} {i : Nat} (h : i < G.length) : (ggRow G)[((i : Nat) : Int).toNat]? = some [nSl .i64 (G.getD i [])] := by
  simp [ggRow, List.getD_eq_getElem?_getD, List.getElem?_eq_getElem h]
theorem owSn {r : Nat} {k : IntKind} {l m : List Nat} {x : Nat} (h : m = l ++ [x]) : (some (.c (.ow r 1 (nRow k l ++ [[nI k x]]).length)) : Option AV) = some (.c (.ow r 1 m.length)) := by
  subst h; rw [List.length_append, nRow_len, List.length_append]; rfl
theorem rowSn {k : IntKind} {l m : List Nat} {x : Nat} (h : m = l ++ [x]) : (some (.row 1 (nRow k l ++ [[nI k x]])) : Option Ob) = some (.row 1 (nRow k m)) := by
  subst h; rw [← nRow_app]; rfl
structure RowB (G : List (List Nat)) : Prop where
  n : G.length ≤ 10000
  s : (cnts G).sum ≤ 50000
  r : ∀ g, g ∈ G → Rise g
  w : ∀ g, g ∈ G → ∀ v, v ∈ g → v < 65536
theorem getD_memG {G : List (List Nat)} {i : Nat} (h : i < G.length) : G.getD i [] ∈ G := by
  rw [List.getD_eq_getElem?_getD, List.getElem?_eq_getElem h]; exact List.getElem_mem h
theorem base_bd {c : List Nat} {b : Nat} (h : ∀ x, x ∈ c → x < b) : baseC c ≤ b := by
  unfold baseC
  split
  · omega
  · exact h _ (getD_mem (by omega))
theorem chain_bd : ∀ G : List (List Nat), (∀ g, g ∈ G → ∀ v, v ∈ g → v < 65536) → ∀ x, x ∈ chainF G → x < 65536 * G.length := fun G => by
  induction G using snocG_ind with
  | h0 => intro _ x hx; simp [chainF] at hx
  | h1 G g ih =>
    intro h x hx
    have ih := ih fun g' hg' => h g' (by simp [hg'])
    rw [chainF_snoc] at hx
    rw [List.length_append]
    show x < 65536 * (G.length + 1)
    rcases List.mem_append.1 hx with hx | hx
    · have := ih x hx; omega
    · obtain ⟨v, hv, rfl⟩ := List.mem_map.1 hx
      have h1 := base_bd ih
      have h2 := h g (by simp) v hv
      omega
theorem RowB.chain {G : List (List Nat)} (h : RowB G) : SeqB (chainF G) :=
  ⟨by rw [chainF_len]; have := h.s; omega, (chainF_rise G h.r).up, fun x hx => by have h1 := chain_bd G h.w x hx; have h2 := h.n; omega⟩
theorem RowB.sum {G : List (List Nat)} (h : RowB G) : SumB (cnts G) := ⟨by simp only [cnts, List.length_map]; have := h.n; omega, by have := h.s; omega⟩
theorem cnts_len (G : List (List Nat)) : (cnts G).length = G.length := by simp [cnts]
theorem lo_le {G : List (List Nat)} {g : Nat} : loG G g ≤ (cnts G).sum := by
  unfold loG
  by_cases hg : g ≤ (cnts G).length
  · have := take_sum_mono (cnts G) hg
    rwa [List.take_length] at this
  · rw [List.take_of_length_le (by omega)]; exact Nat.le_refl _
theorem grp_len_le {G : List (List Nat)} {g : Nat} (hg : g < G.length) : loG G g + (G.getD g []).length ≤ (cnts G).sum := by rw [← lo_succ hg]; exact lo_le
theorem rcheck_ct (G : List (List Nat)) (h : RowB G) : Ct P 99 [.c (ggSl G)] [.c (nI .i64 0)] := by
  have hn := h.n
  have hs := h.s
  refine Ct.go T_ok T_mix (N := 42) Tryz.func99 rfl rfl rfl rfl ?_
  refine And.intro (by rw [ggRow_len]; omega) ?_
  rw [ggRow_len]
  refine dcase (fun h => absurd h (by omega)) (fun _ => ?_)
  refine And.intro (by rw [ggRow_len]; omega) ?_
  rw [ggRow_len]
  refine loopJ T_ok T_mix (fun i : Nat => i ≤ G.length) (fun i => [(10, .c (ggSl G)), (11, .c (nI .i64 G.length)), (12, .c (nI .i64 i))]) (fun _ => []) (fun i => G.length - i)
    0 (by omega) ⟨rfl, rfl, rfl, trivial⟩ trivial (fun _ : Unit => True) (fun _ => []) (fun _ => []) (fun i hi => ?_) (fun _ _ => ?_)
  · refine dcase (fun h5 => ?_) (fun h5 => ?_)
    · have hi' : i < G.length := by omega
      obtain ⟨g, hg⟩ : ∃ g, g = G.getD i [] := ⟨_, rfl⟩
      have hgm : g ∈ G := by rw [hg]; exact getD_memG hi'
      have hgl : g.length ≤ 50000 := by
        have := grp_len_le hi'
        rw [← hg] at this
        omega
      have hgr := h.r g hgm
      have hgw := h.w g hgm
      refine And.intro (by omega) (X1 _ (ggRow_ix hi') ?_)
      rw [← hg]
      refine And.intro (by rw [nRow_len]; omega) ?_
      rw [nRow_len]
      refine loopB T_ok T_mix (fun j : Nat => j ≤ g.length) (fun j => [(4, .c (nSl .i64 g)), (10, .c (ggSl G)), (11, .c (nI .i64 G.length)), (12, .c (nI .i64 i)), (16, .c (nSl .i64 g)), (17, .c (nI .i64 g.length)), (18, .c (nI .i64 j))]) (fun _ => []) (fun j => g.length - j)
        0 (by omega) ⟨rfl, rfl, rfl, rfl, rfl, rfl, rfl, trivial⟩ trivial (fun j hj => ?_)
      · refine dcase (fun h6 => ?_) (fun h6 => ?_)
        · have hj' : j < g.length := by omega
          have hv := hgw _ (getD_mem hj')
          refine And.intro (by omega) (X1 _ (nRow_ix hj') ?_)
          refine dcase (fun h7 => absurd h7 (by omega)) (fun _ => ?_)
          refine dcase (fun h7 => ?_) (fun h7 => ?_)
          · obtain ⟨q, rfl⟩ : ∃ n, j = n + 1 := ⟨j - 1, by omega⟩
            have hup := hgr q (q + 1) (by omega) hj'
            refine X1 ((q : Nat) : Int) (wI (by omega) (by omega) (by omega)) ?_
            refine And.intro (by omega) (X1 _ (nRow_ix (by omega)) ?_)
            refine dcase (fun h8 => absurd h8 (by omega)) (fun _ => ?_)
            refine X1 ((q + 1 + 1 : Nat) : Int) (wI (by simp) (by omega) (by omega)) ?_
            exact ⟨q + 1 + 1, by omega, by omega, ⟨rfl, rfl, rfl, rfl, rfl, rfl, rfl, trivial⟩, trivial⟩
          · refine X1 ((j + 1 : Nat) : Int) (wI (by simp) (by omega) (by omega)) ?_
            exact ⟨j + 1, by omega, by omega, ⟨rfl, rfl, rfl, rfl, rfl, rfl, rfl, trivial⟩, trivial⟩
        · refine X1 ((i + 1 : Nat) : Int) (wI1 (by omega)) ?_
          exact ⟨i + 1, by omega, by omega, ⟨rfl, rfl, rfl, trivial⟩, trivial⟩
    · exact ⟨(), trivial, trivial, trivial⟩
  · exact ⟨trivial, r1 rfl, trivial⟩
def cntP (G : List (List Nat)) (i : Nat) : List Nat := cnts (G.take i) ++ List.replicate (G.length - i) 0
theorem take_snocG {G : List (List Nat)} {i : Nat} (h : i < G.length) : G.take (i + 1) = G.take i ++ [G.getD i []] := by
  rw [List.take_succ_eq_append_getElem h, List.getD_eq_getElem?_getD, List.getElem?_eq_getElem h, Option.getD_some]
theorem cntP_len {G : List (List Nat)} {i : Nat} (h : i ≤ G.length) : (cntP G i).length = G.length := by simp [cntP, cnts]; omega
theorem cntP_set {G : List (List Nat)} {i : Nat} (h : i < G.length) : (cntP G i).set i (G.getD i []).length = cntP G (i + 1) := by
  unfold cntP
  have hl : (cnts (G.take i)).length = i := by simp [cnts]; omega
  rw [List.set_append_right _ _ (by omega), hl, Nat.sub_self, take_snocG h, cnts_snoc, List.append_assoc]
  congr 1
  rw [show G.length - i = (G.length - (i + 1)) + 1 by omega, List.replicate_succ]
  rfl
theorem cntP_all (G : List (List Nat)) : cntP G G.length = cnts G := by simp [cntP]
set_option maxHeartbeats 1000000 in
theorem rwnew_ct (G : List (List Nat)) (h : RowB G) : Ct P 61 [.c (ggSl G)] [.c (rwV G), .c (nI .i64 0)] := by
  have hn := h.n
  have hs := h.s
  refine Ct.go T_ok T_mix (N := 76) Tryz.func61 rfl rfl rfl rfl ?_
  refine X1 _ (rcheck_ct G h) ?_
  refine And.intro (by rw [ggRow_len]; omega) ?_
  rw [ggRow_len]
  refine ⟨by omega, by omega, by omega, .inl (by decide), ?_⟩
  refine And.intro (by rw [ggRow_len]; omega) ?_
  rw [ggRow_len]
  refine nilC (r := 61) (t := 6) (sz := 1) rfl rfl ?_
  refine loopJ T_ok T_mix (fun i : Nat => i ≤ G.length) (fun i => [(5, .c (.ow 20 1 G.length)), (6, .c (.ow 61 1 (chainF (G.take i)).length)), (21, .c (ggSl G)), (22, .c (nI .i64 G.length)), (23, .c (nI .i64 i))])
    (fun i => [(20, .row 1 (nRow .i64 (cntP G i))), (61, .row 1 (nRow .i64 (chainF (G.take i))))]) (fun i => G.length - i)
    0 (by omega) ⟨owE (by omega), rfl, rfl, rfl, rfl, trivial⟩ ⟨rowE (by unfold cntP; exact rep_row (by omega)), rfl, trivial⟩
    (fun _ : Unit => True) (fun _ => [(5, .c (.ow 20 1 (cnts G).length)), (6, .c (.ow 61 1 (chainF G).length))]) (fun _ => [(20, .row 1 (nRow .i64 (cnts G))), (61, .row 1 (nRow .i64 (chainF G)))]) (fun i hi => ?_) (fun _ _ => ?_)
  · refine dcase (fun h5 => ?_) (fun h5 => ?_)
    · have hi' : i < G.length := by omega
      obtain ⟨g, hg⟩ : ∃ g, g = G.getD i [] := ⟨_, rfl⟩
      have hgm : g ∈ G := by rw [hg]; exact getD_memG hi'
      have hgl := grp_len_le hi'
      rw [← hg] at hgl
      have hgw := h.w g hgm
      have hcl : (chainF (G.take i)).length = loG G i := lo_len G i
      have hcb := chain_bd (G.take i) fun g' hg' => h.w g' (List.mem_of_mem_take hg')
      rw [List.length_take, Nat.min_eq_left hi] at hcb
      have hbb := base_bd hcb
      have hcp := cntP_len hi
      obtain ⟨c, hc⟩ : ∃ c, c = chainF (G.take i) := ⟨_, rfl⟩
      obtain ⟨b, hb⟩ : ∃ b, b = baseC c := ⟨_, rfl⟩
      rw [← hc] at hcl hcb
      rw [← hc, ← hb] at hbb
      have hchain : chainF (G.take (i + 1)) = c ++ g.map (b + ·) := by rw [take_snocG hi', chainF_snoc, ← hg, ← hc, ← hb]
      have hset : (nRow .i64 (cntP G i)).set i [nI .i64 g.length] = nRow .i64 (cntP G (i + 1)) := by rw [nRow_set, hg, cntP_set hi']
      refine And.intro (by omega) (X1 _ (ggRow_ix hi') ?_)
      rw [← hg, ← hc]
      refine And.intro (by rw [nRow_len]; omega) ?_
      rw [nRow_len]
      refine And.intro (by omega) (And.intro (by omega) ?_)
      refine X1 _ (by rw [Int.toNat_natCast]; exact nRow_at' (x := (cntP G i).getD i 0) (by rw [List.getD_eq_getElem?_getD, List.getElem?_eq_getElem (by omega)]; rfl)) ?_
      refine And.intro (by show c.length ≤ _; omega) ?_
      refine dcase (fun h6 => ?_) (fun h6 => ?_)
      · have hbe : b = c.getD (c.length - 1) 0 + 1 := by rw [hb]; unfold baseC; rw [if_neg (by omega)]
        refine And.intro (by show c.length ≤ _; omega) ?_
        refine X1 ((c.length - 1 : Nat) : Int) (wI (by omega) (by omega) (by omega)) ?_
        refine And.intro (by omega) (And.intro (by omega) ?_)
        refine X1 _ (nRow_ix (by omega)) ?_
        refine X1 ((b : Nat) : Int) (wI (by omega) (by omega) (by omega)) ?_
        refine And.intro (by rw [nRow_len]; omega) ?_
        rw [nRow_len]
        refine loopB T_ok T_mix (fun j : Nat => j ≤ g.length) (fun j => [(5, .c (.ow 20 1 G.length)), (6, .c (.ow 61 1 (c ++ (g.take j).map (b + ·)).length)), (9, .c (nI .i64 b)), (21, .c (ggSl G)), (22, .c (nI .i64 G.length)), (23, .c (nI .i64 i)), (43, .c (nSl .i64 g)), (44, .c (nI .i64 g.length)), (45, .c (nI .i64 j))])
          (fun j => [(20, .row 1 (nRow .i64 (cntP G (i + 1)))), (61, .row 1 (nRow .i64 (c ++ (g.take j).map (b + ·))))]) (fun j => g.length - j)
          0 (by omega) ⟨rfl, owE (by simp), rfl, rfl, rfl, rfl, rfl, rfl, rfl, trivial⟩ ⟨rowE (by rw [Int.toNat_natCast]; exact hset), rowE (by simp), trivial⟩
          (fun j hj => ?_)
        · refine dcase (fun h7 => ?_) (fun h7 => ?_)
          · have hj' : j < g.length := by omega
            have hv := hgw _ (getD_mem hj')
            have hcj : (c ++ (g.take j).map (b + ·)).length = c.length + j := by simp; omega
            refine And.intro (by omega) (X1 _ (nRow_ix hj') ?_)
            refine X1 ((b + g.getD j 0 : Nat) : Int) (wI (by omega) (by omega) (by omega)) ?_
            refine app_row rfl (by rw [hcj]; show c.length + j + 1 ≤ _; omega) c1_closed ?_
            refine X1 ((j + 1 : Nat) : Int) (wI (by simp) (by omega) (by omega)) ?_
            have e1 : c ++ (g.take (j + 1)).map (b + ·) = (c ++ (g.take j).map (b + ·)) ++ [b + g.getD j 0] := by rw [take_snocN hj', List.map_append, List.append_assoc]; rfl
            exact ⟨j + 1, by omega, by omega, ⟨rfl, owSn e1, rfl, rfl, rfl, rfl, rfl, rfl, rfl, trivial⟩, ⟨rfl, rowSn e1, trivial⟩⟩
          · have e : j = g.length := by omega
            subst e
            refine X1 ((i + 1 : Nat) : Int) (wI1 (by omega)) ?_
            exact ⟨i + 1, by omega, by omega, ⟨rfl, owE (by rw [hchain, List.take_length]), rfl, rfl, rfl, trivial⟩, ⟨rfl, rowE (by rw [hchain, List.take_length]), trivial⟩⟩
      · have hbe : b = 0 := by rw [hb]; unfold baseC; rw [if_pos (by omega)]
        refine And.intro (by rw [nRow_len]; omega) ?_
        rw [nRow_len]
        refine loopB T_ok T_mix (fun j : Nat => j ≤ g.length) (fun j => [(5, .c (.ow 20 1 G.length)), (6, .c (.ow 61 1 (c ++ (g.take j).map (b + ·)).length)), (9, .c (nI .i64 b)), (21, .c (ggSl G)), (22, .c (nI .i64 G.length)), (23, .c (nI .i64 i)), (43, .c (nSl .i64 g)), (44, .c (nI .i64 g.length)), (45, .c (nI .i64 j))])
          (fun j => [(20, .row 1 (nRow .i64 (cntP G (i + 1)))), (61, .row 1 (nRow .i64 (c ++ (g.take j).map (b + ·))))]) (fun j => g.length - j)
          0 (by omega) ⟨rfl, owE (by simp), iE (by rw [hbe]; rfl), rfl, rfl, rfl, rfl, rfl, rfl, trivial⟩ ⟨rowE (by rw [Int.toNat_natCast]; exact hset), rowE (by simp), trivial⟩
          (fun j hj => ?_)
        · refine dcase (fun h7 => ?_) (fun h7 => ?_)
          · have hj' : j < g.length := by omega
            have hv := hgw _ (getD_mem hj')
            have hcj : (c ++ (g.take j).map (b + ·)).length = c.length + j := by simp; omega
            refine And.intro (by omega) (X1 _ (nRow_ix hj') ?_)
            refine X1 ((b + g.getD j 0 : Nat) : Int) (wI (by omega) (by omega) (by omega)) ?_
            refine app_row rfl (by rw [hcj]; show c.length + j + 1 ≤ _; omega) c1_closed ?_
            refine X1 ((j + 1 : Nat) : Int) (wI (by simp) (by omega) (by omega)) ?_
            have e1 : c ++ (g.take (j + 1)).map (b + ·) = (c ++ (g.take j).map (b + ·)) ++ [b + g.getD j 0] := by rw [take_snocN hj', List.map_append, List.append_assoc]; rfl
            exact ⟨j + 1, by omega, by omega, ⟨rfl, owSn e1, rfl, rfl, rfl, rfl, rfl, rfl, rfl, trivial⟩, ⟨rfl, rowSn e1, trivial⟩⟩
          · have e : j = g.length := by omega
            subst e
            refine X1 ((i + 1 : Nat) : Int) (wI1 (by omega)) ?_
            exact ⟨i + 1, by omega, by omega, ⟨rfl, owE (by rw [hchain, List.take_length]), rfl, rfl, rfl, trivial⟩, ⟨rfl, rowE (by rw [hchain, List.take_length]), trivial⟩⟩
    · have e : i = G.length := by omega
      subst e
      exact ⟨(), trivial, ⟨owE (by rw [cnts_len]), owE (by rw [List.take_length]), trivial⟩, ⟨rowE (by rw [cntP_all]), rowE (by rw [List.take_length]), trivial⟩⟩
  · refine X2 .frz ?_
    refine X1 _ (pfnew_ct (cnts G) h.sum) ?_
    refine X2 .frz ?_
    refine X1 _ (esnew_ct (chainF G) h.chain) ?_
    exact ⟨trivial, r1 rfl, r1 rfl, trivial⟩
theorem rgroups_ct (G : List (List Nat)) (h : RowB G) : Ct P 121 [.c (rwV G)] [.c (nI .i64 G.length)] := by
  have hp := pflen_ct (cnts G) h.sum
  rw [cnts_len] at hp
  refine Ct.go T_ok T_mix (N := 10) Tryz.func121 rfl rfl rfl rfl ?_
  refine X1 _ hp ?_
  exact ⟨trivial, r1 rfl, trivial⟩
theorem rbase_ct (G : List (List Nat)) (h : RowB G) (g : Nat) (hg : g ≤ G.length) : Ct P 102 [.c (rwV G), .c (nI .i64 (loG G g))] [.c (nI .i64 (baseC (chainF (G.take g))))] := by
  have hs := h.s
  have hl := lo_le (G := G) (g := g)
  have hb := chain_base hg
  have hle := h.chain.le
  refine Ct.go T_ok T_mix (N := 13) Tryz.func102 rfl rfl rfl rfl ?_
  obtain ⟨lo, hlo⟩ : ∃ lo, lo = loG G g := ⟨_, rfl⟩
  rw [← hlo] at hl hb ⊢
  by_cases h0 : lo = 0
  · rw [if_pos h0] at hb
    refine X1 (-1 : Int) (wI (by omega) (by omega) (by omega)) ?_
    refine X1 _ (eatN_ct _) ?_
    refine X1 ((0 : Nat) : Int) (wI (by omega) (by omega) (by omega)) ?_
    exact ⟨trivial, r1 (iE (by rw [hb])), trivial⟩
  · rw [if_neg h0] at hb
    have hlt : lo - 1 < (chainF G).length := by rw [chainF_len]; omega
    have hv := h.chain.get hlt
    refine X1 ((lo - 1 : Nat) : Int) (wI (by omega) (by omega) (by omega)) ?_
    refine X1 _ (eat_ct _ h.chain (lo - 1) hlt) ?_
    refine X1 (((chainF G).getD (lo - 1) 0 + 1 : Nat) : Int) (wI (by omega) (by omega) (by omega)) ?_
    exact ⟨trivial, r1 (iE (by rw [hb])), trivial⟩
theorem rspanN_ct (G : List (List Nat)) (h : RowB G) (g : Int) (hg : g < 0 ∨ (G.length : Int) ≤ g) : Ct P 75 [.c (rwV G), .c (eI .i64 g)] [.c (nI .i64 0), .c (nI .i64 0)] := by
  refine Ct.go T_ok T_mix (N := 30) Tryz.func75 rfl rfl rfl rfl ?_
  refine dcase (fun h1 => ?_) (fun h1 => ?_)
  · exact ⟨trivial, r1 rfl, r1 rfl, trivial⟩
  · refine X1 _ (rgroups_ct G h) ?_
    refine dcase (fun h2 => ?_) (fun h2 => absurd (by omega) h2)
    exact ⟨trivial, r1 rfl, r1 rfl, trivial⟩
theorem rspan_ct (G : List (List Nat)) (h : RowB G) (g : Nat) (hg : g < G.length) : Ct P 75 [.c (rwV G), .c (nI .i64 g)] [.c (nI .i64 (loG G g)), .c (nI .i64 (loG G g + (G.getD g []).length : Nat))] := by
  have hs := h.s
  have hl := grp_len_le hg
  have h1 := pfsum_ct (cnts G) h.sum g (by rw [cnts_len]; omega)
  have h2 := pfat_ct (cnts G) h.sum g (by rw [cnts_len]; omega)
  rw [cnts_getD] at h2
  refine Ct.go T_ok T_mix (N := 30) Tryz.func75 rfl rfl rfl rfl ?_
  refine X1 _ (rgroups_ct G h) ?_
  refine dcase (fun h => absurd h (by omega)) (fun _ => ?_)
  refine X1 _ h1 ?_
  refine X1 _ h2 ?_
  refine X1 ((loG G g + (G.getD g []).length : Nat) : Int) (wI (by simp [loG]) (by omega) (by omega)) ?_
  exact ⟨trivial, r1 rfl, r1 rfl, trivial⟩
theorem rwhere_ct (G : List (List Nat)) (h : RowB G) (g : Nat) (v : Int) (hg : g < G.length) : Ct P 63 [.c (rwV G), .c (nI .i64 g), .c (eI .i64 v)] [.c (eI .i64 (whereI G g v))] := by
  have hs := h.s
  have hn := h.n
  have hl := grp_len_le hg
  refine Ct.go T_ok T_mix (N := 38) Tryz.func63 rfl rfl rfl rfl ?_
  refine X1 _ (rspan_ct G h g hg) ?_
  obtain ⟨lo, hlo⟩ : ∃ lo, lo = loG G g := ⟨_, rfl⟩
  obtain ⟨hi, hhi⟩ : ∃ hi, hi = lo + (G.getD g []).length := ⟨_, rfl⟩
  have hb := rbase_ct G h g (by omega)
  have hf := find_chain h.r hg (v := v.toNat)
  rw [← hlo] at hl hb hf ⊢
  rw [← hhi] at hl hf ⊢
  refine ecase (fun h1 => ?_) (fun h1 => ?_)
  · have e : whereI G g v = -1 := by
      unfold whereI
      split
      · rfl
      · unfold whereG
        rw [if_neg (by omega)]
    exact ⟨trivial, r1 (iE e.symm), trivial⟩
  · refine dcase (fun h2 => ?_) (fun h2 => ?_)
    · exact ⟨trivial, r1 (iE (by unfold whereI; rw [if_pos (by omega)])), trivial⟩
    · refine dcase (fun h3 => ?_) (fun h3 => ?_)
      · exact ⟨trivial, r1 (iE (by unfold whereI; rw [if_pos (by omega)])), trivial⟩
      · have hcb := base_bd (chain_bd (G.take g) fun g' hg' => h.w g' (List.mem_of_mem_take hg'))
        rw [List.length_take, Nat.min_eq_left (by omega)] at hcb
        obtain ⟨b, hbb⟩ : ∃ b, b = baseC (chainF (G.take g)) := ⟨_, rfl⟩
        rw [← hbb] at hcb hb hf
        refine X1 _ hb ?_
        refine X1 ((b + v.toNat : Nat) : Int) (wI (by omega) (by omega) (by omega)) ?_
        refine X1 _ (efind_ct _ h.chain lo hi _ (by omega) (by omega)) ?_
        refine And.intro rfl ?_
        exact ⟨trivial, r1 (iE (by rw [hf (by omega)]; unfold whereI; rw [if_neg (by omega)])), trivial⟩
end Go.Proofs.YtjpbijdpkdmeaaaGreat.Pv
namespace Go.Proofs.YtjpbijdpkdmeaaaGreat.Pv
open Go
abbrev nlE : List PC := [.sc (.slice none 0 0)]
structure BaseOK (base : List (List PC)) (c : Nat) (G : List (List Nat)) : Prop where
  len : base.length = G.length
  at' : ∀ j, j < G.length → j ≠ c → base[j]? = some [nSl .i64 (G.getD j [])] ∨ (G.getD j [] = [] ∧ base[j]? = some nlE)
  gt : ∀ j, c < j → j < G.length → G.getD j [] = [] ∧ base[j]? = some nlE
  cl : closedLL base
theorem rep_nil {m j : Nat} : (List.replicate m ([] : List Nat)).getD j [] = [] := by
  rw [List.getD_eq_getElem?_getD, List.getElem?_replicate]
  split <;> rfl
theorem BaseOK.init (m : Nat) : BaseOK (List.replicate m nlE) 0 (List.replicate m []) where
  len := by simp
  at' j hj _ := .inr ⟨rep_nil, by rw [List.getElem?_replicate, if_pos (by simpa using hj)]⟩
  gt j _ hj := ⟨rep_nil, by rw [List.getElem?_replicate, if_pos (by simpa using hj)]⟩
  cl := fun el h => by rw [List.eq_of_mem_replicate h]; rfl
theorem addG_ln {G : List (List Nat)} {c v : Nat} : (addG G c v).length = G.length := by simp [addG]
theorem addG_self {G : List (List Nat)} {c v : Nat} (hc : c < G.length) : (addG G c v).getD c [] = G.getD c [] ++ [v] := by unfold addG; rw [getD_set_G hc, if_pos rfl]
theorem BaseOK.add {base : List (List PC)} {c : Nat} {G : List (List Nat)} (h : BaseOK base c G) (hc : c < G.length) (v : Nat) : BaseOK base c (addG G c v) where
  len := by rw [addG_ln]; exact h.len
  at' j hj hjc := by
    rw [addG_ln] at hj
    have e : (addG G c v).getD j [] = G.getD j [] := by unfold addG; rw [getD_set_G hc, if_neg hjc]
    rw [e]
    exact h.at' j hj hjc
  gt j h1 hj := by
    rw [addG_ln] at hj
    have e : (addG G c v).getD j [] = G.getD j [] := by unfold addG; rw [getD_set_G hc, if_neg (by omega)]
    rw [e]
    exact h.gt j h1 hj
  cl := h.cl
theorem set_closed {base : List (List PC)} {c : Nat} {x : List PC} (h : closedLL base) (hx : closedL x = true) : closedLL (base.set c x) := fun el hel => by
  rcases List.mem_or_eq_of_mem_set hel with h1 | h1
  · exact h el h1
  · rw [h1]; exact hx
theorem BaseOK.move {base : List (List PC)} {c a : Nat} {G : List (List Nat)} (h : BaseOK base c G) (hca : c < a) : BaseOK (base.set c [nSl .i64 (G.getD c [])]) a G where
  len := by rw [List.length_set]; exact h.len
  at' j hj hja := by
    rw [List.getElem?_set]
    by_cases e : c = j
    · subst e
      rw [if_pos rfl, if_pos (by rw [h.len]; exact hj)]
      exact .inl rfl
    · rw [if_neg e]
      exact h.at' j hj (fun e' => e e'.symm)
  gt j h1 hj := by
    rw [List.getElem?_set, if_neg (by omega)]
    exact h.gt j (by omega) hj
  cl := set_closed h.cl rfl
theorem BaseOK.fin {base : List (List PC)} {c : Nat} {G : List (List Nat)} (h : BaseOK base c G) (hc : c < G.length) :
    ∀ (j : Nat) el', (ggRow G)[j]? = some el' → ∃ el, (base.set c [nSl .i64 (G.getD c [])])[j]? = some el ∧ (el = el' ∨ (el = nlE ∧ el' = [.sl 1 []])) := fun j el' hj => by
  have hjl : j < G.length := by
    have := (List.getElem?_eq_some_iff.1 hj).1
    rwa [ggRow_len] at this
  have e : el' = [nSl .i64 (G.getD j [])] := by
    have := ggRow_ix hjl
    rw [Int.toNat_natCast, hj] at this
    exact Option.some.inj this
  subst e
  rw [List.getElem?_set]
  by_cases e : c = j
  · subst e
    rw [if_pos rfl, if_pos (by rw [h.len]; exact hjl)]
    exact ⟨_, rfl, .inl rfl⟩
  · rw [if_neg e]
    rcases h.at' j hjl (fun e' => e e'.symm) with h1 | ⟨h1, h2⟩
    · exact ⟨_, h1, .inl rfl⟩
    · exact ⟨_, h2, .inr ⟨rfl, by rw [h1]; rfl⟩⟩
section
variable {P : Program} {T : Ty} {N : Nx} {E : Env} {O : Objs} {c : Code} {Q : PQ}
theorem rowLe {k : Nat} {els els' : List (List PC)} (hk : O.get k = some (.row 1 els)) (hl : els'.length = els.length) (hle : ∀ (j : Nat) el', els'[j]? = some el' → ∃ el, els[j]? = some el ∧ (el = el' ∨ (el = nlE ∧ el' = [.sl 1 []])))
    (h : WI P N E (O.set k (.row 1 els')) c Q) : WI P N E O c Q :=
  WI.step (fun X K ok w a hs => ⟨K, ok, hs.less hk fun hob => by
    rcases hob with ⟨h1, h2⟩ | ⟨b, cs, e, fr, a1, a2, a3, a4, a5, a6, a7⟩
    · exact .inl ⟨h1, by subst h2; exact List.length_eq_zero_iff.1 (by simpa using hl)⟩
    · refine .inr ⟨b, cs, e, fr, by rw [hl]; exact a1, a2, a3, by rw [hl]; exact a4, by rw [hl]; exact a5, fun j el hj => ?_, fun j i el x hj hi => ?_⟩
      · obtain ⟨el0, h1, h2⟩ := hle j el hj
        rcases h2 with h2 | ⟨h2, h3⟩
        · subst h2; exact a6 j _ h1
        · subst h3; rfl
      · obtain ⟨el0, h1, h2⟩ := hle j el hj
        rcases h2 with h2 | ⟨h2, h3⟩
        · subst h2; exact a7 j i _ x h1 hi
        · subst h2; subst h3
          cases i with
          | succ i => simp at hi
          | zero =>
            simp at hi
            subst hi
            obtain ⟨u, hu, hru⟩ := a7 j 0 _ _ h1 rfl
            cases hru with
            | sc _ => exact ⟨_, hu, .sl0⟩⟩) h
theorem weakI {pE : List (Nat × AV)} {pO : List (Nat × Ob)} (h : WI P N (envL pE) (objL pO) c Q) (hE : AllIn E pE) (hO : AllInO O pO) : WI P N E O c Q := .of (W.weak (Sub.of hE) (SubO.of hO) h.out)
theorem viaI {G : Type} (inv : G → Prop) (pE : G → List (Nat × AV)) (pO : G → List (Nat × Ob)) (h : (∀ g, inv g → WI P N (envL (pE g)) (objL (pO g)) c Q) → WI P N E O c Q) (key : ∀ g, inv g → WI P N (envL (pE g)) (objL (pO g)) c Q) : WI P N E O c Q := h key
end
theorem rowOE' {sz : Nat} {a b : List (List PC)} {i j : List Nat} (h : a = b) (h2 : i = j) : (some (.rowO sz a i) : Option Ob) = some (.rowO sz b j) := by rw [h, h2]
theorem nomD' {base : List (List PC)} {n k r sz q : Nat} {el' : List PC} (hbc : closedLL base) (he : el' ∈ ((base.set n [.ow k r sz]).set n (spl [.ow k r sz] 0 (List.replicate 1 .dead)))) (hm : mentA q el' = true) : memB q [] = true := by
  have e : spl [PC.ow k r sz] 0 (List.replicate 1 .dead) = [PC.dead] := rfl
  rw [List.set_set, e] at he
  rcases List.mem_or_eq_of_mem_set he with he | he
  · rw [mentA, closedL_ment (hbc el' he)] at hm; cases hm
  · subst he; cases hm
mutual
theorem view_closed {n : Nat} {V : Objs} : ∀ {x : PC}, x.closed = true → viewN n V x = x
  | .fn f caps, h => by
    cases n with
    | zero => rfl
    | succ n =>
      show PC.fn f (caps.map (viewN n V)) = _
      rw [views_closed (by simpa [PC.closed] using h)]
  | .sc _, _ => by cases n <;> rfl
  | .sl _ _, _ => by cases n <;> rfl
  | .rd _, _ => by cases n <;> rfl
  | .cb _, _ => by cases n <;> rfl
  | .dead, _ => by cases n <;> rfl
  | .ow _ _ _, h => by cases h
  | .os _ _ _ _, h => by cases h
  | .ad _ _, h => by cases h
  | .ea _ _ _ _, h => by cases h
  | .mp _, h => by cases h
theorem views_closed {n : Nat} {V : Objs} : ∀ {l : List PC}, closedL l = true → l.map (viewN n V) = l
  | [], _ => rfl
  | x :: l, h => by
    simp only [closedL, Bool.and_eq_true] at h
    rw [List.map_cons, view_closed h.1, views_closed h.2]
end
theorem view_base {base : List (List PC)} (h : closedLL base) (V : Objs) : base.map (·.map (viewN 3 V)) = base :=
  (List.map_congr_left (g := id) fun el hel => views_closed (h el hel)).trans (List.map_id _)
theorem setD' {base : List (List PC)} {n : Nat} {a b c : List PC} : ((base.set n a).set n b).set n c = base.set n c := by rw [List.set_set, List.set_set]
end Go.Proofs.YtjpbijdpkdmeaaaGreat.Pv
namespace Go.Proofs.YtjpbijdpkdmeaaaGreat.Pv
open Go
def bbRow (B : List (List Int)) : List (List PC) := B.map fun p => [iSl p]
abbrev bbSl (B : List (List Int)) : PC := .sl 1 (bbRow B)
theorem bbRow_len {B : List (List Int)} : (bbRow B).length = B.length := by simp [bbRow]
theorem bbRow_ix {B : List (List Int)} {i : Nat} (h : i < B.length) : (bbRow B)[((i : Nat) : Int).toNat]? = some [iSl (B.getD i [])] := by
  simp [bbRow, List.getD_eq_getElem?_getD, List.getElem?_eq_getElem h]
theorem getD_memB {B : List (List Int)} {i : Nat} (h : i < B.length) : B.getD i [] ∈ B := by
  rw [List.getD_eq_getElem?_getD, List.getElem?_eq_getElem h]; exact List.getElem_mem h
theorem PairOK.tw {W : Nat} {B : List (List Int)} (h : PairOK W B) {p : List Int} (hp : p ∈ B) : ∃ a b : Nat, p = [(a : Int), (b : Int)] ∧ a < W ∧ b < W := by
  have h1 := two_of (h.len p hp)
  have h2 := h.w p hp
  rw [h1] at h2
  have ha := h2 (p.getD 0 0) (by simp)
  have hb := h2 (p.getD 1 0) (by simp)
  refine ⟨(p.getD 0 0).toNat, (p.getD 1 0).toNat, ?_, by omega, by omega⟩
  rw [Int.toNat_of_nonneg ha.1, Int.toNat_of_nonneg hb.1]
  exact h1
theorem rmcheck_ct (W : Nat) (B : List (List Int)) (h : PairOK W B) (hW : 1 ≤ W) (hW2 : W ≤ 65536) (hB : B.length ≤ 50000) : Ct P 138 [.c (nI .i64 W), .c (bbSl B)] [.c (nI .i64 0)] := by
  refine Ct.go T_ok T_mix (N := 52) Tryz.func138 rfl rfl rfl rfl ?_
  refine dcase (fun h => absurd h (by omega)) (fun _ => ?_)
  refine dcase (fun h => absurd h (by omega)) (fun _ => ?_)
  refine And.intro (by rw [bbRow_len]; omega) ?_
  rw [bbRow_len]
  refine loopJ T_ok T_mix (fun i : Nat => i ≤ B.length) (fun i => [(0, .c (nI .i64 W)), (1, .c (bbSl B)), (15, .c (bbSl B)), (16, .c (nI .i64 B.length)), (17, .c (nI .i64 i))]) (fun _ => []) (fun i => B.length - i)
    0 (by omega) ⟨rfl, rfl, rfl, rfl, rfl, trivial⟩ trivial (fun _ : Unit => True) (fun _ => []) (fun _ => []) (fun i hi => ?_) (fun _ _ => ?_)
  · refine dcase (fun h5 => ?_) (fun h5 => ?_)
    · have hi' : i < B.length := by omega
      obtain ⟨p, hp⟩ : ∃ p, p = B.getD i [] := ⟨_, rfl⟩
      have hpm : p ∈ B := by rw [hp]; exact getD_memB hi'
      obtain ⟨a, b, hab, ha, hb⟩ := h.tw hpm
      refine And.intro (by omega) (X1 _ (bbRow_ix hi') ?_)
      rw [← hp]
      have hl : (iRow p).length = 2 := by rw [iRow_len, h.len p hpm]
      refine And.intro (by rw [hl]; omega) ?_
      rw [hl]
      refine And.intro (by rw [hl]; omega) ?_
      rw [hl]
      refine loopJ T_ok T_mix (fun j : Nat => j ≤ 2) (fun j => [(0, .c (nI .i64 W)), (1, .c (bbSl B)), (5, .c (nI .i64 i)), (6, .c (iSl p)), (15, .c (bbSl B)), (16, .c (nI .i64 B.length)), (17, .c (nI .i64 i)), (25, .c (iSl p)), (26, .c (nI .i64 2)), (27, .c (nI .i64 j))]) (fun _ => []) (fun j => 2 - j)
        0 (by omega) ⟨rfl, rfl, rfl, rfl, rfl, rfl, rfl, rfl, rfl, rfl, trivial⟩ trivial (fun _ : Unit => True) (fun _ => [(0, .c (nI .i64 W)), (1, .c (bbSl B)), (5, .c (nI .i64 i)), (6, .c (iSl p)), (15, .c (bbSl B)), (16, .c (nI .i64 B.length)), (17, .c (nI .i64 i))]) (fun _ => []) (fun j hj => ?_) (fun _ _ => ?_)
      · refine dcase (fun h6 => ?_) (fun h6 => ?_)
        · have hj' : j < p.length := by rw [h.len p hpm]; omega
          have hw := h.w p hpm (p.getD j 0) (by rw [List.getD_eq_getElem?_getD, List.getElem?_eq_getElem hj']; exact List.getElem_mem hj')
          refine And.intro (by omega) (X1 _ (iRow_getN rfl hj') ?_)
          refine dcase (fun h7 => absurd h7 (by omega)) (fun _ => ?_)
          refine dcase (fun h7 => absurd h7 (by omega)) (fun _ => ?_)
          refine X1 ((j + 1 : Nat) : Int) (wI (by simp) (by omega) (by omega)) ?_
          exact ⟨j + 1, by omega, by omega, ⟨rfl, rfl, rfl, rfl, rfl, rfl, rfl, rfl, rfl, rfl, trivial⟩, trivial⟩
        · exact ⟨(), trivial, ⟨rfl, rfl, rfl, rfl, rfl, rfl, rfl, trivial⟩, trivial⟩
      · refine dcase (fun h7 => ?_) (fun h7 => ?_)
        · obtain ⟨q, rfl⟩ : ∃ n, i = n + 1 := ⟨i - 1, by omega⟩
          have hq := h.len _ (getD_memB (B := B) (i := q) (by omega))
          have hlt := rise_at h.r (i := q) (j := q + 1) (a := B.getD q []) (b := p) (by omega) (by rw [List.getD_eq_getElem?_getD, List.getElem?_eq_getElem (by omega)]; rfl) (by rw [hp, List.getD_eq_getElem?_getD, List.getElem?_eq_getElem hi']; rfl)
          refine X1 ((q : Nat) : Int) (wI (by omega) (by omega) (by omega)) ?_
          refine And.intro (by omega) (X1 _ (bbRow_ix (by omega)) ?_)
          refine X1 _ (gcompare_ct _ p (by omega) (by rw [h.len p hpm]; omega)) ?_
          refine dcase (fun h8 => absurd h8 (by omega)) (fun _ => ?_)
          refine X1 ((q + 1 + 1 : Nat) : Int) (wI (by simp) (by omega) (by omega)) ?_
          exact ⟨q + 1 + 1, by omega, by omega, ⟨rfl, rfl, rfl, rfl, rfl, trivial⟩, trivial⟩
        · refine X1 ((i + 1 : Nat) : Int) (wI1 (by omega)) ?_
          exact ⟨i + 1, by omega, by omega, ⟨rfl, rfl, rfl, rfl, rfl, trivial⟩, trivial⟩
    · exact ⟨(), trivial, trivial, trivial⟩
  · exact ⟨trivial, r1 rfl, trivial⟩
theorem PairOK.rowB {W : Nat} {B : List (List Int)} (h : PairOK W B) (hW2 : W ≤ 10000) (hB : B.length ≤ 50000) : RowB (pairG W B) where
  n := by rw [h.grp.len]; exact hW2
  s := by rw [h.grp.tot]; unfold pairL; rw [List.length_map]; exact hB
  r g hg := by
    obtain ⟨i, hi, rfl⟩ := List.getElem_of_mem hg
    have := h.grp.rise i
    rwa [List.getD_eq_getElem?_getD, List.getElem?_eq_getElem hi] at this
  w g hg v hv := by
    obtain ⟨i, hi, rfl⟩ := List.getElem_of_mem hg
    have := h.grp.mem i v (by rw [List.getD_eq_getElem?_getD, List.getElem?_eq_getElem hi]; exact hv)
    obtain ⟨p, hp, e⟩ := List.mem_map.1 this
    obtain ⟨a, b, hab, ha, hb⟩ := h.tw hp
    subst hab
    simp at e
    omega
set_option maxHeartbeats 2000000 in
theorem rmnew_ct (W : Nat) (B : List (List Int)) (h : PairOK W B) (hW : 1 ≤ W) (hW2 : W ≤ 10000) (hB : B.length ≤ 50000) : Ct P 93 [.c (nI .i64 W), .c (bbSl B)] [.c (mpV (pairG W B)), .c (nI .i64 0)] := by
  have hsr := h.srt
  have hlv : (pairL B).length = B.length := by simp [pairL]
  refine Ct.keepI T_ok [53] (N := 54) Tryz.func93 rfl rfl rfl rfl ?_
  refine seqI T_ok T_mix ?_
  refine seqI T_ok T_mix ?_
  refine X1 _ (rmcheck_ct W B h hW (by omega) hB) ?_
  refine seqI T_ok T_mix ?_
  refine And.intro (by omega) (And.intro (by omega) (And.intro (by omega) (And.intro ?_ ?_)))
  · exact .inr (by show (W : Int) * 24 ≤ _; omega)
  have hG0 : grpF W ((pairL B).take 0) = List.replicate W [] := rfl
  refine nilEl (r := 84) (k := 19) (sz := 1) (sz' := 1) (i := 0) (els := List.replicate W nlE) rfl (by omega) (by rw [Int.toNat_natCast]; rfl) (by rw [List.getElem?_replicate, if_pos (by omega)]) (BaseOK.init W).cl ?_
  refine seqW ?_
  refine cutI T_ok T_mix (G2 := Unit) (fun _ => True) (fun _ => [(7, .c (.ow 19 1 W)), (20, .c (bbSl B)), (21, .c (nI .i64 B.length)), (22, .c (nI .i64 0))])
    (fun _ => [(19, .rowO 1 ((List.replicate W nlE).set 0 [.ow 84 1 0]) [84]), (84, .row 1 (nRow .i64 []))]) ?_ (fun _ _ => ?_)
  · refine And.intro (by rw [bbRow_len]; omega) ?_
    rw [bbRow_len]
    exact ⟨(), trivial, ⟨by rw [Int.toNat_natCast]; rfl, rfl, rfl, rfl, trivial⟩, ⟨rfl, rfl, trivial⟩⟩
  refine loopJI (G := Nat × Nat × List (List PC)) (fun (i, c, base) => i ≤ B.length ∧ c < W ∧ (∀ (j : Nat) x, i ≤ j → (pairL B)[j]? = some x → c ≤ x.1) ∧ BaseOK base c (grpF W ((pairL B).take i)))
    (fun (i, c, base) => [(7, .c (.ow 19 1 W)), (20, .c (bbSl B)), (21, .c (nI .i64 B.length)), (22, .c (nI .i64 i))])
    (fun (i, c, base) => [(19, .rowO 1 (base.set c [.ow 84 1 ((grpF W ((pairL B).take i)).getD c []).length]) [84]), (84, .row 1 (nRow .i64 ((grpF W ((pairL B).take i)).getD c [])))]) (fun (i, c, base) => B.length - i)
    (0, 0, List.replicate W nlE) ⟨by omega, by omega, fun _ _ _ _ => Nat.zero_le _, BaseOK.init W⟩ ⟨rfl, rfl, rfl, rfl, trivial⟩ ⟨rowOE' (by rw [hG0, rep_nil]; rfl) rfl, rowE (by rw [hG0, rep_nil]), trivial⟩
    (fun (_, c, base) => c < W ∧ BaseOK base c (pairG W B)) (fun _ => [(7, .c (.ow 19 1 W))])
    (fun ((_, c, base) : Nat × Nat × List (List PC)) => [(19, .rowO 1 (base.set c [.ow 84 1 ((pairG W B).getD c []).length]) [84]), (84, .row 1 (nRow .i64 ((pairG W B).getD c [])))]) (fun (i, c, base) hg => ?_) (fun (_, c, base) hg => ?_)
  · obtain ⟨g1, g2, g3, g4⟩ := hg
    refine seqI T_ok T_mix ?_
    refine seqI T_ok T_mix ?_
    refine dcase (fun h5 => ?_) (fun h5 => ?_)
    · have hi' : i < B.length := by omega
      obtain ⟨p, hp⟩ : ∃ p, p = B.getD i [] := ⟨_, rfl⟩
      have hpm : p ∈ B := by rw [hp]; exact getD_memB hi'
      obtain ⟨a, b, hab, ha, hb⟩ := h.tw hpm
      have hx : (pairL B)[i]? = some (a, b) := by
        unfold pairL
        rw [List.getElem?_map, show B[i]? = some p from by rw [hp, List.getD_eq_getElem?_getD, List.getElem?_eq_getElem hi']; rfl, hab]
        rfl
      have hca := g3 i _ (Nat.le_refl _) hx
      have hsn : grpF W ((pairL B).take (i + 1)) = addG (grpF W ((pairL B).take i)) a b := by
        rw [List.take_add_one, hx]
        exact grpF_snoc _ _ _
      obtain ⟨G, hG⟩ : ∃ G, G = grpF W ((pairL B).take i) := ⟨_, rfl⟩
      rw [← hG] at g4 hsn
      have hGl : G.length = W := by
        have := (grp_ok W ((pairL B).take i) ⟨fun x hx => hsr.1 x (List.mem_of_mem_take hx), fun p q x y hpq h1 h2 => ?_⟩).len
        · rw [hG]; exact this
        · rw [List.getElem?_take] at h1 h2
          split at h1
          · split at h2
            · exact hsr.2 p q x y hpq h1 h2
            · cases h2
          · cases h1
      have hnext : ∀ (j : Nat) x, i + 1 ≤ j → (pairL B)[j]? = some x → a ≤ x.1 := fun j x hj hjx => (hsr.2 i j _ _ (by omega) hx hjx).1
      refine seqW (blockI ?_)
      refine seqI T_ok T_mix ?_
      refine And.intro (by omega) (X1 _ (bbRow_ix hi') ?_)
      rw [← hp]
      refine viaI (G := List (List PC)) (fun base => BaseOK base a G) (fun _ => [(7, .c (.ow 19 1 W)), (9, .c (iSl p)), (20, .c (bbSl B)), (21, .c (nI .i64 B.length)), (22, .c (nI .i64 i))])
        (fun base => [(19, .rowO 1 (base.set a [.ow 84 1 (G.getD a []).length]) [84]), (84, .row 1 (nRow .i64 (G.getD a [])))]) (fun key => ?_) (fun base hb' => ?_)
      · by_cases e : c = a
        · subst e
          exact weakI (key base g4) ⟨rfl, rfl, rfl, rfl, rfl, trivial⟩ ⟨rowOE' (by rw [hG]) rfl, rowE (by rw [hG]), trivial⟩
        · have hmv := g4.move (a := a) (by omega)
          have hga := (g4.gt a (by omega) (by omega)).1
          refine frzI [84] ?_
          refine rowCl (k := 19) (sz := 1) (els := base.set c [nSl .i64 (G.getD c [])]) (ids := [84]) (rowOE' (by rw [List.map_set, view_base g4.cl, hG]; rfl) rfl) hmv.cl ?_
          refine nilEl (r := 84) (k := 19) (sz := 1) (sz' := 1) (i := a) rfl (by omega) rfl (by rw [List.getElem?_set, if_neg (by omega)]; exact (g4.gt a (by omega) (by omega)).2) hmv.cl ?_
          exact weakI (key _ hmv) ⟨rfl, rfl, rfl, rfl, rfl, trivial⟩ ⟨rowOE' (by rw [hga]; rfl) rfl, rowE (by rw [hga]; rfl), trivial⟩
      · have hbl : a < base.length := by rw [hb'.len]; omega
        have hbc := hb'.cl
        have hgl : (G.getD a []).length ≤ 50000 := by
          have h1 : (cnts (grpF W ((pairL B).take i))).sum = ((pairL B).take i).length := (grp_ok W ((pairL B).take i) ⟨fun x hx => hsr.1 x (List.mem_of_mem_take hx), fun p q x y hpq h1 h2 => by
            rw [List.getElem?_take] at h1 h2
            split at h1
            · split at h2
              · exact hsr.2 p q x y hpq h1 h2
              · cases h2
            · cases h1⟩).tot
          rw [← hG, List.length_take] at h1
          have := grp_len_le (G := G) (g := a) (by omega)
          omega
        refine joinC (Ty.own_ok [1000001, 1000002] T_ok) T_mix ?_
        rw [hab]
        refine And.intro (by decide) (X1 _ rfl ?_)
        refine And.intro (by decide) (X1 _ rfl ?_)
        refine And.intro (by omega) (And.intro (by omega) (X1 _ (by rw [Int.toNat_natCast]; exact List.getElem?_set_self hbl) ?_))
        refine X1 [] (fun el' q he hm => nomD' hbc (by rwa [Int.toNat_natCast] at he) hm) ?_
        refine And.intro (by decide) (X1 _ rfl ?_)
        refine app_row rfl (by show (G.getD a []).length + 1 ≤ _; omega) c1_closed ?_
        refine And.intro (by omega) (And.intro (by omega) (X1 _ (by rw [Int.toNat_natCast]; exact List.getElem?_set_self (by rw [List.length_set]; exact hbl)) ?_))
        refine And.intro rfl ?_
        refine joinC T_ok T_mix ?_
        refine X1 ((i + 1 : Nat) : Int) (wI1 (by omega)) ?_
        have hself := addG_self (G := G) (c := a) (v := b) (by omega)
        refine ⟨(i + 1, a, base), ⟨by omega, by omega, hnext, by rw [hsn]; exact hb'.add (by omega) b⟩, by show B.length - (i + 1) < B.length - i; omega, ⟨rfl, rfl, rfl, rfl, trivial⟩, ⟨rowOE' ?_ rfl, rowE ?_, trivial⟩⟩
        · rw [hsn, hself, Int.toNat_natCast]
          refine setD'.trans (congrArg (fun k => base.set a [PC.ow 84 1 k]) ?_)
          rw [List.length_append, nRow_len, List.length_append]; rfl
        · rw [hsn, hself, ← nRow_app]; rfl
    · have e : i = B.length := by omega
      subst e
      have hG : grpF W ((pairL B).take B.length) = pairG W B := by rw [← hlv, List.take_length]; rfl
      rw [hG] at g4
      exact ⟨(0, c, base), ⟨g2, g4⟩, ⟨rfl, trivial⟩, ⟨rowOE' (by rw [hG]) rfl, rowE (by rw [hG]), trivial⟩⟩
  · obtain ⟨g2, g4⟩ := hg
    have hR := h.rowB hW2 hB
    have hGl : (pairG W B).length = W := h.grp.len
    refine frzI [84] ?_
    refine rowCl (k := 19) (sz := 1) (els := base.set c [nSl .i64 ((pairG W B).getD c [])]) (ids := [84]) (rowOE' (by rw [List.map_set, view_base g4.cl]; rfl) rfl) (set_closed g4.cl rfl) ?_
    refine rowLe (k := 19) (els' := ggRow (pairG W B)) rfl (by rw [ggRow_len, List.length_set, g4.len]) (g4.fin (by omega)) ?_
    refine joinC T_ok T_mix ?_
    refine X2 .frz ?_
    refine X1 _ (rwnew_ct (pairG W B) hR) ?_
    exact ⟨trivial, SubO.of (l := []) trivial, r1 rfl, r1 rfl, trivial⟩
theorem rwhereN_ct (G : List (List Nat)) (h : RowB G) (g v : Int) (hg : g < 0 ∨ (G.length : Int) ≤ g) : Ct P 63 [.c (rwV G), .c (eI .i64 g), .c (eI .i64 v)] [.c (eI .i64 (-1))] := by
  refine Ct.go T_ok T_mix (N := 38) Tryz.func63 rfl rfl rfl rfl ?_
  refine X1 _ (rspanN_ct G h g hg) ?_
  exact ⟨trivial, r1 rfl, trivial⟩
theorem where_cases {G : List (List Nat)} {a : Nat} {v : Int} (hr : Rise (G.getD a [])) (hw : ∀ x, x ∈ G.getD a [] → x < 65536) :
    (whereI G a v = ((loG G a + rankG G a v.toNat : Nat) : Int) ∧ rankG G a v.toNat < (G.getD a []).length ∧ 0 ≤ v ∧ v.toNat ∈ G.getD a []) ∨ (whereI G a v = -1 ∧ ¬ (0 ≤ v ∧ v.toNat ∈ G.getD a [])) := by
  unfold whereI
  split
  · rename_i h
    exact .inr ⟨rfl, fun ⟨h1, h2⟩ => by have := hw _ h2; omega⟩
  · rename_i h
    by_cases hm : v.toNat ∈ G.getD a []
    · obtain ⟨j, hj, hv⟩ : ∃ j, j < (G.getD a []).length ∧ (G.getD a []).getD j 0 = v.toNat := by
        obtain ⟨j, hj, hv⟩ := List.getElem_of_mem hm
        exact ⟨j, hj, by rw [List.getD_eq_getElem?_getD, List.getElem?_eq_getElem hj]; exact hv⟩
      have hb : rankG G a v.toNat = j := by unfold rankG; rw [← hv]; exact hr.below hj
      exact .inl ⟨by rw [hb]; exact whereG_hit hr hj hv, by omega, by omega, hm⟩
    · exact .inr ⟨whereG_miss hm, fun ⟨_, h2⟩ => hm h2⟩
theorem mrank_ct (G : List (List Nat)) (h : RowB G) (a b : Int) : Ct P 60 [.c (mpV G), .c (eI .i64 a), .c (eI .i64 b)] [.c (eI .i64 (rankI G a b))] := by
  have hs := h.s
  refine Ct.go T_ok T_mix (N := 33) Tryz.func60 rfl rfl rfl rfl ?_
  by_cases ha : a < 0 ∨ (G.length : Int) ≤ a
  · refine X1 _ (rwhereN_ct G h a b ha) ?_
    refine ⟨trivial, r1 (iE ?_), trivial⟩
    unfold rankI
    rw [if_neg]
    rintro ⟨h1, h2, h3⟩
    have : G.getD a.toNat [] = [] := by rw [List.getD_eq_getElem?_getD, List.getElem?_eq_none (by omega)]; rfl
    rw [this] at h3
    cases h3
  · obtain ⟨n, rfl⟩ : ∃ n : Nat, a = n := ⟨a.toNat, by omega⟩
    have hn : n < G.length := by omega
    have hl := grp_len_le hn
    refine X1 _ (rwhere_ct G h n b hn) ?_
    rcases where_cases (v := b) (h.r _ (getD_memG hn)) (h.w _ (getD_memG hn)) with ⟨e, h1, h2, h3⟩ | ⟨e, h1⟩
    · rw [e]
      refine X1 _ (rspan_ct G h n hn) ?_
      refine X1 ((rankG G n b.toNat : Nat) : Int) (wI (by omega) (by omega) (by omega)) ?_
      refine ⟨trivial, r1 (iE ?_), trivial⟩
      unfold rankI
      rw [if_pos ⟨by omega, h2, by rw [Int.toNat_natCast]; exact h3⟩, Int.toNat_natCast]
    · rw [e]
      refine ⟨trivial, r1 (iE ?_), trivial⟩
      unfold rankI
      rw [if_neg]
      rintro ⟨g1, g2, g3⟩
      rw [Int.toNat_natCast] at g3
      exact h1 ⟨g2, g3⟩
theorem nb_ct (g : List Int) : Ct P 149 [.c (iSl g)] [.c (.fn 172 [.rd [iSl g]])] := by
  refine Ct.go T_ok T_mix (N := 4) Tryz.func149 rfl rfl rfl rfl ?_
  refine X1 [.ad 1 0] rfl ?_
  exact ⟨trivial, r1 rfl, trivial⟩
def nbI (a b : Int) : List (List A1) := [[.c (eI .i64 a), .c (eI .i64 b)]]
theorem CtI.goI {P : Program} {N : Nx} {c : Code} {f : FuncId} {fn : Func} {args : List A1} {items : List (List A1)} (hf : P.funcs[f]? = some fn) (hb : fn.body = some c) (hn : (fn.name == "runtime.NumGoroutine") = false) (hN : fn.ntmps = N.n) (hl : Nat.ble (args.length + 1) N.n = true) (hr : fn.results.toList = [])
    (h : ∀ (v : Value) (I : Nat → St) (X : St), one v = true → Yields P v items I X → WI P N (envA 0 (.c (.cb v) :: args)) [(2000000, some (.abs (I 0)))] c (iterQ I X items.length)) (hfz : N.fz = [] := by rfl) : CtI P f args items :=
  CtIO.go hf hb hn hN hl hr (fun v I X hv hY => (h v I X hv hY).out.mono fun _ _ _ ⟨h1, h2⟩ => ⟨h1, h2, fun k o hk => by simp [Objs.get] at hk⟩) hfz
theorem nb1_ct (a b : Int) : CtI P 172 [.c (.rd [iSl [a, b]])] (nbI a b) := by
  refine CtI.goI (N := 22) Tryz.func172 rfl rfl rfl rfl rfl (fun v I X hv hY => ?_)
  refine seqI T_ok T_mix ?_
  refine loopI (fun i : Nat => i ≤ 1) (fun i => [(0, .c (.cb v)), (1, .c (.rd [iSl [a, b]])), (3, .c (nI .i64 (i + 1)))])
    (fun i => [(2000000, .abs (I i))]) (fun i => 1 - i) 0 (by omega) ⟨rfl, rfl, rfl, trivial⟩ ⟨rfl, trivial⟩ (fun i hi => ?_)
  have hi2 : i = 0 ∨ i = 1 := by omega
  have hle : (2 : Nat) ≤ 140737488355328 := by decide
  rcases hi2 with rfl | rfl
  · refine seqI T_ok T_mix ?_
    refine And.intro hle ?_
    refine seqW (blockI ?_)
    refine seqW (regC T_ok T_mix 10 rfl ?_)
    refine X1 ((0 : Nat) : Int) rfl ?_
    refine And.intro (by decide) (X1 _ rfl ?_)
    refine And.intro (by decide) (X1 _ rfl ?_)
    refine And.intro rfl ?_
    refine ⟨nbI a b, I, X, 0, hY, rfl, rfl, ?_, ?_⟩
    · refine joinC T_ok T_mix ?_
      refine joinC T_ok T_mix ?_
      refine X1 ((2 : Nat) : Int) rfl ?_
      exact ⟨1, by omega, by omega, ⟨rfl, rfl, rfl, trivial⟩, ⟨rfl, trivial⟩⟩
    · refine joinC T_ok T_mix ?_
      exact ⟨trivial, .inr rfl⟩
  · refine seqI T_ok T_mix ?_
    refine And.intro hle ?_
    exact ⟨trivial, .inl rfl⟩
theorem mfits_ct (G : List (List Nat)) (h : RowB G) (a b : Int) : Ct P 98 [.c (mpV G), .c (iSl [a, b])] [.c (.sc (.bool (decide (0 ≤ rankI G a b))))] := by
  refine Ct.go T_ok T_mix (N := 18) Tryz.func98 rfl rfl rfl rfl ?_
  refine X1 _ (nb_ct [a, b]) ?_
  refine rangeC T_ok T_mix (caps := [.rd [iSl [a, b]]]) (nb1_ct a b) Tryz.func172 rfl rfl rfl rfl (fun args ha => by
    obtain rfl := List.mem_singleton.1 ha
    exact ⟨rfl, rfl⟩) [2, 4] rfl (G := Unit) (fun i _ => i = 0 ∨ 0 ≤ rankI G a b) (fun _ _ => [(2, .c (.ad 2 0)), (4, .c (.ad 4 0))])
    (fun i _ => [(2, .var [mpV G]), (4, .var [.sc (.bool false)])]) () (.inl rfl) ⟨rfl, rfl, trivial⟩ ⟨rfl, rfl, trivial⟩ (fun _ _ => rfl) (fun i _ args hg hi => ?_) (fun _ hi => ?_)
  · cases i with
    | succ i => simp [nbI] at hg
    | zero =>
      cases hg
      refine X1 _ (mrank_ct G h a b) ?_
      refine dcase (fun h1 => ?_) (fun h1 => ?_)
      · exact ⟨[(2, .c (.ad 2 0)), (4, .c (.ad 4 0))], [(2, .var [mpV G]), (4, .var [.sc (.bool false)])], ⟨rfl, rfl, trivial⟩, ⟨rfl, rfl, trivial⟩, fun p hp => by simp at hp; rcases hp with rfl | rfl <;> rfl, trivial, rc (by rw [decide_eq_false (by omega)]; rfl), trivial⟩
      · exact ⟨(), .inr (by omega), ⟨rfl, rfl, trivial⟩, ⟨rfl, rfl, trivial⟩⟩
  · have : 0 ≤ rankI G a b := by
      rcases hi with hi | hi
      · simp [nbI] at hi
      · exact hi
    exact ⟨trivial, rc (by rw [decide_eq_true this]; rfl), trivial⟩
structure Rt (m : Md) : Prop where
  d : MdL m
  c : chkM m = 0
  n : ∀ l, l ∈ m.L → l.length ≤ 9000
theorem Rt.L {m : Md} (h : Rt m) : Levs m.words.length none 0 m.L := (chk_ok h.c).2.2
theorem Rt.k {m : Md} (h : Rt m) : 1 ≤ m.L.length ∧ m.L.length ≤ 8 := ⟨(chk_ok h.c).1.2.2.1, (chk_ok h.c).1.2.2.2⟩
theorem Rt.w {m : Md} (h : Rt m) : 3 ≤ m.words.length := by
  have := (chk_ok h.c).2.1
  unfold wrongV at this
  by_cases h1 : m.words.length < 3 ∨ m.words.take 3 ≠ marks15
  · rw [if_pos h1] at this; cases this
  · omega
theorem Rt.at' {m : Md} (h : Rt m) {k : Nat} (hk : k < m.L.length) : m.L[k].length ≤ 9000 := h.n _ (List.getElem_mem hk)
theorem gA_length (L : List (List En)) (k : Nat) : (gA L k).length = (L.getD k []).length := by unfold gA; simp
theorem getDL {L : List (List En)} {k : Nat} (hk : k < L.length) : L.getD k [] = L[k] := by rw [List.getD_eq_getElem?_getD, List.getElem?_eq_getElem hk]; rfl
theorem bbRow_app {B : List (List Int)} {x : List Int} : bbRow (B ++ [x]) = bbRow B ++ [[iSl x]] := by simp [bbRow]
theorem bbRow_closed {B : List (List Int)} : closedLL (bbRow B) := by
  intro el h
  obtain ⟨x, _, rfl⟩ := List.mem_map.1 h
  rfl
theorem pairsOf_ct (m : Md) (h : Rt m) : Ct P 55 [mdA m] [.c (prsV m.words.length m.L)] := by
  have hk := h.k
  have hw := h.w
  have hw9 := h.d.w
  refine Ct.go T_ok T_mix (N := 36) Tryz.func55 rfl rfl rfl rfl ?_
  refine And.intro (by rw [eeRow_len]; omega) ?_
  rw [eeRow_len]
  refine dcase (fun h1 => ?_) (fun h1 => ?_)
  · exact ⟨trivial, r1 (by unfold prsV; rw [if_pos (by omega)]; rfl), trivial⟩
  have h1l : 1 < m.L.length := by omega
  have hn := h.at' h1l
  have hg : gA m.L 1 = grm m.L[1] := gA_at h1l
  have hgl : (gA m.L 1).length = m.L[1].length := by rw [hg]; simp
  have hget := eeRow_get (L := m.L) (i := 1) (n := 1) rfl h1l
  refine And.intro (by omega) (X1 _ hget ?_)
  refine And.intro (by rw [eRow_len]; omega) ?_
  rw [eRow_len]
  have hnew := rmnew_ct m.words.length (gA m.L 1) (pair_ok h.L h1l) (by omega) (by omega) (by omega)
  refine nilC (r := 60) (t := 3) (sz := 1) rfl rfl ?_
  refine loopJ T_ok T_mix (fun i : Nat => i ≤ m.L[1].length) (fun i => [(1, .c (.ad 1 0)), (3, .c (.ow 60 1 i)), (15, .c (eSl m.L[1])), (16, .c (nI .i64 m.L[1].length)), (17, .c (nI .i64 i))]) (fun i => [(1, .var [eI .i64 m.frac, sSl m.words, eeSl m.L]), (60, .row 1 (bbRow ((gA m.L 1).take i)))]) (fun i => m.L[1].length - i)
    0 (by omega) ⟨rfl, rfl, rfl, rfl, rfl, trivial⟩ ⟨rfl, rfl, trivial⟩ (fun _ : Unit => True) (fun _ => [(1, .c (.ad 1 0)), (3, .c (.ow 60 1 m.L[1].length))]) (fun _ => [(1, .var [eI .i64 m.frac, sSl m.words, eeSl m.L]), (60, .row 1 (bbRow (gA m.L 1)))]) (fun i hi => ?_) (fun _ _ => ?_)
  · refine dcase (fun h2 => ?_) (fun h2 => ?_)
    · have hi' : i < m.L[1].length := by omega
      have e0 : (bbRow ((gA m.L 1).take i)).length = i := by rw [bbRow_len, List.length_take]; omega
      have e1 : (gA m.L 1).take (i + 1) = (gA m.L 1).take i ++ [m.L[1][i].1] := by
        rw [List.take_succ_eq_append_getElem (by omega)]
        congr 2
        simp only [hg, List.getElem_map]
      refine And.intro (by omega) (X1 _ (eRow_get rfl hi') ?_)
      refine ⟨e0.symm, by rw [e0]; show (i + 1 + 768) * 24 ≤ _; omega, by rw [e0]; show i + 1 ≤ _; omega, bbRow_closed, one_closed rfl, ?_⟩
      refine X1 ((i + 1 : Nat) : Int) (wI1 (by omega)) ?_
      exact ⟨i + 1, by omega, by omega, ⟨rfl, owE (by rw [List.length_append, e0]; rfl), rfl, rfl, rfl, trivial⟩, ⟨rfl, rowE (by rw [e1, bbRow_app]; rfl), trivial⟩⟩
    · have e : i = m.L[1].length := by omega
      subst e
      exact ⟨(), trivial, ⟨rfl, rfl, trivial⟩, ⟨rfl, rowE (by rw [← hgl, List.take_length]), trivial⟩⟩
  · refine And.intro (by rw [sRow_len]; omega) ?_
    rw [sRow_len]
    refine X2 .frz ?_
    refine X1 _ hnew ?_
    exact ⟨trivial, r1 (by unfold prsV; rw [if_neg (by omega)]; rfl), trivial⟩
theorem rank_mem {W : Nat} {B : List (List Int)} (h : PairOK W B) (a b : Int) : decide (0 ≤ rankI (pairG W B) a b) = B.contains [a, b] := by
  unfold rankI
  by_cases hab : 0 ≤ a ∧ 0 ≤ b
  · by_cases hm : [a, b] ∈ B
    · rw [if_pos ⟨hab.1, hab.2, (h.mem hab.1 hab.2).2 hm⟩, decide_eq_true (by omega)]; simp [hm]
    · rw [if_neg (fun hh => hm ((h.mem hab.1 hab.2).1 hh.2.2)), decide_eq_false (by omega)]; simp [hm]
  · have hm : ¬ [a, b] ∈ B := fun hh => hab ⟨(h.w _ hh a (by simp)).1, (h.w _ hh b (by simp)).1⟩
    rw [if_neg (fun hh => hab ⟨hh.1, hh.2.1⟩), decide_eq_false (by omega)]; simp [hm]
theorem last_two {g : List Int} {k : Nat} (hl : g.length = k + 1) (hk : 1 ≤ k) : g.drop (k - 1) = [g.getD (k - 1) 0, g.getD k 0] := by
  rw [drop_getD (by omega), show k - 1 + 1 = k by omega, drop_getD (by omega), List.drop_eq_nil_of_le (by omega)]
theorem mapd_not {L : List (List En)} {k : Nat} {x : List Int} (hx : x ∈ gA L k) (h : (gA L 1).contains [x.getD (k - 1) 0, x.getD k 0] = false) : mapd L k = false := by
  unfold mapd
  have : ((gA L k).all fun x => (gA L 1).contains [x.getD (k - 1) 0, x.getD k 0]) = false := by
    rw [List.all_eq_false]
    exact ⟨x, hx, by rw [h]; simp⟩
  rw [this, Bool.and_false]
theorem fits_ct (m : Md) (h : Rt m) {k : Nat} (hk : k < m.L.length) (h2 : 2 ≤ k) : Ct P 59 [.c (eSl m.L[k]), .c (mpV (pairG m.words.length (gA m.L 1)))] [.c (.sc (.bool (mapd m.L k)))] := by
  have hk8 := h.k
  have hn := h.at' hk
  have hw9 := h.d.w
  have h1l : 1 < m.L.length := by omega
  have hpo := pair_ok h.L h1l
  have hgl : (gA m.L 1).length ≤ 50000 := by rw [gA_length, getDL h1l]; have := h.at' h1l; omega
  have hR := hpo.rowB (show m.words.length ≤ 10000 by omega) hgl
  have hmem : ∀ (i : Nat) (hi : i < m.L[k].length), m.L[k][i].1 ∈ gA m.L k := fun i hi => by
    rw [gA_at hk]; exact List.mem_map.2 ⟨_, List.getElem_mem hi, rfl⟩
  refine Ct.go T_ok T_mix (N := 24) Tryz.func59 rfl rfl rfl rfl ?_
  refine And.intro (by rw [eRow_len]; omega) ?_
  rw [eRow_len]
  refine loopB T_ok T_mix (fun i : Nat => i ≤ m.L[k].length ∧ ∀ (j : Nat) (hj : j < m.L[k].length), j < i → (gA m.L 1).contains [m.L[k][j].1.getD (k - 1) 0, m.L[k][j].1.getD k 0] = true)
    (fun i => [(1, .c (mpV (pairG m.words.length (gA m.L 1)))), (7, .c (eSl m.L[k])), (8, .c (nI .i64 m.L[k].length)), (9, .c (nI .i64 i))]) (fun _ => []) (fun i => m.L[k].length - i)
    0 ⟨by omega, fun j hj hh => by omega⟩ ⟨rfl, rfl, rfl, rfl, trivial⟩ trivial (fun i hi => ?_)
  obtain ⟨i1, i2⟩ := hi
  refine dcase (fun h3 => ?_) (fun h3 => ?_)
  · have hi' : i < m.L[k].length := by omega
    have hlen := gA_len h.L hk (hmem i hi')
    have hf := mfits_ct _ hR (m.L[k][i].1.getD (k - 1) 0) (m.L[k][i].1.getD k 0)
    rw [← last_two hlen (by omega), rank_mem hpo, show iSl (m.L[k][i].1.drop (k - 1)) = .sl 1 (((iRow m.L[k][i].1).drop (k - 1)).take (m.L[k][i].1.length - (k - 1))) by rw [iRow_drop]] at hf
    refine And.intro (by omega) (X1 _ (eRow_get rfl hi') ?_)
    refine And.intro (by rw [iRow_len]; omega) ?_
    rw [iRow_len]
    refine X1 ((k - 1 : Nat) : Int) (wI (by omega) (by omega) (by omega)) ?_
    refine ⟨k - 1, m.L[k][i].1.length, rfl, by rw [iRow_len]; rfl, by omega, by rw [iRow_len]; omega, ?_⟩
    refine X1 _ hf ?_
    refine bcase (fun h4 => ?_) (fun h4 => ?_)
    · exact ⟨trivial, r1 (blE (mapd_not (hmem i hi') (by simpa using h4)).symm), trivial⟩
    · refine X1 ((i + 1 : Nat) : Int) (wI1 (by omega)) ?_
      refine ⟨i + 1, ⟨by omega, fun j hj hji => ?_⟩, by omega, ⟨rfl, rfl, rfl, rfl, trivial⟩, trivial⟩
      by_cases ej : j = i
      · subst ej; simpa using h4
      · exact i2 j hj (by omega)
  · have hall : mapd m.L k = true := by
      unfold mapd
      rw [Bool.and_eq_true, decide_eq_true_eq, List.all_eq_true]
      refine ⟨h2, fun x hx => ?_⟩
      rw [gA_at hk] at hx
      obtain ⟨y, hy, rfl⟩ := List.mem_map.1 hx
      obtain ⟨j, hj, rfl⟩ := List.mem_iff_getElem.1 hy
      exact i2 j hj (by omega)
    refine joinC T_ok T_mix ?_
    exact ⟨trivial, r1 (blE hall.symm), trivial⟩
structure GrIn (la l : List En) (k : Nat) (num : List Int → Nat) : Prop where
  ok : LevOK (grm la) k num (grm l)
  k : 1 ≤ k ∧ k ≤ 1000
  na : la.length ≤ 50000
  ga : ∀ x, x ∈ la → x.1.length ≤ 1000000
  nl : l.length ≤ 50000
theorem grm_at {l : List En} {i : Nat} (hi : i < l.length) : l[i].1 ∈ grm l := List.mem_map.2 ⟨_, List.getElem_mem hi, rfl⟩
set_option maxHeartbeats 2000000 in
theorem groups1_ct (la l : List En) (k : Nat) (num : List Int → Nat) (h : GrIn la l k num) (hp : 0 < la.length) {f : Nat}
    (hnum : ∀ x, x ∈ grm l → Ct P (fnF f) (fnA f [.c (eI .i64 (x.getD (k - 1) 0)), .c (eI .i64 (x.getD k 0))] (([] : List PC).map .c)) [.c (nI .i64 (num x))]) :
    Ct P 62 [.c (eSl la), .c (eSl l), .c (.fn f [])] [.c (ggSl (levG (grm la) k num (grm l)))] := by
  obtain ⟨hok, ⟨hk1, hk2⟩, hna, hga, hnl⟩ := h
  have hsr := hok.srt
  obtain ⟨W, hW⟩ : ∃ W, W = la.length := ⟨_, rfl⟩
  have hgl : (grm la).length = W := by rw [hW]; simp
  have hll : (grm l).length = l.length := by simp
  obtain ⟨lv, hlv⟩ : ∃ lv, lv = lvOf (grm la) k num (grm l) := ⟨_, rfl⟩
  have hlvl : lv.length = l.length := by rw [hlv]; simp [lvOf]
  rw [← hlv, hgl] at hsr
  have hgrp : ∀ i, GrpOK W (lv.take i) (grpF W (lv.take i)) := fun i => grp_ok W (lv.take i) ⟨fun x hx => hsr.1 x (List.mem_of_mem_take hx), fun p q x y hpq h1 h2 => by
    rw [List.getElem?_take] at h1 h2
    split at h1
    · split at h2
      · exact hsr.2 p q x y hpq h1 h2
      · cases h2
    · cases h1⟩
  have hG0 : grpF W (lv.take 0) = List.replicate W [] := rfl
  have hend : grpF W (lv.take l.length) = levG (grm la) k num (grm l) := by rw [← hlvl, List.take_length, hlv]; unfold levG; rw [hgl]
  refine Ct.keepI T_ok [14] (N := 62) Tryz.func62 rfl rfl rfl rfl ?_
  refine seqI T_ok T_mix ?_
  refine seqI T_ok T_mix ?_
  refine And.intro (by rw [eRow_len]; omega) ?_
  rw [eRow_len, ← hW]
  refine And.intro (by omega) (And.intro (by omega) (And.intro (by omega) (And.intro ?_ ?_)))
  · exact .inr (by show (W : Int) * 24 ≤ _; omega)
  refine nilEl (r := 84) (k := 14) (sz := 1) (sz' := 1) (i := 0) (els := List.replicate W nlE) rfl (by omega) (by rw [Int.toNat_natCast]; rfl) (by rw [List.getElem?_replicate, if_pos (by omega)]) (BaseOK.init W).cl ?_
  refine seqI T_ok T_mix ?_
  refine seqW ?_
  refine cutI T_ok T_mix (G2 := Unit) (fun _ => True) (fun _ => [(0, .c (eSl la)), (2, .c (.fn f [])), (7, .c (.ow 14 1 W)), (8, .c (nI .i64 0)), (15, .c (eSl l)), (16, .c (nI .i64 l.length)), (17, .c (nI .i64 0))])
    (fun _ => [(14, .rowO 1 ((List.replicate W nlE).set 0 [.ow 84 1 0]) [84]), (84, .row 1 (nRow .i64 []))]) ?_ (fun _ _ => ?_)
  · refine And.intro (by rw [eRow_len]; omega) ?_
    rw [eRow_len]
    exact ⟨(), trivial, ⟨rfl, rfl, by rw [Int.toNat_natCast]; rfl, rfl, rfl, rfl, rfl, trivial⟩, ⟨rfl, rfl, trivial⟩⟩
  refine loopJI (G := Nat × Nat × List (List PC)) (fun (i, c, base) => i ≤ l.length ∧ c < W ∧ (∀ (j : Nat) x, i ≤ j → lv[j]? = some x → c ≤ x.1) ∧ BaseOK base c (grpF W (lv.take i)))
    (fun (i, c, base) => [(0, .c (eSl la)), (2, .c (.fn f [])), (7, .c (.ow 14 1 W)), (8, .c (nI .i64 c)), (15, .c (eSl l)), (16, .c (nI .i64 l.length)), (17, .c (nI .i64 i))])
    (fun (i, c, base) => [(14, .rowO 1 (base.set c [.ow 84 1 ((grpF W (lv.take i)).getD c []).length]) [84]), (84, .row 1 (nRow .i64 ((grpF W (lv.take i)).getD c [])))]) (fun (i, c, base) => l.length - i)
    (0, 0, List.replicate W nlE) ⟨by omega, by omega, fun _ _ _ _ => Nat.zero_le _, BaseOK.init W⟩ ⟨rfl, rfl, rfl, rfl, rfl, rfl, rfl, trivial⟩ ⟨rowOE' (by rw [hG0, rep_nil]; rfl) rfl, rowE (by rw [hG0, rep_nil]), trivial⟩
    (fun (_, c, base) => c < W ∧ BaseOK base c (levG (grm la) k num (grm l))) (fun _ => [(7, .c (.ow 14 1 W))])
    (fun ((_, c, base) : Nat × Nat × List (List PC)) => [(14, .rowO 1 (base.set c [.ow 84 1 ((levG (grm la) k num (grm l)).getD c []).length]) [84]), (84, .row 1 (nRow .i64 ((levG (grm la) k num (grm l)).getD c [])))]) (fun (i, c, base) hg => ?_) (fun (_, c, base) hg => ?_)
  · obtain ⟨g1, g2, g3, g4⟩ := hg
    refine seqI T_ok T_mix ?_
    refine seqI T_ok T_mix ?_
    refine dcase (fun h5 => ?_) (fun h5 => ?_)
    · have hi' : i < l.length := by omega
      obtain ⟨g, hge⟩ : ∃ g, g = l[i].1 := ⟨_, rfl⟩
      have hgm : g ∈ grm l := by rw [hge]; exact grm_at hi'
      have hglen := hok.len g hgm
      have hpre := hok.pre g hgm
      obtain ⟨a, ha⟩ : ∃ a, a = (grm la).idxOf (g.take k) := ⟨_, rfl⟩
      have haW : a < W := by rw [ha, ← hgl]; exact idx_lt hpre
      have hx : lv[i]? = some (a, num g) := by
        rw [hlv]
        unfold lvOf
        rw [List.getElem?_map, List.getElem?_map, List.getElem?_eq_getElem hi', ha, hge]; rfl
      have hca := g3 i _ (Nat.le_refl _) hx
      have hsn : grpF W (lv.take (i + 1)) = addG (grpF W (lv.take i)) a (num g) := by
        rw [List.take_add_one, hx]
        exact grpF_snoc _ _ _
      have hgi := hgrp i
      obtain ⟨G, hG⟩ : ∃ G, G = grpF W (lv.take i) := ⟨_, rfl⟩
      rw [← hG] at g4 hsn hgi
      have hGl : G.length = W := hgi.len
      have hnext : ∀ (j : Nat) x, i + 1 ≤ j → lv[j]? = some x → a ≤ x.1 := fun j x hj hjx => (hsr.2 i j _ _ (by omega) hx hjx).1
      have hap : (grm la)[a]? = some (g.take k) := by rw [ha]; exact idx_get hpre
      refine seqW (blockI ?_)
      refine seqI T_ok T_mix ?_
      refine And.intro (by omega) (X1 _ (eRow_get rfl hi') ?_)
      rw [← hge]
      refine seqI T_ok T_mix ?_
      refine And.intro (by rw [iRow_len]; omega) ?_
      rw [iRow_len]
      refine X1 ((k : Nat) : Int) (wI (by omega) (by omega) (by omega)) ?_
      refine seqW ?_
      refine loopJI (G := Nat) (fun j => c ≤ j ∧ j ≤ a) (fun j => [(0, .c (eSl la)), (2, .c (.fn f [])), (7, .c (.ow 14 1 W)), (8, .c (nI .i64 j)), (10, .c (.ad 10 0)), (11, .c (nI .i64 k)), (15, .c (eSl l)), (16, .c (nI .i64 l.length)), (17, .c (nI .i64 i))])
        (fun _ => [(10, .var [iSl g, eI .i64 l[i].2.1, eI .i64 l[i].2.2]), (14, .rowO 1 (base.set c [.ow 84 1 (G.getD c []).length]) [84]), (84, .row 1 (nRow .i64 (G.getD c [])))]) (fun j => a - j)
        c ⟨Nat.le_refl _, hca⟩ ⟨rfl, rfl, rfl, rfl, rfl, rfl, rfl, rfl, rfl, trivial⟩ ⟨rfl, rowOE' (by rw [hG]) rfl, rowE (by rw [hG]), trivial⟩
        (fun _ : Unit => True) (fun _ => [(0, .c (eSl la)), (2, .c (.fn f [])), (7, .c (.ow 14 1 W)), (8, .c (nI .i64 a)), (10, .c (.ad 10 0)), (11, .c (nI .i64 k)), (15, .c (eSl l)), (16, .c (nI .i64 l.length)), (17, .c (nI .i64 i))])
        (fun _ => [(10, .var [iSl g, eI .i64 l[i].2.1, eI .i64 l[i].2.2]), (14, .rowO 1 (base.set c [.ow 84 1 (G.getD c []).length]) [84]), (84, .row 1 (nRow .i64 (G.getD c [])))]) (fun j hj => ?_) (fun _ _ => ?_)
      · obtain ⟨j1, j2⟩ := hj
        have hjl : j < la.length := by omega
        have hjp : la[j].1.length ≤ 1000000 := hga _ (List.getElem_mem hjl)
        have heq := equal_ct la[j].1 (g.take k) hjp (by rw [List.length_take]; omega)
        rw [show iSl (g.take k) = .sl 1 (((iRow g).drop 0).take (k - 0)) by rw [iRow_take]] at heq
        have hjg : (grm la)[j]? = some la[j].1 := by rw [List.getElem?_map, List.getElem?_eq_getElem hjl]; rfl
        refine codeI T_ok T_mix ?_
        refine And.intro (by omega) (X1 _ (eRow_get rfl hjl) ?_)
        refine ⟨0, k, rfl, rfl, by omega, by rw [iRow_len]; omega, ?_⟩
        refine X1 _ heq ?_
        refine And.intro rfl ?_
        refine bcase (fun h6 => ?_) (fun h6 => ?_)
        · have hne : ¬ la[j].1 = g.take k := by simpa using h6
          have hja : j ≠ a := fun e => hne (by subst e; rw [hjg] at hap; exact Option.some.inj hap)
          refine X1 ((j + 1 : Nat) : Int) (wI (by simp) (by omega) (by omega)) ?_
          exact ⟨j + 1, ⟨by omega, by omega⟩, by omega, ⟨rfl, rfl, rfl, rfl, rfl, rfl, rfl, rfl, rfl, trivial⟩, ⟨rfl, rfl, rfl, trivial⟩⟩
        · have he : la[j].1 = g.take k := by simpa using h6
          have hja : j = a := rise_uniq hok.a (by rw [hjg, he]) hap
          subst hja
          exact ⟨(), trivial, ⟨rfl, rfl, rfl, rfl, rfl, rfl, rfl, rfl, rfl, trivial⟩, ⟨rfl, rfl, rfl, trivial⟩⟩
      refine viaI (G := List (List PC)) (fun base => BaseOK base a G) (fun _ => [(0, .c (eSl la)), (2, .c (.fn f [])), (7, .c (.ow 14 1 W)), (8, .c (nI .i64 a)), (10, .c (.ad 10 0)), (11, .c (nI .i64 k)), (15, .c (eSl l)), (16, .c (nI .i64 l.length)), (17, .c (nI .i64 i))])
        (fun base => [(10, .var [iSl g, eI .i64 l[i].2.1, eI .i64 l[i].2.2]), (14, .rowO 1 (base.set a [.ow 84 1 (G.getD a []).length]) [84]), (84, .row 1 (nRow .i64 (G.getD a [])))]) (fun key => ?_) (fun base hb' => ?_)
      · by_cases e : c = a
        · subst e
          exact weakI (key base g4) ⟨rfl, rfl, rfl, rfl, rfl, rfl, rfl, rfl, rfl, trivial⟩ ⟨rfl, rfl, rfl, trivial⟩
        · have hmv := g4.move (a := a) (by omega)
          have hga := (g4.gt a (by omega) (by omega)).1
          refine frzI [84] ?_
          refine rowCl (k := 14) (sz := 1) (els := base.set c [nSl .i64 (G.getD c [])]) (ids := [84]) (rowOE' (by rw [List.map_set, view_base g4.cl]; rfl) rfl) hmv.cl ?_
          refine nilEl (r := 84) (k := 14) (sz := 1) (sz' := 1) (i := a) rfl (by omega) rfl (by rw [List.getElem?_set, if_neg (by omega)]; exact (g4.gt a (by omega) (by omega)).2) hmv.cl ?_
          exact weakI (key _ hmv) ⟨rfl, rfl, rfl, rfl, rfl, rfl, rfl, rfl, rfl, trivial⟩ ⟨rfl, rowOE' (by rw [hga]; rfl) rfl, rowE (by rw [hga]; rfl), trivial⟩
      · have hbl : a < base.length := by rw [hb'.len]; omega
        have hbc := hb'.cl
        have hgl2 : (G.getD a []).length ≤ 50000 := by
          have h1 := hgi.tot
          rw [List.length_take] at h1
          have := grp_len_le (G := G) (g := a) (by omega)
          omega
        refine joinC (Ty.own_ok [1000001, 1000002] T_ok) T_mix ?_
        refine And.intro (by omega) (And.intro (by omega) (X1 _ (by rw [Int.toNat_natCast]; exact List.getElem?_set_self hbl) ?_))
        refine X1 [] (fun el' q he hm => nomD' hbc (by rwa [Int.toNat_natCast] at he) hm) ?_
        refine X1 ((k - 1 : Nat) : Int) (wI (by omega) (by omega) (by omega)) ?_
        refine And.intro (by omega) (X1 _ (iRow_getN rfl (by omega)) ?_)
        refine And.intro (by omega) (X1 _ (iRow_getN rfl (by omega)) ?_)
        refine X1 _ (hnum g hgm) ?_
        refine app_row rfl (by show (G.getD a []).length + 1 ≤ _; omega) c1_closed ?_
        refine And.intro (by omega) (And.intro (by omega) (X1 _ (by rw [Int.toNat_natCast]; exact List.getElem?_set_self (by rw [List.length_set]; exact hbl)) ?_))
        refine And.intro rfl ?_
        refine joinC T_ok T_mix ?_
        refine X1 ((i + 1 : Nat) : Int) (wI1 (by omega)) ?_
        have hself := addG_self (G := G) (c := a) (v := num g) (by omega)
        refine ⟨(i + 1, a, base), ⟨by omega, by omega, hnext, by rw [hsn]; exact hb'.add (by omega) (num g)⟩, by show l.length - (i + 1) < l.length - i; omega, ⟨rfl, rfl, rfl, rfl, rfl, rfl, rfl, trivial⟩, ⟨rowOE' ?_ rfl, rowE ?_, trivial⟩⟩
        · rw [hsn, hself, Int.toNat_natCast]
          refine setD'.trans (congrArg (fun k => base.set a [PC.ow 84 1 k]) ?_)
          rw [List.length_append, nRow_len, List.length_append]; rfl
        · rw [hsn, hself, ← nRow_app]; rfl
    · have e : i = l.length := by omega
      subst e
      rw [hend] at g4
      exact ⟨(0, c, base), ⟨g2, g4⟩, ⟨rfl, trivial⟩, ⟨rowOE' (by rw [hend]) rfl, rowE (by rw [hend]), trivial⟩⟩
  · obtain ⟨g2, g4⟩ := hg
    have hGl : (levG (grm la) k num (grm l)).length = W := by rw [← hend]; exact (hgrp _).len
    refine frzI [84] ?_
    refine rowCl (k := 14) (sz := 1) (els := base.set c [nSl .i64 ((levG (grm la) k num (grm l)).getD c [])]) (ids := [84]) (rowOE' (by rw [List.map_set, view_base g4.cl]; rfl) rfl) (set_closed g4.cl rfl) ?_
    refine rowLe (k := 14) (els' := ggRow (levG (grm la) k num (grm l))) rfl (by rw [ggRow_len, List.length_set, g4.len]) (g4.fin (by omega)) ?_
    refine joinC T_ok T_mix ?_
    exact ⟨trivial, SubO.of (l := []) trivial, r1 rfl, trivial⟩
set_option maxHeartbeats 2000000 in
theorem groupsM_ct (la l : List En) (k : Nat) (num : List Int → Nat) (h : GrIn la l k num) (hp : 0 < la.length) {f : Nat} {cs : List PC}
    (hnum : ∀ x, x ∈ grm l → Ct P (fnF f) (fnA f [.c (eI .i64 (x.getD (k - 1) 0)), .c (eI .i64 (x.getD k 0))] (([.rd cs] : List PC).map .c)) [.c (nI .i64 (num x))]) :
    Ct P 62 [.c (eSl la), .c (eSl l), .c (.fn f [.rd cs])] [.c (ggSl (levG (grm la) k num (grm l)))] := by
  obtain ⟨hok, ⟨hk1, hk2⟩, hna, hga, hnl⟩ := h
  have hsr := hok.srt
  obtain ⟨W, hW⟩ : ∃ W, W = la.length := ⟨_, rfl⟩
  have hgl : (grm la).length = W := by rw [hW]; simp
  have hll : (grm l).length = l.length := by simp
  obtain ⟨lv, hlv⟩ : ∃ lv, lv = lvOf (grm la) k num (grm l) := ⟨_, rfl⟩
  have hlvl : lv.length = l.length := by rw [hlv]; simp [lvOf]
  rw [← hlv, hgl] at hsr
  have hgrp : ∀ i, GrpOK W (lv.take i) (grpF W (lv.take i)) := fun i => grp_ok W (lv.take i) ⟨fun x hx => hsr.1 x (List.mem_of_mem_take hx), fun p q x y hpq h1 h2 => by
    rw [List.getElem?_take] at h1 h2
    split at h1
    · split at h2
      · exact hsr.2 p q x y hpq h1 h2
      · cases h2
    · cases h1⟩
  have hG0 : grpF W (lv.take 0) = List.replicate W [] := rfl
  have hend : grpF W (lv.take l.length) = levG (grm la) k num (grm l) := by rw [← hlvl, List.take_length, hlv]; unfold levG; rw [hgl]
  refine Ct.keepI T_ok [14] (N := 62) Tryz.func62 rfl rfl rfl rfl ?_
  refine seqI T_ok T_mix ?_
  refine seqI T_ok T_mix ?_
  refine And.intro (by rw [eRow_len]; omega) ?_
  rw [eRow_len, ← hW]
  refine And.intro (by omega) (And.intro (by omega) (And.intro (by omega) (And.intro ?_ ?_)))
  · exact .inr (by show (W : Int) * 24 ≤ _; omega)
  refine nilEl (r := 84) (k := 14) (sz := 1) (sz' := 1) (i := 0) (els := List.replicate W nlE) rfl (by omega) (by rw [Int.toNat_natCast]; rfl) (by rw [List.getElem?_replicate, if_pos (by omega)]) (BaseOK.init W).cl ?_
  refine seqI T_ok T_mix ?_
  refine seqW ?_
  refine cutI T_ok T_mix (G2 := Unit) (fun _ => True) (fun _ => [(0, .c (eSl la)), (2, .c (.fn f [.rd cs])), (7, .c (.ow 14 1 W)), (8, .c (nI .i64 0)), (15, .c (eSl l)), (16, .c (nI .i64 l.length)), (17, .c (nI .i64 0))])
    (fun _ => [(14, .rowO 1 ((List.replicate W nlE).set 0 [.ow 84 1 0]) [84]), (84, .row 1 (nRow .i64 []))]) ?_ (fun _ _ => ?_)
  · refine And.intro (by rw [eRow_len]; omega) ?_
    rw [eRow_len]
    exact ⟨(), trivial, ⟨rfl, rfl, by rw [Int.toNat_natCast]; rfl, rfl, rfl, rfl, rfl, trivial⟩, ⟨rfl, rfl, trivial⟩⟩
  refine loopJI (G := Nat × Nat × List (List PC)) (fun (i, c, base) => i ≤ l.length ∧ c < W ∧ (∀ (j : Nat) x, i ≤ j → lv[j]? = some x → c ≤ x.1) ∧ BaseOK base c (grpF W (lv.take i)))
    (fun (i, c, base) => [(0, .c (eSl la)), (2, .c (.fn f [.rd cs])), (7, .c (.ow 14 1 W)), (8, .c (nI .i64 c)), (15, .c (eSl l)), (16, .c (nI .i64 l.length)), (17, .c (nI .i64 i))])
    (fun (i, c, base) => [(14, .rowO 1 (base.set c [.ow 84 1 ((grpF W (lv.take i)).getD c []).length]) [84]), (84, .row 1 (nRow .i64 ((grpF W (lv.take i)).getD c [])))]) (fun (i, c, base) => l.length - i)
    (0, 0, List.replicate W nlE) ⟨by omega, by omega, fun _ _ _ _ => Nat.zero_le _, BaseOK.init W⟩ ⟨rfl, rfl, rfl, rfl, rfl, rfl, rfl, trivial⟩ ⟨rowOE' (by rw [hG0, rep_nil]; rfl) rfl, rowE (by rw [hG0, rep_nil]), trivial⟩
    (fun (_, c, base) => c < W ∧ BaseOK base c (levG (grm la) k num (grm l))) (fun _ => [(7, .c (.ow 14 1 W))])
    (fun ((_, c, base) : Nat × Nat × List (List PC)) => [(14, .rowO 1 (base.set c [.ow 84 1 ((levG (grm la) k num (grm l)).getD c []).length]) [84]), (84, .row 1 (nRow .i64 ((levG (grm la) k num (grm l)).getD c [])))]) (fun (i, c, base) hg => ?_) (fun (_, c, base) hg => ?_)
  · obtain ⟨g1, g2, g3, g4⟩ := hg
    refine seqI T_ok T_mix ?_
    refine seqI T_ok T_mix ?_
    refine dcase (fun h5 => ?_) (fun h5 => ?_)
    · have hi' : i < l.length := by omega
      obtain ⟨g, hge⟩ : ∃ g, g = l[i].1 := ⟨_, rfl⟩
      have hgm : g ∈ grm l := by rw [hge]; exact grm_at hi'
      have hglen := hok.len g hgm
      have hpre := hok.pre g hgm
      obtain ⟨a, ha⟩ : ∃ a, a = (grm la).idxOf (g.take k) := ⟨_, rfl⟩
      have haW : a < W := by rw [ha, ← hgl]; exact idx_lt hpre
      have hx : lv[i]? = some (a, num g) := by
        rw [hlv]
        unfold lvOf
        rw [List.getElem?_map, List.getElem?_map, List.getElem?_eq_getElem hi', ha, hge]; rfl
      have hca := g3 i _ (Nat.le_refl _) hx
      have hsn : grpF W (lv.take (i + 1)) = addG (grpF W (lv.take i)) a (num g) := by
        rw [List.take_add_one, hx]
        exact grpF_snoc _ _ _
      have hgi := hgrp i
      obtain ⟨G, hG⟩ : ∃ G, G = grpF W (lv.take i) := ⟨_, rfl⟩
      rw [← hG] at g4 hsn hgi
      have hGl : G.length = W := hgi.len
      have hnext : ∀ (j : Nat) x, i + 1 ≤ j → lv[j]? = some x → a ≤ x.1 := fun j x hj hjx => (hsr.2 i j _ _ (by omega) hx hjx).1
      have hap : (grm la)[a]? = some (g.take k) := by rw [ha]; exact idx_get hpre
      refine seqW (blockI ?_)
      refine seqI T_ok T_mix ?_
      refine And.intro (by omega) (X1 _ (eRow_get rfl hi') ?_)
      rw [← hge]
      refine seqI T_ok T_mix ?_
      refine And.intro (by rw [iRow_len]; omega) ?_
      rw [iRow_len]
      refine X1 ((k : Nat) : Int) (wI (by omega) (by omega) (by omega)) ?_
      refine seqW ?_
      refine loopJI (G := Nat) (fun j => c ≤ j ∧ j ≤ a) (fun j => [(0, .c (eSl la)), (2, .c (.fn f [.rd cs])), (7, .c (.ow 14 1 W)), (8, .c (nI .i64 j)), (10, .c (.ad 10 0)), (11, .c (nI .i64 k)), (15, .c (eSl l)), (16, .c (nI .i64 l.length)), (17, .c (nI .i64 i))])
        (fun _ => [(10, .var [iSl g, eI .i64 l[i].2.1, eI .i64 l[i].2.2]), (14, .rowO 1 (base.set c [.ow 84 1 (G.getD c []).length]) [84]), (84, .row 1 (nRow .i64 (G.getD c [])))]) (fun j => a - j)
        c ⟨Nat.le_refl _, hca⟩ ⟨rfl, rfl, rfl, rfl, rfl, rfl, rfl, rfl, rfl, trivial⟩ ⟨rfl, rowOE' (by rw [hG]) rfl, rowE (by rw [hG]), trivial⟩
        (fun _ : Unit => True) (fun _ => [(0, .c (eSl la)), (2, .c (.fn f [.rd cs])), (7, .c (.ow 14 1 W)), (8, .c (nI .i64 a)), (10, .c (.ad 10 0)), (11, .c (nI .i64 k)), (15, .c (eSl l)), (16, .c (nI .i64 l.length)), (17, .c (nI .i64 i))])
        (fun _ => [(10, .var [iSl g, eI .i64 l[i].2.1, eI .i64 l[i].2.2]), (14, .rowO 1 (base.set c [.ow 84 1 (G.getD c []).length]) [84]), (84, .row 1 (nRow .i64 (G.getD c [])))]) (fun j hj => ?_) (fun _ _ => ?_)
      · obtain ⟨j1, j2⟩ := hj
        have hjl : j < la.length := by omega
        have hjp : la[j].1.length ≤ 1000000 := hga _ (List.getElem_mem hjl)
        have heq := equal_ct la[j].1 (g.take k) hjp (by rw [List.length_take]; omega)
        rw [show iSl (g.take k) = .sl 1 (((iRow g).drop 0).take (k - 0)) by rw [iRow_take]] at heq
        have hjg : (grm la)[j]? = some la[j].1 := by rw [List.getElem?_map, List.getElem?_eq_getElem hjl]; rfl
        refine codeI T_ok T_mix ?_
        refine And.intro (by omega) (X1 _ (eRow_get rfl hjl) ?_)
        refine ⟨0, k, rfl, rfl, by omega, by rw [iRow_len]; omega, ?_⟩
        refine X1 _ heq ?_
        refine And.intro rfl ?_
        refine bcase (fun h6 => ?_) (fun h6 => ?_)
        · have hne : ¬ la[j].1 = g.take k := by simpa using h6
          have hja : j ≠ a := fun e => hne (by subst e; rw [hjg] at hap; exact Option.some.inj hap)
          refine X1 ((j + 1 : Nat) : Int) (wI (by simp) (by omega) (by omega)) ?_
          exact ⟨j + 1, ⟨by omega, by omega⟩, by omega, ⟨rfl, rfl, rfl, rfl, rfl, rfl, rfl, rfl, rfl, trivial⟩, ⟨rfl, rfl, rfl, trivial⟩⟩
        · have he : la[j].1 = g.take k := by simpa using h6
          have hja : j = a := rise_uniq hok.a (by rw [hjg, he]) hap
          subst hja
          exact ⟨(), trivial, ⟨rfl, rfl, rfl, rfl, rfl, rfl, rfl, rfl, rfl, trivial⟩, ⟨rfl, rfl, rfl, trivial⟩⟩
      refine viaI (G := List (List PC)) (fun base => BaseOK base a G) (fun _ => [(0, .c (eSl la)), (2, .c (.fn f [.rd cs])), (7, .c (.ow 14 1 W)), (8, .c (nI .i64 a)), (10, .c (.ad 10 0)), (11, .c (nI .i64 k)), (15, .c (eSl l)), (16, .c (nI .i64 l.length)), (17, .c (nI .i64 i))])
        (fun base => [(10, .var [iSl g, eI .i64 l[i].2.1, eI .i64 l[i].2.2]), (14, .rowO 1 (base.set a [.ow 84 1 (G.getD a []).length]) [84]), (84, .row 1 (nRow .i64 (G.getD a [])))]) (fun key => ?_) (fun base hb' => ?_)
      · by_cases e : c = a
        · subst e
          exact weakI (key base g4) ⟨rfl, rfl, rfl, rfl, rfl, rfl, rfl, rfl, rfl, trivial⟩ ⟨rfl, rfl, rfl, trivial⟩
        · have hmv := g4.move (a := a) (by omega)
          have hga := (g4.gt a (by omega) (by omega)).1
          refine frzI [84] ?_
          refine rowCl (k := 14) (sz := 1) (els := base.set c [nSl .i64 (G.getD c [])]) (ids := [84]) (rowOE' (by rw [List.map_set, view_base g4.cl]; rfl) rfl) hmv.cl ?_
          refine nilEl (r := 84) (k := 14) (sz := 1) (sz' := 1) (i := a) rfl (by omega) rfl (by rw [List.getElem?_set, if_neg (by omega)]; exact (g4.gt a (by omega) (by omega)).2) hmv.cl ?_
          exact weakI (key _ hmv) ⟨rfl, rfl, rfl, rfl, rfl, rfl, rfl, rfl, rfl, trivial⟩ ⟨rfl, rowOE' (by rw [hga]; rfl) rfl, rowE (by rw [hga]; rfl), trivial⟩
      · have hbl : a < base.length := by rw [hb'.len]; omega
        have hbc := hb'.cl
        have hgl2 : (G.getD a []).length ≤ 50000 := by
          have h1 := hgi.tot
          rw [List.length_take] at h1
          have := grp_len_le (G := G) (g := a) (by omega)
          omega
        refine joinC (Ty.own_ok [1000001, 1000002] T_ok) T_mix ?_
        refine And.intro (by omega) (And.intro (by omega) (X1 _ (by rw [Int.toNat_natCast]; exact List.getElem?_set_self hbl) ?_))
        refine X1 [] (fun el' q he hm => nomD' hbc (by rwa [Int.toNat_natCast] at he) hm) ?_
        refine X1 ((k - 1 : Nat) : Int) (wI (by omega) (by omega) (by omega)) ?_
        refine And.intro (by omega) (X1 _ (iRow_getN rfl (by omega)) ?_)
        refine And.intro (by omega) (X1 _ (iRow_getN rfl (by omega)) ?_)
        refine X1 _ (hnum g hgm) ?_
        refine app_row rfl (by show (G.getD a []).length + 1 ≤ _; omega) c1_closed ?_
        refine And.intro (by omega) (And.intro (by omega) (X1 _ (by rw [Int.toNat_natCast]; exact List.getElem?_set_self (by rw [List.length_set]; exact hbl)) ?_))
        refine And.intro rfl ?_
        refine joinC T_ok T_mix ?_
        refine X1 ((i + 1 : Nat) : Int) (wI1 (by omega)) ?_
        have hself := addG_self (G := G) (c := a) (v := num g) (by omega)
        refine ⟨(i + 1, a, base), ⟨by omega, by omega, hnext, by rw [hsn]; exact hb'.add (by omega) (num g)⟩, by show l.length - (i + 1) < l.length - i; omega, ⟨rfl, rfl, rfl, rfl, rfl, rfl, rfl, trivial⟩, ⟨rowOE' ?_ rfl, rowE ?_, trivial⟩⟩
        · rw [hsn, hself, Int.toNat_natCast]
          refine setD'.trans (congrArg (fun k => base.set a [PC.ow 84 1 k]) ?_)
          rw [List.length_append, nRow_len, List.length_append]; rfl
        · rw [hsn, hself, ← nRow_app]; rfl
    · have e : i = l.length := by omega
      subst e
      rw [hend] at g4
      exact ⟨(0, c, base), ⟨g2, g4⟩, ⟨rfl, trivial⟩, ⟨rowOE' (by rw [hend]) rfl, rowE (by rw [hend]), trivial⟩⟩
  · obtain ⟨g2, g4⟩ := hg
    have hGl : (levG (grm la) k num (grm l)).length = W := by rw [← hend]; exact (hgrp _).len
    refine frzI [84] ?_
    refine rowCl (k := 14) (sz := 1) (els := base.set c [nSl .i64 ((levG (grm la) k num (grm l)).getD c [])]) (ids := [84]) (rowOE' (by rw [List.map_set, view_base g4.cl]; rfl) rfl) (set_closed g4.cl rfl) ?_
    refine rowLe (k := 14) (els' := ggRow (levG (grm la) k num (grm l))) rfl (by rw [ggRow_len, List.length_set, g4.len]) (g4.fin (by omega)) ?_
    refine joinC T_ok T_mix ?_
    exact ⟨trivial, SubO.of (l := []) trivial, r1 rfl, trivial⟩
theorem groups0_ct {f : Nat} {caps : List PC} : Ct P 62 [.c (eSl []), .c (eSl []), .c (.fn f caps)] [.c (ggSl [])] := by
  refine Ct.go T_ok T_mix (N := 62) Tryz.func62 rfl rfl rfl rfl ?_
  refine And.intro (by decide) ?_
  refine ⟨by decide, by decide, by decide, .inr (by decide), ?_⟩
  refine And.intro (by decide) ?_
  refine loopJ T_ok T_mix (fun _ : Unit => True) (fun _ => [(7, .c (.ow 14 1 0)), (16, .c (nI .i64 0)), (17, .c (nI .i64 0))]) (fun _ => [(14, .row 1 [])]) (fun _ => 0)
    () trivial ⟨rfl, rfl, rfl, trivial⟩ ⟨rfl, trivial⟩ (fun _ : Unit => True) (fun _ => [(7, .c (.ow 14 1 0))]) (fun _ => [(14, .row 1 [])]) (fun _ _ => ?_) (fun _ _ => ?_)
  · exact ⟨(), trivial, ⟨rfl, trivial⟩, ⟨rfl, trivial⟩⟩
  · exact ⟨trivial, r1 rfl, trivial⟩
end Go.Proofs.YtjpbijdpkdmeaaaGreat.Pv
namespace Go.Proofs.YtjpbijdpkdmeaaaGreat.Pv
open Go
theorem bnum_ct (a b : Int) : Ct P 58 [.c (eI .i64 a), .c (eI .i64 b)] [.c (eI .i64 b)] := by
  refine Ct.go T_ok T_mix (N := 6) Tryz.func58 rfl rfl rfl rfl ?_
  exact ⟨trivial, r1 rfl, trivial⟩
section
variable {m : Md} (h : Rt m)
include h
theorem Rt.gal {k : Nat} (hk : k < m.L.length) : (gA m.L k).length ≤ 9000 := by rw [gA_length, getDL hk]; exact h.at' hk
theorem Rt.pairB (h1 : 1 < m.L.length) : RowB (pairG m.words.length (gA m.L 1)) :=
  (pair_ok h.L h1).rowB (by have := h.d.w; omega) (by have := h.gal h1; omega)
theorem Rt.num {k : Nat} (hk : k + 1 < m.L.length) {x : List Int} (hx : x ∈ gA m.L (k + 1)) : numT m.words.length m.L (k + 1) x < 65536 := by
  have hw := h.d.w
  unfold numT
  split
  · rename_i hm
    obtain ⟨m1, m2⟩ := mapd_mem hm
    have hR := h.pairB (show 1 < m.L.length by omega)
    have hs := hR.s
    unfold rankN
    refine Nat.lt_of_le_of_lt (rank_le _ _ _) ?_
    by_cases hg : (x.getD (k + 1 - 1) 0).toNat < (pairG m.words.length (gA m.L 1)).length
    · have := grp_len_le hg
      omega
    · rw [List.getD_eq_getElem?_getD, List.getElem?_eq_none (by omega)]; simp
  · have := gA_w h.L hk hx (getD_mem_I (k := k + 1) (by rw [gA_len h.L hk hx]; omega))
    unfold lastN
    omega
theorem Rt.rowB {k : Nat} (hk : k + 1 < m.L.length) : RowB (gG m.words.length m.L (k + 1)) := by
  have hg : GrpOK (gA m.L k).length (lvOf (gA m.L k) (k + 1) (numT m.words.length m.L (k + 1)) (gA m.L (k + 1))) (gG m.words.length m.L (k + 1)) := (levT h.L hk).grp
  have h1 := h.gal (show k < m.L.length by omega)
  have h2 := h.gal hk
  refine ⟨?_, ?_, fun g hgm => ?_, fun g hgm v hv => ?_⟩
  · rw [hg.len]; omega
  · rw [hg.tot]; simp only [lvOf, List.length_map]; omega
  · obtain ⟨i, hi, rfl⟩ := List.getElem_of_mem hgm
    have := hg.rise i
    rwa [List.getD_eq_getElem?_getD, List.getElem?_eq_getElem hi] at this
  · obtain ⟨i, hi, rfl⟩ := List.getElem_of_mem hgm
    have := hg.mem i v (by rw [List.getD_eq_getElem?_getD, List.getElem?_eq_getElem hi]; exact hv)
    obtain ⟨x, hx, e⟩ := List.mem_map.1 this
    have hn := h.num hk hx
    simp only [Prod.mk.injEq] at e
    rw [← e.2]; exact hn
theorem Rt.last {k : Nat} (hk : k + 1 < m.L.length) (hm : mapd m.L (k + 1) = false) : ∀ x, x ∈ gA m.L (k + 1) → Ct P (fnF 58) (fnA 58 [.c (eI .i64 (x.getD (k + 1 - 1) 0)), .c (eI .i64 (x.getD (k + 1) 0))] (([] : List PC).map .c)) [.c (nI .i64 (numT m.words.length m.L (k + 1) x))] := fun x hx => by
  have := (gA_w h.L hk hx (getD_mem_I (k := k + 1) (by rw [gA_len h.L hk hx]; omega))).1
  have e : ((numT m.words.length m.L (k + 1) x : Nat) : Int) = x.getD (k + 1) 0 := by
    unfold numT
    rw [if_neg (by rw [hm]; simp)]
    unfold lastN
    omega
  show Ct P _ _ [.c (eI .i64 ((numT m.words.length m.L (k + 1) x : Nat) : Int))]
  rw [e]
  exact bnum_ct (x.getD (k + 1 - 1) 0) (x.getD (k + 1) 0)
theorem Rt.rank {k : Nat} (hk : k + 1 < m.L.length) (hm : mapd m.L (k + 1) = true) : ∀ x, x ∈ gA m.L (k + 1) → Ct P (fnF (1000000 + 60)) (fnA (1000000 + 60) [.c (eI .i64 (x.getD (k + 1 - 1) 0)), .c (eI .i64 (x.getD (k + 1) 0))] (([mpV (pairG m.words.length (gA m.L 1))] : List PC).map .c)) [.c (nI .i64 (numT m.words.length m.L (k + 1) x))] := fun x hx => by
  obtain ⟨m1, m2⟩ := mapd_mem hm
  have hpo := pair_ok h.L (show 1 < m.L.length by omega)
  have hR := h.pairB (show 1 < m.L.length by omega)
  have w : ∀ i, i ≤ k + 1 → 0 ≤ x.getD i 0 := fun i hi => (gA_w h.L hk hx (getD_mem_I (by rw [gA_len h.L hk hx]; omega))).1
  have e : rankI (pairG m.words.length (gA m.L 1)) (x.getD (k + 1 - 1) 0) (x.getD (k + 1) 0) = ((numT m.words.length m.L (k + 1) x : Nat) : Int) := by
    unfold rankI numT rankN
    rw [if_pos ⟨w _ (by omega), w _ (Nat.le_refl _), (hpo.mem (w _ (by omega)) (w _ (Nat.le_refl _))).2 (m2 x hx)⟩, if_pos hm]
  have := mrank_ct _ hR (x.getD (k + 1 - 1) 0) (x.getD (k + 1) 0)
  rw [e] at this
  rw [fnF_ge]
  unfold fnA
  rw [bltF]
  exact this
end
end Go.Proofs.YtjpbijdpkdmeaaaGreat.Pv
