/- Parts of a proof, joined: Jb Jk Jq Ma Mb Md Jp Jo Js Me Mf Mn PvW. -/
import Derived.Test.YtjpbijdpkdmeaaaGreatTfI
namespace Go.Proofs.YtjpbijdpkdmeaaaGreat.Pv
open Go
abbrev bN' (n V : Nat) : PC := .rd [nSl .u64 (wsN n V), nI .i64 n]
theorem needN_ct (n : Nat) (hn : n ≤ 1000000000) : Ct P 154 [.c (nI .i64 n)] [.c (nI .i64 (needN n))] := by
  refine Ct.go T_ok T_mix (N := 9) Tryz.func154 rfl rfl rfl rfl ?_
  refine And.intro (by decide) (X1 ((n / 64 : Nat) : Int) (tdivN rfl) (And.intro ⟨by omega, by omega⟩ ?_))
  refine And.intro (by decide) (X1 ((n % 64 : Nat) : Int) (tmodN rfl) (And.intro ⟨by omega, by omega⟩ ?_))
  have e : (if (1 : Int) < ((n % 64 : Nat) : Int) then (1 : Int) else ((n % 64 : Nat) : Int)) = ((min (n % 64) 1 : Nat) : Int) := by split <;> omega
  refine X1 ((needN n : Nat) : Int) ?_ ?_
  · rw [e]; exact wI (by unfold needN; omega) (by omega) (by unfold needN; omega)
  · exact ⟨trivial, r1 rfl, trivial⟩
theorem width_ct (w : Nat) (hw : w < 18446744073709551616) : Ct P 153 [.c (nI .u64 w)] [.c (nI .i64 (blen w))] := by
  refine Ct.go T_ok T_mix (N := 5) Tryz.func153 rfl rfl rfl rfl ?_
  refine X1 _ (len64_ct w hw) ?_
  exact ⟨trivial, r1 rfl, trivial⟩
theorem within_ct' (n : Int) : Ct P 152 [.c (eI .i64 n)] [.c (eI .i64 (min (max n 0) 64))] := by
  refine Ct.go T_ok T_mix (N := 6) Tryz.func152 rfl rfl rfl rfl ?_
  exact ⟨trivial, r1 (iE (by repeat' split
                             all_goals omega)), trivial⟩
theorem mask_ct (n : Nat) (hn : n ≤ 64) : Ct P 105 [.c (nI .i64 n)] [.c (nI .u64 (2 ^ n - 1))] := by
  have h := within_ct' (n : Int)
  rw [show min (max (n : Int) 0) 64 = (n : Int) by omega] at h
  refine Ct.go T_ok T_mix (N := 11) Tryz.func105 rfl rfl rfl rfl ?_
  refine X1 _ h ?_
  refine ecase (fun e => ?_) (fun e => ?_)
  · have : n = 64 := by omega
    subst this
    exact ⟨trivial, r1 rfl, trivial⟩
  · have h1 : 2 ^ n ≤ 2 ^ 63 := Nat.pow_le_pow_right (by omega) (by omega)
    have h2 : (2 : Nat) ^ 63 = 9223372036854775808 := rfl
    have h3 := Nat.two_pow_pos n
    refine X1 ((n : Nat) : Int) (wU rfl (by omega) (by omega)) ?_
    refine And.intro (by omega) (X1 ((2 ^ n : Nat) : Int) ?_ ?_)
    · have := shlN (x := 1) (k := n) (by omega)
      rw [Nat.one_mul, Nat.mod_eq_of_lt (by omega)] at this
      exact this
    · refine X1 ((2 ^ n - 1 : Nat) : Int) (wU (by omega) (by omega) (by omega)) ?_
      exact ⟨trivial, r1 rfl, trivial⟩
theorem bnew_ct' : CtO P 109 [] [] [(2, some (.var [.sc (.slice none 0 0), eI .i64 0]))] [.c (.ad 2 0)] := by
  refine Ct.keep T_ok T_mix [] (N := 3) Tryz.func109 rfl rfl rfl rfl ?_
  exact ⟨trivial, SubO.of (l := [(2, .var [.sc (.slice none 0 0), eI .i64 0])]) ⟨rfl, trivial⟩, r1 rfl, trivial⟩
abbrev bO' (r n V : Nat) : Objs := [(1000000, some (.var [.ow r 1 (needN n), nI .i64 n])), (r, some (.row 1 (nRow .u64 (wsN n V))))]
theorem bSub' {n V : Nat} {O : Objs} (h1 : O.get 1000000 = some (.var [.ow 200 1 (needN n), nI .i64 n])) (h2 : O.get 200 = some (.row 1 (nRow .u64 (wsN n V)))) : SubO (bO' 200 n V) O :=
  SubO.of (l := [(1000000, .var [.ow 200 1 (needN n), nI .i64 n]), (200, .row 1 (nRow .u64 (wsN n V)))]) ⟨h1, h2, trivial⟩
theorem nRow_at' {k : IntKind} {l : List Nat} {i x : Nat} (h : l[i]? = some x) : (nRow k l)[i]? = some [nI k x] := by simp [nRow, h]
theorem or_low' {a i w : Nat} (h : a < 2 ^ i) (hi : i < 64) : a ||| w * 2 ^ i % 18446744073709551616 = a + w * 2 ^ i % 18446744073709551616 := by
  have e : (18446744073709551616 : Nat) = 2 ^ i * 2 ^ (64 - i) := by rw [← Nat.pow_add, show i + (64 - i) = 64 by omega]
  have e1 : w * 2 ^ i % 18446744073709551616 = w % 2 ^ (64 - i) * 2 ^ i := by
    conv => lhs; rw [e]
    rw [Nat.mul_comm w, Nat.mul_mod_mul_left, Nat.mul_comm]
  rw [e1]
  exact or_low h
theorem badd'_ct (n V w m : Nat) (hV : V < 2 ^ n) (hw : w < 2 ^ m) (hm : m ≤ 64) (hl : n ≤ 100000000) : CtO P 111 (bO' 1000001 n V) [.c (.ad 1000000 0), .c (nI .u64 w), .c (nI .i64 m)] (bO' 200 (n + m) (V + w * 2 ^ n)) [.c (eI .i64 0)] := by
  have hw64 : w < 18446744073709551616 := Nat.lt_of_lt_of_le hw (by rw [← p64]; exact Nat.pow_le_pow_right (by omega) hm)
  have hbw := blen_le hw
  have hnw := needN_le n
  have hnw2 := needN_le (n + m)
  have hwl := wsN_len n V
  have hfl := wsN_len (n + m) (V + w * 2 ^ n)
  refine Ct.keepI (Ty.own_ok [1000001] T_ok) [] (N := 93) Tryz.func111 rfl rfl rfl rfl ?_
  refine reRow (r := 1000001) (q := 200) (k := 1000000) (i := 0) rfl (by decide) (by decide) (by decide) rfl rfl rfl ?_
  have hT := Ty.own_ok [1000001] T_ok
  refine seqI hT T_mix ?_
  refine seqI hT T_mix ?_
  refine dcase (fun h => absurd h (by omega)) (fun _ => ?_)
  refine X1 _ (width_ct w hw64) ?_
  refine dcase (fun h => absurd h (by omega)) (fun _ => ?_)
  refine seqI hT T_mix ?_
  refine And.intro (by decide) (X1 ((n % 64 : Nat) : Int) (tmodN rfl) (And.intro ⟨by omega, by omega⟩ ?_))
  refine seqI hT T_mix ?_
  refine X1 ((n + m : Nat) : Int) (wI (by simp) (by omega) (by omega)) ?_
  obtain ⟨F, hF⟩ : ∃ F, F = wsN (n + m) (V + w * 2 ^ n) := ⟨_, rfl⟩
  obtain ⟨nx, hnx⟩ : ∃ nx, nx = if n % 64 = 0 then w else w / 2 ^ (64 - n % 64) := ⟨_, rfl⟩
  have hnl : nx < 18446744073709551616 := by
    have := Nat.div_le_self w (2 ^ (64 - n % 64))
    rw [hnx]; split <;> omega
  have hFl : F.length = needN (n + m) := by rw [hF, hfl]
  have hFb : F.length ≤ 3000000 := by unfold needN at hFl; omega
  refine cutI hT T_mix (G2 := List Nat) (fun W => W = F ∨ W ++ [nx] = F) (fun _ => [(0, .c (.ad 1000000 0)), (1, .c (nI .u64 w)), (7, .c (nI .i64 (n % 64)))])
    (fun W => [(1000000, .var [.ow 200 1 W.length, nI .i64 (n + m)]), (200, .row 1 (nRow .u64 W))]) ?_ (fun W hW => ?_)
  · refine dcase (fun h => ?_) (fun h => ?_)
    · have h64 : n % 64 ≠ 0 := by omega
      have hadd := wsN_add1 hV hw hm h64
      obtain ⟨x, hx⟩ : ∃ x, x = wdN V (n / 64) + w * 2 ^ (n % 64) % 18446744073709551616 := ⟨_, rfl⟩
      rw [← hx, ← hF] at hadd
      have hlen : needN n = n / 64 + 1 := by unfold needN; omega
      have hg := wsN_get (n := n) (V := V) (k := n / 64) (by omega)
      have hh := (wdN_here (w := w) hV).2
      have hwd := wdN_lt V (n / 64)
      refine And.intro (by show needN n ≤ _; omega) ?_
      refine X1 ((n / 64 : Nat) : Int) (wI (by omega) (by omega) (by omega)) ?_
      refine And.intro (by omega) (And.intro (by omega) ?_)
      refine X1 _ (by rw [Int.toNat_natCast]; exact nRow_at' hg) ?_
      refine X1 ((n % 64 : Nat) : Int) (wU rfl (by omega) (by omega)) ?_
      refine And.intro (by omega) (X1 _ (shlN (by omega)) ?_)
      refine X1 _ (orU hwd (Nat.mod_lt _ (by decide))) ?_
      refine And.intro (by omega) (And.intro (by omega) ?_)
      refine X1 _ (by rw [Int.toNat_natCast]; exact nRow_at' hg) ?_
      refine And.intro rfl ?_
      refine ⟨(wsN n V).set (n / 64) x, ?_, ⟨rfl, rfl, rfl, trivial⟩, ⟨by rw [List.length_set, hwl]; rfl, rowE (by rw [Int.toNat_natCast, ← nRow_set, or_low' hh (by omega), ← hx]; rfl), trivial⟩⟩
      rw [hnx, if_neg h64, hadd]
      split
      · exact .inl rfl
      · exact .inr rfl
    · have h64 : n % 64 = 0 := by omega
      have hadd := wsN_add0 hV hw hm h64
      rw [← hF] at hadd
      refine ⟨wsN n V, ?_, ⟨rfl, rfl, rfl, trivial⟩, ⟨by rw [hwl]; rfl, rfl, trivial⟩⟩
      rw [hnx, if_pos h64, hadd]
      split
      · exact .inl rfl
      · exact .inr rfl
  · refine seqI hT T_mix ?_
    refine loopJ hT T_mix (fun W : List Nat => W = F ∨ W ++ [nx] = F) (fun _ => [(0, .c (.ad 1000000 0)), (1, .c (nI .u64 w)), (7, .c (nI .i64 (n % 64)))])
      (fun W => [(1000000, .var [.ow 200 1 W.length, nI .i64 (n + m)]), (200, .row 1 (nRow .u64 W))]) (fun W => F.length - W.length)
      W hW ⟨rfl, rfl, rfl, trivial⟩ ⟨rfl, rfl, trivial⟩ (fun _ : Unit => True) (fun _ => []) (fun _ => [(1000000, .var [.ow 200 1 F.length, nI .i64 (n + m)]), (200, .row 1 (nRow .u64 F))]) (fun W hW => ?_) (fun _ _ => ?_)
    · have hfin : ∀ {x : Nat}, x = nx → W ++ [nx] = F → nRow .u64 W ++ [[nI .u64 x]] = nRow .u64 F := fun e h => by rw [e, ← h, ← nRow_app]; rfl
      have hWF : W.length ≤ F.length := by
        rcases hW with rfl | h
        · exact Nat.le_refl _
        · rw [← h, List.length_append]; omega
      refine And.intro (by show W.length ≤ _; omega) ?_
      refine X1 _ (needN_ct (n + m) (by omega)) ?_
      refine And.intro rfl ?_
      rcases hW with rfl | hW
      · refine dcase (fun h => absurd h (by omega)) (fun _ => ?_)
        exact ⟨(), trivial, trivial, ⟨rfl, rfl, trivial⟩⟩
      · have hlen : F.length = W.length + 1 := by rw [← hW, List.length_append]; rfl
        refine dcase (fun _ => ?_) (fun h => absurd (by omega) h)
        refine dcase (fun h => ?_) (fun h => ?_)
        · rw [if_neg (by omega)] at hnx
          refine X1 ((64 - n % 64 : Nat) : Int) (wI (by omega) (by omega) (by omega)) ?_
          refine X1 ((64 - n % 64 : Nat) : Int) (wU rfl (by omega) (by omega)) ?_
          refine And.intro (by omega) (X1 ((w / 2 ^ (64 - n % 64) : Nat) : Int) (shrN (by omega)) (And.intro (inU (by omega)) ?_))
          refine app_row rfl (by show W.length + 1 ≤ _; omega) c1_closed ?_
          exact ⟨F, .inl rfl, by omega, ⟨rfl, rfl, rfl, trivial⟩, ⟨by show some (Ob.var [.ow 200 1 (nRow .u64 W ++ [[nI .u64 _]]).length, _]) = some (Ob.var [.ow 200 1 F.length, _]); rw [hfin hnx.symm hW, nRow_len]; rfl, rowE (hfin hnx.symm hW), trivial⟩⟩
        · rw [if_pos (by omega)] at hnx
          refine app_row rfl (by show W.length + 1 ≤ _; omega) c1_closed ?_
          exact ⟨F, .inl rfl, by omega, ⟨rfl, rfl, rfl, trivial⟩, ⟨by show some (Ob.var [.ow 200 1 (nRow .u64 W ++ [[nI .u64 _]]).length, _]) = some (Ob.var [.ow 200 1 F.length, _]); rw [hfin hnx.symm hW, nRow_len]; rfl, rowE (hfin hnx.symm hW), trivial⟩⟩
    · subst hF
      exact ⟨trivial, bSub' (by rw [hfl]; rfl) rfl, r1 rfl, trivial⟩
theorem blen'_ct (n V : Nat) : Ct P 158 [.c (bN' n V)] [.c (nI .i64 n)] := by
  refine Ct.go T_ok T_mix (N := 9) Tryz.func158 rfl rfl rfl rfl ?_
  exact ⟨trivial, r1 rfl, trivial⟩
theorem bword'_ct (n V k : Nat) (hV : V < 2 ^ n) (hl : n ≤ 100000000) (hk : k ≤ 100000000) : Ct P 104 [.c (bN' n V), .c (nI .i64 k)] [.c (nI .u64 (wdN V k))] := by
  have h1 := needN_le n
  have h2 := wsN_len n V
  refine Ct.go T_ok T_mix (N := 23) Tryz.func104 rfl rfl rfl rfl ?_
  refine And.intro (by rw [nRow_len]; omega) ?_
  rw [nRow_len]
  refine dcase (fun h => ?_) (fun h => ?_)
  · rw [wdN_0 hV (k := k) (by unfold needN at h2; omega)]
    exact ⟨trivial, r1 rfl, trivial⟩
  · refine And.intro (by omega) (X1 _ (by rw [Int.toNat_natCast]; exact nRow_at' (wsN_get (by omega))) ?_)
    exact ⟨trivial, r1 rfl, trivial⟩
theorem andM {x n : Nat} (hx : x < 18446744073709551616) (hn : n ≤ 64) : IntKind.u64.wrap ((BitVec.ofInt IntKind.u64.bits (x : Int) &&& BitVec.ofInt IntKind.u64.bits ((2 ^ n - 1 : Nat) : Int)).toNat : Int) = ((x % 2 ^ n : Nat) : Int) := by
  have h1 : 2 ^ n ≤ 2 ^ 64 := Nat.pow_le_pow_right (by omega) hn
  have e : (BitVec.ofInt IntKind.u64.bits (x : Int) &&& BitVec.ofInt IntKind.u64.bits ((2 ^ n - 1 : Nat) : Int)).toNat = x % 2 ^ n := by
    show (BitVec.ofInt 64 (x : Int) &&& BitVec.ofInt 64 ((2 ^ n - 1 : Nat) : Int)).toNat = _
    have h2 := Nat.two_pow_pos n
    rw [BitVec.ofInt_natCast, BitVec.ofInt_natCast, BitVec.toNat_and, BitVec.toNat_ofNat, BitVec.toNat_ofNat, Nat.mod_eq_of_lt (by omega : x < 2 ^ 64), Nat.mod_eq_of_lt (by omega : 2 ^ n - 1 < 2 ^ 64), Nat.and_two_pow_sub_one_eq_mod]
  have h3 := Nat.mod_le x (2 ^ n)
  rw [e]
  exact wU rfl (by omega) (by omega)
theorem bcut'_ct (n V i m : Nat) (hV : V < 2 ^ n) (hl : n ≤ 100000000) (hi : i < n) (hm : 1 ≤ m) (hm2 : m ≤ 64) : Ct P 69 [.c (bN' n V), .c (nI .i64 i), .c (nI .i64 m)] [.c (nI .u64 (V / 2 ^ i % 2 ^ m))] := by
  have hw1 := wdN_lt V (i / 64)
  have hw2 := wdN_lt V (i / 64 + 1)
  have hd := wd_cut V (i / 64) (i % 64) (Nat.mod_lt _ (by decide))
  rw [show 64 * (i / 64) + i % 64 = i by omega] at hd
  have hdl : wdN V (i / 64) / 2 ^ (i % 64) ≤ wdN V (i / 64) := Nat.div_le_self _ _
  have hv64 : V / 2 ^ i % 18446744073709551616 < 18446744073709551616 := Nat.mod_lt _ (by decide)
  have hmod : V / 2 ^ i % 18446744073709551616 % 2 ^ m = V / 2 ^ i % 2 ^ m := by
    rw [← p64]
    exact Nat.mod_mod_of_dvd _ (Nat.pow_dvd_pow 2 hm2)
  refine Ct.go T_ok T_mix (N := 67) Tryz.func69 rfl rfl rfl rfl ?_
  refine dcase (fun h => absurd h (by omega)) (fun _ => ?_)
  refine dcase (fun h => absurd h (by omega)) (fun _ => ?_)
  refine dcase (fun h => absurd h (by omega)) (fun _ => ?_)
  have hmask : Ct P 105 [.c (eI .i64 (if (64 : Int) < (m : Int) then 64 else (m : Int)))] [.c (nI .u64 (2 ^ m - 1))] := by
    rw [if_neg (by omega)]; exact mask_ct m hm2
  refine And.intro (by decide) (X1 ((i / 64 : Nat) : Int) (tdivN rfl) (And.intro ⟨by omega, by omega⟩ ?_))
  refine And.intro (by decide) (X1 ((i % 64 : Nat) : Int) (tmodN rfl) (And.intro ⟨by omega, by omega⟩ ?_))
  refine X1 _ (bword'_ct n V (i / 64) hV hl (by omega)) ?_
  refine X1 ((i % 64 : Nat) : Int) (wU rfl (by omega) (by omega)) ?_
  refine And.intro (by omega) (X1 ((wdN V (i / 64) / 2 ^ (i % 64) : Nat) : Int) (shrN (by omega)) (And.intro (inU (by omega)) ?_))
  refine dcase (fun h5 => ?_) (fun h5 => ?_)
  · have hlow : wdN V (i / 64) / 2 ^ (i % 64) < 2 ^ (64 - i % 64) := by
      rw [Nat.div_lt_iff_lt_mul (Nat.two_pow_pos _), ← Nat.pow_add, show 64 - i % 64 + i % 64 = 64 by omega]; exact hw1
    have hor := or_low' (w := wdN V (i / 64 + 1)) hlow (by omega)
    rw [← hd] at hor
    refine X1 ((i / 64 + 1 : Nat) : Int) (wI (by simp) (by omega) (by omega)) ?_
    refine X1 _ (bword'_ct n V (i / 64 + 1) hV hl (by omega)) ?_
    refine X1 ((64 - i % 64 : Nat) : Int) (wI (by omega) (by omega) (by omega)) ?_
    refine X1 ((64 - i % 64 : Nat) : Int) (wU rfl (by omega) (by omega)) ?_
    refine And.intro (by omega) (X1 _ (shlN (by omega)) ?_)
    refine X1 _ (orU (by omega) (Nat.mod_lt _ (by decide))) ?_
    rw [hor]
    refine X1 _ hmask ?_
    refine X1 _ (andM hv64 hm2) ?_
    exact ⟨trivial, r1 (iE (by rw [hmod])), trivial⟩
  · have h0 : i % 64 = 0 := by omega
    have e1 : wdN V (i / 64) / 2 ^ (i % 64) = V / 2 ^ i % 18446744073709551616 := by
      rw [hd, h0, show 64 - 0 = 64 from rfl, p64, Nat.mul_mod_left, Nat.add_zero]
    rw [e1]
    refine X1 _ hmask ?_
    refine X1 _ (andM hv64 hm2) ?_
    exact ⟨trivial, r1 (iE (by rw [hmod])), trivial⟩
def upB (w : Nat) (l : List Nat) (u : Nat) : Nat := below (l.map (· / 2 ^ w)) u
theorem getD_div {w : Nat} {l : List Nat} {i : Nat} : (l.map (· / 2 ^ w)).getD i 0 = l.getD i 0 / 2 ^ w := by
  simp only [List.getD_eq_getElem?_getD, List.getElem?_map]
  cases l[i]? with
  | none => simp
  | some x => rfl
theorem up_div {w : Nat} {l : List Nat} (h : Up l) : Up (l.map (· / 2 ^ w)) := fun i j hij hj => by
  rw [List.length_map] at hj
  rw [getD_div, getD_div]
  exact Nat.div_le_div_right (h i j hij hj)
theorem upB_spec {w : Nat} {l : List Nat} (h : Up l) (u : Nat) : upB w l u ≤ l.length ∧ (∀ i, i < upB w l u → l.getD i 0 / 2 ^ w < u) ∧ ∀ i, upB w l u ≤ i → i < l.length → u ≤ l.getD i 0 / 2 ^ w := by
  obtain ⟨h1, h2⟩ := below_up (up_div (w := w) h) u
  have h3 := below_le (l.map (· / 2 ^ w)) u
  rw [List.length_map] at h2 h3
  exact ⟨h3, fun i hi => by have := h1 i hi; rwa [getD_div] at this, fun i hi hi2 => by have := h2 i hi hi2; rwa [getD_div] at this⟩
theorem hi_zero {w : Nat} {l : List Nat} (h : Up l) (u : Nat) : IsNil (hiV w l) u (u + upB w l (u + 1)) ∧ rk (hiV w l) (u + upB w l (u + 1)) = upB w l (u + 1) := by
  obtain ⟨h1, h2, h3⟩ := upB_spec (w := w) h (u + 1)
  obtain ⟨a1, a2⟩ := hi_nil (w := w) h (c := upB w l (u + 1)) (z := u + upB w l (u + 1)) h1 (fun i hi => by have := h2 i hi; omega) (fun i hi hi2 => by have := h3 i hi hi2; omega)
  exact ⟨⟨by rw [a1]; omega, a2⟩, a1⟩
theorem upB_all {w : Nat} {l : List Nat} (h : Up l) {u : Nat} (hu : l.length = 0 ∨ l.getD (l.length - 1) 0 / 2 ^ w < u) : upB w l u = l.length := by
  obtain ⟨h1, h2, h3⟩ := upB_spec (w := w) h u
  rcases hu with h0 | h0
  · omega
  · apply Classical.byContradiction
    intro hn
    have := h3 (l.length - 1) (by omega) (by omega)
    omega
theorem upB_0 {w : Nat} {l : List Nat} (h : Up l) : upB w l 0 = 0 := by
  obtain ⟨_, h2, _⟩ := upB_spec (w := w) h 0
  apply Classical.byContradiction
  intro hn
  exact absurd (h2 0 (by omega)) (Nat.not_lt_zero _)
theorem next_k {w : Nat} {l : List Nat} (h : Up l) (v : Nat) : upB w l (v / 2 ^ w) ≤ below l v ∧ below l v ≤ upB w l (v / 2 ^ w + 1) ∧ (∀ i, upB w l (v / 2 ^ w) ≤ i → i < below l v → l.getD i 0 % 2 ^ w < v % 2 ^ w) ∧ ∀ i, below l v ≤ i → i < upB w l (v / 2 ^ w + 1) → v % 2 ^ w ≤ l.getD i 0 % 2 ^ w := by
  obtain ⟨b1, b2⟩ := below_up h v
  have b3 := below_le l v
  obtain ⟨c1, c2, c3⟩ := upB_spec (w := w) h (v / 2 ^ w)
  obtain ⟨d1, d2, d3⟩ := upB_spec (w := w) h (v / 2 ^ w + 1)
  have hp := Nat.two_pow_pos w
  have ev := Nat.div_add_mod v (2 ^ w)
  have lo : upB w l (v / 2 ^ w) ≤ below l v := by
    apply Classical.byContradiction
    intro hn
    have h1 := c2 (below l v) (by omega)
    have h2 := b2 (below l v) (Nat.le_refl _) (by omega)
    have := Nat.div_le_div_right (c := 2 ^ w) h2
    omega
  have hi : below l v ≤ upB w l (v / 2 ^ w + 1) := by
    apply Classical.byContradiction
    intro hn
    have h1 := d3 (upB w l (v / 2 ^ w + 1)) (Nat.le_refl _) (by omega)
    have h2 := b1 (upB w l (v / 2 ^ w + 1)) (by omega)
    have := Nat.div_le_div_right (c := 2 ^ w) (Nat.le_of_lt h2)
    omega
  refine ⟨lo, hi, fun i h1 h2 => ?_, fun i h1 h2 => ?_⟩
  · have q1 := b1 i h2
    have q2 := c3 i h1 (by omega)
    have ei := Nat.div_add_mod (l.getD i 0) (2 ^ w)
    have q3 := Nat.div_le_div_right (c := 2 ^ w) (Nat.le_of_lt q1)
    have e : l.getD i 0 / 2 ^ w = v / 2 ^ w := by omega
    rw [e] at ei
    omega
  · have q1 := b2 i h1 (by omega)
    have q2 := d2 i h2
    have ei := Nat.div_add_mod (l.getD i 0) (2 ^ w)
    have q3 := Nat.div_le_div_right (c := 2 ^ w) q1
    have e : l.getD i 0 / 2 ^ w = v / 2 ^ w := by omega
    rw [e] at ei
    omega
def findE (l : List Nat) (lo hi v : Nat) : Int := if below l v < l.length ∧ l.getD (below l v) 0 = v then (if max (below l v) lo < min hi l.length ∧ l.getD (max (below l v) lo) 0 = v then (max (below l v) lo : Nat) else -1) else -1
structure SampOK (f : Nat → Nat) (k : Nat) (S : List Nat) : Prop where
  at' : ∀ (j : Nat) a, S[j]? = some a → a < k ∧ f a ≤ 64 * j ∧ 64 * j < f (a + 1)
  lo : S.length = 0 ∨ 64 * (S.length - 1) < f k
  hi : f k ≤ 64 * S.length
theorem SampOK.nil {f : Nat → Nat} (h : f 0 = 0) : SampOK f 0 [] := ⟨fun j a h => by simp at h, .inl rfl, by rw [h]; exact Nat.zero_le _⟩
structure SampIn (f : Nat → Nat) (k : Nat) (S : List Nat) : Prop where
  at' : ∀ (j : Nat) a, S[j]? = some a → a < k + 1 ∧ f a ≤ 64 * j ∧ 64 * j < f (a + 1)
  lo : S.length = 0 ∨ 64 * (S.length - 1) < f (k + 1)
  hi : f k ≤ 64 * S.length
theorem SampOK.into {f : Nat → Nat} {k : Nat} {S : List Nat} (h : SampOK f k S) (hm : f k ≤ f (k + 1)) : SampIn f k S :=
  ⟨fun j a hj => by obtain ⟨h1, h2⟩ := h.at' j a hj; exact ⟨by omega, h2⟩, by rcases h.lo with h0 | h0 <;> omega, h.hi⟩
theorem SampIn.more {f : Nat → Nat} {k : Nat} {S : List Nat} (h : SampIn f k S) (hlt : 64 * S.length < f (k + 1)) : SampIn f k (S ++ [k]) := by
  refine ⟨fun j a hj => ?_, .inr ?_, ?_⟩
  · by_cases hl : j < S.length
    · rw [List.getElem?_append_left hl] at hj; exact h.at' j a hj
    · have e : j = S.length := by
        have := (List.getElem?_eq_some_iff.1 hj).1
        simp at this; omega
      subst e
      rw [List.getElem?_append_right (Nat.le_refl _), Nat.sub_self] at hj
      have e : k = a := by simpa using hj
      subst e
      exact ⟨by omega, h.hi, hlt⟩
  · rw [List.length_append, List.length_singleton]; omega
  · rw [List.length_append, List.length_singleton]; have := h.hi; omega
theorem SampIn.done {f : Nat → Nat} {k : Nat} {S : List Nat} (h : SampIn f k S) (hge : f (k + 1) ≤ 64 * S.length) : SampOK f (k + 1) S := ⟨h.at', h.lo, hge⟩
theorem SampOK.has {f : Nat → Nat} {k x : Nat} {S : List Nat} (h : SampOK f k S) (hx : x < f k) : ∃ a, S[x / 64]? = some a ∧ a < k ∧ f a ≤ x := by
  have := h.hi
  have hl : x / 64 < S.length := by omega
  obtain ⟨h1, h2, _⟩ := h.at' (x / 64) _ (List.getElem?_eq_getElem hl)
  exact ⟨_, List.getElem?_eq_getElem hl, h1, by omega⟩
theorem SampOK.next {f : Nat → Nat} {k x : Nat} {S : List Nat} (h : SampOK f k S) {b : Nat} (hb : S[x / 64 + 1]? = some b) : x < f (b + 1) ∧ b < k := by
  obtain ⟨h1, _, h3⟩ := h.at' _ b hb
  exact ⟨by omega, h1⟩
theorem SampOK.rise {f : Nat → Nat} {k : Nat} {S : List Nat} (h : SampOK f k S) (hm : ∀ a b, a ≤ b → f a ≤ f b) {j a b : Nat} (ha : S[j]? = some a) (hb : S[j + 1]? = some b) : a ≤ b := by
  obtain ⟨_, a2, a3⟩ := h.at' j a ha
  obtain ⟨_, b2, b3⟩ := h.at' (j + 1) b hb
  apply Classical.byContradiction
  intro hn
  have := hm (b + 1) a (by omega)
  omega
theorem bit_not {w i : Nat} (hw : w < 18446744073709551616) (hi : i < 64) : (18446744073709551615 - w) / 2 ^ i % 2 = 1 - w / 2 ^ i % 2 := by
  have h := Nat.testBit_two_pow_sub_succ (x := w) (n := 64) (by rw [p64]; exact hw) i
  rw [show (2 : Nat) ^ 64 - (w + 1) = 18446744073709551615 - w by rw [p64]; omega, decide_eq_true hi, Bool.true_and, Nat.testBit_eq_decide_div_mod_eq, Nat.testBit_eq_decide_div_mod_eq] at h
  have h1 := Nat.mod_lt (w / 2 ^ i) (show 0 < 2 by decide)
  have h2 := Nat.mod_lt ((18446744073709551615 - w) / 2 ^ i) (show 0 < 2 by decide)
  by_cases e : w / 2 ^ i % 2 = 1
  · rw [decide_eq_true e] at h
    have : ¬ (18446744073709551615 - w) / 2 ^ i % 2 = 1 := by simpa using h
    omega
  · rw [decide_eq_false e] at h
    have : (18446744073709551615 - w) / 2 ^ i % 2 = 1 := by simpa using h
    omega
theorem rk_not {w : Nat} (hw : w < 18446744073709551616) : ∀ {i : Nat}, i ≤ 64 → rk (18446744073709551615 - w) i = i - rk w i
  | 0, _ => by rw [rk_0]; omega
  | i + 1, hi => by
    have ih := rk_not hw (i := i) (by omega)
    have hb := bit_not hw (i := i) (by omega)
    have hl := rk_le w i
    have hm := Nat.mod_lt (w / 2 ^ i) (show 0 < 2 by decide)
    rw [rk_succ, rk_succ, ih, hb]
    omega
def f1 (V n a : Nat) : Nat := rk V (min (64 * a) n)
def f0 (V n a : Nat) : Nat := min (64 * a) n - rk V (min (64 * a) n)
theorem f1_mono {V n a b : Nat} (h : a ≤ b) : f1 V n a ≤ f1 V n b := rk_mono V (by omega)
theorem f0_mono {V n a b : Nat} (h : a ≤ b) : f0 V n a ≤ f0 V n b := zk_mono V (by omega)
theorem f1_0 (V n : Nat) : f1 V n 0 = 0 := by unfold f1; rw [Nat.mul_zero, Nat.zero_min, rk_0]
theorem f0_0 (V n : Nat) : f0 V n 0 = 0 := by unfold f0; rw [Nat.mul_zero, Nat.zero_min]; omega
theorem rk_min {V n i : Nat} (h : V < 2 ^ n) : rk V (min i n) = rk V i := by
  by_cases hi : i ≤ n
  · rw [Nat.min_eq_left hi]
  · rw [Nat.min_eq_right (by omega), rk_top h (Nat.le_refl _), rk_top h (by omega)]
theorem wd_rk (V a : Nat) {i : Nat} (hi : i ≤ 64) : rk (wdN V a) i = rk V (64 * a + i) - rk V (64 * a) := by
  unfold wdN
  rw [← p64, rk_mod hi, rk_add]; omega
theorem wd_bit (V a : Nat) {i : Nat} (hi : i < 64) : wdN V a / 2 ^ i % 2 = V / 2 ^ (64 * a + i) % 2 := by
  unfold wdN
  rw [Nat.pow_add, ← Nat.div_div_eq_div_mul]
  generalize V / 2 ^ (64 * a) = v
  have e : (18446744073709551616 : Nat) = 2 ^ i * (2 * 2 ^ (63 - i)) := by rw [← Nat.pow_succ', ← Nat.pow_add, show i + (63 - i + 1) = 64 by omega, p64]
  rw [e, Nat.mod_mul_right_div_self, Nat.mod_mul_right_mod]
theorem wd_popc {V n a : Nat} (h : V < 2 ^ n) : popc (wdN V a) = f1 V n (a + 1) - f1 V n a := by
  unfold f1
  rw [rk_min h, rk_min h, show 64 * (a + 1) = 64 * a + 64 by omega, ← wd_rk V a (Nat.le_refl 64), rk_top (by rw [p64]; exact wdN_lt V a) (Nat.le_refl _)]
def pkV (w : Nat) : List Nat → Nat
  | [] => 0
  | x :: l => x + 2 ^ w * pkV w l
theorem pkV_snoc (w x : Nat) : ∀ l : List Nat, pkV w (l ++ [x]) = pkV w l + x * 2 ^ (l.length * w)
  | [] => by simp [pkV]
  | y :: l => by
    show y + 2 ^ w * pkV w (l ++ [x]) = y + 2 ^ w * pkV w l + _
    rw [pkV_snoc w x l, Nat.mul_add, Nat.add_assoc, List.length_cons, Nat.succ_mul, Nat.pow_add]
    congr 1; congr 1
    rw [Nat.mul_left_comm, Nat.mul_comm (2 ^ w)]
theorem pkV_lt {w : Nat} : ∀ {l : List Nat}, (∀ x, x ∈ l → x < 2 ^ w) → pkV w l < 2 ^ (l.length * w)
  | [], _ => by simp [pkV]
  | y :: l, h => by
    have h1 := h y (by simp)
    have h2 := pkV_lt (l := l) fun x hx => h x (by simp [hx])
    show y + 2 ^ w * pkV w l < _
    rw [List.length_cons, Nat.succ_mul, Nat.pow_add, Nat.mul_comm (2 ^ (l.length * w))]
    have h3 : 2 ^ w * (pkV w l + 1) ≤ 2 ^ w * 2 ^ (l.length * w) := Nat.mul_le_mul_left _ h2
    rw [Nat.mul_add] at h3
    omega
theorem pkV_at {w : Nat} : ∀ {l : List Nat} {i : Nat}, (∀ x, x ∈ l → x < 2 ^ w) → i < l.length → pkV w l / 2 ^ (i * w) % 2 ^ w = l.getD i 0
  | [], i, _, hi => by simp at hi
  | y :: l, 0, h, _ => by
    show (y + 2 ^ w * pkV w l) / 2 ^ (0 * w) % 2 ^ w = y
    rw [Nat.zero_mul, Nat.pow_zero, Nat.div_one, Nat.add_mul_mod_self_left, Nat.mod_eq_of_lt (h y (by simp))]
  | y :: l, i + 1, h, hi => by
    have h1 := h y (by simp)
    have h2 := pkV_at (l := l) (i := i) (fun x hx => h x (by simp [hx])) (by simpa using hi)
    show (y + 2 ^ w * pkV w l) / 2 ^ ((i + 1) * w) % 2 ^ w = l.getD i 0
    rw [Nat.succ_mul, Nat.add_comm (i * w), Nat.pow_add, ← Nat.div_div_eq_div_mul, Nat.add_mul_div_left _ _ (Nat.two_pow_pos w), Nat.div_eq_of_lt h1, Nat.zero_add]
    exact h2
def mxL (l : List Nat) : Nat := l.foldl max 0
theorem mxL_snoc (l : List Nat) (x : Nat) : mxL (l ++ [x]) = max (mxL l) x := by simp [mxL, List.foldl_append]
theorem foldl_max_lt {b : Nat} : ∀ (l : List Nat) (a : Nat), a < b → (∀ x, x ∈ l → x < b) → l.foldl max a < b
  | [], a, h, _ => h
  | y :: l, a, h, hl => foldl_max_lt l (max a y) (Nat.max_lt.2 ⟨h, hl y (by simp)⟩) fun x hx => hl x (by simp [hx])
theorem mxL_lt {l : List Nat} {b : Nat} (hb : 0 < b) (h : ∀ x, x ∈ l → x < b) : mxL l < b := foldl_max_lt l 0 hb h
theorem mxL_take {l : List Nat} {i : Nat} (hi : i < l.length) : mxL (l.take (i + 1)) = max (mxL (l.take i)) (l.getD i 0) := by
  rw [List.take_succ_eq_append_getElem hi, mxL_snoc, List.getD_eq_getElem?_getD, List.getElem?_eq_getElem hi, Option.getD_some]
theorem pkV_take {w : Nat} {l : List Nat} {i : Nat} (hi : i < l.length) : pkV w (l.take (i + 1)) = pkV w (l.take i) + l.getD i 0 * 2 ^ (i * w) := by
  rw [List.take_succ_eq_append_getElem hi, pkV_snoc, List.length_take, Nat.min_eq_left (by omega), List.getD_eq_getElem?_getD, List.getElem?_eq_getElem hi, Option.getD_some]
theorem SampOK.uniq {f : Nat → Nat} {k : Nat} {S T : List Nat} (hm : ∀ a b, a ≤ b → f a ≤ f b) (h : SampOK f k S) (g : SampOK f k T) : S = T := by
  have hl : S.length = T.length := by
    have h1 := h.lo; have h2 := h.hi; have g1 := g.lo; have g2 := g.hi
    omega
  refine List.ext_getElem hl fun j h1 h2 => ?_
  obtain ⟨_, a1, a2⟩ := h.at' j S[j] (List.getElem?_eq_getElem h1)
  obtain ⟨_, b1, b2⟩ := g.at' j T[j] (List.getElem?_eq_getElem h2)
  rcases Nat.lt_trichotomy S[j] T[j] with h3 | h3 | h3
  · have := hm (S[j] + 1) T[j] h3; omega
  · exact h3
  · have := hm (T[j] + 1) S[j] h3; omega
open Classical in
noncomputable def sampF (f : Nat → Nat) (k : Nat) : List Nat := if h : ∃ S, SampOK f k S then h.choose else []
theorem sampF_eq {f : Nat → Nat} {k : Nat} {S : List Nat} (hm : ∀ a b, a ≤ b → f a ≤ f b) (h : SampOK f k S) : sampF f k = S := by
  have he : ∃ S, SampOK f k S := ⟨S, h⟩
  unfold sampF
  rw [dif_pos he]
  exact SampOK.uniq hm he.choose_spec h
def marksK (V k : Nat) : List Nat := (List.range ((k + 7) / 8)).map fun j => rk V (512 * j)
def marksL (n V : Nat) : List Nat := marksK V (needN n) ++ [popc V]
def nearE (V k : Nat) : Nat := rk V (64 * k) - rk V (512 * (k / 8))
def nearL (n V : Nat) : List Nat := (List.range (needN n)).map (nearE V)
theorem marksK_len (V k : Nat) : (marksK V k).length = (k + 7) / 8 := by simp [marksK]
theorem marksK_in {V k : Nat} (h : k % 8 = 0) : marksK V (k + 1) = marksK V k ++ [rk V (64 * k)] := by
  unfold marksK
  rw [show (k + 1 + 7) / 8 = (k + 7) / 8 + 1 by omega, List.range_succ, List.map_append, show (k + 7) / 8 = k / 8 by omega]
  show _ ++ [rk V (512 * (k / 8))] = _
  rw [show 512 * (k / 8) = 64 * k by omega]
theorem marksK_no {V k : Nat} (h : k % 8 ≠ 0) : marksK V (k + 1) = marksK V k := by
  unfold marksK
  rw [show (k + 1 + 7) / 8 = (k + 7) / 8 by omega]
theorem nearL_len (n V : Nat) : (nearL n V).length = needN n := by simp [nearL]
def hereF (V k : Nat) : Nat := if k = 0 then 0 else rk V (64 * k) - rk V (512 * ((k - 1) / 8))
theorem rk_near (V a b : Nat) (h : a ≤ b) : rk V b - rk V a ≤ b - a := by
  have := zk_mono V h
  have h1 := rk_le V a
  have h2 := rk_le V b
  have h3 := rk_mono V h
  omega
theorem hereF_le (V k : Nat) : hereF V k ≤ 512 := by
  unfold hereF
  split
  · omega
  · have := rk_near V (512 * ((k - 1) / 8)) (64 * k) (by omega)
    omega
theorem nearE_le (V k : Nat) : nearE V k ≤ 448 := by
  unfold nearE
  have := rk_near V (512 * (k / 8)) (64 * k) (by omega)
  omega
theorem wd_popc' {V n a : Nat} (h : V < 2 ^ n) : rk V (64 * (a + 1)) = rk V (64 * a) + popc (wdN V a) := by
  have h1 := wd_popc (a := a) h
  have h2 := f1_mono (V := V) (n := n) (show a ≤ a + 1 by omega)
  unfold f1 at h1 h2
  rw [rk_min h, rk_min h] at h1 h2
  omega
theorem hereF_in {V n k : Nat} (hV : V < 2 ^ n) (h : k % 8 = 0) : hereF V (k + 1) = popc (wdN V k) ∧ nearE V k = 0 := by
  have := wd_popc' (a := k) hV
  unfold hereF nearE
  rw [if_neg (by omega), Nat.add_sub_cancel, show 512 * (k / 8) = 64 * k by omega]
  omega
theorem hereF_no {V n k : Nat} (hV : V < 2 ^ n) (h : k % 8 ≠ 0) : hereF V (k + 1) = hereF V k + popc (wdN V k) ∧ nearE V k = hereF V k := by
  have := wd_popc' (a := k) hV
  have h2 := rk_mono V (show 512 * ((k - 1) / 8) ≤ 64 * k by omega)
  unfold hereF nearE
  rw [if_neg (by omega), if_neg (by omega), Nat.add_sub_cancel, show k / 8 = (k - 1) / 8 by omega]
  omega
theorem rk_words {V n : Nat} (hV : V < 2 ^ n) : rk V (64 * needN n) = popc V := rk_top hV (by unfold needN; omega)
theorem marksL_last (n V : Nat) : (marksL n V).getD ((marksL n V).length - 1) 0 = popc V ∧ 1 ≤ (marksL n V).length := by
  unfold marksL
  rw [List.length_append]
  refine ⟨?_, by simp⟩
  rw [show (marksK V (needN n)).length + [popc V].length - 1 = (marksK V (needN n)).length by simp, List.getD_eq_getElem?_getD, List.getElem?_append_right (Nat.le_refl _), Nat.sub_self]
  rfl
theorem marksL_get {n V j : Nat} (h : 512 * j < n) : j < (marksL n V).length ∧ (marksL n V).getD j 0 = rk V (512 * j) := by
  have h1 : j < (needN n + 7) / 8 := by unfold needN; omega
  unfold marksL
  rw [List.length_append, marksK_len]
  refine ⟨by omega, ?_⟩
  rw [List.getD_eq_getElem?_getD, List.getElem?_append_left (by rw [marksK_len]; exact h1)]
  unfold marksK
  rw [List.getElem?_map, List.getElem?_range h1]
  rfl
theorem nearL_get {n V j : Nat} (h : 64 * j < n) : j < (nearL n V).length ∧ (nearL n V).getD j 0 = nearE V j := by
  have h1 : j < needN n := by unfold needN; omega
  rw [nearL_len]
  refine ⟨h1, ?_⟩
  unfold nearL
  rw [List.getD_eq_getElem?_getD, List.getElem?_map, List.getElem?_range h1]
  rfl
theorem rank_at {V : Nat} (i : Nat) : rk V (512 * (i / 512)) + nearE V (i / 64) + rk (wdN V (i / 64)) (i % 64) = rk V i := by
  have h1 := wd_rk V (i / 64) (i := i % 64) (by omega)
  rw [show 64 * (i / 64) + i % 64 = i by omega] at h1
  have h2 := rk_mono V (show 64 * (i / 64) ≤ i by omega)
  have h3 := rk_mono V (show 512 * (i / 512) ≤ 64 * (i / 64) by omega)
  unfold nearE
  rw [show i / 64 / 8 = i / 512 by omega]
  omega
def lastN' (l : List Nat) : Nat := l.getD (l.length - 1) 0
def lastE (l : List Nat) : Int := if l.length = 0 then -1 else (lastN' l : Int)
def lowW (n last : Nat) : Nat := if n < 1 ∨ last < n then 0 else blen (last / n) - 1
def wEl (l : List Nat) : Nat := lowW l.length (lastN' l)
theorem lowW_le {n last : Nat} (h : last ≤ 1099511627776) : lowW n last ≤ 40 := by
  unfold lowW
  split
  · omega
  · have h1 : last / n ≤ last := Nat.div_le_self _ _
    have := blen_le (n := last / n) (k := 41) (by rw [show (2 : Nat) ^ 41 = 2199023255552 from rfl]; omega)
    omega
theorem low_top {n last : Nat} (hn : 1 ≤ n) : last / 2 ^ lowW n last < 2 * n := by
  unfold lowW
  split
  · rw [Nat.pow_zero, Nat.div_one]; omega
  · rename_i h
    have h1 : last / n ≠ 0 := by
      have := Nat.div_pos (show n ≤ last by omega) (by omega : 0 < n)
      omega
    have h2 := lt_blen (last / n)
    have h3 := blen_pos h1
    have h4 : blen (last / n) = blen (last / n) - 1 + 1 := by omega
    rw [h4, Nat.pow_succ] at h2
    refine Nat.div_lt_of_lt_mul ?_
    have h5 : last < (last / n + 1) * n := by
      have := Nat.div_add_mod last n
      have := Nat.mod_lt last (show n > 0 by omega)
      rw [Nat.succ_mul, Nat.mul_comm]
      omega
    have h6 : (last / n + 1) * n ≤ (2 ^ (blen (last / n) - 1) * 2) * n := Nat.mul_le_mul_right _ h2
    rw [Nat.mul_assoc] at h6
    omega
theorem hiN_bd (l : List Nat) : hiN (wEl l) l ≤ 3 * l.length := by
  unfold hiN
  split
  · omega
  · have := low_top (n := l.length) (last := lastN' l) (by omega)
    unfold wEl
    unfold lastN' at this ⊢
    omega
theorem wEl_le {l : List Nat} (h : ∀ x, x ∈ l → x ≤ 1099511627776) : wEl l ≤ 40 := by
  unfold wEl
  by_cases h0 : l.length = 0
  · unfold lowW; rw [if_pos (by omega)]; omega
  · exact lowW_le (h _ (getD_mem (by omega)))
theorem find_chain {G : List (List Nat)} (hr : ∀ g, g ∈ G → Rise g) {g v : Nat} (hg : g < G.length) (hne : (G.getD g []).length ≠ 0) :
    findE (chainF G) (loG G g) (loG G g + (G.getD g []).length) (baseC (chainF (G.take g)) + v) = whereG G g v := by
  have hc := chainF_rise G hr
  have hgr : Rise (G.getD g []) := hr _ (by rw [List.getD_eq_getElem?_getD, List.getElem?_eq_getElem hg]; exact List.getElem_mem hg)
  have hlen : loG G g + (G.getD g []).length ≤ (chainF G).length := by
    rw [chainF_len, ← lo_succ hg]
    unfold loG
    have := take_sum_mono (cnts G) (i := g + 1) (j := (cnts G).length) (by simp [cnts]; omega)
    rwa [List.take_length] at this
  have hat := fun j (hj : j < (G.getD g []).length) => chain_at (G := G) hg hj
  by_cases hm : v ∈ G.getD g []
  · obtain ⟨j, hj, hv⟩ : ∃ j, j < (G.getD g []).length ∧ (G.getD g []).getD j 0 = v := by
      obtain ⟨j, hj, hv⟩ := List.getElem_of_mem hm
      exact ⟨j, hj, by rw [List.getD_eq_getElem?_getD, List.getElem?_eq_getElem hj]; exact hv⟩
    rw [whereG_hit hgr hj hv]
    have h1 := hat j hj
    rw [hv] at h1
    have hb : below (chainF G) (baseC (chainF (G.take g)) + v) = loG G g + j := by
      rw [← h1]; exact hc.below (by omega)
    unfold findE
    rw [hb, if_pos ⟨by omega, h1⟩, Nat.max_eq_left (by omega), if_pos ⟨by omega, h1⟩]
  · rw [whereG_miss hm]
    unfold findE
    split
    · rename_i h1
      rw [if_neg]
      rintro ⟨h2, h3⟩
      have h4 : max (below (chainF G) (baseC (chainF (G.take g)) + v)) (loG G g) = loG G g + (max (below (chainF G) (baseC (chainF (G.take g)) + v)) (loG G g) - loG G g) := by omega
      rw [h4, hat _ (by omega)] at h3
      exact hm (by
        have h5 : (G.getD g []).getD (max (below (chainF G) (baseC (chainF (G.take g)) + v)) (loG G g) - loG G g) 0 = v := by omega
        rw [← h5]; exact getD_mem (by omega))
    · rfl
end Go.Proofs.YtjpbijdpkdmeaaaGreat.Pv
namespace Go.Proofs.YtjpbijdpkdmeaaaGreat.Pv
open Go
def gA (L : List (List En)) (k : Nat) : List (List Int) := grm (L.getD k [])
def hasG (A : List (List Int)) (g : List Int) : Int := if g ∈ A then ((A.idxOf g : Nat) : Int) else -1
section
variable {W : Nat} {L : List (List En)}
theorem lev_at (h : Levs W none 0 L) {k : Nat} (hk : k < L.length) : Lev (if k = 0 then none else some (gA L (k - 1))) (k + 1) W (decide (k + 1 = L.length)) (L.getD k []) := by
  have := Levs.at' h (i := k) (l := L.getD k []) (by rw [List.getD_eq_getElem?_getD, List.getElem?_eq_getElem hk]; rfl)
  rw [Nat.zero_add] at this
  by_cases h0 : k = 0
  · rw [if_pos h0] at this ⊢; exact this
  · rw [if_neg h0] at this ⊢
    have e : (L[k - 1]?).map grm = some (gA L (k - 1)) := by
      unfold gA
      rw [List.getD_eq_getElem?_getD, List.getElem?_eq_getElem (by omega)]; rfl
    rw [e] at this; exact this
theorem gA_rise (h : Levs W none 0 L) {k : Nat} (hk : k < L.length) : RiseG (gA L k) := (lev_at h hk).r
theorem gA_len (h : Levs W none 0 L) {k : Nat} (hk : k < L.length) {x : List Int} (hx : x ∈ gA L k) : x.length = k + 1 := by
  obtain ⟨y, hy, rfl⟩ := List.mem_map.1 hx
  exact (lev_at h hk).len y hy
theorem gA_w (h : Levs W none 0 L) {k : Nat} (hk : k < L.length) {x : List Int} (hx : x ∈ gA L k) {v : Int} (hv : v ∈ x) : 0 ≤ v ∧ v < W := by
  obtain ⟨y, hy, rfl⟩ := List.mem_map.1 hx
  exact (lev_at h hk).w y hy v hv
theorem gA_pre (h : Levs W none 0 L) {k : Nat} (hk : k + 1 < L.length) {x : List Int} (hx : x ∈ gA L (k + 1)) : x.take (k + 1) ∈ gA L k := by
  obtain ⟨y, hy, rfl⟩ := List.mem_map.1 hx
  have := (lev_at h hk).pre (gA L k) (by rw [if_neg (by omega), Nat.add_sub_cancel]) y hy
  simpa using this
theorem gA_chain (h : Levs W none 0 L) : ∀ {k : Nat}, k < L.length → ∀ {x : List Int}, x ∈ gA L k → ∀ j, j ≤ k → x.take (j + 1) ∈ gA L j
  | 0, hk, x, hx, j, hj => by
    have e : j = 0 := by omega
    subst e
    rw [List.take_of_length_le (by rw [gA_len h hk hx]; exact Nat.le_refl _)]; exact hx
  | k + 1, hk, x, hx, j, hj => by
    by_cases e : j = k + 1
    · subst e
      rw [List.take_of_length_le (by rw [gA_len h hk hx]; exact Nat.le_refl _)]; exact hx
    · have := gA_chain h (by omega) (gA_pre h hk hx) j (by omega)
      rwa [List.take_take, Nat.min_eq_left (by omega)] at this
def mapd (L : List (List En)) (k : Nat) : Bool := decide (2 ≤ k) && (gA L k).all fun x => (gA L 1).contains [x.getD (k - 1) 0, x.getD k 0]
theorem mapd_mem {k : Nat} (hm : mapd L k = true) : 2 ≤ k ∧ ∀ x, x ∈ gA L k → [x.getD (k - 1) 0, x.getD k 0] ∈ gA L 1 := by
  unfold mapd at hm
  rw [Bool.and_eq_true, decide_eq_true_eq, List.all_eq_true] at hm
  exact ⟨hm.1, fun x hx => by simpa using hm.2 x hx⟩
def numT (W : Nat) (L : List (List En)) (k : Nat) : List Int → Nat := if mapd L k = true then rankN (pairG W (gA L 1)) k else lastN k
theorem getD_mem_I {x : List Int} {k : Nat} (h : k < x.length) : x.getD k 0 ∈ x := by
  rw [List.getD_eq_getElem?_getD, List.getElem?_eq_getElem h]; exact List.getElem_mem _
theorem pair_ok (h : Levs W none 0 L) (h1 : 1 < L.length) : PairOK W (gA L 1) := ⟨gA_rise h h1, fun p hp => gA_len h h1 hp, fun p hp x hx => gA_w h h1 hp hx⟩
theorem levT (h : Levs W none 0 L) {k : Nat} (hk : k + 1 < L.length) : LevOK (gA L k) (k + 1) (numT W L (k + 1)) (gA L (k + 1)) := by
  have w : ∀ x, x ∈ gA L (k + 1) → ∀ i, i ≤ k + 1 → 0 ≤ x.getD i 0 := fun x hx i hi => (gA_w h hk hx (getD_mem_I (by rw [gA_len h hk hx]; omega))).1
  unfold numT
  split
  · rename_i hm
    obtain ⟨m1, m2⟩ := mapd_mem hm
    exact lev_rank m1 (pair_ok h (by omega)) (gA_rise h (by omega)) (gA_rise h hk) (fun x hx => gA_len h hk hx) (fun x hx => gA_pre h hk hx) (fun x hx => ⟨w x hx _ (by omega), w x hx _ (Nat.le_refl _)⟩) m2
  · exact lev_last (gA_rise h (by omega)) (gA_rise h hk) (fun x hx => gA_len h hk hx) (fun x hx => gA_pre h hk hx) fun x hx => w x hx _ (Nat.le_refl _)
def gG (W : Nat) (L : List (List En)) (k : Nat) : List (List Nat) := levG (gA L (k - 1)) k (numT W L k) (gA L k)
def rankI (G : List (List Nat)) (a b : Int) : Int := if 0 ≤ a ∧ 0 ≤ b ∧ b.toNat ∈ G.getD a.toNat [] then ((rankG G a.toNat b.toNat : Nat) : Int) else -1
def numI (W : Nat) (L : List (List En)) (k : Nat) (a b : Int) : Int := if mapd L k = true then rankI (pairG W (gA L 1)) a b else b
def whereI (G : List (List Nat)) (i : Nat) (v : Int) : Int := if v < 0 ∨ 65536 ≤ v then -1 else whereG G i v.toNat
theorem rank_le (G : List (List Nat)) (a b : Nat) : rankG G a b ≤ (G.getD a []).length := below_le _ _
theorem find_step (h : Levs W none 0 L) (hW : W ≤ 65536) {k : Nat} (hk : k + 1 < L.length) {g : List Int} (hl : k + 1 < g.length) (hp : g.take (k + 1) ∈ gA L k) :
    whereI (gG W L (k + 1)) ((gA L k).idxOf (g.take (k + 1))) (numI W L (k + 1) (g.getD k 0) (g.getD (k + 1) 0)) = hasG (gA L (k + 1)) (g.take (k + 2)) := by
  have ht := levT h hk
  have e0 : (g.take (k + 2)).take (k + 1) = g.take (k + 1) := by rw [List.take_take, Nat.min_eq_left (by omega)]
  have e1 : (g.take (k + 2)).getD (k + 1) 0 = g.getD (k + 1) 0 := by
    rw [List.getD_eq_getElem?_getD, List.getElem?_take_of_lt (by omega), ← List.getD_eq_getElem?_getD]
  have e2 : (g.take (k + 2)).getD k 0 = g.getD k 0 := by
    rw [List.getD_eq_getElem?_getD, List.getElem?_take_of_lt (by omega), ← List.getD_eq_getElem?_getD]
  have hlen : (g.take (k + 2)).length = k + 1 + 1 := by rw [List.length_take]; omega
  have inw : g.take (k + 2) ∈ gA L (k + 1) → 0 ≤ g.getD (k + 1) 0 ∧ g.getD (k + 1) 0 < W := fun hm => by
    rw [← e1]
    exact gA_w h hk hm (getD_mem_I (by rw [hlen]; omega))
  have sp : ∀ x, x ∈ gA L (k + 1) → x.take (k + 1) = g.take (k + 1) → x.getD (k + 1) 0 = g.getD (k + 1) 0 → x = g.take (k + 2) := fun x hx a b => by
    rw [split_last (gA_len h hk hx), split_last hlen, e0, e1, a, b]
  have xw : ∀ x, x ∈ gA L (k + 1) → 0 ≤ x.getD (k + 1) 0 := fun x hx => (gA_w h hk hx (getD_mem_I (by rw [gA_len h hk hx]; omega))).1
  have find : ∀ v : Nat, (g.take (k + 2) ∈ gA L (k + 1) → numT W L (k + 1) (g.take (k + 2)) = v) → (∀ x, x ∈ gA L (k + 1) → x.take (k + 1) = g.take (k + 1) → numT W L (k + 1) x = v → x = g.take (k + 2)) → whereG (gG W L (k + 1)) ((gA L k).idxOf (g.take (k + 1))) v = hasG (gA L (k + 1)) (g.take (k + 2)) := fun v a b => by
    have := ht.find (g := g.take (k + 2)) hlen (by rw [e0]; exact hp) a (fun x hx hxp => b x hx (by rw [hxp, e0]))
    rw [e0] at this
    unfold hasG
    exact this
  have miss : g.take (k + 2) ∉ gA L (k + 1) → (-1 : Int) = hasG (gA L (k + 1)) (g.take (k + 2)) := fun hn => by unfold hasG; rw [if_neg hn]
  by_cases hm : mapd L (k + 1) = true
  · obtain ⟨m1, m2⟩ := mapd_mem hm
    have hB := pair_ok h (show 1 < L.length by omega)
    have hg0 : 0 ≤ g.getD k 0 := by
      have : (g.take (k + 1)).getD k 0 = g.getD k 0 := by rw [List.getD_eq_getElem?_getD, List.getElem?_take_of_lt (by omega), ← List.getD_eq_getElem?_getD]
      rw [← this]
      exact (gA_w h (by omega) hp (getD_mem_I (by rw [gA_len h (by omega) hp]; omega))).1
    have hnum : ∀ x, numT W L (k + 1) x = rankN (pairG W (gA L 1)) (k + 1) x := fun x => by unfold numT; rw [if_pos hm]
    unfold numI
    rw [if_pos hm]
    unfold rankI
    by_cases hr : 0 ≤ g.getD k 0 ∧ 0 ≤ g.getD (k + 1) 0 ∧ (g.getD (k + 1) 0).toNat ∈ (pairG W (gA L 1)).getD (g.getD k 0).toNat []
    · rw [if_pos hr]
      obtain ⟨_, r1, r2⟩ := hr
      have hlt : rankG (pairG W (gA L 1)) (g.getD k 0).toNat (g.getD (k + 1) 0).toNat < 65536 := by
        have hrise := hB.grp.rise (g.getD k 0).toNat
        obtain ⟨j, hj⟩ := List.mem_iff_getElem?.1 r2
        have hjl := (List.getElem?_eq_some_iff.1 hj).1
        have ej : ((pairG W (gA L 1)).getD (g.getD k 0).toNat []).getD j 0 = (g.getD (k + 1) 0).toNat := by rw [List.getD_eq_getElem?_getD, hj]; rfl
        have er : rankG (pairG W (gA L 1)) (g.getD k 0).toNat (g.getD (k + 1) 0).toNat = j := by
          unfold rankG; rw [← ej]; exact hrise.below hjl
        have hge : ∀ i, i ≤ j → i ≤ ((pairG W (gA L 1)).getD (g.getD k 0).toNat []).getD i 0 := by
          intro i
          induction i with
          | zero => intro _; exact Nat.zero_le _
          | succ i ih =>
            intro hi
            have := ih (by omega)
            have := hrise i (i + 1) (by omega) (by omega)
            omega
        have h1 := hge j (Nat.le_refl _)
        have h2 := (hB.mem hg0 r1).1 r2
        have h3 := hB.w _ h2 (g.getD (k + 1) 0) (by simp)
        rw [er]; omega
      unfold whereI
      rw [if_neg (by omega), Int.toNat_natCast]
      refine find _ (fun hm' => ?_) (fun x hx hxp hxn => ?_)
      · rw [hnum]; unfold rankN; rw [Nat.add_sub_cancel, e1, e2]
      · rw [hnum] at hxn
        unfold rankN at hxn
        rw [Nat.add_sub_cancel] at hxn
        have ek : x.getD k 0 = g.getD k 0 := take_getD (k := k + 1) (by omega) hxp
        have hx0 := xw x hx
        have hxm := m2 x hx
        rw [Nat.add_sub_cancel, ek] at hxm
        rw [ek] at hxn
        have := rank_inj (hB.grp.rise _) ((hB.mem hg0 hx0).2 hxm) r2 hxn
        exact sp x hx hxp (by omega)
    · rw [if_neg hr]
      unfold whereI
      rw [if_pos (by omega)]
      refine miss fun hm' => hr ⟨hg0, (inw hm').1, ?_⟩
      have := m2 _ hm'
      rw [Nat.add_sub_cancel, e1, e2] at this
      exact (hB.mem hg0 (inw hm').1).2 this
  · have hnum : ∀ x, numT W L (k + 1) x = lastN (k + 1) x := fun x => by unfold numT; rw [if_neg hm]
    unfold numI
    rw [if_neg hm]
    unfold whereI
    by_cases hv : g.getD (k + 1) 0 < 0 ∨ 65536 ≤ g.getD (k + 1) 0
    · rw [if_pos hv]
      exact miss fun hm' => by have := inw hm'; omega
    · rw [if_neg hv]
      refine find _ (fun _ => ?_) (fun x hx hxp hxn => ?_)
      · rw [hnum]; unfold lastN; rw [e1]
      · rw [hnum] at hxn
        unfold lastN at hxn
        have := xw x hx
        exact sp x hx hxp (by omega)
end
end Go.Proofs.YtjpbijdpkdmeaaaGreat.Pv
namespace Go.Proofs.YtjpbijdpkdmeaaaGreat.Pv
open Go
def dedA (l : List Int) : List Int := l.foldl (fun a x => if a.getLast? = some x then a else a ++ [x]) []
theorem dedA_snoc (l : List Int) (x : Int) : dedA (l ++ [x]) = if (dedA l).getLast? = some x then dedA l else dedA l ++ [x] := by unfold dedA; rw [List.foldl_append]; rfl
theorem dedA_last : ∀ l : List Int, (dedA l).getLast? = l.getLast? := by
  intro l
  have key : ∀ n (l : List Int), l.length = n → (dedA l).getLast? = l.getLast? := by
    intro n
    induction n with
    | zero => intro l h; rw [List.length_eq_zero_iff.1 h]; rfl
    | succ n ih =>
      intro l h
      have hne : l ≠ [] := fun e => by rw [e] at h; simp at h
      obtain ⟨l0, x, rfl⟩ : ∃ l0 x, l = l0 ++ [x] := ⟨_, _, (List.dropLast_concat_getLast hne).symm⟩
      rw [dedA_snoc]
      split
      · rename_i e; rw [e]; simp
      · simp
  exact key _ l rfl
theorem dedA_step (l : List Int) (x : Int) : dedA (l ++ [x]) = if l.getLast? = some x then dedA l else dedA l ++ [x] := by rw [dedA_snoc, dedA_last]
theorem dedA_take {l : List Int} {i : Nat} (h : i < l.length) : dedA (l.take (i + 1)) = if i ≠ 0 ∧ l.getD (i - 1) 0 = l.getD i 0 then dedA (l.take i) else dedA (l.take i) ++ [l.getD i 0] := by
  have e : l.getD i 0 = l[i] := by rw [List.getD_eq_getElem?_getD, List.getElem?_eq_getElem h]; rfl
  rw [List.take_succ_eq_append_getElem h, dedA_step, ← e]
  have hl : (l.take i).getLast? = if i = 0 then none else some (l.getD (i - 1) 0) := by
    split
    · rename_i h0; rw [h0]; simp
    · rw [List.getLast?_eq_getElem?, List.length_take, Nat.min_eq_left (by omega), List.getElem?_take_of_lt (by omega), List.getElem?_eq_getElem (by omega), List.getD_eq_getElem?_getD, List.getElem?_eq_getElem (by omega)]
      rfl
  rw [hl]
  by_cases h0 : i = 0
  · rw [if_pos h0, if_neg (by simp), if_neg (by omega)]
  · rw [if_neg h0]
    by_cases h1 : l.getD (i - 1) 0 = l.getD i 0
    · rw [if_pos (by rw [h1]), if_pos ⟨h0, h1⟩]
    · rw [if_neg (by simpa using h1), if_neg (fun h => h1 h.2)]
theorem dedA_mem : ∀ (l : List Int) (x : Int), x ∈ dedA l ↔ x ∈ l := by
  intro l
  have key : ∀ n (l : List Int), l.length = n → ∀ x, x ∈ dedA l ↔ x ∈ l := by
    intro n
    induction n with
    | zero => intro l h x; rw [List.length_eq_zero_iff.1 h]; simp [dedA]
    | succ n ih =>
      intro l h x
      have hne : l ≠ [] := fun e => by rw [e] at h; simp at h
      obtain ⟨l0, y, rfl⟩ : ∃ l0 x, l = l0 ++ [x] := ⟨_, _, (List.dropLast_concat_getLast hne).symm⟩
      have hi := ih l0 (by simpa using h)
      rw [dedA_snoc]
      split
      · rename_i e
        rw [hi, List.mem_append, List.mem_singleton]
        constructor
        · exact .inl
        · rintro (h1 | rfl)
          · exact h1
          · exact (hi _).1 (List.mem_of_getLast? e)
      · rw [List.mem_append, List.mem_append, hi]
  exact key _ l rfl
abbrev RiseI (l : List Int) : Prop := l.Pairwise (· < ·)
theorem dedA_rise : ∀ (l : List Int), l.Pairwise (· ≤ ·) → RiseI (dedA l) := by
  intro l
  have key : ∀ n (l : List Int), l.length = n → l.Pairwise (· ≤ ·) → RiseI (dedA l) := by
    intro n
    induction n with
    | zero => intro l h _; rw [List.length_eq_zero_iff.1 h]; exact List.Pairwise.nil
    | succ n ih =>
      intro l h hp
      have hne : l ≠ [] := fun e => by rw [e] at h; simp at h
      obtain ⟨l0, y, rfl⟩ : ∃ l0 x, l = l0 ++ [x] := ⟨_, _, (List.dropLast_concat_getLast hne).symm⟩
      obtain ⟨p1, _, p3⟩ := List.pairwise_append.1 hp
      have hi := ih l0 (by simpa using h) p1
      rw [dedA_snoc]
      split
      · exact hi
      · rename_i hl
        refine List.pairwise_append.2 ⟨hi, List.pairwise_singleton .., fun a ha b hb => ?_⟩
        have hb : b = y := by simpa using hb
        subst hb
        have h1 := p3 a ((dedA_mem l0 a).1 ha) b (by simp)
        apply Classical.byContradiction
        intro hn
        have e : a = b := by omega
        subst e
        -- then it is the last one
        apply hl
        obtain ⟨i, hi1⟩ := List.mem_iff_getElem?.1 ha
        have hil := (List.getElem?_eq_some_iff.1 hi1).1
        have hle : ∀ c, c ∈ dedA l0 → c ≤ a := fun c hc => p3 c ((dedA_mem l0 c).1 hc) a (by simp)
        rw [List.getLast?_eq_getElem?]
        by_cases e : i = (dedA l0).length - 1
        · rw [← e]; exact hi1
        · have h2 := List.pairwise_iff_getElem.1 hi i ((dedA l0).length - 1) hil (by omega) (by omega)
          have h3 := hle _ (List.getElem_mem (show (dedA l0).length - 1 < (dedA l0).length by omega))
          have h4 : (dedA l0)[i] = a := by
            have := (List.getElem?_eq_some_iff.1 hi1).2; exact this
          omega
  exact key _ l rfl
theorem idxI_get {l : List Int} {v : Int} (h : v ∈ l) : l[l.idxOf v]? = some v := by
  rw [List.getElem?_eq_getElem (List.idxOf_lt_length_iff.2 h), List.getElem_idxOf]
theorem riseI_idx {l : List Int} (h : RiseI l) {v : Int} (hv : v ∈ l) : (∀ i, i < l.idxOf v → l.getD i 0 < v) ∧ ∀ i, l.idxOf v ≤ i → i < l.length → v ≤ l.getD i 0 := by
  have hlt := List.idxOf_lt_length_iff.2 hv
  have e : l[l.idxOf v] = v := List.getElem_idxOf hlt
  refine ⟨fun i hi => ?_, fun i hi hi2 => ?_⟩
  · have := List.pairwise_iff_getElem.1 h i (l.idxOf v) (by omega) hlt hi
    rw [List.getD_eq_getElem?_getD, List.getElem?_eq_getElem (by omega)]
    rw [e] at this; exact this
  · rw [List.getD_eq_getElem?_getD, List.getElem?_eq_getElem hi2]
    by_cases e2 : i = l.idxOf v
    · subst e2; rw [Option.getD_some, e]; exact Int.le_refl _
    · have := List.pairwise_iff_getElem.1 h (l.idxOf v) i hlt hi2 (by omega)
      rw [e] at this
      rw [Option.getD_some]; omega
theorem rise_same : ∀ {l m : List Int}, RiseI l → RiseI m → (∀ x, x ∈ l ↔ x ∈ m) → l = m
  | [], [], _, _, _ => rfl
  | [], y :: m, _, _, h => absurd ((h y).2 (by simp)) (by simp)
  | x :: l, [], _, _, h => absurd ((h x).1 (by simp)) (by simp)
  | x :: l, y :: m, hl, hm, h => by
    obtain ⟨l1, l2⟩ := List.pairwise_cons.1 hl
    obtain ⟨m1, m2⟩ := List.pairwise_cons.1 hm
    have e : x = y := by
      have hx := (h x).1 (by simp)
      have hy := (h y).2 (by simp)
      rcases List.mem_cons.1 hx with e | hx
      · exact e
      · rcases List.mem_cons.1 hy with e | hy
        · exact e.symm
        · have := m1 x hx
          have := l1 y hy
          omega
    subst e
    refine congrArg _ (rise_same l2 m2 fun z => ?_)
    constructor
    · intro hz
      have := l1 z hz
      rcases List.mem_cons.1 ((h z).1 (List.mem_cons_of_mem _ hz)) with e | hm'
      · omega
      · exact hm'
    · intro hz
      have := m1 z hz
      rcases List.mem_cons.1 ((h z).2 (List.mem_cons_of_mem _ hz)) with e | hm'
      · omega
      · exact hm'
def insO (l : List Int) (v : Int) : List Int := l.filter (fun x => decide (x < v)) ++ v :: l.filter (fun x => decide (v < x))
theorem insO_mem {l : List Int} {v x : Int} : x ∈ insO l v ↔ x = v ∨ x ∈ l := by
  unfold insO
  simp only [List.mem_append, List.mem_cons, List.mem_filter, decide_eq_true_eq]
  constructor
  · rintro (h | h | h)
    · exact .inr h.1
    · exact .inl h
    · exact .inr h.1
  · rintro (h | h)
    · exact .inr (.inl h)
    · rcases Int.lt_trichotomy x v with h1 | h1 | h1
      · exact .inl ⟨h, h1⟩
      · exact .inr (.inl h1)
      · exact .inr (.inr ⟨h, h1⟩)
theorem insO_rise {l : List Int} (h : RiseI l) (v : Int) : RiseI (insO l v) := by
  unfold insO
  refine List.pairwise_append.2 ⟨h.filter _, List.pairwise_cons.2 ⟨fun a ha => by simpa using (List.mem_filter.1 ha).2, h.filter _⟩, fun a ha b hb => ?_⟩
  have h1 : a < v := by simpa using (List.mem_filter.1 ha).2
  rcases List.mem_cons.1 hb with rfl | hb
  · exact h1
  · have h2 : v < b := by simpa using (List.mem_filter.1 hb).2
    omega
def lvsI (l : List Int) : List Int := l.foldl insO []
theorem lvsI_snoc (l : List Int) (v : Int) : lvsI (l ++ [v]) = insO (lvsI l) v := by unfold lvsI; rw [List.foldl_append]; rfl
theorem lvsI_ok (l : List Int) : RiseI (lvsI l) ∧ ∀ x, x ∈ lvsI l ↔ x ∈ l := by
  have key : ∀ n (l : List Int), l.length = n → RiseI (lvsI l) ∧ ∀ x, x ∈ lvsI l ↔ x ∈ l := by
    intro n
    induction n with
    | zero => intro l h; rw [List.length_eq_zero_iff.1 h]; exact ⟨List.Pairwise.nil, fun x => Iff.rfl⟩
    | succ n ih =>
      intro l h
      have hne : l ≠ [] := fun e => by rw [e] at h; simp at h
      obtain ⟨l0, y, rfl⟩ : ∃ l0 x, l = l0 ++ [x] := ⟨_, _, (List.dropLast_concat_getLast hne).symm⟩
      obtain ⟨h1, h2⟩ := ih l0 (by simpa using h)
      rw [lvsI_snoc]
      refine ⟨insO_rise h1 y, fun x => ?_⟩
      rw [insO_mem, h2, List.mem_append, List.mem_singleton]
      exact Or.comm
  exact key _ l rfl
theorem ded_lvs {l s : List Int} (h1 : s.Pairwise (· ≤ ·)) (h2 : ∀ x, x ∈ s ↔ x ∈ l) : dedA s = lvsI l :=
  rise_same (dedA_rise s h1) (lvsI_ok l).1 fun x => by rw [dedA_mem, h2, (lvsI_ok l).2]
theorem flt_len (v : Int) : ∀ l : List Int, (l.filter (fun x => decide (x < v))).length + (l.filter (fun x => decide (v < x))).length ≤ l.length
  | [] => Nat.le_refl _
  | x :: l => by
    have := flt_len v l
    rw [List.filter_cons, List.filter_cons]
    by_cases h1 : x < v
    · rw [if_pos (by simpa using h1), if_neg (by simp; omega), List.length_cons, List.length_cons]; omega
    · rw [if_neg (by simpa using h1)]
      split <;> simp only [List.length_cons] <;> omega
theorem lvsI_len (l : List Int) : (lvsI l).length ≤ l.length := by
  have key : ∀ n (l : List Int), l.length = n → (lvsI l).length ≤ l.length := by
    intro n
    induction n with
    | zero => intro l h; rw [List.length_eq_zero_iff.1 h]; exact Nat.le_refl _
    | succ n ih =>
      intro l h
      have hne : l ≠ [] := fun e => by rw [e] at h; simp at h
      obtain ⟨l0, y, rfl⟩ : ∃ l0 x, l = l0 ++ [x] := ⟨_, _, (List.dropLast_concat_getLast hne).symm⟩
      have h1 := ih l0 (by simpa using h)
      have h2 := flt_len y (lvsI l0)
      rw [lvsI_snoc, insO, List.length_append, List.length_cons, List.length_append, List.length_singleton]
      omega
  exact key _ l rfl
def pP (w : Nat) (l : List Nat) : PC := .rd [bN' (l.length * w) (pkV w l), nI .i64 w, nI .i64 l.length]
def rdV (n V : Nat) : PC := .rd [nSl .u64 (wsN n V), nSl .i64 (marksL n V), nSl .u16 (nearL n V), nI .i64 n]
noncomputable def sdV (n V : Nat) : PC := .rd [nSl .u64 (wsN n V), rdV n V, nSl .i32 (sampF (f1 V n) (needN n)), nSl .i32 (sampF (f0 V n) (needN n)), nI .i64 n]
noncomputable def esV (l : List Nat) : PC :=
  .rd [nI .i64 l.length, eI .i64 (lastE l), nI .i64 (wEl l), pP (wEl l) (l.map (· % 2 ^ wEl l)), bN' (hiN (wEl l) l) (hiV (wEl l) l), rdV (hiN (wEl l) l) (hiV (wEl l) l), sdV (hiN (wEl l) l) (hiV (wEl l) l)]
noncomputable def pfV (c : List Nat) : PC := .rd [esV (preS c)]
noncomputable def rwV (G : List (List Nat)) : PC := .rd [pfV (cnts G), esV (chainF G)]
noncomputable def mpV (G : List (List Nat)) : PC := .rd [rwV G]
def bkV (l : List Int) : PC := .rd [iSl l]
def cwF (l : List Int) : Nat := blen ((lvsI l).length - 1)
def cdF (l : List Int) : List Nat := l.map fun v => (lvsI l).idxOf v
def colC (l : List Int) : List PC := [bkV (lvsI l), pP (cwF l) (cdF l)]
abbrev prbs (l : List En) : List Int := l.map fun x => x.2.1
abbrev bcks (l : List En) : List Int := l.map fun x => x.2.2
abbrev nilPt : PC := .sc (.pointer none)
noncomputable def levC (W : Nat) (L : List (List En)) (k : Nat) : List PC :=
  colC (prbs (L.getD k [])) ++ (colC (bcks (L.getD k [])) ++ [nI .i64 (L.getD k []).length, if k = 0 then nilPt else rwV (gG W L k), .sc (.bool (mapd L k))])
noncomputable def prsV (W : Nat) (L : List (List En)) : PC := if L.length < 3 then nilPt else mpV (pairG W (gA L 1))
noncomputable def trV (m : Md) : PC := .rd [eI .i64 m.frac, .dead, prsV m.words.length m.L, .sl 7 ((List.range m.L.length).map (levC m.words.length m.L))]
theorem andN {x y : Nat} (hx : x < 18446744073709551616) (hy : y < 18446744073709551616) : IntKind.u64.wrap ((BitVec.ofInt IntKind.u64.bits (x : Int) &&& BitVec.ofInt IntKind.u64.bits (y : Int)).toNat : Int) = ((x &&& y : Nat) : Int) := by
  have e : (BitVec.ofInt IntKind.u64.bits (x : Int) &&& BitVec.ofInt IntKind.u64.bits (y : Int)).toNat = x &&& y := by
    show (BitVec.ofInt 64 (x : Int) &&& BitVec.ofInt 64 (y : Int)).toNat = _
    rw [BitVec.ofInt_natCast, BitVec.ofInt_natCast, BitVec.toNat_and, BitVec.toNat_ofNat, BitVec.toNat_ofNat, Nat.mod_eq_of_lt (by omega : x < 2 ^ 64), Nat.mod_eq_of_lt (by omega : y < 2 ^ 64)]
  have h3 : x &&& y ≤ y := Nat.and_le_right
  rw [e]
  exact wU rfl (by omega) (by omega)
theorem shr1 {x : Nat} : (x : Int).fdiv (2 ^ min (1 : Int).toNat 64) = ((x / 2 : Nat) : Int) := shrN (x := x) (k := 1) (by omega)
theorem shr2 {x : Nat} : (x : Int).fdiv (2 ^ min (2 : Int).toNat 64) = ((x / 4 : Nat) : Int) := shrN (x := x) (k := 2) (by omega)
theorem shr4 {x : Nat} : (x : Int).fdiv (2 ^ min (4 : Int).toNat 64) = ((x / 16 : Nat) : Int) := shrN (x := x) (k := 4) (by omega)
theorem shrb8 {x : Nat} : (x : Int).fdiv (2 ^ min (8 : Int).toNat 64) = ((x / 256 : Nat) : Int) := shrN (x := x) (k := 8) (by omega)
theorem shrb16 {x : Nat} : (x : Int).fdiv (2 ^ min (16 : Int).toNat 64) = ((x / 65536 : Nat) : Int) := shrN (x := x) (k := 16) (by omega)
theorem shr32 {x : Nat} : (x : Int).fdiv (2 ^ min (32 : Int).toNat 64) = ((x / 4294967296 : Nat) : Int) := shrN (x := x) (k := 32) (by omega)
theorem m85 : rep8 85 8 = 6148914691236517205 := by decide
theorem m51 : rep8 51 8 = 3689348814741910323 := by decide
theorem m15 : rep8 15 8 = 1085102592571150095 := by decide
theorem ofInt_wrap {x : Nat} (hx : x < 18446744073709551616) : (BitVec.ofInt 64 (IntKind.i64.wrap (x : Int))).toNat = x := by
  rw [BitVec.toNat_ofInt]
  have e : IntKind.i64.wrap (x : Int) = x ∨ IntKind.i64.wrap (x : Int) = (x : Int) - 18446744073709551616 := by
    simp [IntKind.wrap, IntKind.signed, IntKind.bits]
    first | omega | (split <;> omega)
  rcases e with e | e <;> rw [e] <;> omega
theorem and127 {d : Nat} (h : d < 18446744073709551616) : IntKind.i64.wrap ((BitVec.ofInt IntKind.i64.bits (IntKind.i64.wrap (d : Int)) &&& BitVec.ofInt IntKind.i64.bits (127 : Int)).toNat : Int) = ((d % 128 : Nat) : Int) := by
  have e : (BitVec.ofInt IntKind.i64.bits (IntKind.i64.wrap (d : Int)) &&& BitVec.ofInt IntKind.i64.bits (127 : Int)).toNat = d % 128 := by
    show (BitVec.ofInt 64 (IntKind.i64.wrap (d : Int)) &&& BitVec.ofInt 64 ((2 ^ 7 - 1 : Nat) : Int)).toNat = _
    rw [BitVec.ofInt_natCast, BitVec.toNat_and, ofInt_wrap h, BitVec.toNat_ofNat, Nat.mod_eq_of_lt (by decide : 2 ^ 7 - 1 < 2 ^ 64), Nat.and_two_pow_sub_one_eq_mod]
  rw [e]
  exact wI rfl (by omega) (by omega)
theorem onesC_ct (x : Nat) (hx : x < 18446744073709551616) : Ct P 161 [.c (nI .u64 x)] [.c (nI .i64 (popc x))] := by
  obtain ⟨a1, ha1⟩ : ∃ a, a = sw1 8 x := ⟨_, rfl⟩
  obtain ⟨a2, ha2⟩ : ∃ a, a = sw2 8 a1 := ⟨_, rfl⟩
  obtain ⟨a, ha⟩ : ∃ a, a = sw3 8 a2 := ⟨_, rfl⟩
  obtain ⟨b, hb⟩ : ∃ b, b = a + a / 256 := ⟨_, rfl⟩
  obtain ⟨c, hc⟩ : ∃ c, c = b + b / 65536 := ⟨_, rfl⟩
  obtain ⟨d, hd⟩ : ∃ d, d = c + c / 4294967296 := ⟨_, rfl⟩
  obtain ⟨w1, w2, w3, w4, w5⟩ := swar hx (by rw [ha, ha2, ha1, (sw_all 8 x).1]) hb hc hd
  have l1 : x / 2 &&& 6148914691236517205 ≤ 6148914691236517205 := Nat.and_le_right
  have l2 : x &&& 6148914691236517205 ≤ 6148914691236517205 := Nat.and_le_right
  have l3 : a1 / 4 &&& 3689348814741910323 ≤ 3689348814741910323 := Nat.and_le_right
  have l4 : a1 &&& 3689348814741910323 ≤ 3689348814741910323 := Nat.and_le_right
  have e1 : a1 = (x / 2 &&& 6148914691236517205) + (x &&& 6148914691236517205) := by rw [ha1, sw1, m85]
  have e2 : a2 = (a1 / 4 &&& 3689348814741910323) + (a1 &&& 3689348814741910323) := by rw [ha2, sw2, m51]
  have e3 : a = (a2 / 16 + a2) &&& 1085102592571150095 := by rw [ha, sw3, m15]
  have k1 : a1 < 18446744073709551616 := by omega
  have k2 : a2 ≤ 7378697629483820646 := by omega
  have k3 : a2 / 16 + a2 < 18446744073709551616 := by omega
  have k4 : a ≤ b := by omega
  refine Ct.go T_ok T_mix (N := 35) Tryz.func161 rfl rfl rfl rfl ?_
  refine And.intro (by decide) (X1 _ shr1 (And.intro (inU (by omega)) ?_))
  refine X1 _ (andN (y := 6148914691236517205) (by omega) (by decide)) ?_
  refine X1 _ (andN (y := 6148914691236517205) hx (by decide)) ?_
  refine X1 (a1 : Int) (wU (by rw [e1]; rfl) (by omega) (by omega)) ?_
  refine And.intro (by decide) (X1 _ shr2 (And.intro (inU (by omega)) ?_))
  refine X1 _ (andN (y := 3689348814741910323) (by omega) (by decide)) ?_
  refine X1 _ (andN (y := 3689348814741910323) k1 (by decide)) ?_
  refine X1 (a2 : Int) (wU (by rw [e2]; rfl) (by omega) (by omega)) ?_
  refine And.intro (by decide) (X1 _ shr4 (And.intro (inU (by omega)) ?_))
  refine X1 ((a2 / 16 + a2 : Nat) : Int) (wU rfl (by omega) (by omega)) ?_
  refine X1 _ (andN (y := 1085102592571150095) k3 (by decide)) ?_
  rw [← e3]
  refine And.intro (by decide) (X1 _ shrb8 (And.intro (inU (by omega)) ?_))
  refine X1 (b : Int) (wU (by rw [hb]; rfl) (by omega) (by omega)) ?_
  refine And.intro (by decide) (X1 _ shrb16 (And.intro (inU (by omega)) ?_))
  refine X1 (c : Int) (wU (by rw [hc]; rfl) (by omega) (by omega)) ?_
  refine And.intro (by decide) (X1 _ shr32 (And.intro (inU (by omega)) ?_))
  refine X1 (d : Int) (wU (by rw [hd]; rfl) (by omega) (by omega)) ?_
  refine X1 _ rfl ?_
  refine X1 _ (and127 w3) ?_
  exact ⟨trivial, r1 (iE (by rw [w1])), trivial⟩
theorem ones_ct (x : Nat) (hx : x < 18446744073709551616) : Ct P 159 [.c (nI .u64 x)] [.c (nI .i64 (popc x))] := by
  refine Ct.go T_ok T_mix (N := 5) Tryz.func159 rfl rfl rfl rfl ?_
  refine X1 _ (onesC_ct x hx) ?_
  exact ⟨trivial, r1 rfl, trivial⟩
theorem lrank_ct (x i : Nat) (hx : x < 18446744073709551616) (hi : i ≤ 64) : Ct P 160 [.c (nI .u64 x), .c (nI .i64 i)] [.c (nI .i64 (rk x i))] := by
  have h1 := Nat.mod_le x (2 ^ i)
  refine Ct.go T_ok T_mix (N := 10) Tryz.func160 rfl rfl rfl rfl ?_
  refine X1 _ (mask_ct i hi) ?_
  refine X1 _ (andM hx hi) ?_
  refine X1 _ (onesC_ct (x % 2 ^ i) (by omega)) ?_
  exact ⟨trivial, r1 rfl, trivial⟩
theorem select_ct (x k i : Nat) (hx : x < 18446744073709551616) (hk : k < popc x) (hi : IsOne x k i) : Ct P 120 [.c (nI .u64 x), .c (nI .i64 k)] [.c (nI .i64 i)] := by
  have hp : popc x ≤ 64 := by
    have := rk_le x 64
    rwa [rk_top (by rw [p64]; exact hx) (Nat.le_refl _)] at this
  refine Ct.go T_ok T_mix (N := 38) Tryz.func120 rfl rfl rfl rfl ?_
  refine X1 _ (onesC_ct x hx) ?_
  refine dcase (fun h => absurd h (by omega)) (fun _ => ?_)
  refine loopJ T_ok T_mix (G := Nat × Nat × Nat × Nat) (fun (a, q, e, hf) => hf = 2 ^ e / 2 ∧ e ≤ 6 ∧ a + 2 ^ e ≤ 64 ∧ rk x a + q = k ∧ q < rk (x / 2 ^ a) (2 ^ e))
    (fun (a, q, e, hf) => [(0, .c (nI .u64 x)), (1, .c (nI .i64 q)), (5, .c (nI .i64 a)), (6, .c (nI .i64 hf))]) (fun _ => []) (fun (_, _, e, _) => e)
    (0, k, 6, 32) ⟨rfl, by omega, by decide, by rw [rk_0]; omega, by rw [Nat.pow_zero, Nat.div_one]; show k < rk x 64; rw [rk_top (by rw [p64]; exact hx) (Nat.le_refl _)]; exact hk⟩ ⟨rfl, rfl, rfl, rfl, trivial⟩ trivial
    (fun _ : Unit => True) (fun _ => [(5, .c (nI .i64 i))]) (fun _ => []) (fun (a, q, e, hf) hg => ?_) (fun _ _ => ?_)
  · obtain ⟨h0, h1, h2, h3, h4⟩ := hg
    refine dcase (fun h5 => ?_) (fun h5 => ?_)
    · obtain ⟨e, rfl⟩ : ∃ n, e = n + 1 := ⟨e - 1, by
        have : e ≠ 0 := by intro h; subst h; rw [h0] at h5; exact absurd h5 (by decide)
        omega⟩
      have hp2 := Nat.two_pow_pos e
      have hs : 2 ^ (e + 1) = 2 * 2 ^ e := by rw [Nat.pow_succ]; omega
      have hh : hf = 2 ^ e := by omega
      subst hh
      have hle := Nat.div_le_self x (2 ^ a)
      have hmod := Nat.mod_le (x / 2 ^ a) (2 ^ 2 ^ e)
      have hrl := rk_le (x / 2 ^ a) (2 ^ e)
      refine X1 ((a : Nat) : Int) (wU rfl (by omega) (by omega)) ?_
      refine And.intro (by omega) (X1 ((x / 2 ^ a : Nat) : Int) (shrN (by omega)) (And.intro (inU (by omega)) ?_))
      refine X1 _ (mask_ct (2 ^ e) (by omega)) ?_
      refine X1 _ (andM (by omega) (by omega)) ?_
      refine X1 _ (onesC_ct _ (by omega)) ?_
      have hrk : popc (x / 2 ^ a % 2 ^ 2 ^ e) = rk (x / 2 ^ a) (2 ^ e) := rfl
      rw [hrk]
      refine dcase (fun h6 => ?_) (fun h6 => ?_)
      · refine X1 ((q - rk (x / 2 ^ a) (2 ^ e) : Nat) : Int) (wI (by omega) (by omega) (by omega)) ?_
        refine X1 ((a + 2 ^ e : Nat) : Int) (wI (by omega) (by omega) (by omega)) ?_
        refine And.intro (by decide) (X1 ((2 ^ e / 2 : Nat) : Int) (tdivN rfl) (And.intro ⟨by omega, by omega⟩ ?_))
        refine ⟨(a + 2 ^ e, q - rk (x / 2 ^ a) (2 ^ e), e, 2 ^ e / 2), ⟨rfl, by omega, by omega, ?_, ?_⟩, by show e < e + 1; omega, ⟨rfl, rfl, rfl, rfl, trivial⟩, trivial⟩
        · rw [rk_add]; omega
        · rw [hs, show 2 * 2 ^ e = 2 ^ e + 2 ^ e by omega, rk_add, Nat.div_div_eq_div_mul, ← Nat.pow_add] at h4
          omega
      · refine And.intro (by decide) (X1 ((2 ^ e / 2 : Nat) : Int) (tdivN rfl) (And.intro ⟨by omega, by omega⟩ ?_))
        exact ⟨(a, q, e, 2 ^ e / 2), ⟨rfl, by omega, by omega, h3, by omega⟩, by show e < e + 1; omega, ⟨rfl, rfl, rfl, rfl, trivial⟩, trivial⟩
    · have he : e = 0 := by
        apply Classical.byContradiction
        intro h
        obtain ⟨n, rfl⟩ : ∃ n, e = n + 1 := ⟨e - 1, by omega⟩
        have := Nat.two_pow_pos n
        rw [Nat.pow_succ] at h0
        omega
      subst he
      have := sel_end h3 h4
      have hai := this.uniq hi
      subst hai
      exact ⟨(), trivial, ⟨rfl, trivial⟩, trivial⟩
  · exact ⟨trivial, r1 rfl, trivial⟩
theorem nRow_ix {k : IntKind} {l : List Nat} {i : Nat} (h : i < l.length) : (nRow k l)[((i : Nat) : Int).toNat]? = some [nI k (l.getD i 0)] := nRow_getN rfl h
theorem maxE (a b : Nat) : (if (a : Int) < (b : Int) then (b : Int) else (a : Int)) = ((max a b : Nat) : Int) := by split <;> omega
theorem greatest_ct (l : List Nat) (hl : l.length ≤ 1000000) : Ct P 155 [.c (nSl .u64 l)] [.c (nI .u64 (mxL l))] := by
  refine Ct.go T_ok T_mix (N := 17) Tryz.func155 rfl rfl rfl rfl ?_
  refine And.intro (by rw [nRow_len]; omega) ?_
  rw [nRow_len]
  refine loopJ T_ok T_mix (fun i : Nat => i ≤ l.length) (fun i => [(3, .c (nI .u64 (mxL (l.take i)))), (6, .c (nSl .u64 l)), (7, .c (nI .i64 l.length)), (8, .c (nI .i64 i))]) (fun _ => []) (fun i => l.length - i)
    0 (by omega) ⟨rfl, rfl, rfl, rfl, trivial⟩ trivial (fun _ : Unit => True) (fun _ => [(3, .c (nI .u64 (mxL l)))]) (fun _ => []) (fun i hi => ?_) (fun _ _ => ?_)
  · refine dcase (fun h5 => ?_) (fun h5 => ?_)
    · have hi' : i < l.length := by omega
      refine And.intro (by omega) (X1 _ (nRow_ix hi') ?_)
      refine X1 ((i + 1 : Nat) : Int) (wI1 (by omega)) ?_
      exact ⟨i + 1, by omega, by omega, ⟨iE (by rw [mxL_take hi', maxE]), rfl, rfl, rfl, trivial⟩, trivial⟩
    · have e : i = l.length := by omega
      subst e
      exact ⟨(), trivial, ⟨iE (by rw [List.take_length]), trivial⟩, trivial⟩
  · exact ⟨trivial, r1 rfl, trivial⟩
theorem nI_lt {l : List Nat} {w : Nat} (h : ∀ x, x ∈ l → x < 2 ^ w) {i : Nat} (hi : i < l.length) : l.getD i 0 < 2 ^ w := h _ (getD_mem hi)
theorem made_ct (w : Nat) (l : List Nat) (hw : w ≤ 64) (hl : l.length ≤ 100000) (h : ∀ x, x ∈ l → x < 2 ^ w) : Ct P 156 [.c (nI .i64 w), .c (nSl .u64 l)] [.c (pP w l)] := by
  have hT := Ty.own_ok [109] T_ok
  refine Ct.go hT T_mix (N := 29) Tryz.func156 rfl rfl rfl rfl ?_
  refine X2 (.own [] [(2, 60)]) ?_
  refine ⟨_, _, bnew_ct', ?_⟩
  refine And.intro (by rw [nRow_len]; omega) ?_
  refine And.intro (by rw [nRow_len]; omega) ?_
  rw [nRow_len]
  refine nilVar (r := 61) (k := 60) (i := 0) (sz := 1) rfl rfl rfl ?_
  refine loopJ hT T_mix (fun i : Nat => i ≤ l.length) (fun i => [(0, .c (nI .i64 w)), (5, .c (.ad 13 0)), (14, .c (nSl .u64 l)), (15, .c (nI .i64 l.length)), (16, .c (nI .i64 i))])
    (fun i => [(13, .var [.ad 60 0, nI .i64 w, nI .i64 l.length]), (60, .var [.ow 61 1 (needN (i * w)), nI .i64 (i * w)]), (61, .row 1 (nRow .u64 (wsN (i * w) (pkV w (l.take i)))))]) (fun i => l.length - i)
    0 (by omega) ⟨rfl, rfl, rfl, rfl, rfl, trivial⟩ ⟨rfl, by rw [Nat.zero_mul]; rfl, by rw [Nat.zero_mul]; rfl, trivial⟩ (fun _ : Unit => True) (fun _ => [(5, .c (.ad 13 0))])
    (fun _ => [(13, .var [.ad 60 0, nI .i64 w, nI .i64 l.length]), (60, .var [.ow 61 1 (wsN (l.length * w) (pkV w l)).length, nI .i64 (l.length * w)]), (61, .row 1 (nRow .u64 (wsN (l.length * w) (pkV w l))))]) (fun i hi => ?_) (fun _ _ => ?_)
  · refine dcase (fun h5 => ?_) (fun h5 => ?_)
    · have hi' : i < l.length := by omega
      have hx := nI_lt h hi'
      have hb : i * w ≤ 100000 * 64 := Nat.mul_le_mul (by omega) hw
      have hlt := pkV_lt (w := w) (l := l.take i) fun x hx => h x (List.mem_of_mem_take hx)
      rw [List.length_take, Nat.min_eq_left hi] at hlt
      have hadd := badd'_ct (i * w) (pkV w (l.take i)) (l.getD i 0) w hlt hx hw (by omega)
      refine And.intro (by omega) (X1 _ (nRow_ix hi') ?_)
      refine X2 (.own [(60, 1000000), (61, 1000001)] [(1000000, 60), (200, 61)]) ?_
      refine ⟨_, _, hadd, ?_⟩
      refine X1 ((i + 1 : Nat) : Int) (wI1 (by omega)) ?_
      rw [← pkV_take hi']
      refine ⟨i + 1, by omega, by omega, ⟨rfl, rfl, rfl, rfl, rfl, trivial⟩, ⟨rfl, by rw [Nat.succ_mul]; rfl, by rw [Nat.succ_mul]; rfl, trivial⟩⟩
    · have e : i = l.length := by omega
      subst e
      exact ⟨(), trivial, ⟨rfl, trivial⟩, ⟨rfl, by rw [wsN_len]; rfl, by rw [List.take_length]; rfl, trivial⟩⟩
  · exact ⟨trivial, r1 rfl, trivial⟩
theorem pnew_ct (w : Nat) (l : List Nat) (hw : w ≤ 64) (hl : l.length ≤ 100000) (h : ∀ x, x ∈ l → x < 2 ^ w) : Ct P 112 [.c (nI .i64 w), .c (nSl .u64 l)] [.c (pP w l), .c (nI .i64 0)] := by
  have hm := mxL_lt (Nat.two_pow_pos w) h
  have hp : 2 ^ w ≤ 2 ^ 64 := Nat.pow_le_pow_right (by omega) hw
  rw [p64] at hp
  have hb := blen_le hm
  refine Ct.go T_ok T_mix (N := 20) Tryz.func112 rfl rfl rfl rfl ?_
  refine dcase (fun h => absurd h (by omega)) (fun _ => ?_)
  refine X1 _ (greatest_ct l (by omega)) ?_
  refine X1 _ (width_ct (mxL l) (by omega)) ?_
  refine dcase (fun h => absurd h (by omega)) (fun _ => ?_)
  refine X1 _ (made_ct w l hw hl h) ?_
  exact ⟨trivial, r1 rfl, r1 rfl, trivial⟩
theorem plen_ct (w : Nat) (l : List Nat) : Ct P 21 [.c (pP w l)] [.c (nI .i64 l.length)] := by
  refine Ct.go T_ok T_mix (N := 9) Tryz.func21 rfl rfl rfl rfl ?_
  exact ⟨trivial, r1 rfl, trivial⟩
def mixS (h : Nat) (b : UInt8) : Nat := (h ^^^ b.toNat) * 1099511628211 % 18446744073709551616
def mixL (l : List UInt8) : Nat := l.foldl mixS 14695981039346656037
def mixF (s : ByteArray) : Nat := mixL s.data.toList ^^^ mixL s.data.toList / 536870912
theorem mixS_lt (h : Nat) (b : UInt8) : mixS h b < 18446744073709551616 := by unfold mixS; exact Nat.mod_lt _ (by decide)
theorem mixL_snoc (l : List UInt8) (b : UInt8) : mixL (l ++ [b]) = mixS (mixL l) b := by unfold mixL; rw [List.foldl_append, List.foldl_cons, List.foldl_nil]
theorem mixL_lt' : ∀ (l : List UInt8) (h : Nat), h < 18446744073709551616 → l.foldl mixS h < 18446744073709551616
  | [], h, hh => hh
  | b :: l, h, _ => mixL_lt' l _ (mixS_lt h b)
theorem mixL_lt (l : List UInt8) : mixL l < 18446744073709551616 := by unfold mixL; exact mixL_lt' l _ (by decide)
theorem xor_lt {x y : Nat} (hx : x < 18446744073709551616) (hy : y < 18446744073709551616) : x ^^^ y < 18446744073709551616 := by
  have := Nat.xor_lt_two_pow (n := 64) (x := x) (y := y) (by rw [p64]; exact hx) (by rw [p64]; exact hy)
  rw [p64] at this
  exact this
theorem mixF_lt (s : ByteArray) : mixF s < 18446744073709551616 := xor_lt (mixL_lt _) (Nat.lt_of_le_of_lt (Nat.div_le_self _ _) (mixL_lt _))
theorem xorN {x y : Nat} (hx : x < 18446744073709551616) (hy : y < 18446744073709551616) : IntKind.u64.wrap ((BitVec.ofInt IntKind.u64.bits (x : Int) ^^^ BitVec.ofInt IntKind.u64.bits (y : Int)).toNat : Int) = ((x ^^^ y : Nat) : Int) := by
  have e : (BitVec.ofInt IntKind.u64.bits (x : Int) ^^^ BitVec.ofInt IntKind.u64.bits (y : Int)).toNat = x ^^^ y := by
    show (BitVec.ofInt 64 (x : Int) ^^^ BitVec.ofInt 64 (y : Int)).toNat = _
    rw [BitVec.ofInt_natCast, BitVec.ofInt_natCast, BitVec.toNat_xor, BitVec.toNat_ofNat, BitVec.toNat_ofNat, Nat.mod_eq_of_lt (by omega : x < 2 ^ 64), Nat.mod_eq_of_lt (by omega : y < 2 ^ 64)]
  have h3 := xor_lt hx hy
  rw [e]
  exact wU rfl (by omega) (by omega)
theorem and_mask {x : Int} {n k : Nat} (hk : k ≤ 40) (hx : ((BitVec.ofInt 64 x).toNat) % 2 ^ k = n % 2 ^ k) : IntKind.i64.wrap ((BitVec.ofInt IntKind.i64.bits x &&& BitVec.ofInt IntKind.i64.bits ((2 ^ k - 1 : Nat) : Int)).toNat : Int) = ((n % 2 ^ k : Nat) : Int) := by
  have h1 : 2 ^ k ≤ 2 ^ 40 := Nat.pow_le_pow_right (by omega) hk
  have h4 : (2 : Nat) ^ 40 = 1099511627776 := rfl
  have h2 := Nat.two_pow_pos k
  have e : (BitVec.ofInt IntKind.i64.bits x &&& BitVec.ofInt IntKind.i64.bits ((2 ^ k - 1 : Nat) : Int)).toNat = n % 2 ^ k := by
    show (BitVec.ofInt 64 x &&& BitVec.ofInt 64 ((2 ^ k - 1 : Nat) : Int)).toNat = _
    rw [BitVec.ofInt_natCast, BitVec.toNat_and, BitVec.toNat_ofNat, Nat.mod_eq_of_lt (by omega : 2 ^ k - 1 < 2 ^ 64), Nat.and_two_pow_sub_one_eq_mod]
    exact hx
  have h3 := Nat.mod_lt n h2
  rw [e]
  exact wI rfl (by omega) (by omega)
theorem and_hash {x k : Nat} (hk : k ≤ 40) (hx : x < 18446744073709551616) : IntKind.i64.wrap ((BitVec.ofInt IntKind.i64.bits (IntKind.i64.wrap (x : Int)) &&& BitVec.ofInt IntKind.i64.bits ((2 ^ k - 1 : Nat) : Int)).toNat : Int) = ((x % 2 ^ k : Nat) : Int) :=
  and_mask hk (by rw [ofInt_wrap hx])
theorem and_next {x k : Nat} (hk : k ≤ 40) (hx : x < 9223372036854775808) : IntKind.i64.wrap ((BitVec.ofInt IntKind.i64.bits (x : Int) &&& BitVec.ofInt IntKind.i64.bits ((2 ^ k - 1 : Nat) : Int)).toNat : Int) = ((x % 2 ^ k : Nat) : Int) :=
  and_mask hk (by rw [BitVec.ofInt_natCast, BitVec.toNat_ofNat, Nat.mod_eq_of_lt (by omega : x < 2 ^ 64)])
theorem way_next {α : Type} {H : α → Nat} {s : List Nat} {k : α} {e : Nat} : (wayS H s k e + 1) % s.length = wayS H s k (e + 1) := by
  unfold wayS
  rw [Nat.mod_add_mod, Nat.add_assoc]
end Go.Proofs.YtjpbijdpkdmeaaaGreat.Pv
namespace Go.Proofs.YtjpbijdpkdmeaaaGreat.Pv
open Go
section
variable {F : Fence} {n : Nat} {P : Program} {Q0 Q : Exit → Act → World → Prop} {ops : List Oper} {ms : List Nat} {np : Nat}
theorem wpIn_q {o : Oper} {a : Act} {w : World} {K K' : Act → World → Prop} (h : ∀ a w, K a w → K' a w) (hp : ∀ c a w, Q0 (.panic c) a w → Q (.panic c) a w) (hl : LetsOut Q0 → LetsOut Q)
    (hh : o.wpIn F n P a w K Q0) : o.wpIn F n P a w K' Q := by
  unfold Oper.wpIn at *
  refine ⟨hh.1, ?_⟩
  have hh := hh.2
  generalize (o.semAt F.round a.eval).run P w = r at *
  cases r with
  | ok x w' =>
    cases x <;> simp only [Oper.uponIn] at hh ⊢ <;>
      first
        | exact h _ _ hh
        | exact ⟨hh.1, CallsIn.mono hh.2 (fun e w'' he => by cases e <;> first | exact h _ _ he | exact hp _ _ _ he | exact hl he)⟩
        | exact ⟨hh.1, RowsIn.mono hh.2 (fun _ _ he => h _ _ he)⟩
        | exact ⟨hh.1, RoundIn.mono hh.2 (fun e w'' he => by cases e <;> first | exact h _ _ he | exact hp _ _ _ he | exact hl he)⟩
  | halt x w' => cases x <;> simp only [Oper.uponIn] at hh ⊢ <;> first | exact hp _ _ _ hh | exact hh
def doneK (len k : Nat) : Array Bool := (List.replicate k true ++ List.replicate (len - k) false).toArray
theorem doneK_size {len k : Nat} (h : k ≤ len) : (doneK len k).size = len := by simp [doneK]; omega
theorem doneK_get {len k i : Nat} (h : k ≤ len) (d : Bool) : (doneK len k).getD i d = if i < k then true else if i < len then false else d := by
  unfold doneK
  rw [Array.getD_eq_getD_getElem?, List.getElem?_toArray]
  split
  · rename_i h1; rw [List.getElem?_append_left (by simpa using h1), List.getElem?_replicate, if_pos h1]; rfl
  · rename_i h1
    rw [List.getElem?_append_right (by simp; omega), List.getElem?_replicate]
    split
    · rename_i h2; rw [if_pos (by simp at h2; omega)]; rfl
    · rename_i h2; rw [if_neg (by simp at h2; omega)]; rfl
theorem doneK_set {len k : Nat} (h : k < len) : (doneK len k).setIfInBounds k true = doneK len (k + 1) := by
  apply Array.ext
  · rw [Array.size_setIfInBounds, doneK_size (by omega), doneK_size (by omega)]
  · intro i h1 h2
    have e1 := doneK_get (len := len) (k := k) (i := i) (by omega) false
    have e2 := doneK_get (len := len) (k := k + 1) (i := i) (by omega) false
    have hs : i < (doneK len k).size := by simpa using h1
    rw [Array.getD, dif_pos hs] at e1
    rw [Array.getD, dif_pos h2] at e2
    rw [Array.getElem_setIfInBounds]
    split
    · rename_i e; subst e; rw [show (doneK len (k + 1))[k] = true from by rw [show (doneK len (k + 1))[k] = (doneK len (k + 1)).getInternal k h2 from rfl, e2, if_pos (by omega)]]
    · rename_i e
      rw [show (doneK len k)[i] = (doneK len k).getInternal i hs from rfl, e1, show (doneK len (k + 1))[i] = (doneK len (k + 1)).getInternal i h2 from rfl, e2]
      have hi : i < len := by rw [doneK_size (by omega)] at hs; exact hs
      by_cases h3 : i < k
      · rw [if_pos h3, if_pos (by omega)]
      · rw [if_neg h3, if_pos hi, if_neg (by omega)]
    · exact hs
structure Chain (ops : List Oper) (ms : List Nat) (np : Nat) : Prop where
  ok : MaskOk ops ms
  len : ms.length = ops.length
  all : ∀ k, np ≤ k → k < ops.length → ∀ j, j < k → bitB (ms.getD k 0) j = true
  gd : ∀ (i : Nat) (o : Oper) (j : Nat) (b : Bool), i < np → ops[i]? = some o → o.guard = some (j, b) → j < np
  le : np ≤ ops.length
theorem Chain.back (h : Chain ops ms np) {i : Nat} {o : Oper} (ho : ops[i]? = some o) : ∀ e, e ∈ o.after.toList → Region.binds .any e = true → e.on < i :=
  (h.ok i o (by rw [h.len]; exact (List.getElem?_eq_some_iff.1 ho).1) ho).1
theorem Chain.ready (h : Chain ops ms np) {L : Array Bool} (hL : L.size = ops.length) (hcl : ∀ (i : Nat) (o : Oper) e, L.getD i false = true → ops[i]? = some o → e ∈ o.after.toList → Region.binds .any e = true → L.getD e.on false = true)
    {i : Nat} (hi : i ∈ Region.ready .any ops.toArray L) (hn : np ≤ i) : ∀ j, j < i → L.getD j false = true := by
  intro j hj
  obtain ⟨_, o, ho, hed⟩ := mem_ready.1 hi
  have ho' : ops[i]? = some o := by simpa using ho
  have hil := (List.getElem?_eq_some_iff.1 ho').1
  have hb := h.all i hn hil j hj
  obtain ⟨e, he, hbi, h3⟩ := (h.ok i o (by rw [h.len]; exact hil) ho').2 j hb
  have hs : L.getD e.on false = true := hed e (by simpa using he) hbi
  rcases h3 with rfl | h3
  · exact hs
  · refine h.ok.closed (S := fun i => L.getD i false = true) hcl (fun i hi => ?_) e.on j hs h3
    have : i < L.size := by
      apply Classical.byContradiction
      intro hge
      simp [Array.getD, hge] at hi
    exact ⟨by rw [h.len]; omega, ops[i]'(by omega), by simp⟩
theorem ready_first (hb : ∀ (i : Nat) (o : Oper), ops[i]? = some o → ∀ e, e ∈ o.after.toList → Region.binds .any e = true → e.on < i) {L : Array Bool} (hL : L.size = ops.length) (hr : Region.ready .any ops.toArray L = []) : ∀ i, i < ops.length → L.getD i false = true := by
  intro i
  induction i using Nat.strongRecOn with
  | _ i ih =>
    intro hi
    cases hbb : L.getD i false with
    | true => rfl
    | false =>
      have : i ∈ Region.ready .any ops.toArray L := by
        rw [mem_ready]
        refine ⟨?_, ops[i], by simp [hi], fun e he hbi => ?_⟩
        · have hlt : i < L.size := by omega
          simp [hlt] at hbb ⊢
          exact hbb
        · have hlt := hb i ops[i] (by simp [hi]) e (by simpa using he) hbi
          exact ih e.on hlt (by omega)
      rw [hr] at this
      cases this
theorem doneK_closed (h : Chain ops ms np) {k : Nat} (hk : k ≤ ops.length) : ∀ (i : Nat) (o : Oper) e, (doneK ops.length k).getD i false = true → ops[i]? = some o → e ∈ o.after.toList → Region.binds .any e = true → (doneK ops.length k).getD e.on false = true := by
  intro i o e hi ho he hb
  rw [doneK_get hk] at hi ⊢
  have hik : i < k := by
    apply Classical.byContradiction
    intro hge
    rw [if_neg hge] at hi
    split at hi <;> cases hi
  rw [if_pos (by have := h.back ho e he hb; omega)]
theorem any_chain (h : Chain ops ms np) : ∀ (l : List Oper) (k : Nat) (a : Act) (w : World), ops.drop k = l → np ≤ k → k ≤ ops.length → wpListIn F n P ops.toArray Q l a w → ∀ f, l.length ≤ f → wpAnyIn F n P .any ops.toArray Q f (doneK ops.length k) a w
  | [], k, a, w, hl, hn, hk, hw, f, _ => by
    have hke : k = ops.length := by
      have := congrArg List.length hl
      rw [List.length_drop] at this
      simp at this
      omega
    refine wpAnyIn_done ?_ hw f
    cases hr : Region.ready .any ops.toArray (doneK ops.length k) with
    | nil => rfl
    | cons x r =>
      have : x ∈ Region.ready .any ops.toArray (doneK ops.length k) := by rw [hr]; simp
      obtain ⟨h1, o, ho, _⟩ := mem_ready.1 this
      have hx : x < ops.length := by have := (Array.getElem?_eq_some_iff.1 ho).1; simpa using this
      rw [doneK_get hk, if_pos (by omega)] at h1
      cases h1
  | o :: l, k, a, w, hl, hn, hk, hw, f, hf => by
    have hkl : k < ops.length := by
      have := congrArg List.length hl
      rw [List.length_drop] at this
      simp at this
      omega
    have hok : ops[k]? = some o := by
      have := congrArg (·[0]?) hl
      simpa using this
    have hrest : ops.drop (k + 1) = l := by
      have := congrArg List.tail hl
      simpa [List.tail_drop] using this
    obtain ⟨f, rfl⟩ : ∃ g, f = g + 1 := ⟨f - 1, by simp at hf; omega⟩
    have hsz := doneK_size (len := ops.length) (k := k) hk
    refine ⟨fun hr => ?_, fun i hi => ?_⟩
    · have := ready_first (fun i o ho => h.back ho) hsz hr k hkl
      rw [doneK_get hk, if_neg (by omega), if_pos hkl] at this
      cases this
    · have hik : i = k := by
        obtain ⟨h1, _⟩ := mem_ready.1 hi
        have hge : ¬ i < k := fun hlt => by
          rw [doneK_get hk, if_pos hlt] at h1
          cases h1
        apply Classical.byContradiction
        intro hne
        have := h.ready hsz (doneK_closed h hk) hi (by omega) k (by omega)
        rw [doneK_get hk, if_neg (by omega), if_pos hkl] at this
        cases this
      subst hik
      rw [doneK_set hkl]
      unfold wpListIn at hw
      unfold wpOpIn
      rw [show ops.toArray[i]? = some o by simpa using hok]
      have ih : ∀ a w, wpListIn F n P ops.toArray Q l a w → wpAnyIn F n P .any ops.toArray Q f (doneK ops.length (i + 1)) a w := fun a w h' => any_chain h l (i + 1) a w hrest (by omega) (by omega) h' f (by simp at hf; omega)
      simp only
      split
      · rename_i hwant
        rw [if_pos hwant] at hw
        exact Oper.wpIn_mono ih hw
      · rename_i hwant
        rw [if_neg hwant] at hw
        exact ⟨hw.1, ih _ _ hw.2⟩
def ext (lp : Array Bool) (m : Nat) : Array Bool := (lp.toList ++ List.replicate m false).toArray
theorem ext_size {lp : Array Bool} {m : Nat} : (ext lp m).size = lp.size + m := by simp [ext]
theorem ext_get {lp : Array Bool} {m i : Nat} (d : Bool) : (ext lp m).getD i d = if i < lp.size then lp.getD i d else if i < lp.size + m then false else d := by
  unfold ext
  rw [Array.getD_eq_getD_getElem?, List.getElem?_toArray]
  split
  · rename_i h1
    rw [List.getElem?_append_left (by simpa using h1), Array.getElem?_toList, Array.getElem?_eq_getElem h1]
    rfl
  · rename_i h1
    rw [List.getElem?_append_right (by simpa using h1), List.getElem?_replicate]
    simp only [Array.length_toList]
    split
    · rename_i h2; rw [if_pos (by omega)]; rfl
    · rename_i h2; rw [if_neg (by omega)]; rfl
theorem ext_set {lp : Array Bool} {m i : Nat} (h : i < lp.size) : (ext lp m).setIfInBounds i true = ext (lp.setIfInBounds i true) m := by
  unfold ext
  rw [List.setIfInBounds_toArray, List.set_append_left _ _ (by simpa using h), Array.toList_setIfInBounds]
theorem ext_all {lp : Array Bool} {m len : Nat} (hs : lp.size = np) (hl : len = np + m) (h : ∀ i, i < np → lp.getD i false = true) : ext lp m = doneK len np := by
  unfold ext doneK
  congr 2
  · refine List.ext_getElem (by simp [hs]) fun i h1 h2 => ?_
    have h3 := h i (by simpa [hs] using h1)
    have h4 : i < lp.size := by simpa using h1
    rw [Array.getD, dif_pos h4] at h3
    simpa using h3
  · congr 1
    omega
theorem any_first (h : Chain ops ms np) (hq : ∀ a w, Q0 .normal a w → ∀ f, ops.length - np ≤ f → wpAnyIn F n P .any ops.toArray Q f (doneK ops.length np) a w) (hp : ∀ c a w, Q0 (.panic c) a w → Q (.panic c) a w) (hl : LetsOut Q0 → LetsOut Q) :
    ∀ (fuel : Nat) (lp : Array Bool) (a : Act) (w : World), lp.size = np →
      (∀ (i : Nat) (o : Oper) e, lp.getD i false = true → ops[i]? = some o → e ∈ o.after.toList → Region.binds .any e = true → lp.getD e.on false = true) →
      wpAnyIn F n P .any (ops.take np).toArray Q0 fuel lp a w → ∀ f, fuel + (ops.length - np) ≤ f → wpAnyIn F n P .any ops.toArray Q f (ext lp (ops.length - np)) a w := by
  have hle := h.le
  have hpre : (ops.take np).length = np := by simp; omega
  have hpb : ∀ (i : Nat) (o : Oper), (ops.take np)[i]? = some o → ∀ e, e ∈ o.after.toList → Region.binds .any e = true → e.on < i := fun i o ho => by
    rw [List.getElem?_take] at ho
    split at ho
    · exact h.back ho
    · cases ho
  intro fuel
  induction fuel with
  | zero =>
    intro lp a w hs hcl hw f hf
    have hall := ready_first hpb (by rw [hpre]; exact hs) hw.1
    rw [ext_all hs (len := ops.length) (by omega) (fun i hi => hall i (by omega))]
    exact hq a w hw.2 f (by omega)
  | succ fuel ih =>
    intro lp a w hs hcl hw f hf
    by_cases hr : Region.ready .any (ops.take np).toArray lp = []
    · have hall := ready_first hpb (by rw [hpre]; exact hs) hr
      rw [ext_all hs (len := ops.length) (by omega) (fun i hi => hall i (by omega))]
      exact hq a w (hw.1 hr) f (by omega)
    · obtain ⟨j0, hj0⟩ := List.exists_mem_of_ne_nil _ hr
      obtain ⟨hj1, o0, ho0, _⟩ := mem_ready.1 hj0
      have hj0n : j0 < np := by
        have := (Array.getElem?_eq_some_iff.1 ho0).1
        simp at this
        omega
      have hj0f : lp.getD j0 false = false := by
        have hlt : j0 < lp.size := by omega
        simp [hlt] at hj1 ⊢
        exact hj1
      obtain ⟨f, rfl⟩ : ∃ g, f = g + 1 := ⟨f - 1, by omega⟩
      have hsz : (ext lp (ops.length - np)).size = ops.length := by rw [ext_size, hs]; omega
      have hcl' : ∀ (i : Nat) (o : Oper) e, (ext lp (ops.length - np)).getD i false = true → ops[i]? = some o → e ∈ o.after.toList → Region.binds .any e = true → (ext lp (ops.length - np)).getD e.on false = true := by
        intro i o e hi ho he hb
        rw [ext_get] at hi ⊢
        have hin : i < lp.size := by
          apply Classical.byContradiction
          intro hge
          rw [if_neg hge] at hi
          split at hi <;> cases hi
        rw [if_pos hin] at hi
        have := h.back ho e he hb
        rw [if_pos (by omega)]
        exact hcl i o e hi ho he hb
      have hmem : ∀ i, i ∈ Region.ready .any ops.toArray (ext lp (ops.length - np)) → i < np := fun i hi => by
        apply Classical.byContradiction
        intro hge
        have := h.ready hsz hcl' hi (by omega) j0 (by omega)
        rw [ext_get, if_pos (by omega), hj0f] at this
        cases this
      refine ⟨fun hr' => ?_, fun i hi => ?_⟩
      · have := ready_first (fun i o ho => h.back ho) hsz hr' j0 (by omega)
        rw [ext_get, if_pos (by omega), hj0f] at this
        cases this
      · have hin := hmem i hi
        obtain ⟨g1, o, ho, hed⟩ := mem_ready.1 hi
        have ho' : ops[i]? = some o := by simpa using ho
        have hop : (ops.take np)[i]? = some o := by rw [List.getElem?_take, if_pos hin]; exact ho'
        have hi' : i ∈ Region.ready .any (ops.take np).toArray lp := by
          refine mem_ready.2 ⟨?_, o, by simpa using hop, fun e he hb => ?_⟩
          · rw [ext_get, if_pos (by omega)] at g1
            exact g1
          · have := hed e he hb
            have hlt := h.back ho' e (by simpa using he) hb
            rw [ext_get, if_pos (by omega)] at this
            exact this
        have hw2 := hw.2 i hi'
        rw [ext_set (by omega)]
        have next : ∀ a w, wpAnyIn F n P .any (ops.take np).toArray Q0 fuel (lp.setIfInBounds i true) a w → wpAnyIn F n P .any ops.toArray Q f (ext (lp.setIfInBounds i true) (ops.length - np)) a w := fun a w hh => by
          refine ih _ a w (by simpa using hs) ?_ hh f (by omega)
          intro i' o' e hi' ho' he hb
          by_cases e1 : i' = i
          · subst e1
            rw [show o' = o from by rw [ho'] at *; simp_all] at he
            have hlt := h.back (by assumption) e he hb
            have h5 := hed e (by simpa using he) hb
            rw [ext_get, if_pos (by omega)] at h5
            exact getD_set_true h5
          · rw [Go.getD_set_ne false (Ne.symm e1)] at hi'
            exact getD_set_true (hcl i' o' e hi' ho' he hb)
        unfold wpOpIn at hw2 ⊢
        rw [show ops.toArray[i]? = some o by simpa using ho']
        rw [show (ops.take np).toArray[i]? = some o by simpa using hop] at hw2
        have hwant : Region.wanted o (yielded (ops.take np).toArray a.tmps) = Region.wanted o (yielded ops.toArray a.tmps) := by
          unfold Region.wanted
          cases hg : o.guard with
          | none => rfl
          | some p =>
            obtain ⟨j, b⟩ := p
            have hj := h.gd i o j b hin ho' hg
            have : yielded (ops.take np).toArray a.tmps j = yielded ops.toArray a.tmps j := by
              unfold yielded
              simp only [List.getElem?_toArray, List.getElem?_take, if_pos hj]
            simp only [this]
        simp only at hw2 ⊢
        rw [hwant] at hw2
        split
        · rename_i hwt
          rw [if_pos hwt] at hw2
          exact wpIn_q next hp hl hw2
        · rename_i hwt
          rw [if_neg hwt] at hw2
          exact ⟨hw2.1, next _ _ hw2.2⟩
end
def allB (m : Nat) : Nat → Bool
  | 0 => true
  | k + 1 => bitB m k && allB m k
theorem allB_spec {m : Nat} : ∀ {k : Nat}, allB m k = true → ∀ j, j < k → bitB m j = true
  | k + 1, h, j, hj => by
    simp only [allB, Bool.and_eq_true] at h
    by_cases e : j = k
    · subst e; exact h.1
    · exact allB_spec h.2 j (by omega)
def lastB : Nat → List Nat → Bool
  | _, [] => true
  | k, m :: l => allB m k && lastB (k + 1) l
theorem lastB_spec : ∀ {l : List Nat} {k i : Nat}, lastB k l = true → i < l.length → ∀ j, j < k + i → bitB (l.getD i 0) j = true
  | m :: l, k, 0, h, _, j, hj => by
    simp only [lastB, Bool.and_eq_true] at h
    exact allB_spec h.1 j hj
  | m :: l, k, i + 1, h, hi, j, hj => by
    simp only [lastB, Bool.and_eq_true] at h
    exact lastB_spec (k := k + 1) (i := i) h.2 (by simpa using hi) j (by omega)
def gdB (np : Nat) (o : Oper) : Bool := match o.guard with | some (j, _) => Nat.blt j np | none => true
def chainB (ops : List Oper) (np : Nat) : Bool := match masks ops [] with
  | some ms => lastB np (ms.drop np) && ((ops.take np).all (gdB np) && Nat.ble np ops.length)
  | none => false
theorem chainB_spec {ops : List Oper} {np : Nat} (h : chainB ops np = true) : ∃ ms, Chain ops ms np := by
  unfold chainB at h
  split at h
  · rename_i ms hm
    simp only [Bool.and_eq_true, List.all_eq_true] at h
    obtain ⟨h1, h2, h3⟩ := h
    obtain ⟨hok, hlen⟩ := masks_spec hm (ops := ops) (fun i o hi => by simp at hi) (fun i => by simp)
    have hlen : ms.length = ops.length := by simpa using hlen
    refine ⟨ms, hok, hlen, fun k hk hkl j hj => ?_, fun i o j b hi ho hg => ?_, Nat.le_of_ble_eq_true h3⟩
    · have := lastB_spec (i := k - np) h1 (by rw [List.length_drop]; omega) j (by omega)
      rw [List.getD_eq_getElem?_getD, List.getElem?_drop, show np + (k - np) = k by omega, ← List.getD_eq_getElem?_getD] at this
      exact this
    · have := h2 o (List.mem_of_getElem? (i := i) (by rw [List.getElem?_take, if_pos hi]; exact ho))
      unfold gdB at this
      rw [hg] at this
      exact Nat.lt_of_lt_of_le (Nat.lt_succ_self _) (Nat.le_of_ble_eq_true this)
  · cases h
section
variable {P : Program} {T : Ty} {N : Nx} {E : Env} {O : Objs} {Q : PQ}
theorem regC0 (hT : T.ok P) (hm : P.follows .mixedOrders = true) {id : Nat} {ops : List Oper} (np : Nat) (hc : chainB ops np = true)
    (h : regD P T N (ops.take np) (ops.take np) E O [] (fun E' O' R => checkD (ops.take np) O R.reverse = true ∧ regS P T N ops (ops.drop np) E' O' (fun E O => Q .normal E O))) : W P N E O (.region id ops.toArray true) Q := by
  intro R B old K ok w a hs
  obtain ⟨ms0, hch⟩ := chainB_spec hc
  have hle := hch.le
  have hpl : (ops.take np).length = np := by simp; omega
  let Q1 : PQ := fun e E O => match e with | .normal => regS P T N ops (ops.drop np) E O (fun E O => Q .normal E O) | e => Q e E O
  obtain ⟨R', En, On, h1, ⟨h2, h3⟩, h4⟩ := regD_sound hT (ops.take np) E O [] h Told.nil
  obtain ⟨ms, hchk⟩ := checkD_spec h2
  have hp := hs.hp.drew
  have hmono := RelV.mono (K := K) (K' := K) (w := w) (w' := w.drew) (ok := ok) (ok' := ok)
  have hrep : Array.replicate ops.toArray.size false = ext (Array.replicate np false) (ops.length - np) := by
    unfold ext
    apply Array.toList_inj.1
    simp only [Array.toList_replicate, List.size_toArray]
    rw [List.replicate_append_replicate, show np + (ops.length - np) = ops.length by omega]
  refine wpIn_region_any hm ?_
  rw [hrep]
  refine any_first (Q0 := Post ⟨N, R, B, old⟩ K ok w O Q1) (Q := Post ⟨N, R, B, old⟩ K ok w O Q) hch (fun a' w' hq f hf => ?_) (fun c a' w' hq => hq) (fun hq => hq) np (Array.replicate np false) a w.drew (by simp) (fun i o e hi => by
    by_cases hlt : i < np <;> simp [hlt] at hi) (any_sound (N := ⟨N, R, B, old⟩) (Q := Q1) hchk h1 (by simpa using h4) h3 np (Array.replicate np false) a w.drew E O K ok ?_ ?_ ?_ ?_ ?_ ?_ ?_) ops.toArray.size (by rw [List.size_toArray]; omega)
  · obtain ⟨E', O', K', ok', hr, hs', hf'⟩ := hq
    exact any_chain hch (ops.drop np) np a' w' rfl (Nat.le_refl _) hle (wpList_fr hf' _ _ _ (regS_sound (X := ⟨N, R, B, old⟩) hT (ops.drop np) E' O' hr K' ok' w' a' hs')) f (by rw [List.length_drop]; exact hf)
  · simp; omega
  · simp
  · intro i o e hi
    by_cases hlt : i < np <;> simp [hlt] at hi
  · intro t av he
    rcases he with ⟨u, r, _, hu, _⟩ | ⟨_, he, _⟩
    · by_cases hlt : u < np <;> simp [hlt] at hu
    · exact he
  · intro k ob
    constructor
    · intro ho
      refine .inr ⟨fun u r _ hu => ?_, ho⟩
      by_cases hlt : u < np <;> simp [hlt] at hu
    · rintro (⟨u, r, _, hu, _⟩ | ⟨_, ho⟩)
      · by_cases hlt : u < np <;> simp [hlt] at hu
      · exact ho
  · refine ⟨hs.size, hs.defers, hs.base, hs.rnd, hs.old, hp, fun t av he => ?_⟩
    obtain ⟨v, hv, hr⟩ := hs.env t av he
    exact ⟨v, hv, hmono (fun _ h => h) (fun _ _ _ => rfl) (Nat.le_refl _) hr (fun r _ => ⟨rfl, fun _ _ _ cs e fr hc => ⟨cs, e, fr, hc, rfl⟩⟩)⟩
  · exact ⟨Nat.le_refl _, fun _ _ _ _ => rfl, fun _ h => h, fun _ h => .inl h, fun k o _ L h1 h2 => .inr ⟨k, o, L, h1, h2⟩, rfl, rfl, rfl, fun _ o h => ⟨o, h, SK.refl o⟩, fun _ _ => rfl, fun _ h => .inl h⟩
theorem regC (hT : T.ok P) (hm : P.follows .mixedOrders = true) {id : Nat} {ops : Array Oper} (np : Nat) (hc : chainB ops.toList np = true)
    (h : regD P T N (ops.toList.take np) (ops.toList.take np) E O [] (fun E' O' R => checkD (ops.toList.take np) O R.reverse = true ∧ regS P T N ops.toList (ops.toList.drop np) E' O' (fun E O => Q .normal E O))) : WI P N E O (.region id ops true) Q :=
    .of (regC0 (ops := ops.toList) hT hm np hc h)
end
end Go.Proofs.YtjpbijdpkdmeaaaGreat.Pv
