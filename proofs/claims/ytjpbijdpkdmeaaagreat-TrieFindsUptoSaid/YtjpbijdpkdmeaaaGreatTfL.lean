/- Parts of a proof, joined: Mh Mu Mv Mw Mx My Mz Na Cq Ct Cu Nb. -/
import Derived.Test.YtjpbijdpkdmeaaaGreatTfK
namespace Go.Proofs.YtjpbijdpkdmeaaaGreat.Pv
open Go
theorem wrap32 {h : Nat} (hh : h ≤ 2147483647) : IntKind.i32.wrap (h : Int) = (h : Int) := wrap_of_inR ⟨by omega, by omega⟩
theorem f1_step {V n k : Nat} (hV : V < 2 ^ n) : f1 V n (k + 1) = f1 V n k + popc (wdN V k) := by
  have h1 := wd_popc (a := k) hV
  have h2 := f1_mono (V := V) (n := n) (show k ≤ k + 1 by omega)
  omega
theorem f0_step {V n k : Nat} (hV : V < 2 ^ n) (hk : 64 * k < n) : f0 V n (k + 1) + popc (wdN V k) = f0 V n k + min 64 (n - 64 * k) ∧ popc (wdN V k) ≤ min 64 (n - 64 * k) := by
  have h1 := f1_step (k := k) hV
  have h2 := f0_mono (V := V) (n := n) (show k ≤ k + 1 by omega)
  have h3 := rk_le V (min (64 * k) n)
  have h4 := rk_le V (min (64 * (k + 1)) n)
  unfold f0 f1 at *
  omega
theorem f1_le (V n k : Nat) : f1 V n k ≤ n := by
  have := rk_le V (min (64 * k) n)
  unfold f1; omega
theorem f0_le (V n k : Nat) : f0 V n k ≤ n := by unfold f0; omega
theorem sampOK_len {f : Nat → Nat} {k : Nat} {S : List Nat} (h : SampOK f k S) : S.length ≤ f k := by
  have := h.lo
  omega
theorem sampIn_len {f : Nat → Nat} {k : Nat} {S : List Nat} (h : SampIn f k S) : S.length ≤ f (k + 1) := by
  have := h.lo
  omega
theorem app_row4 {k : IntKind} {n : Nat} {l : List Nat} {els2 : List (List PC)} {X : Prop} (hn : n = l.length) (h : l.length + els2.length ≤ 4000000) (hc : closedLL els2) (hX : X) :
    n = (nRow k l).length ∧ ((nRow k l).length + els2.length + 768) * 4 ≤ 17592186044416 ∧ (nRow k l).length + els2.length ≤ 35184372088832 ∧ closedLL (nRow k l) ∧ closedLL els2 ∧ X := by
  rw [nRow_len]
  exact ⟨hn, by omega, by omega, nRow_closed, hc, hX⟩
set_option maxHeartbeats 2000000 in
theorem sdnew_ct (n V : Nat) (hV : V < 2 ^ n) (hn : n ≤ 1000000) : Ct P 114 [.c (bN' n V)] [.c (sdV n V)] := by
  have hK := needN_le n
  refine Ct.go T_ok T_mix (N := 93) Tryz.func114 rfl rfl rfl rfl ?_
  refine X1 _ (bwords'_ct n V hn) ?_
  refine X1 _ (rdnew_ct n V hV hn) ?_
  refine X1 _ (blen'_ct n V) ?_
  refine And.intro (by rw [nRow_len, wsN_len]; omega) ?_
  rw [nRow_len, wsN_len]
  refine nilVar (r := 61) (k := 16) (i := 2) (sz := 1) rfl rfl rfl ?_
  refine nilVar (r := 62) (k := 16) (i := 3) (sz := 1) rfl rfl rfl ?_
  refine loopJ T_ok T_mix (G := Nat × List Nat × List Nat) (fun (k, S, S') => k ≤ needN n ∧ SampOK (f1 V n) k S ∧ SampOK (f0 V n) k S') (fun (k, S, S') => [(3, .c (.ad 16 0)), (4, .c (nI .i64 (f1 V n k))), (5, .c (nI .i64 (f0 V n k))), (21, .c (nI .i64 (needN n))), (22, .c (nI .i64 k))])
    (fun (k, S, S') => [(16, .var [nSl .u64 (wsN n V), rdV n V, .ow 61 1 S.length, .ow 62 1 S'.length, nI .i64 n]), (61, .row 1 (nRow .i32 S)), (62, .row 1 (nRow .i32 S'))]) (fun (k, S, S') => needN n - k)
    (0, [], []) ⟨by omega, SampOK.nil (f1_0 V n), SampOK.nil (f0_0 V n)⟩ ⟨rfl, iE (by rw [f1_0]; rfl), iE (by rw [f0_0]; rfl), rfl, rfl, trivial⟩ ⟨rfl, rfl, rfl, trivial⟩
    (fun _ : Unit => True) (fun _ => [(3, .c (.ad 16 0))]) (fun _ => [(16, .var [nSl .u64 (wsN n V), rdV n V, .ow 61 1 (sampF (f1 V n) (needN n)).length, .ow 62 1 (sampF (f0 V n) (needN n)).length, nI .i64 n]), (61, .row 1 (nRow .i32 (sampF (f1 V n) (needN n)))), (62, .row 1 (nRow .i32 (sampF (f0 V n) (needN n))))]) (fun (k, S, S') hk => ?_) (fun _ _ => ?_)
  · obtain ⟨h1, h2, h3⟩ := hk
    refine dcase (fun h5 => ?_) (fun h5 => ?_)
    · have hk' : k < needN n := by omega
      have hkn : 64 * k < n := by unfold needN at hk'; omega
      obtain ⟨q1, q2⟩ := f0_step hV hkn
      have q3 := f1_step (k := k) hV
      have q4 := f1_le V n (k + 1)
      have q5 := f0_le V n (k + 1)
      have q6 := f1_le V n k
      have q7 := f0_le V n k
      have m1 := f1_mono (V := V) (n := n) (show k ≤ k + 1 by omega)
      have m0 := f0_mono (V := V) (n := n) (show k ≤ k + 1 by omega)
      refine And.intro (by omega) (X1 _ (wsN_ix hk') ?_)
      refine X1 _ (ones_ct _ (wdN_lt V k)) ?_
      refine X1 ((64 * k : Nat) : Int) (wI (by omega) (by omega) (by omega)) ?_
      refine X1 ((n - 64 * k : Nat) : Int) (wI (by omega) (by omega) (by omega)) ?_
      refine X1 ((min 64 (n - 64 * k) - popc (wdN V k) : Nat) : Int) (wI (by split <;> omega) (by omega) (by omega)) ?_
      refine loopJ T_ok T_mix (fun S : List Nat => SampIn (f1 V n) k S) (fun S => [(3, .c (.ad 16 0)), (4, .c (nI .i64 (f1 V n k))), (5, .c (nI .i64 (f0 V n k))), (6, .c (nI .i64 k)), (7, .c (nI .i64 (popc (wdN V k)))), (8, .c (nI .i64 (min 64 (n - 64 * k) - popc (wdN V k) : Nat))), (21, .c (nI .i64 (needN n))), (22, .c (nI .i64 k))])
        (fun S => [(16, .var [nSl .u64 (wsN n V), rdV n V, .ow 61 1 S.length, .ow 62 1 S'.length, nI .i64 n]), (61, .row 1 (nRow .i32 S)), (62, .row 1 (nRow .i32 S'))]) (fun S => f1 V n (k + 1) - 64 * S.length)
        S (h2.into m1) ⟨rfl, rfl, rfl, rfl, rfl, rfl, rfl, rfl, trivial⟩ ⟨rfl, rfl, rfl, trivial⟩
        (fun S : List Nat => SampOK (f1 V n) (k + 1) S) (fun S => [(3, .c (.ad 16 0)), (4, .c (nI .i64 (f1 V n k))), (5, .c (nI .i64 (f0 V n k))), (6, .c (nI .i64 k)), (7, .c (nI .i64 (popc (wdN V k)))), (8, .c (nI .i64 (min 64 (n - 64 * k) - popc (wdN V k) : Nat))), (21, .c (nI .i64 (needN n))), (22, .c (nI .i64 k))])
        (fun S => [(16, .var [nSl .u64 (wsN n V), rdV n V, .ow 61 1 S.length, .ow 62 1 S'.length, nI .i64 n]), (61, .row 1 (nRow .i32 S)), (62, .row 1 (nRow .i32 S'))]) (fun S hS => ?_) (fun S hS => ?_)
      · have hl := sampIn_len hS
        obtain ⟨F, hF⟩ : ∃ F, F = f1 V n (k + 1) := ⟨_, rfl⟩
        obtain ⟨M, hM⟩ : ∃ M, M = 64 * S.length := ⟨_, rfl⟩
        refine X1 ((F : Nat) : Int) (wI (by omega) (by omega) (by omega)) ?_
        refine And.intro (by show S.length ≤ _; omega) ?_
        refine X1 ((M : Nat) : Int) (wI (by omega) (by omega) (by omega)) ?_
        refine dcase (fun h6 => ?_) (fun h6 => ?_)
        · refine X1 ((k : Nat) : Int) (wrap32 (by omega)) ?_
          refine app_row4 rfl (by show S.length + 1 ≤ _; omega) c1_closed ?_
          refine ⟨S ++ [k], hS.more (by omega), by rw [List.length_append]; show _ - 64 * (S.length + 1) < _; omega, ⟨rfl, rfl, rfl, rfl, rfl, rfl, rfl, rfl, trivial⟩, ⟨?_, rowE (by rw [← nRow_app]; rfl), rfl, trivial⟩⟩
          show some (Ob.var [_, _, .ow 61 1 (nRow .i32 S ++ [[nI .i32 k]]).length, _, _]) = _
          rw [List.length_append, nRow_len, List.length_append]; rfl
        · exact ⟨S, hS.done (by omega), ⟨rfl, rfl, rfl, rfl, rfl, rfl, rfl, rfl, trivial⟩, ⟨rfl, rfl, rfl, trivial⟩⟩
      refine loopJ T_ok T_mix (fun S' : List Nat => SampIn (f0 V n) k S') (fun S' => [(3, .c (.ad 16 0)), (4, .c (nI .i64 (f1 V n k))), (5, .c (nI .i64 (f0 V n k))), (6, .c (nI .i64 k)), (7, .c (nI .i64 (popc (wdN V k)))), (8, .c (nI .i64 (min 64 (n - 64 * k) - popc (wdN V k) : Nat))), (21, .c (nI .i64 (needN n))), (22, .c (nI .i64 k))])
        (fun S' => [(16, .var [nSl .u64 (wsN n V), rdV n V, .ow 61 1 S.length, .ow 62 1 S'.length, nI .i64 n]), (61, .row 1 (nRow .i32 S)), (62, .row 1 (nRow .i32 S'))]) (fun S' => f0 V n (k + 1) - 64 * S'.length)
        S' (h3.into m0) ⟨rfl, rfl, rfl, rfl, rfl, rfl, rfl, rfl, trivial⟩ ⟨rfl, rfl, rfl, trivial⟩
        (fun S' : List Nat => SampOK (f0 V n) (k + 1) S') (fun S' => [(3, .c (.ad 16 0)), (4, .c (nI .i64 (f1 V n k))), (5, .c (nI .i64 (f0 V n k))), (6, .c (nI .i64 k)), (7, .c (nI .i64 (popc (wdN V k)))), (8, .c (nI .i64 (min 64 (n - 64 * k) - popc (wdN V k) : Nat))), (21, .c (nI .i64 (needN n))), (22, .c (nI .i64 k))])
        (fun S' => [(16, .var [nSl .u64 (wsN n V), rdV n V, .ow 61 1 S.length, .ow 62 1 S'.length, nI .i64 n]), (61, .row 1 (nRow .i32 S)), (62, .row 1 (nRow .i32 S'))]) (fun S2 hS2 => ?_) (fun S2 hS2 => ?_)
      · have hl := sampIn_len hS2
        obtain ⟨F, hF⟩ : ∃ F, F = f0 V n (k + 1) := ⟨_, rfl⟩
        obtain ⟨M, hM⟩ : ∃ M, M = 64 * S2.length := ⟨_, rfl⟩
        refine X1 ((F : Nat) : Int) (wI (by omega) (by omega) (by omega)) ?_
        refine And.intro (by show S2.length ≤ _; omega) ?_
        refine X1 ((M : Nat) : Int) (wI (by omega) (by omega) (by omega)) ?_
        refine dcase (fun h6 => ?_) (fun h6 => ?_)
        · refine X1 ((k : Nat) : Int) (wrap32 (by omega)) ?_
          refine app_row4 rfl (by show S2.length + 1 ≤ _; omega) c1_closed ?_
          refine ⟨S2 ++ [k], hS2.more (by omega), by rw [List.length_append]; show _ - 64 * (S2.length + 1) < _; omega, ⟨rfl, rfl, rfl, rfl, rfl, rfl, rfl, rfl, trivial⟩, ⟨?_, rfl, rowE (by rw [← nRow_app]; rfl), trivial⟩⟩
          show some (Ob.var [_, _, _, .ow 62 1 (nRow .i32 S2 ++ [[nI .i32 k]]).length, _]) = _
          rw [List.length_append, nRow_len, List.length_append]; rfl
        · exact ⟨S2, hS2.done (by omega), ⟨rfl, rfl, rfl, rfl, rfl, rfl, rfl, rfl, trivial⟩, ⟨rfl, rfl, rfl, trivial⟩⟩
      refine X1 ((f1 V n (k + 1) : Nat) : Int) (wI (by omega) (by omega) (by omega)) ?_
      refine X1 ((f0 V n (k + 1) : Nat) : Int) (wI (by omega) (by omega) (by omega)) ?_
      refine X1 ((k + 1 : Nat) : Int) (wI (by simp) (by omega) (by omega)) ?_
      exact ⟨(k + 1, S, S2), ⟨by omega, hS, hS2⟩, by show needN n - (k + 1) < needN n - k; omega, ⟨rfl, rfl, rfl, rfl, rfl, trivial⟩, ⟨rfl, rfl, rfl, trivial⟩⟩
    · have e : k = needN n := by omega
      subst e
      have e1 := sampF_eq (fun a b h => f1_mono h) h2
      have e2 := sampF_eq (fun a b h => f0_mono h) h3
      exact ⟨(), trivial, ⟨rfl, trivial⟩, ⟨by rw [e1, e2]; rfl, rowE (by rw [e1]), rowE (by rw [e2]), trivial⟩⟩
  · exact ⟨trivial, r1 rfl, trivial⟩
theorem sones_ct (n V : Nat) (hV : V < 2 ^ n) (hn : n ≤ 1000000) : Ct P 115 [.c (sdV n V)] [.c (nI .i64 (popc V))] := by
  refine Ct.go T_ok T_mix (N := 14) Tryz.func115 rfl rfl rfl rfl ?_
  refine X1 _ (rank_ct n V n hV hn (by omega)) ?_
  refine And.intro rfl ?_
  exact ⟨trivial, r1 (iE (by rw [rk_top hV (Nat.le_refl _)])), trivial⟩
theorem bifT' {b : Bool} {X Y : Prop} (hb : b = true) (h : X) : (bif b then X else Y) := by subst hb; exact h
theorem closedC' : ∀ {caps : List PC}, closedAs (caps.map .c) = closedL caps
  | [] => rfl
  | x :: l => by
    show (A1.closed (.c x) && closedAs (l.map .c)) = _
    rw [closedC']; rfl
theorem ssearch_ct (lo hi k a : Nat) {g : FuncId} {caps : List PC} (hcl : closedL caps = true) (F : Nat → Nat) (h1 : lo ≤ a) (h2 : a < hi) (hh : hi ≤ 1000000) (hk : k ≤ 100000000) (hF : ∀ i, i ≤ 64 * hi → Ct P g (.c (nI .i64 i) :: caps.map .c) [.c (nI .i64 (F i))])
    (ha : ∀ j, j ≤ a → F (64 * j) ≤ k) (hb : ∀ j, a < j → j < hi → k < F (64 * j)) (hg0 : Nat.blt g 1000000 = true := by rfl) : Ct P 117 [.c (nI .i64 lo), .c (nI .i64 hi), .c (nI .i64 k), .c (.fn g caps)] [.c (nI .i64 a)] := by
  refine Ct.go T_ok T_mix (N := 29) Tryz.func117 rfl rfl rfl rfl ?_
  refine loopJ T_ok T_mix (G := Nat × Nat) (fun (l, h) => l ≤ a ∧ a < h ∧ h ≤ hi) (fun (l, h) => [(0, .c (nI .i64 l)), (1, .c (nI .i64 h)), (2, .c (nI .i64 k)), (3, .c (.fn g caps))]) (fun _ => []) (fun (l, h) => h - l)
    (lo, hi) ⟨h1, h2, Nat.le_refl _⟩ ⟨rfl, rfl, rfl, rfl, trivial⟩ trivial (fun _ : Unit => True) (fun _ => [(0, .c (nI .i64 a))]) (fun _ => []) (fun (l, h) hg => ?_) (fun _ _ => ?_)
  · obtain ⟨g1, g2, g3⟩ := hg
    refine X1 ((h - l : Nat) : Int) (wI (by omega) (by omega) (by omega)) ?_
    refine dcase (fun h5 => ?_) (fun h5 => ?_)
    · refine X1 ((h - l : Nat) : Int) (wI (by omega) (by omega) (by omega)) ?_
      refine And.intro (by decide) (X1 (((h - l) / 2 : Nat) : Int) (tdivN rfl) (And.intro ⟨by omega, by omega⟩ ?_))
      obtain ⟨m, hm⟩ : ∃ m, m = l + (h - l) / 2 := ⟨_, rfl⟩
      refine X1 ((m : Nat) : Int) (wI (by omega) (by omega) (by omega)) ?_
      refine X1 ((64 * m : Nat) : Int) (wI (by omega) (by omega) (by omega)) ?_
      refine bifT' (by rw [fnA_lt hg0]; show (closedAs (.c (nI .i64 (64 * m)) :: caps.map .c) && _) = true; rw [show closedAs (.c (nI .i64 (64 * m)) :: caps.map .c) = closedAs (caps.map .c) from rfl, closedC', hcl]; rfl) ?_
      refine X1 [.c (nI .i64 (F (64 * m)))] (by rw [fnF_lt hg0, fnA_lt hg0]; exact hF (64 * m) (by omega)) ?_
      refine dcase (fun h6 => ?_) (fun h6 => ?_)
      · refine ⟨(m, h), ⟨?_, g2, g3⟩, by show h - m < h - l; omega, ⟨rfl, rfl, rfl, rfl, trivial⟩, trivial⟩
        apply Classical.byContradiction
        intro h7
        have := hb m (by omega) (by omega)
        omega
      · refine ⟨(l, m), ⟨g1, ?_, by omega⟩, by show m - l < h - l; omega, ⟨rfl, rfl, rfl, rfl, trivial⟩, trivial⟩
        apply Classical.byContradiction
        intro h7
        have := ha m (by omega)
        omega
    · have : l = a := by omega
      subst this
      exact ⟨(), trivial, ⟨rfl, trivial⟩, trivial⟩
  · exact ⟨trivial, r1 rfl, trivial⟩
theorem one1_ct (n V i : Nat) (hV : V < 2 ^ n) (hn : n ≤ 1000000) (hi : i ≤ 100000000) : Ct P 118 [.c (nI .i64 i), .c (.rd [sdV n V])] [.c (nI .i64 (rk V i))] := by
  refine Ct.go T_ok T_mix (N := 10) Tryz.func118 rfl rfl rfl rfl ?_
  refine X1 _ (rank_ct n V i hV hn hi) ?_
  exact ⟨trivial, r1 rfl, trivial⟩
theorem zero1_ct (n V i : Nat) (hV : V < 2 ^ n) (hn : n ≤ 1000000) (hi : i ≤ 100000000) : Ct P 197 [.c (nI .i64 i), .c (.rd [sdV n V])] [.c (nI .i64 (min i n - rk V (min i n)))] := by
  refine Ct.go T_ok T_mix (N := 10) Tryz.func197 rfl rfl rfl rfl ?_
  refine X1 _ (zeros_ct n V i hV hn hi) ?_
  exact ⟨trivial, r1 rfl, trivial⟩
def spanH (S : List Nat) (K k : Nat) : Nat := if k / 64 + 1 < S.length then S.getD (k / 64 + 1) 0 + 1 else K
theorem span_ct (n V k : Nat) (S : List Nat) (hn : n ≤ 1000000) (hk : k / 64 < S.length) (hS : S.length ≤ 1000000) (hb : ∀ x, x ∈ S → x ≤ 1000000) :
    Ct P 116 [.c (sdV n V), .c (nSl .i32 S), .c (nI .i64 k)] [.c (nI .i64 (S.getD (k / 64) 0)), .c (nI .i64 (spanH S (needN n) k))] := by
  have hK := needN_le n
  have hx := hb _ (getD_mem hk)
  refine Ct.go T_ok T_mix (N := 37) Tryz.func116 rfl rfl rfl rfl ?_
  refine And.intro (by decide) (X1 ((k / 64 : Nat) : Int) (tdivN rfl) (And.intro ⟨by omega, by omega⟩ ?_))
  refine And.intro (by omega) (X1 _ (nRow_ix hk) ?_)
  refine X1 ((S.getD (k / 64) 0 : Nat) : Int) (wI rfl (by omega) (by omega)) ?_
  refine And.intro (by rw [nRow_len, wsN_len]; omega) ?_
  rw [nRow_len, wsN_len]
  refine And.intro rfl ?_
  refine And.intro (by decide) (X1 ((k / 64 : Nat) : Int) (tdivN rfl) (And.intro ⟨by omega, by omega⟩ ?_))
  refine X1 ((k / 64 + 1 : Nat) : Int) (wI (by simp) (by omega) (by omega)) ?_
  refine And.intro (by rw [nRow_len]; omega) ?_
  rw [nRow_len]
  refine dcase (fun h => ?_) (fun h => ?_)
  · have h' : k / 64 + 1 < S.length := by omega
    have hy := hb _ (getD_mem h')
    refine And.intro (by decide) (X1 ((k / 64 : Nat) : Int) (tdivN rfl) (And.intro ⟨by omega, by omega⟩ ?_))
    refine X1 ((k / 64 + 1 : Nat) : Int) (wI (by simp) (by omega) (by omega)) ?_
    refine And.intro (by omega) (X1 _ (nRow_ix h') ?_)
    refine X1 ((S.getD (k / 64 + 1) 0 : Nat) : Int) (wI rfl (by omega) (by omega)) ?_
    refine X1 ((S.getD (k / 64 + 1) 0 + 1 : Nat) : Int) (wI (by simp) (by omega) (by omega)) ?_
    exact ⟨trivial, r1 rfl, r1 (iE (by unfold spanH; rw [if_pos h'])), trivial⟩
  · exact ⟨trivial, r1 rfl, r1 (iE (by unfold spanH; rw [if_neg (by omega)])), trivial⟩
abbrev eS : ByteArray := ⟨#[]⟩
open Classical in
noncomputable def dF (Tx : List ByteArray) (s : List Nat) (k : ByteArray) : Nat := if h : ∃ d, First mixF Tx s k d then h.choose else 0
theorem dF_ok {Tx : List ByteArray} {s : List Nat} {k : ByteArray} (h : ∃ d, First mixF Tx s k d) : First mixF Tx s k (dF Tx s k) := by
  unfold dF
  rw [dif_pos h]
  exact h.choose_spec
theorem stop_take {Tx : List ByteArray} {s : List Nat} {i : Nat} (hv : ∀ p, s.getD p 0 ≤ i) (k : ByteArray) (p : Nat) : stopS (Tx.take i) s k p ↔ stopS Tx s k p := by
  unfold stopS
  have := hv p
  by_cases h : s.getD p 0 = 0
  · exact ⟨fun _ => .inl h, fun _ => .inl h⟩
  · rw [List.getElem?_take_of_lt (by omega)]
theorem first_take {Tx : List ByteArray} {s : List Nat} {i d : Nat} {k : ByteArray} (hv : ∀ p, s.getD p 0 ≤ i) (h : First mixF (Tx.take i) s k d) : First mixF Tx s k d :=
  ⟨h.lt, (stop_take hv k _).1 h.at', fun e he hs => h.no e he ((stop_take hv k _).2 hs)⟩
theorem first_un {Tx : List ByteArray} {s : List Nat} {i d : Nat} {k : ByteArray} (hv : ∀ p, s.getD p 0 ≤ i) (h : First mixF Tx s k d) : First mixF (Tx.take i) s k d :=
  ⟨h.lt, (stop_take hv k _).2 h.at', fun e he hs => h.no e he ((stop_take hv k _).1 hs)⟩
noncomputable def growA (Tx : List ByteArray) (m : Nat) : Nat → List Nat
  | 0 => List.replicate m 0
  | i + 1 => (growA Tx m i).set (wayS mixF (growA Tx m i) (Tx.getD i eS) (dF Tx (growA Tx m i) (Tx.getD i eS))) (i + 1)
def Nod (Tx : List ByteArray) : Prop := ∀ (i j : Nat) k, Tx[i]? = some k → Tx[j]? = some k → i = j
theorem grow_ok {Tx : List ByteArray} {m : Nat} (hn : Nod Tx) (hm : Tx.length < m) : ∀ i, i ≤ Tx.length → (growA Tx m i).length = m ∧ Tab mixF (Tx.take i) (growA Tx m i)
  | 0, _ => ⟨by simp [growA], by rw [List.take_zero]; exact Tab.nil (by omega)⟩
  | i + 1, h => by
    obtain ⟨h1, h2⟩ := grow_ok hn hm i (by omega)
    have hl : (Tx.take i).length = i := by simp; omega
    have hv : ∀ p, (growA Tx m i).getD p 0 ≤ i := fun p => by have := h2.val p; omega
    have hf := dF_ok (Tx := Tx) (s := growA Tx m i) (k := Tx.getD i eS) (by obtain ⟨d, hd⟩ := h2.first (Tx.getD i eS); exact ⟨d, first_take hv hd⟩)
    have hnm : Tx.getD i eS ∉ Tx.take i := fun hm' => by
      obtain ⟨j, hj⟩ := List.getElem?_of_mem hm'
      have hjl : j < i := by have := (List.getElem?_eq_some_iff.1 hj).1; omega
      rw [List.getElem?_take_of_lt hjl] at hj
      have := hn j i _ hj (key_arg (by omega))
      omega
    have := h2.ins (first_un hv hf) hnm (by omega)
    rw [hl] at this
    refine ⟨by simp [growA, h1], ?_⟩
    rw [List.take_succ_eq_append_getElem (by omega)]
    have e : Tx[i]'(by omega) = Tx.getD i eS := by rw [List.getD_eq_getElem?_getD, List.getElem?_eq_getElem (by omega)]; rfl
    rw [e]
    exact this
structure TabB (Tx : List ByteArray) (s : List Nat) : Prop where
  tab : Tab mixF Tx s
  pw : ∃ p, s.length = 2 ^ p ∧ p ≤ 18
  room : 2 * Tx.length ≤ s.length
  n : Tx.length ≤ 10000
  sz : ∀ x, x ∈ Tx → x.size ≤ 1000000
theorem getDB {Tx : List ByteArray} {i : Nat} (h : i < Tx.length) : Tx.getD i eS ∈ Tx := by
  rw [List.getD_eq_getElem?_getD, List.getElem?_eq_getElem h]; exact List.getElem_mem h
theorem igrow_ct (Tx : List ByteArray) (s : List Nat) (h : TabB Tx s) : CtO P 143 (tbO 1000001 1000002 Tx s) [.c (.ad 1000000 1), .c (nI .i64 Tx.length)] (tbO 1000001 12 Tx (growA Tx (2 * s.length) Tx.length)) [] := by
  obtain ⟨p, hp, hp2⟩ := h.pw
  have hn := h.n
  have hpl : 2 ^ p ≤ 2 ^ 18 := Nat.pow_le_pow_right (by omega) hp2
  have h18 : (2 : Nat) ^ 18 = 262144 := rfl
  have hpp := Nat.two_pow_pos p
  have hro := h.room
  obtain ⟨m, hm⟩ := (⟨_, rfl⟩ : ∃ m, m = 2 * s.length)
  have hmp : m = 2 ^ (p + 1) := by rw [hm, hp, Nat.pow_succ]; omega
  have hok := grow_ok (Tx := Tx) (m := m) h.tab.nod (by omega)
  rw [← hm]
  refine Ct.keepI T_ok [] (N := 36) Tryz.func143 rfl rfl rfl rfl ?_
  refine seqI T_ok T_mix ?_
  refine And.intro (by show s.length ≤ _; omega) ?_
  refine X1 ((m : Nat) : Int) (wI (by omega) (by omega) (by omega)) ?_
  refine ⟨by omega, by omega, by omega, .inl (by decide), ?_⟩
  refine seqI T_ok T_mix ?_
  refine loopI (fun i : Nat => i ≤ Tx.length) (fun i => [(0, .c (.ad 1000000 1)), (15, .c (nI .i64 Tx.length)), (16, .c (nI .i64 i))])
    (fun i => [(1000000, .var (tbC 1000001 12 1000003 Tx.length m)), (1000001, .row 1 (sRow Tx)), (12, .row 1 (nRow .i32 (growA Tx m i))), (1000003, .var [.ad 1000000 0])]) (fun i => Tx.length - i)
    0 (by omega) ⟨rfl, rfl, rfl, trivial⟩ ⟨by rw [Int.toNat_natCast]; rfl, rfl, rowE (rep_row rfl), rfl, trivial⟩ (fun i hi => ?_)
  refine seqI T_ok T_mix ?_
  refine seqI T_ok T_mix ?_
  refine dcase (fun h5 => ?_) (fun h5 => ?_)
  · have hi' : i < Tx.length := by omega
    obtain ⟨o1, o2⟩ := hok i hi
    have hlt : (Tx.take i).length = i := by simp; omega
    have hv : ∀ q, (growA Tx m i).getD q 0 ≤ i := fun q => by have := o2.val q; omega
    have hf := dF_ok (Tx := Tx) (s := growA Tx m i) (k := Tx.getD i eS) (by obtain ⟨d, hd⟩ := o2.first (Tx.getD i eS); exact ⟨d, first_take hv hd⟩)
    have hpc := place_ct Tx (growA Tx m i) (Tx.getD i eS) (dF Tx (growA Tx m i) (Tx.getD i eS)) (p + 1) (by rw [o1, hmp]) (by omega) (by omega) (h.sz _ (getDB hi')) (fun q => by have := hv q; omega) hf
    have hw : wayS mixF (growA Tx m i) (Tx.getD i eS) (dF Tx (growA Tx m i) (Tx.getD i eS)) < (growA Tx m i).length := Nat.mod_lt _ (by omega)
    have hgr : growA Tx m (i + 1) = (growA Tx m i).set (wayS mixF (growA Tx m i) (Tx.getD i eS) (dF Tx (growA Tx m i) (Tx.getD i eS))) (i + 1) := rfl
    have hkc := key_ct Tx (growA Tx m i) i hi' (by omega)
    rw [show (⟨#[]⟩ : ByteArray) = eS from rfl] at hkc
    generalize wayS mixF (growA Tx m i) (Tx.getD i eS) (dF Tx (growA Tx m i) (Tx.getD i eS)) = w at *
    generalize growA Tx m i = A at *
    rw [← o1] at *
    refine seqW (blockI ?_)
    refine seqI T_ok T_mix ?_
    refine joinC T_ok T_mix ?_
    refine ⟨[(1000000, 1000000), (1000001, 1000001), (12, 1000002), (1000003, 1000003)], rfl, _, hkc, ?_⟩
    refine X2 (.sam [(1000000, 1000000), (1000001, 1000001), (12, 1000002), (1000003, 1000003)]) ?_
    refine ⟨rfl, _, hpc, ?_⟩
    refine X1 ((i : Nat) : Int) (wrap32 (by omega)) ?_
    refine X1 ((i + 1 : Nat) : Int) (by rw [show ((i : Nat) : Int) + 1 = ((i + 1 : Nat) : Int) by simp]; exact wrap32 (by omega)) ?_
    refine And.intro (by omega) (And.intro (by omega) ?_)
    refine X1 _ (nRow_ix hw) ?_
    refine And.intro rfl ?_
    refine joinC T_ok T_mix ?_
    refine X1 ((i + 1 : Nat) : Int) (wI1 (by omega)) ?_
    exact ⟨i + 1, by omega, by omega, ⟨rfl, rfl, rfl, trivial⟩, ⟨rfl, rfl, rowE (by rw [hgr, Int.toNat_natCast, ← nRow_set]; rfl), rfl, trivial⟩⟩
  · have e : i = Tx.length := by omega
    subst e
    obtain ⟨o1, o2⟩ := hok Tx.length (Nat.le_refl _)
    exact ⟨trivial, tbSub (by rw [o1]; rfl) rfl rfl rfl, trivial⟩
end Go.Proofs.YtjpbijdpkdmeaaaGreat.Pv
namespace Go.Proofs.YtjpbijdpkdmeaaaGreat.Pv
open Go
section
variable {P : Program} {T : Ty} {N : Nx} {E : Env} {O : Objs} {x y : Code} {Q : PQ}
theorem cutW {G2 : Type} (post : G2 → Prop) (pE : G2 → List (Nat × AV)) (pO : G2 → List (Nat × Ob))
    (h : WI P N E O x (thenQ (fun E' O' => ∃ g2, post g2 ∧ AllIn E' (pE g2) ∧ AllInO O' (pO g2)) Q)) (hy : ∀ g2, post g2 → WI P N (envL (pE g2)) (objL (pO g2)) y Q) : WI P N E O (.seq x y) Q :=
  .of (W.seq (h.out.mono fun e E O hq => by
    cases e with
    | normal =>
      obtain ⟨g2, hp, h1, h2⟩ := hq
      exact W.weak (Sub.of h1) (SubO.of h2) (hy g2 hp).out
    | _ => exact hq))
end
theorem inew_ct : CtO P 139 [] [] [(3, some (.var [.sc (.slice none 0 0), .ow 5 1 8, .fn 166 [], .fn 167 [.ad 1 0]])), (5, some (.row 1 (nRow .i32 (List.replicate 8 0)))), (1, some (.var [.ad 3 0]))] [.c (.ad 3 0)] := by
  refine Ct.keep T_ok T_mix [] (N := 11) Tryz.func139 rfl rfl rfl rfl ?_
  refine ⟨by decide, by decide, by decide, .inl (by decide), ?_⟩
  refine X1 [.ad 1 0] rfl ?_
  refine And.intro rfl ?_
  exact ⟨trivial, SubO.of (l := [(3, .var _), (5, .row 1 _), (1, .var _)]) ⟨rfl, rowE (rep_row (N := 8) rfl), rfl, trivial⟩, r1 rfl, trivial⟩
noncomputable def sGr (Tx : List ByteArray) (s : List Nat) : List Nat := if 2 * (Tx.length + 1) > s.length then growA Tx (2 * s.length) Tx.length else s
noncomputable def sPut (Tx : List ByteArray) (s : List Nat) (k : ByteArray) : List Nat := (sGr Tx s).set (wayS mixF (sGr Tx s) k (dF Tx (sGr Tx s) k)) (Tx.length + 1)
theorem sGr_ok {Tx : List ByteArray} {s : List Nat} (h : TabB Tx s) (hl : s.length ≤ 4 * Tx.length + 8) (hn : Tx.length ≤ 9000) : TabB Tx (sGr Tx s) ∧ 2 * (Tx.length + 1) ≤ (sGr Tx s).length ∧ (sGr Tx s).length ≤ 4 * (Tx.length + 1) + 8 := by
  unfold sGr
  have hro := h.room
  have hr2 := h.tab.room
  split
  · rename_i hg
    obtain ⟨o1, o2⟩ := grow_ok (Tx := Tx) (m := 2 * s.length) h.tab.nod (by omega) Tx.length (Nat.le_refl _)
    rw [List.take_length] at o2
    obtain ⟨p, hp, hp2⟩ := h.pw
    have : p < 17 := by
      rw [← Nat.pow_lt_pow_iff_right (a := 2) (by omega), ← hp]
      show _ < 131072
      omega
    exact ⟨⟨o2, ⟨p + 1, by rw [o1, hp, Nat.pow_succ]; omega, by omega⟩, by omega, h.n, h.sz⟩, by omega, by omega⟩
  · exact ⟨h, by omega, by omega⟩
theorem sPut_ok {Tx : List ByteArray} {s : List Nat} {k : ByteArray} (h : TabB Tx s) (hl : s.length ≤ 4 * Tx.length + 8) (hn : Tx.length ≤ 9000) (hk : k ∉ Tx) (hks : k.size ≤ 1000000) : TabB (Tx ++ [k]) (sPut Tx s k) ∧ (sPut Tx s k).length ≤ 4 * (Tx ++ [k]).length + 8 := by
  obtain ⟨g1, g2, g3⟩ := sGr_ok h hl hn
  have hf := dF_ok (g1.tab.first k)
  have hins := g1.tab.ins hf hk (by omega)
  have hlen : (sPut Tx s k).length = (sGr Tx s).length := by simp [sPut]
  have hl2 : (Tx ++ [k]).length = Tx.length + 1 := by simp
  obtain ⟨p, hp, hp2⟩ := g1.pw
  refine ⟨⟨hins, ⟨p, by rw [hlen, hp], hp2⟩, by rw [hlen, hl2]; exact g2, by rw [hl2]; omega, fun x hx => ?_⟩, by rw [hlen, hl2]; exact g3⟩
  rcases List.mem_append.1 hx with hx | hx
  · exact h.sz x hx
  · rw [List.mem_singleton.1 hx]; exact hks
theorem iputOld_ct (Tx : List ByteArray) (s : List Nat) (k : ByteArray) (j : Nat) (h : TabB Tx s) (hj : Tx[j]? = some k) : CtO P 96 (tbO 1000001 1000002 Tx s) [.c (.ad 1000000 0), .c (sS k)] (tbO 1000001 1000002 Tx s) [.c (nI .i64 j), .c (.sc (.bool false))] := by
  have hn := h.n
  have hjl := (List.getElem?_eq_some_iff.1 hj).1
  obtain ⟨p, hp, hp2⟩ := h.pw
  have hf := dF_ok (h.tab.first k)
  have hit := h.tab.hit hf hj
  have hpl : 2 ^ p ≤ 2 ^ 18 := Nat.pow_le_pow_right (by omega) hp2
  have h18 : (2 : Nat) ^ 18 = 262144 := rfl
  have hpp := Nat.two_pow_pos p
  have hpc := place_ct Tx s k _ p hp (by omega) (by omega) (h.sz k (List.mem_of_getElem? hj)) h.tab.val hf
  have hw : wayS mixF s k (dF Tx s k) < s.length := Nat.mod_lt _ (by omega)
  have hg := nRow_ix (k := .i32) hw
  rw [hit] at hg
  generalize wayS mixF s k (dF Tx s k) = w at *
  refine Ct.io T_ok T_mix (N := 85) Tryz.func96 rfl rfl rfl rfl ?_
  refine X2 (.own σt σt) ?_
  refine ⟨_, _, hpc, ?_⟩
  refine And.intro (by omega) (And.intro (by omega) (X1 _ hg ?_))
  refine X1 ((j + 1 : Nat) : Int) (wI rfl (by omega) (by omega)) ?_
  refine X1 ((j : Nat) : Int) (wI (by omega) (by omega) (by omega)) ?_
  exact ⟨trivial, tbSub rfl rfl rfl rfl, r1 rfl, r1 rfl, trivial⟩
set_option maxHeartbeats 1000000 in
theorem iputNew_ct (Tx : List ByteArray) (s : List Nat) (k : ByteArray) (h : TabB Tx s) (hl : s.length ≤ 4 * Tx.length + 8) (hn9 : Tx.length ≤ 9000) (hk : k ∉ Tx) (hks : k.size ≤ 1000000) :
    CtO P 96 (tbO 1000001 1000002 Tx s) [.c (.ad 1000000 0), .c (sS k)] (tbO 200 201 (Tx ++ [k]) (sPut Tx s k)) [.c (nI .i64 Tx.length), .c (.sc (.bool true))] := by
  have hn := h.n
  obtain ⟨p, hp, hp2⟩ := h.pw
  obtain ⟨g1, g2, g3⟩ := sGr_ok h hl hn9
  obtain ⟨p', hp', hp2'⟩ := g1.pw
  have hpp := Nat.two_pow_pos p
  have hpp' := Nat.two_pow_pos p'
  have hf := dF_ok (h.tab.first k)
  have hf' := dF_ok (g1.tab.first k)
  have hmiss := h.tab.miss hf hk
  have hpc := place_ct Tx s k _ p hp (by omega) (by omega) hks h.tab.val hf
  have hpc' := place_ct Tx (sGr Tx s) k _ p' hp' (by omega) (by omega) hks g1.tab.val hf'
  have hw : wayS mixF s k (dF Tx s k) < s.length := Nat.mod_lt _ (by omega)
  have hw' : wayS mixF (sGr Tx s) k (dF Tx (sGr Tx s) k) < (sGr Tx s).length := Nat.mod_lt _ (by omega)
  have hgr := igrow_ct Tx s h
  have hput : sPut Tx s k = (sGr Tx s).set (wayS mixF (sGr Tx s) k (dF Tx (sGr Tx s) k)) (Tx.length + 1) := rfl
  have hsame : ¬ 2 * (Tx.length + 1) > s.length → sGr Tx s = s := fun hh => if_neg hh
  have hgrow : 2 * (Tx.length + 1) > s.length → sGr Tx s = growA Tx (2 * s.length) Tx.length := fun hh => if_pos hh
  have hg := nRow_ix (k := .i32) hw
  rw [hmiss] at hg
  obtain ⟨w, hwe⟩ : ∃ w, w = wayS mixF s k (dF Tx s k) := ⟨_, rfl⟩
  obtain ⟨w', hwe'⟩ : ∃ w', w' = wayS mixF (sGr Tx s) k (dF Tx (sGr Tx s) k) := ⟨_, rfl⟩
  rw [← hwe] at hw hg hpc
  rw [← hwe'] at hw' hpc' hput
  have hl2 : (Tx ++ [k]).length = Tx.length + 1 := by simp
  have hlp : (sPut Tx s k).length = (sGr Tx s).length := by rw [hput]; simp
  refine Ct.keepI T_ok [] (N := 85) Tryz.func96 rfl rfl rfl rfl ?_
  refine reRow (r := 1000001) (q := 200) (k := 1000000) (i := 0) rfl (by decide) (by decide) (by decide) rfl rfl rfl ?_
  refine reRow (r := 1000002) (q := 201) (k := 1000000) (i := 1) rfl (by decide) (by decide) (by decide) rfl rfl rfl ?_
  refine seqI T_ok T_mix ?_
  refine seqI T_ok T_mix ?_
  refine seqI T_ok T_mix ?_
  refine X2 (.own [(1000000, 1000000), (200, 1000001), (201, 1000002), (1000003, 1000003)] [(1000000, 1000000), (1000001, 200), (1000002, 201), (1000003, 1000003)]) ?_
  refine ⟨_, _, hpc, ?_⟩
  refine seqI T_ok T_mix ?_
  refine And.intro (by omega) (And.intro (by omega) (X1 _ hg ?_))
  refine cutW (G2 := Unit) (fun _ => True) (fun _ => [(0, .c (.ad 1000000 0)), (1, .c (sS k)), (6, .c (nI .i64 w'))])
    (fun _ => [(1000000, .var (tbC 200 201 1000003 Tx.length (sGr Tx s).length)), (200, .row 1 (sRow Tx)), (201, .row 1 (nRow .i32 (sGr Tx s))), (1000003, .var [.ad 1000000 0])]) ?_ (fun _ _ => ?_)
  · refine seqI T_ok T_mix ?_
    refine And.intro (by show Tx.length ≤ _; omega) ?_
    refine X1 ((Tx.length + 1 : Nat) : Int) (wI (by simp) (by omega) (by omega)) ?_
    obtain ⟨m2, hm2⟩ : ∃ m2, m2 = 2 * (Tx.length + 1) := ⟨_, rfl⟩
    refine X1 ((m2 : Nat) : Int) (wI (by omega) (by omega) (by omega)) ?_
    refine And.intro (by show s.length ≤ _; omega) ?_
    refine And.intro rfl ?_
    refine condI (b := decide ((m2 : Int) > (s.length : Int))) rfl (fun hb => ?_) (fun hb => ?_)
    · have hb : (m2 : Int) > (s.length : Int) := of_decide_eq_true hb
      have e := hgrow (by omega)
      refine seqW (regC T_ok T_mix 8 rfl ?_)
      refine And.intro (by show Tx.length ≤ _; omega) ?_
      refine And.intro rfl ?_
      refine X2 (.own [(1000000, 1000000), (200, 1000001), (201, 1000002), (1000003, 1000003)] [(1000000, 1000000), (1000001, 200), (12, 201), (1000003, 1000003)]) ?_
      refine ⟨_, _, hgr, ?_⟩
      refine joinC T_ok T_mix ?_
      rw [← e]
      refine X2 (.own [(1000000, 1000000), (200, 1000001), (201, 1000002), (1000003, 1000003)] [(1000000, 1000000), (1000001, 200), (1000002, 201), (1000003, 1000003)]) ?_
      refine ⟨_, _, hpc', ?_⟩
      exact ⟨(), trivial, ⟨rfl, rfl, rfl, trivial⟩, ⟨rfl, rfl, rfl, rfl, trivial⟩⟩
    · have hb : ¬ (m2 : Int) > (s.length : Int) := of_decide_eq_false hb
      have e := hsame (by omega)
      refine skipI ?_
      have ew : w' = w := by rw [hwe', hwe, e]
      rw [e, ew]
      exact ⟨(), trivial, ⟨rfl, rfl, rfl, trivial⟩, ⟨rfl, rfl, rfl, rfl, trivial⟩⟩
  refine seqI T_ok T_mix ?_
  refine ⟨by simp [sRow], by rw [sRow_len]; show (Tx.length + 1 + 768) * 16 ≤ _; omega, by rw [sRow_len]; show Tx.length + 1 ≤ _; omega, sRow_closed, one_closed rfl, ?_⟩
  refine joinC T_ok T_mix ?_
  refine And.intro (by rw [List.length_append, sRow_len]; show Tx.length + 1 ≤ _; omega) ?_
  refine X1 ((Tx.length + 1 : Nat) : Int) (by rw [List.length_append, sRow_len]; exact wrap32 (by show Tx.length + 1 ≤ _; omega)) ?_
  refine And.intro (by omega) (And.intro (by omega) ?_)
  refine X1 _ (nRow_ix hw') ?_
  refine And.intro rfl ?_
  refine And.intro (by rw [List.length_append, sRow_len]; show Tx.length + 1 ≤ _; omega) ?_
  refine X1 ((Tx.length : Nat) : Int) (wI (by rw [List.length_append, sRow_len]; show ((Tx.length + 1 : Nat) : Int) - 1 = _; omega) (by omega) (by omega)) ?_
  refine ⟨trivial, tbSub ?_ ?_ ?_ rfl, r1 rfl, r1 rfl, trivial⟩
  · show some (Ob.var (tbC 200 201 1000003 (sRow Tx ++ [[sS k]]).length (sGr Tx s).length)) = _
    rw [List.length_append, sRow_len, hl2, hlp]; rfl
  · exact rowE (by rw [sRow_app]; rfl)
  · exact rowE (by rw [hput, Int.toNat_natCast, ← nRow_set]; rfl)
end Go.Proofs.YtjpbijdpkdmeaaaGreat.Pv
namespace Go.Proofs.YtjpbijdpkdmeaaaGreat.Pv
open Go
section
variable (Tx : List ByteArray) (s : List Nat)
theorem iall_ct : CtO P 80 (tbO 1000001 1000002 Tx s) [.c (.ad 1000000 0)] ((1, some (.var [.ad 1000000 0])) :: tbO 1000001 1000002 Tx s) [.c (.fn 126 [.ad 1 0])] := by
  refine Ct.keep T_ok T_mix [] (N := 4) Tryz.func80 rfl rfl rfl rfl ?_
  refine X1 [.ad 1 0] rfl ?_
  exact ⟨trivial, SubO.of (l := [(1, .var [.ad 1000000 0]), (1000000, .var (tbC 1000001 1000002 1000003 Tx.length s.length)), (1000001, .row 1 (sRow Tx)), (1000002, .row 1 (nRow .i32 s)), (1000003, .var [.ad 1000000 0])]) ⟨rfl, rfl, rfl, rfl, rfl, trivial⟩, r1 rfl, trivial⟩
def allV : List (List A1) := (List.range Tx.length).map fun i => [.c (nI .i64 i), .c (sS (Tx.getD i ⟨#[]⟩))]
theorem allV_len : (allV Tx).length = Tx.length := by simp [allV]
theorem allV_at {i : Nat} (h : i < Tx.length) : (allV Tx)[i]? = some [.c (nI .i64 i), .c (sS (Tx.getD i ⟨#[]⟩))] := by
  unfold allV
  rw [List.getElem?_map, List.getElem?_range h]; rfl
theorem allV_get {i : Nat} {args : List A1} (h : (allV Tx)[i]? = some args) : i < Tx.length ∧ args = [.c (nI .i64 i), .c (sS (Tx.getD i ⟨#[]⟩))] := by
  unfold allV at h
  rw [List.getElem?_map, Option.map_eq_some_iff] at h
  obtain ⟨j, h1, h2⟩ := h
  obtain ⟨h3, h4⟩ := List.getElem?_eq_some_iff.1 h1
  simp at h3 h4
  subst h4
  exact ⟨h3, h2.symm⟩
theorem allV_ok : ∀ args, args ∈ allV Tx → args.length = 2 ∧ closedAs args = true := fun args ha => by
  obtain ⟨x, _, rfl⟩ := List.mem_map.1 ha
  exact ⟨rfl, rfl⟩
theorem sRow_getD {l : List ByteArray} {i : Nat} (h : i < l.length) : (sRow l)[((i : Nat) : Int).toNat]? = some [sS (l.getD i ⟨#[]⟩)] := by
  rw [sRow_getN rfl h, List.getD_eq_getElem?_getD, List.getElem?_eq_getElem h]; rfl
theorem iall1_ct (hn : Tx.length ≤ 100000) : CtIO P 126 ((1000004, some (.var [.ad 1000000 0])) :: tbO 1000001 1000002 Tx s) [.c (.ad 1000004 0)] (allV Tx) (tbO 1000001 1000002 Tx s) := by
  refine CtIO.walk T_ok T_mix (N := 23) Tryz.func126 rfl rfl rfl rfl rfl (fun v I X hv hY => ?_)
  refine And.intro (by show Tx.length ≤ _; omega) ?_
  refine loopB T_ok T_mix (fun i : Nat => i ≤ Tx.length) (fun i => [(0, .c (.cb v)), (10, .c (.ow 1000001 1 Tx.length)), (11, .c (nI .i64 Tx.length)), (12, .c (nI .i64 i))])
    (fun i => [(2000000, .abs (I i)), (1000000, .var (tbC 1000001 1000002 1000003 Tx.length s.length)), (1000001, .row 1 (sRow Tx)), (1000002, .row 1 (nRow .i32 s)), (1000003, .var [.ad 1000000 0])]) (fun i => Tx.length - i)
    0 (by omega) ⟨rfl, rfl, rfl, rfl, trivial⟩ ⟨rfl, rfl, rfl, rfl, rfl, trivial⟩ (fun i hi => ?_)
  refine dcase (fun h1 => ?_) (fun h1 => ?_)
  · have hi' : i < Tx.length := by omega
    refine And.intro (by omega) (And.intro (by omega) ?_)
    refine X1 _ (sRow_getD hi') ?_
    refine ⟨allV Tx, I, X, i, hY, rfl, allV_at Tx hi', ?_, ?_⟩
    · refine X1 ((i + 1 : Nat) : Int) (wI1 (by omega)) ?_
      exact ⟨i + 1, by omega, by omega, ⟨rfl, rfl, rfl, rfl, trivial⟩, ⟨rfl, rfl, rfl, rfl, rfl, trivial⟩⟩
    · exact ⟨trivial, .inr rfl, tbSub rfl rfl rfl rfl⟩
  · have e : i = Tx.length := by omega
    subst e
    exact ⟨trivial, .inl (by rw [allV_len]; rfl), tbSub rfl rfl rfl rfl⟩
abbrev vcO (k : Nat) (a b : Nat) (Tx : List ByteArray) (s : List Nat) : Objs := (k, some (.var [.ad 1000000 0])) :: tbO a b Tx s
theorem vcSub {k a b : Nat} {Tx : List ByteArray} {s : List Nat} {O : Objs} (h0 : O.get k = some (.var [.ad 1000000 0])) (h1 : O.get 1000000 = some (.var (tbC a b 1000003 Tx.length s.length))) (h2 : O.get a = some (.row 1 (sRow Tx))) (h3 : O.get b = some (.row 1 (nRow .i32 s))) (h4 : O.get 1000003 = some (.var [.ad 1000000 0])) : SubO (vcO k a b Tx s) O :=
  SubO.of (l := [(k, .var [.ad 1000000 0]), (1000000, .var (tbC a b 1000003 Tx.length s.length)), (a, .row 1 (sRow Tx)), (b, .row 1 (nRow .i32 s)), (1000003, .var [.ad 1000000 0])]) ⟨h0, h1, h2, h3, h4, trivial⟩
theorem sRow_take1 {l : List ByteArray} {i : Nat} (h : i < l.length) : l.take (i + 1) = l.take i ++ [l.getD i ⟨#[]⟩] := by
  rw [List.take_succ_eq_append_getElem h, List.getD_eq_getElem?_getD, List.getElem?_eq_getElem h]; rfl
theorem vwords_ct (hn : Tx.length ≤ 100000) : CtO P 46 (vcO 1000005 1000001 1000002 Tx s) [.c (.ad 1000005 0)] (vcO 1000005 1000001 1000002 Tx s) [.c (sSl Tx)] := by
  refine Ct.keep T_ok T_mix [60] (N := 21) Tryz.func46 rfl rfl rfl rfl ?_
  refine X2 (.own σt [(1000000, 1000000), (1000001, 1000001), (1000002, 1000002), (1000003, 1000003), (1, 61)]) ?_
  refine ⟨_, _, iall_ct Tx s, ?_⟩
  refine nilVar (r := 60) (k := 3) (i := 0) (sz := 1) rfl rfl rfl ?_
  refine rangeL T_ok T_mix [(61, 1000004), (1000000, 1000000), (1000001, 1000001), (1000002, 1000002), (1000003, 1000003)] [1000000, 1000001, 1000002, 1000003] (iall1_ct Tx s hn) Tryz.func126 rfl rfl rfl rfl rfl rfl rfl (allV_ok Tx) [3] rfl (G := Unit) (fun i _ => i ≤ Tx.length) (fun _ _ => [(3, .c (.ad 3 0))])
    (fun i _ => [(3, .var [.ow 60 1 i]), (60, .row 1 (sRow (Tx.take i))), (1000005, .var [.ad 1000000 0])]) () (by omega) ⟨rfl, trivial⟩ ⟨rfl, rfl, rfl, trivial⟩ (fun _ _ => rfl) (fun i _ args hg hi => ?_) (fun _ hi => ?_)
  · obtain ⟨hin, rfl⟩ := allV_get Tx hg
    have e := sRow_take1 hin
    have hl : (sRow (Tx.take i)).length = i := by rw [sRow_len, List.length_take]; omega
    refine ⟨by rw [hl], by rw [hl]; show (i + 1 + 768) * 16 ≤ _; omega, by rw [hl]; show i + 1 ≤ _; omega, sRow_closed, one_closed rfl, ?_⟩
    exact ⟨(), by omega, ⟨rfl, trivial⟩, ⟨by show some (Ob.var [.ow 60 1 (sRow (Tx.take i) ++ [[sS (Tx.getD i ⟨#[]⟩)]]).length]) = _; rw [List.length_append, hl]; rfl, by rw [e]; exact rowE (by rw [sRow_app]; rfl), rfl, trivial⟩⟩
  · rw [allV_len]
    rw [List.take_length]
    exact ⟨trivial, vcSub rfl rfl rfl rfl rfl, r1 rfl, trivial⟩
end
end Go.Proofs.YtjpbijdpkdmeaaaGreat.Pv
namespace Go.Proofs.YtjpbijdpkdmeaaaGreat.Pv
open Go
theorem tblank_ct (n : Int) : Ct P 140 [.c (eI .u8 n)] [.c (.sc (.bool (blankI n)))] := by
  refine Ct.go T_ok T_mix (N := 10) Tryz.func140 rfl rfl rfl rfl ?_
  refine ecase (fun h1 => ?_) (fun h1 => ?_)
  · subst h1; exact ⟨trivial, r1 rfl, trivial⟩
  · refine ecase (fun h2 => ?_) (fun h2 => ?_)
    · subst h2; exact ⟨trivial, r1 rfl, trivial⟩
    · refine ecase (fun h3 => ?_) (fun h3 => ?_)
      · subst h3; exact ⟨trivial, r1 rfl, trivial⟩
      · refine ecase (fun h4 => ?_) (fun h4 => ?_)
        · subst h4; exact ⟨trivial, r1 rfl, trivial⟩
        · refine ecase (fun h5 => ?_) (fun h5 => ?_)
          · subst h5; exact ⟨trivial, r1 rfl, trivial⟩
          · exact ⟨trivial, r1 (blE (show false = blankI n by simp [blankI, h1, h2, h3, h4, h5])), trivial⟩
theorem tmark_ct (s : ByteArray) : Ct P 141 [.c (sS s)] [.c (.sc (.bool (markB s)))] := by
  refine Ct.go T_ok T_mix (N := 9) Tryz.func141 rfl rfl rfl rfl ?_
  refine bcase (fun h1 => ?_) (fun h1 => ?_)
  · exact ⟨trivial, r1 (blE (show true = markB s by unfold markB; rw [show (s.toList == (ByteArray.mk #[60, 115, 62]).toList) = true from h1]; rfl)), trivial⟩
  · exact ⟨trivial, r1 (blE (show (s.toList == (ByteArray.mk #[60, 47, 115, 62]).toList) = markB s by unfold markB; rw [show (s.toList == (ByteArray.mk #[60, 115, 62]).toList) = false from h1]; rfl)), trivial⟩
theorem size_empty (s : ByteArray) : (s.toList == (ByteArray.mk #[]).toList) = decide (s.size = 0) := by
  rw [tl_beq]
  refine decide_eq_decide.2 ⟨fun h => by rw [h]; rfl, fun h => ?_⟩
  cases s with
  | mk a => 
    have : a = #[] := Array.eq_empty_of_size_eq_zero h
    rw [this]
theorem wd_all {s : ByteArray} (h : ∀ (j : Nat) (hj : j < s.size), wdB (s.data[j]'hj) = true) : s.data.toList.all wdB = true := by
  rw [List.all_eq_true]
  intro x hx
  obtain ⟨j, hj, e⟩ := List.mem_iff_getElem.1 hx
  have hj' : j < s.size := hj
  have := h j hj'
  rw [← e]
  simpa using this
theorem wd_none {s : ByteArray} (j : Nat) (hj : j < s.size) (h : wdB (s.data[j]'hj) = false) : s.data.toList.all wdB = false := by
  rw [List.all_eq_false]
  exact ⟨s.data[j]'hj, by simp, by rw [h]; simp⟩
theorem vright_ct (s : ByteArray) (hs : s.size ≤ 140737488355328) : Ct P 95 [.c (sS s)] [.c (.sc (.bool (rightW s)))] := by
  refine Ct.go T_ok T_mix (N := 32) Tryz.func95 rfl rfl rfl rfl ?_
  refine loopB T_ok T_mix (fun i : Nat => i ≤ s.size ∧ ∀ (j : Nat) (hj : j < s.size), j < i → wdB (s.data[j]'hj) = true) (fun i => [(0, .c (sS s)), (3, .c (nI .i64 i))]) (fun _ => []) (fun i => s.size - i)
    0 ⟨by omega, fun j _ h => by omega⟩ ⟨rfl, rfl, trivial⟩ trivial (fun i hi => ?_)
  obtain ⟨i1, i2⟩ := hi
  refine dcase (fun h1 => ?_) (fun h1 => ?_)
  · have hi' : i < s.size := by omega
    have hb : s.data[i]? = some s.data[i] := Array.getElem?_eq_getElem hi'
    obtain ⟨b, hbe⟩ : ∃ b, b = s.data[i]'hi' := ⟨_, rfl⟩
    rw [← hbe] at hb
    refine And.intro (by omega) (X1 b (by rw [Int.toNat_natCast]; exact hb) ?_)
    refine X1 _ (tblank_ct _) ?_
    have hbad : (blankI (b.toNat : Int) || ((b.toNat : Int) == 10)) = true → rightW s = false := fun h => by
      have h := wd_none i hi' (by rw [← hbe]; unfold wdB; rw [h]; rfl)
      unfold rightW
      rw [h]; rfl
    have hgood : (blankI (b.toNat : Int) || ((b.toNat : Int) == 10)) = false → ∀ (j : Nat) (hj : j < s.size), j < i + 1 → wdB (s.data[j]'hj) = true := fun h j hj hji => by
      by_cases e : j = i
      · subst e
        rw [← hbe]; unfold wdB; rw [h]; rfl
      · exact i2 j hj (by omega)
    refine bcase (fun h2 => ?_) (fun h2 => ?_)
    · rw [h2] at hbad
      exact ⟨trivial, r1 (blE (hbad rfl).symm), trivial⟩
    · refine And.intro (by omega) (X1 b (by rw [Int.toNat_natCast]; exact hb) ?_)
      rw [h2] at hbad hgood
      refine ecase (fun h3 => ?_) (fun h3 => ?_)
      · exact ⟨trivial, r1 (blE (hbad (by rw [h3]; rfl)).symm), trivial⟩
      · refine X1 ((i + 1 : Nat) : Int) (wI1 (by omega)) ?_
        exact ⟨i + 1, ⟨by omega, hgood (by simpa using h3)⟩, by omega, ⟨rfl, rfl, trivial⟩, trivial⟩
  · have e : i = s.size := by omega
    subst e
    have hall := wd_all fun j hj => i2 j hj hj
    have hse := size_empty s
    have hr : rightW s = (decide (s.size ≠ 0) && (decide (s.size ≤ 255) && !markB s)) := by unfold rightW; rw [hall]; rfl
    have fin : ∀ a b : Bool, a = decide (s.size ≠ 0) → b = (decide (s.size ≤ 255) && !markB s) → (a && b) = rightW s := fun a b h1 h2 => by rw [hr, h1, h2]
    have z : (!(s.toList == (ByteArray.mk #[]).toList)) = decide (s.size ≠ 0) := by rw [hse]; by_cases h : s.size = 0 <;> simp [h]
    have dc : ∀ a : Nat, decide ((a : Int) ≤ 255) = decide (a ≤ 255) := fun a => decide_eq_decide.2 (by omega)
    refine joinC T_ok T_mix ?_
    refine bcase (fun h2 => ?_) (fun h2 => ?_)
    · rw [h2] at z
      refine dcase (fun h3 => ?_) (fun h3 => ?_)
      · refine X1 _ (tmark_ct _) ?_
        exact ⟨trivial, r1 (blE (by rw [← fin true (!markB s) z (by rw [decide_eq_true (show s.size ≤ 255 by omega)]; rfl)]; rfl)), trivial⟩
      · exact ⟨trivial, r1 (blE (by rw [← fin true false z (by rw [decide_eq_false (show ¬ s.size ≤ 255 by omega)]; rfl)]; rfl)), trivial⟩
    · rw [h2] at z
      exact ⟨trivial, r1 (blE (by rw [hr, ← z]; rfl)), trivial⟩
theorem rright_ct (s : ByteArray) (hs : s.size ≤ 140737488355328) : Ct P 88 [.c (sS s)] [.c (.sc (.bool (rightW s)))] := by
  refine Ct.go T_ok T_mix (N := 32) Tryz.func88 rfl rfl rfl rfl ?_
  refine loopB T_ok T_mix (fun i : Nat => i ≤ s.size ∧ ∀ (j : Nat) (hj : j < s.size), j < i → wdB (s.data[j]'hj) = true) (fun i => [(0, .c (sS s)), (3, .c (nI .i64 i))]) (fun _ => []) (fun i => s.size - i)
    0 ⟨by omega, fun j _ h => by omega⟩ ⟨rfl, rfl, trivial⟩ trivial (fun i hi => ?_)
  obtain ⟨i1, i2⟩ := hi
  refine dcase (fun h1 => ?_) (fun h1 => ?_)
  · have hi' : i < s.size := by omega
    have hb : s.data[i]? = some s.data[i] := Array.getElem?_eq_getElem hi'
    obtain ⟨b, hbe⟩ : ∃ b, b = s.data[i]'hi' := ⟨_, rfl⟩
    rw [← hbe] at hb
    refine And.intro (by omega) (X1 b (by rw [Int.toNat_natCast]; exact hb) ?_)
    refine X1 _ (blank_ct _) ?_
    have hbad : (blankI (b.toNat : Int) || ((b.toNat : Int) == 10)) = true → rightW s = false := fun h => by
      have h := wd_none i hi' (by rw [← hbe]; unfold wdB; rw [h]; rfl)
      unfold rightW
      rw [h]; rfl
    have hgood : (blankI (b.toNat : Int) || ((b.toNat : Int) == 10)) = false → ∀ (j : Nat) (hj : j < s.size), j < i + 1 → wdB (s.data[j]'hj) = true := fun h j hj hji => by
      by_cases e : j = i
      · subst e
        rw [← hbe]; unfold wdB; rw [h]; rfl
      · exact i2 j hj (by omega)
    refine bcase (fun h2 => ?_) (fun h2 => ?_)
    · rw [h2] at hbad
      exact ⟨trivial, r1 (blE (hbad rfl).symm), trivial⟩
    · refine And.intro (by omega) (X1 b (by rw [Int.toNat_natCast]; exact hb) ?_)
      rw [h2] at hbad hgood
      refine ecase (fun h3 => ?_) (fun h3 => ?_)
      · exact ⟨trivial, r1 (blE (hbad (by rw [h3]; rfl)).symm), trivial⟩
      · refine X1 ((i + 1 : Nat) : Int) (wI1 (by omega)) ?_
        exact ⟨i + 1, ⟨by omega, hgood (by simpa using h3)⟩, by omega, ⟨rfl, rfl, trivial⟩, trivial⟩
  · have e : i = s.size := by omega
    subst e
    have hall := wd_all fun j hj => i2 j hj hj
    have hse := size_empty s
    have hr : rightW s = (decide (s.size ≠ 0) && (decide (s.size ≤ 255) && !markB s)) := by unfold rightW; rw [hall]; rfl
    have fin : ∀ a b : Bool, a = decide (s.size ≠ 0) → b = (decide (s.size ≤ 255) && !markB s) → (a && b) = rightW s := fun a b h1 h2 => by rw [hr, h1, h2]
    have z : (!(s.toList == (ByteArray.mk #[]).toList)) = decide (s.size ≠ 0) := by rw [hse]; by_cases h : s.size = 0 <;> simp [h]
    have dc : ∀ a : Nat, decide ((a : Int) ≤ 255) = decide (a ≤ 255) := fun a => decide_eq_decide.2 (by omega)
    refine joinC T_ok T_mix ?_
    refine bcase (fun h2 => ?_) (fun h2 => ?_)
    · rw [h2] at z
      refine dcase (fun h3 => ?_) (fun h3 => ?_)
      · refine X1 _ (mark_ct _) ?_
        exact ⟨trivial, r1 (blE (by rw [← fin true (!markB s) z (by rw [decide_eq_true (show s.size ≤ 255 by omega)]; rfl)]; rfl)), trivial⟩
      · exact ⟨trivial, r1 (blE (by rw [← fin true false z (by rw [decide_eq_false (show ¬ s.size ≤ 255 by omega)]; rfl)]; rfl)), trivial⟩
    · rw [h2] at z
      exact ⟨trivial, r1 (blE (by rw [hr, ← z]; rfl)), trivial⟩
theorem same13_ct (l m : List ByteArray) (hl : l.length ≤ 1000000) (hm : m.length ≤ 1000000) : Ct P 44 [.c (sSl l), .c (sSl m)] [.c (.sc (.bool (decide (l = m))))] := by
  refine Ct.go T_ok T_mix (N := 26) Tryz.func44 rfl rfl rfl rfl ?_
  refine And.intro (by rw [sRow_len]; omega) (And.intro (by rw [sRow_len]; omega) ?_)
  rw [sRow_len, sRow_len]
  refine ncase (fun h1 => ?_) (fun h1 => ?_)
  · exact ⟨trivial, r1 (blE (decide_eq_false (fun h => h1 (by rw [h]))).symm), trivial⟩
  have hlm : l.length = m.length := by omega
  refine loopB T_ok T_mix (fun i : Nat => i ≤ l.length ∧ l.take i = m.take i) (fun i => [(0, .c (sSl l)), (1, .c (sSl m)), (5, .c (nI .i64 i))]) (fun _ => []) (fun i => l.length - i)
    0 ⟨by omega, by simp⟩ ⟨rfl, rfl, rfl, trivial⟩ trivial (fun i hi => ?_)
  obtain ⟨i1, i2⟩ := hi
  refine And.intro (by rw [sRow_len]; omega) ?_
  rw [sRow_len]
  refine dcase (fun h2 => ?_) (fun h2 => ?_)
  · have hi' : i < l.length := by omega
    have hi2 : i < m.length := by omega
    refine And.intro (by omega) (X1 _ (sRow_getN rfl hi') ?_)
    refine And.intro (by omega) (X1 _ (sRow_getN rfl hi2) ?_)
    refine And.intro rfl ?_
    have hb : (!(l[i].toList == m[i].toList)) = !decide (l[i] = m[i]) := by rw [tl_beq]
    refine bcase (fun h3 => ?_) (fun h3 => ?_)
    · rw [h3] at hb
      have hne : ¬ l[i] = m[i] := fun h => by rw [decide_eq_true h] at hb; cases hb
      exact ⟨trivial, r1 (blE (decide_eq_false (fun h => hne (by subst h; rfl))).symm), trivial⟩
    · rw [h3] at hb
      have he : l[i] = m[i] := by
        apply Classical.byContradiction
        intro hh
        rw [decide_eq_false hh] at hb; cases hb
      refine X1 ((i + 1 : Nat) : Int) (wI1 (by omega)) ?_
      exact ⟨i + 1, ⟨by omega, by rw [List.take_succ_eq_append_getElem hi', List.take_succ_eq_append_getElem hi2, i2, he]⟩, by omega, ⟨rfl, rfl, rfl, trivial⟩, trivial⟩
  · have e : i = l.length := by omega
    rw [e, List.take_length, hlm, List.take_length] at i2
    refine joinC T_ok T_mix ?_
    exact ⟨trivial, r1 (blE (decide_eq_true i2).symm), trivial⟩
theorem wrongR_step {pre : List ByteArray} {s : ByteArray} {r : List ByteArray} (h1 : rightW s = true) (h2 : ¬ 0 ≤ find14 s pre) : wrongR pre (s :: r) = wrongR (pre ++ [s]) r := by
  rw [wrongR, h1, decide_eq_false h2]; rfl
theorem wrongR_drop {l : List ByteArray} {i : Nat} (h : i < l.length) (h1 : rightW l[i] = true) (h2 : ¬ 0 ≤ find14 l[i] (l.take i)) : wrongR (l.take i) (l.drop i) = wrongR (l.take (i + 1)) (l.drop (i + 1)) := by
  rw [List.drop_eq_getElem_cons h, wrongR_step h1 h2, List.take_succ_eq_append_getElem h]
theorem wrongR_bad {l : List ByteArray} {i : Nat} (h : i < l.length) (h1 : rightW l[i] = false ∨ 0 ≤ find14 l[i] (l.take i)) : wrongR (l.take i) (l.drop i) = true := by
  rw [List.drop_eq_getElem_cons h, wrongR]
  rcases h1 with h1 | h1
  · rw [h1]; rfl
  · rw [decide_eq_true h1, Bool.or_true]; rfl
theorem wrong15_ct (l : List ByteArray) (hl : l.length ≤ 1000000) (hs : ∀ x, x ∈ l → x.size ≤ 140737488355328) : Ct P 50 [.c (sSl l)] [.c (eI .i64 (wrongV l))] := by
  refine Ct.go T_ok T_mix (N := 40) Tryz.func50 rfl rfl rfl rfl ?_
  refine And.intro (by rw [sRow_len]; omega) ?_
  rw [sRow_len]
  have hdone : (l.length < 3 ∨ l.take 3 ≠ marks15) → wrongV l = 1 := fun h => by unfold wrongV; rw [if_pos h]
  refine dcase (fun h1 => ?_) (fun h1 => ?_)
  · refine And.intro rfl ?_
    exact ⟨trivial, r1 (iE (hdone (.inl (by omega))).symm), trivial⟩
  have hsame := same13_ct (l.take 3) marks15 (by rw [List.length_take]; omega) (by decide)
  rw [show sSl (l.take 3) = .sl 1 (((sRow l).drop 0).take (3 - 0)) by simp [sRow]] at hsame
  refine ⟨0, 3, rfl, rfl, by omega, by rw [sRow_len]; omega, ?_⟩
  refine X1 _ marks15_ct ?_
  refine X1 _ hsame ?_
  refine And.intro rfl ?_
  refine bcase (fun h2 => ?_) (fun h2 => ?_)
  · have h2' : ¬ l.take 3 = marks15 := by simpa using h2
    exact ⟨trivial, r1 (iE (hdone (.inr h2')).symm), trivial⟩
  have h2' : l.take 3 = marks15 := by simpa using h2
  have hn : ¬ (l.length < 3 ∨ l.take 3 ≠ marks15) := fun h => h.elim (fun h => by omega) (fun h => h h2')
  refine And.intro (by rw [sRow_len]; omega) ?_
  rw [sRow_len]
  refine dcase (fun h3 => ?_) (fun h3 => ?_)
  · exact ⟨trivial, r1 (iE (by unfold wrongV; rw [if_neg hn, if_pos (by omega)])), trivial⟩
  have hw : wrongV l = if wrongR (l.take 3) (l.drop 3) = true then 10 else 0 := by unfold wrongV; rw [if_neg hn, if_neg (by omega)]
  refine loopB T_ok T_mix (fun i : Nat => 3 ≤ i ∧ i ≤ l.length ∧ wrongR (l.take 3) (l.drop 3) = wrongR (l.take i) (l.drop i)) (fun i => [(0, .c (sSl l)), (3, .c (nI .i64 i))]) (fun _ => []) (fun i => l.length - i)
    3 ⟨by omega, by omega, rfl⟩ ⟨rfl, rfl, trivial⟩ trivial (fun i hi => ?_)
  obtain ⟨i0, i1, i2⟩ := hi
  refine And.intro (by rw [sRow_len]; omega) ?_
  rw [sRow_len]
  refine dcase (fun h4 => ?_) (fun h4 => ?_)
  · have hi' : i < l.length := by omega
    have hmem : l[i] ∈ l := List.getElem_mem hi'
    have hfind := find14_ct (l.take i) l[i] (by rw [List.length_take]; omega)
    rw [show sSl (l.take i) = .sl 1 (((sRow l).drop 0).take (i - 0)) by simp [sRow, List.map_take]] at hfind
    refine And.intro (by omega) (X1 _ (sRow_getN rfl hi') ?_)
    refine X1 _ (rright_ct l[i] (hs _ hmem)) ?_
    refine bcase (fun h5 => ?_) (fun h5 => ?_)
    · have h5' : rightW l[i] = false := by simpa using h5
      have hbad := wrongR_bad hi' (.inl h5')
      refine And.intro rfl ?_
      exact ⟨trivial, r1 (iE (by rw [hw, i2, hbad]; rfl)), trivial⟩
    · have h5' : rightW l[i] = true := by simpa using h5
      refine ⟨0, i, rfl, rfl, by omega, by rw [sRow_len]; omega, ?_⟩
      refine And.intro (by omega) (X1 _ (sRow_getN rfl hi') ?_)
      refine X1 _ hfind ?_
      refine And.intro rfl ?_
      refine dcase (fun h6 => ?_) (fun h6 => ?_)
      · have hbad := wrongR_bad hi' (.inr h6)
        exact ⟨trivial, r1 (iE (by rw [hw, i2, hbad]; rfl)), trivial⟩
      · refine X1 ((i + 1 : Nat) : Int) (wI1 (by omega)) ?_
        exact ⟨i + 1, ⟨by omega, by omega, by rw [i2, wrongR_drop hi' h5' (by omega)]⟩, by omega, ⟨rfl, rfl, trivial⟩, trivial⟩
  · have e : i = l.length := by omega
    refine joinC T_ok T_mix ?_
    exact ⟨trivial, r1 (iE (by rw [hw, i2, e, List.drop_length]; rfl)), trivial⟩
noncomputable def sN (l : List ByteArray) : Nat → List Nat
  | 0 => List.replicate 8 0
  | i + 1 => sPut (l.take i) (sN l i) (l.getD i ⟨#[]⟩)
theorem sN_take (l : List ByteArray) (n : Nat) : ∀ i, i ≤ n → sN (l.take n) i = sN l i
  | 0, _ => rfl
  | i + 1, h => by
    unfold sN
    rw [sN_take l n i (by omega), List.take_take, Nat.min_eq_left (by omega)]
    congr 1
    rw [List.getD_eq_getElem?_getD, List.getD_eq_getElem?_getD, List.getElem?_take_of_lt (by omega)]
def NewW (l : List ByteArray) (n : Nat) : Prop := ∀ (i : Nat) (h : i < l.length), i < n → l[i] ∉ l.take i ∧ l[i].size ≤ 1000000
theorem getDl {l : List ByteArray} {i : Nat} (h : i < l.length) : l.getD i ⟨#[]⟩ = l[i] := by
  rw [List.getD_eq_getElem?_getD, List.getElem?_eq_getElem h]; rfl
theorem sN_ok {l : List ByteArray} (hn : l.length ≤ 9000) : ∀ i, i ≤ l.length → NewW l i → TabB (l.take i) (sN l i) ∧ (sN l i).length ≤ 4 * (l.take i).length + 8
  | 0, _, _ => by
    refine ⟨⟨by rw [List.take_zero]; exact Tab.nil (by decide), ⟨3, rfl, by decide⟩, by simp [sN], by simp, fun x hx => by simp at hx⟩, by simp [sN]⟩
  | i + 1, h, hw => by
    obtain ⟨h1, h2⟩ := sN_ok hn i (by omega) (fun j hj hji => hw j hj (by omega))
    obtain ⟨h3, h4⟩ := hw i (by omega) (by omega)
    have hl : (l.take i).length ≤ 9000 := by rw [List.length_take]; omega
    have e : l.take (i + 1) = l.take i ++ [l[i]] := List.take_succ_eq_append_getElem (by omega)
    have := sPut_ok h1 h2 hl h3 h4
    unfold sN
    rw [e, getDl (by omega)]
    exact this
theorem marks_new : NewW marks15 3 := fun i h _ => by
  match i, h with
  | 0, _ => exact ⟨by simp [marks15], by show 5 ≤ 1000000; omega⟩
  | 1, _ => exact ⟨by simp [marks15], by show 3 ≤ 1000000; omega⟩
  | 2, _ => exact ⟨by simp [marks15], by show 4 ≤ 1000000; omega⟩
abbrev vcP (k : Nat) (Tx : List ByteArray) (s : List Nat) : Objs := [(k, some (.var [.ad 300 0])), (300, some (.var (tbC 200 201 301 Tx.length s.length))), (200, some (.row 1 (sRow Tx))), (201, some (.row 1 (nRow .i32 s))), (301, some (.var [.ad 300 0]))]
abbrev σv : List (Nat × Nat) := [(300, 1000000), (200, 1000001), (201, 1000002), (301, 1000003)]
abbrev νv : List (Nat × Nat) := [(1000000, 300), (200, 200), (201, 201), (1000003, 301)]
theorem vnew_ct : CtO P 94 [] [] (vcP 6 marks15 (sN marks15 3)) [.c (.ad 6 0)] := by
  have hT := Ty.own_ok [139, 1000001, 1000003] T_ok
  refine Ct.keepI hT [] (N := 21) Tryz.func94 rfl rfl rfl rfl ?_
  refine seqI hT T_mix ?_
  refine seqI hT T_mix ?_
  refine X2 (.own [] [(3, 300), (5, 201), (1, 301)]) ?_
  refine ⟨_, _, inew_ct, ?_⟩
  refine nilVar (r := 200) (k := 300) (i := 0) (sz := 1) rfl rfl rfl ?_
  refine joinC hT T_mix ?_
  refine And.intro (by decide) ?_
  refine loopJ hT T_mix (fun i : Nat => i ≤ 3) (fun i => [(1, .c (.ad 6 0)), (7, .c (sSl marks15)), (8, .c (nI .i64 3)), (9, .c (nI .i64 i))]) (fun i => [(6, .var [.ad 300 0]), (300, .var (tbC 200 201 301 (marks15.take i).length (sN marks15 i).length)), (200, .row 1 (sRow (marks15.take i))), (201, .row 1 (nRow .i32 (sN marks15 i))), (301, .var [.ad 300 0])]) (fun i => 3 - i)
    0 (by omega) ⟨rfl, rfl, rfl, rfl, trivial⟩ ⟨rfl, rfl, rfl, rfl, rfl, trivial⟩ (fun _ : Unit => True) (fun _ => [(1, .c (.ad 6 0))]) (fun _ => [(6, .var [.ad 300 0]), (300, .var (tbC 200 201 301 3 (sN marks15 3).length)), (200, .row 1 (sRow marks15)), (201, .row 1 (nRow .i32 (sN marks15 3))), (301, .var [.ad 300 0])]) (fun i hi => ?_) (fun _ _ => ?_)
  · refine dcase (fun h1 => ?_) (fun h1 => ?_)
    · have hi' : i < marks15.length := by show i < 3; omega
      obtain ⟨h2, h3⟩ := sN_ok (l := marks15) (by decide) i (by omega) (fun j hj hji => marks_new j hj (by omega))
      obtain ⟨h4, h5⟩ := marks_new i hi' (by omega)
      have hll : (marks15.take i).length = i := by rw [List.length_take]; omega
      have hp := iputNew_ct (marks15.take i) (sN marks15 i) marks15[i] h2 h3 (by rw [hll]; omega) h4 h5
      refine And.intro (by omega) (X1 _ (sRow_getN rfl hi') ?_)
      refine X2 (.own σv νv) ?_
      refine ⟨_, _, hp, ?_⟩
      refine X1 ((i + 1 : Nat) : Int) (wI1 (by omega)) ?_
      have e : marks15.take (i + 1) = marks15.take i ++ [marks15[i]] := List.take_succ_eq_append_getElem hi'
      have e2 : sN marks15 (i + 1) = sPut (marks15.take i) (sN marks15 i) marks15[i] := by show sPut _ _ (marks15.getD i _) = _; rw [getDl hi']
      exact ⟨i + 1, by omega, by omega, ⟨rfl, rfl, rfl, rfl, trivial⟩, ⟨rfl, by rw [e, e2]; rfl, by rw [e]; rfl, by rw [e2]; rfl, rfl, trivial⟩⟩
    · have e : i = 3 := by omega
      subst e
      exact ⟨(), trivial, ⟨rfl, trivial⟩, ⟨rfl, rfl, rfl, rfl, rfl, trivial⟩⟩
  · exact ⟨trivial, SubO.of (l := [(6, .var [.ad 300 0]), (300, .var (tbC 200 201 301 marks15.length (sN marks15 3).length)), (200, .row 1 (sRow marks15)), (201, .row 1 (nRow .i32 (sN marks15 3))), (301, .var [.ad 300 0])]) ⟨rfl, rfl, rfl, rfl, rfl, trivial⟩, r1 rfl, trivial⟩
abbrev vcL (Tx : List ByteArray) (s : List Nat) : List (Nat × Ob) := [(302, .var [.ad 300 0]), (300, .var (tbC 200 201 301 Tx.length s.length)), (200, .row 1 (sRow Tx)), (201, .row 1 (nRow .i32 s)), (301, .var [.ad 300 0])]
theorem vof_ct (l : List ByteArray) (hl : l.length ≤ 9000) (hs : ∀ x, x ∈ l → x.size ≤ 140737488355328) : Ct P 56 [.c (sSl l)] [.c .dead, .c (eI .i64 (wrongV l))] := by
  have hT := Ty.own_ok [94] T_ok
  refine Ct.keep hT T_mix [] (N := 56) Tryz.func56 rfl rfl rfl rfl ?_
  refine X2 (.own [] [(6, 302), (300, 300), (200, 200), (201, 201), (301, 301)]) ?_
  refine ⟨_, _, vnew_ct, ?_⟩
  refine And.intro (by rw [sRow_len]; omega) ?_
  rw [sRow_len]
  have hbad1 : (l.length < 3 ∨ l.take 3 ≠ marks15) → wrongV l = 1 := fun h => by unfold wrongV; rw [if_pos h]
  refine dcase (fun h1 => ?_) (fun h1 => ?_)
  · exact ⟨trivial, SubO.of (l := []) trivial, ⟨.c _, rfl, .inr (.inr rfl)⟩, r1 (iE (hbad1 (.inl (by omega))).symm), trivial⟩
  refine X2 (.own [(302, 1000005), (300, 1000000), (200, 1000001), (201, 1000002), (301, 1000003)] [(1000005, 302), (1000000, 300), (1000001, 200), (1000002, 201), (1000003, 301)]) ?_
  refine ⟨_, _, vwords_ct marks15 (sN marks15 3) (by decide), ?_⟩
  refine And.intro (by decide) ?_
  refine loopJ hT T_mix (fun i : Nat => i ≤ 3 ∧ l.take i = marks15.take i) (fun i => [(0, .c (sSl l)), (4, .c (.ad 302 0)), (16, .c (sSl marks15)), (17, .c (nI .i64 3)), (18, .c (nI .i64 i))]) (fun _ => vcL marks15 (sN marks15 3)) (fun i => 3 - i)
    0 ⟨by omega, by simp⟩ ⟨rfl, rfl, rfl, rfl, rfl, trivial⟩ ⟨rfl, rfl, rfl, rfl, rfl, trivial⟩ (fun _ : Unit => l.take 3 = marks15) (fun _ => [(0, .c (sSl l)), (4, .c (.ad 302 0))]) (fun _ => vcL marks15 (sN marks15 3)) (fun i hi => ?_) (fun _ hm => ?_)
  · obtain ⟨i1, i2⟩ := hi
    refine dcase (fun h2 => ?_) (fun h2 => ?_)
    · have hi' : i < marks15.length := by show i < 3; omega
      have hi2 : i < l.length := by omega
      refine And.intro (by omega) (X1 _ (sRow_getN rfl hi') ?_)
      refine And.intro (by omega) (X1 _ (sRow_getN rfl hi2) ?_)
      have hb : (!(l[i].toList == marks15[i].toList)) = !decide (l[i] = marks15[i]) := by rw [tl_beq]
      refine bcase (fun h3 => ?_) (fun h3 => ?_)
      · rw [h3] at hb
        have hne : ¬ l[i] = marks15[i] := fun h => by rw [decide_eq_true h] at hb; cases hb
        have hne2 : l.take 3 ≠ marks15 := fun h => hne (by
          have e : (l.take 3)[i]? = marks15[i]? := by rw [h]
          rw [List.getElem?_take_of_lt (by omega), List.getElem?_eq_getElem hi2, List.getElem?_eq_getElem hi'] at e
          exact Option.some.inj e)
        exact ⟨trivial, SubO.of (l := []) trivial, ⟨.c _, rfl, .inr (.inr rfl)⟩, r1 (iE (hbad1 (.inr hne2)).symm), trivial⟩
      · rw [h3] at hb
        have he : l[i] = marks15[i] := by
          apply Classical.byContradiction
          intro hh
          rw [decide_eq_false hh] at hb; cases hb
        refine X1 ((i + 1 : Nat) : Int) (wI1 (by omega)) ?_
        exact ⟨i + 1, ⟨by omega, by rw [List.take_succ_eq_append_getElem hi2, List.take_succ_eq_append_getElem hi', i2, he]⟩, by omega, ⟨rfl, rfl, rfl, rfl, rfl, trivial⟩, ⟨rfl, rfl, rfl, rfl, rfl, trivial⟩⟩
    · have e : i = 3 := by omega
      subst e
      exact ⟨(), i2, ⟨rfl, rfl, trivial⟩, ⟨rfl, rfl, rfl, rfl, rfl, trivial⟩⟩
  have hn : ¬ (l.length < 3 ∨ l.take 3 ≠ marks15) := fun h => h.elim (fun h => by omega) (fun h => h hm)
  refine And.intro (by rw [sRow_len]; omega) ?_
  rw [sRow_len]
  refine dcase (fun h3 => ?_) (fun h3 => ?_)
  · exact ⟨trivial, SubO.of (l := []) trivial, ⟨.c _, rfl, .inr (.inr rfl)⟩, r1 (iE (by unfold wrongV; rw [if_neg hn, if_pos (by omega)])), trivial⟩
  have hw : wrongV l = if wrongR (l.take 3) (l.drop 3) = true then 10 else 0 := by unfold wrongV; rw [if_neg hn, if_neg (by omega)]
  refine ⟨3, l.length, rfl, by rw [sRow_len]; rfl, by omega, by rw [sRow_len]; omega, ?_⟩
  have hdl : (((sRow l).drop 3).take (l.length - 3)).length = l.length - 3 := by rw [List.length_take, List.length_drop, sRow_len]; omega
  refine And.intro (by rw [hdl]; omega) ?_
  rw [hdl]
  have em : sN marks15 3 = sN l 3 := by rw [← hm]; exact sN_take l 3 3 (by omega)
  have hm0 : NewW l 3 := fun i h hi => by
    have h' : i < marks15.length := hi
    have := marks_new i h' hi
    have e1 : l[i] = marks15[i] := by
      have e : (l.take 3)[i]? = marks15[i]? := by rw [hm]
      rw [List.getElem?_take_of_lt hi, List.getElem?_eq_getElem h, List.getElem?_eq_getElem h'] at e
      exact Option.some.inj e
    have e2 : l.take i = marks15.take i := by rw [← hm, List.take_take, Nat.min_eq_left (by omega)]
    rw [e1, e2]; exact this
  refine loopB hT T_mix (fun i : Nat => 3 + i ≤ l.length ∧ NewW l (3 + i) ∧ wrongR (l.take 3) (l.drop 3) = wrongR (l.take (3 + i)) (l.drop (3 + i))) (fun i => [(0, .c (sSl l)), (4, .c (.ad 302 0)), (34, .c (.sl 1 (((sRow l).drop 3).take (l.length - 3)))), (35, .c (nI .i64 (l.length - 3))), (36, .c (nI .i64 i))])
    (fun i => vcL (l.take (3 + i)) (sN l (3 + i))) (fun i => l.length - 3 - i)
    0 ⟨by omega, hm0, rfl⟩ ⟨rfl, rfl, rfl, rfl, rfl, trivial⟩ (by rw [hm, ← em]; exact ⟨rfl, rfl, rfl, rfl, rfl, trivial⟩) (fun i hi => ?_)
  obtain ⟨i0, i1, i2⟩ := hi
  refine dcase (fun h4 => ?_) (fun h4 => ?_)
  · have hi' : 3 + i < l.length := by omega
    have hmem : l[3 + i] ∈ l := List.getElem_mem hi'
    have hel : (((sRow l).drop 3).take (l.length - 3))[((i : Nat) : Int).toNat]? = some [sS l[3 + i]] := by
      rw [Int.toNat_natCast, List.getElem?_take_of_lt (by omega), List.getElem?_drop]
      have := sRow_getN (l := l) (i := ((3 + i : Nat) : Int)) rfl hi'
      rwa [Int.toNat_natCast] at this
    have e : l.take (3 + (i + 1)) = l.take (3 + i) ++ [l[3 + i]] := List.take_succ_eq_append_getElem hi'
    have hll : (l.take (3 + i)).length = 3 + i := by rw [List.length_take]; omega
    refine And.intro (by omega) (X1 _ hel ?_)
    refine X1 _ (vright_ct l[3 + i] (hs _ hmem)) ?_
    refine bcase (fun h5 => ?_) (fun h5 => ?_)
    · have h5' : rightW l[3 + i] = false := by simpa using h5
      have hbad := wrongR_bad hi' (.inl h5')
      exact ⟨trivial, SubO.of (l := []) trivial, ⟨.c _, rfl, .inr (.inr rfl)⟩, r1 (iE (by rw [hw, i2, hbad]; rfl)), trivial⟩
    · have h5' : rightW l[3 + i] = true := by simpa using h5
      have hsz : l[3 + i].size ≤ 1000000 := by
        unfold rightW at h5'
        simp only [Bool.and_eq_true, decide_eq_true_eq] at h5'
        omega
      obtain ⟨s1, s2⟩ := sN_ok hl (3 + i) (by omega) i1
      by_cases hk : l[3 + i] ∈ l.take (3 + i)
      · obtain ⟨j, hj⟩ := List.mem_iff_getElem?.1 hk
        have hp := iputOld_ct (l.take (3 + i)) (sN l (3 + i)) l[3 + i] j s1 hj
        have hbad := wrongR_bad hi' (.inr ((find14_in _ _).2 hk))
        refine X2 (.own σv [(1000000, 300), (1000001, 200), (1000002, 201), (1000003, 301)]) ?_
        refine ⟨_, _, hp, ?_⟩
        exact ⟨trivial, SubO.of (l := []) trivial, ⟨.c _, rfl, .inr (.inr rfl)⟩, r1 (iE (by rw [hw, i2, hbad]; rfl)), trivial⟩
      · have hp := iputNew_ct (l.take (3 + i)) (sN l (3 + i)) l[3 + i] s1 s2 (by omega) hk hsz
        refine X2 (.own σv νv) ?_
        refine ⟨_, _, hp, ?_⟩
        refine X1 ((i + 1 : Nat) : Int) (wI1 (by omega)) ?_
        have e2 : sN l (3 + (i + 1)) = sPut (l.take (3 + i)) (sN l (3 + i)) l[3 + i] := by show sPut _ _ (l.getD (3 + i) _) = _; rw [getDl hi']; rfl
        refine ⟨i + 1, ⟨by omega, fun j hj hji => ?_, by rw [i2, wrongR_drop hi' h5' (fun h => hk ((find14_in _ _).1 h))]; rfl⟩, by omega, ⟨rfl, rfl, rfl, rfl, rfl, trivial⟩, ⟨rfl, by rw [e, e2]; rfl, by rw [e]; rfl, by rw [e2]; rfl, rfl, trivial⟩⟩
        by_cases ej : j = 3 + i
        · subst ej; exact ⟨hk, hsz⟩
        · exact i1 j hj (by omega)
  · have e : 3 + i = l.length := by omega
    refine joinC hT T_mix ?_
    exact ⟨trivial, SubO.of (l := []) trivial, ⟨.c _, rfl, .inr (.inr rfl)⟩, r1 (iE (by rw [hw, i2, e, List.drop_length]; rfl)), trivial⟩
theorem eRow_len {l : List En} : (eRow l).length = l.length := by simp [eRow]
theorem eeRow_len {L : List (List En)} : (eeRow L).length = L.length := by simp [eeRow]
theorem eRow_get {l : List En} {i : Int} {n : Nat} (h0 : i = n) (h : n < l.length) : (eRow l)[i.toNat]? = some [iSl l[n].1, eI .i64 l[n].2.1, eI .i64 l[n].2.2] := by
  subst h0
  simp [eRow, h]
theorem eeRow_get {L : List (List En)} {i : Int} {n : Nat} (h0 : i = n) (h : n < L.length) : (eeRow L)[i.toNat]? = some [eSl L[n]] := by
  subst h0
  simp [eeRow, h]
structure EL (l : List En) : Prop where
  len : l.length ≤ 1000000
  g : ∀ x, x ∈ l → x.1.length ≤ 1000000
theorem EL.at' {l : List En} (h : EL l) {i : Nat} (hi : i < l.length) : l[i].1.length ≤ 1000000 := h.g _ (List.getElem_mem hi)
theorem idx_in : ∀ {l : List Int} {v : Int}, v ∈ l → 0 ≤ idx v l
  | y :: l, v, h => by
    unfold idx
    split
    · omega
    · rename_i hn
      have : v ∈ l := by
        rcases List.mem_cons.1 h with rfl | h
        · exact absurd rfl hn
        · exact h
      have := idx_in this
      rw [if_neg (by omega)]; omega
theorem idx_has {l : List Int} {v : Int} : decide (idx v l ≥ 0) = l.contains v := by
  by_cases h : v ∈ l
  · rw [decide_eq_true (idx_in h)]; simp [h]
  · have : idx v l = -1 := idx_none v l fun j hj => h (List.mem_of_getElem? hj)
    rw [this]; simp [h]
theorem iRow_drop {l : List Int} {k : Nat} : ((iRow l).drop k).take (l.length - k) = iRow (l.drop k) := by
  rw [List.take_of_length_le (by rw [List.length_drop, iRow_len]; omega)]
  simp [iRow, List.map_drop]
theorem iRow_take {l : List Int} {k : Nat} : ((iRow l).drop 0).take (k - 0) = iRow (l.take k) := by simp [iRow, List.map_take]
theorem mwithin_ct (c : Int) : Ct P 134 [.c (eI .i64 c)] [.c (.sc (.bool (inC c)))] := by
  refine Ct.go T_ok T_mix (N := 9) Tryz.func134 rfl rfl rfl rfl ?_
  refine dcase (fun h1 => ?_) (fun h1 => ?_)
  · exact ⟨trivial, r1 (blE (by unfold inC; rw [decide_eq_true (show -1073741824 ≤ c from h1)]; rfl)), trivial⟩
  · exact ⟨trivial, r1 (blE (by unfold inC; rw [decide_eq_false (show ¬ -1073741824 ≤ c from h1)]; rfl)), trivial⟩
theorem entF_len {n W : Nat} {last : Bool} {x : En} (h : x.1.length ≠ n) : entF n W last x = 3 := by unfold entF; rw [if_pos h]
theorem entF_w {n W : Nat} {last : Bool} {x : En} (h : x.1.length = n) (hw : x.1.all (inW W) = false) : entF n W last x = 8 := by unfold entF; rw [if_neg (by omega), if_pos hw]
theorem entF_m {n W : Nat} {last : Bool} {x : En} (h : x.1.length = n) (hw : x.1.all (inW W) = true) (hm : (x.1.drop 1).contains 1 = true) : entF n W last x = 10 := by unfold entF; rw [if_neg (by omega), if_neg (by rw [hw]; simp), if_pos hm]
theorem entF_c {n W : Nat} {last : Bool} {x : En} (h : x.1.length = n) (hw : x.1.all (inW W) = true) (hm : (x.1.drop 1).contains 1 = false) (hc : (inC x.2.1 && inC x.2.2) = false) : entF n W last x = 8 := by unfold entF; rw [if_neg (by omega), if_neg (by rw [hw]; simp), if_neg (by rw [hm]; simp), if_pos hc]
theorem entF_z {n W : Nat} {last : Bool} {x : En} (h : x.1.length = n) (hw : x.1.all (inW W) = true) (hm : (x.1.drop 1).contains 1 = false) (hc : (inC x.2.1 && inC x.2.2) = true) : entF n W last x = if last = true ∧ x.2.2 ≠ 0 then 3 else 0 := by unfold entF; rw [if_neg (by omega), if_neg (by rw [hw]; simp), if_neg (by rw [hm]; simp), if_neg (by rw [hc]; simp)]
theorem all_at {W : Nat} {l : List Int} (h : ∀ j, j < l.length → inW W (l.getD j 0) = true) : l.all (inW W) = true := by
  rw [List.all_eq_true]
  intro x hx
  obtain ⟨j, hj, e⟩ := List.mem_iff_getElem.1 hx
  have := h j hj
  rw [List.getD_eq_getElem?_getD, List.getElem?_eq_getElem hj] at this
  rw [← e]; exact this
theorem all_not {W : Nat} {l : List Int} {j : Nat} (hj : j < l.length) (h : inW W (l.getD j 0) = false) : l.all (inW W) = false := by
  rw [List.all_eq_false]
  rw [List.getD_eq_getElem?_getD, List.getElem?_eq_getElem hj] at h
  exact ⟨l[j], List.getElem_mem hj, by simpa using h⟩
abbrev eA (x : En) : A1 := .ag [iSl x.1, eI .i64 x.2.1, eI .i64 x.2.2]
theorem mentry_ct (n W : Nat) (last : Bool) (x : En) (hx : x.1.length ≤ 1000000) (hn : 1 ≤ n) : Ct P 90 [eA x, .c (nI .i64 n), .c (nI .i64 W), .c (.sc (.bool last))] [.c (eI .i64 (entF n W last x))] := by
  refine Ct.go T_ok T_mix (N := 54) Tryz.func90 rfl rfl rfl rfl ?_
  refine And.intro (by rw [iRow_len]; omega) ?_
  rw [iRow_len]
  refine ncase (fun h1 => ?_) (fun h1 => ?_)
  · exact ⟨trivial, r1 (iE (entF_len (show x.1.length ≠ n by omega)).symm), trivial⟩
  have hgn : x.1.length = n := by omega
  refine And.intro (by rw [iRow_len]; omega) ?_
  rw [iRow_len]
  refine loopJ T_ok T_mix (fun i : Nat => i ≤ x.1.length ∧ ∀ j, j < i → inW W (x.1.getD j 0) = true) (fun i => [(2, .c (nI .i64 W)), (3, .c (.sc (.bool last))), (4, .c (.ad 4 0)), (17, .c (iSl x.1)), (18, .c (nI .i64 x.1.length)), (19, .c (nI .i64 i))]) (fun _ => [(4, .var [iSl x.1, eI .i64 x.2.1, eI .i64 x.2.2])]) (fun i => x.1.length - i)
    0 ⟨by omega, fun j h => by omega⟩ ⟨rfl, rfl, rfl, rfl, rfl, rfl, trivial⟩ ⟨rfl, trivial⟩ (fun _ : Unit => x.1.all (inW W) = true) (fun _ => [(3, .c (.sc (.bool last))), (4, .c (.ad 4 0))]) (fun _ => [(4, .var [iSl x.1, eI .i64 x.2.1, eI .i64 x.2.2])]) (fun i hi => ?_) (fun _ hw => ?_)
  · obtain ⟨i1, i2⟩ := hi
    refine dcase (fun h2 => ?_) (fun h2 => ?_)
    · have hi' : i < x.1.length := by omega
      have hin : ∀ a : Bool, a = inW W (x.1.getD i 0) → a = false → entF n W last x = 8 := fun a h1 h2 => entF_w hgn (all_not hi' (h1 ▸ h2))
      refine And.intro (by omega) (X1 _ (iRow_getN rfl hi') ?_)
      refine dcase (fun h3 => ?_) (fun h3 => ?_)
      · exact ⟨trivial, r1 (iE (hin _ rfl (by unfold inW; rw [decide_eq_false (by omega)]; rfl)).symm), trivial⟩
      · refine dcase (fun h4 => ?_) (fun h4 => ?_)
        · exact ⟨trivial, r1 (iE (hin _ rfl (by unfold inW; rw [decide_eq_false (show ¬ x.1.getD i 0 < W by omega), Bool.and_false])).symm), trivial⟩
        · refine X1 ((i + 1 : Nat) : Int) (wI1 (by omega)) ?_
          refine ⟨i + 1, ⟨by omega, fun j hj => ?_⟩, by omega, ⟨rfl, rfl, rfl, rfl, rfl, rfl, trivial⟩, ⟨rfl, trivial⟩⟩
          by_cases ej : j = i
          · subst ej; unfold inW; rw [decide_eq_true (show 0 ≤ x.1.getD j 0 by omega), decide_eq_true (show x.1.getD j 0 < W by omega)]; rfl
          · exact i2 j (by omega)
    · have e : i = x.1.length := by omega
      subst e
      exact ⟨(), all_at i2, ⟨rfl, rfl, trivial⟩, ⟨rfl, trivial⟩⟩
  · have hcon := contains_ct (x.1.drop 1) 1 (by rw [List.length_drop]; omega)
    rw [idx_has, show iSl (x.1.drop 1) = .sl 1 (((iRow x.1).drop 1).take (x.1.length - 1)) by rw [iRow_drop]] at hcon
    refine ⟨1, x.1.length, rfl, by rw [iRow_len]; rfl, by omega, by rw [iRow_len]; omega, ?_⟩
    refine X1 _ hcon ?_
    refine bcase (fun h2 => ?_) (fun h2 => ?_)
    · exact ⟨trivial, r1 (iE (entF_m hgn hw h2).symm), trivial⟩
    refine X1 _ (mwithin_ct x.2.1) ?_
    refine bcase (fun h3 => ?_) (fun h3 => ?_)
    · have h3' : inC x.2.1 = false := by simpa using h3
      exact ⟨trivial, r1 (iE (entF_c hgn hw h2 (by rw [h3']; rfl)).symm), trivial⟩
    have h3' : inC x.2.1 = true := by simpa using h3
    refine X1 _ (mwithin_ct x.2.2) ?_
    refine bcase (fun h4 => ?_) (fun h4 => ?_)
    · have h4' : inC x.2.2 = false := by simpa using h4
      exact ⟨trivial, r1 (iE (entF_c hgn hw h2 (by rw [h4', Bool.and_false])).symm), trivial⟩
    have h4' : inC x.2.2 = true := by simpa using h4
    have hz := entF_z (last := last) hgn hw h2 (by rw [h3', h4']; rfl)
    refine bcase (fun h5 => ?_) (fun h5 => ?_)
    · refine ncase (fun h6 => ?_) (fun h6 => ?_)
      · exact ⟨trivial, r1 (iE (by rw [hz, if_pos ⟨h5, h6⟩])), trivial⟩
      · exact ⟨trivial, r1 (iE (by rw [hz, if_neg (fun h => h.2 h6)])), trivial⟩
    · exact ⟨trivial, r1 (iE (by rw [hz, if_neg (fun h => by rw [h5] at h; cases h.1)])), trivial⟩
def mkF (g : List Int) (i : Nat) : Bool := ((g.take i).drop 1).contains 1
theorem mkF_step {g : List Int} {i : Nat} (h : i < g.length) : mkF g (i + 1) = (mkF g i || (decide (0 < i) && (g.getD i 0 == 1))) := by
  unfold mkF
  have e : g.getD i 0 = g[i] := by rw [List.getD_eq_getElem?_getD, List.getElem?_eq_getElem h]; rfl
  rw [List.take_succ_eq_append_getElem h, e]
  cases i with
  | zero => simp
  | succ i =>
    rw [List.drop_append_of_le_length (by rw [List.length_take]; omega), decide_eq_true (by omega), Bool.true_and]
    simp [Bool.beq_eq_decide_eq, eq_comm]
theorem rentry_ct (n W : Nat) (last : Bool) (x : En) (hx : x.1.length ≤ 1000000) : Ct P 51 [eA x, .c (nI .i64 n), .c (nI .i64 W), .c (.sc (.bool last))] [.c (eI .i64 (entF n W last x))] := by
  refine Ct.go T_ok T_mix (N := 74) Tryz.func51 rfl rfl rfl rfl ?_
  refine And.intro (by rw [iRow_len]; omega) ?_
  rw [iRow_len]
  refine ncase (fun h1 => ?_) (fun h1 => ?_)
  · exact ⟨trivial, r1 (iE (entF_len (show x.1.length ≠ n by omega)).symm), trivial⟩
  have hgn : x.1.length = n := by omega
  refine loopJ T_ok T_mix (fun i : Nat => i ≤ x.1.length ∧ ∀ j, j < i → inW W (x.1.getD j 0) = true) (fun i => [(1, .c (nI .i64 n)), (2, .c (nI .i64 W)), (3, .c (.sc (.bool last))), (4, .c (.ad 4 0)), (9, .c (.sc (.bool (mkF x.1 i)))), (10, .c (nI .i64 i))]) (fun _ => [(4, .var [iSl x.1, eI .i64 x.2.1, eI .i64 x.2.2])]) (fun i => x.1.length - i)
    0 ⟨by omega, fun j h => by omega⟩ ⟨rfl, rfl, rfl, rfl, rfl, rfl, trivial⟩ ⟨rfl, trivial⟩ (fun _ : Unit => x.1.all (inW W) = true) (fun _ => [(3, .c (.sc (.bool last))), (4, .c (.ad 4 0)), (9, .c (.sc (.bool (mkF x.1 x.1.length))))]) (fun _ => [(4, .var [iSl x.1, eI .i64 x.2.1, eI .i64 x.2.2])]) (fun i hi => ?_) (fun _ hw => ?_)
  · obtain ⟨i1, i2⟩ := hi
    refine dcase (fun h2 => ?_) (fun h2 => ?_)
    · have hi' : i < x.1.length := by omega
      have hin : ∀ a : Bool, a = inW W (x.1.getD i 0) → a = false → entF n W last x = 8 := fun a h1 h2 => entF_w hgn (all_not hi' (h1 ▸ h2))
      refine And.intro (by omega) (X1 _ (iRow_getN rfl hi') ?_)
      refine dcase (fun h3 => ?_) (fun h3 => ?_)
      · exact ⟨trivial, r1 (iE (hin _ rfl (by unfold inW; rw [decide_eq_false (by omega)]; rfl)).symm), trivial⟩
      · refine And.intro (by omega) (X1 _ (iRow_getN rfl hi') ?_)
        refine dcase (fun h4 => ?_) (fun h4 => ?_)
        · exact ⟨trivial, r1 (iE (hin _ rfl (by unfold inW; rw [decide_eq_false (show ¬ x.1.getD i 0 < W by omega), Bool.and_false])).symm), trivial⟩
        · have hall : ∀ j, j < i + 1 → inW W (x.1.getD j 0) = true := fun j hj => by
            by_cases ej : j = i
            · subst ej; unfold inW; rw [decide_eq_true (show 0 ≤ x.1.getD j 0 by omega), decide_eq_true (show x.1.getD j 0 < W by omega)]; rfl
            · exact i2 j (by omega)
          have hs := mkF_step hi'
          refine bcase (fun h5 => ?_) (fun h5 => ?_)
          · rw [h5] at hs
            refine X1 ((i + 1 : Nat) : Int) (wI1 (by omega)) ?_
            exact ⟨i + 1, ⟨by omega, hall⟩, by omega, ⟨rfl, rfl, rfl, rfl, blE (by rw [hs]; rfl), rfl, trivial⟩, ⟨rfl, trivial⟩⟩
          · rw [h5] at hs
            refine dcase (fun h6 => ?_) (fun h6 => ?_)
            · rw [decide_eq_true (show 0 < i by omega)] at hs
              refine And.intro (by omega) (X1 _ (iRow_getN rfl hi') ?_)
              refine X1 ((i + 1 : Nat) : Int) (wI1 (by omega)) ?_
              exact ⟨i + 1, ⟨by omega, hall⟩, by omega, ⟨rfl, rfl, rfl, rfl, blE (by rw [hs]; rfl), rfl, trivial⟩, ⟨rfl, trivial⟩⟩
            · rw [decide_eq_false (show ¬ 0 < i by omega)] at hs
              refine X1 ((i + 1 : Nat) : Int) (wI1 (by omega)) ?_
              exact ⟨i + 1, ⟨by omega, hall⟩, by omega, ⟨rfl, rfl, rfl, rfl, blE (by rw [hs]; rfl), rfl, trivial⟩, ⟨rfl, trivial⟩⟩
    · have e : i = x.1.length := by omega
      subst e
      exact ⟨(), all_at i2, ⟨rfl, rfl, rfl, trivial⟩, ⟨rfl, trivial⟩⟩
  · have hmk : mkF x.1 x.1.length = (x.1.drop 1).contains 1 := by unfold mkF; rw [List.take_length]
    rw [hmk]
    refine bcase (fun h2 => ?_) (fun h2 => ?_)
    · exact ⟨trivial, r1 (iE (entF_m hgn hw h2).symm), trivial⟩
    have hc8 : ∀ a : Bool, a = (inC x.2.1 && inC x.2.2) → a = false → entF n W last x = 8 := fun a h1 h3 => entF_c hgn hw h2 (h1 ▸ h3)
    refine dcase (fun h3 => ?_) (fun h3 => ?_)
    · exact ⟨trivial, r1 (iE (hc8 _ rfl (by unfold inC; rw [decide_eq_false (show ¬ -1073741824 ≤ x.2.1 by omega)]; rfl)).symm), trivial⟩
    refine dcase (fun h4 => ?_) (fun h4 => ?_)
    · exact ⟨trivial, r1 (iE (hc8 _ rfl (by unfold inC; rw [decide_eq_false (show ¬ x.2.1 ≤ 0 by omega), Bool.and_false]; rfl)).symm), trivial⟩
    refine dcase (fun h5 => ?_) (fun h5 => ?_)
    · exact ⟨trivial, r1 (iE (hc8 _ rfl (by unfold inC; rw [decide_eq_false (show ¬ -1073741824 ≤ x.2.2 by omega), Bool.false_and, Bool.and_false])).symm), trivial⟩
    refine dcase (fun h6 => ?_) (fun h6 => ?_)
    · exact ⟨trivial, r1 (iE (hc8 _ rfl (by unfold inC; rw [decide_eq_false (show ¬ x.2.2 ≤ 0 by omega), Bool.and_false, Bool.and_false])).symm), trivial⟩
    have hz := entF_z (last := last) hgn hw h2 (by unfold inC; rw [decide_eq_true (show -1073741824 ≤ x.2.1 by omega), decide_eq_true (show x.2.1 ≤ 0 by omega), decide_eq_true (show -1073741824 ≤ x.2.2 by omega), decide_eq_true (show x.2.2 ≤ 0 by omega)]; rfl)
    refine bcase (fun h7 => ?_) (fun h7 => ?_)
    · refine ncase (fun h8 => ?_) (fun h8 => ?_)
      · exact ⟨trivial, r1 (iE (by rw [hz, if_pos ⟨h7, h8⟩])), trivial⟩
      · exact ⟨trivial, r1 (iE (by rw [hz, if_neg (fun h => h.2 h8)])), trivial⟩
    · exact ⟨trivial, r1 (iE (by rw [hz, if_neg (fun h => by rw [h7] at h; cases h.1)])), trivial⟩
end Go.Proofs.YtjpbijdpkdmeaaaGreat.Pv
namespace Go.Proofs.YtjpbijdpkdmeaaaGreat.Pv
open Go
def liveC (x : Cnt) : Bool := !(decide (x.2 < 1)) && !(decide (x.1 = [1]))
def tot (l : List Cnt) : Int := ((l.filter liveC).map (·.2)).sum
def num (l : List Cnt) (k : Int) : Int := ((l.filter fun x => liveC x && decide (x.2 = k)).length : Nat)
section
variable {l : List Cnt} {x : Cnt} {k : Int}
end
def afterP (h : List Int) (x : Cnt) : Bool := decide (x.1.length = h.length + 1) && decide (x.1.take h.length = h)
def after (l : List Cnt) (h : List Int) : List Cnt := l.filter (afterP h)
theorem CLim.filter {l : List Cnt} (h : CLim l) (p : Cnt → Bool) : CLim (l.filter p) :=
  ⟨Nat.le_trans (List.length_filter_le _ _) h.len, fun x hx => h.g x (List.mem_filter.1 hx).1⟩
end Go.Proofs.YtjpbijdpkdmeaaaGreat.Pv
namespace Go.Proofs.YtjpbijdpkdmeaaaGreat.Pv
open Go
theorem shrN' {x : Nat} (_ : 0 ≤ x) : (x : Int).fdiv (2 ^ min (1 : Int).toNat 64) = ((x / 2 : Nat) : Int) := by
  rw [Int.fdiv_eq_ediv_of_nonneg _ (by decide)]
  show (x : Int) / 2 = _
  omega
theorem rise_k : ∀ {G : List (List Int)}, RiseG G → ∀ g : List Int, ∃ k, k ≤ G.length ∧ (∀ (i : Nat) (hi : i < G.length), i < k → lexC G[i] g < 0) ∧ (∀ (i : Nat) (hi : i < G.length), k ≤ i → ¬ lexC G[i] g < 0)
  | [], _, g => ⟨0, by simp, fun i hi => by simp at hi, fun i hi => by simp at hi⟩
  | x :: r, h, g => by
    obtain ⟨h1, h2⟩ := List.pairwise_cons.1 h
    by_cases hx : lexC x g < 0
    · obtain ⟨k, k1, k2, k3⟩ := rise_k h2 g
      refine ⟨k + 1, by simp; omega, fun i hi hik => ?_, fun i hi hik => ?_⟩
      · cases i with
        | zero => exact hx
        | succ i => exact k2 i (by simpa using hi) (by omega)
      · cases i with
        | zero => omega
        | succ i => exact k3 i (by simpa using hi) (by omega)
    · refine ⟨0, by simp, fun i hi hik => by omega, fun i hi hik => ?_⟩
      cases i with
      | zero => exact hx
      | succ i => 
        intro hlt
        exact hx (lexC_trans (h1 _ (List.getElem_mem (by simpa using hi))) hlt)
theorem rise_has {G : List (List Int)} {g : List Int} {k : Nat} (hr : RiseG G) (h1 : ∀ (i : Nat) (hi : i < G.length), i < k → lexC G[i] g < 0) (h3 : ∀ (i : Nat) (hi : i < G.length), k ≤ i → ¬ lexC G[i] g < 0) : (match G[k]? with | some x => lexC x g == 0 | none => false) = decide (g ∈ G) := by
  have miss : ∀ (i : Nat) (hi : i < G.length), i < k → G[i] ≠ g := fun i hi hik e => by
    have := h1 i hi hik
    rw [e, lexC_self] at this; omega
  cases hk : G[k]? with
  | some x =>
    obtain ⟨hk', e2⟩ := List.getElem?_eq_some_iff.1 hk
    show (lexC x g == 0) = _
    by_cases hz : lexC x g = 0
    · have e := lexC_0 hz
      rw [decide_eq_true (e ▸ List.mem_of_getElem? hk), hz]; rfl
    · have hn : ¬ g ∈ G := fun hm => by
        obtain ⟨i, hi, e⟩ := List.mem_iff_getElem.1 hm
        rcases Nat.lt_trichotomy i k with hlt | heq | hgt
        · exact miss i hi hlt e
        · subst heq; rw [← e2, e, lexC_self] at hz; exact hz rfl
        · have := rise_at hr hgt (a := x) (b := g) hk (by rw [List.getElem?_eq_getElem hi, e])
          exact h3 k hk' (Nat.le_refl _) (by rw [e2]; exact this)
      rw [decide_eq_false hn]; simp [hz]
  | none =>
    have hn : ¬ g ∈ G := fun hm => by
      obtain ⟨i, hi, e⟩ := List.mem_iff_getElem.1 hm
      have := List.getElem?_eq_none_iff.1 hk
      exact miss i hi (by omega) e
    rw [decide_eq_false hn]
theorem hasG_at {A : List (List Int)} {g : List Int} {i : Nat} (hi : i < A.length) (h0 : ∀ (j : Nat) (hj : j < A.length), j < i → A[j] ≠ g) (h : A[i] = g) : hasG A g = i := by
  have hm : g ∈ A := h ▸ List.getElem_mem hi
  unfold hasG
  rw [if_pos hm]
  have e1 := List.idxOf_lt_length_of_mem hm
  have e2 : A[A.idxOf g] = g := List.getElem_idxOf e1
  have h1 : ¬ A.idxOf g < i := fun hlt => h0 _ e1 hlt e2
  have h2 : ¬ i < A.idxOf g := fun hlt => by
    have := List.not_of_lt_findIdx (p := (· == g)) (xs := A) (i := i) hlt
    rw [h] at this; simp at this
  omega
theorem rhas_ct (l : List En) (g : List Int) (hl : EL l) (hg : g.length ≤ 1000000) : Ct P 15 [.c (eSl l), .c (iSl g)] [.c (eI .i64 (hasG (grm l) g))] := by
  have hll := hl.len
  refine Ct.go T_ok T_mix (N := 20) Tryz.func15 rfl rfl rfl rfl ?_
  refine loopB T_ok T_mix (fun i : Nat => i ≤ l.length ∧ ∀ (j : Nat) (hj : j < l.length), j < i → l[j].1 ≠ g) (fun i => [(0, .c (eSl l)), (1, .c (iSl g)), (5, .c (nI .i64 i))]) (fun _ => []) (fun i => l.length - i)
    0 ⟨by omega, fun j hj h => by omega⟩ ⟨rfl, rfl, rfl, trivial⟩ trivial (fun i hi => ?_)
  obtain ⟨i1, i2⟩ := hi
  have glen : (grm l).length = l.length := by simp
  refine And.intro (by rw [eRow_len]; omega) ?_
  rw [eRow_len]
  refine dcase (fun h1 => ?_) (fun h1 => ?_)
  · have hi' : i < l.length := by omega
    refine And.intro (by omega) (X1 _ (eRow_get rfl hi') ?_)
    refine X1 _ (ints_ct l[i].1 g (hl.at' hi') hg) ?_
    refine dcase (fun h2 => ?_) (fun h2 => ?_)
    · have := hasG_at (A := grm l) (g := g) (i := i) (by omega) (fun j hj hji => by simpa using i2 j (by omega) hji) (by simpa using h2)
      exact ⟨trivial, r1 (iE this.symm), trivial⟩
    · refine X1 ((i + 1 : Nat) : Int) (wI1 (by omega)) ?_
      refine ⟨i + 1, ⟨by omega, fun j hj hji => ?_⟩, by omega, ⟨rfl, rfl, rfl, trivial⟩, trivial⟩
      by_cases ej : j = i
      · subst ej; exact h2
      · exact i2 j hj (by omega)
  · have e : i = l.length := by omega
    have hn : ¬ g ∈ grm l := fun hm => by
      obtain ⟨x, hx, e2⟩ := List.mem_map.1 hm
      obtain ⟨j, hj, e3⟩ := List.mem_iff_getElem.1 hx
      exact i2 j hj (by omega) (by rw [e3]; exact e2)
    refine joinC T_ok T_mix ?_
    exact ⟨trivial, r1 (iE (by unfold hasG; rw [if_neg hn])), trivial⟩
theorem mfind1_ct (x : En) (g : List Int) (hx : x.1.length ≤ 1000000) (hg : g.length ≤ 1000000) : Ct P 137 [eA x, .c (iSl g)] [.c (eI .i64 (lexC x.1 g))] := by
  refine Ct.go T_ok T_mix (N := 9) Tryz.func137 rfl rfl rfl rfl ?_
  refine X1 _ (gcompare_ct x.1 g hx hg) ?_
  exact ⟨trivial, r1 rfl, trivial⟩
def atE (l : List En) (g : List Int) (k : Nat) : Bool := match l[k]? with | some x => lexC x.1 g == 0 | none => false
theorem mbsf_ct (l : List En) (g : List Int) (k : Nat) (hl : EL l) (hg : g.length ≤ 1000000) (hk : k ≤ l.length) (h1 : ∀ (i : Nat) (hi : i < l.length), i < k → lexC l[i].1 g < 0) (h2 : ∀ (i : Nat) (hi : i < l.length), k ≤ i → ¬ lexC l[i].1 g < 0) :
    Ct P 136 [.c (eSl l), .c (iSl g), .c (.fn 137 [])] [.c (nI .i64 k), .c (.sc (.bool (atE l g k)))] := by
  have hll := hl.len
  refine Ct.go T_ok T_mix (N := 49) Tryz.func136 rfl rfl rfl rfl ?_
  refine And.intro (by rw [eRow_len]; omega) ?_
  rw [eRow_len]
  refine loopJ T_ok T_mix (G := Nat × Nat) (fun (i, j) => i ≤ k ∧ k ≤ j ∧ j ≤ l.length) (fun (i, j) => [(0, .c (eSl l)), (1, .c (iSl g)), (2, .c (.fn 137 [])), (8, .c (nI .i64 l.length)), (9, .c (nI .i64 i)), (10, .c (nI .i64 j))]) (fun _ => []) (fun (i, j) => j - i)
    (0, l.length) ⟨by omega, hk, by omega⟩ ⟨rfl, rfl, rfl, rfl, rfl, rfl, trivial⟩ trivial (fun _ : Unit => True) (fun _ => [(0, .c (eSl l)), (1, .c (iSl g)), (2, .c (.fn 137 [])), (8, .c (nI .i64 l.length)), (9, .c (nI .i64 k))]) (fun _ => []) (fun (i, j) hi => ?_) (fun _ _ => ?_)
  · obtain ⟨i1, i2, i3⟩ := hi
    refine dcase (fun h5 => ?_) (fun h5 => ?_)
    · have hm : (i + j) / 2 < l.length := by omega
      refine X1 ((i + j : Nat) : Int) (wI (by simp) (by omega) (by omega)) ?_
      refine X1 ((i + j : Nat) : Int) (wU rfl (by omega) (by omega)) ?_
      refine And.intro (by omega) (X1 (((i + j) / 2 : Nat) : Int) (shrN' (by omega)) (And.intro ⟨by omega, by omega⟩ ?_))
      refine X1 (((i + j) / 2 : Nat) : Int) (wI rfl (by omega) (by omega)) ?_
      refine And.intro (by omega) (X1 _ (eRow_get rfl hm) ?_)
      refine X1 _ (mfind1_ct l[(i + j) / 2] g (hl.at' hm) hg) ?_
      refine dcase (fun h6 => ?_) (fun h6 => ?_)
      · have h8 : (i + j) / 2 < k := by
          apply Nat.lt_of_not_le
          intro hle
          exact h2 _ hm hle h6
        refine X1 (((i + j) / 2 + 1 : Nat) : Int) (wI (by simp) (by omega) (by omega)) ?_
        exact ⟨((i + j) / 2 + 1, j), ⟨by omega, i2, i3⟩, by show j - ((i + j) / 2 + 1) < j - i; omega, ⟨rfl, rfl, rfl, rfl, rfl, rfl, trivial⟩, trivial⟩
      · have h8 : k ≤ (i + j) / 2 := by
          apply Nat.le_of_not_lt
          intro hlt
          exact h6 (h1 _ hm hlt)
        exact ⟨(i, (i + j) / 2), ⟨i1, h8, by omega⟩, by show (i + j) / 2 - i < j - i; omega, ⟨rfl, rfl, rfl, rfl, rfl, rfl, trivial⟩, trivial⟩
    · have e : i = k := by omega
      subst e
      exact ⟨(), trivial, ⟨rfl, rfl, rfl, rfl, rfl, trivial⟩, trivial⟩
  · refine dcase (fun h5 => ?_) (fun h5 => ?_)
    · have hm : k < l.length := by omega
      have ha : atE l g k = (lexC l[k].1 g == 0) := by unfold atE; rw [List.getElem?_eq_getElem hm]
      refine And.intro (by omega) (X1 _ (eRow_get rfl hm) ?_)
      refine X1 _ (mfind1_ct l[k] g (hl.at' hm) hg) ?_
      exact ⟨trivial, r1 rfl, r1 (by rw [ha]; rfl), trivial⟩
    · have ha : atE l g k = false := by unfold atE; rw [List.getElem?_eq_none (by omega)]
      rw [ha]
      exact ⟨trivial, r1 rfl, r1 rfl, trivial⟩
theorem mfind_ct (l : List En) (g : List Int) (hl : EL l) (hr : RiseG (grm l)) (hg : g.length ≤ 1000000) : ∃ k : Nat, Ct P 92 [.c (eSl l), .c (iSl g)] [.c (nI .i64 k), .c (.sc (.bool (decide (g ∈ grm l))))] := by
  obtain ⟨k, k1, k2, k3⟩ := rise_k hr g
  have glen : (grm l).length = l.length := by simp
  have ha := rise_has hr k2 k3
  have hb := mbsf_ct l g k hl hg (by omega) (fun i hi h => by have := k2 i (by omega) h; rwa [List.getElem_map] at this) (fun i hi h => by have := k3 i (by omega) h; rwa [List.getElem_map] at this)
  refine ⟨k, ?_⟩
  have e : atE l g k = decide (g ∈ grm l) := by
    rw [← ha]
    unfold atE
    rw [List.getElem?_map]
    cases l[k]? <;> rfl
  rw [e] at hb
  refine Ct.go T_ok T_mix (N := 11) Tryz.func92 rfl rfl rfl rfl ?_
  refine X1 _ hb ?_
  exact ⟨trivial, r1 rfl, r1 rfl, trivial⟩
end Go.Proofs.YtjpbijdpkdmeaaaGreat.Pv
