/-
  What is proved: the statement whose theorem stands at the end of this text; the texts before it bear its parts.
-/
import Derived.Test.YtgceikecdedfcaaGreatLdQ
import Derived.ChangeMaps5
import Derived.WalkKit
import Derived.JoinedCond
namespace Go.Proofs.YtgceikecdedfcaaGreat.Pv
open Go
theorem om {n : Nat} : ∀ (L : List (List Int)), (a8 L n).length ≤ (L.map List.length).sum
 | [] => by simp [a8]
 | p :: L => by
  have ih := om (n := n) L;have h2 : (cq p n).length ≤ p.length := mz p n p.length;have e : a8 (p :: L) n = cq p n ++ a8 L n := by simp [a8]
  rw [e, DK, Ep, FV];omega
theorem wk (ws : List ByteArray) (s : ByteArray) : ((fp ws s).map List.length).sum ≤ 3 * s.size := by
 have key : ∀ L : List (List ByteArray), (∀ l, l ∈ L → 1 ≤ l.length) → ((L.map (eg ws)).map List.length).sum ≤ 3 * (L.map List.length).sum := by
  intro L
  induction L with
  | nil => intro _; simp
  | cons l L ih =>
   intro h;have h1 := ih fun x hx => h x (D2 _ hx)
   have h2 := h l (by simp);have h3 : (eg ws l).length = l.length + 2 := by simp [eg]
   simp only [Ep, FV, h3];omega
 have h1 := key (fF s) fun l hl => by
  have := (Gl.1 hl).2;simp at this;omega
 have h2 := pr s;unfold fp;omega
theorem sL {s : ByteArray} (hs : s.size ≤ 60) {m k : Nat} {l : List Cnt} (h : (ofL s m)[k]? = some l) : l.length ≤ 180 ∧ ∀ x, x ∈ l → 0 ≤ x.2 ∧ x.2 ≤ 180 := by
 obtain ⟨_, rfl⟩ := ky h;have h1 := om (n := k + 1) (fp (aH s) s);have h2 := wk (aH s) s;obtain ⟨g1, _, g3, _⟩ := mA _ (a8 (fp (aH s) s) (k + 1)) rfl;exact ⟨by omega, fun x hx => by have := g3 x hx; omega⟩
theorem oq {s : ByteArray} (hs : s.size ≤ 60) {m : Nat} : ∀ l, l ∈ ao (ofL s m) → l.length ≤ 180 ∧ ∀ x, x ∈ l → 0 ≤ x.2 ∧ x.2 ≤ 180 := by
 intro l hl;obtain ⟨n, hn, rfl⟩ := dE hl;obtain ⟨a1, a2⟩ := sL hs (D7 hn);refine ⟨by rw [Ez]; exact a1, fun x hx => ?_⟩;obtain ⟨y, hy, rfl⟩ := Ef.1 hx;have := a2 y hy;unfold cC;split
 ·have : ahead ((ofL s m).getD (n + 1) []) y.1 ≤ 180 := by
   refine DM (EG _ _) ?_;by_cases h3 : n + 1 < (ofL s m).length
   ·have e : (ofL s m).getD (n + 1) [] = (ofL s m)[n + 1] := by simp [DG, h3]
    rw [e];exact (sL hs (D7 h3)).1
   ·have e : (ofL s m).getD (n + 1) [] = [] := by simp [DG, D4 (EM h3)]
    rw [e]; simp
  show (0 : Int) ≤ ((ahead _ _ : Nat) : Int) ∧ ((ahead _ _ : Nat) : Int) ≤ 180
  omega
 ·exact this
theorem u4 : ∀ {l : List Cnt}, (∀ x, x ∈ l → 0 ≤ x.2 ∧ x.2 ≤ 180) → totN l ≤ 180 * l.length
 | [], _ => by show totN [] ≤ _; exact FC _
 | x :: l, h => by
  have ih := u4 (l := l) fun y hy => h y (D2 _ hy)
  have h1 := h x (by simp);rw [pc, Eh];split <;> omega
theorem zz (k n2 n3 a b : Nat) : (bV k n2 n3 a b).2 ∣ (n2 + 2 * n3) * b := by
 unfold bV cD dN;refine Fq fG (Nat.mul_dvd_mul ?_ ?_)
 ·refine Fq fG ?_;rw [Es];refine Fq fG ?_;rw [Es];exact GI _
 ·refine Fq fG ?_;rw [Es];exact GI _
theorem zA {l : List Cnt} (hl : l.length ≤ 180) (k : Nat) (h1 : 1 ≤ k) (h3 : k ≤ 3) : (eK l k).2 < 2 ^ 16 := by
 have m := fun k => DM (cn l k) hl
 have hs := DM (mw l) (DM (EG aR l) hl);have key : ∀ j a b, aq l 1 ≠ 0 → b ≠ 0 → b ≤ 180 → (cV (j, 1) (bV j (aq l 1) (aq l 2) a b)).2 < 2 ^ 16 := fun j a b e1 e2 e3 => by
  have hd : (cV (j, 1) (bV j (aq l 1) (aq l 2) a b)).2 ∣ (aq l 1 + 2 * aq l 2) * b :=
   Fq fG (by show 1 * _ ∣ _; rw [Es]; exact zz _ _ _ _ _)
  have h4 := Nat.le_of_dvd (Nat.mul_pos (by omega) (by omega)) hd;have h5 : (aq l 1 + 2 * aq l 2) * b ≤ 360 * 180 := EO (by omega) e3;omega
 have hk : k = 1 ∨ k = 2 ∨ k = 3 := by omega
 unfold eK;rcases hk with rfl | rfl | rfl
 all_goals
  simp only [cE];split
  ·exact key _ _ _ (by omega) (by omega) (m _)
  ·decide
theorem CM {s : ByteArray} (hs : s.size ≤ 60) {m : Nat} (h4 : m ≤ 4) : Few (ao (ofL s m)) (aH s).length 48 15 6 := by
 refine ⟨fun l hl => ?_, fun l hl => ?_, ?_⟩
 ·obtain ⟨a1, _⟩ := oq hs l hl;have d := fun k h1 h3 => zA a1 k h1 h3
  unfold dD;exact kA (k := 32) (m := 16) (kA (k := 16) (m := 16) (d 1 (by omega) (by omega)) (d 2 (by omega) (by omega))) (d 3 (by omega) (by omega))
 ·obtain ⟨a1, a2⟩ := oq hs l hl;have := u4 a2;omega
 ·have := wj s;omega
theorem DE {s : ByteArray} (hs : s.size ≤ 60) {m : Nat} (h1 : 1 ≤ m) (h4 : m ≤ 4) (h : List Int) : QF (ao (ofL s m)) (aH s).length (fO (ao (ofL s m)) h) < 2 ^ 258 := by
 have key : ∀ K : Nat, K = 258 → QF (ao (ofL s m)) (aH s).length (fO (ao (ofL s m)) h) < 2 ^ K := by
  intro K hK
  have h2 := BG (CM hs h4) (fO (ao (ofL s m)) h);have h3 := qk (qA (s := s) (by omega) h1 h4) h;rw [bj, ca] at h3;refine DS h2 (D3 (by omega) ?_);have : (48 + 15) * ((fO (ao (ofL s m)) h).length + 1) ≤ 63 * 4 := EA _ (by omega);omega
 exact key 258 rfl
theorem BH {s : ByteArray} (hs : s.size ≤ 60) {m : Nat} (h1 : 1 ≤ m) (h4 : m ≤ 4) : SB (ao (ofL s m)) (aH s).length 258 :=
 ⟨qA (by omega) h1 h4, Bh (by omega) h4, DE hs h1 h4, by omega⟩
theorem Dk {s : ByteArray} (hs : s.size ≤ 60) {m : Nat} (h1 : 1 ≤ m) (h4 : m ≤ 4) : 2 < (aH s).length := by
 have := (qA (s := s) (by omega) h1 h4).w3;omega
theorem Dl {f : FuncId} {O : Objs} {args res : List A1} {Lc : List (List Cnt)} {o : Ob} {i j : Nat} (hij : Nat.beq i j = false) (h : CtO P f O args [(i, some o), (j, some (.mp false [] []))] res) : CtO P f O args [(i, some o), (j, some (.me false (MOk Lc)))] res :=
 h.less fun K ok w k o2 g => by
  simp only [Objs.get] at g ⊢
  cases h1 : Nat.beq i k with
  | true => rw [h1] at g; exact ⟨_, rfl, fun h => by cases g; exact h⟩
  | false =>
   rw [h1] at g
   cases h2 : Nat.beq j k with
   | true => rw [h2] at g; cases g; exact ⟨_, rfl, fun h => ⟨[], [], MOk.nil, h⟩⟩
   | false => rw [h2] at g; cases g
theorem Bi (s : ByteArray) (hs : s.size ≤ 60) (o m : Nat) (ho : o < 256) (hm : m = 1 + o % 4) :
  CtO P 12 [] [.c (sS s), .c (nI .u8 o)] [(200, some (xC (ao (ofL s m)) (aH s).length 201)), (201, some (.me false (MOk (ao (ofL s m)))))] [.c (.ad 200 0), mM (ofL s m) (aH s).length, .c (.sc (.bool true))] :=
 Dl rfl (Be s (by omega) o m ho hm)
theorem zB : SB [[]] 3 258 := by
 have h := BH (s := ⟨#[]⟩) (m := 1) (by decide) (by decide) (by decide);rw [show ao (ofL ⟨#[]⟩ 1) = [[]] by decide, show (aH ⟨#[]⟩).length = 3 by decide] at h;exact h
theorem CN : CCSum [[]] := by
 refine ⟨⟨by decide, fun l hl => ?_⟩, fun l hl => ?_⟩
 ·simp at hl; subst hl; exact ⟨by simp, fun x hx => by simp at hx⟩
 ·have : l = [] := by simpa [ao] using hl
  subst this; decide
theorem Dm : CtO P 36 [] [.c (.sl 1 [[.sc (.slice none 0 0)]]), .c (eI .i64 3)] [(36, some (xC [[]] 3 34)), (34, some (.me false (MOk [[]])))] [.c (.ad 36 0), .c (eI .i64 0)] :=
 Dl rfl ((yY [[]] 3 CN (by decide)).args fun K ok w vs h => h.set (i := 0) rfl Cn)
theorem zC {Lc : List (List Cnt)} {n B : Nat} (hB : SB Lc n B) (h2 : 2 < n) {ids : List Int} (he : mb Lc n ids = 0) (M : Nat) : decV Lc n (encB Lc n ids) M = if ids.length ≤ M then some ids else none := by
 obtain ⟨_, c1, c2, c3, c4⟩ := zu he;obtain ⟨b1, b2, _⟩ := oi hB h2 c1;obtain ⟨g1, _⟩ := qz b1 b2 c4;have := zn hB.x hB.e (ids := ids) ⟨c1, fun w hw e => ?_⟩ h2 g1.good (M + 1)
 ·unfold decV encB eG;unfold eG at this;rw [this];by_cases h : ids.length ≤ M
  ·rw [if_pos h, if_pos (by omega)]
  ·rw [if_neg h, if_neg (by omega)]
 ·subst e;have := qB hw;omega
theorem Bj : mb [[]] 3 [] = 0 := by decide
theorem zD : encB [[]] 3 [] = [true] := by
 have hs : eG [[]] 3 [] = ((1, 2), (1, 2)) := by decide
 have hk : kOf (eG [[]] 3 []) = 1 := by
  rw [hs];refine zt ⟨by decide, fun j hj => ?_⟩;have : j = 0 := by omega
  subst this;decide
 unfold encB;rw [hk, hs];decide
abbrev σ45 : List (Nat × Nat) := [(50, 1000000), (51, 1000001)]
abbrev ν45 : List (Nat × Nat) := [(1000000, 50), (1000001, 51)]
theorem iO : Ct P 11 [] [.c (.sc (.bool true))] := by
 have henc : CtO P 13 (xE [[]] 3) [.c (.ad 1000000 0), .c (.sc (.slice none 0 0))] (xE [[]] 3) [encR [[]] 3 [], .c (eI .i64 (mb [[]] 3 []))] :=
  (lm zB (by decide) [] (by decide)).args fun K ok w vs h => h.set (i := 1) rfl uL
 rw [show encR [[]] 3 [] = .c (bP (encB [[]] 3 [])) from if_pos Bj, Bj, zD] at henc;obtain ⟨r, e, hR, hdec⟩ := pq zB (by decide) [true] (by decide) 5 5 (by decide) (by decide) (by decide) (by decide);have hv := zC zB (by decide) Bj 5;rw [zD, if_pos (by decide)] at hv;have hre : r = .c (iSl []) ∧ e = 0 := by
  unfold wg at hR;rw [hv] at hR;rcases hR with ⟨_, a, b⟩ | ⟨h, _⟩
  ·exact ⟨a, b⟩
  ·exact absurd ⟨Bj, zD⟩ h
 obtain ⟨rfl, rfl⟩ := hre;refine Ct.go (Ty.own_ok [36, 1000001, 1000003] aj) aa (N := 47) Tryz.func11 rfl rfl rfl rfl ?_;refine X2 (.own [] [(36, 50), (34, 51)]) ?_;refine ⟨_, _, Dm, ?_⟩;refine X2 (.own σ45 ν45) ?_;refine ⟨_, _, henc, ?_⟩;refine X2 (.own σ45 ν45) ?_;refine ⟨_, _, hdec, ?_⟩;refine X1 _ (d9 [true] (by decide)) ?_;refine X1 _ (A8 [true] 0 (by decide) (by decide)) ?_;refine .intro (by decide) ?_;exact ⟨trivial, r1 rfl, trivial⟩
theorem ua (s : ByteArray) (l : List Int) (m : Int) (hs : s.size ≤ 140737488355328) (hl : l.length ≤ 140737488355328) : Ct P 9 [.c (sS s), .c (iSl l), .c (eI .i64 m)] [.c (.sc (.bool (decide (s.size ≤ 60 ∧ (l.length : Int) ≤ m))))] := by
 refine Ct.go aj aa (N := 16) Tryz.func9 rfl rfl rfl rfl ?_;refine ae (fun h1 => ?_) (fun h1 => ?_)
 ·refine .intro (by rw [ai]; omega) ?_;rw [ai];have e : decide (s.size ≤ 60 ∧ (l.length : Int) ≤ m) = decide ((l.length : Int) ≤ m) := decide_eq_decide.2 ⟨fun h => h.2, fun h => ⟨by omega, h⟩⟩;rw [e];exact ⟨trivial, r1 rfl, trivial⟩
 ·have e : decide (s.size ≤ 60 ∧ (l.length : Int) ≤ m) = false := decide_eq_false fun h => h1 (by omega)
  rw [e];exact ⟨trivial, r1 rfl, trivial⟩
theorem sM {Lc : List (List Cnt)} {n B : Nat} (hB : SB Lc n B) (h2 : 2 < n) (ids : List Int) (hl : ids.length ≤ 24) (he : mb Lc n ids = 0) : CtO P 13 (xE Lc n) [.c (.ad 1000000 0), .c (iSl ids)] (xE Lc n) [.c (bP (encB Lc n ids)), .c (eI .i64 0)] := by
 have h := lm hB h2 ids hl;rw [he, show encR Lc n ids = .c (bP (encB Lc n ids)) from if_pos he] at h;exact h
abbrev σX : List (Nat × Nat) := [(200, 1000000), (201, 1000001)]
abbrev νX : List (Nat × Nat) := [(1000000, 200), (1000001, 201)]
def jr (v i : Nat) : List Bool := (List.range i).map fun j => decide (v / 2 ^ j % 2 = 1)
theorem sN (v i : Nat) : (jr v i).length = i := by simp [jr]
theorem wl (v i : Nat) : jr v (i + 1) = jr v i ++ [decide (v / 2 ^ i % 2 = 1)] := by simp [jr, Gz]
theorem sP {Lc : List (List Cnt)} {n : Int} {ids : List Int} : ∀ (f : Nat) (h : List Int) (u : Fr2), ma Lc n f h u = some ids → ids.length + 2 ≤ h.length + f + (if h.length = 0 then 1 else 0)
 | 0, _, _, h => by cases h
 | f + 1, h, u, e => by
  unfold ma at e;split at e
  ·cases e;rw [Eo]; split <;> omega
  ·split at e
   ·cases e
   ·have := sP f _ _ e;rw [DK, List.length_singleton, if_neg (by omega)] at this;omega
theorem zE {Lc : List (List Cnt)} {n : Nat} {l : List Bool} {M : Nat} {ids : List Int} (h : decV Lc n l M = some ids) : ids.length ≤ M := by
 have := sP _ _ _ h;simp at this;omega
set_option maxHeartbeats 4000000 in
theorem cdecodes_ct (s : ByteArray) (v a b : Nat) (hs : s.size ≤ 140737488355328) (hv : v < 18446744073709551616) (ha : a < 256) (hb : b < 256) :
  Ct P 4 [.c (sS s), .c (nI .u64 v), .ag [nI .u8 a, nI .u8 b]] [.c (.sc (.bool true))] := by
 have hsm : Ct P 9 [.c (sS s), .c (.sc (.slice none 0 0)), .c (eI .i64 0)] [.c (.sc (.bool (decide (s.size ≤ 60))))] := by
  have h : Ct P 9 [.c (sS s), .c (.sc (.slice none 0 0)), .c (eI .i64 0)] _ := (ua s [] 0 hs (by decide)).args fun K ok w vs h => h.set (i := 1) rfl uL
  rw [show decide (s.size ≤ 60 ∧ ((([] : List Int).length : Nat) : Int) ≤ 0) = decide (s.size ≤ 60) from decide_eq_decide.2 ⟨fun h => h.1, fun h => ⟨h, by decide⟩⟩] at h;exact h
 have o2 : ∀ x : Nat, x % 41 ≤ 40 := fun x => by omega
 refine Ct.go (Ty.own_ok [12, 16] aj) aa (N := 92) Tryz.func4 rfl rfl rfl rfl ?_;refine X1 _ hsm ?_;refine aM (fun h1 => ?_) (fun h1 => ?_)
 ·refine X1 _ iO ?_;exact ⟨trivial, r1 rfl, trivial⟩
 have s60 : s.size ≤ 60 := by simpa using h1
 have hB := BH s60 (m := 1 + a % 4) (by omega) (by omega);have h2' := Dk s60 (m := 1 + a % 4) (by omega) (by omega);have hof := Bi s s60 a (1 + a % 4) (by omega) rfl;generalize (aH s).length = n at *
 refine .intro (by decide) ?_;refine .intro (by decide) ?_;refine X2 (.own [] [(200, 200), (201, 201)]) ?_;refine ⟨_, _, hof, ?_⟩;generalize ao (ofL s (1 + a % 4)) = Lc at *
 refine X2 (.own [] [(2, 60)]) ?_;refine ⟨_, _, uX, ?_⟩;have hb41 := o2 b;refine .intro (by decide) (And.intro (by decide) ?_);refine .intro (by decide) (X1 ((b % 41 : Nat) : Int) (iV rfl) (And.intro ⟨by omega, by omega⟩ ?_));refine X1 ((b % 41 : Nat) : Int) (wI rfl (by omega) (by omega)) ?_;generalize b % 41 = m at *
 refine pM (r := 61) (k := 60) (i := 0) (sz := 1) rfl rfl rfl ?_;refine ar (Ty.own_ok [12, 16] aj) aa (fun i : Nat => i ≤ m) (fun i => [(7, .c (.ad 200 0)), (10, .c (.ad 60 0)), (11, .c (nI .i64 m)), (12, .c (nI .u64 (v / 2 ^ i))), (13, .c (nI .i64 i))])
  (fun i => [(200, xC Lc n 201), (201, .me false (MOk Lc)), (60, .var [.ow 61 1 (needW (jr v i).length), nI .i64 (jr v i).length]), (61, .row 1 (aD .u64 (aZ (jr v i))))]) (fun i => m - i)
  0 (by omega) ⟨rfl, rfl, rfl, by rw [Gn, Gu]; rfl, rfl, trivial⟩ ⟨rfl, rfl, by rw [show jr v 0 = [] from rfl, show needW ([] : List Bool).length = 0 from rfl]; rfl, by rw [show jr v 0 = [] from rfl, og]; rfl, trivial⟩ (fun _ : Unit => True) (fun _ => [(7, .c (.ad 200 0)), (10, .c (.ad 60 0))])
  (fun _ => [(200, xC Lc n 201), (201, .me false (MOk Lc)), (60, .var [.ow 61 1 (needW (jr v m).length), nI .i64 (jr v m).length]), (61, .row 1 (aD .u64 (aZ (jr v m))))]) (fun i hi => ?_) (fun _ _ => ?_)
 ·refine ae (fun h3 => ?_) (fun h3 => ?_)
  ·have hvi : v / 2 ^ i ≤ v := EY _ _;have hbt : (decide (v / 2 ^ i % 2 = 1)).toNat = v / 2 ^ i % 2 := by
    by_cases h : v / 2 ^ i % 2 = 1
    ·rw [decide_eq_true h, h]; rfl
    ·rw [decide_eq_false h]; show 0 = _; omega
   have hadd := uY (jr v i) (decide (v / 2 ^ i % 2 = 1)) (by rw [sN]; omega);rw [show nB (decide (v / 2 ^ i % 2 = 1)) = nI .u64 (v / 2 ^ i % 2) from congrArg (nI .u64) hbt, ← wl] at hadd;have hdd : v / 2 ^ i / 2 = v / 2 ^ (i + 1) := by rw [Fw, ← Er]
   refine .intro (by decide) (X1 ((v / 2 ^ i % 2 : Nat) : Int) (iV rfl) (And.intro (inU (by omega)) ?_));refine X2 (.own [(60, 1000000), (61, 1000001)] [(1000000, 60), (200, 61)]) ?_;refine ⟨_, _, hadd, ?_⟩;refine .intro (by decide) (X1 ((v / 2 ^ (i + 1) : Nat) : Int) (by rw [← hdd]; exact iU rfl) (And.intro (inU (by omega)) ?_));refine X1 ((i + 1 : Nat) : Int) (wI1 (by omega)) ?_;exact ⟨i + 1, by omega, by omega, ⟨rfl, rfl, rfl, rfl, rfl, trivial⟩, ⟨rfl, rfl, rfl, rfl, trivial⟩⟩
  ·have e : i = m := by omega
   subst e;exact ⟨(), trivial, ⟨rfl, rfl, trivial⟩, ⟨rfl, rfl, rfl, rfl, trivial⟩⟩
 ·have hlm := sN v m;generalize jr v m = l at *
  obtain ⟨r, e, hR, hdec⟩ := pq hB h2' l (by omega) 20 20 (by decide) (by decide) (by decide) (by decide);unfold wg at hR;have hcs : (r = .c (.sc (.slice none 0 0)) ∧ (e = 3 ∨ e = 5)) ∨ ∃ ids, ids.length ≤ 20 ∧ mb Lc n ids = 0 ∧ encB Lc n ids = l ∧ r = .c (iSl ids) ∧ e = 0 := by
   generalize hdv : decV Lc n l 20 = dv at hR
   cases dv with
   | none => exact .inl ⟨hR.1, .inr hR.2⟩
   | some ids =>
    rcases hR with ⟨⟨c1, c2⟩, c3, c4⟩ | ⟨_, c3, c4⟩
    ·exact .inr ⟨ids, zE hdv, c1, c2, c3, c4⟩
    ·exact .inl ⟨c3, .inl c4⟩
  clear hR;refine X2 (.fzo [60, 61] σX νX) ?_;refine ⟨_, _, hdec, ?_⟩;rcases hcs with ⟨rfl, rfl | rfl⟩ | ⟨ids, hil, he, heb, rfl, rfl⟩
  ·refine .intro (by decide) (X1 _ iO ?_);exact ⟨trivial, r1 rfl, trivial⟩
  ·refine .intro (by decide) (X1 _ iO ?_);exact ⟨trivial, r1 rfl, trivial⟩
  ·refine X2 (.own σX νX) ?_;refine ⟨_, _, sM hB h2' ids (by omega) he, ?_⟩;rw [heb];refine X1 _ (sK l l (by omega) (by omega)) ?_;rw [decide_eq_true (show l = l from rfl)];refine .intro (by rw [ai]; omega) ?_;rw [ai];refine ae (fun _ => ?_) (fun h => absurd (show ((ids.length : Nat) : Int) ≤ 20 by omega) h);refine X1 _ iO ?_;exact ⟨trivial, r1 rfl, trivial⟩
end Go.Proofs.YtgceikecdedfcaaGreat.Pv
namespace Go.Proofs.YtgceikecdedfcaaGreat.coderDecodes
open Go Go.ChangeShapes Go.WideShapes Go.ChangeAt Go.RowKit
open Go.Proofs.YtgceikecdedfcaaGreat.Pv (okW)
theorem own : ownKnob Tryz.prog.godebug = none := by kernel_rfl
theorem laidOut : laidOutB Tryz.prog = true := by kernel_rfl
theorem walk (s0 : ByteArray) (o1 : Nat) (x2 y2 : Nat) (e0 : s0.size ≤ 140737488355328) (e1 : o1 < 18446744073709551616) (e2 : x2 < 256) (f2 : y2 < 256) (W : World) (v0 v1 : Value)
  (h0 : Pv.Rel (okW W) W (Pv.sS s0) v0) (h1 : Pv.Rel (okW W) W (Pv.nI .u64 o1) v1) :
  Calls Tryz.prog 4 #[v0, v1, .agg #[.int .u8 x2, .int .u8 y2]] W fun e W' => e = .returned (.bool true) ∧ Below W.heap.size W W' := by
 have hct := Pv.cdecodes_ct s0 o1 x2 y2 e0 e1 e2 f2;have hrun := hct.run (Pv.Km.bare ⟨fun _ => none, fun _ => False⟩) (okW W) W [v0, v1, .agg #[.int .u8 x2, .int .u8 y2]] (Pv.Hp.nil fun _ hb => hb) (.cons (.c (.cl h0)) (.cons (.c (.cl h1)) (.cons (.ag (.cons (.cl (.sc (show (0 : Int) ≤ (x2 : Int) ∧ (x2 : Int) ≤ 255 by omega))) (.cons (.cl (.sc (show (0 : Int) ≤ (y2 : Int) ∧ (y2 : Int) ≤ 255 by omega))) .nil))) .nil)));rcases hrun with ⟨_, hc⟩ | ⟨v, w', hv, _⟩
 ·refine hc.mono fun e w' hq => ?_
  obtain ⟨v, K', ok', rfl, hr, hp, hf⟩ := hq;obtain rfl : v = .bool true := by cases hr with | o hr => cases hr with | c hr => cases hr with | cl hr => cases hr with | sc _ => rfl
  exact ⟨rfl, hf.os, hf.tape, hf.output, hf.size, fun b hb => hf.keep b hb (fun k o L hk => by simp [Pv.Objs.get] at hk) (fun hid => hid)⟩
 ·exfalso;have := Pv.exec_call (P := Tryz.prog) (f := 4) (by kernel_rfl) #[v0, v1, .agg #[.int .u8 x2, .int .u8 y2]] W;have hv' : (callFunc 4 #[v0, v1, .agg #[.int .u8 x2, .int .u8 y2]]).run Tryz.prog W = .ok (.value v) w' := hv;rw [this] at hv';cases hv'
set_option maxRecDepth 100000 in
theorem contract (H : Type) (enc : TypeId × Value → H) (W : World) (base : Nat) (args : Array Value) (ds gs : List (DataW H)) (before : List MemPlace)
  (hval : ∀ (j : Nat) t v, Tryz.f4.params[j]? = some t → args[j]? = some v → Value.okWide Tryz.prog W .any base t v)
  (hW : DataW.Whole enc Tryz.prog Tryz.f4.params.toList Rows.coderDecodesSpec.vars false W args.toList ds gs before) (hk : Rows.uptoSmall H (ds ++ gs) = true) :
  Calls Tryz.prog 4 args W fun e W' => ∃ v, e = .returned v ∧ Rows.coderDecodesSpec.post enc Tryz.prog Tryz.f4 false true false false W args v W' := by
 have hW' := hW;obtain ⟨p, q, hA0, hV, rfl, hfz, hnd⟩ := hW;have hA : DataW.TrodAll enc Tryz.prog W 0 (fun _ => true) true Tryz.f4.params.toList args.toList ds p := hA0;rw [Tryz.params4] at hA hval;obtain ⟨v0, vs0, d0, ds0, p0, q0, hargs0, rfl, rfl, h0, r_0⟩ := trodAll_cons hA;obtain ⟨v1, vs1, d1, ds1, p1, q1, hargs1, rfl, rfl, h1, r_1⟩ := trodAll_cons r_0;obtain ⟨v2, vs2, d2, ds2, p2, q2, hargs2, rfl, rfl, h2, r_2⟩ := trodAll_cons r_1;obtain ⟨rfl, rfl, rfl⟩ := trodAll_nil r_2;obtain rfl : args = #[v0, v1, v2] := by cases args; simp_all
 obtain ⟨rfl, rfl⟩ := trodVars_none hV;clear hA0;have hb : Rows.uptoBulkAll [d0, d1, d2] ≤ 1048576 := by
  have h := of_decide_eq_true hk;simpa using h
 simp only [Rows.uptoBulkAll] at hb;obtain ⟨s0, rfl, rfl, rfl, _⟩ := ChangeMaps.open_string Tryz.underlying9 (hval 0 9 v0 rfl rfl) h0;obtain ⟨z1, rfl, rfl, rfl, w1⟩ := open_int Tryz.underlying40 (hval 1 40 v1 rfl rfl) h1;have x1 : 0 ≤ z1 ∧ z1 ≤ 18446744073709551615 := by simpa [Lit.wf, IntKind.min, IntKind.max, IntKind.signed, IntKind.bits] using w1
 obtain ⟨o1, rfl⟩ : ∃ n : Nat, z1 = (n : Int) := ⟨z1.toNat, by omega⟩;obtain ⟨c2, rfl⟩ := Pv.okWide_arr Tryz.underlying41 (hval 2 41 v2 rfl rfl);obtain ⟨n2, t2⟩ := h2;obtain ⟨x2, y2, r2, wx2, wy2⟩ := Pv.rd_arr2 Tryz.underlying41 ⟨by kernel_rfl, by kernel_rfl⟩ Tryz.underlying5 t2;have xx2 : 0 ≤ x2 ∧ x2 ≤ 255 := by simpa [Lit.wf, IntKind.min, IntKind.max, IntKind.signed, IntKind.bits] using wx2
 have xy2 : 0 ≤ y2 ∧ y2 ≤ 255 := by simpa [Lit.wf, IntKind.min, IntKind.max, IntKind.signed, IntKind.bits] using wy2
 obtain ⟨x2, rfl⟩ : ∃ n : Nat, x2 = (n : Int) := ⟨x2.toNat, by omega⟩;obtain ⟨y2, rfl⟩ : ∃ n : Nat, y2 = (n : Int) := ⟨y2.toNat, by omega⟩;obtain rfl : c2 = #[.int .u8 x2, .int .u8 y2] := by cases c2; simpa [Value.cells] using r2
 obtain ⟨B, hB⟩ : ∃ B, B = 1048576 := ⟨_, rfl⟩;rw [← hB] at hb;have hBB : B ≤ 140737488355328 := by omega
 have hb0 : s0.data.toList.length + 1 ≤ B := by simp only [Rows.uptoBulk] at hb; omega
 have e0 : s0.size ≤ 140737488355328 := by
  have : s0.size = s0.data.toList.length := rfl;omega
 refine (walk s0 o1 x2 y2 e0 (by omega) (by omega) (by omega) W _ _ (.sc (show s0.size ≤ Pv.BIG from e0)) (.sc (show (0 : Int) ≤ (o1 : Int) ∧ (o1 : Int) ≤ 18446744073709551615 from x1))).mono fun e W' ⟨he, hg⟩ => ?_
 subst he;refine ⟨_, rfl, _, _, _, [], ([] ++ ([] ++ (p2 ++ []))), [], hW', ?_, ?_, ?_, hg.frame _, fun h => by cases h⟩
 ·exact trodAll_cons_mk (shut_bool Tryz.underlying4 _) trodAll_mk0
 ·exact trodAll_cons_mk (ChangeMaps.shut_string Tryz.underlying9 (by assumption)) (trodAll_cons_mk (shut_int Tryz.underlying40 w1) (trodAll_cons_mk (Below.trod laidOut (by kernel_rfl) (of_decide_eq_true (by kernel_rfl)) ⟨n2, t2⟩ hg (DataW.trod_lt _ _ _ _ t2)) trodAll_mk0))
 ·rfl
set_option maxRecDepth 100000 in
theorem lifted (os : Os) (started : os.Started) (H : Type) (enc : TypeId × Value → H) (F : Stop.Interp) :
  ReturnsInHanded {} Tryz.checked os 4 .any ((Rows.OpenSpec.upto Rows.coderDecodesSpec).pre6 enc Tryz.prog Tryz.f4 Rows.coderDecodesUptoRow.domain false) (((Rows.OpenSpec.upto Rows.coderDecodesSpec).at F).post enc Tryz.prog Tryz.f4 false true false false) := by
 refine returnsInHanded_of_cond (C := Tryz.checked) (s := Rows.OpenSpec.upto Rows.coderDecodesSpec) (k := Rows.uptoSmall) rfl own started (by kernel_rfl) Tryz.func4
  (OpenSpec.witness (enc := enc) (C := Tryz.checked) (s := Rows.OpenSpec.upto Rows.coderDecodesSpec) (k := Rows.uptoSmall) rfl false ⟨#[], #[.string .empty, .int .u64 0, .agg #[.int .u8 0, .int .u8 0]], []⟩ 8 (by kernel_rfl) (by kernel_rfl) (by kernel_rfl)
   (x := ([.lit (.string []), .lit (.int .u64 0), .agg [.lit (.int .u8 0), .lit (.int .u8 0)]], [], [])) (by kernel_rfl) rfl (by kernel_rfl)) ?_
 intro W base args ds gs before hval hW _ hk _;exact contract H enc W base args ds gs before hval hW hk
theorem over : Rows.coderDecodesUptoRow.holds Tryz.pinned (Rows.OpenSpec.upto Rows.coderDecodesSpec) :=
 OpenClaim.holds_of_cond 4 Tryz.f4 rfl rfl rfl rfl rfl rfl rfl ⟨rfl, rfl, rfl, rfl, rfl⟩ rfl rfl rfl rfl rfl (by kernel_rfl) Tryz.func4 (by kernel_rfl)
  (of_decide_eq_true (by kernel_rfl)) (by unfold Func.isWrapper; first | (rw [if_pos (by decide +kernel)]; kernel_rfl) | (rw [if_neg (by decide +kernel)]; exact ⟨rfl, rfl⟩))
  (fun os started H enc _ F => lifted os started H enc F)
theorem proved : Rows.CoderDecodesUptoSaid :=
 over
end Go.Proofs.YtgceikecdedfcaaGreat.coderDecodes
