/-
  What is proved: the statement whose theorem stands at the end of this text; the texts before it bear its parts.
-/
import Derived.Test.YtgceikecdedfcaaGreatLkQ
import Derived.ChangeMaps5
import Derived.WalkKit
import Derived.JoinedCond
namespace Go.Proofs.YtgceikecdedfcaaGreat.Pv
open Go
theorem oz {n : Nat} : ∀ (L : List (List Int)), (a8 L n).length ≤ (L.map List.length).sum
 | [] => by simp [a8]
 | p :: L => by
  have ih := oz (n := n) L;have h2 : (ct p n).length ≤ p.length := mE p n p.length;have e : a8 (p :: L) n = ct p n ++ a8 L n := by simp [a8]
  rw [e, D3, EH, Ge];omega
theorem wu (ws : List ByteArray) (s : ByteArray) : ((fu ws s).map List.length).sum ≤ 3 * s.size := by
 have key : ∀ L : List (List ByteArray), (∀ l, l ∈ L → 1 ≤ l.length) → ((L.map (eo ws)).map List.length).sum ≤ 3 * (L.map List.length).sum := by
  intro L
  induction L with
  | nil => intro _; simp
  | cons l L ih =>
   intro h;have h1 := ih fun x hx => h x (Ep _ hx)
   have h2 := h l (by simp);have h3 : (eo ws l).length = l.length + 2 := by simp [eo]
   simp only [EH, Ge, h3];omega
 have h1 := key (fH s) fun l hl => by
  have := (GJ.1 hl).2;simp at this;omega
 have h2 := pD s;unfold fu;omega
theorem sT {s : ByteArray} (hs : s.size ≤ 60) {m k : Nat} {l : List Cnt} (h : (ofL s m)[k]? = some l) : l.length ≤ 180 ∧ ∀ x, x ∈ l → 0 ≤ x.2 ∧ x.2 ≤ 180 := by
 obtain ⟨_, rfl⟩ := kF h;have h1 := oz (n := k + 1) (fu (aH s) s);have h2 := wu (aH s) s;obtain ⟨g1, _, g3, _⟩ := mF _ (a8 (fu (aH s) s) (k + 1)) rfl;exact ⟨by omega, fun x hx => by have := g3 x hx; omega⟩
theorem oA {s : ByteArray} (hs : s.size ≤ 60) {m : Nat} : ∀ l, l ∈ ao (ofL s m) → l.length ≤ 180 ∧ ∀ x, x ∈ l → 0 ≤ x.2 ∧ x.2 ≤ 180 := by
 intro l hl;obtain ⟨n, hn, rfl⟩ := dK hl;obtain ⟨a1, a2⟩ := sT hs (Em hn);refine ⟨by rw [EP]; exact a1, fun x hx => ?_⟩;obtain ⟨y, hy, rfl⟩ := Ez.1 hx;have := a2 y hy;unfold cF;split
 ·have : ahead ((ofL s m).getD (n + 1) []) y.1 ≤ 180 := by
   refine D4 (E4 _ _) ?_;by_cases h3 : n + 1 < (ofL s m).length
   ·have e : (ofL s m).getD (n + 1) [] = (ofL s m)[n + 1] := by simp [DZ, h3]
    rw [e];exact (sT hs (Em h3)).1
   ·have e : (ofL s m).getD (n + 1) [] = [] := by simp [DZ, Eo (E9 h3)]
    rw [e]; simp
  show (0 : Int) ≤ ((ahead _ _ : Nat) : Int) ∧ ((ahead _ _ : Nat) : Int) ≤ 180
  omega
 ·exact this
theorem va : ∀ {l : List Cnt}, (∀ x, x ∈ l → 0 ≤ x.2 ∧ x.2 ≤ 180) → totN l ≤ 180 * l.length
 | [], _ => by show totN [] ≤ _; exact FV _
 | x :: l, h => by
  have ih := va (l := l) fun y hy => h y (Ep _ hy)
  have h1 := h x (by simp);rw [pk, EA];split <;> omega
theorem zH (k n2 n3 a b : Nat) : (bW k n2 n3 a b).2 ∣ (n2 + 2 * n3) * b := by
 unfold bW cG dW;refine FK fI (Nat.mul_dvd_mul ?_ ?_)
 ·refine FK fI ?_;rw [EK];refine FK fI ?_;rw [EK];exact G3 _
 ·refine FK fI ?_;rw [EK];exact G3 _
theorem zI {l : List Cnt} (hl : l.length ≤ 180) (k : Nat) (h1 : 1 ≤ k) (h3 : k ≤ 3) : (eN l k).2 < 2 ^ 16 := by
 have m := fun k => D4 (cr l k) hl
 have hs := D4 (mC l) (D4 (E4 aR l) hl);have key : ∀ j a b, aq l 1 ≠ 0 → b ≠ 0 → b ≤ 180 → (cW (j, 1) (bW j (aq l 1) (aq l 2) a b)).2 < 2 ^ 16 := fun j a b e1 e2 e3 => by
  have hd : (cW (j, 1) (bW j (aq l 1) (aq l 2) a b)).2 ∣ (aq l 1 + 2 * aq l 2) * b :=
   FK fI (by show 1 * _ ∣ _; rw [EK]; exact zH _ _ _ _ _)
  have h4 := Nat.le_of_dvd (Nat.mul_pos (by omega) (by omega)) hd;have h5 : (aq l 1 + 2 * aq l 2) * b ≤ 360 * 180 := E7 (by omega) e3;omega
 have hk : k = 1 ∨ k = 2 ∨ k = 3 := by omega
 unfold eN;rcases hk with rfl | rfl | rfl
 all_goals
  simp only [cH];split
  ·exact key _ _ _ (by omega) (by omega) (m _)
  ·decide
theorem C1 {s : ByteArray} (hs : s.size ≤ 60) {m : Nat} (h4 : m ≤ 4) : Few (ao (ofL s m)) (aH s).length 48 15 6 := by
 refine ⟨fun l hl => ?_, fun l hl => ?_, ?_⟩
 ·obtain ⟨a1, _⟩ := oA hs l hl;have d := fun k h1 h3 => zI a1 k h1 h3
  unfold dD;exact kH (k := 32) (m := 16) (kH (k := 16) (m := 16) (d 1 (by omega) (by omega)) (d 2 (by omega) (by omega))) (d 3 (by omega) (by omega))
 ·obtain ⟨a1, a2⟩ := oA hs l hl;have := va a2;omega
 ·have := wt s;omega
theorem DX {s : ByteArray} (hs : s.size ≤ 60) {m : Nat} (h1 : 1 ≤ m) (h4 : m ≤ 4) (h : List Int) : QF (ao (ofL s m)) (aH s).length (fS (ao (ofL s m)) h) < 2 ^ 258 := by
 have key : ∀ K : Nat, K = 258 → QF (ao (ofL s m)) (aH s).length (fS (ao (ofL s m)) h) < 2 ^ K := by
  intro K hK
  have h2 := BS (C1 hs h4) (fS (ao (ofL s m)) h);have h3 := qr (qG (s := s) (by omega) h1 h4) h;rw [bm, cc] at h3;refine Ea h2 (Eh (by omega) ?_);have : (48 + 15) * ((fS (ao (ofL s m)) h).length + 1) ≤ 63 * 4 := ET _ (by omega);omega
 exact key 258 rfl
theorem BT {s : ByteArray} (hs : s.size ≤ 60) {m : Nat} (h1 : 1 ≤ m) (h4 : m ≤ 4) : SB (ao (ofL s m)) (aH s).length 258 :=
 ⟨qG (by omega) h1 h4, Bs (by omega) h4, DX hs h1 h4, by omega⟩
theorem DD {s : ByteArray} (hs : s.size ≤ 60) {m : Nat} (h1 : 1 ≤ m) (h4 : m ≤ 4) : 2 < (aH s).length := by
 have := (qG (s := s) (by omega) h1 h4).w3;omega
theorem DE {f : FuncId} {O : Objs} {args res : List A1} {Lc : List (List Cnt)} {o : Ob} {i j : Nat} (hij : Nat.beq i j = false) (h : CtO P f O args [(i, some o), (j, some (.mp false [] []))] res) : CtO P f O args [(i, some o), (j, some (.me false (MOk Lc)))] res :=
 h.less fun K ok w k o2 g => by
  simp only [Objs.get] at g ⊢
  cases h1 : Nat.beq i k with
  | true => rw [h1] at g; exact ⟨_, rfl, fun h => by cases g; exact h⟩
  | false =>
   rw [h1] at g
   cases h2 : Nat.beq j k with
   | true => rw [h2] at g; cases g; exact ⟨_, rfl, fun h => ⟨[], [], MOk.nil, h⟩⟩
   | false => rw [h2] at g; cases g
theorem Bt (s : ByteArray) (hs : s.size ≤ 60) (o m : Nat) (ho : o < 256) (hm : m = 1 + o % 4) :
  CtO P 12 [] [.c (sS s), .c (nI .u8 o)] [(200, some (xC (ao (ofL s m)) (aH s).length 201)), (201, some (.me false (MOk (ao (ofL s m)))))] [.c (.ad 200 0), mM (ofL s m) (aH s).length, .c (.sc (.bool true))] :=
 DE rfl (Bq s (by omega) o m ho hm)
theorem zJ : SB [[]] 3 258 := by
 have h := BT (s := ⟨#[]⟩) (m := 1) (by decide) (by decide) (by decide);rw [show ao (ofL ⟨#[]⟩ 1) = [[]] by decide, show (aH ⟨#[]⟩).length = 3 by decide] at h;exact h
theorem C2 : CCSum [[]] := by
 refine ⟨⟨by decide, fun l hl => ?_⟩, fun l hl => ?_⟩
 ·simp at hl; subst hl; exact ⟨by simp, fun x hx => by simp at hx⟩
 ·have : l = [] := by simpa [ao] using hl
  subst this; decide
theorem DF : CtO P 36 [] [.c (.sl 1 [[.sc (.slice none 0 0)]]), .c (eI .i64 3)] [(36, some (xC [[]] 3 34)), (34, some (.me false (MOk [[]])))] [.c (.ad 36 0), .c (eI .i64 0)] :=
 DE rfl ((zb [[]] 3 C2 (by decide)).args fun K ok w vs h => h.set (i := 0) rfl CD)
theorem sU {Lc : List (List Cnt)} {n B : Nat} (hB : SB Lc n B) (h2 : 2 < n) {ids : List Int} (he : ir Lc n ids = 0) (M : Nat) : decV Lc n (encB Lc n ids) M = if ids.length ≤ M then some ids else none := by
 obtain ⟨_, c1, c2, c3, c4⟩ := lx he;obtain ⟨b1, b2, _⟩ := gm hB h2 c1;obtain ⟨g1, _⟩ := kL b1 b2 c4;have := zx hB.x hB.e (ids := ids) ⟨c1, fun w hw e => ?_⟩ h2 g1.good (M + 1)
 ·unfold decV encB cd;unfold cd at this;rw [this];by_cases h : ids.length ≤ M
  ·rw [if_pos h, if_pos (by omega)]
  ·rw [if_neg h, if_neg (by omega)]
 ·subst e;have := mL hw;omega
theorem Bu : ir [[]] 3 [] = 0 := by decide
theorem zK : encB [[]] 3 [] = [true] := by
 have hs : cd [[]] 3 [] = ((1, 2), (1, 2)) := by decide
 have hk : kOf (cd [[]] 3 []) = 1 := by
  rw [hs];refine zE ⟨by decide, fun j hj => ?_⟩;have : j = 0 := by omega
  subst this;decide
 unfold encB;rw [hk, hs];decide
abbrev σ45 : List (Nat × Nat) := [(50, 1000000), (51, 1000001)]
abbrev ν45 : List (Nat × Nat) := [(1000000, 50), (1000001, 51)]
theorem iY : Ct P 11 [] [.c (.sc (.bool true))] := by
 have henc : CtO P 13 (xE [[]] 3) [.c (.ad 1000000 0), .c (.sc (.slice none 0 0))] (xE [[]] 3) [encR [[]] 3 [], .c (eI .i64 (ir [[]] 3 []))] :=
  (iX zJ (by decide) [] (by decide)).args fun K ok w vs h => h.set (i := 1) rfl A6
 rw [show encR [[]] 3 [] = .c (bP (encB [[]] 3 [])) from if_pos Bu, Bu, zK] at henc;obtain ⟨r, e, hR, hdec⟩ := pC zJ (by decide) [true] (by decide) 5 5 (by decide) (by decide) (by decide) (by decide);have hv := sU zJ (by decide) Bu 5;rw [zK, if_pos (by decide)] at hv;have hre : r = .c (iSl []) ∧ e = 0 := by
  unfold wr at hR;rw [hv] at hR;rcases hR with ⟨_, a, b⟩ | ⟨h, _⟩
  ·exact ⟨a, b⟩
  ·exact absurd ⟨Bu, zK⟩ h
 obtain ⟨rfl, rfl⟩ := hre;refine Ct.go (Ty.own_ok [36, 1000001, 1000003] aj) aa (N := 47) Tryz.func11 rfl rfl rfl rfl ?_;refine X2 (.own [] [(36, 50), (34, 51)]) ?_;refine ⟨_, _, DF, ?_⟩;refine X2 (.own σ45 ν45) ?_;refine ⟨_, _, henc, ?_⟩;refine X2 (.own σ45 ν45) ?_;refine ⟨_, _, hdec, ?_⟩;refine X1 _ (dF [true] (by decide)) ?_;refine X1 _ (Bl [true] 0 (by decide) (by decide)) ?_;refine .intro (by decide) ?_;exact ⟨trivial, r1 rfl, trivial⟩
theorem ui (s : ByteArray) (l : List Int) (m : Int) (hs : s.size ≤ 140737488355328) (hl : l.length ≤ 140737488355328) : Ct P 9 [.c (sS s), .c (iSl l), .c (eI .i64 m)] [.c (.sc (.bool (decide (s.size ≤ 60 ∧ (l.length : Int) ≤ m))))] := by
 refine Ct.go aj aa (N := 16) Tryz.func9 rfl rfl rfl rfl ?_;refine ah (fun h1 => ?_) (fun h1 => ?_)
 ·refine .intro (by rw [ae]; omega) ?_;rw [ae];have e : decide (s.size ≤ 60 ∧ (l.length : Int) ≤ m) = decide ((l.length : Int) ≤ m) := decide_eq_decide.2 ⟨fun h => h.2, fun h => ⟨by omega, h⟩⟩;rw [e];exact ⟨trivial, r1 rfl, trivial⟩
 ·have e : decide (s.size ≤ 60 ∧ (l.length : Int) ≤ m) = false := decide_eq_false fun h => h1 (by omega)
  rw [e];exact ⟨trivial, r1 rfl, trivial⟩
theorem sV {Lc : List (List Cnt)} {n B : Nat} (hB : SB Lc n B) (h2 : 2 < n) (ids : List Int) (hl : ids.length ≤ 24) (he : ir Lc n ids = 0) : CtO P 13 (xE Lc n) [.c (.ad 1000000 0), .c (iSl ids)] (xE Lc n) [.c (bP (encB Lc n ids)), .c (eI .i64 0)] := by
 have h := iX hB h2 ids hl;rw [he, show encR Lc n ids = .c (bP (encB Lc n ids)) from if_pos he] at h;exact h
theorem uj {Lc : List (List Cnt)} {n B : Nat} (hB : SB Lc n B) (h2 : 2 < n) (ids : List Int) (hl : ids.length ≤ 24) (he : ir Lc n ids ≠ 0) : CtO P 13 (xE Lc n) [.c (.ad 1000000 0), .c (iSl ids)] (xE Lc n) [ov, .c (eI .i64 (ir Lc n ids))] := by
 have h := iX hB h2 ids hl;rw [show encR Lc n ids = ov from if_neg he] at h;exact h
theorem pH {Lc : List (List Cnt)} {n : Nat} {ids : List Int} (he : ir Lc n ids = 0) : PlainW n ids := by
 obtain ⟨_, c1, c2, c3, _⟩ := lx he;exact ⟨c1, fun w hw e => by subst e; have := mL hw; omega⟩
theorem zL {Lc : List (List Cnt)} {n B : Nat} (hB : SB Lc n B) (h2 : 2 < n) {ids : List Int} (he : ir Lc n ids = 0) : good (cd Lc n ids) (kOf (cd Lc n ids)) = true ∧ kOf (cd Lc n ids) ≤ 1 + B * (ids.length + 1) + 1 := by
 obtain ⟨_, c1, _, _, c4⟩ := lx he;obtain ⟨b1, b2, _⟩ := gm hB h2 c1;obtain ⟨g1, g2⟩ := kL b1 b2 c4;exact ⟨g1.good, g2⟩
abbrev σX : List (Nat × Nat) := [(200, 1000000), (201, 1000001)]
abbrev νX : List (Nat × Nat) := [(1000000, 200), (1000001, 201)]
def iu (n d : Nat) : Int := if n * 2 ^ (blen d - blen n) < d * 2 ^ (blen n - blen d) then (blen n : Int) - blen d - 1 else (blen n : Int) - blen d
theorem zM (a : Nat) (z : Int) (m : Nat) (hm : m = z.toNat) (ha : (dg 18446744073709551616 a).length ≤ 400000) (hz : z ≤ 1000000) : Ct P 82 [nV a, .c (eI .i64 z)] [nV (a * 2 ^ m)] := by
 subst hm;by_cases h : 0 < z
 ·obtain ⟨n, rfl⟩ : ∃ n : Nat, z = n := ⟨z.toNat, by omega⟩;exact nH a n ha (by omega)
 ·rw [show z.toNat = 0 by omega, GB, Fg];refine Ct.go aj aa (N := 63) Tryz.func82 rfl rfl rfl rfl ?_;refine ah (fun _ => ?_) (fun h1 => absurd (by omega) h1);exact ⟨trivial, rc rfl, trivial⟩
theorem wv {k : Nat} {p : Fr2} (hb : Bd k p) (h0 : p.1 ≠ 0) (hk : k ≤ 100000) : Ct P 35 [qP p] [.c (eI .i64 (iu p.1 p.2)), .c (eI .i64 0)] := by
 have l1 := eZ hb.n (by omega);have l2 := eZ hb.d (by omega);have b1 := eb hb.n;have b2 := eb hb.d;have l3 := eZ (v := p.1 * 2 ^ (blen p.2 - blen p.1)) (k := k + k) (Ea (gk hb.n) (Eh (by omega) (by omega))) (by omega);have l4 := eZ (v := p.2 * 2 ^ (blen p.1 - blen p.2)) (k := k + k) (Ea (gk hb.d) (Eh (by omega) (by omega))) (by omega);have hden := bI p.1 p.2 (by omega);rw [ib hb.pos] at hden;refine Ct.go aj aa (N := 28) Tryz.func35 rfl rfl rfl rfl ?_;refine X1 _ (ic p.1 p.2 (by omega)) ?_;refine aN (fun h => absurd (by simpa using h) h0) (fun _ => ?_);refine X1 _ (ck _ _) ?_;refine X1 _ (ia p.1 (by omega)) ?_;refine X1 _ hden ?_;refine X1 _ (ia p.2 (by omega)) ?_;refine X1 ((blen p.1 : Int) - blen p.2) (wI rfl (by omega) (by omega)) ?_;refine .intro rfl ?_;refine X1 _ (ck _ _) ?_;refine X1 ((blen p.2 : Int) - blen p.1) (by omega) (And.intro ⟨by omega, by omega⟩ ?_);refine X1 _ (zM p.1 _ (blen p.2 - blen p.1) (by omega) (by omega) (by omega)) ?_;refine X1 _ hden ?_;refine X1 _ (zM p.2 _ (blen p.1 - blen p.2) (by omega) (by omega) (by omega)) ?_;refine X1 _ (iG _ _ (by omega) (by omega)) ?_;refine .intro rfl ?_;refine ah (fun h => ?_) (fun h => ?_)
 ·refine X1 ((blen p.1 : Int) - blen p.2 - 1) (wI rfl (by omega) (by omega)) ?_;exact ⟨trivial, r1 (iE (by have := cmpI_lt.1 h; rw [iu, if_pos (GA.1 this)])), r1 rfl, trivial⟩
 ·exact ⟨trivial, r1 (iE (by rw [iu, if_neg fun h' => h (cmpI_lt.2 (GA.2 h'))])), r1 rfl, trivial⟩
theorem zN {n d : Nat} (h0 : n ≠ 0) (hd : d ≠ 0) (hle : n ≤ d) : ∃ K : Nat, iu n d = -(K : Int) ∧ d ≤ n * 2 ^ K := by
 have hb : blen n ≤ blen d := by
  have h1 := eb (k := blen d) (FJ hle (dB d));exact h1
 unfold iu;split
 ·rename_i h;refine ⟨blen d - blen n + 1, by omega, ?_⟩;have h1 := mo h0;have h2 := dB d;have hn1 : blen n ≠ 0 := fun e => by
   have := dB n;rw [e] at this;simp at this;exact h0 this
  have h3 : 2 ^ (blen n - 1) * 2 ^ (blen d - blen n + 1) = 2 ^ blen d := by
   rw [← EW]; congr 1; omega
  have h4 := D8 (2 ^ (blen d - blen n + 1)) h1;omega
 ·rename_i h;refine ⟨blen d - blen n, by omega, ?_⟩;rw [show blen n - blen d = 0 by omega, GB, Fg] at h;omega
theorem C3 {k m : Nat} {p : Fr2} (hp : p.2 ≠ 0) (h : p.2 ≤ p.1 * 2 ^ k) (hm : m = k + 1) : (2 : Rat) ≤ ((2 ^ m : Nat) : Rat) * qv p := by
 subst hm;have b1 : (0 : Rat) < p.2 := FB.2 (Eu hp);have h2 := Fz.2 (show 2 * p.2 ≤ p.1 * 2 ^ (k + 1) by rw [EI, ← Ee]; omega);simp only [EZ] at h2;have e : ((2 ^ (k + 1) : Nat) : Rat) * qv p = ((p.1 : Rat) * ((2 ^ (k + 1) : Nat) : Rat)) / p.2 := by unfold qv; grind
 rw [e, fJ b1];exact h2
theorem vb {n k : Nat} {els els2 : List (List PC)} {X : Prop} (hn : n = els.length) (h : els.length + els2.length ≤ 4000000) (hk : k ≤ 64) (h1 : ax els) (h2 : ax els2) (hX : X) :
  n = els.length ∧ (els.length + els2.length + 768) * k ≤ 17592186044416 ∧ els.length + els2.length ≤ 35184372088832 ∧ ax els ∧ ax els2 ∧ X :=
 ⟨hn, D4 (ET _ hk) (by omega), by omega, h1, h2, hX⟩
theorem zO {K : Nat} (h : K ≤ 3356) : IntKind.i64.wrap (1 - -(K : Int)) = ((K + 1 : Nat) : Int) := wI (by omega) (by omega) (by omega)
theorem C4 {l : Nat} (h : l ≤ 12) : ((l - 1 : Nat) : Int) = min (max ((l : Int) - 1) 0) 64 := by omega
theorem vc {l : Nat} (h : l ≤ 12) : -1000 ≤ (l : Int) - 1 ∧ (l : Int) - 1 ≤ 1000 := by omega
theorem DG {l : Nat} (h : l ≤ l - 1) : l = 0 := by omega
theorem BU {ids : List Int} (h : ids.length ≤ 12) : (aM ids).length ≤ 140737488355328 := by rw [ae]; omega
theorem DH {k : Nat} (h : k ≤ 12) : 1 + 258 * (k + 1) ≤ 3355 ∧ 1 + 258 * (k + 1) + 1 ≤ 3356 := by omega
theorem Bv {Lc : List (List Cnt)} {n B : Nat} (hB : SB Lc n B) (h2 : 2 < n) {ids : List Int} (he : ir Lc n ids = 0) : ∃ K : Nat, iu (cd Lc n ids).2.1 (cd Lc n ids).2.2 = -(K : Int) ∧ kOf (cd Lc n ids) ≤ K + 1 ∧ K ≤ 1 + B * (ids.length + 1) + 1 := by
 obtain ⟨_, c1, _, _, c4⟩ := lx he;have hin := CT h2 (pH he);obtain ⟨a1, a2, a3, a4⟩ := gj hB.x (ids ++ [2]);obtain ⟨i1, i2, i3⟩ := sD hB.x hB.e (ids ++ [2]) [1] hin
 have hle : (cd Lc n ids).2.1 ≤ (cd Lc n ids).2.2 := oh a2 (by
  show qv (bf Lc n (ids ++ [2])).2 ≤ 1
  rw [a4]; grind)
 obtain ⟨K, k1, k2⟩ := zN c4 a2 hle;obtain ⟨b1, b2, _⟩ := gm hB h2 c1;obtain ⟨g1, _⟩ := kL b1 b2 c4;obtain ⟨k, hk, hc⟩ := sG (uZ (p := cd Lc n ids) (k := K + 1) a1 a2 (C3 a2 k2 rfl));refine ⟨K, k1, by rw [g1.uniq hc]; exact hk, ?_⟩;have k1 : iu (cd Lc n ids).2.1 (cd Lc n ids).2.2 = -(K : Int) := k1;have hb2 := eb b2.n;have hb3 := eb b2.d;generalize 1 + B * (ids.length + 1) = j at *
 unfold iu at k1;split at k1 <;> omega
set_option maxHeartbeats 4000000 in
theorem cback_ct (s : ByteArray) (o : Nat) (ids : List Int) (hs : s.size ≤ 140737488355328) (ho : o < 256) (hl : ids.length ≤ 140737488355328) :
  Ct P 8 [.c (sS s), .c (nI .u8 o), .c (iSl ids)] [.c (.sc (.bool true))] := by
 have hT := Ty.own_ok [12] aj;refine Ct.keepI hT [] (N := 117) Tryz.func8 rfl rfl rfl rfl ?_;refine dI hT aa ?_;refine dI hT aa ?_;refine X1 _ (ui s ids 12 hs hl) ?_;refine aN (fun h1 => ?_) (fun h1 => ?_)
 ·refine X1 _ iY ?_;exact ⟨trivial, SubO.of (l := []) trivial, r1 rfl, trivial⟩
 have h1' : s.size ≤ 60 ∧ (ids.length : Int) ≤ 12 := by simpa using h1
 obtain ⟨s60, l12⟩ := h1';have l12n : ids.length ≤ 12 := by omega
 have hB := BT s60 (m := 1 + o % 4) (by omega) (by omega);have h2' := DD s60 (m := 1 + o % 4) (by omega) (by omega);have hof := Bt s s60 o (1 + o % 4) (by omega) rfl;generalize (aH s).length = n at *
 refine dI hT aa ?_;refine X2 (.own [] [(200, 200), (201, 201)]) ?_;refine ⟨_, _, hof, ?_⟩;generalize ao (ofL s (1 + o % 4)) = Lc at *
 refine dI hT aa ?_;refine dI hT aa ?_;by_cases he : ir Lc n ids = 0
 ·obtain ⟨K, k1, k2, k3⟩ := Bv hB h2' he;obtain ⟨_, c1, _, _, c4⟩ := lx he;obtain ⟨b1, b2, _⟩ := gm hB h2' c1;have hin := CT h2' (pH he);have hchk : jb n (ids ++ [2]) = 0 := by
   unfold jb;rw [if_neg (by rw [D3, GC]; omega), if_pos (inB_iff.2 hin)]
  have hspan := wq hB (ids ++ [2]) (by rw [D3, GC]; omega);rw [if_pos hchk, if_pos hchk, hchk] at hspan;have hll := sR (Lc := Lc) (n := n) ids;have hlb := (zL hB h2' he).2;obtain ⟨q1, q2⟩ := DH l12n;have hK : kOf (cd Lc n ids) ≤ 3356 := D4 hlb q2;have b1 := b1.le q1;have b2 := b2.le q1;have hwh := wv b2 c4 (by decide);rw [k1] at hwh;have hKb : K ≤ 3356 := D4 k3 q2;have dec : ∀ (most : Int) (M : Nat), ((M : Nat) : Int) = min (max most 0) 64 → M ≤ 24 → -1000 ≤ most → most ≤ 1000 → CtO P 18 (xE Lc n) [.c (.ad 1000000 0), .c (bP (encB Lc n ids)), .c (eI .i64 most)] (xE Lc n) [.c (if ids.length ≤ M then iSl ids else .sc (.slice none 0 0)), .c (eI .i64 (if ids.length ≤ M then 0 else 5))] := by
   intro most M m1 m2 m3 m4;obtain ⟨r, e, hR, hdec⟩ := pC hB h2' (encB Lc n ids) (by omega) most M m1 m2 m3 m4;have hv := sU hB h2' he M;unfold wr at hR;rw [hv] at hR;by_cases hle : ids.length ≤ M
   ·rw [if_pos hle] at hR;rw [if_pos hle, if_pos hle];rcases hR with ⟨_, rfl, rfl⟩ | ⟨h, _⟩
    ·exact hdec
    ·exact absurd ⟨he, rfl⟩ h
   ·rw [if_neg hle] at hR;rw [if_neg hle, if_neg hle];obtain ⟨rfl, rfl⟩ := hR;exact hdec
  have d1 := dec ids.length ids.length (by omega) (by omega) (by omega) (by omega);rw [if_pos (D1 _), if_pos (D1 _)] at d1;refine X2 (.own σX νX) ?_;refine ⟨_, _, sV hB h2' ids (by omega) he, ?_⟩;refine dI hT aa ?_;refine nC hT aa (G2 := Unit) (fun _ => True) (fun _ => [(2, .c (iSl ids)), (7, .c (.ad 200 0)), (10, .c (bP (encB Lc n ids))), (12, .c (iSl ids)), (13, .c (eI .i64 0))]) (fun _ => [(200, xC Lc n 201), (201, .me false (MOk Lc))]) ?_ (fun _ _ => ?_)
  ·refine .intro (by rw [ae]; omega) ?_;rw [ae];refine X2 (.own σX νX) ?_;refine ⟨_, _, d1, ?_⟩;exact ⟨(), trivial, ⟨rfl, rfl, rfl, rfl, rfl, trivial⟩, ⟨rfl, rfl, trivial⟩⟩
  refine kg hT aa ?_;have l13 : (aM ids).length ≤ 12 := by rw [ae]; exact l12n
  refine vb rfl (D4 (Nat.add_le_add_left l13 0) (by decide)) (by decide) bV aZ ?_;refine vb rfl (D4 (Nat.add_le_add_right l13 1) (by decide)) (by decide) aZ (ar rfl) ?_;rw [show iSl (ids ++ [2]) = .sl 1 (aM ids ++ [[eI .i64 2]]) by simp [aM]] at hspan;refine X2 (.fzo [58] σX νX) ?_;refine ⟨_, _, hspan, ?_⟩;refine X1 _ hwh ?_;have hints := pY ids ids (D4 l12n (by decide)) (D4 l12n (by decide));rw [decide_eq_true (show ids = ids from rfl)] at hints;have hel : (encB Lc n ids).length ≤ K + 1 := by rw [hll]; exact k2
  have hel2 : (encB Lc n ids).length ≤ 100000000 := by rw [hll]; exact D4 hK (by decide)
  refine X1 _ hints ?_;refine X1 _ (dF _ hel2) ?_;refine X1 ((K + 1 : Nat) : Int) (zO hKb) ?_;refine ah (fun h => absurd h (by show ¬ (((encB Lc n ids).length : Nat) : Int) > ((K + 1 : Nat) : Int); exact Int.not_lt.2 (G0.2 hel))) (fun _ => ?_);have d2 := dec ((ids.length : Int) - 1) (ids.length - 1) (C4 l12n) (D4 (Nat.sub_le _ _) (D4 l12n (by decide))) (vc l12n).1 (vc l12n).2;refine .intro (BU l12n) ?_;rw [ae];refine X1 ((ids.length : Int) - 1) (wI rfl (GV (by decide) (vc l12n).1) (GV (vc l12n).2 (by decide))) ?_;refine X2 (.own σX νX) ?_;refine ⟨_, _, d2, ?_⟩;refine .intro (BU l12n) ?_;rw [ae];refine aV (fun h => ?_) (fun h => ?_)
  ·have e : ids.length ≤ ids.length - 1 := by rw [show ids.length = 0 from Int.ofNat.inj h]; exact D1 _
   rw [if_pos e];refine X1 _ iY ?_;exact ⟨trivial, SubO.of (l := []) trivial, r1 rfl, trivial⟩
  ·have e : ¬ ids.length ≤ ids.length - 1 := fun e => h (by rw [show ids.length = 0 from DG e]; rfl)
   rw [if_neg e];refine X1 _ iY ?_;exact ⟨trivial, SubO.of (l := []) trivial, r1 rfl, trivial⟩
 ·refine X2 (.own σX νX) ?_;refine ⟨_, _, uj hB h2' ids (by omega) he, ?_⟩;refine dI hT aa ?_;refine dL (fun _ => ?_) (fun h => absurd h he);refine X1 _ iY ?_;exact ⟨trivial, SubO.of (l := []) trivial, r1 rfl, trivial⟩
end Go.Proofs.YtgceikecdedfcaaGreat.Pv
namespace Go.Proofs.YtgceikecdedfcaaGreat.coderBack
open Go Go.ChangeShapes Go.WideShapes Go.ChangeAt Go.RowKit
open Go.Proofs.YtgceikecdedfcaaGreat.Pv (okW)
theorem own : ownKnob Tryz.prog.godebug = none := by kernel_rfl
theorem laidOut : laidOutB Tryz.prog = true := by kernel_rfl
theorem walk (s0 : ByteArray) (o1 : Nat) (l2 : List Int) (e0 : s0.size ≤ 140737488355328) (e1 : o1 < 256) (e2 : l2.length ≤ 140737488355328) (W : World) (v0 v1 v2 : Value)
  (h0 : Pv.Rel (okW W) W (Pv.sS s0) v0) (h1 : Pv.Rel (okW W) W (Pv.nI .u8 o1) v1) (h2 : Pv.Rel (okW W) W (Pv.iSl l2) v2) :
  Calls Tryz.prog 8 #[v0, v1, v2] W fun e W' => e = .returned (.bool true) ∧ Below W.heap.size W W' := by
 have hct := Pv.cback_ct s0 o1 l2 e0 e1 e2;have hrun := hct.run (Pv.Km.bare ⟨fun _ => none, fun _ => False⟩) (okW W) W [v0, v1, v2] (Pv.Hp.nil fun _ hb => hb) (.cons (.c (.cl h0)) (.cons (.c (.cl h1)) (.cons (.c (.cl h2)) .nil)));rcases hrun with ⟨_, hc⟩ | ⟨v, w', hv, _⟩
 ·refine hc.mono fun e w' hq => ?_
  obtain ⟨v, K', ok', rfl, hr, hp, hf⟩ := hq;obtain rfl : v = .bool true := by cases hr with | o hr => cases hr with | c hr => cases hr with | cl hr => cases hr with | sc _ => rfl
  exact ⟨rfl, hf.os, hf.tape, hf.output, hf.size, fun b hb => hf.keep b hb (fun k o L hk => by simp [Pv.Objs.get] at hk) (fun hid => hid)⟩
 ·exfalso;have := Pv.exec_call (P := Tryz.prog) (f := 8) (by kernel_rfl) #[v0, v1, v2] W;have hv' : (callFunc 8 #[v0, v1, v2]).run Tryz.prog W = .ok (.value v) w' := hv;rw [this] at hv';cases hv'
set_option maxRecDepth 100000 in
theorem contract (H : Type) (enc : TypeId × Value → H) (W : World) (base : Nat) (args : Array Value) (ds gs : List (DataW H)) (before : List MemPlace)
  (hval : ∀ (j : Nat) t v, Tryz.f8.params[j]? = some t → args[j]? = some v → Value.okWide Tryz.prog W .any base t v)
  (hW : DataW.Whole enc Tryz.prog Tryz.f8.params.toList Rows.coderBackSpec.vars false W args.toList ds gs before) (hk : Rows.uptoSmall H (ds ++ gs) = true) :
  Calls Tryz.prog 8 args W fun e W' => ∃ v, e = .returned v ∧ Rows.coderBackSpec.post enc Tryz.prog Tryz.f8 false true false false W args v W' := by
 have hW' := hW;obtain ⟨p, q, hA0, hV, rfl, hfz, hnd⟩ := hW;have hA : DataW.TrodAll enc Tryz.prog W 0 (fun _ => true) true Tryz.f8.params.toList args.toList ds p := hA0;rw [Tryz.params8] at hA hval;obtain ⟨v0, vs0, d0, ds0, p0, q0, hargs0, rfl, rfl, h0, r_0⟩ := trodAll_cons hA;obtain ⟨v1, vs1, d1, ds1, p1, q1, hargs1, rfl, rfl, h1, r_1⟩ := trodAll_cons r_0;obtain ⟨v2, vs2, d2, ds2, p2, q2, hargs2, rfl, rfl, h2, r_2⟩ := trodAll_cons r_1;obtain ⟨rfl, rfl, rfl⟩ := trodAll_nil r_2;obtain rfl : args = #[v0, v1, v2] := by cases args; simp_all
 obtain ⟨rfl, rfl⟩ := trodVars_none hV;clear hA0;have hb : Rows.uptoBulkAll [d0, d1, d2] ≤ 1048576 := by
  have h := of_decide_eq_true hk;simpa using h
 simp only [Rows.uptoBulkAll] at hb;obtain ⟨s0, rfl, rfl, rfl, _⟩ := ChangeMaps.open_string Tryz.underlying9 (hval 0 9 v0 rfl rfl) h0;obtain ⟨z1, rfl, rfl, rfl, w1⟩ := open_int Tryz.underlying5 (hval 1 5 v1 rfl rfl) h1;have x1 : 0 ≤ z1 ∧ z1 ≤ 255 := by simpa [Lit.wf, IntKind.min, IntKind.max, IntKind.signed, IntKind.bits] using w1
 obtain ⟨o1, rfl⟩ : ∃ n : Nat, z1 = (n : Int) := ⟨z1.toNat, by omega⟩;obtain ⟨a2, m2, c2, rfl⟩ := okWide_slice Tryz.underlying22 (hval 2 22 v2 rfl rfl);obtain ⟨n2, t2⟩ := h2;obtain ⟨B, hB⟩ : ∃ B, B = 1048576 := ⟨_, rfl⟩;rw [← hB] at hb;have hBB : B ≤ 140737488355328 := by omega
 have hb0 : s0.data.toList.length + 1 ≤ B := by simp only [Rows.uptoBulk] at hb; omega
 have e0 : s0.size ≤ 140737488355328 := by
  have : s0.size = s0.data.toList.length := rfl;omega
 obtain ⟨u2, l2, e2, hh2, hr2⟩ := Pv.rd_ints hBB t2 (show Rows.uptoBulk d2 ≤ B by omega);have e2' : u2 = .slice a2 m2 c2 := by simpa [Value.cells] using e2.symm
 subst e2';refine (walk s0 o1 l2 e0 (by omega) (by omega) W _ _ _ (.sc (show s0.size ≤ Pv.BIG from e0)) (.sc (show (0 : Int) ≤ (o1 : Int) ∧ (o1 : Int) ≤ 255 from x1)) hr2).mono fun e W' ⟨he, hg⟩ => ?_
 subst he;refine ⟨_, rfl, _, _, _, [], ([] ++ ([] ++ (p2 ++ []))), [], hW', ?_, ?_, ?_, hg.frame _, fun h => by cases h⟩
 ·exact trodAll_cons_mk (shut_bool Tryz.underlying4 _) trodAll_mk0
 ·exact trodAll_cons_mk (ChangeMaps.shut_string Tryz.underlying9 (by assumption)) (trodAll_cons_mk (shut_int Tryz.underlying5 w1) (trodAll_cons_mk (Below.trod laidOut (by kernel_rfl) (of_decide_eq_true (by kernel_rfl)) ⟨n2, t2⟩ hg (DataW.trod_lt _ _ _ _ t2)) trodAll_mk0))
 ·rfl
set_option maxRecDepth 100000 in
theorem lifted (os : Os) (started : os.Started) (H : Type) (enc : TypeId × Value → H) (F : Stop.Interp) :
  ReturnsInHanded {} Tryz.checked os 8 .any ((Rows.OpenSpec.upto Rows.coderBackSpec).pre6 enc Tryz.prog Tryz.f8 Rows.coderBackUptoRow.domain false) (((Rows.OpenSpec.upto Rows.coderBackSpec).at F).post enc Tryz.prog Tryz.f8 false true false false) := by
 refine returnsInHanded_of_cond (C := Tryz.checked) (s := Rows.OpenSpec.upto Rows.coderBackSpec) (k := Rows.uptoSmall) rfl own started (by kernel_rfl) Tryz.func8
  (OpenSpec.witness (enc := enc) (C := Tryz.checked) (s := Rows.OpenSpec.upto Rows.coderBackSpec) (k := Rows.uptoSmall) rfl false ⟨#[], #[.string .empty, .int .u8 0, .slice none 0 0], []⟩ 8 (by kernel_rfl) (by kernel_rfl) (by kernel_rfl)
   (x := ([.lit (.string []), .lit (.int .u8 0), .nil], [], [])) (by kernel_rfl) rfl (by kernel_rfl)) ?_
 intro W base args ds gs before hval hW _ hk _;exact contract H enc W base args ds gs before hval hW hk
theorem over : Rows.coderBackUptoRow.holds Tryz.pinned (Rows.OpenSpec.upto Rows.coderBackSpec) :=
 OpenClaim.holds_of_cond 8 Tryz.f8 rfl rfl rfl rfl rfl rfl rfl ⟨rfl, rfl, rfl, rfl, rfl⟩ rfl rfl rfl rfl rfl (by kernel_rfl) Tryz.func8 (by kernel_rfl)
  (of_decide_eq_true (by kernel_rfl)) (by unfold Func.isWrapper; first | (rw [if_pos (by decide +kernel)]; kernel_rfl) | (rw [if_neg (by decide +kernel)]; exact ⟨rfl, rfl⟩))
  (fun os started H enc _ F => lifted os started H enc F)
theorem proved : Rows.CoderBackUptoSaid :=
 over
end Go.Proofs.YtgceikecdedfcaaGreat.coderBack
