/-
  What is proved: the statement whose theorem stands at the end of this text; the texts before it bear its parts.
-/
import Derived.Test.YtgceikecdedfcaaGreatLaQ
import Derived.ChangeMaps5
import Derived.WalkKit
import Derived.JoinedCond
namespace Go.Proofs.YtgceikecdedfcaaGreat.Pv
open Go
theorem oD {n : Nat} : ∀ (L : List (List Int)), (aZ L n).length ≤ (L.map List.length).sum
 | [] => by simp [aZ]
 | p :: L => by
  have ih := oD (n := n) L;have h2 : (cu p n).length ≤ p.length := mJ p n p.length;have e : aZ (p :: L) n = cu p n ++ aZ L n := by simp [aZ]
  rw [e, D3, EH, Gf];omega
theorem wC (ws : List ByteArray) (s : ByteArray) : ((fx ws s).map List.length).sum ≤ 3 * s.size := by
 have key : ∀ L : List (List ByteArray), (∀ l, l ∈ L → 1 ≤ l.length) → ((L.map (ek ws)).map List.length).sum ≤ 3 * (L.map List.length).sum := by
  intro L
  induction L with
  | nil => intro _; simp
  | cons l L ih =>
   intro h;have h1 := ih fun x hx => h x (Eo _ hx)
   have h2 := h l (by simp);have h3 : (ek ws l).length = l.length + 2 := by simp [ek]
   simp only [EH, Gf, h3];omega
 have h1 := key (fL s) fun l hl => by
  have := (GG.1 hl).2;simp at this;omega
 have h2 := pK s;unfold fx;omega
theorem s8 {s : ByteArray} (hs : s.size ≤ 60) {m k : Nat} {l : List Cnt} (h : (ofL s m)[k]? = some l) : l.length ≤ 180 ∧ ∀ x, x ∈ l → 0 ≤ x.2 ∧ x.2 ≤ 180 := by
 obtain ⟨_, rfl⟩ := kI h;have h1 := oD (n := k + 1) (fx (aH s) s);have h2 := wC (aH s) s;obtain ⟨g1, _, g3, _⟩ := mK _ (aZ (fx (aH s) s) (k + 1)) rfl;exact ⟨by omega, fun x hx => by have := g3 x hx; omega⟩
theorem oE {s : ByteArray} (hs : s.size ≤ 60) {m : Nat} : ∀ l, l ∈ ao (ofL s m) → l.length ≤ 180 ∧ ∀ x, x ∈ l → 0 ≤ x.2 ∧ x.2 ≤ 180 := by
 intro l hl;obtain ⟨n, hn, rfl⟩ := dK hl;obtain ⟨a1, a2⟩ := s8 hs (Ee hn);refine ⟨by rw [EQ]; exact a1, fun x hx => ?_⟩;obtain ⟨y, hy, rfl⟩ := EA.1 hx;have := a2 y hy;unfold cF;split
 ·have : ahead ((ofL s m).getD (n + 1) []) y.1 ≤ 180 := by
   refine D4 (E5 _ _) ?_;by_cases h3 : n + 1 < (ofL s m).length
   ·have e : (ofL s m).getD (n + 1) [] = (ofL s m)[n + 1] := by simp [DZ, h3]
    rw [e];exact (s8 hs (Ee h3)).1
   ·have e : (ofL s m).getD (n + 1) [] = [] := by simp [DZ, Ej (E8 h3)]
    rw [e]; simp
  show (0 : Int) ≤ ((ahead _ _ : Nat) : Int) ∧ ((ahead _ _ : Nat) : Int) ≤ 180
  omega
 ·exact this
theorem vj : ∀ {l : List Cnt}, (∀ x, x ∈ l → 0 ≤ x.2 ∧ x.2 ≤ 180) → totN l ≤ 180 * l.length
 | [], _ => by show totN [] ≤ _; exact FW _
 | x :: l, h => by
  have ih := vj (l := l) fun y hy => h y (Eo _ hy)
  have h1 := h x (by simp);rw [pw, EB];split <;> omega
theorem zS (k n2 n3 a b : Nat) : (bX k n2 n3 a b).2 ∣ (n2 + 2 * n3) * b := by
 unfold bX cG dW;refine FJ fM (Nat.mul_dvd_mul ?_ ?_)
 ·refine FJ fM ?_;rw [EK];refine FJ fM ?_;rw [EK];exact G1 _
 ·refine FJ fM ?_;rw [EK];exact G1 _
theorem zT {l : List Cnt} (hl : l.length ≤ 180) (k : Nat) (h1 : 1 ≤ k) (h3 : k ≤ 3) : (eP l k).2 < 2 ^ 16 := by
 have m := fun k => D4 (ct l k) hl
 have hs := D4 (mH l) (D4 (E5 aR l) hl);have key : ∀ j a b, aq l 1 ≠ 0 → b ≠ 0 → b ≤ 180 → (cY (j, 1) (bX j (aq l 1) (aq l 2) a b)).2 < 2 ^ 16 := fun j a b e1 e2 e3 => by
  have hd : (cY (j, 1) (bX j (aq l 1) (aq l 2) a b)).2 ∣ (aq l 1 + 2 * aq l 2) * b :=
   FJ fM (by show 1 * _ ∣ _; rw [EK]; exact zS _ _ _ _ _)
  have h4 := Nat.le_of_dvd (Nat.mul_pos (by omega) (by omega)) hd;have h5 : (aq l 1 + 2 * aq l 2) * b ≤ 360 * 180 := Fa (by omega) e3;omega
 have hk : k = 1 ∨ k = 2 ∨ k = 3 := by omega
 unfold eP;rcases hk with rfl | rfl | rfl
 all_goals
  simp only [cH];split
  ·exact key _ _ _ (by omega) (by omega) (m _)
  ·decide
theorem C5 {s : ByteArray} (hs : s.size ≤ 60) {m : Nat} (h4 : m ≤ 4) : Few (ao (ofL s m)) (aH s).length 48 15 6 := by
 refine ⟨fun l hl => ?_, fun l hl => ?_, ?_⟩
 ·obtain ⟨a1, _⟩ := oE hs l hl;have d := fun k h1 h3 => zT a1 k h1 h3
  unfold dD;exact kK (k := 32) (m := 16) (kK (k := 16) (m := 16) (d 1 (by omega) (by omega)) (d 2 (by omega) (by omega))) (d 3 (by omega) (by omega))
 ·obtain ⟨a1, a2⟩ := oE hs l hl;have := vj a2;omega
 ·have := wB s;omega
theorem DX {s : ByteArray} (hs : s.size ≤ 60) {m : Nat} (h1 : 1 ≤ m) (h4 : m ≤ 4) (h : List Int) : QF (ao (ofL s m)) (aH s).length (fW (ao (ofL s m)) h) < 2 ^ 258 := by
 have key : ∀ K : Nat, K = 258 → QF (ao (ofL s m)) (aH s).length (fW (ao (ofL s m)) h) < 2 ^ K := by
  intro K hK
  have h2 := B0 (C5 hs h4) (fW (ao (ofL s m)) h);have h3 := qz (qS (s := s) (by omega) h1 h4) h;rw [bm, ce] at h3;refine Ea h2 (Ep (by omega) ?_);have : (48 + 15) * ((fW (ao (ofL s m)) h).length + 1) ≤ 63 * 4 := EV _ (by omega);omega
 exact key 258 rfl
theorem B1 {s : ByteArray} (hs : s.size ≤ 60) {m : Nat} (h1 : 1 ≤ m) (h4 : m ≤ 4) : SB (ao (ofL s m)) (aH s).length 258 :=
 ⟨qS (by omega) h1 h4, BB (by omega) h4, DX hs h1 h4, by omega⟩
theorem DE {s : ByteArray} (hs : s.size ≤ 60) {m : Nat} (h1 : 1 ≤ m) (h4 : m ≤ 4) : 2 < (aH s).length := by
 have := (qS (s := s) (by omega) h1 h4).w3;omega
theorem DF {f : FuncId} {O : Objs} {args res : List A1} {Lc : List (List Cnt)} {o : Ob} {i j : Nat} (hij : Nat.beq i j = false) (h : CtO P f O args [(i, some o), (j, some (.mp false [] []))] res) : CtO P f O args [(i, some o), (j, some (.me false (MOk Lc)))] res :=
 h.less fun K ok w k o2 g => by
  simp only [Objs.get] at g ⊢
  cases h1 : Nat.beq i k with
  | true => rw [h1] at g; exact ⟨_, rfl, fun h => by cases g; exact h⟩
  | false =>
   rw [h1] at g
   cases h2 : Nat.beq j k with
   | true => rw [h2] at g; cases g; exact ⟨_, rfl, fun h => ⟨[], [], MOk.nil, h⟩⟩
   | false => rw [h2] at g; cases g
theorem BC (s : ByteArray) (hs : s.size ≤ 60) (o m : Nat) (ho : o < 256) (hm : m = 1 + o % 4) :
  CtO P 12 [] [.c (sS s), .c (nI .u8 o)] [(200, some (xC (ao (ofL s m)) (aH s).length 201)), (201, some (.me false (MOk (ao (ofL s m)))))] [.c (.ad 200 0), mM (ofL s m) (aH s).length, .c (.sc (.bool true))] :=
 DF rfl (Bz s (by omega) o m ho hm)
theorem zU : SB [[]] 3 258 := by
 have h := B1 (s := ⟨#[]⟩) (m := 1) (by decide) (by decide) (by decide);rw [show ao (ofL ⟨#[]⟩ 1) = [[]] by decide, show (aH ⟨#[]⟩).length = 3 by decide] at h;exact h
theorem C6 : CCSum [[]] := by
 refine ⟨⟨by decide, fun l hl => ?_⟩, fun l hl => ?_⟩
 ·simp at hl; subst hl; exact ⟨by simp, fun x hx => by simp at hx⟩
 ·have : l = [] := by simpa [ao] using hl
  subst this; decide
theorem DG : CtO P 36 [] [.c (.sl 1 [[.sc (.slice none 0 0)]]), .c (eI .i64 3)] [(36, some (xC [[]] 3 34)), (34, some (.me false (MOk [[]])))] [.c (.ad 36 0), .c (eI .i64 0)] :=
 DF rfl ((zi [[]] 3 C6 (by decide)).args fun K ok w vs h => h.set (i := 0) rfl CK)
theorem zV {Lc : List (List Cnt)} {n B : Nat} (hB : SB Lc n B) (h2 : 2 < n) {ids : List Int} (he : gu Lc n ids = 0) (M : Nat) : decV Lc n (encB Lc n ids) M = if ids.length ≤ M then some ids else none := by
 obtain ⟨_, c1, c2, c3, c4⟩ := qQ he;obtain ⟨b1, b2, _⟩ := kO hB h2 c1;obtain ⟨g1, _⟩ := mR b1 b2 c4;have := zH hB.x hB.e (ids := ids) ⟨c1, fun w hw e => ?_⟩ h2 g1.good (M + 1)
 ·unfold decV encB dq;unfold dq at this;rw [this];by_cases h : ids.length ≤ M
  ·rw [if_pos h, if_pos (by omega)]
  ·rw [if_neg h, if_neg (by omega)]
 ·subst e;have := mS hw;omega
theorem BD : gu [[]] 3 [] = 0 := by decide
theorem zW : encB [[]] 3 [] = [true] := by
 have hs : dq [[]] 3 [] = ((1, 2), (1, 2)) := by decide
 have hk : kOf (dq [[]] 3 []) = 1 := by
  rw [hs];refine zO ⟨by decide, fun j hj => ?_⟩;have : j = 0 := by omega
  subst this;decide
 unfold encB;rw [hk, hs];decide
abbrev σ45 : List (Nat × Nat) := [(50, 1000000), (51, 1000001)]
abbrev ν45 : List (Nat × Nat) := [(1000000, 50), (1000001, 51)]
theorem ey : Ct P 11 [] [.c (.sc (.bool true))] := by
 have henc : CtO P 13 (xE [[]] 3) [.c (.ad 1000000 0), .c (.sc (.slice none 0 0))] (xE [[]] 3) [encR [[]] 3 [], .c (eI .i64 (gu [[]] 3 []))] :=
  (iY zU (by decide) [] (by decide)).args fun K ok w vs h => h.set (i := 1) rfl Bf
 rw [show encR [[]] 3 [] = .c (bP (encB [[]] 3 [])) from if_pos BD, BD, zW] at henc;obtain ⟨r, e, hR, hdec⟩ := wA zU (by decide) [true] (by decide) 5 5 (by decide) (by decide) (by decide) (by decide);have hv := zV zU (by decide) BD 5;rw [zW, if_pos (by decide)] at hv;have hre : r = .c (iSl []) ∧ e = 0 := by
  unfold zQ at hR;rw [hv] at hR;rcases hR with ⟨_, a, b⟩ | ⟨h, _⟩
  ·exact ⟨a, b⟩
  ·exact absurd ⟨BD, zW⟩ h
 obtain ⟨rfl, rfl⟩ := hre;refine Ct.go (Ty.own_ok [36, 1000001, 1000003] aj) aa (N := 47) Tryz.func11 rfl rfl rfl rfl ?_;refine X2 (.own [] [(36, 50), (34, 51)]) ?_;refine ⟨_, _, DG, ?_⟩;refine X2 (.own σ45 ν45) ?_;refine ⟨_, _, henc, ?_⟩;refine X2 (.own σ45 ν45) ?_;refine ⟨_, _, hdec, ?_⟩;refine X1 _ (dj [true] (by decide)) ?_;refine X1 _ (qO [true] 0 (by decide) (by decide)) ?_;refine .intro (by decide) ?_;exact ⟨trivial, r1 rfl, trivial⟩
theorem un (s : ByteArray) (l : List Int) (m : Int) (hs : s.size ≤ 140737488355328) (hl : l.length ≤ 140737488355328) : Ct P 9 [.c (sS s), .c (iSl l), .c (eI .i64 m)] [.c (.sc (.bool (decide (s.size ≤ 60 ∧ (l.length : Int) ≤ m))))] := by
 refine Ct.go aj aa (N := 16) Tryz.func9 rfl rfl rfl rfl ?_;refine ae (fun h1 => ?_) (fun h1 => ?_)
 ·refine .intro (by rw [ah]; omega) ?_;rw [ah];have e : decide (s.size ≤ 60 ∧ (l.length : Int) ≤ m) = decide ((l.length : Int) ≤ m) := decide_eq_decide.2 ⟨fun h => h.2, fun h => ⟨by omega, h⟩⟩;rw [e];exact ⟨trivial, r1 rfl, trivial⟩
 ·have e : decide (s.size ≤ 60 ∧ (l.length : Int) ≤ m) = false := decide_eq_false fun h => h1 (by omega)
  rw [e];exact ⟨trivial, r1 rfl, trivial⟩
theorem iw {Lc : List (List Cnt)} {n B : Nat} (hB : SB Lc n B) (h2 : 2 < n) (ids : List Int) (hl : ids.length ≤ 24) (he : gu Lc n ids = 0) : CtO P 13 (xE Lc n) [.c (.ad 1000000 0), .c (iSl ids)] (xE Lc n) [.c (bP (encB Lc n ids)), .c (eI .i64 0)] := by
 have h := iY hB h2 ids hl;rw [he, show encR Lc n ids = .c (bP (encB Lc n ids)) from if_pos he] at h;exact h
theorem jB {Lc : List (List Cnt)} {n B : Nat} (hB : SB Lc n B) (h2 : 2 < n) (ids : List Int) (hl : ids.length ≤ 24) (he : gu Lc n ids ≠ 0) : CtO P 13 (xE Lc n) [.c (.ad 1000000 0), .c (iSl ids)] (xE Lc n) [oA, .c (eI .i64 (gu Lc n ids))] := by
 have h := iY hB h2 ids hl;rw [show encR Lc n ids = oA from if_neg he] at h;exact h
def mg (l m : List Bool) (i : Nat) : Bool := (List.range i).any fun k => l.getD k false != m.getD k false
theorem uo (l m : List Bool) (i : Nat) : mg l m (i + 1) = (mg l m i || (l.getD i false != m.getD i false)) := by
 simp [mg, GR, List.any_append]
theorem uq {l m : List Bool} {i : Nat} (hl : i ≤ l.length) (hm : i ≤ m.length) (h : mg l m i = false) : l.take i = m.take i := by
 refine Gi fun k => ?_
 by_cases hk : k < i
 ·rw [List.getElem?_take_of_lt hk, List.getElem?_take_of_lt hk];unfold mg at h;rw [List.any_eq_false] at h;have := h k (List.mem_range.2 hk);have e : l.getD k false = m.getD k false := by simpa using this
  rw [DZ, DZ, Ee (by omega), Ee (by omega)] at e;rw [Ee (by omega), Ee (by omega)];exact congrArg some e
 ·rw [Ej (by rw [Ec]; omega), Ej (by rw [Ec]; omega)]
theorem iZ {Lc : List (List Cnt)} {n : Nat} {ids : List Int} (he : gu Lc n ids = 0) : PlainW n ids := by
 obtain ⟨_, c1, c2, c3, _⟩ := qQ he;exact ⟨c1, fun w hw e => by subst e; have := mS hw; omega⟩
theorem kP {Lc : List (List Cnt)} {n B : Nat} (hB : SB Lc n B) (h2 : 2 < n) {ids : List Int} (he : gu Lc n ids = 0) : good (dq Lc n ids) (kOf (dq Lc n ids)) = true ∧ kOf (dq Lc n ids) ≤ 1 + B * (ids.length + 1) + 1 := by
 obtain ⟨_, c1, _, _, c4⟩ := qQ he;obtain ⟨b1, b2, _⟩ := kO hB h2 c1;obtain ⟨g1, g2⟩ := mR b1 b2 c4;exact ⟨g1.good, g2⟩
theorem DH {k : Nat} (h : k ≤ 8) : 1 + 258 * (k + 1) + 1 ≤ 5000 := by omega
theorem ur {Lc : List (List Cnt)} {n B : Nat} (hB : SB Lc n B) (h2 : 2 < n) {a b : List Int} (ha : gu Lc n a = 0) (hb : gu Lc n b = 0) (hab : a ≠ b) : mg (encB Lc n a) (encB Lc n b) (min (encB Lc n a).length (encB Lc n b).length) = true := by
 cases hd : mg (encB Lc n a) (encB Lc n b) (min (encB Lc n a).length (encB Lc n b).length) with
 | true => rfl
 | false =>
  exfalso;have ht := uq (Nat.min_le_left _ _) (Nat.min_le_right _ _) hd;have ga := (kP hB h2 ha).1;have gb := (kP hB h2 hb).1;rw [fB, fB] at ht;by_cases hle : kOf (dq Lc n a) ≤ kOf (dq Lc n b)
  ·rw [Fq hle, Ez (by rw [fB]; exact D1 _)] at ht;exact hab (sQ hB.x hB.e (iZ ha) (iZ hb) h2 ga gb hle ht.symm)
  ·rw [Nat.min_eq_right (by omega), Ez (l := encB Lc n b) (by rw [fB]; exact D1 _)] at ht;exact hab (sQ hB.x hB.e (iZ hb) (iZ ha) h2 gb ga (by omega) ht).symm
abbrev σX : List (Nat × Nat) := [(200, 1000000), (201, 1000001)]
abbrev νX : List (Nat × Nat) := [(1000000, 200), (1000001, 201)]
set_option maxHeartbeats 4000000 in
theorem capart_ct (s : ByteArray) (a b : List Int) (hs : s.size ≤ 140737488355328) (ha : a.length ≤ 140737488355328) (hb : b.length ≤ 140737488355328) :
  Ct P 3 [.c (sS s), .c (iSl a), .c (iSl b)] [.c (.sc (.bool true))] := by
 refine Ct.go (Ty.own_ok [12] aj) aa (N := 100) Tryz.func3 rfl rfl rfl rfl ?_;refine X1 _ (un s a 8 hs ha) ?_;refine aI (fun h1 => ?_) (fun h1 => ?_)
 ·refine X1 _ ey ?_;exact ⟨trivial, r1 rfl, trivial⟩
 ·have h1' : s.size ≤ 60 ∧ (a.length : Int) ≤ 8 := by simpa using h1
  obtain ⟨s60, a8⟩ := h1';refine .intro (by rw [ah]; omega) ?_;rw [ah];refine ae (fun h2 => ?_) (fun h2 => ?_)
  ·refine X1 _ ey ?_;exact ⟨trivial, r1 rfl, trivial⟩
  have b8 : b.length ≤ 8 := by omega
  refine X1 _ (p7 a b (by omega) (by omega)) ?_;refine ae (fun h3 => ?_) (fun h3 => ?_)
  ·refine X1 _ ey ?_;exact ⟨trivial, r1 rfl, trivial⟩
  refine .intro (by rw [ah]; omega) ?_;rw [ah];refine X1 ((a.length : Nat) : Int) ?_ ?_
  ·exact wr ⟨by show (0 : Int) ≤ _; omega, by show _ ≤ (255 : Int); omega⟩
  have hB := B1 s60 (m := 1 + a.length % 4) (by omega) (by omega);have h2' := DE s60 (m := 1 + a.length % 4) (by omega) (by omega);have hof := BC s s60 a.length (1 + a.length % 4) (by omega) rfl;generalize (aH s).length = n at *
  refine X2 (.own [] [(200, 200), (201, 201)]) ?_;refine ⟨_, _, hof, ?_⟩;generalize hL : ao (ofL s (1 + a.length % 4)) = Lc at *
  by_cases he : gu Lc n a = 0
  ·refine X2 (.own σX νX) ?_;refine ⟨_, _, iw hB h2' a (by omega) he, ?_⟩;by_cases hf : gu Lc n b = 0
   ·refine X2 (.own σX νX) ?_;refine ⟨_, _, iw hB h2' b (by omega) hf, ?_⟩;have hdd := ur hB h2' he hf h3;have qa := DH (k := a.length) (by omega);have qb := DH b8;have la' : (encB Lc n a).length ≤ 5000 := by rw [fB]; exact D4 (kP hB h2' he).2 qa
    have lb' : (encB Lc n b).length ≤ 5000 := by rw [fB]; exact D4 (kP hB h2' hf).2 qb
    generalize encB Lc n a = x at *
    generalize encB Lc n b = y at *
    have la : x.length ≤ 100000000 := D4 la' (Eg rfl);have lb : y.length ≤ 100000000 := D4 lb' (Eg rfl);refine X1 _ (dj x la) ?_;refine X1 _ (dj y lb) ?_;have hmn : (if ((y.length : Nat) : Int) < ((x.length : Nat) : Int) then ((y.length : Nat) : Int) else ((x.length : Nat) : Int)) = ((min x.length y.length : Nat) : Int) := by
     split <;> omega
    refine ar (Ty.own_ok [12] aj) aa (fun i : Nat => i ≤ min x.length y.length) (fun i => [(10, .c (bP x)), (12, .c (bP y)), (14, .c (nI .i64 (min x.length y.length))), (15, .c (.sc (.bool (mg x y i)))), (16, .c (nI .i64 i))])
     (fun _ => []) (fun i => min x.length y.length - i)
     0 (by omega) ⟨rfl, rfl, iE hmn, rfl, rfl, trivial⟩ trivial (fun _ : Unit => True) (fun _ => [(15, .c (.sc (.bool true)))]) (fun _ => []) (fun i hi => ?_) (fun _ _ => ?_)
    ·refine ae (fun h5 => ?_) (fun h5 => ?_)
     ·have hd := uo x y i;refine aI (fun h6 => ?_) (fun h6 => ?_)
      ·rw [h6, G0] at hd;refine X1 ((i + 1 : Nat) : Int) (wI1 (by omega)) ?_;exact ⟨i + 1, by omega, by omega, ⟨rfl, rfl, rfl, by rw [hd]; rfl, rfl, trivial⟩, trivial⟩
      ·rw [h6, Bool.false_or] at hd;refine X1 _ (qO x i la (by omega)) ?_;refine X1 _ (qO y i lb (by omega)) ?_;refine X1 ((i + 1 : Nat) : Int) (wI1 (by omega)) ?_;exact ⟨i + 1, by omega, by omega, ⟨rfl, rfl, rfl, by rw [hd]; rfl, rfl, trivial⟩, trivial⟩
     ·have e : i = min x.length y.length := by omega
      subst e;exact ⟨(), trivial, ⟨by rw [hdd]; rfl, trivial⟩, trivial⟩
    ·refine X1 _ ey ?_;exact ⟨trivial, r1 rfl, trivial⟩
   ·refine X2 (.own σX νX) ?_;refine ⟨_, _, jB hB h2' b (by omega) hf, ?_⟩;refine dy (fun _ => ?_) (fun h => absurd h hf);refine aI (fun _ => ?_) (fun h => ?_);rotate_left
    ·exfalso; revert h; simp [hf]
    refine X1 _ ey ?_;exact ⟨trivial, r1 rfl, trivial⟩
  ·refine X2 (.own σX νX) ?_;refine ⟨_, _, jB hB h2' a (by omega) he, ?_⟩;by_cases hf : gu Lc n b = 0
   ·refine X2 (.own σX νX) ?_;refine ⟨_, _, iw hB h2' b (by omega) hf, ?_⟩;refine dy (fun _ => ?_) (fun h => absurd h he);refine aI (fun _ => ?_) (fun h => ?_);rotate_left
    ·exfalso; revert h; simp [he]
    refine X1 _ ey ?_;exact ⟨trivial, r1 rfl, trivial⟩
   ·refine X2 (.own σX νX) ?_;refine ⟨_, _, jB hB h2' b (by omega) hf, ?_⟩;refine dy (fun _ => ?_) (fun h => absurd h he);refine aI (fun _ => ?_) (fun h => ?_);rotate_left
    ·exfalso; revert h; simp [he]
    refine aI (fun _ => ?_) (fun h => ?_);rotate_left
    ·exfalso; revert h; simp [hf]
    refine X1 _ ey ?_;exact ⟨trivial, r1 rfl, trivial⟩
end Go.Proofs.YtgceikecdedfcaaGreat.Pv
namespace Go.Proofs.YtgceikecdedfcaaGreat.coderApart
open Go Go.ChangeShapes Go.WideShapes Go.ChangeAt Go.RowKit
open Go.Proofs.YtgceikecdedfcaaGreat.Pv (okW WWLim Cnt)
theorem own : ownKnob Tryz.prog.godebug = none := by kernel_rfl
theorem laidOut : laidOutB Tryz.prog = true := by kernel_rfl
theorem walk (s : ByteArray) (o : List Int) (h : List Int) (hs : s.size ≤ 140737488355328) (ho : o.length ≤ 140737488355328) (hh : h.length ≤ 140737488355328) (W : World) (v0 v1 v2 : Value)
  (h0 : Pv.Rel (okW W) W (Pv.sS s) v0) (h1 : Pv.Rel (okW W) W (Pv.iSl o) v1) (h2 : Pv.Rel (okW W) W (Pv.iSl h) v2) :
  Calls Tryz.prog 3 #[v0, v1, v2] W fun e W' => e = .returned (.bool true) ∧ Below W.heap.size W W' := by
 have hct := Pv.capart_ct s o h hs ho hh;have hrun := hct.run (Pv.Km.bare ⟨fun _ => none, fun _ => False⟩) (okW W) W [v0, v1, v2] (Pv.Hp.nil fun _ hb => hb) (.cons (.c (.cl h0)) (.cons (.c (.cl h1)) (.cons (.c (.cl h2)) .nil)));rcases hrun with ⟨_, hc⟩ | ⟨v, w', hv, _⟩
 ·refine hc.mono fun e w' hq => ?_
  obtain ⟨v, K', ok', rfl, hr, hp, hf⟩ := hq;have e1 : v = .bool true := by
   have hr' : Pv.RelV K' ok' w' (.o (.c (.sc (.bool true)))) v := hr
   cases hr' with
   | o hr' =>
    cases hr' with
    | c hr' =>
     cases hr' with
     | cl hr' =>
      cases hr' with
      | sc _ => rfl
  subst e1;exact ⟨rfl, hf.os, hf.tape, hf.output, hf.size, fun b hb => hf.keep b hb (fun k o L hk => by simp [Pv.Objs.get] at hk) (fun hid => hid)⟩
 ·exfalso;have := Pv.exec_call (P := Tryz.prog) (f := 3) (by kernel_rfl) #[v0, v1, v2] W;have hv' : (callFunc 3 #[v0, v1, v2]).run Tryz.prog W = .ok (.value v) w' := hv;rw [this] at hv';cases hv'
set_option maxRecDepth 100000 in
theorem contract (H : Type) (enc : TypeId × Value → H) (W : World) (base : Nat) (args : Array Value) (ds gs : List (DataW H)) (before : List MemPlace)
  (hval : ∀ (j : Nat) t v, Tryz.f3.params[j]? = some t → args[j]? = some v → Value.okWide Tryz.prog W .any base t v)
  (hW : DataW.Whole enc Tryz.prog Tryz.f3.params.toList Rows.coderApartSpec.vars false W args.toList ds gs before) (hk : Rows.uptoSmall H (ds ++ gs) = true) :
  Calls Tryz.prog 3 args W fun e W' => ∃ v, e = .returned v ∧ Rows.coderApartSpec.post enc Tryz.prog Tryz.f3 false true false false W args v W' := by
 have hW' := hW;obtain ⟨p, q, hA0, hV, rfl, hfz, hnd⟩ := hW;have hA : DataW.TrodAll enc Tryz.prog W 0 (fun _ => true) true Tryz.f3.params.toList args.toList ds p := hA0;rw [Tryz.params3] at hA hval;obtain ⟨v0, vs0, d0, ds0, p0, q0, hargs, rfl, rfl, h0, r0⟩ := trodAll_cons hA;obtain ⟨v1, vs1, d1, ds1, p1, q1, hargs1, rfl, rfl, h1, r1⟩ := trodAll_cons r0;obtain ⟨v2, vs2, d2, ds2, p2, q2, hargs2, rfl, rfl, h2, r2⟩ := trodAll_cons r1;obtain ⟨rfl, rfl, rfl⟩ := trodAll_nil r2;obtain rfl : args = #[v0, v1, v2] := by cases args; simp_all
 obtain ⟨rfl, rfl⟩ := trodVars_none hV;clear hA0;have hb : Rows.uptoBulkAll [d0, d1, d2] ≤ 1048576 := by
  have h := of_decide_eq_true hk;simpa using h
 simp only [Rows.uptoBulkAll] at hb;obtain ⟨s, rfl, rfl, rfl, _⟩ := ChangeMaps.open_string Tryz.underlying9 (hval 0 9 v0 rfl rfl) h0;obtain ⟨a2, l2, c2, rfl⟩ := okWide_slice Tryz.underlying22 (hval 2 22 v2 rfl rfl);obtain ⟨a1, l1, c1, rfl⟩ := okWide_slice Tryz.underlying22 (hval 1 22 v1 rfl rfl);obtain ⟨n1, t1⟩ := h1;obtain ⟨n2, t2⟩ := h2;obtain ⟨B, hB⟩ : ∃ B, B = 1048576 := ⟨_, rfl⟩;rw [← hB] at hb;have hb0 : s.data.toList.length + 1 ≤ B := by simp only [Rows.uptoBulk] at hb; omega
 have hb1 : Rows.uptoBulk d1 ≤ B := by omega
 have hb2 : Rows.uptoBulk d2 ≤ B := by omega
 have hBB : B ≤ 140737488355328 := by omega
 have hs : s.size ≤ 140737488355328 := by
  have : s.size = s.data.toList.length := rfl;omega
 obtain ⟨u2, h, e2, hh, hr2⟩ := Pv.rd_ints hBB t2 hb2;have e2' : u2 = .slice a2 l2 c2 := by simpa [Value.cells] using e2.symm
 subst e2';obtain ⟨u1, g, e1, hh1, hr1⟩ := Pv.rd_ints hBB t1 hb1;have e1' : u1 = .slice a1 l1 c1 := by simpa [Value.cells] using e1.symm
 subst e1';have g1 := fun (W' : World) (hg : Below W.heap.size W W') => Below.trod laidOut (by kernel_rfl) (of_decide_eq_true (by kernel_rfl)) ⟨n1, t1⟩ hg (DataW.trod_lt _ _ _ _ t1)
 have g2 := fun (W' : World) (hg : Below W.heap.size W W') => Below.trod laidOut (by kernel_rfl) (of_decide_eq_true (by kernel_rfl)) ⟨n2, t2⟩ hg (DataW.trod_lt _ _ _ _ t2)
 refine (walk s g h hs (by omega) (by omega) W _ _ _ (.sc (show s.size ≤ Pv.BIG from hs)) hr1 hr2).mono fun e W' ⟨he, hg⟩ => ?_
 subst he;refine ⟨_, rfl, _, _, _, [], [] ++ (p1 ++ (p2 ++ [])), [], hW', ?_, ?_, ?_, hg.frame _, fun h => by cases h⟩
 ·exact trodAll_cons_mk (shut_bool Tryz.underlying4 _) trodAll_mk0
 ·exact trodAll_cons_mk (ChangeMaps.shut_string Tryz.underlying9 (by assumption)) (trodAll_cons_mk (g1 W' hg) (trodAll_cons_mk (g2 W' hg) trodAll_mk0))
 ·rfl
set_option maxRecDepth 100000 in
theorem lifted (os : Os) (started : os.Started) (H : Type) (enc : TypeId × Value → H) (F : Stop.Interp) :
  ReturnsInHanded {} Tryz.checked os 3 .any ((Rows.OpenSpec.upto Rows.coderApartSpec).pre6 enc Tryz.prog Tryz.f3 Rows.coderApartUptoRow.domain false) (((Rows.OpenSpec.upto Rows.coderApartSpec).at F).post enc Tryz.prog Tryz.f3 false true false false) := by
 refine returnsInHanded_of_cond (C := Tryz.checked) (s := Rows.OpenSpec.upto Rows.coderApartSpec) (k := Rows.uptoSmall) rfl own started (by kernel_rfl) Tryz.func3
  (OpenSpec.witness (enc := enc) (C := Tryz.checked) (s := Rows.OpenSpec.upto Rows.coderApartSpec) (k := Rows.uptoSmall) rfl false ⟨#[], #[.string .empty, .slice none 0 0, .slice none 0 0], []⟩ 8 (by kernel_rfl) (by kernel_rfl) (by kernel_rfl)
   (x := ([.lit (.string []), .nil, .nil], [], [])) (by kernel_rfl) rfl (by kernel_rfl)) ?_
 intro W base args ds gs before hval hW _ hk _;exact contract H enc W base args ds gs before hval hW hk
theorem over : Rows.coderApartUptoRow.holds Tryz.pinned (Rows.OpenSpec.upto Rows.coderApartSpec) :=
 OpenClaim.holds_of_cond 3 Tryz.f3 rfl rfl rfl rfl rfl rfl rfl ⟨rfl, rfl, rfl, rfl, rfl⟩ rfl rfl rfl rfl rfl (by kernel_rfl) Tryz.func3 (by kernel_rfl)
  (of_decide_eq_true (by kernel_rfl)) (by unfold Func.isWrapper; first | (rw [if_pos (by decide +kernel)]; kernel_rfl) | (rw [if_neg (by decide +kernel)]; exact ⟨rfl, rfl⟩))
  (fun os started H enc _ F => lifted os started H enc F)
theorem proved : Rows.CoderApartUptoSaid :=
 over
end Go.Proofs.YtgceikecdedfcaaGreat.coderApart
