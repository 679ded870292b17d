/- Parts of a proof, joined: Hc Hi Hh Hl Hd Hj Hk Hm Hn Ho Fy Fz Ge. -/
import Derived.Test.YtgceikecdedfcaaGreatLdP
namespace Go.Proofs.YtgceikecdedfcaaGreat.Pv
open Go
section
def upF (a : Fr2) : Nat := if a.1 / a.2 * a.2 < a.1 then a.1 / a.2 + 1 else a.1 / a.2
theorem oa {a : Fr2} (h : a.2 ≠ 0) : a.1 ≤ upF a * a.2 ∧ upF a * a.2 < a.1 + a.2 := by
 have h1 := EP a.1 a.2;have h2 := EI a.1 (Ec h);rw [D0] at h1;unfold upF;split
 ·rw [DY, Es]; omega
 ·omega
theorem CC {n d : Nat} (h : d ≠ 0) : upF (fR n d) = upF (n, d) := by
 have hg : Nat.gcd n d ≠ 0 := fun e => h (Fy e)
 obtain ⟨a, ha⟩ := Gh n d;obtain ⟨b, hb⟩ := FG n d;unfold fR;generalize Nat.gcd n d = g at *
 subst ha hb;unfold upF;have hp := Ec hg;simp only;rw [Fa _ hp, Fa _ hp, Nat.mul_div_mul_left _ _ hp];have e : a / b * (g * b) = g * (a / b * b) := by rw [ED]
 rw [e];by_cases hc : a / b * b < a
 ·rw [if_pos hc, if_pos (Nat.mul_lt_mul_of_pos_left hc hp)]
 ·rw [if_neg hc, if_neg (by
   have := EA g (EM hc);omega)]
theorem De {c n d : Nat} (h : d ≠ 0) : c * (fR n d).2 ≤ (fR n d).1 ↔ c * d ≤ n := by
 have hg : Nat.gcd n d ≠ 0 := fun e => h (Fy e)
 obtain ⟨a, ha⟩ := Gh n d;obtain ⟨b, hb⟩ := FG n d;unfold fR;generalize Nat.gcd n d = g at *
 subst ha hb;have hp := Ec hg;simp only;rw [Fa _ hp, Fa _ hp, ED];exact ⟨fun h => EA g h, fun h => Nat.le_of_mul_le_mul_left h hp⟩
def jq (p : Fr2 × Fr2) : Fr2 := bE p.1 p.2
def vK (p : Fr2 × Fr2) (k : Nat) : Nat := upF (p.1.1 * 2 ^ k, p.1.2)
def good (p : Fr2 × Fr2) (k : Nat) : Bool := decide ((vK p k + 1) * (jq p).2 ≤ (jq p).1 * 2 ^ k)
structure IsCode (p : Fr2 × Fr2) (k : Nat) : Prop where
 good : good p k = true
 least : ∀ j, j < k → Pv.good p j = false
theorem zm {p : Fr2 × Fr2} : ∀ {K : Nat}, good p K = true → ∃ k, k ≤ K ∧ IsCode p k := by
 intro K
 induction K using Nat.strongRecOn with
 | ind K ih =>
  intro h;by_cases hl : ∃ j, j < K ∧ good p j = true
  ·obtain ⟨j, h1, h2⟩ := hl;obtain ⟨k, a1, a2⟩ := ih j h1 h2;exact ⟨k, by omega, a2⟩
  ·exact ⟨K, DI _, h, fun j hj => by
    cases hb : good p j with
    | false => rfl
    | true => exact absurd ⟨j, hj, hb⟩ hl⟩
theorem IsCode.uniq {p : Fr2 × Fr2} {j k : Nat} (h1 : IsCode p j) (h2 : IsCode p k) : j = k := by
 rcases E8 j k with h | h | h
 ·have := h2.least j h; rw [h1.good] at this; cases this
 ·exact h
 ·have := h1.least k h; rw [h2.good] at this; cases this
theorem ge (k : Nat) : (0 : Rat) < ((2 ^ k : Nat) : Rat) := Fo.2 (Ex k)
theorem A6 {p : Fr2 × Fr2} (h1 : p.1.2 ≠ 0) (h2 : p.2.2 ≠ 0) {k : Nat} (h : 2 ≤ ((2 ^ k : Nat) : Rat) * qv p.2) : good p k = true := by
 have hs := (oa (a := (p.1.1 * 2 ^ k, p.1.2)) h1).2;have he := ic h1 h2;have hep : (jq p).2 ≠ 0 := gc h1 h2;unfold good;rw [decide_eq_true_eq];unfold vK;generalize upF (p.1.1 * 2 ^ k, p.1.2) = v at *
 have b1 : (0 : Rat) < p.1.2 := Fo.2 (Ec h1);have b2 : (0 : Rat) < (jq p).2 := Fo.2 (Ec hep);have c1 := Rat.natCast_lt_natCast.2 hs;simp only [EJ, Fn] at c1;have c2 : (v : Rat) < qv p.1 * ((2 ^ k : Nat) : Rat) + 1 := by
  have e : qv p.1 * ((2 ^ k : Nat) : Rat) + 1 = ((p.1.1 : Rat) * ((2 ^ k : Nat) : Rat) + p.1.2) / p.1.2 := by unfold qv; grind
  rw [e, Rat.lt_div_iff b1];exact c1
 have c3 : ((v : Rat) + 1) ≤ qv (jq p) * ((2 ^ k : Nat) : Rat) := by
  show _ ≤ qv (bE p.1 p.2) * _
  rw [he];grind
 apply Fk.1;simp only [EJ, Fn];have e : qv (jq p) * ((2 ^ k : Nat) : Rat) = ((jq p).1 : Rat) * ((2 ^ k : Nat) : Rat) / (jq p).2 := by unfold qv; grind
 rw [e, gC b2] at c3;exact c3
theorem uS {p : Fr2 × Fr2} (h1 : p.1.2 ≠ 0) (h2 : p.2.2 ≠ 0) {k : Nat} (h : good p k = true) : qv p.1 ≤ (vK p k : Rat) / ((2 ^ k : Nat) : Rat) ∧ ((vK p k : Rat) + 1) / ((2 ^ k : Nat) : Rat) ≤ qv p.1 + qv p.2 := by
 have hs := (oa (a := (p.1.1 * 2 ^ k, p.1.2)) h1).1;have hep : (jq p).2 ≠ 0 := gc h1 h2;have b1 : (0 : Rat) < p.1.2 := Fo.2 (Ec h1);have b2 : (0 : Rat) < (jq p).2 := Fo.2 (Ec hep);have b3 := ge k;unfold good at h;rw [decide_eq_true_eq] at h;have c1 := Fk.2 hs;have c2 := Fk.2 h;simp only [EJ, Fn] at c1 c2;constructor
 ·rw [gC b3];have e : qv p.1 * ((2 ^ k : Nat) : Rat) = (p.1.1 : Rat) * ((2 ^ k : Nat) : Rat) / p.1.2 := by unfold qv; grind
  rw [e, kB b1];exact c1
 ·rw [← ic h1 h2, kB b3];show _ ≤ qv (jq p) * _
  have e : qv (jq p) * ((2 ^ k : Nat) : Rat) = ((jq p).1 : Rat) * ((2 ^ k : Nat) : Rat) / (jq p).2 := by unfold qv; grind
  rw [e, gC b2];exact c2
def db : Nat → Nat → List Bool
 | _, 0 => []
 | v, k + 1 => db (v / 2) k ++ [decide (v % 2 = 1)]
def valB (l : List Bool) : Nat := l.foldl (fun v b => 2 * v + b.toNat) 0
theorem pk (l : List Bool) (b : Bool) : valB (l ++ [b]) = 2 * valB l + b.toNat := by simp [valB, FY]
theorem iK : ∀ (k v : Nat), (db v k).length = k
 | 0, _ => rfl
 | k + 1, v => by simp [db, iK k]
theorem pm : ∀ (k v : Nat), v < 2 ^ k → valB (db v k) = v
 | 0, v, h => by
  have : v = 0 := by simpa using h
  subst this; rfl
 | k + 1, v, h => by
  rw [Er] at h;rw [db, pk, pm k (v / 2) (by omega)];by_cases hv : v % 2 = 1
  ·rw [decide_eq_true hv]; show 2 * (v / 2) + 1 = v; omega
  ·rw [decide_eq_false hv]; show 2 * (v / 2) + 0 = v; omega
theorem mD (l : List Bool) : valB l < 2 ^ l.length := by
 have key : ∀ (l : List Bool) (a m : Nat), a < 2 ^ m → l.foldl (fun v b => 2 * v + b.toNat) a < 2 ^ (m + l.length) := by
  intro l
  induction l with
  | nil => intro a m h; exact h
  | cons b l ih =>
   intro a m h;rw [List.foldl_cons, Eh, show m + (l.length + 1) = (m + 1) + l.length by omega];refine ih _ (m + 1) ?_;rw [Er];cases b <;> simp only [Bool.toNat_true, Bool.toNat_false] <;> omega
 have := key l 0 0 (by decide);rwa [Ey] at this
section
variable {Lc : List (List Cnt)} {n : Nat}
def bz (Lc : List (List Cnt)) (n : Int) (ids : List Int) : Fr2 × Fr2 := eO Lc n ((0, 1), (1, 1)) [1] ids
theorem iL (hx : XOk Lc n) (ids : List Int) : (bz Lc n ids).1.2 ≠ 0 ∧ (bz Lc n ids).2.2 ≠ 0 ∧ qv (bz Lc n ids).1 = spA Lc n [1] ids ∧ qv (bz Lc n ids).2 = spB Lc n [1] ids := by
 obtain ⟨a1, a2, a3, a4⟩ := sw hx ids [1] ((0, 1), (1, 1)) (by show (1 : Nat) ≠ 0; decide) (by show (1 : Nat) ≠ 0; decide);have e0 : qv (0, 1) = 0 := by rw [ek]; rfl
 have e1 : qv (1, 1) = 1 := by rw [ek]; rfl
 refine ⟨a1, a2, ?_, ?_⟩
 ·show qv (eO Lc n ((0, 1), (1, 1)) [1] ids).1 = _
  rw [a3, e0, e1]; grind
 ·show qv (eO Lc n ((0, 1), (1, 1)) [1] ids).2 = _
  rw [a4, e1]; grind
structure PlainW (n : Int) (ids : List Int) : Prop where
 rg : InW n ids
 no2 : ∀ w, w ∈ ids → w ≠ 2
theorem CD (hx : XOk Lc n) (he : ∀ l, l ∈ Lc → eE n l) {ids : List Int} (hp : PlainW n ids) (h2 : 2 < n) {u : Fr2} (hu : u.2 ≠ 0) (h3 : qv (bz Lc n (ids ++ [2])).1 ≤ qv u) (h4 : qv u < qv (bz Lc n (ids ++ [2])).1 + qv (bz Lc n (ids ++ [2])).2) (f : Nat) :
  ma Lc n f [1] u = if ids.length < f then some ids else none := by
 obtain ⟨_, _, a3, a4⟩ := iL hx (ids ++ [2]);rw [a3] at h3;rw [a3, a4] at h4;rw [sx hx he ids [1] u f hu hp.rg h2 hp.no2 h3 h4];rfl
def ox (l : List Bool) : Fr2 := fR (valB l) (2 ^ l.length)
theorem oc (l : List Bool) : (ox l).2 ≠ 0 ∧ qv (ox l) = (valB l : Rat) / ((2 ^ l.length : Nat) : Rat) := by
 have h : 2 ^ l.length ≠ 0 := Nat.pos_iff_ne_zero.1 (Ex _);exact ⟨gZ h, o9 h⟩
theorem Df (hx : XOk Lc n) (he : ∀ l, l ∈ Lc → eE n l) {r : List Int} (hr : InW n r) {k : Nat} (hg : good (bz Lc n r) k = true) : vK (bz Lc n r) k < 2 ^ k := by
 obtain ⟨a1, a2, a3, a4⟩ := iL hx r;have h1 := (uS a1 a2 hg).2;obtain ⟨_, _, i3⟩ := uR hx he r [1] hr;rw [a3, a4, kB (ge k)] at h1;have h5 : ((vK (bz Lc n r) k + 1 : Nat) : Rat) ≤ ((2 ^ k : Nat) : Rat) := by
  rw [Fn, show ((1 : Nat) : Rat) = 1 from rfl];have := Rat.mul_le_mul_of_nonneg_right i3 (Rat.le_of_lt (ge k));grind
 have := Fk.1 h5;omega
theorem CE (hx : XOk Lc n) (he : ∀ l, l ∈ Lc → eE n l) {r : List Int} (hr : InW n r) {k : Nat} (hg : good (bz Lc n r) k = true) :
  qv (bz Lc n r).1 ≤ qv (ox (db (vK (bz Lc n r) k) k)) ∧ qv (ox (db (vK (bz Lc n r) k) k)) < qv (bz Lc n r).1 + qv (bz Lc n r).2 := by
 obtain ⟨a1, a2, _, _⟩ := iL hx r;obtain ⟨h1, h2⟩ := uS a1 a2 hg;rw [(oc _).2, pm k _ (Df hx he hr hg), iK];refine ⟨h1, ?_⟩;have h3 : (vK (bz Lc n r) k : Rat) / ((2 ^ k : Nat) : Rat) < ((vK (bz Lc n r) k : Rat) + 1) / ((2 ^ k : Nat) : Rat) := by
  rw [Gr (ge k), Rat.div_mul_cancel (fun e => by have := ge k; rw [e] at this; exact absurd this (by decide))];grind
 grind
theorem DD {ids : List Int} (h2 : 2 < n) (hp : PlainW n ids) : InW n (ids ++ [2]) := fun x hx => by
 rcases Ej.1 hx with hx | hx
 ·exact hp.rg x hx
 ·simp at hx; subst hx; omega
theorem zn (hx : XOk Lc n) (he : ∀ l, l ∈ Lc → eE n l) {ids : List Int} (hp : PlainW n ids) (h2 : 2 < n) {k : Nat} (hg : good (bz Lc n (ids ++ [2])) k = true) (f : Nat) :
  ma Lc n f [1] (ox (db (vK (bz Lc n (ids ++ [2])) k) k)) = if ids.length < f then some ids else none := by
 obtain ⟨h3, h4⟩ := CE hx he (DD h2 hp) hg;exact CD hx he hp h2 (oc _).1 h3 h4 f
end
end
section
abbrev pA (p : Fr2 × Fr2) : A1 := .ag [nSl .u64 (dg 18446744073709551616 p.1.1), nSl .u64 (dg 18446744073709551616 p.1.2), nSl .u64 (dg 18446744073709551616 p.2.1), nSl .u64 (dg 18446744073709551616 p.2.2)]
theorem gf {v k : Nat} (h : v < 2 ^ k) (hk : k ≤ 2000000) : (dg 18446744073709551616 v).length ≤ 40000 := by
 by_cases h0 : k = 0
 ·subst h0;have : v = 0 := by simpa using h
  subst this;exact DM (ct (k := 1) (by omega) (by omega)) (by omega)
 ·exact (ck (p := (v, 1)) (aF h (by omega)) hk).1
theorem kC {n d k : Nat} (hd : d ≠ 0) (hn : n < 2 ^ k) (hd2 : d < 2 ^ k) (hk : k ≤ 2000000) : Ct P 99 [nV n, nV d] [qP (fR n d), .c (eI .i64 0)] := by
 have l1 := gf hn hk;have l2 := gf hd2 hk;refine Ct.go aj aa (N := 12) Tryz.func99 rfl rfl rfl rfl ?_;refine X1 _ (ff d (by omega)) ?_;refine aM (fun h => ?_) (fun _ => ?_)
 ·exact absurd (by simpa using h) hd
 refine X1 _ (gY n d hd (by omega) (by omega)) ?_;exact ⟨trivial, rc rfl, r1 rfl, trivial⟩
theorem zo {a : Fr2} {k : Nat} (h : Bd k a) (hk : k ≤ 2000000) : Ct P 143 [qP a] [nV (a.1 / a.2)] := by
 have l1 := gf h.n hk;have l2 := gf h.d hk;refine Ct.go aj aa (N := 16) Tryz.func143 rfl rfl rfl rfl ?_;refine X1 _ (cS _ _) ?_;refine X1 _ (bU _ _ (by omega)) ?_;rw [iX h.pos];refine X1 _ (mo _ _ h.pos (by omega) (by omega)) ?_;refine .intro rfl ?_;exact ⟨trivial, rc rfl, trivial⟩
theorem kD {n k j : Nat} (h : n < 2 ^ k) : n * 2 ^ j < 2 ^ (k + j) := by rw [EF]; exact E7 h (Ex j)
theorem sy {a : Fr2} {k j : Nat} (h : Bd k a) : Bd (k + j) (fR (a.1 * 2 ^ j) a.2) := oV h.pos (kD h.n) (DS h.d (D3 (by omega) (by omega)))
theorem sA {a : Fr2} {k j : Nat} (h : Bd k a) (hk : k + j ≤ 900000) : Ct P 98 [qP a, .c (nI .i64 j)] [qP (fR (a.1 * 2 ^ j) a.2)] := by
 have l1 := gf h.n (by omega);have l2 := gf h.d (by omega);refine Ct.go aj aa (N := 18) Tryz.func98 rfl rfl rfl rfl ?_;refine X1 _ (cS _ _) ?_;refine X1 _ (oU a.1 j (by omega) (by omega)) ?_;refine X1 _ (bU _ _ (by omega)) ?_;rw [iX h.pos];refine X1 _ (kC (k := k + j) h.pos (kD h.n) (DS h.d (D3 (by omega) (by omega))) (by omega)) ?_;refine .intro rfl ?_;exact ⟨trivial, rc rfl, trivial⟩
theorem CF {a : Fr2} {k : Nat} (h : Bd k a) : upF a < 2 ^ (k + 1) := by
 have h1 := (oa h.pos).2;have h2 := Ec h.pos;have h3 := h.n;have h4 := h.d;have : upF a ≤ upF a * a.2 := Nat.le_mul_of_pos_right _ h2;rw [Er];omega
theorem CG {a : Fr2} {k : Nat} (h : Bd k a) (hk : k ≤ 900000) : Ct P 97 [qP a] [nV (upF a)] := by
 have l1 := gf h.n (by omega);have l2 := gf h.d (by omega);have hq : a.1 / a.2 ≤ a.1 := EY _ _;have hn : a.1 / a.2 < 2 ^ (k + 1) := by rw [Er]; have := h.n; omega
 have l3 := gf hn (by omega);have h1 : (1 : Nat) < 2 ^ (k + 1) := DS (by decide) (D3 (n := 2) (by omega) (show 1 ≤ k + 1 by omega));have hw : fR (a.1 / a.2) 1 = (a.1 / a.2, 1) := uA (Gs _);have hof := kC (k := k + 1) (n := a.1 / a.2) (d := 1) (by omega) hn h1 (by omega);rw [hw] at hof;have hcmp := mr (a.1 / a.2) 1 a.1 a.2 (ck (aF hn (by omega)) (by omega)) (ck h (by omega));rw [iX h.pos, show dn 1 = 1 from rfl, E6] at hcmp;refine Ct.go aj aa (N := 22) Tryz.func97 rfl rfl rfl rfl ?_;refine X1 _ (zo h (by omega)) ?_;refine X1 _ (fJ 1 (by omega)) ?_;refine X1 _ hof ?_;refine .intro rfl ?_;refine X1 _ hcmp ?_;refine ae (fun hc => ?_) (fun hc => ?_)
 ·refine X1 _ (fJ 1 (by omega)) ?_;refine X1 _ (mm _ _ (by omega) (DM (gf h1 (by omega)) (by omega))) ?_;refine .intro rfl ?_;have e : upF a = a.1 / a.2 + 1 := if_pos (by have := cmpI_lt.1 hc; omega);rw [e];exact ⟨trivial, rc rfl, trivial⟩
 ·have e : upF a = a.1 / a.2 := if_neg (fun h2 => hc (cmpI_lt.2 (by omega)));rw [e];exact ⟨trivial, rc rfl, trivial⟩
theorem uT {p : Fr2 × Fr2} {j k : Nat} (h1 : Bd j p.1) (h2 : Bd k p.2) (hr : Nat.gcd p.1.1 p.1.2 = 1) (hk : j + k < 900000) : Ct P 73 [pA p] [qP (bE p.1 p.2)] := by
 have hadd := kh (p := p.1) (q := p.2) (by rw [aw h1]; exact h1) (by rw [aw h2]; exact h2) (by rw [aw h1]; exact hr) (by omega);rw [aw h1, aw h2] at hadd;refine Ct.go (Ty.own_ok [1000001, 1000003] aj) aa (N := 9) Tryz.func73 rfl rfl rfl rfl ?_;refine X1 _ hadd ?_;exact ⟨trivial, rc rfl, trivial⟩
theorem wa {p q : Fr2 × Fr2} {j k : Nat} (h1 : Bd j p.1) (h2 : Bd j p.2) (h3 : Bd k q.1) (h4 : Bd k q.2) (hr : Nat.gcd p.1.1 p.1.2 = 1) (hk : 2 * j + k < 300000) : Ct P 96 [pA p, pA q] [pA (qt p q)] := by
 have hm1 := eq (p := p.2) (q := q.1) (by rw [aw h2]; exact h2) (by rw [aw h3]; exact h3) (by omega) (by omega);have hm2 := eq (p := p.2) (q := q.2) (by rw [aw h2]; exact h2) (by rw [aw h4]; exact h4) (by omega) (by omega);have hb := bu h2 h3;have hadd := kh (p := p.1) (q := cD p.2 q.1) (by rw [aw h1]; exact h1) (by rw [aw hb]; exact hb) (by rw [aw h1]; exact hr) (by omega);rw [aw h2, aw h3] at hm1;rw [aw h2, aw h4] at hm2;rw [aw h1, aw hb] at hadd;refine Ct.go (Ty.own_ok [1000001] aj) aa (N := 20) Tryz.func96 rfl rfl rfl rfl ?_;refine X1 _ hm1 ?_;refine X1 _ hadd ?_;refine X1 _ hm2 ?_;refine .intro rfl ?_;exact ⟨trivial, rc rfl, trivial⟩
end
section
section
variable {Lc : List (List Cnt)} {words : Int}
theorem sB (H : List Int) : CtO P 71 (xX Lc words (hO H)) [.c (.ad 1000000 0), .c (.ow 1000002 1 H.length)] ((2, some (.var [.ad 1000000 0])) :: (3, some (.var [.ow 1000002 1 H.length])) :: xX Lc words (hO H)) [.c (.fn 114 [.ad 2 0, .ad 3 0])] := by
 refine Ct.keep aj aa [] (N := 6) Tryz.func71 rfl rfl rfl rfl ?_;refine X1 [.ad 2 0, .ad 3 0] rfl ?_;exact ⟨trivial, SubO.of (l := [(2, .var [.ad 1000000 0]), (3, .var [.ow 1000002 1 H.length]), (1000000, xC Lc words 1000001), (1000001, .me false (MOk Lc)), (1000002, .row 1 (aP H))]) ⟨rfl, rfl, rfl, rfl, rfl, trivial⟩, r1 rfl, trivial⟩
def gh (Lc : List (List Cnt)) (n : Nat) (H : List Int) : List (List A1) := (List.range n).map fun w => [.c (nI .i64 w), pA (dL Lc n H w)]
abbrev Dg (Lc : List (List Cnt)) (words : Int) (H : List Int) : Objs := [(1000000, some (xC Lc words 1000001)), (1000001, some (.me false (MOk Lc))), (1000003, some (.var [.ad 1000000 0])), (1000004, some (.var [.ow 1000002 1 H.length])), (1000002, some (.row 1 (aP H)))]
abbrev uU (Lc : List (List Cnt)) (words : Int) (H : List Int) : Prop := ∀ w : Int, CtO P 115 (xX Lc words (hO H)) [.c (.ad 1000000 0), .c (.ow 1000002 1 H.length), .c (eI .i64 w)] (xX Lc words (hO H)) [qP (bh Lc words H w)]
structure SB (Lc : List (List Cnt)) (n : Nat) (B : Nat) : Prop where
 x : XOk Lc n
 e : ∀ l, l ∈ Lc → eE n l
 q : ∀ h, QF Lc n (fO Lc h) < 2 ^ B
 b : B ≤ 4000
theorem SB.sum {n B : Nat} (h : SB Lc n B) (H : List Int) {w : Nat} (hw : w ≤ n) : Bd B (bq Lc n H w) := (er h.x H w).bd (qr h.x _) (h.q H) (AZ h.x h.e H hw)
theorem SB.prob {n B : Nat} (h : SB Lc n B) (H : List Int) (w : Int) : Bd B (bh Lc n H w) := (eF h.x H w).bd (qr h.x _) (h.q H) (zl h.x h.e H w)
theorem pn {n B : Nat} (hB : SB Lc n B) (H : List Int) (hP : uU Lc n H) : CtIO P 114 (Dg Lc n H) [.c (.ad 1000003 0), .c (.ad 1000004 0)] (gh Lc n H) (xX Lc n (hO H)) := by
 have hx := hB.x;have h6 := hx.w6;have hbb := hB.b;refine CtIO.walk (Ty.own_ok [1000001, 1000003] aj) aa (N := 30) Tryz.func114 rfl rfl rfl rfl rfl (fun v I X hv hY => ?_);refine X1 _ (bS 0 (by omega)) ?_;refine X2 (.own σx σx) ?_;refine ⟨_, _, ga, ?_⟩;refine b8 (Ty.own_ok [1000001, 1000003] aj) aa (fun w : Nat => w ≤ n) (fun w => [(0, .c (.cb v)), (1, .c (.ad 1000003 0)), (2, .c (.ad 1000004 0)), (4, .c (.ad 4 0)), (9, .c (nI .i64 n)), (10, .c (nI .i64 w))])
  (fun w => [(2000000, .abs (I w)), (1000000, xC Lc n 1000001), (1000001, .me false (MOk Lc)), (1000003, .var [.ad 1000000 0]), (1000004, .var [.ow 1000002 1 H.length]), (1000002, .row 1 (aP H)), (4, .var (qP (bq Lc n H w)).cells)]) (fun w => n - w)
  0 (by omega) ⟨rfl, rfl, rfl, rfl, rfl, rfl, trivial⟩ ⟨rfl, rfl, rfl, rfl, rfl, rfl, rfl, trivial⟩ (fun w hw => ?_)
 refine ae (fun h1 => ?_) (fun h1 => ?_)
 ·have hw' : w < n := by omega
  have hsb := hB.sum H hw;have hpb := hB.prob H (w : Int);have hadd := kh (p := bq Lc n H w) (q := bh Lc n H w) (by rw [aw hsb]; exact hsb) (by rw [aw hpb]; exact hpb) (by rw [aw hsb]; exact pg hx H w) (by omega);rw [aw hsb, aw hpb] at hadd;have hitem : (gh Lc n H)[w]? = some [.c (nI .i64 w), pA (dL Lc n H w)] := by
   unfold gh;rw [DT, List.getElem?_range hw']; rfl
  refine X2 (.same σ3 1000001) ?_;refine ⟨rfl, _, hP w, ?_⟩;refine .intro rfl ?_;refine ⟨gh Lc n H, I, X, w, hY, rfl, hitem, ?_, ?_⟩
  ·refine X1 _ hadd ?_;refine X1 ((w + 1 : Nat) : Int) (wI (by simp) (by omega) (by omega)) ?_;exact ⟨w + 1, by omega, by omega, ⟨rfl, rfl, rfl, rfl, rfl, rfl, trivial⟩, ⟨rfl, rfl, rfl, rfl, rfl, rfl, rfl, trivial⟩⟩
  ·exact ⟨trivial, .inr rfl, cT (l := [(1000002, .row 1 (aP H))]) rfl rfl rfl ⟨rfl, trivial⟩⟩
 ·have e : w = n := by omega
  subst e;have hlen : (gh Lc w H).length = w := by simp [gh]
  exact ⟨trivial, .inl (by rw [hlen]; rfl), cT (l := [(1000002, .row 1 (aP H))]) rfl rfl rfl ⟨rfl, trivial⟩⟩
abbrev σP : List (Nat × Nat) := [(1000000, 1000000), (1000001, 1000001), (61, 1000003), (62, 1000004), (1000002, 1000002)]
abbrev νP : List (Nat × Nat) := [(1000000, 1000000), (1000001, 1000001), (1000002, 1000002), (2, 61), (3, 62)]
theorem po {n : Nat} {H : List Int} {i : Nat} {args : List A1} (h : (gh Lc n H)[i]? = some args) : i < n ∧ args = [.c (nI .i64 i), pA (dL Lc n H i)] := by
 unfold gh at h;rw [DT, DN] at h;obtain ⟨j, h1, h2⟩ := h;obtain ⟨h3, h4⟩ := DJ.1 h1;simp at h3 h4;subst h4;exact ⟨h3, h2.symm⟩
theorem sC {n : Nat} {H : List Int} : ∀ args, args ∈ gh Lc n H → args.length = 2 ∧ ay args = true := fun args ha => by
 obtain ⟨x, _, rfl⟩ := Ef.1 ha;exact ⟨rfl, rfl⟩
theorem zp {n B : Nat} (hB : SB Lc n B) (H : List Int) (hP : uU Lc n H) (w : Nat) (hw : w < n) : CtO P 51 (xX Lc n (hO H)) [.c (.ad 1000000 0), .c (.ow 1000002 1 H.length), .c (nI .i64 w)] (xX Lc n (hO H)) [pA (dL Lc n H w)] := by
 have h6 := hB.x.w6;refine Ct.io aj aa (N := 19) Tryz.func51 rfl rfl rfl rfl ?_;refine X2 (.own σ3 νP) ?_;refine ⟨_, _, sB H, ?_⟩;refine yb aj aa σP [1000000, 1000001, 1000002] (pn hB H hP) Tryz.func114 rfl rfl rfl rfl rfl rfl rfl sC [5, 6] rfl (G := Unit) (fun i _ => i ≤ w) (fun _ _ => [(5, .c (.ad 5 0)), (6, .c (.ad 6 0))])
  (fun _ _ => [(5, .var [nI .i64 w]), (6, .var [.sc (.slice none 0 0), .sc (.slice none 0 0), .sc (.slice none 0 0), .sc (.slice none 0 0)])]) () (by omega) ⟨rfl, rfl, trivial⟩ ⟨rfl, rfl, trivial⟩ (fun _ _ => rfl) (fun i _ args hg hi => ?_) (fun _ hi => ?_)
 ·obtain ⟨hin, rfl⟩ := po hg;refine aW (fun h1 => ?_) (fun h1 => ?_)
  ·have e : i = w := by omega
   subst e;refine ⟨[(6, .c (.ad 6 0))], [(6, .var (pA (dL Lc n H i)).cells)], ⟨rfl, trivial⟩, ⟨rfl, trivial⟩, (fun p hp => by simp at hp; subst hp; rfl), ?_⟩;exact ⟨trivial, cT (l := [(1000002, .row 1 (aP H))]) rfl rfl rfl ⟨rfl, trivial⟩, rc rfl, trivial⟩
  ·exact ⟨(), by omega, ⟨rfl, rfl, trivial⟩, ⟨rfl, rfl, trivial⟩⟩
 ·exfalso;have : (gh Lc n H).length = n := by simp [gh]
  omega
end
end
section
section
variable {Lc : List (List Cnt)} {n B : Nat}
theorem lj (ids : List Int) (i : Nat) (hi : i < ids.length) : bz Lc n (ids.take (i + 1)) = qt (bz Lc n (ids.take i)) (dL Lc n ([1] ++ ids.take i) ids[i]) := by
 unfold bz;rw [DL hi, n8]
theorem zq {ids : List Int} (h : InW n ids) (i : Nat) : InW n (ids.take i) := fun w hw => h w (Fc hw)
theorem qu (hB : SB Lc n B) (ids : List Int) : ∀ i, i ≤ ids.length → ∃ R, R ≠ 0 ∧ R < 2 ^ (1 + B * i) ∧ Dv R (bz Lc n (ids.take i)).1 ∧ Dv R (bz Lc n (ids.take i)).2
 | 0, _ => ⟨1, by decide, by rw [E4]; decide, .int, .int⟩
 | i + 1, hi => by
  obtain ⟨R, r1, r2, r3, r4⟩ := qu hB ids i (by omega);rw [lj ids i (by omega)];refine ⟨R * QF Lc n (fO Lc ([1] ++ ids.take i)), D6 r1 (qr hB.x _), ?_, ?_, ?_⟩
  ·rw [show 1 + B * (i + 1) = (1 + B * i) + B by rw [D5, E6]; omega];exact kA r2 (hB.q _)
  ·exact (r3.up (Gb _ _)).add (r4.mul (er hB.x _ _))
  ·exact r4.mul (eF hB.x _ _)
theorem uV (hB : SB Lc n B) {ids : List Int} (hw : InW n ids) (i : Nat) (hi : i ≤ ids.length) : Bd (1 + B * i) (bz Lc n (ids.take i)).1 ∧ Bd (1 + B * i) (bz Lc n (ids.take i)).2 ∧ Nat.gcd (bz Lc n (ids.take i)).1.1 (bz Lc n (ids.take i)).1.2 = 1 := by
 obtain ⟨R, r1, r2, r3, r4⟩ := qu hB ids i hi;obtain ⟨a1, a2, a3, a4⟩ := iL hB.x (ids.take i);obtain ⟨s1, s2, s3⟩ := uR hB.x hB.e (ids.take i) [1] (zq hw i);refine ⟨r3.bd r1 r2 (qs a1 (by rw [a3]; grind)), r4.bd r1 r2 (qs a2 (by rw [a4]; grind)), ?_⟩
 cases i with
 | zero => exact FZ 1
 | succ i =>
  obtain ⟨R', q1, q2, q3, q4⟩ := qu hB ids i (by omega);rw [lj ids i (by omega)];exact jl (D6 q3.pos (eD q4.pos (er hB.x _ _).pos))
theorem SB.probO (hB : SB Lc n B) (H : List Int) (hl : H.length ≤ 1000000) (hl1 : 1 ≤ H.length) : uU Lc n H := fun w => vX hB.x H hl hl1 w
theorem zr (hB : SB Lc n B) (ids : List Int) (hw : InW n ids) (hl : ids.length ≤ 25) (els : List (List PC)) (hels : els = aP ids) (m : Nat) (hm : m = ids.length) :
  CtO P 45 (xX Lc n [(1000002, some (.row 1 els))]) [.c (.ad 1000000 0), .c (.ow 1000002 1 m)] (xX Lc n [(1000002, some (.row 1 els))]) [pA (bz Lc n ids)] := by
 subst hels hm;have hb := hB.b;refine Ct.keep (Ty.own_ok [1000001] aj) aa [] (N := 31) Tryz.func45 rfl rfl rfl rfl ?_;refine X1 _ (bS 0 (by omega)) ?_;refine X1 _ (bS 1 (by omega)) ?_;refine .intro (by omega) ?_;refine ar (Ty.own_ok [1000001] aj) aa (fun i : Nat => i ≤ ids.length) (fun i => [(0, .c (.ad 1000000 0)), (4, .c (.ad 4 0)), (5, .c (.ad 5 0)), (6, .c (.ow 12 1 (i + 1))), (13, .c (.ow 1000002 1 ids.length)), (14, .c (nI .i64 ids.length)), (15, .c (nI .i64 i))])
  (fun i => [(1000000, xC Lc n 1000001), (1000001, .me false (MOk Lc)), (1000002, .row 1 (aP ids)), (4, .var [.sc (.slice none 0 0), .sc (.slice none 0 0), .sc (.slice none 0 0), .sc (.slice none 0 0)]), (5, .var (pA (bz Lc n (ids.take i))).cells), (12, .row 1 (aP ([1] ++ ids.take i)))]) (fun i => ids.length - i)
  0 (by omega) ⟨rfl, rfl, rfl, rfl, rfl, rfl, rfl, trivial⟩ ⟨rfl, rfl, rfl, rfl, rfl, rfl, trivial⟩ (fun _ : Unit => True) (fun _ => [(4, .c (.ad 4 0)), (5, .c (.ad 5 0))])
  (fun _ => [(1000000, xC Lc n 1000001), (1000001, .me false (MOk Lc)), (1000002, .row 1 (aP ids)), (4, .var [.sc (.slice none 0 0), .sc (.slice none 0 0), .sc (.slice none 0 0), .sc (.slice none 0 0)]), (5, .var (pA (bz Lc n ids)).cells)]) (fun i hi => ?_) (fun _ _ => ?_)
 ·refine ae (fun h1 => ?_) (fun h1 => ?_)
  ·have hi' : i < ids.length := by omega
   obtain ⟨w0, w1⟩ := hw ids[i] (DU hi');have hget : (aP ids)[((i : Nat) : Int).toNat]? = some [eI .i64 ids[i]] := by rw [Ei]; simp [aP, hi']
   obtain ⟨b1, b2, b3⟩ := uV hB hw i hi;have hst := lj (Lc := Lc) (n := n) ids i hi';have htk : ([1] ++ ids.take i).length = i + 1 := by simp; omega
   have htk2 : [1] ++ ids.take (i + 1) = ([1] ++ ids.take i) ++ [ids[i]] := by rw [DL hi', Gt]
   obtain ⟨v, hv⟩ : ∃ v : Nat, ids[i] = (v : Int) := ⟨ids[i].toNat, by omega⟩;have hsb := hB.sum ([1] ++ ids.take i) (w := v) (by omega);have hpb := hB.prob ([1] ++ ids.take i) (v : Int);rw [hv] at hget hst htk2;have hof := zp hB ([1] ++ ids.take i) (hB.probO _ (by omega) (by omega)) v (by omega);rw [htk] at hof;have hBi : B * i ≤ 4000 * 25 := EO hb (by omega);have hwin := wa (p := bz Lc n (ids.take i)) (q := dL Lc n ([1] ++ ids.take i) (v : Int)) b1 b2 (show Bd B (bq Lc n ([1] ++ ids.take i) (v : Int).toNat) by rw [Ei]; exact hsb) hpb b3 (by omega);rw [← hst] at hwin
   refine .intro (by omega) (And.intro (by omega) (X1 _ hget ?_));refine X2 (.same [(1000000, 1000000), (1000001, 1000001), (12, 1000002)] 1000001) ?_;refine ⟨rfl, _, hof, ?_⟩;refine X1 _ hwin ?_;refine .intro rfl ?_;refine ⟨by rw [ai, htk], by rw [ai, htk]; show (i + 1 + 1 + 768) * 8 ≤ _; omega, by rw [ai, htk]; show i + 1 + 1 ≤ _; omega, bm, au rfl, ?_⟩;refine X1 ((i + 1 : Nat) : Int) (wI1 (by omega)) ?_;refine ⟨i + 1, by omega, by omega, ⟨rfl, rfl, rfl, owE (by rw [DK, ai, htk]; rfl), rfl, rfl, rfl, trivial⟩, ⟨rfl, rfl, rfl, rfl, rfl, aB (by rw [htk2]; simp [aP]; rfl), trivial⟩⟩
  ·have e : i = ids.length := by omega
   subst e;exact ⟨(), trivial, ⟨rfl, rfl, trivial⟩, ⟨rfl, rfl, rfl, rfl, by rw [Ek]; rfl, trivial⟩⟩
 ·exact ⟨trivial, cT (l := [(1000002, .row 1 (aP ids))]) rfl rfl rfl ⟨rfl, trivial⟩, rc rfl, trivial⟩
end
end
section
def iR : List Bool → Nat
 | [] => 0
 | b :: l => b.toNat + 2 * iR l
def needW (n : Nat) : Nat := n / 64 + min (n % 64) 1
def cx (l : List Bool) (k : Nat) : Nat := iR l / 18446744073709551616 ^ k % 18446744073709551616
def aZ (l : List Bool) : List Nat := (List.range (needW l.length)).map (cx l)
theorem mE : ∀ l : List Bool, iR l < 2 ^ l.length
 | [] => by decide
 | b :: l => by
  have := mE l;rw [iR, Eh, Er];cases b <;> simp only [Bool.toNat_true, Bool.toNat_false] <;> omega
theorem iM : ∀ (l : List Bool) (b : Bool), iR (l ++ [b]) = iR l + b.toNat * 2 ^ l.length
 | [], b => by simp [iR]
 | c :: l, b => by
  rw [Fi, iR, iM l b, iR, Eh, Er, D5, ← EK, D0 (2 ^ l.length) 2, ED]
theorem sD : ∀ (l : List Bool) (i : Nat), i < l.length → l[i]? = some (decide (iR l / 2 ^ i % 2 = 1))
 | b :: l, 0, _ => by
  simp only [iR, List.getElem?_cons_zero, Gn, Gu];cases b <;> simp <;> omega
 | b :: l, i + 1, h => by
  have := sD l i (by simpa using h);have e : (b.toNat + 2 * iR l) / 2 = iR l := by cases b <;> simp only [Bool.toNat_true, Bool.toNat_false] <;> omega
  rw [List.getElem?_cons_succ, this, iR, Er, D0 (2 ^ i) 2, ← Fw, e]
theorem kE (k : Nat) : (18446744073709551616 : Nat) ^ k = 2 ^ (64 * k) := by
 rw [show (18446744073709551616 : Nat) = 2 ^ 64 from rfl, ← Nat.pow_mul]
theorem A7 {n : Nat} (h : n % 64 = 0) : needW n = n / 64 := by unfold needW; omega
theorem uW {n : Nat} (h : n % 64 ≠ 0) : needW n = n / 64 + 1 := by unfold needW; omega
theorem fq (l : List Bool) : (aZ l).length = needW l.length := by simp [aZ]
theorem fu {l : List Bool} {k : Nat} (h : k < needW l.length) : (aZ l)[k]? = some (cx l k) := by simp [aZ, h]
theorem od (l : List Bool) (k : Nat) : cx l k < 18446744073709551616 := EI _ (by decide)
theorem pp {l : List Bool} {b : Bool} {k : Nat} (h : 64 * (k + 1) ≤ l.length) : cx (l ++ [b]) k = cx l k := by
 unfold cx;rw [iM, kE];obtain ⟨c, hc⟩ := Nat.exists_eq_add_of_le h;have e : b.toNat * 2 ^ l.length = (b.toNat * 2 ^ c) * 18446744073709551616 * 2 ^ (64 * k) := by
  rw [hc, show 64 * (k + 1) + c = 64 * k + 64 + c by omega, EF, EF, show (2 : Nat) ^ 64 = 18446744073709551616 from rfl];simp only [DX, D0, ED]
 rw [e, Nat.add_mul_div_right _ _ (Ex _), Nat.add_mul_mod_self_right]
theorem wc {l : List Bool} {b : Bool} {k : Nat} (h : l.length = 64 * k) : cx (l ++ [b]) k = b.toNat := by
 unfold cx;have := mE l;rw [iM, kE, ← h, Nat.add_mul_div_right _ _ (Ex _), Fj this, Ey];cases b <;> rfl
theorem oe {l : List Bool} {k : Nat} (h0 : 64 * k ≤ l.length) (h : l.length < 64 * k + 64) : cx l k < 2 ^ (l.length - 64 * k) := by
 have := mE l;unfold cx;refine Fz (Nat.mod_le _ _) ?_;rw [kE, Gc (Ex _), ← EF];rwa [show l.length - 64 * k + 64 * k = l.length by omega]
theorem t5 {l : List Bool} {b : Bool} {k : Nat} (h0 : 64 * k ≤ l.length) (h : l.length < 64 * k + 64) : cx (l ++ [b]) k = cx l k + b.toNat * 2 ^ (l.length - 64 * k) := by
 have h1 := oe h0 h;have h2 := mE l;have e : 2 ^ l.length = 2 ^ (l.length - 64 * k) * 2 ^ (64 * k) := by rw [← EF]; congr 1; omega
 have h3 : (2 : Nat) ^ (l.length - 64 * k) ≤ 2 ^ 63 := D3 (by omega) (by omega);have h5 : iR l / 2 ^ (64 * k) < 2 ^ (l.length - 64 * k) := by
  rw [Gc (Ex _), ← e]; exact h2
 have h6 : (2 : Nat) ^ 63 = 9223372036854775808 := rfl;unfold cx;rw [iM, kE, e, ← DX, Nat.add_mul_div_right _ _ (Ex _)];have h7 : b.toNat * 2 ^ (l.length - 64 * k) ≤ 2 ^ (l.length - 64 * k) := by cases b <;> simp
 rw [Ed (by omega), Ed (by omega)]
theorem qw {l : List Bool} {b : Bool} (h : l.length % 64 = 0) : aZ (l ++ [b]) = aZ l ++ [b.toNat] := by
 have e1 : needW l.length = l.length / 64 := A7 h;have e2 : needW (l ++ [b]).length = l.length / 64 + 1 := by rw [DK, List.length_singleton]; unfold needW; omega
 unfold aZ;rw [e1, e2, Gz, EQ, Ep, Gd, wc (by omega)];congr 1;refine F6 fun k hk => pp ?_
 have := List.mem_range.1 hk;omega
theorem qx {l : List Bool} {b : Bool} (h : l.length % 64 ≠ 0) : aZ (l ++ [b]) = (aZ l).set (l.length / 64) (cx l (l.length / 64) + b.toNat * 2 ^ (l.length % 64)) ∧ needW (l ++ [b]).length = needW l.length := by
 have e1 : needW l.length = l.length / 64 + 1 := uW h;have e2 : needW (l ++ [b]).length = l.length / 64 + 1 := by rw [DK, List.length_singleton]; unfold needW; omega
 refine ⟨?_, by rw [e1, e2]⟩;have e3 : l.length % 64 = l.length - 64 * (l.length / 64) := by omega
 unfold aZ;rw [e1, e2, e3, ← t5 (by omega) (by omega)];apply Ga;intro k;rw [ET];by_cases hk : l.length / 64 = k
 ·subst hk;rw [if_pos rfl];simp
 ·rw [if_neg hk];by_cases h2 : k < l.length / 64
  ·simp only [DT, List.getElem?_range (show k < l.length / 64 + 1 by omega), ES];rw [pp (by omega)]
  ·rw [D4 (by simp; omega), D4 (by simp; omega)]
theorem CH {a : Nat} {b : Bool} {i : Nat} (h : a < 2 ^ i) : a ||| b.toNat <<< i = a + b.toNat * 2 ^ i := by
 rw [Nat.or_comm, ← Nat.shiftLeft_add_eq_or_of_lt h, F4, F5]
theorem iN {l : List Bool} {i : Nat} (h : i < l.length) : l[i]? = some (decide (cx l (i / 64) / 2 ^ (i % 64) % 2 = 1)) := by
 rw [sD l i h];congr 2;unfold cx;rw [kE];have e : 2 ^ i = 2 ^ (64 * (i / 64)) * 2 ^ (i % 64) := by rw [← EF]; congr 1; omega
 rw [e, ← Fw];generalize iR l / 2 ^ (64 * (i / 64)) = v;have h3 : 18446744073709551616 = 2 ^ (i % 64) * (2 * 2 ^ (63 - i % 64)) := by
  rw [← Nat.pow_succ', ← EF, show i % 64 + (63 - i % 64 + 1) = 64 by omega]
 have h4 : v % 18446744073709551616 / 2 ^ (i % 64) = v / 2 ^ (i % 64) % (2 * 2 ^ (63 - i % 64)) := by
  rw [h3, Nat.mod_mul_right_div_self]
 rw [h4, Nat.mod_mul_right_mod]
theorem t6 {l m : List Bool} (h1 : l.length = m.length) (h2 : aZ l = aZ m) : l = m := by
 apply Ga;intro i;by_cases hi : i < l.length
 ·rw [iN hi, iN (by omega)];have hk : i / 64 < needW l.length := by unfold needW; omega
  have e1 := fu (l := l) hk;have e2 := fu (l := m) (by rw [← h1]; exact hk);rw [h2, e2] at e1;rw [Fm e1]
 ·rw [D4 (by omega), D4 (by omega)]
abbrev nB (b : Bool) : PC := nI .u64 b.toNat
abbrev bP (l : List Bool) : PC := .rd [nSl .u64 (aZ l), nI .i64 l.length]
abbrev sF : A1 := .c (.sc (.pointer none))
theorem ie (n : Nat) : needW n ≤ n := by unfold needW; omega
theorem qy (n : Nat) (hn : n ≤ 1000000000) : Ct P 49 [.c (nI .i64 n)] [.c (nI .i64 (needW n))] := by
 refine Ct.go aj aa (N := 9) Tryz.func49 rfl rfl rfl rfl ?_;refine .intro (by decide) (X1 ((n / 64 : Nat) : Int) (iU rfl) (And.intro ⟨by omega, by omega⟩ ?_));refine .intro (by decide) (X1 ((n % 64 : Nat) : Int) (iV rfl) (And.intro ⟨by omega, by omega⟩ ?_));have e : (if (1 : Int) < ((n % 64 : Nat) : Int) then (1 : Int) else ((n % 64 : Nat) : Int)) = ((min (n % 64) 1 : Nat) : Int) := by split <;> omega
 refine X1 ((needW n : Nat) : Int) ?_ ?_
 ·rw [e]; exact wI (by unfold needW; omega) (by omega) (by unfold needW; omega)
 ·exact ⟨trivial, r1 rfl, trivial⟩
theorem wd (b : Bool) : Ct P 48 [.c (nB b)] [.c (nI .i64 b.toNat)] := by
 have h := jY b.toNat (by cases b <;> decide);rw [show blen b.toNat = b.toNat by
  cases b
  ·exact blen_zero
  ·exact (ru (by decide)).trans (by rw [show (true.toNat / 2) = 0 from rfl, blen_zero]; rfl)] at h
 refine Ct.go aj aa (N := 5) Tryz.func48 rfl rfl rfl rfl ?_;refine X1 _ h ?_;exact ⟨trivial, r1 rfl, trivial⟩
theorem uX : CtO P 16 [] [] [(2, some (.var [.sc (.slice none 0 0), eI .i64 0]))] [.c (.ad 2 0)] := by
 refine Ct.keep aj aa [] (N := 3) Tryz.func16 rfl rfl rfl rfl ?_;exact ⟨trivial, SubO.of (l := [(2, .var [.sc (.slice none 0 0), eI .i64 0])]) ⟨rfl, trivial⟩, r1 rfl, trivial⟩
abbrev bO (r : Nat) (l : List Bool) : Objs := [(1000000, some (.var [.ow r 1 (needW l.length), nI .i64 l.length])), (r, some (.row 1 (aD .u64 (aZ l))))]
theorem Dh {l : List Bool} {O : Objs} (h1 : O.get 1000000 = some (.var [.ow 200 1 (needW l.length), nI .i64 l.length])) (h2 : O.get 200 = some (.row 1 (aD .u64 (aZ l)))) : SubO (bO 200 l) O :=
 SubO.of (l := [(1000000, .var [.ow 200 1 (needW l.length), nI .i64 l.length]), (200, .row 1 (aD .u64 (aZ l)))]) ⟨h1, h2, trivial⟩
theorem mF {k : IntKind} {l : List Nat} {i x : Nat} (h : l[i]? = some x) : (aD k l)[i]? = some [nI k x] := by simp [aD, h]
theorem Di {a i : Nat} {b : Bool} (h : a < 2 ^ i) (hi : i < 64) : a ||| b.toNat * 2 ^ i % 18446744073709551616 = a + b.toNat * 2 ^ i := by
 have h1 : (2 : Nat) ^ i ≤ 2 ^ 63 := D3 (by omega) (by omega);have h2 : (2 : Nat) ^ 63 = 9223372036854775808 := rfl;have h3 : b.toNat * 2 ^ i ≤ 2 ^ i := by cases b <;> simp
 rw [Ed (by omega), ← F4, CH h, F4]
theorem uY (l : List Bool) (b : Bool) (hl : l.length ≤ 100000000) : CtO P 17 (bO 1000001 l) [.c (.ad 1000000 0), .c (nB b), .c (eI .i64 1)] (bO 200 (l ++ [b])) [.c (eI .i64 0)] := by
 have hb : b.toNat ≤ 1 := by cases b <;> decide
 have hlen : (l ++ [b]).length = l.length + 1 := by simp
 have hnw := ie l.length;have hnw2 := ie (l ++ [b]).length;refine Ct.keepI (Ty.own_ok [1000001] aj) [] (N := 93) Tryz.func17 rfl rfl rfl rfl ?_;refine C0 (r := 1000001) (q := 200) (k := 1000000) (i := 0) rfl (by decide) (by decide) (by decide) rfl rfl rfl ?_;refine lN (Ty.own_ok [1000001] aj) aa ?_;refine X1 _ (wd b) ?_;refine ae (fun h => ?_) (fun _ => ?_)
 ·exfalso; omega
 refine .intro (by decide) (X1 ((l.length % 64 : Nat) : Int) (iV rfl) (And.intro ⟨by omega, by omega⟩ ?_));refine X1 ((l.length + 1 : Nat) : Int) (wI (by simp) (by omega) (by omega)) ?_;refine ae (fun h => ?_) (fun h => ?_)
 ·have h64 : l.length % 64 ≠ 0 := by omega
  obtain ⟨w1, w2⟩ := qx (b := b) h64;have w3 := uW h64;have w4 := fq l;have w5 := fu (l := l) (k := l.length / 64) (by omega);have w6 := oe (l := l) (k := l.length / 64) (by omega) (by omega);have w7 := od l (l.length / 64);refine .intro (by omega) ?_;refine X1 ((l.length / 64 : Nat) : Int) (wI (by omega) (by omega) (by omega)) ?_;refine .intro (by omega) (And.intro (by omega) ?_);refine X1 _ (by rw [Ei]; exact mF w5) ?_;refine X1 ((l.length % 64 : Nat) : Int) (wU rfl (by omega) (by omega)) ?_;refine .intro (by omega) (X1 _ (tE (by omega)) ?_);refine X1 _ (orU w7 (EI _ (by decide))) ?_;refine .intro (by omega) (And.intro (by omega) ?_);refine X1 _ (by rw [Ei]; exact mF w5) ?_;refine .intro rfl ?_;refine ar (Ty.own_ok [1000001] aj) aa (fun _ : Unit => True) (fun _ => [(0, .c (.ad 1000000 0)), (1, .c (nB b)), (7, .c (nI .i64 (l.length % 64)))])
   (fun _ => [(1000000, .var [.ow 200 1 (needW (l ++ [b]).length), nI .i64 (l ++ [b]).length]), (200, .row 1 (aD .u64 (aZ (l ++ [b]))))]) (fun _ => 0)
   () trivial ⟨rfl, rfl, rfl, trivial⟩ ⟨by rw [w2, hlen]; rfl, aB (by rw [Ei, w1, ← nRow_set, Di (by rw [show l.length % 64 = l.length - 64 * (l.length / 64) by omega]; exact w6) (by omega)]; rfl), trivial⟩ (fun _ : Unit => True) (fun _ => []) (fun _ => [(1000000, .var [.ow 200 1 (needW (l ++ [b]).length), nI .i64 (l ++ [b]).length]), (200, .row 1 (aD .u64 (aZ (l ++ [b]))))]) (fun _ _ => ?_) (fun _ _ => ?_)
  ·refine .intro (by omega) ?_;refine X1 _ (qy (l ++ [b]).length (by omega)) ?_;refine .intro rfl ?_;refine ae (fun h => ?_) (fun _ => ?_)
   ·exfalso; omega
   ·exact ⟨(), trivial, trivial, ⟨rfl, rfl, trivial⟩⟩
  ·exact ⟨trivial, Dh rfl rfl, r1 rfl, trivial⟩
 ·have h64 : l.length % 64 = 0 := by omega
  have w1 := qw (b := b) h64;have w2 : needW (l ++ [b]).length = needW l.length + 1 := by rw [hlen]; unfold needW; omega
  have w4 := fq l;refine ar (Ty.own_ok [1000001] aj) aa (fun _ : Bool => True) (fun _ => [(0, .c (.ad 1000000 0)), (1, .c (nB b)), (7, .c (nI .i64 (l.length % 64)))])
   (fun g => [(1000000, .var [.ow 200 1 (bif g then needW (l ++ [b]).length else needW l.length), nI .i64 (l ++ [b]).length]), (200, .row 1 (aD .u64 (bif g then aZ (l ++ [b]) else aZ l)))]) (fun g => bif g then 0 else 1)
   false trivial ⟨rfl, rfl, rfl, trivial⟩ ⟨by rw [hlen]; rfl, rfl, trivial⟩ (fun _ : Unit => True) (fun _ => []) (fun _ => [(1000000, .var [.ow 200 1 (needW (l ++ [b]).length), nI .i64 (l ++ [b]).length]), (200, .row 1 (aD .u64 (aZ (l ++ [b]))))]) (fun g _ => ?_) (fun _ _ => ?_)
  ·cases g with
   | false =>
    refine .intro (by show needW l.length ≤ _; omega) ?_;refine X1 _ (qy (l ++ [b]).length (by omega)) ?_;refine .intro rfl ?_;refine ae (fun _ => ?_) (fun h => ?_)
    ·refine ae (fun h => ?_) (fun _ => ?_)
     ·exfalso; omega
     ·refine ⟨by rw [ah]; show needW l.length = (aZ l).length; rw [w4], by rw [ah]; show ((aZ l).length + 1 + 768) * 8 ≤ _; omega, by rw [ah]; show (aZ l).length + 1 ≤ _; omega, c8, c8 (l := [b.toNat]), ?_⟩;refine ⟨true, trivial, by decide, ⟨rfl, rfl, rfl, trivial⟩, ⟨?_, ?_, trivial⟩⟩
      ·show some (Ob.var [.ow 200 1 (aD .u64 (aZ l) ++ [[nB b]]).length, _]) = some (Ob.var [.ow 200 1 (needW (l ++ [b]).length), _])
       rw [DK, ah, w4, w2]; rfl
      ·refine aB ?_;show aD .u64 (aZ l) ++ aD .u64 [b.toNat] = aD .u64 (aZ (l ++ [b]))
       rw [w1, jO]
    ·exfalso;apply h;show ((needW l.length : Nat) : Int) < _
     omega
   | true =>
    refine .intro (by show needW (l ++ [b]).length ≤ _; omega) ?_;refine X1 _ (qy (l ++ [b]).length (by omega)) ?_;refine .intro rfl ?_;refine ae (fun h => ?_) (fun _ => ?_)
    ·exfalso;have : ((needW (l ++ [b]).length : Nat) : Int) < ((needW (l ++ [b]).length : Nat) : Int) := h;omega
    ·exact ⟨(), trivial, trivial, ⟨rfl, rfl, trivial⟩⟩
  ·exact ⟨trivial, Dh rfl rfl, r1 rfl, trivial⟩
theorem boE {a b : Bool} (h : a = b) : (some (.c (.sc (.bool a))) : Option AV) = some (.c (.sc (.bool b))) := by rw [h]
theorem CI {x : Nat} (hx : x < 18446744073709551616) : IntKind.u64.wrap ((BitVec.ofInt IntKind.u64.bits (x : Int) &&& BitVec.ofInt IntKind.u64.bits (1 : Int)).toNat : Int) = ((x % 2 : Nat) : Int) := by
 have e : (BitVec.ofInt IntKind.u64.bits (x : Int) &&& BitVec.ofInt IntKind.u64.bits (1 : Int)).toNat = x % 2 := by
  show (BitVec.ofInt 64 (x : Int) &&& BitVec.ofInt 64 ((1 : Nat) : Int)).toNat = _
  rw [BitVec.ofInt_natCast, BitVec.ofInt_natCast, BitVec.toNat_and, BitVec.toNat_ofNat, BitVec.toNat_ofNat, Ed (by omega : x < 2 ^ 64), Ed (by decide : 1 < 2 ^ 64), FL]
 rw [e];exact wU rfl (by omega) (by omega)
theorem d9 (l : List Bool) (hl : l.length ≤ 100000000) : Ct P 14 [.c (bP l)] [.c (nI .i64 l.length)] := by
 refine Ct.go aj aa (N := 9) Tryz.func14 rfl rfl rfl rfl ?_;exact ⟨trivial, r1 rfl, trivial⟩
theorem A8 (l : List Bool) (i : Nat) (hl : l.length ≤ 100000000) (hi : i < l.length) : Ct P 15 [.c (bP l), .c (nI .i64 i)] [.c (.sc (.bool (l.getD i false)))] := by
 have hw := fu (l := l) (k := i / 64) (by unfold needW; omega);have hb := iN hi;have hg : l.getD i false = decide (cx l (i / 64) / 2 ^ (i % 64) % 2 = 1) := by rw [DG, hb]; rfl
 refine Ct.go aj aa (N := 33) Tryz.func15 rfl rfl rfl rfl ?_;refine ae (fun h => ?_) (fun _ => ?_)
 ·exfalso; omega
 refine .intro (by decide) (X1 ((i / 64 : Nat) : Int) (iU rfl) (And.intro ⟨by omega, by omega⟩ ?_));refine .intro (by omega) (X1 _ (by rw [Ei]; exact mF hw) ?_);refine .intro (by decide) (X1 ((i % 64 : Nat) : Int) (iV rfl) (And.intro ⟨by omega, by omega⟩ ?_));refine X1 ((i % 64 : Nat) : Int) (wU rfl (by omega) (by omega)) ?_;have hwl := od l (i / 64);have hdl : cx l (i / 64) / 2 ^ (i % 64) ≤ cx l (i / 64) := EY _ _;refine .intro (by omega) (X1 ((cx l (i / 64) / 2 ^ (i % 64) : Nat) : Int) (fL (by omega)) (And.intro (inU (by omega)) ?_));refine X1 _ (CI (by omega)) ?_;refine ⟨trivial, r1 (boE ?_), trivial⟩;rw [hg];by_cases h : cx l (i / 64) / 2 ^ (i % 64) % 2 = 1
 ·rw [decide_eq_true h, h]; rfl
 ·rw [decide_eq_false h, show cx l (i / 64) / 2 ^ (i % 64) % 2 = 0 by omega]; rfl
def gG (l : List Bool) (k : Nat) : Nat := if k < needW l.length then cx l k else 0
theorem sG (l : List Bool) (k : Nat) : gG l k < 18446744073709551616 := by
 have := od l k;unfold gG; split <;> omega
theorem sH (l : List Bool) (k : Nat) (hl : l.length ≤ 100000000) (hk : k ≤ 100000000) : Ct P 148 [.c (bP l), .c (nI .i64 k)] [.c (nI .u64 (gG l k))] := by
 have h1 := ie l.length;have h2 := fq l;refine Ct.go aj aa (N := 23) Tryz.func148 rfl rfl rfl rfl ?_;refine .intro (by rw [ah]; omega) ?_;rw [ah];refine ae (fun h => ?_) (fun h => ?_)
 ·exact ⟨trivial, r1 (iE (by rw [gG, if_neg (by omega)]; rfl)), trivial⟩
 ·refine .intro (by omega) (X1 _ (by rw [Ei]; exact mF (fu (by omega))) ?_);exact ⟨trivial, r1 (iE (by rw [gG, if_pos (by omega)])), trivial⟩
theorem sI : Ct P 180 [.c (eI .i64 1)] [.c (eI .i64 1)] := by
 refine Ct.go aj aa (N := 6) Tryz.func180 rfl rfl rfl rfl ?_;exact ⟨trivial, r1 rfl, trivial⟩
theorem sJ : Ct P 149 [.c (eI .i64 1)] [.c (eI .u64 1)] := by
 refine Ct.go aj aa (N := 11) Tryz.func149 rfl rfl rfl rfl ?_;refine X1 _ sI ?_;refine X1 (1 : Int) (by decide) ?_;refine .intro (by decide) (X1 (2 : Int) (by decide) ?_);refine X1 (1 : Int) (by decide) ?_;exact ⟨trivial, r1 rfl, trivial⟩
theorem CJ {a c s : Nat} (hs : s < 64) : (a ||| c * 2 ^ (64 - s) % 18446744073709551616) % 2 = a % 2 := by
 have h1 : c * 2 ^ (64 - s) % 18446744073709551616 % 2 = 0 := by
  have e : 18446744073709551616 = 2 * 9223372036854775808 := rfl;rw [e, Nat.mod_mul_right_mod, show 64 - s = (63 - s) + 1 by omega, Er, ← DX];exact Nat.mul_mod_left _ _
 rw [← FL, Nat.and_or_distrib_right, FL, FL, h1, Nat.or_zero]
theorem A9 (l : List Bool) (i : Nat) (hl : l.length ≤ 100000000) (hi : i < l.length) : Ct P 103 [.c (bP l), .c (nI .i64 i), .c (eI .i64 1)] [.c (nB (l.getD i false))] := by
 have hb := iN hi;have hg : l.getD i false = decide (cx l (i / 64) / 2 ^ (i % 64) % 2 = 1) := by rw [DG, hb]; rfl
 have hz : gG l (i / 64) = cx l (i / 64) := if_pos (by unfold needW; omega);have hwl := sG l (i / 64);have hw2 := sG l (i / 64 + 1);have hdl : gG l (i / 64) / 2 ^ (i % 64) ≤ gG l (i / 64) := EY _ _;have fin : ∀ v, v % 2 = gG l (i / 64) / 2 ^ (i % 64) % 2 → v % 2 = (l.getD i false).toNat := fun v hv => by
  rw [hg, hv, hz];by_cases h : cx l (i / 64) / 2 ^ (i % 64) % 2 = 1
  ·rw [decide_eq_true h, h]; rfl
  ·rw [decide_eq_false h, show cx l (i / 64) / 2 ^ (i % 64) % 2 = 0 by omega]; rfl
 refine Ct.go aj aa (N := 67) Tryz.func103 rfl rfl rfl rfl ?_;refine ae (fun h => ?_) (fun _ => ?_)
 ·exfalso; omega
 refine ae (fun h => ?_) (fun _ => ?_)
 ·exfalso; omega
 refine .intro (by decide) (X1 ((i / 64 : Nat) : Int) (iU rfl) (And.intro ⟨by omega, by omega⟩ ?_));refine .intro (by decide) (X1 ((i % 64 : Nat) : Int) (iV rfl) (And.intro ⟨by omega, by omega⟩ ?_));refine X1 _ (sH l (i / 64) hl (by omega)) ?_;refine X1 ((i % 64 : Nat) : Int) (wU rfl (by omega) (by omega)) ?_;refine .intro (by omega) (X1 ((gG l (i / 64) / 2 ^ (i % 64) : Nat) : Int) (fL (by omega)) (And.intro (inU (by omega)) ?_));refine ae (fun h5 => ?_) (fun h5 => ?_)
 ·refine X1 ((i / 64 + 1 : Nat) : Int) (wI (by simp) (by omega) (by omega)) ?_;refine X1 _ (sH l (i / 64 + 1) hl (by omega)) ?_;refine X1 ((64 - i % 64 : Nat) : Int) (wI (by omega) (by omega) (by omega)) ?_;refine X1 ((64 - i % 64 : Nat) : Int) (wU rfl (by omega) (by omega)) ?_;refine .intro (by omega) (X1 _ (tE (by omega)) ?_);have hor := yy (v := gG l (i / 64) / 2 ^ (i % 64)) (m := gG l (i / 64 + 1) * 2 ^ (64 - i % 64) % 18446744073709551616) (by omega) (EI _ (by decide));refine X1 _ (orU (by omega) (EI _ (by decide))) ?_;refine X1 _ sJ ?_;refine X1 _ (CI hor) ?_;exact ⟨trivial, r1 (iE (by rw [fin _ (CJ (by omega))])), trivial⟩
 ·refine X1 _ sJ ?_;refine X1 _ (CI (by omega)) ?_;exact ⟨trivial, r1 (iE (by rw [fin _ rfl])), trivial⟩
theorem t7 (l m : List Nat) (hl : l.length ≤ 1000000) (hm : m.length ≤ 1000000) : Ct P 53 [.c (nSl .u64 l), .c (nSl .u64 m)] [.c (.sc (.bool (decide (l = m))))] := by
 refine Ct.go aj aa (N := 26) Tryz.func53 rfl rfl rfl rfl ?_;refine .intro (by rw [ah]; omega) ?_;rw [ah];refine .intro (by rw [ah]; omega) ?_;rw [ah];refine ed (fun h => ?_) (fun h => ?_)
 ·exact ⟨trivial, r1 (boE (decide_eq_false fun e => h (by rw [e])).symm), trivial⟩
 have hlm : l.length = m.length := by omega
 refine .intro (by rw [ah]; omega) ?_;rw [ah];refine ar aj aa (fun i : Nat => i ≤ l.length ∧ l.take i = m.take i) (fun i => [(0, .c (nSl .u64 l)), (1, .c (nSl .u64 m)), (12, .c (nI .i64 l.length)), (13, .c (nI .i64 i))]) (fun _ => []) (fun i => l.length - i)
  0 ⟨by omega, rfl⟩ ⟨rfl, rfl, rfl, rfl, trivial⟩ trivial (fun _ : Unit => l = m) (fun _ => []) (fun _ => []) (fun i hi => ?_) (fun _ hp => ?_)
 ·obtain ⟨i1, i2⟩ := hi;refine ae (fun h1 => ?_) (fun h1 => ?_)
  ·have hi' : i < l.length := by omega
   refine .intro (by omega) (X1 _ (al rfl hi') ?_);refine .intro (by omega) (X1 _ (al rfl (by omega)) ?_);refine .intro rfl ?_;have e1 : l.getD i 0 = l[i] := by simp [DG, hi']
   have e2 : m.getD i 0 = m[i] := by simp [DG, show i < m.length by omega]
   refine ed (fun h2 => ?_) (fun h2 => ?_)
   ·exact ⟨trivial, r1 (boE (decide_eq_false fun e => h2 (by rw [e])).symm), trivial⟩
   ·refine X1 ((i + 1 : Nat) : Int) (wI1 (by omega)) ?_;refine ⟨i + 1, ⟨by omega, ?_⟩, by omega, ⟨rfl, rfl, rfl, rfl, trivial⟩, trivial⟩;rw [DL hi', DL (by omega : i < m.length), i2];congr 2;omega
  ·have e : i = l.length := by omega
   subst e;rw [Ek, hlm, Ek] at i2;exact ⟨(), i2, trivial, trivial⟩
 ·exact ⟨trivial, r1 (boE (decide_eq_true hp).symm), trivial⟩
theorem sK (l m : List Bool) (hl : l.length ≤ 1000000) (hm : m.length ≤ 1000000) : Ct P 19 [.c (bP l), .c (bP m)] [.c (.sc (.bool (decide (l = m))))] := by
 have a1 := ie l.length;have a2 := ie m.length;have a3 := fq l;have a4 := fq m;refine Ct.go aj aa (N := 29) Tryz.func19 rfl rfl rfl rfl ?_;refine X1 _ (d9 l (by omega)) ?_;refine X1 _ (d9 m (by omega)) ?_;refine ed (fun h => ?_) (fun h => ?_)
 ·refine X1 _ (d9 l (by omega)) ?_;refine X1 _ (d9 m (by omega)) ?_;refine ⟨trivial, r1 (boE ?_), trivial⟩;rw [decide_eq_false fun e => h (by rw [e])];simpa using h
 ·refine X1 _ (d9 l (by omega)) ?_;refine aW (fun h2 => ?_) (fun h2 => ?_)
  ·refine X1 _ (d9 l (by omega)) ?_;refine X1 _ (d9 m (by omega)) ?_;refine ⟨trivial, r1 (boE ?_), trivial⟩;have e1 : l = [] := Eb.1 (by omega);have e2 : m = [] := Eb.1 (by omega);subst e1 e2;rfl
  ·refine X1 _ (t7 (aZ l) (aZ m) (by omega) (by omega)) ?_;refine .intro rfl ?_;refine ⟨trivial, r1 (boE ?_), trivial⟩;by_cases e : l = m
   ·subst e; simp
   ·rw [decide_eq_false e, decide_eq_false fun hw => e (t6 (by omega) hw)]
theorem Ba (v : Nat) (hv : v ≤ 1) : Ct P 147 [nV v] [.c (nI .u64 v), .c (.sc (.bool true))] := by
 have hc : v = 0 ∨ v = 1 := by omega
 rcases hc with rfl | rfl
 ·rw [show nV 0 = .ag [nSl .u64 []] from by rw [← bs 18446744073709551616]];refine Ct.go aj aa (N := 15) Tryz.func147 rfl rfl rfl rfl ?_;refine .intro (by decide) ?_;exact ⟨trivial, r1 rfl, r1 rfl, trivial⟩
 ·have e : dg 18446744073709551616 1 = [1] := by rw [gr (by omega) (by omega), show 1 / 18446744073709551616 = 0 from rfl, bs]
  rw [show nV 1 = .ag [nSl .u64 [1]] from by rw [← e]];refine Ct.go aj aa (N := 15) Tryz.func147 rfl rfl rfl rfl ?_;refine .intro (by decide) ?_;refine .intro (by decide) (X1 _ rfl ?_);exact ⟨trivial, r1 rfl, r1 rfl, trivial⟩
theorem og : aZ [] = [] := by unfold aZ; rw [show needW ([] : List Bool).length = 0 from rfl]; rfl
theorem CK (v k j : Nat) (hv : v < 2 ^ j) (hj : j ≤ 900000) (hk : k ≤ 900000) : Ct P 101 [nV v, .c (nI .i64 k)] [.c (bP (db v k))] := by
 have l1 := gf hv (by omega);refine Ct.go (Ty.own_ok [16] aj) aa (N := 39) Tryz.func101 rfl rfl rfl rfl ?_;refine X2 (.own [] [(2, 60)]) ?_;refine ⟨_, _, uX, ?_⟩;refine X1 ((k : Int) - 1) (wI rfl (by omega) (by omega)) ?_;refine pM (r := 61) (k := 60) (i := 0) (sz := 1) rfl rfl rfl ?_;refine ar (Ty.own_ok [16] aj) aa (fun i : Nat => i ≤ k) (fun i => [(2, .c (.ad 2 0)), (5, .c (.ad 60 0)), (6, .c (eI .i64 ((i : Int) - 1)))])
  (fun i => [(2, .var (nV v).cells), (60, .var [.ow 61 1 (needW (db (v / 2 ^ i) (k - i)).length), nI .i64 (db (v / 2 ^ i) (k - i)).length]), (61, .row 1 (aD .u64 (aZ (db (v / 2 ^ i) (k - i)))))]) (fun i => i)
  k (by omega) ⟨rfl, rfl, rfl, trivial⟩ ⟨rfl, by rw [Gq, show db (v / 2 ^ k) 0 = [] from rfl, show needW ([] : List Bool).length = 0 from rfl]; rfl, by rw [Gq, show db (v / 2 ^ k) 0 = [] from rfl, og]; rfl, trivial⟩ (fun _ : Unit => True) (fun _ => [(5, .c (.ad 60 0))]) (fun _ => [(60, .var [.ow 61 1 (needW (db v k).length), nI .i64 (db v k).length]), (61, .row 1 (aD .u64 (aZ (db v k))))]) (fun i hi => ?_) (fun _ _ => ?_)
 ·refine ae (fun h1 => ?_) (fun h1 => ?_)
  ·obtain ⟨i, rfl⟩ : ∃ n, i = n + 1 := ⟨i - 1, by omega⟩;have hb : v / 2 ^ i ≤ v := EY _ _;have hb2 : v / 2 ^ i / 2 ^ 1 ≤ v / 2 ^ i := EY _ _;have lb := gf (v := v / 2 ^ i) (by omega) (by omega : j ≤ 2000000);have lb2 := gf (v := v / 2 ^ i / 2 ^ 1) (by omega) (by omega : j ≤ 2000000);have lb3 : v / 2 ^ i / 2 ^ 1 * 2 ^ 1 ≤ v / 2 ^ i := Nat.div_mul_le_self _ _;have lb4 : v / 2 ^ i - v / 2 ^ i / 2 ^ 1 * 2 ^ 1 = v / 2 ^ i % 2 := by rw [Nat.pow_one]; omega
   have hbits : db (v / 2 ^ i) (k - i) = db (v / 2 ^ (i + 1)) (k - (i + 1)) ++ [decide (v / 2 ^ i % 2 = 1)] := by
    rw [show k - i = k - (i + 1) + 1 by omega, db, Fw, ← Er]
   have hbl := iK (k - (i + 1)) (v / 2 ^ (i + 1));have hbt : (decide (v / 2 ^ i % 2 = 1)).toNat = v / 2 ^ i % 2 := by
    by_cases h : v / 2 ^ i % 2 = 1
    ·rw [decide_eq_true h, h]; rfl
    ·rw [decide_eq_false h]; show 0 = _; omega
   have hadd := uY (db (v / 2 ^ (i + 1)) (k - (i + 1))) (decide (v / 2 ^ i % 2 = 1)) (by omega);refine X1 _ (show Ct P 146 [nV v, .c (eI .i64 (((i + 1 : Nat) : Int) - 1))] [nV (v / 2 ^ i)] by rw [show ((i + 1 : Nat) : Int) - 1 = (i : Int) by omega]; exact pX v i (by omega) (by omega)) ?_;refine X1 _ (pX (v / 2 ^ i) 1 (by omega) (by omega)) ?_;refine X1 _ (oU (v / 2 ^ i / 2 ^ 1) 1 (by omega) (by omega)) ?_;refine X1 _ (ul _ _ lb3 (by omega)) ?_;rw [lb4];refine .intro rfl ?_;refine X1 _ (Ba _ (by omega)) ?_;rw [← hbt];refine X2 (.own [(60, 1000000), (61, 1000001)] [(1000000, 60), (200, 61)]) ?_;refine ⟨_, _, hadd, ?_⟩;refine X1 ((i : Int) - 1) (wI (by omega) (by omega) (by omega)) ?_;rw [← hbits];exact ⟨i, by omega, by omega, ⟨rfl, rfl, rfl, trivial⟩, ⟨rfl, rfl, rfl, trivial⟩⟩
  ·have e : i = 0 := by omega
   subst e;exact ⟨(), trivial, ⟨rfl, trivial⟩, ⟨by rw [Gn, Gu, FF]; rfl, by rw [Gn, Gu, FF]; rfl, trivial⟩⟩
 ·exact ⟨trivial, r1 rfl, trivial⟩
theorem we (l : List Bool) (i : Nat) (hi : i < l.length) : valB (l.take (i + 1)) = 2 * valB (l.take i) + (l.getD i false).toNat := by
 rw [DL hi, pk, DG, D7 hi, Fe]
theorem t8 (l : List Bool) (hl : l.length ≤ 900000) : Ct P 50 [.c (bP l)] [qP (ox l)] := by
 have hlt := fun i => DS (mD (l.take i)) (D3 (n := 2) (by omega) (show (l.take i).length ≤ l.length by rw [DV]; omega))
 refine Ct.go aj aa (N := 31) Tryz.func50 rfl rfl rfl rfl ?_;refine X1 _ (fJ 0 (by omega)) ?_;refine X1 _ (d9 l (by omega)) ?_;refine ar aj aa (fun i : Nat => i ≤ l.length) (fun i => [(0, .c (bP l)), (2, .c (.ad 2 0)), (3, .c (.ad 3 0)), (9, .c (nI .i64 l.length)), (10, .c (nI .i64 i))])
  (fun i => [(2, .var [.sc (.slice none 0 0), .sc (.slice none 0 0)]), (3, .var (nV (valB (l.take i))).cells)]) (fun i => l.length - i)
  0 (by omega) ⟨rfl, rfl, rfl, rfl, rfl, trivial⟩ ⟨rfl, rfl, trivial⟩ (fun _ : Unit => True) (fun _ => [(0, .c (bP l)), (2, .c (.ad 2 0)), (3, .c (.ad 3 0))]) (fun _ => [(2, .var [.sc (.slice none 0 0), .sc (.slice none 0 0)]), (3, .var (nV (valB l)).cells)]) (fun i hi => ?_) (fun _ _ => ?_)
 ·refine ae (fun h1 => ?_) (fun h1 => ?_)
  ·have hi' : i < l.length := by omega
   have hlen := gf (hlt i) (by omega);have hb : (l.getD i false).toNat ≤ 1 := by cases l.getD i false <;> decide
   have l2 := gf (v := valB (l.take i) * 2 ^ 1) (k := l.length + 1) (kD (hlt i)) (by omega);have l3 := gf (v := (l.getD i false).toNat) (k := 1) (by omega) (by omega);have hv : valB (l.take i) * 2 ^ 1 + (l.getD i false).toNat = valB (l.take (i + 1)) := by rw [we l i hi', Nat.pow_one]; omega
   refine X1 _ (oU _ 1 (by omega) (by omega)) ?_;refine X1 _ (A9 l i (by omega) hi') ?_;refine X1 _ (fJ _ (by omega)) ?_;refine X1 _ (mm _ _ (by omega) (by omega)) ?_;rw [hv];refine X1 ((i + 1 : Nat) : Int) (wI1 (by omega)) ?_;exact ⟨i + 1, by omega, by omega, ⟨rfl, rfl, rfl, rfl, rfl, trivial⟩, ⟨rfl, rfl, trivial⟩⟩
  ·have e : i = l.length := by omega
   subst e;exact ⟨(), trivial, ⟨rfl, rfl, rfl, trivial⟩, ⟨rfl, by rw [Ek]; rfl, trivial⟩⟩
 ·have h1 : (1 : Nat) < 2 ^ (l.length + 1) := DS (by decide) (D3 (n := 2) (by omega) (show 1 ≤ l.length + 1 by omega));have l1 := gf h1 (by omega);refine X1 _ (fJ 1 (by omega)) ?_;refine X1 _ (d9 l (by omega)) ?_;refine X1 _ (oU 1 l.length (by omega) (by omega)) ?_;rw [Es];refine X1 _ (kC (k := l.length + 1) (Nat.pos_iff_ne_zero.1 (Ex _)) (DS (mD l) (D3 (by omega) (by omega))) (Nat.pow_lt_pow_right (by omega) (by omega)) (by omega)) ?_;refine .intro rfl ?_;exact ⟨trivial, rc rfl, trivial⟩
theorem CL {p : Fr2 × Fr2} {j k : Nat} (h : Bd j p.1) : vK p k < 2 ^ (j + k + 1) := by
 have h1 : Bd (j + k) (p.1.1 * 2 ^ k, p.1.2) := ⟨h.pos, kD h.n, DS h.d (D3 (by omega) (by omega))⟩;exact CF h1
theorem Bb {p : Fr2 × Fr2} {j k0 : Nat} (h1 : Bd j p.1) (h2 : Bd j p.2) (hr : Nat.gcd p.1.1 p.1.2 = 1) (hc : IsCode p k0) (hj : j ≤ 120000) (hk : k0 ≤ 300000) : Ct P 47 [pA p] [.c (bP (db (vK p k0) k0))] := by
 have he := eX h1 h2;refine Ct.go aj aa (N := 32) Tryz.func47 rfl rfl rfl rfl ?_;refine b8 aj aa (fun k : Nat => k ≤ k0) (fun k => [(1, .c (.ad 1 0)), (3, .c (nI .i64 k))]) (fun _ => [(1, .var (pA p).cells)]) (fun k => k0 - k)
  0 (by omega) ⟨rfl, rfl, trivial⟩ ⟨rfl, trivial⟩ (fun k hk' => ?_)
 have ht := sy (j := k) h1;have hup : upF (fR (p.1.1 * 2 ^ k) p.1.2) = vK p k := CC h1.pos;have hv := CL (k := k) h1;have hv1 : vK p k + 1 < 2 ^ (j + k + 2) := by rw [Er]; omega
 have ho : (1 : Nat) < 2 ^ (j + k + 2) := DS (by decide) (D3 (n := 2) (by omega) (show 1 ≤ j + k + 2 by omega));have lo := gf ho (by omega);have lv := gf hv (by omega);have hte := sy (j := k) he;have hw : fR (vK p k + 1) 1 = (vK p k + 1, 1) := uA (Gs _);have hof := kC (k := j + k + 2) (n := vK p k + 1) (d := 1) (by omega) hv1 ho (by omega);rw [hw] at hof;have hcmp := mr (vK p k + 1) 1 (fR ((bE p.1 p.2).1 * 2 ^ k) (bE p.1 p.2).2).1 (fR ((bE p.1 p.2).1 * 2 ^ k) (bE p.1 p.2).2).2 (ck (aF hv1 (by omega)) (by omega)) (ck hte (by omega));rw [iX hte.pos, show dn 1 = 1 from rfl, E6] at hcmp;have hup2 := CG ht (by omega);rw [hup] at hup2;refine X1 _ (sA h1 (by omega)) ?_;refine X1 _ hup2 ?_;refine X1 _ (fJ 1 (by omega)) ?_;refine X1 _ (mm _ _ (by omega) (by omega)) ?_;refine X1 _ (fJ 1 (by omega)) ?_;refine X1 _ hof ?_;refine .intro rfl ?_;refine X1 _ (uT h1 h2 hr (by omega)) ?_;refine X1 _ (sA he (by omega)) ?_;refine X1 _ hcmp ?_;refine .intro rfl ?_;have hgood : good p k = true ↔ bC (((vK p k + 1) * (fR ((bE p.1 p.2).1 * 2 ^ k) (bE p.1 p.2).2).2 : Nat) : Int) (((fR ((bE p.1 p.2).1 * 2 ^ k) (bE p.1 p.2).2).1 : Nat) : Int) ≤ 0 := by
  unfold good jq;rw [decide_eq_true_eq, ← De he.pos];unfold bC;split
  ·exact ⟨fun _ => by omega, fun _ => by omega⟩
  ·split
   ·exact ⟨fun _ => by omega, fun _ => by omega⟩
   ·exact ⟨fun _ => by omega, fun _ => by omega⟩
 refine ae (fun h5 => ?_) (fun h5 => ?_)
 ·have hg := hgood.2 h5;have e : k = k0 := by
   rcases Ew k k0 with h | h
   ·have := hc.least k h; rw [hg] at this; cases this
   ·omega
  subst e;refine X1 _ (CK (vK p k) k (j + k + 1) hv (by omega) (by omega)) ?_;exact ⟨trivial, r1 rfl, trivial⟩
 ·have hne : k ≠ k0 := fun e => h5 (hgood.1 (by rw [e]; exact hc.good))
  refine X1 ((k + 1 : Nat) : Int) (wI (by simp) (by omega) (by omega)) ?_;exact ⟨k + 1, by omega, by omega, ⟨rfl, rfl, trivial⟩, ⟨rfl, trivial⟩⟩
end
section
def inB (n : Nat) (w : Int) : Bool := decide (0 ≤ w) && decide (w < n)
theorem inB_iff {n : Nat} {ids : List Int} : ids.all (inB n) = true ↔ InW n ids := by
 unfold inB InW;rw [EB];simp
def oh (n : Nat) (ids : List Int) : Int := if ids.length > 64 then 5 else if ids.all (inB n) = true then 0 else 8
theorem zs {n : Nat} {ids : List Int} (h : oh n ids = 0) : ids.length ≤ 64 ∧ InW n ids := by
 unfold oh at h;split at h
 ·omega
 ·split at h
  ·rename_i h1 h2; exact ⟨by omega, inB_iff.1 h2⟩
  ·omega
section
variable {Lc : List (List Cnt)} {n B : Nat}
theorem t9 (hx : XOk Lc n) (ids : List Int) (hl : ids.length ≤ 1000000) : CtO P 43 (xE Lc n) [.c (.ad 1000000 0), .c (iSl ids)] (xE Lc n) [.c (eI .i64 (oh n ids))] := by
 have h6 := hx.w6;refine Ct.io aj aa (N := 29) Tryz.func43 rfl rfl rfl rfl ?_;refine .intro (by rw [ai]; omega) ?_;rw [ai];refine ae (fun h1 => ?_) (fun h1 => ?_)
 ·exact ⟨trivial, cT (l := []) rfl rfl rfl trivial, r1 (iE (by rw [oh, if_pos (by omega)])), trivial⟩
 refine .intro (by rw [ai]; omega) ?_;rw [ai];refine ar aj aa (fun i : Nat => i ≤ ids.length ∧ (ids.take i).all (inB n) = true) (fun i => [(0, .c (.ad 1000000 0)), (14, .c (iSl ids)), (15, .c (nI .i64 ids.length)), (16, .c (nI .i64 i))]) (fun _ => [(1000000, xC Lc n 1000001), (1000001, .me false (MOk Lc))]) (fun i => ids.length - i)
  0 ⟨by omega, rfl⟩ ⟨rfl, rfl, rfl, rfl, trivial⟩ ⟨rfl, rfl, trivial⟩ (fun _ : Unit => ids.all (inB n) = true) (fun _ => []) (fun _ => [(1000000, xC Lc n 1000001), (1000001, .me false (MOk Lc))]) (fun i hi => ?_) (fun _ hp => ?_)
 ·obtain ⟨i1, i2⟩ := hi;refine ae (fun h2 => ?_) (fun h2 => ?_)
  ·have hi' : i < ids.length := by omega
   have hget : (aP ids)[((i : Nat) : Int).toNat]? = some [eI .i64 ids[i]] := by rw [Ei]; simp [aP, hi']
   have hts : ids.take (i + 1) = ids.take i ++ [ids[i]] := DL hi';have hbad : inB n ids[i] = false → oh n ids = 8 := fun hb => by
    rw [oh, if_neg (by omega), if_neg];intro ha;rw [EB] at ha;rw [ha _ (DU hi')] at hb; cases hb
   refine .intro (by omega) (X1 _ hget ?_);generalize ids[i] = w at *
   refine ae (fun h3 => ?_) (fun h3 => ?_)
   ·exact ⟨trivial, cT (l := []) rfl rfl rfl trivial, r1 (iE (by rw [hbad (by unfold inB; rw [decide_eq_false (by omega)]; rfl)])), trivial⟩
   ·refine X2 (.own σx σx) ?_;refine ⟨_, _, ga, ?_⟩;refine ae (fun h4 => ?_) (fun h4 => ?_)
    ·exact ⟨trivial, cT (l := []) rfl rfl rfl trivial, r1 (iE (by rw [hbad (by unfold inB; rw [decide_eq_false (show ¬ w < (n : Int) by omega), GE])])), trivial⟩
    ·refine X1 ((i + 1 : Nat) : Int) (wI1 (by omega)) ?_;refine ⟨i + 1, ⟨by omega, ?_⟩, by omega, ⟨rfl, rfl, rfl, rfl, trivial⟩, ⟨rfl, rfl, trivial⟩⟩;rw [hts, List.all_append, i2];simp [inB]; omega
  ·have e : i = ids.length := by omega
   subst e;rw [Ek] at i2;exact ⟨(), i2, trivial, ⟨rfl, rfl, trivial⟩⟩
 ·exact ⟨trivial, cT (l := []) rfl rfl rfl trivial, r1 (iE (by rw [oh, if_neg (by omega), if_pos hp])), trivial⟩
noncomputable def kOf (p : Fr2 × Fr2) : Nat := by classical exact if h : ∃ k, IsCode p k then h.choose else 0
theorem zt {p : Fr2 × Fr2} {k : Nat} (h : IsCode p k) : kOf p = k := by
 have hx : ∃ k, IsCode p k := ⟨k, h⟩;unfold kOf;rw [dif_pos hx];exact hx.choose_spec.uniq h
theorem qz {p : Fr2 × Fr2} {j : Nat} (h1 : Bd j p.1) (h2 : Bd j p.2) (h0 : p.2.1 ≠ 0) : IsCode p (kOf p) ∧ kOf p ≤ j + 1 := by
 have b2 : (0 : Rat) < p.2.2 := Fo.2 (Ec h2.pos);have hg : good p (j + 1) = true := by
  refine A6 h1.pos h2.pos ?_;have e : ((2 ^ (j + 1) : Nat) : Rat) * qv p.2 = (((2 ^ (j + 1) : Nat) : Rat) * p.2.1) / p.2.2 := by unfold qv; grind
  rw [e, gC b2];have h3 : 2 * p.2.2 ≤ 2 ^ (j + 1) * p.2.1 := by
   have := h2.d;have h4 : 2 ^ (j + 1) * 1 ≤ 2 ^ (j + 1) * p.2.1 := EA _ (by omega);rw [Er] at h4 ⊢;omega
  have := Fk.2 h3;simp only [EJ] at this;exact this
 obtain ⟨k, hk, hc⟩ := zm hg;rw [zt hc];exact ⟨hc, hk⟩
def eG (Lc : List (List Cnt)) (n : Nat) (ids : List Int) : Fr2 × Fr2 := bz Lc n (ids ++ [2])
noncomputable def encB (Lc : List (List Cnt)) (n : Nat) (ids : List Int) : List Bool := db (vK (eG Lc n ids) (kOf (eG Lc n ids))) (kOf (eG Lc n ids))
def mb (Lc : List (List Cnt)) (n : Nat) (ids : List Int) : Int := if oh n ids ≠ 0 then oh n ids else if idx 1 ids ≥ 0 ∨ idx 2 ids ≥ 0 then 1 else if (eG Lc n ids).2.1 = 0 then 7 else 0
noncomputable def encR (Lc : List (List Cnt)) (n : Nat) (ids : List Int) : A1 := if mb Lc n ids = 0 then .c (bP (encB Lc n ids)) else sF
theorem zu {ids : List Int} (h : mb Lc n ids = 0) : ids.length ≤ 64 ∧ InW n ids ∧ idx 1 ids < 0 ∧ idx 2 ids < 0 ∧ (eG Lc n ids).2.1 ≠ 0 := by
 unfold mb at h;split at h
 ·rename_i h1; exact absurd h h1
 ·rename_i h1;obtain ⟨a1, a2⟩ := zs (by omega : oh n ids = 0);split at h
  ·omega
  ·split at h
   ·omega
   ·rename_i h2 h3;exact ⟨a1, a2, by omega, by omega, h3⟩
theorem oi (hB : SB Lc n B) (h2 : 2 < n) {ids : List Int} (hw : InW n ids) : Bd (1 + B * (ids.length + 1)) (eG Lc n ids).1 ∧ Bd (1 + B * (ids.length + 1)) (eG Lc n ids).2 ∧ Nat.gcd (eG Lc n ids).1.1 (eG Lc n ids).1.2 = 1 := by
 have hw2 : InW n (ids ++ [2]) := fun x hx => by
  rcases Ej.1 hx with hx | hx
  ·exact hw x hx
  ·simp at hx; subst hx; omega
 have := uV hB hw2 (ids.length + 1) (by simp);rw [Em (by simp)] at this;exact this
theorem zw (ids : List Int) : (encB Lc n ids).length = kOf (eG Lc n ids) := iK _ _
theorem lm (hB : SB Lc n B) (h2 : 2 < n) (ids : List Int) (hl : ids.length ≤ 24) : CtO P 13 (xE Lc n) [.c (.ad 1000000 0), .c (iSl ids)] (xE Lc n) [encR Lc n ids, .c (eI .i64 (mb Lc n ids))] := by
 have hb := hB.b;refine Ct.keep (Ty.own_ok [46] aj) aa [] (N := 31) Tryz.func13 rfl rfl rfl rfl ?_;refine X2 (.own σx σx) ?_;refine ⟨_, _, t9 hB.x ids (by omega), ?_⟩;refine ed (fun h1 => ?_) (fun h1 => ?_)
 ·have e : mb Lc n ids = oh n ids := if_pos h1;have e2 : encR Lc n ids = sF := if_neg (by rw [e]; exact h1);rw [e, e2];exact ⟨trivial, cT (l := []) rfl rfl rfl trivial, r1 rfl, r1 rfl, trivial⟩
 obtain ⟨_, hw⟩ := zs h1;have e0 : mb Lc n ids = if idx 1 ids ≥ 0 ∨ idx 2 ids ≥ 0 then 1 else if (eG Lc n ids).2.1 = 0 then 7 else 0 := if_neg (by omega)
 refine X1 _ (gV ids 1 (by omega)) ?_;refine ae (fun h3 => ?_) (fun h3 => ?_)
 ·rw [if_pos (.inl h3)] at e0;have e2 : encR Lc n ids = sF := if_neg (by rw [e0]; decide);rw [e0, e2];exact ⟨trivial, cT (l := []) rfl rfl rfl trivial, r1 rfl, r1 rfl, trivial⟩
 refine X1 _ (gV ids 2 (by omega)) ?_;refine ae (fun h4 => ?_) (fun h4 => ?_)
 ·rw [if_pos (.inr h4)] at e0;have e2 : encR Lc n ids = sF := if_neg (by rw [e0]; decide);rw [e0, e2];exact ⟨trivial, cT (l := []) rfl rfl rfl trivial, r1 rfl, r1 rfl, trivial⟩
 rw [if_neg (by omega)] at e0;have hw2 : InW n (ids ++ [2]) := fun x hx => by
  rcases Ej.1 hx with hx | hx
  ·exact hw x hx
  ·simp at hx; subst hx; omega
 obtain ⟨b1, b2, b3⟩ := oi hB h2 hw;have hBl : B * (ids.length + 1) ≤ 4000 * 25 := EO hb (by omega);refine X2 (.own [] [(5, 68)]) ?_;refine ⟨_, _, k7 ids (by omega), ?_⟩;refine ⟨by rw [ai], by rw [ai]; show (ids.length + 1 + 768) * 8 ≤ _; omega, by rw [ai]; show ids.length + 1 ≤ _; omega, bm, au rfl, ?_⟩;refine X2 (.own [(1000000, 1000000), (1000001, 1000001), (68, 1000002)] [(1000000, 1000000), (1000001, 1000001), (1000002, 68)]) ?_;refine ⟨_, _, zr hB (ids ++ [2]) hw2 (by simp; omega) _ (by simp [aP]; rfl) _ (by show ((aP ids) ++ _).length = _; simp [aP]), ?_⟩;refine X1 _ (kf _ _ (DM (gf b2.n (by omega)) (by omega))) ?_;refine aM (fun h5 => ?_) (fun h5 => ?_)
 ·have h6 : (bz Lc n (ids ++ [2])).2.1 = 0 := by simpa using h5
  rw [if_pos (show (eG Lc n ids).2.1 = 0 from h6)] at e0;have e2 : encR Lc n ids = sF := if_neg (by rw [e0]; decide);rw [e0, e2];exact ⟨trivial, cT (l := []) rfl rfl rfl trivial, r1 rfl, r1 rfl, trivial⟩
 ·have h6 : (eG Lc n ids).2.1 ≠ 0 := fun h => by
   have : (bz Lc n (ids ++ [2])).2.1 = 0 := h;rw [this] at h5; simp at h5
  rw [if_neg h6] at e0;have e2 : encR Lc n ids = .c (bP (encB Lc n ids)) := if_pos e0;obtain ⟨c1, c2⟩ := qz b1 b2 h6;rw [e0, e2];refine X1 _ (Bb b1 b2 b3 c1 (by omega) (by omega)) ?_;exact ⟨trivial, cT (l := []) rfl rfl rfl trivial, r1 rfl, r1 rfl, trivial⟩
end
end
section
section
variable {Lc : List (List Cnt)} {n B : Nat}
theorem ol {h : List Int} {u : Fr2} : ∀ (f v : Nat), (∀ k, v ≤ k → k < v + f → inP Lc n h u k = false) → ph Lc n h u f v = -1
 | 0, v, _ => rfl
 | f + 1, v, hm => by
  unfold ph;rw [if_neg (by rw [hm v (by omega) (by omega)]; simp)];exact ol f (v + 1) fun k h1 h2 => hm k (by omega) (by omega)
theorem zx (hB : SB Lc n B) (H : List Int) (hP : uU Lc n H) (u : Fr2) {j : Nat} (hu : Bd j u) (hj : j ≤ 900000) : CtO P 29 (xX Lc n (hO H)) [.c (.ad 1000000 0), .c (.ow 1000002 1 H.length), qP u] (xX Lc n (hO H)) [.c (eI .i64 (iY Lc n H u))] := by
 have h6 := hB.x.w6;have hb := hB.b;refine Ct.io aj aa (N := 27) Tryz.func29 rfl rfl rfl rfl ?_;refine X2 (.own σ3 νP) ?_;refine ⟨_, _, sB H, ?_⟩;refine yb aj aa σP [1000000, 1000001, 1000002] (pn hB H hP) Tryz.func114 rfl rfl rfl rfl rfl rfl rfl sC [5, 6] rfl (G := Unit) (fun i _ => i ≤ n ∧ ∀ k, k < i → inP Lc n H u k = false) (fun _ _ => [(5, .c (.ad 5 0)), (6, .c (.ad 6 0))])
  (fun _ _ => [(5, .var (qP u).cells), (6, .var [eI .i64 0])]) () ⟨by omega, fun k hk => by omega⟩ ⟨rfl, rfl, trivial⟩ ⟨rfl, rfl, trivial⟩ (fun _ _ => rfl) (fun i _ args hg hi => ?_) (fun _ hi => ?_)
 ·obtain ⟨hin, rfl⟩ := po hg;obtain ⟨i1, i2⟩ := hi;have hsb := hB.sum H (w := i) (by omega);have hpb := hB.prob H (i : Int);have hend := uT (p := dL Lc n H i) (j := B) (k := B) (show Bd B (bq Lc n H (i : Int).toNat) by rw [Ei]; exact hsb) hpb (show Nat.gcd (bq Lc n H (i : Int).toNat).1 (bq Lc n H (i : Int).toNat).2 = 1 by rw [Ei]; exact pg hB.x H i) (by omega);have hsb2 : Bd B (bq Lc n H (i + 1)) := hB.sum H (w := i + 1) (by omega);have e1 : bE (dL Lc n H i).1 (dL Lc n H i).2 = bq Lc n H (i + 1) := by show bE (bq Lc n H (i : Int).toNat) _ = _; rw [Ei]; rfl
  rw [e1] at hend;have e2 : (dL Lc n H i).1 = bq Lc n H i := by show bq Lc n H (i : Int).toNat = _; rw [Ei]
  have hc1 := mr u.1 u.2 (bq Lc n H i).1 (bq Lc n H i).2 (ck hu (by omega)) (ck hsb (by omega));have hc2 := mr u.1 u.2 (bq Lc n H (i + 1)).1 (bq Lc n H (i + 1)).2 (ck hu (by omega)) (ck hsb2 (by omega));rw [iX hsb.pos, iX hu.pos] at hc1;rw [iX hsb2.pos, iX hu.pos] at hc2;rw [← e2] at hc1;have hin1 : inP Lc n H u i = (decide (bC ((u.1 * (bq Lc n H i).2 : Nat) : Int) (((bq Lc n H i).1 * u.2 : Nat) : Int) ≥ 0) && decide (bC ((u.1 * (bq Lc n H (i + 1)).2 : Nat) : Int) (((bq Lc n H (i + 1)).1 * u.2 : Nat) : Int) < 0)) := by
   unfold inP;congr 1
   ·refine decide_eq_decide.2 ?_;unfold bC;split
    ·constructor <;> intro h <;> omega
    ·split <;> constructor <;> intro h <;> omega
   ·refine decide_eq_decide.2 ?_;rw [cmpI_lt];omega
  rw [← e2] at hin1;have next : inP Lc n H u i = false → ∃ g' : Unit, (i + 1 ≤ n ∧ ∀ k, k < i + 1 → inP Lc n H u k = false) := fun hf => ⟨(), by omega, fun k hk => by
   by_cases e : k = i
   ·rw [e]; exact hf
   ·exact i2 k (by omega)⟩
  refine X1 _ hc1 ?_;refine ae (fun h1 => ?_) (fun h1 => ?_)
  ·refine X1 _ hend ?_;refine X1 _ hc2 ?_;refine .intro rfl ?_;refine ae (fun h2 => ?_) (fun h2 => ?_)
   ·rw [decide_eq_true h1, decide_eq_true h2] at hin1;have e : iY Lc n H u = i := iJ hB.x hu.pos hin hin1;refine ⟨[(6, .c (.ad 6 0))], [(6, .var [nI .i64 i])], ⟨rfl, trivial⟩, ⟨rfl, trivial⟩, (fun p hp => by simp at hp; subst hp; rfl), ?_⟩;rw [e];exact ⟨trivial, cT (l := [(1000002, .row 1 (aP H))]) rfl rfl rfl ⟨rfl, trivial⟩, rc rfl, trivial⟩
   ·rw [decide_eq_false h2, GE] at hin1;obtain ⟨_, g1, g2⟩ := next hin1;exact ⟨(), ⟨g1, g2⟩, ⟨rfl, rfl, trivial⟩, ⟨rfl, rfl, trivial⟩⟩
  ·rw [decide_eq_false h1, Bool.false_and] at hin1;obtain ⟨_, g1, g2⟩ := next hin1;refine .intro rfl ?_;exact ⟨(), ⟨g1, g2⟩, ⟨rfl, rfl, trivial⟩, ⟨rfl, rfl, trivial⟩⟩
 ·obtain ⟨i1, i2⟩ := hi;have hlen : (gh Lc n H).length = n := by simp [gh]
  have e : iY Lc n H u = -1 := ol _ 0 fun k _ hk => i2 k (by rw [hlen]; omega)
  rw [e];exact ⟨trivial, cT (l := [(1000002, .row 1 (aP H))]) rfl rfl rfl ⟨rfl, trivial⟩, rc rfl, trivial⟩
end
end
section
section
variable {Lc : List (List Cnt)} {n B : Nat}
noncomputable def decV (Lc : List (List Cnt)) (n : Nat) (l : List Bool) (M : Nat) : Option (List Int) := ma Lc n (M + 1) [1] (ox l)
def ln (Lc : List (List Cnt)) (n : Nat) (l : List Bool) (ids : List Int) : Prop := mb Lc n ids = 0 ∧ encB Lc n ids = l
def wg (Lc : List (List Cnt)) (n : Nat) (l : List Bool) (M : Nat) (r : A1) (e : Int) : Prop := match decV Lc n l M with
 | none => r = .c (.sc (.slice none 0 0)) ∧ e = 5
 | some ids => (ln Lc n l ids ∧ r = .c (iSl ids) ∧ e = 0) ∨ (¬ ln Lc n l ids ∧ r = .c (.sc (.slice none 0 0)) ∧ e = 3)
theorem zy (l : List Bool) : qv (ox l) < 1 := by
 rw [(oc l).2, Gr (ge _), Rat.one_mul];exact Rat.natCast_lt_natCast.2 (mD l)
theorem Bc (l : List Bool) {k : Nat} (hl : l.length ≤ k) : Bd (k + 1) (ox l) :=
 oV (Nat.pos_iff_ne_zero.1 (Ex _)) (DS (mD l) (D3 (by omega) (by omega))) (Nat.pow_lt_pow_right (by omega) (by omega))
theorem Dj (m : Int) : min (max m 0) 64 = if 64 < (if 0 > m then 0 else m) then 64 else (if 0 > m then 0 else m) := by
 repeat' split
 all_goals omega
set_option maxHeartbeats 1000000 in
theorem pq (hB : SB Lc n B) (h2 : 2 < n) (l : List Bool) (hl : l.length ≤ 4096) (most : Int) (M : Nat) (hM : ((M : Nat) : Int) = min (max most 0) 64) (hM2 : M ≤ 24) (hmo : -1000 ≤ most) (hmo2 : most ≤ 1000) :
  ∃ r e, wg Lc n l M r e ∧ CtO P 18 (xE Lc n) [.c (.ad 1000000 0), .c (bP l), .c (eI .i64 most)] (xE Lc n) [r, .c (eI .i64 e)] := by
 have hb := hB.b;have hx := hB.x;generalize hdv : decV Lc n l M = dv;have hfin : ∃ r e, wg Lc n l M r e := by
  unfold wg;rw [hdv]
  cases dv with
  | none => exact ⟨_, _, rfl, rfl⟩
  | some ids =>
   by_cases hc : ln Lc n l ids
   ·exact ⟨_, _, .inl ⟨hc, rfl, rfl⟩⟩
   ·exact ⟨_, _, .inr ⟨hc, rfl, rfl⟩⟩
 obtain ⟨r, e, hR⟩ := hfin
 refine ⟨r, e, hR, ?_⟩;unfold wg at hR;rw [hdv] at hR;refine Ct.keep aj aa [] (N := 73) Tryz.func18 rfl rfl rfl rfl ?_;refine X1 _ (d9 l (by omega)) ?_;refine ae (fun h1 => absurd h1 (by omega)) (fun _ => ?_);refine X1 _ (t8 l (by omega)) ?_;refine wZ (G := List Int × Fr2) aj aa (fun (ids, u) => ids.length ≤ M ∧ qv u < 1 ∧ Bd (4097 + 2 * B * ids.length) u ∧ ma Lc n (M + 1 - ids.length) ([1] ++ ids) u = dv)
  (fun (ids, u) => [(0, .c (.ad 1000000 0)), (1, .c (bP l)), (2, .c (eI .i64 most)), (8, .c (.ad 8 0)), (9, .c (.ow 24 1 (ids.length + 1)))])
  (fun (ids, u) => [(1000000, xC Lc n 1000001), (1000001, .me false (MOk Lc)), (8, .var (qP u).cells), (24, .row 1 (aP ([1] ++ ids)))]) (fun (ids, u) => M + 1 - ids.length)
  ([], ox l) ⟨by simp, zy l, Bc l hl, hdv⟩ ⟨rfl, rfl, rfl, rfl, rfl, trivial⟩ ⟨rfl, rfl, rfl, rfl, trivial⟩ (fun ids : List Int => ids.length ≤ M ∧ dv = some ids) (fun ids => [(0, .c (.ad 1000000 0)), (1, .c (bP l)), (9, .c (.ow 24 1 (ids.length + 1)))])
  (fun ids => [(1000000, xC Lc n 1000001), (1000001, .me false (MOk Lc)), (24, .row 1 (aP ([1] ++ ids)))]) (fun (ids, u) hi => ?_) (fun ids hp => ?_)
 ·obtain ⟨i1, i2, i3, i4⟩ := hi;have hBi : 2 * B * ids.length ≤ 2 * 4000 * 24 := EO (by omega) (by omega);have hlen : ([1] ++ ids).length = ids.length + 1 := by simp
  have hP := hB.probO ([1] ++ ids) (by omega) (by omega);obtain ⟨w, hw, hin, hpk⟩ := A3 hx hB.e ([1] ++ ids) i3.pos i2;have hpi := zx hB ([1] ++ ids) hP u i3 (by omega);rw [hpk, hlen] at hpi;refine X2 (.own [(1000000, 1000000), (1000001, 1000001), (24, 1000002)] [(1000000, 1000000), (1000001, 1000001), (1000002, 24)]) ?_;refine ⟨_, _, hpi, ?_⟩;refine aW (fun h3 => ?_) (fun h3 => ?_)
  ·refine ⟨ids, ⟨i1, ?_⟩, ⟨rfl, rfl, rfl, trivial⟩, ⟨rfl, rfl, rfl, trivial⟩⟩;obtain ⟨f, hf⟩ : ∃ f, M + 1 - ids.length = f + 1 := ⟨M - ids.length, by omega⟩;rw [hf] at i4;unfold ma at i4;rw [hpk, if_pos h3] at i4;exact i4.symm
  ·have hw2 : ¬ ((w : Int) = 2) := h3;obtain ⟨f, hf⟩ : ∃ f, M + 1 - ids.length = f + 1 := ⟨M - ids.length, by omega⟩;rw [hf] at i4;unfold ma at i4;rw [hpk, if_neg hw2] at i4;refine .intro (by omega) ?_;refine ae (fun h4 => ?_) (fun h4 => ?_)
   ·have hf0 : f = 0 := by
     rw [← Dj most, ← hM] at h4;omega
    rw [if_pos hf0] at i4;subst i4;obtain ⟨rfl, rfl⟩ := hR;exact ⟨trivial, cT (l := []) rfl rfl rfl trivial, r1 rfl, r1 rfl, trivial⟩
   ·have hf0 : ¬ f = 0 := by
     rw [← Dj most, ← hM] at h4;omega
    rw [if_neg hf0, Ei] at i4;obtain ⟨l1, l2, l3, l4, l5⟩ := n9 hx i3.pos hin
    have l6 := A5 hx i3.pos hin
    have hof := zp hB ([1] ++ ids) hP w hw;rw [hlen] at hof;have hsb := hB.sum ([1] ++ ids) (w := w) (by omega);have hpb := hB.prob ([1] ++ ids) (w : Int);have hs := mu i3 hsb;have hd := cj hs hpb l1;have hless := kg (p := u) (q := bq Lc n ([1] ++ ids) w) (by rw [aw i3]; exact i3) (by rw [aw hsb]; exact hsb) (by omega) (by omega);have hdiv := AJ (p := cV u (bq Lc n ([1] ++ ids) w)) (q := bh Lc n ([1] ++ ids) w) (by rw [aw hs]; exact hs) (by rw [aw hpb]; exact hpb) l1 (by omega) (by omega);rw [aw i3, aw hsb] at hless;rw [aw hs, aw hpb] at hdiv;refine X2 (.own [(1000000, 1000000), (1000001, 1000001), (24, 1000002)] [(1000000, 1000000), (1000001, 1000001), (1000002, 24)]) ?_;refine ⟨_, _, hof, ?_⟩;have e2 : dL Lc n ([1] ++ ids) (w : Int) = (bq Lc n ([1] ++ ids) w, bh Lc n ([1] ++ ids) w) := by unfold dL; rw [Ei]
    rw [e2];refine X1 _ hless ?_;refine X1 _ hdiv ?_;refine .intro rfl ?_;refine ⟨by rw [ai, hlen], by rw [ai, hlen]; show (ids.length + 1 + 1 + 768) * 8 ≤ _; omega, by rw [ai, hlen]; show ids.length + 1 + 1 ≤ _; omega, bm, au rfl, ?_⟩;refine ⟨(ids ++ [(w : Int)], _), ⟨?_, l6, ?_, ?_⟩, ?_, ⟨rfl, rfl, rfl, rfl, owE (by rw [DK, ai, hlen, DK]; rfl), trivial⟩, ⟨rfl, rfl, rfl, aB (by rw [← Gt]; simp [aP]; rfl), trivial⟩⟩
    ·rw [DK]; show ids.length + 1 ≤ M; omega
    ·refine hd.le ?_;rw [DK, show 2 * B * (ids.length + [(w : Int)].length) = 2 * B * ids.length + 2 * B by show 2 * B * (ids.length + 1) = _; rw [D5, E6]];omega
    ·rw [DK, ← Gt];rw [show M + 1 - (ids.length + [(w : Int)].length) = f by show M + 1 - (ids.length + 1) = f; omega];exact i4
    ·show M + 1 - (ids ++ [(w : Int)]).length < _
     rw [DK];show M + 1 - (ids.length + 1) < M + 1 - ids.length
     omega
 ·obtain ⟨i1, hdv2⟩ := hp;subst hdv2;have hlen : ([1] ++ ids).length = ids.length + 1 := by simp
  refine BP aj aa [24] ?_;refine ⟨1, ids.length + 1, rfl, by rw [ai, hlen]; rfl, by omega, by rw [ai, hlen]; omega, ?_⟩;rw [iRow_sub, show ([1] ++ ids : List Int).drop 1 = ids from rfl, show ids.length + 1 - 1 = ids.length from rfl, Ek];have henc := lm hB h2 ids (by omega);refine X2 (.own σx σx) ?_;refine ⟨_, _, henc, ?_⟩;simp only at hR;refine ed (fun h3 => ?_) (fun h3 => ?_)
  ·have hc : ¬ ln Lc n l ids := fun hc => h3 hc.1
   rcases hR with ⟨hc2, _⟩ | ⟨_, rfl, rfl⟩
   ·exact absurd hc2 hc
   exact ⟨trivial, cT (l := []) rfl rfl rfl trivial, r1 rfl, r1 rfl, trivial⟩
  ·have e2 : encR Lc n ids = .c (bP (encB Lc n ids)) := if_pos h3;rw [h3, e2];obtain ⟨_, c2, _, _, c3⟩ := zu h3;obtain ⟨b1, b2, _⟩ := oi hB h2 c2;obtain ⟨_, c4⟩ := qz b1 b2 c3;have hBl : B * (ids.length + 1) ≤ 4000 * 25 := EO hb (by omega);refine X1 _ (sK _ l (by rw [zw]; omega) (by omega)) ?_;refine aM (fun h5 => ?_) (fun h5 => ?_)
   ·have hc : ¬ ln Lc n l ids := fun hc => by
     rw [decide_eq_true hc.2] at h5; cases h5
    rcases hR with ⟨hc2, _⟩ | ⟨_, rfl, rfl⟩
    ·exact absurd hc2 hc
    exact ⟨trivial, cT (l := []) rfl rfl rfl trivial, r1 rfl, r1 rfl, trivial⟩
   ·have hc : ln Lc n l ids := ⟨h3, by simpa using h5⟩;rcases hR with ⟨_, rfl, rfl⟩ | ⟨hc2, _⟩
    ·refine X1 _ (iz ids (by omega)) ?_;exact ⟨trivial, cT (l := []) rfl rfl rfl trivial, r1 rfl, r1 rfl, trivial⟩
    ·exact absurd hc hc2
end
end
section
abbrev σK : List (Nat × Nat) := [(200, 1000000), (201, 1000001)]
abbrev νK : List (Nat × Nat) := [(1000000, 200), (1000001, 201)]
theorem qA {s : ByteArray} (hs : s.size ≤ 120) {m : Nat} (h1 : 1 ≤ m) (h4 : m ≤ 4) : XOk (ao (ofL s m)) (aH s).length := Cp (tY hs h4).1 (sn hs h1 h4) (tY hs h4).2
theorem Be (s : ByteArray) (hs : s.size ≤ 120) (o m : Nat) (ho : o < 256) (hm : m = 1 + o % 4) :
  CtO P 12 [] [.c (sS s), .c (nI .u8 o)] [(200, some (xC (ao (ofL s m)) (aH s).length 201)), (201, some (.mp false [] []))] [.c (.ad 200 0), mM (ofL s m) (aH s).length, .c (.sc (.bool true))] := by
 have h1 : 1 ≤ m := by omega
 have h4 : m ≤ 4 := by omega
 have hx := qA hs h1 h4;have hw := sn hs h1 h4;obtain ⟨hsum, _⟩ := tY (m := m) hs h4;obtain ⟨l1, l2⟩ := nT hs;obtain ⟨a1, a2⟩ := nU hs;have hok := (jn hw).1;have hlen : (ofL s m).length = m := ca _ _;have hcl := bj (ofL s m);have hord := sh (fp (aH s) s) m (by omega) (by omega) (fun p hp => by have := (a2 p hp).1; omega);have hnew := yY (ofL s m) (aH s).length hsum hw;have hrnew := AO (ofL s m) (aH s).length hsum (hok.ccform hsum.lim) (by omega);have hword := nG (ks := []) (vs := []) hx;refine Ct.keep (Ty.own_ok [36] aj) aa [] (N := 50) Tryz.func12 rfl rfl rfl rfl ?_;refine X1 _ (tU s (by omega)) ?_;refine X1 (o : Int) (wI rfl (by omega) (by omega)) ?_;refine .intro (by omega) (X1 ((o % 4 : Nat) : Int) ?_ (And.intro ⟨by show (-9223372036854775808 : Int) ≤ _; omega, by show _ ≤ (9223372036854775807 : Int); omega⟩ ?_))
 ·show Int.tmod (o : Int) 4 = _
  rw [FU (by omega)]; omega
 refine X1 (m : Int) (wI (by omega) (by omega) (by omega)) ?_;refine X1 _ (zb (aH s) s (by omega) (by omega)) ?_;refine X1 _ hord ?_;refine .intro (by rw [aK]; omega) ?_;rw [aK];refine X2 (.own [] [(36, 200), (34, 201)]) ?_;refine ⟨_, _, hnew, ?_⟩;refine .intro (by rw [aK]; omega) ?_;rw [aK];refine X1 _ hrnew ?_;refine X2 (.own σK νK) ?_;refine ⟨_, _, hword, ?_⟩;refine aW (fun _ => ?_) (fun h => ?_)
 ·refine X2 (.own σK νK) ?_;refine ⟨_, _, rQ, ?_⟩;refine .intro (by rw [aK]; omega) ?_;rw [aK];exact ⟨trivial, SubO.of (l := [(200, xC (ao (ofL s m)) (aH s).length 201), (201, .mp false [] [])]) ⟨rfl, rfl, trivial⟩, r1 rfl, rc rfl, r1 (blE (beq_self_eq_true _)), trivial⟩
 ·exfalso; omega
theorem qB : ∀ {l : List Int} {v : Int}, v ∈ l → 0 ≤ idx v l
 | y :: l, v, h => by
  unfold idx;split
  ·omega
  ·rename_i hn;have : v ∈ l := by
    rcases Ee.1 h with rfl | h
    ·exact absurd rfl hn
    ·exact h
   have := qB this;rw [if_neg (by omega)]; omega
theorem Bf {words : Int} {g : List Int} (h : gW words g = 0) : ∀ (a : List Int) (v : Int), g = a ++ [v] → 0 ≤ v ∧ v < words ∧ (v = 1 → a = []) := by
 intro a v e;subst e;unfold gW at h;split at h
 ·omega
 ·rename_i h1;split at h
  ·omega
  ·rename_i h2;have hb : ¬ l8 words v = true := fun hb => h1 (EZ.2 ⟨v, by simp, hb⟩)
   unfold l8 at hb;simp at hb;refine ⟨by omega, by omega, fun hv => ?_⟩
   cases a with
   | nil => rfl
   | cons y a =>
    exfalso;apply h2;subst hv;exact qB (by simp)
theorem Bh {s : ByteArray} (hs : s.size ≤ 120) {m : Nat} (h4 : m ≤ 4) : ∀ l, l ∈ ao (ofL s m) → eE (aH s).length l := by
 intro l hl x hx;obtain ⟨n, hn, rfl⟩ := dE hl;obtain ⟨y, hy, rfl⟩ := Ef.1 hx;have h1 := ((nW hs (DU hn) h4).2.2 y hy).2.2.2;have e : (cC (ofL s m) n y).1 = y.1 := by unfold cC; split <;> rfl
 rw [e];exact Bf h1
theorem uZ (s : ByteArray) : ∀ i, ((lnS s i).1.map ByteArray.size).sum ≤ (lnS s i).2
 | 0 => DI _
 | i + 1 => by
  have ih := uZ s i;have hl := (lf s i).1;unfold lnS;split
  ·simp only [EQ, List.sum_append, Ep, Gd, FV, List.sum_nil, Fv];omega
  ·exact ih
theorem pr (s : ByteArray) : ((fF s).map List.length).sum ≤ s.size := by
 have key : ∀ l : List ByteArray, ((iQ l).map List.length).sum ≤ (l.map ByteArray.size).sum := fun l => by
  induction l with
  | nil => exact DI _
  | cons x l ih =>
   have hw := (nP x).2;unfold iQ at ih ⊢;rw [Ep];rw [Gi];split <;> simp only [Ep, FV] <;> omega
 refine DM (key (dy s)) ?_;have h1 := uZ s s.size;have h2 := (lf s s.size).1;unfold dy;simp only [EQ, List.sum_append, Ep, Gd, FV, List.sum_nil, Fv];omega
theorem pt : ∀ (L : List (List ByteArray)) (l : List ByteArray), (eC l L).length ≤ l.length + (L.map List.length).sum
 | [], l => by simp [eC]
 | ws :: L, l => by
  have := pt L (cL l ws);have h2 := gA ws l;show (eC (cL l ws) L).length ≤ _
  rw [Ep, FV]; omega
theorem wj (s : ByteArray) : (aH s).length ≤ s.size + 3 := by
 have h1 := pt (fF s) marks15;have h2 := pr s;have h3 : marks15.length = 3 := rfl;unfold aH;omega
end
end Go.Proofs.YtgceikecdedfcaaGreat.Pv
