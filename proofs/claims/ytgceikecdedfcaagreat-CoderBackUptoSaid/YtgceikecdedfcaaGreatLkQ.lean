/- Parts of a proof, joined: Hc Hi Hh Hl Hd Hj Hk Hm Hn Ho Fy Fz Ge. -/
import Derived.Test.YtgceikecdedfcaaGreatLkP
namespace Go.Proofs.YtgceikecdedfcaaGreat.Pv
open Go
section
def upF (a : Fr2) : Nat := if a.1 / a.2 * a.2 < a.1 then a.1 / a.2 + 1 else a.1 / a.2
theorem om {a : Fr2} (h : a.2 ≠ 0) : a.1 ≤ upF a * a.2 ∧ upF a * a.2 < a.1 + a.2 := by
 have h1 := Fa a.1 a.2;have h2 := E6 a.1 (Eu h);rw [Ej] at h1;unfold upF;split
 ·rw [Eg, EK]; omega
 ·omega
theorem CQ {n d : Nat} (h : d ≠ 0) : upF (fR n d) = upF (n, d) := by
 have hg : Nat.gcd n d ≠ 0 := fun e => h (FQ e)
 obtain ⟨a, ha⟩ := GF n d;obtain ⟨b, hb⟩ := FZ n d;unfold fR;generalize Nat.gcd n d = g at *
 subst ha hb;unfold upF;have hp := Eu hg;simp only;rw [Ft _ hp, Ft _ hp, Nat.mul_div_mul_left _ _ hp];have e : a / b * (g * b) = g * (a / b * b) := by rw [EX]
 rw [e];by_cases hc : a / b * b < a
 ·rw [if_pos hc, if_pos (Nat.mul_lt_mul_of_pos_left hc hp)]
 ·rw [if_neg hc, if_neg (by
   have := ET g (E9 hc);omega)]
theorem Dx {c n d : Nat} (h : d ≠ 0) : c * (fR n d).2 ≤ (fR n d).1 ↔ c * d ≤ n := by
 have hg : Nat.gcd n d ≠ 0 := fun e => h (FQ e)
 obtain ⟨a, ha⟩ := GF n d;obtain ⟨b, hb⟩ := FZ n d;unfold fR;generalize Nat.gcd n d = g at *
 subst ha hb;have hp := Eu hg;simp only;rw [Ft _ hp, Ft _ hp, EX];exact ⟨fun h => ET g h, fun h => Nat.le_of_mul_le_mul_left h hp⟩
def jy (p : Fr2 × Fr2) : Fr2 := bE p.1 p.2
def vK (p : Fr2 × Fr2) (k : Nat) : Nat := upF (p.1.1 * 2 ^ k, p.1.2)
def good (p : Fr2 × Fr2) (k : Nat) : Bool := decide ((vK p k + 1) * (jy p).2 ≤ (jy p).1 * 2 ^ k)
structure IsCode (p : Fr2 × Fr2) (k : Nat) : Prop where
 good : good p k = true
 least : ∀ j, j < k → Pv.good p j = false
theorem sG {p : Fr2 × Fr2} : ∀ {K : Nat}, good p K = true → ∃ k, k ≤ K ∧ IsCode p k := by
 intro K
 induction K using Nat.strongRecOn with
 | ind K ih =>
  intro h;by_cases hl : ∃ j, j < K ∧ good p j = true
  ·obtain ⟨j, h1, h2⟩ := hl;obtain ⟨k, a1, a2⟩ := ih j h1 h2;exact ⟨k, by omega, a2⟩
  ·exact ⟨K, D1 _, h, fun j hj => by
    cases hb : good p j with
    | false => rfl
    | true => exact absurd ⟨j, hj, hb⟩ hl⟩
theorem IsCode.uniq {p : Fr2 × Fr2} {j k : Nat} (h1 : IsCode p j) (h2 : IsCode p k) : j = k := by
 rcases Fm j k with h | h | h
 ·have := h2.least j h; rw [h1.good] at this; cases this
 ·exact h
 ·have := h1.least k h; rw [h2.good] at this; cases this
theorem gi (k : Nat) : (0 : Rat) < ((2 ^ k : Nat) : Rat) := FB.2 (ER k)
theorem uZ {p : Fr2 × Fr2} (h1 : p.1.2 ≠ 0) (h2 : p.2.2 ≠ 0) {k : Nat} (h : 2 ≤ ((2 ^ k : Nat) : Rat) * qv p.2) : good p k = true := by
 have hs := (om (a := (p.1.1 * 2 ^ k, p.1.2)) h1).2;have he := ip h1 h2;have hep : (jy p).2 ≠ 0 := gf h1 h2;unfold good;rw [decide_eq_true_eq];unfold vK;generalize upF (p.1.1 * 2 ^ k, p.1.2) = v at *
 have b1 : (0 : Rat) < p.1.2 := FB.2 (Eu h1);have b2 : (0 : Rat) < (jy p).2 := FB.2 (Eu hep);have c1 := Rat.natCast_lt_natCast.2 hs;simp only [EZ, FH] at c1;have c2 : (v : Rat) < qv p.1 * ((2 ^ k : Nat) : Rat) + 1 := by
  have e : qv p.1 * ((2 ^ k : Nat) : Rat) + 1 = ((p.1.1 : Rat) * ((2 ^ k : Nat) : Rat) + p.1.2) / p.1.2 := by unfold qv; grind
  rw [e, Rat.lt_div_iff b1];exact c1
 have c3 : ((v : Rat) + 1) ≤ qv (jy p) * ((2 ^ k : Nat) : Rat) := by
  show _ ≤ qv (bE p.1 p.2) * _
  rw [he];grind
 apply Fz.1;simp only [EZ, FH];have e : qv (jy p) * ((2 ^ k : Nat) : Rat) = ((jy p).1 : Rat) * ((2 ^ k : Nat) : Rat) / (jy p).2 := by unfold qv; grind
 rw [e, fJ b2] at c3;exact c3
theorem u4 {p : Fr2 × Fr2} (h1 : p.1.2 ≠ 0) (h2 : p.2.2 ≠ 0) {k : Nat} (h : good p k = true) : qv p.1 ≤ (vK p k : Rat) / ((2 ^ k : Nat) : Rat) ∧ ((vK p k : Rat) + 1) / ((2 ^ k : Nat) : Rat) ≤ qv p.1 + qv p.2 := by
 have hs := (om (a := (p.1.1 * 2 ^ k, p.1.2)) h1).1;have hep : (jy p).2 ≠ 0 := gf h1 h2;have b1 : (0 : Rat) < p.1.2 := FB.2 (Eu h1);have b2 : (0 : Rat) < (jy p).2 := FB.2 (Eu hep);have b3 := gi k;unfold good at h;rw [decide_eq_true_eq] at h;have c1 := Fz.2 hs;have c2 := Fz.2 h;simp only [EZ, FH] at c1 c2;constructor
 ·rw [fJ b3];have e : qv p.1 * ((2 ^ k : Nat) : Rat) = (p.1.1 : Rat) * ((2 ^ k : Nat) : Rat) / p.1.2 := by unfold qv; grind
  rw [e, kI b1];exact c1
 ·rw [← ip h1 h2, kI b3];show _ ≤ qv (jy p) * _
  have e : qv (jy p) * ((2 ^ k : Nat) : Rat) = ((jy p).1 : Rat) * ((2 ^ k : Nat) : Rat) / (jy p).2 := by unfold qv; grind
  rw [e, fJ b2];exact c2
def dc : Nat → Nat → List Bool
 | _, 0 => []
 | v, k + 1 => dc (v / 2) k ++ [decide (v % 2 = 1)]
def valB (l : List Bool) : Nat := l.foldl (fun v b => 2 * v + b.toNat) 0
theorem pr (l : List Bool) (b : Bool) : valB (l ++ [b]) = 2 * valB l + b.toNat := by simp [valB, Gh]
theorem iT : ∀ (k v : Nat), (dc v k).length = k
 | 0, _ => rfl
 | k + 1, v => by simp [dc, iT k]
theorem pt : ∀ (k v : Nat), v < 2 ^ k → valB (dc v k) = v
 | 0, v, h => by
  have : v = 0 := by simpa using h
  subst this; rfl
 | k + 1, v, h => by
  rw [EI] at h;rw [dc, pr, pt k (v / 2) (by omega)];by_cases hv : v % 2 = 1
  ·rw [decide_eq_true hv]; show 2 * (v / 2) + 1 = v; omega
  ·rw [decide_eq_false hv]; show 2 * (v / 2) + 0 = v; omega
theorem mI (l : List Bool) : valB l < 2 ^ l.length := by
 have key : ∀ (l : List Bool) (a m : Nat), a < 2 ^ m → l.foldl (fun v b => 2 * v + b.toNat) a < 2 ^ (m + l.length) := by
  intro l
  induction l with
  | nil => intro a m h; exact h
  | cons b l ih =>
   intro a m h;rw [List.foldl_cons, EA, show m + (l.length + 1) = (m + 1) + l.length by omega];refine ih _ (m + 1) ?_;rw [EI];cases b <;> simp only [Bool.toNat_true, Bool.toNat_false] <;> omega
 have := key l 0 0 (by decide);rwa [ES] at this
section
variable {Lc : List (List Cnt)} {n : Nat}
def bf (Lc : List (List Cnt)) (n : Int) (ids : List Int) : Fr2 × Fr2 := eR Lc n ((0, 1), (1, 1)) [1] ids
theorem gj (hx : XOk Lc n) (ids : List Int) : (bf Lc n ids).1.2 ≠ 0 ∧ (bf Lc n ids).2.2 ≠ 0 ∧ qv (bf Lc n ids).1 = spA Lc n [1] ids ∧ qv (bf Lc n ids).2 = spB Lc n [1] ids := by
 obtain ⟨a1, a2, a3, a4⟩ := sC hx ids [1] ((0, 1), (1, 1)) (by show (1 : Nat) ≠ 0; decide) (by show (1 : Nat) ≠ 0; decide);have e0 : qv (0, 1) = 0 := by rw [er]; rfl
 have e1 : qv (1, 1) = 1 := by rw [er]; rfl
 refine ⟨a1, a2, ?_, ?_⟩
 ·show qv (eR Lc n ((0, 1), (1, 1)) [1] ids).1 = _
  rw [a3, e0, e1]; grind
 ·show qv (eR Lc n ((0, 1), (1, 1)) [1] ids).2 = _
  rw [a4, e1]; grind
structure PlainW (n : Int) (ids : List Int) : Prop where
 rg : InW n ids
 no2 : ∀ w, w ∈ ids → w ≠ 2
theorem CR (hx : XOk Lc n) (he : ∀ l, l ∈ Lc → eJ n l) {ids : List Int} (hp : PlainW n ids) (h2 : 2 < n) {u : Fr2} (hu : u.2 ≠ 0) (h3 : qv (bf Lc n (ids ++ [2])).1 ≤ qv u) (h4 : qv u < qv (bf Lc n (ids ++ [2])).1 + qv (bf Lc n (ids ++ [2])).2) (f : Nat) :
  oD Lc n f [1] u = if ids.length < f then some ids else none := by
 obtain ⟨_, _, a3, a4⟩ := gj hx (ids ++ [2]);rw [a3] at h3;rw [a3, a4] at h4;rw [sF hx he ids [1] u f hu hp.rg h2 hp.no2 h3 h4];rfl
def oE (l : List Bool) : Fr2 := fR (valB l) (2 ^ l.length)
theorem oq (l : List Bool) : (oE l).2 ≠ 0 ∧ qv (oE l) = (valB l : Rat) / ((2 ^ l.length : Nat) : Rat) := by
 have h : 2 ^ l.length ≠ 0 := Nat.pos_iff_ne_zero.1 (ER _);exact ⟨ig h, ph h⟩
theorem Dy (hx : XOk Lc n) (he : ∀ l, l ∈ Lc → eJ n l) {r : List Int} (hr : InW n r) {k : Nat} (hg : good (bf Lc n r) k = true) : vK (bf Lc n r) k < 2 ^ k := by
 obtain ⟨a1, a2, a3, a4⟩ := gj hx r;have h1 := (u4 a1 a2 hg).2;obtain ⟨_, _, i3⟩ := sD hx he r [1] hr;rw [a3, a4, kI (gi k)] at h1;have h5 : ((vK (bf Lc n r) k + 1 : Nat) : Rat) ≤ ((2 ^ k : Nat) : Rat) := by
  rw [FH, show ((1 : Nat) : Rat) = 1 from rfl];have := Rat.mul_le_mul_of_nonneg_right i3 (Rat.le_of_lt (gi k));grind
 have := Fz.1 h5;omega
theorem CS (hx : XOk Lc n) (he : ∀ l, l ∈ Lc → eJ n l) {r : List Int} (hr : InW n r) {k : Nat} (hg : good (bf Lc n r) k = true) :
  qv (bf Lc n r).1 ≤ qv (oE (dc (vK (bf Lc n r) k) k)) ∧ qv (oE (dc (vK (bf Lc n r) k) k)) < qv (bf Lc n r).1 + qv (bf Lc n r).2 := by
 obtain ⟨a1, a2, _, _⟩ := gj hx r;obtain ⟨h1, h2⟩ := u4 a1 a2 hg;rw [(oq _).2, pt k _ (Dy hx he hr hg), iT];refine ⟨h1, ?_⟩;have h3 : (vK (bf Lc n r) k : Rat) / ((2 ^ k : Nat) : Rat) < ((vK (bf Lc n r) k : Rat) + 1) / ((2 ^ k : Nat) : Rat) := by
  rw [GM (gi k), Rat.div_mul_cancel (fun e => by have := gi k; rw [e] at this; exact absurd this (by decide))];grind
 grind
theorem CT {ids : List Int} (h2 : 2 < n) (hp : PlainW n ids) : InW n (ids ++ [2]) := fun x hx => by
 rcases EF.1 hx with hx | hx
 ·exact hp.rg x hx
 ·simp at hx; subst hx; omega
theorem zx (hx : XOk Lc n) (he : ∀ l, l ∈ Lc → eJ n l) {ids : List Int} (hp : PlainW n ids) (h2 : 2 < n) {k : Nat} (hg : good (bf Lc n (ids ++ [2])) k = true) (f : Nat) :
  oD Lc n f [1] (oE (dc (vK (bf Lc n (ids ++ [2])) k) k)) = if ids.length < f then some ids else none := by
 obtain ⟨h3, h4⟩ := CS hx he (CT h2 hp) hg;exact CR hx he hp h2 (oq _).1 h3 h4 f
end
end
section
abbrev pA (p : Fr2 × Fr2) : A1 := .ag [nSl .u64 (dg 18446744073709551616 p.1.1), nSl .u64 (dg 18446744073709551616 p.1.2), nSl .u64 (dg 18446744073709551616 p.2.1), nSl .u64 (dg 18446744073709551616 p.2.2)]
theorem eZ {v k : Nat} (h : v < 2 ^ k) (hk : k ≤ 2000000) : (dg 18446744073709551616 v).length ≤ 40000 := by
 by_cases h0 : k = 0
 ·subst h0;have : v = 0 := by simpa using h
  subst this;exact D4 (cv (k := 1) (by omega) (by omega)) (by omega)
 ·exact (cq (p := (v, 1)) (aE h (by omega)) hk).1
theorem kJ {n d k : Nat} (hd : d ≠ 0) (hn : n < 2 ^ k) (hd2 : d < 2 ^ k) (hk : k ≤ 2000000) : Ct P 99 [nV n, nV d] [qP (fR n d), .c (eI .i64 0)] := by
 have l1 := eZ hn hk;have l2 := eZ hd2 hk;refine Ct.go aj aa (N := 12) Tryz.func99 rfl rfl rfl rfl ?_;refine X1 _ (fh d (by omega)) ?_;refine aN (fun h => ?_) (fun _ => ?_)
 ·exact absurd (by simpa using h) hd
 refine X1 _ (ie n d hd (by omega) (by omega)) ?_;exact ⟨trivial, rc rfl, r1 rfl, trivial⟩
theorem zy {a : Fr2} {k : Nat} (h : Bd k a) (hk : k ≤ 2000000) : Ct P 143 [qP a] [nV (a.1 / a.2)] := by
 have l1 := eZ h.n hk;have l2 := eZ h.d hk;refine Ct.go aj aa (N := 16) Tryz.func143 rfl rfl rfl rfl ?_;refine X1 _ (ck _ _) ?_;refine X1 _ (bI _ _ (by omega)) ?_;rw [ib h.pos];refine X1 _ (mw _ _ h.pos (by omega) (by omega)) ?_;refine .intro rfl ?_;exact ⟨trivial, rc rfl, trivial⟩
theorem gk {n k j : Nat} (h : n < 2 ^ k) : n * 2 ^ j < 2 ^ (k + j) := by rw [EW]; exact Fq h (ER j)
theorem sH {a : Fr2} {k j : Nat} (h : Bd k a) : Bd (k + j) (fR (a.1 * 2 ^ j) a.2) := o6 h.pos (gk h.n) (Ea h.d (Eh (by omega) (by omega)))
theorem sI {a : Fr2} {k j : Nat} (h : Bd k a) (hk : k + j ≤ 900000) : Ct P 98 [qP a, .c (nI .i64 j)] [qP (fR (a.1 * 2 ^ j) a.2)] := by
 have l1 := eZ h.n (by omega);have l2 := eZ h.d (by omega);refine Ct.go aj aa (N := 18) Tryz.func98 rfl rfl rfl rfl ?_;refine X1 _ (ck _ _) ?_;refine X1 _ (nH a.1 j (by omega) (by omega)) ?_;refine X1 _ (bI _ _ (by omega)) ?_;rw [ib h.pos];refine X1 _ (kJ (k := k + j) h.pos (gk h.n) (Ea h.d (Eh (by omega) (by omega))) (by omega)) ?_;refine .intro rfl ?_;exact ⟨trivial, rc rfl, trivial⟩
theorem CU {a : Fr2} {k : Nat} (h : Bd k a) : upF a < 2 ^ (k + 1) := by
 have h1 := (om h.pos).2;have h2 := Eu h.pos;have h3 := h.n;have h4 := h.d;have : upF a ≤ upF a * a.2 := Nat.le_mul_of_pos_right _ h2;rw [EI];omega
theorem CV {a : Fr2} {k : Nat} (h : Bd k a) (hk : k ≤ 900000) : Ct P 97 [qP a] [nV (upF a)] := by
 have l1 := eZ h.n (by omega);have l2 := eZ h.d (by omega);have hq : a.1 / a.2 ≤ a.1 := Fp _ _;have hn : a.1 / a.2 < 2 ^ (k + 1) := by rw [EI]; have := h.n; omega
 have l3 := eZ hn (by omega);have h1 : (1 : Nat) < 2 ^ (k + 1) := Ea (by decide) (Eh (n := 2) (by omega) (show 1 ≤ k + 1 by omega));have hw : fR (a.1 / a.2) 1 = (a.1 / a.2, 1) := uJ (GN _);have hof := kJ (k := k + 1) (n := a.1 / a.2) (d := 1) (by omega) hn h1 (by omega);rw [hw] at hof;have hcmp := mz (a.1 / a.2) 1 a.1 a.2 (cq (aE hn (by omega)) (by omega)) (cq h (by omega));rw [ib h.pos, show dn 1 = 1 from rfl, Fg] at hcmp;refine Ct.go aj aa (N := 22) Tryz.func97 rfl rfl rfl rfl ?_;refine X1 _ (zy h (by omega)) ?_;refine X1 _ (fM 1 (by omega)) ?_;refine X1 _ hof ?_;refine .intro rfl ?_;refine X1 _ hcmp ?_;refine ah (fun hc => ?_) (fun hc => ?_)
 ·refine X1 _ (fM 1 (by omega)) ?_;refine X1 _ (mt _ _ (by omega) (D4 (eZ h1 (by omega)) (by omega))) ?_;refine .intro rfl ?_;have e : upF a = a.1 / a.2 + 1 := if_pos (by have := cmpI_lt.1 hc; omega);rw [e];exact ⟨trivial, rc rfl, trivial⟩
 ·have e : upF a = a.1 / a.2 := if_neg (fun h2 => hc (cmpI_lt.2 (by omega)));rw [e];exact ⟨trivial, rc rfl, trivial⟩
theorem u5 {p : Fr2 × Fr2} {j k : Nat} (h1 : Bd j p.1) (h2 : Bd k p.2) (hr : Nat.gcd p.1.1 p.1.2 = 1) (hk : j + k < 900000) : Ct P 73 [pA p] [qP (bE p.1 p.2)] := by
 have hadd := kw (p := p.1) (q := p.2) (by rw [aw h1]; exact h1) (by rw [aw h2]; exact h2) (by rw [aw h1]; exact hr) (by omega);rw [aw h1, aw h2] at hadd;refine Ct.go (Ty.own_ok [1000001, 1000003] aj) aa (N := 9) Tryz.func73 rfl rfl rfl rfl ?_;refine X1 _ hadd ?_;exact ⟨trivial, rc rfl, trivial⟩
theorem pw {p q : Fr2 × Fr2} {j k : Nat} (h1 : Bd j p.1) (h2 : Bd j p.2) (h3 : Bd k q.1) (h4 : Bd k q.2) (hr : Nat.gcd p.1.1 p.1.2 = 1) (hk : 2 * j + k < 300000) : Ct P 96 [pA p, pA q] [pA (qA p q)] := by
 have hm1 := ey (p := p.2) (q := q.1) (by rw [aw h2]; exact h2) (by rw [aw h3]; exact h3) (by omega) (by omega);have hm2 := ey (p := p.2) (q := q.2) (by rw [aw h2]; exact h2) (by rw [aw h4]; exact h4) (by omega) (by omega);have hb := bv h2 h3;have hadd := kw (p := p.1) (q := cG p.2 q.1) (by rw [aw h1]; exact h1) (by rw [aw hb]; exact hb) (by rw [aw h1]; exact hr) (by omega);rw [aw h2, aw h3] at hm1;rw [aw h2, aw h4] at hm2;rw [aw h1, aw hb] at hadd;refine Ct.go (Ty.own_ok [1000001] aj) aa (N := 20) Tryz.func96 rfl rfl rfl rfl ?_;refine X1 _ hm1 ?_;refine X1 _ hadd ?_;refine X1 _ hm2 ?_;refine .intro rfl ?_;exact ⟨trivial, rc rfl, trivial⟩
end
section
section
variable {Lc : List (List Cnt)} {words : Int}
theorem sJ (H : List Int) : CtO P 71 (xX Lc words (hO H)) [.c (.ad 1000000 0), .c (.ow 1000002 1 H.length)] ((2, some (.var [.ad 1000000 0])) :: (3, some (.var [.ow 1000002 1 H.length])) :: xX Lc words (hO H)) [.c (.fn 114 [.ad 2 0, .ad 3 0])] := by
 refine Ct.keep aj aa [] (N := 6) Tryz.func71 rfl rfl rfl rfl ?_;refine X1 [.ad 2 0, .ad 3 0] rfl ?_;exact ⟨trivial, SubO.of (l := [(2, .var [.ad 1000000 0]), (3, .var [.ow 1000002 1 H.length]), (1000000, xC Lc words 1000001), (1000001, .me false (MOk Lc)), (1000002, .row 1 (aM H))]) ⟨rfl, rfl, rfl, rfl, rfl, trivial⟩, r1 rfl, trivial⟩
def gl (Lc : List (List Cnt)) (n : Nat) (H : List Int) : List (List A1) := (List.range n).map fun w => [.c (nI .i64 w), pA (dz Lc n H w)]
abbrev Dz (Lc : List (List Cnt)) (words : Int) (H : List Int) : Objs := [(1000000, some (xC Lc words 1000001)), (1000001, some (.me false (MOk Lc))), (1000003, some (.var [.ad 1000000 0])), (1000004, some (.var [.ow 1000002 1 H.length])), (1000002, some (.row 1 (aM H)))]
abbrev u6 (Lc : List (List Cnt)) (words : Int) (H : List Int) : Prop := ∀ w : Int, CtO P 115 (xX Lc words (hO H)) [.c (.ad 1000000 0), .c (.ow 1000002 1 H.length), .c (eI .i64 w)] (xX Lc words (hO H)) [qP (bj Lc words H w)]
structure SB (Lc : List (List Cnt)) (n : Nat) (B : Nat) : Prop where
 x : XOk Lc n
 e : ∀ l, l ∈ Lc → eJ n l
 q : ∀ h, QF Lc n (fS Lc h) < 2 ^ B
 b : B ≤ 4000
theorem SB.sum {n B : Nat} (h : SB Lc n B) (H : List Int) {w : Nat} (hw : w ≤ n) : Bd B (bq Lc n H w) := (ez h.x H w).bd (qz h.x _) (h.q H) (Bc h.x h.e H hw)
theorem SB.prob {n B : Nat} (h : SB Lc n B) (H : List Int) (w : Int) : Bd B (bj Lc n H w) := (eK h.x H w).bd (qz h.x _) (h.q H) (zw h.x h.e H w)
theorem py {n B : Nat} (hB : SB Lc n B) (H : List Int) (hP : u6 Lc n H) : CtIO P 114 (Dz Lc n H) [.c (.ad 1000003 0), .c (.ad 1000004 0)] (gl Lc n H) (xX Lc n (hO H)) := by
 have hx := hB.x;have h6 := hx.w6;have hbb := hB.b;refine CtIO.walk (Ty.own_ok [1000001, 1000003] aj) aa (N := 30) Tryz.func114 rfl rfl rfl rfl rfl (fun v I X hv hY => ?_);refine X1 _ (bG 0 (by omega)) ?_;refine X2 (.own σx σx) ?_;refine ⟨_, _, gd, ?_⟩;refine b9 (Ty.own_ok [1000001, 1000003] aj) aa (fun w : Nat => w ≤ n) (fun w => [(0, .c (.cb v)), (1, .c (.ad 1000003 0)), (2, .c (.ad 1000004 0)), (4, .c (.ad 4 0)), (9, .c (nI .i64 n)), (10, .c (nI .i64 w))])
  (fun w => [(2000000, .abs (I w)), (1000000, xC Lc n 1000001), (1000001, .me false (MOk Lc)), (1000003, .var [.ad 1000000 0]), (1000004, .var [.ow 1000002 1 H.length]), (1000002, .row 1 (aM H)), (4, .var (qP (bq Lc n H w)).cells)]) (fun w => n - w)
  0 (by omega) ⟨rfl, rfl, rfl, rfl, rfl, rfl, trivial⟩ ⟨rfl, rfl, rfl, rfl, rfl, rfl, rfl, trivial⟩ (fun w hw => ?_)
 refine ah (fun h1 => ?_) (fun h1 => ?_)
 ·have hw' : w < n := by omega
  have hsb := hB.sum H hw;have hpb := hB.prob H (w : Int);have hadd := kw (p := bq Lc n H w) (q := bj Lc n H w) (by rw [aw hsb]; exact hsb) (by rw [aw hpb]; exact hpb) (by rw [aw hsb]; exact po hx H w) (by omega);rw [aw hsb, aw hpb] at hadd;have hitem : (gl Lc n H)[w]? = some [.c (nI .i64 w), pA (dz Lc n H w)] := by
   unfold gl;rw [Eb, List.getElem?_range hw']; rfl
  refine X2 (.same σ3 1000001) ?_;refine ⟨rfl, _, hP w, ?_⟩;refine .intro rfl ?_;refine ⟨gl Lc n H, I, X, w, hY, rfl, hitem, ?_, ?_⟩
  ·refine X1 _ hadd ?_;refine X1 ((w + 1 : Nat) : Int) (wI (by simp) (by omega) (by omega)) ?_;exact ⟨w + 1, by omega, by omega, ⟨rfl, rfl, rfl, rfl, rfl, rfl, trivial⟩, ⟨rfl, rfl, rfl, rfl, rfl, rfl, rfl, trivial⟩⟩
  ·exact ⟨trivial, .inr rfl, cz (l := [(1000002, .row 1 (aM H))]) rfl rfl rfl ⟨rfl, trivial⟩⟩
 ·have e : w = n := by omega
  subst e;have hlen : (gl Lc w H).length = w := by simp [gl]
  exact ⟨trivial, .inl (by rw [hlen]; rfl), cz (l := [(1000002, .row 1 (aM H))]) rfl rfl rfl ⟨rfl, trivial⟩⟩
abbrev σP : List (Nat × Nat) := [(1000000, 1000000), (1000001, 1000001), (61, 1000003), (62, 1000004), (1000002, 1000002)]
abbrev νP : List (Nat × Nat) := [(1000000, 1000000), (1000001, 1000001), (1000002, 1000002), (2, 61), (3, 62)]
theorem pz {n : Nat} {H : List Int} {i : Nat} {args : List A1} (h : (gl Lc n H)[i]? = some args) : i < n ∧ args = [.c (nI .i64 i), pA (dz Lc n H i)] := by
 unfold gl at h;rw [Eb, D6] at h;obtain ⟨j, h1, h2⟩ := h;obtain ⟨h3, h4⟩ := D2.1 h1;simp at h3 h4;subst h4;exact ⟨h3, h2.symm⟩
theorem sK {n : Nat} {H : List Int} : ∀ args, args ∈ gl Lc n H → args.length = 2 ∧ az args = true := fun args ha => by
 obtain ⟨x, _, rfl⟩ := Ez.1 ha;exact ⟨rfl, rfl⟩
theorem ub {n B : Nat} (hB : SB Lc n B) (H : List Int) (hP : u6 Lc n H) (w : Nat) (hw : w < n) : CtO P 51 (xX Lc n (hO H)) [.c (.ad 1000000 0), .c (.ow 1000002 1 H.length), .c (nI .i64 w)] (xX Lc n (hO H)) [pA (dz Lc n H w)] := by
 have h6 := hB.x.w6;refine Ct.io aj aa (N := 19) Tryz.func51 rfl rfl rfl rfl ?_;refine X2 (.own σ3 νP) ?_;refine ⟨_, _, sJ H, ?_⟩;refine ym aj aa σP [1000000, 1000001, 1000002] (py hB H hP) Tryz.func114 rfl rfl rfl rfl rfl rfl rfl sK [5, 6] rfl (G := Unit) (fun i _ => i ≤ w) (fun _ _ => [(5, .c (.ad 5 0)), (6, .c (.ad 6 0))])
  (fun _ _ => [(5, .var [nI .i64 w]), (6, .var [.sc (.slice none 0 0), .sc (.slice none 0 0), .sc (.slice none 0 0), .sc (.slice none 0 0)])]) () (by omega) ⟨rfl, rfl, trivial⟩ ⟨rfl, rfl, trivial⟩ (fun _ _ => rfl) (fun i _ args hg hi => ?_) (fun _ hi => ?_)
 ·obtain ⟨hin, rfl⟩ := pz hg;refine aV (fun h1 => ?_) (fun h1 => ?_)
  ·have e : i = w := by omega
   subst e;refine ⟨[(6, .c (.ad 6 0))], [(6, .var (pA (dz Lc n H i)).cells)], ⟨rfl, trivial⟩, ⟨rfl, trivial⟩, (fun p hp => by simp at hp; subst hp; rfl), ?_⟩;exact ⟨trivial, cz (l := [(1000002, .row 1 (aM H))]) rfl rfl rfl ⟨rfl, trivial⟩, rc rfl, trivial⟩
  ·exact ⟨(), by omega, ⟨rfl, rfl, trivial⟩, ⟨rfl, rfl, trivial⟩⟩
 ·exfalso;have : (gl Lc n H).length = n := by simp [gl]
  omega
end
end
section
section
variable {Lc : List (List Cnt)} {n B : Nat}
theorem iU (ids : List Int) (i : Nat) (hi : i < ids.length) : bf Lc n (ids.take (i + 1)) = qA (bf Lc n (ids.take i)) (dz Lc n ([1] ++ ids.take i) ids[i]) := by
 unfold bf;rw [D5 hi, oi]
theorem zz {ids : List Int} (h : InW n ids) (i : Nat) : InW n (ids.take i) := fun w hw => h w (Fv hw)
theorem qB (hB : SB Lc n B) (ids : List Int) : ∀ i, i ≤ ids.length → ∃ R, R ≠ 0 ∧ R < 2 ^ (1 + B * i) ∧ Dv R (bf Lc n (ids.take i)).1 ∧ Dv R (bf Lc n (ids.take i)).2
 | 0, _ => ⟨1, by decide, by rw [Fn]; decide, .int, .int⟩
 | i + 1, hi => by
  obtain ⟨R, r1, r2, r3, r4⟩ := qB hB ids i (by omega);rw [iU ids i (by omega)];refine ⟨R * QF Lc n (fS Lc ([1] ++ ids.take i)), Es r1 (qz hB.x _), ?_, ?_, ?_⟩
  ·rw [show 1 + B * (i + 1) = (1 + B * i) + B by rw [Er, Fg]; omega];exact kH r2 (hB.q _)
  ·exact (r3.up (Gu _ _)).add (r4.mul (ez hB.x _ _))
  ·exact r4.mul (eK hB.x _ _)
theorem qC (hB : SB Lc n B) {ids : List Int} (hw : InW n ids) (i : Nat) (hi : i ≤ ids.length) : Bd (1 + B * i) (bf Lc n (ids.take i)).1 ∧ Bd (1 + B * i) (bf Lc n (ids.take i)).2 ∧ Nat.gcd (bf Lc n (ids.take i)).1.1 (bf Lc n (ids.take i)).1.2 = 1 := by
 obtain ⟨R, r1, r2, r3, r4⟩ := qB hB ids i hi;obtain ⟨a1, a2, a3, a4⟩ := gj hB.x (ids.take i);obtain ⟨s1, s2, s3⟩ := sD hB.x hB.e (ids.take i) [1] (zz hw i);refine ⟨r3.bd r1 r2 (oh a1 (by rw [a3]; grind)), r4.bd r1 r2 (oh a2 (by rw [a4]; grind)), ?_⟩
 cases i with
 | zero => exact Gi 1
 | succ i =>
  obtain ⟨R', q1, q2, q3, q4⟩ := qB hB ids i (by omega);rw [iU ids i (by omega)];exact jt (Es q3.pos (eH q4.pos (ez hB.x _ _).pos))
theorem SB.probO (hB : SB Lc n B) (H : List Int) (hl : H.length ≤ 1000000) (hl1 : 1 ≤ H.length) : u6 Lc n H := fun w => v9 hB.x H hl hl1 w
theorem zB (hB : SB Lc n B) (ids : List Int) (hw : InW n ids) (hl : ids.length ≤ 25) (els : List (List PC)) (hels : els = aM ids) (m : Nat) (hm : m = ids.length) :
  CtO P 45 (xX Lc n [(1000002, some (.row 1 els))]) [.c (.ad 1000000 0), .c (.ow 1000002 1 m)] (xX Lc n [(1000002, some (.row 1 els))]) [pA (bf Lc n ids)] := by
 subst hels hm;have hb := hB.b;refine Ct.keep (Ty.own_ok [1000001] aj) aa [] (N := 31) Tryz.func45 rfl rfl rfl rfl ?_;refine X1 _ (bG 0 (by omega)) ?_;refine X1 _ (bG 1 (by omega)) ?_;refine .intro (by omega) ?_;refine au (Ty.own_ok [1000001] aj) aa (fun i : Nat => i ≤ ids.length) (fun i => [(0, .c (.ad 1000000 0)), (4, .c (.ad 4 0)), (5, .c (.ad 5 0)), (6, .c (.ow 12 1 (i + 1))), (13, .c (.ow 1000002 1 ids.length)), (14, .c (nI .i64 ids.length)), (15, .c (nI .i64 i))])
  (fun i => [(1000000, xC Lc n 1000001), (1000001, .me false (MOk Lc)), (1000002, .row 1 (aM ids)), (4, .var [.sc (.slice none 0 0), .sc (.slice none 0 0), .sc (.slice none 0 0), .sc (.slice none 0 0)]), (5, .var (pA (bf Lc n (ids.take i))).cells), (12, .row 1 (aM ([1] ++ ids.take i)))]) (fun i => ids.length - i)
  0 (by omega) ⟨rfl, rfl, rfl, rfl, rfl, rfl, rfl, trivial⟩ ⟨rfl, rfl, rfl, rfl, rfl, rfl, trivial⟩ (fun _ : Unit => True) (fun _ => [(4, .c (.ad 4 0)), (5, .c (.ad 5 0))])
  (fun _ => [(1000000, xC Lc n 1000001), (1000001, .me false (MOk Lc)), (1000002, .row 1 (aM ids)), (4, .var [.sc (.slice none 0 0), .sc (.slice none 0 0), .sc (.slice none 0 0), .sc (.slice none 0 0)]), (5, .var (pA (bf Lc n ids)).cells)]) (fun i hi => ?_) (fun _ _ => ?_)
 ·refine ah (fun h1 => ?_) (fun h1 => ?_)
  ·have hi' : i < ids.length := by omega
   obtain ⟨w0, w1⟩ := hw ids[i] (Ec hi');have hget : (aM ids)[((i : Nat) : Int).toNat]? = some [eI .i64 ids[i]] := by rw [EC]; simp [aM, hi']
   obtain ⟨b1, b2, b3⟩ := qC hB hw i hi;have hst := iU (Lc := Lc) (n := n) ids i hi';have htk : ([1] ++ ids.take i).length = i + 1 := by simp; omega
   have htk2 : [1] ++ ids.take (i + 1) = ([1] ++ ids.take i) ++ [ids[i]] := by rw [D5 hi', Gv]
   obtain ⟨v, hv⟩ : ∃ v : Nat, ids[i] = (v : Int) := ⟨ids[i].toNat, by omega⟩;have hsb := hB.sum ([1] ++ ids.take i) (w := v) (by omega);have hpb := hB.prob ([1] ++ ids.take i) (v : Int);rw [hv] at hget hst htk2;have hof := ub hB ([1] ++ ids.take i) (hB.probO _ (by omega) (by omega)) v (by omega);rw [htk] at hof;have hBi : B * i ≤ 4000 * 25 := E7 hb (by omega);have hwin := pw (p := bf Lc n (ids.take i)) (q := dz Lc n ([1] ++ ids.take i) (v : Int)) b1 b2 (show Bd B (bq Lc n ([1] ++ ids.take i) (v : Int).toNat) by rw [EC]; exact hsb) hpb b3 (by omega);rw [← hst] at hwin
   refine .intro (by omega) (And.intro (by omega) (X1 _ hget ?_));refine X2 (.same [(1000000, 1000000), (1000001, 1000001), (12, 1000002)] 1000001) ?_;refine ⟨rfl, _, hof, ?_⟩;refine X1 _ hwin ?_;refine .intro rfl ?_;refine ⟨by rw [ae, htk], by rw [ae, htk]; show (i + 1 + 1 + 768) * 8 ≤ _; omega, by rw [ae, htk]; show i + 1 + 1 ≤ _; omega, aZ, ar rfl, ?_⟩;refine X1 ((i + 1 : Nat) : Int) (wI1 (by omega)) ?_;refine ⟨i + 1, by omega, by omega, ⟨rfl, rfl, rfl, owE (by rw [D3, ae, htk]; rfl), rfl, rfl, rfl, trivial⟩, ⟨rfl, rfl, rfl, rfl, rfl, aB (by rw [htk2]; simp [aM]; rfl), trivial⟩⟩
  ·have e : i = ids.length := by omega
   subst e;exact ⟨(), trivial, ⟨rfl, rfl, trivial⟩, ⟨rfl, rfl, rfl, rfl, by rw [EE]; rfl, trivial⟩⟩
 ·exact ⟨trivial, cz (l := [(1000002, .row 1 (aM ids))]) rfl rfl rfl ⟨rfl, trivial⟩, rc rfl, trivial⟩
theorem zC (hB : SB Lc n B) (ids : List Int) (hw : InW n ids) (hl : ids.length ≤ 25) :
  CtO P 45 (xE Lc n) [.c (.ad 1000000 0), .c (iSl ids)] (xE Lc n) [pA (bf Lc n ids)] := by
 have hb := hB.b;refine Ct.keep (Ty.own_ok [1000001] aj) aa [] (N := 31) Tryz.func45 rfl rfl rfl rfl ?_;refine X1 _ (bG 0 (by omega)) ?_;refine X1 _ (bG 1 (by omega)) ?_;refine .intro (by rw [ae]; omega) ?_;rw [ae];refine au (Ty.own_ok [1000001] aj) aa (fun i : Nat => i ≤ ids.length) (fun i => [(0, .c (.ad 1000000 0)), (4, .c (.ad 4 0)), (5, .c (.ad 5 0)), (6, .c (.ow 12 1 (i + 1))), (13, .c (iSl ids)), (14, .c (nI .i64 ids.length)), (15, .c (nI .i64 i))])
  (fun i => [(1000000, xC Lc n 1000001), (1000001, .me false (MOk Lc)), (4, .var [.sc (.slice none 0 0), .sc (.slice none 0 0), .sc (.slice none 0 0), .sc (.slice none 0 0)]), (5, .var (pA (bf Lc n (ids.take i))).cells), (12, .row 1 (aM ([1] ++ ids.take i)))]) (fun i => ids.length - i)
  0 (by omega) ⟨rfl, rfl, rfl, rfl, rfl, rfl, rfl, trivial⟩ ⟨rfl, rfl, rfl, rfl, rfl, trivial⟩ (fun _ : Unit => True) (fun _ => [(4, .c (.ad 4 0)), (5, .c (.ad 5 0))])
  (fun _ => [(1000000, xC Lc n 1000001), (1000001, .me false (MOk Lc)), (4, .var [.sc (.slice none 0 0), .sc (.slice none 0 0), .sc (.slice none 0 0), .sc (.slice none 0 0)]), (5, .var (pA (bf Lc n ids)).cells)]) (fun i hi => ?_) (fun _ _ => ?_)
 ·refine ah (fun h1 => ?_) (fun h1 => ?_)
  ·have hi' : i < ids.length := by omega
   obtain ⟨w0, w1⟩ := hw ids[i] (Ec hi');have hget : (aM ids)[((i : Nat) : Int).toNat]? = some [eI .i64 ids[i]] := by rw [EC]; simp [aM, hi']
   obtain ⟨b1, b2, b3⟩ := qC hB hw i hi;have hst := iU (Lc := Lc) (n := n) ids i hi';have htk : ([1] ++ ids.take i).length = i + 1 := by simp; omega
   have htk2 : [1] ++ ids.take (i + 1) = ([1] ++ ids.take i) ++ [ids[i]] := by rw [D5 hi', Gv]
   obtain ⟨v, hv⟩ : ∃ v : Nat, ids[i] = (v : Int) := ⟨ids[i].toNat, by omega⟩;have hsb := hB.sum ([1] ++ ids.take i) (w := v) (by omega);have hpb := hB.prob ([1] ++ ids.take i) (v : Int);rw [hv] at hget hst htk2;have hof := ub hB ([1] ++ ids.take i) (hB.probO _ (by omega) (by omega)) v (by omega);rw [htk] at hof;have hBi : B * i ≤ 4000 * 25 := E7 hb (by omega);have hwin := pw (p := bf Lc n (ids.take i)) (q := dz Lc n ([1] ++ ids.take i) (v : Int)) b1 b2 (show Bd B (bq Lc n ([1] ++ ids.take i) (v : Int).toNat) by rw [EC]; exact hsb) hpb b3 (by omega);rw [← hst] at hwin
   refine .intro (by omega) (X1 _ hget ?_);refine X2 (.same [(1000000, 1000000), (1000001, 1000001), (12, 1000002)] 1000001) ?_;refine ⟨rfl, _, hof, ?_⟩;refine X1 _ hwin ?_;refine .intro rfl ?_;refine ⟨by rw [ae, htk], by rw [ae, htk]; show (i + 1 + 1 + 768) * 8 ≤ _; omega, by rw [ae, htk]; show i + 1 + 1 ≤ _; omega, aZ, ar rfl, ?_⟩;refine X1 ((i + 1 : Nat) : Int) (wI1 (by omega)) ?_;refine ⟨i + 1, by omega, by omega, ⟨rfl, rfl, rfl, owE (by rw [D3, ae, htk]; rfl), rfl, rfl, rfl, trivial⟩, ⟨rfl, rfl, rfl, rfl, aB (by rw [htk2]; simp [aM]; rfl), trivial⟩⟩
  ·have e : i = ids.length := by omega
   subst e;exact ⟨(), trivial, ⟨rfl, rfl, trivial⟩, ⟨rfl, rfl, rfl, by rw [EE]; rfl, trivial⟩⟩
 ·exact ⟨trivial, cz (l := []) rfl rfl rfl trivial, rc rfl, trivial⟩
end
end
section
def ja : List Bool → Nat
 | [] => 0
 | b :: l => b.toNat + 2 * ja l
def needW (n : Nat) : Nat := n / 64 + min (n % 64) 1
def cB (l : List Bool) (k : Nat) : Nat := ja l / 18446744073709551616 ^ k % 18446744073709551616
def a9 (l : List Bool) : List Nat := (List.range (needW l.length)).map (cB l)
theorem mJ : ∀ l : List Bool, ja l < 2 ^ l.length
 | [] => by decide
 | b :: l => by
  have := mJ l;rw [ja, EA, EI];cases b <;> simp only [Bool.toNat_true, Bool.toNat_false] <;> omega
theorem iV : ∀ (l : List Bool) (b : Bool), ja (l ++ [b]) = ja l + b.toNat * 2 ^ l.length
 | [], b => by simp [ja]
 | c :: l, b => by
  rw [FD, ja, iV l b, ja, EA, EI, Er, ← E3, Ej (2 ^ l.length) 2, EX]
theorem sL : ∀ (l : List Bool) (i : Nat), i < l.length → l[i]? = some (decide (ja l / 2 ^ i % 2 = 1))
 | b :: l, 0, _ => by
  simp only [ja, List.getElem?_cons_zero, GB, GX];cases b <;> simp <;> omega
 | b :: l, i + 1, h => by
  have := sL l i (by simpa using h);have e : (b.toNat + 2 * ja l) / 2 = ja l := by cases b <;> simp only [Bool.toNat_true, Bool.toNat_false] <;> omega
  rw [List.getElem?_cons_succ, this, ja, EI, Ej (2 ^ i) 2, ← F5, e]
theorem kK (k : Nat) : (18446744073709551616 : Nat) ^ k = 2 ^ (64 * k) := by
 rw [show (18446744073709551616 : Nat) = 2 ^ 64 from rfl, ← Nat.pow_mul]
theorem Bi {n : Nat} (h : n % 64 = 0) : needW n = n / 64 := by unfold needW; omega
theorem u7 {n : Nat} (h : n % 64 ≠ 0) : needW n = n / 64 + 1 := by unfold needW; omega
theorem fv (l : List Bool) : (a9 l).length = needW l.length := by simp [a9]
theorem fw {l : List Bool} {k : Nat} (h : k < needW l.length) : (a9 l)[k]? = some (cB l k) := by simp [a9, h]
theorem ot (l : List Bool) (k : Nat) : cB l k < 18446744073709551616 := E6 _ (by decide)
theorem pB {l : List Bool} {b : Bool} {k : Nat} (h : 64 * (k + 1) ≤ l.length) : cB (l ++ [b]) k = cB l k := by
 unfold cB;rw [iV, kK];obtain ⟨c, hc⟩ := Nat.exists_eq_add_of_le h;have e : b.toNat * 2 ^ l.length = (b.toNat * 2 ^ c) * 18446744073709551616 * 2 ^ (64 * k) := by
  rw [hc, show 64 * (k + 1) + c = 64 * k + 64 + c by omega, EW, EW, show (2 : Nat) ^ 64 = 18446744073709551616 from rfl];simp only [Ee, Ej, EX]
 rw [e, Nat.add_mul_div_right _ _ (ER _), Nat.add_mul_mod_self_right]
theorem wm {l : List Bool} {b : Bool} {k : Nat} (h : l.length = 64 * k) : cB (l ++ [b]) k = b.toNat := by
 unfold cB;have := mJ l;rw [iV, kK, ← h, Nat.add_mul_div_right _ _ (ER _), FE this, ES];cases b <;> rfl
theorem ou {l : List Bool} {k : Nat} (h0 : 64 * k ≤ l.length) (h : l.length < 64 * k + 64) : cB l k < 2 ^ (l.length - 64 * k) := by
 have := mJ l;unfold cB;refine FJ (Nat.mod_le _ _) ?_;rw [kK, Gw (ER _), ← EW];rwa [show l.length - 64 * k + 64 * k = l.length by omega]
theorem uc {l : List Bool} {b : Bool} {k : Nat} (h0 : 64 * k ≤ l.length) (h : l.length < 64 * k + 64) : cB (l ++ [b]) k = cB l k + b.toNat * 2 ^ (l.length - 64 * k) := by
 have h1 := ou h0 h;have h2 := mJ l;have e : 2 ^ l.length = 2 ^ (l.length - 64 * k) * 2 ^ (64 * k) := by rw [← EW]; congr 1; omega
 have h3 : (2 : Nat) ^ (l.length - 64 * k) ≤ 2 ^ 63 := Eh (by omega) (by omega);have h5 : ja l / 2 ^ (64 * k) < 2 ^ (l.length - 64 * k) := by
  rw [Gw (ER _), ← e]; exact h2
 have h6 : (2 : Nat) ^ 63 = 9223372036854775808 := rfl;unfold cB;rw [iV, kK, e, ← Ee, Nat.add_mul_div_right _ _ (ER _)];have h7 : b.toNat * 2 ^ (l.length - 64 * k) ≤ 2 ^ (l.length - 64 * k) := by cases b <;> simp
 rw [EB (by omega), EB (by omega)]
theorem qD {l : List Bool} {b : Bool} (h : l.length % 64 = 0) : a9 (l ++ [b]) = a9 l ++ [b.toNat] := by
 have e1 : needW l.length = l.length / 64 := Bi h;have e2 : needW (l ++ [b]).length = l.length / 64 + 1 := by rw [D3, GC]; unfold needW; omega
 unfold a9;rw [e1, e2, List.range_succ, Fb, EH, Gx, wm (by omega)];congr 1;refine Gp fun k hk => pB ?_
 have := List.mem_range.1 hk;omega
theorem qE {l : List Bool} {b : Bool} (h : l.length % 64 ≠ 0) : a9 (l ++ [b]) = (a9 l).set (l.length / 64) (cB l (l.length / 64) + b.toNat * 2 ^ (l.length % 64)) ∧ needW (l ++ [b]).length = needW l.length := by
 have e1 : needW l.length = l.length / 64 + 1 := u7 h;have e2 : needW (l ++ [b]).length = l.length / 64 + 1 := by rw [D3, GC]; unfold needW; omega
 refine ⟨?_, by rw [e1, e2]⟩;have e3 : l.length % 64 = l.length - 64 * (l.length / 64) := by omega
 unfold a9;rw [e1, e2, e3, ← uc (by omega) (by omega)];apply Gt;intro k;rw [Fe];by_cases hk : l.length / 64 = k
 ·subst hk;rw [if_pos rfl];simp
 ·rw [if_neg hk];by_cases h2 : k < l.length / 64
  ·simp only [Eb, List.getElem?_range (show k < l.length / 64 + 1 by omega), Fd];rw [pB (by omega)]
  ·rw [Eo (by simp; omega), Eo (by simp; omega)]
theorem CW {a : Nat} {b : Bool} {i : Nat} (h : a < 2 ^ i) : a ||| b.toNat <<< i = a + b.toNat * 2 ^ i := by
 rw [Nat.or_comm, ← Nat.shiftLeft_add_eq_or_of_lt h, Gm, Gn]
theorem iW {l : List Bool} {i : Nat} (h : i < l.length) : l[i]? = some (decide (cB l (i / 64) / 2 ^ (i % 64) % 2 = 1)) := by
 rw [sL l i h];congr 2;unfold cB;rw [kK];have e : 2 ^ i = 2 ^ (64 * (i / 64)) * 2 ^ (i % 64) := by rw [← EW]; congr 1; omega
 rw [e, ← F5];generalize ja l / 2 ^ (64 * (i / 64)) = v;have h3 : 18446744073709551616 = 2 ^ (i % 64) * (2 * 2 ^ (63 - i % 64)) := by
  rw [← Nat.pow_succ', ← EW, show i % 64 + (63 - i % 64 + 1) = 64 by omega]
 have h4 : v % 18446744073709551616 / 2 ^ (i % 64) = v / 2 ^ (i % 64) % (2 * 2 ^ (63 - i % 64)) := by
  rw [h3, Nat.mod_mul_right_div_self]
 rw [h4, Nat.mod_mul_right_mod]
theorem ud {l m : List Bool} (h1 : l.length = m.length) (h2 : a9 l = a9 m) : l = m := by
 apply Gt;intro i;by_cases hi : i < l.length
 ·rw [iW hi, iW (by omega)];have hk : i / 64 < needW l.length := by unfold needW; omega
  have e1 := fw (l := l) hk;have e2 := fw (l := m) (by rw [← h1]; exact hk);rw [h2, e2] at e1;rw [FG e1]
 ·rw [Eo (by omega), Eo (by omega)]
abbrev nB (b : Bool) : PC := nI .u64 b.toNat
abbrev bP (l : List Bool) : PC := .rd [nSl .u64 (a9 l), nI .i64 l.length]
abbrev ov : A1 := .c (.sc (.pointer none))
theorem iq (n : Nat) : needW n ≤ n := by unfold needW; omega
theorem qF (n : Nat) (hn : n ≤ 1000000000) : Ct P 49 [.c (nI .i64 n)] [.c (nI .i64 (needW n))] := by
 refine Ct.go aj aa (N := 9) Tryz.func49 rfl rfl rfl rfl ?_;refine .intro (by decide) (X1 ((n / 64 : Nat) : Int) (jW rfl) (And.intro ⟨by omega, by omega⟩ ?_));refine .intro (by decide) (X1 ((n % 64 : Nat) : Int) (lU rfl) (And.intro ⟨by omega, by omega⟩ ?_));have e : (if (1 : Int) < ((n % 64 : Nat) : Int) then (1 : Int) else ((n % 64 : Nat) : Int)) = ((min (n % 64) 1 : Nat) : Int) := by split <;> omega
 refine X1 ((needW n : Nat) : Int) ?_ ?_
 ·rw [e]; exact wI (by unfold needW; omega) (by omega) (by unfold needW; omega)
 ·exact ⟨trivial, r1 rfl, trivial⟩
theorem wn (b : Bool) : Ct P 48 [.c (nB b)] [.c (nI .i64 b.toNat)] := by
 have h := kf b.toNat (by cases b <;> decide);rw [show blen b.toNat = b.toNat by
  cases b
  ·exact blen_zero
  ·exact (rA (by decide)).trans (by rw [show (true.toNat / 2) = 0 from rfl, blen_zero]; rfl)] at h
 refine Ct.go aj aa (N := 5) Tryz.func48 rfl rfl rfl rfl ?_;refine X1 _ h ?_;exact ⟨trivial, r1 rfl, trivial⟩
theorem Bj : CtO P 16 [] [] [(2, some (.var [.sc (.slice none 0 0), eI .i64 0]))] [.c (.ad 2 0)] := by
 refine Ct.keep aj aa [] (N := 3) Tryz.func16 rfl rfl rfl rfl ?_;exact ⟨trivial, SubO.of (l := [(2, .var [.sc (.slice none 0 0), eI .i64 0])]) ⟨rfl, trivial⟩, r1 rfl, trivial⟩
abbrev bO (r : Nat) (l : List Bool) : Objs := [(1000000, some (.var [.ow r 1 (needW l.length), nI .i64 l.length])), (r, some (.row 1 (aF .u64 (a9 l))))]
theorem DA {l : List Bool} {O : Objs} (h1 : O.get 1000000 = some (.var [.ow 200 1 (needW l.length), nI .i64 l.length])) (h2 : O.get 200 = some (.row 1 (aF .u64 (a9 l)))) : SubO (bO 200 l) O :=
 SubO.of (l := [(1000000, .var [.ow 200 1 (needW l.length), nI .i64 l.length]), (200, .row 1 (aF .u64 (a9 l)))]) ⟨h1, h2, trivial⟩
theorem mK {k : IntKind} {l : List Nat} {i x : Nat} (h : l[i]? = some x) : (aF k l)[i]? = some [nI k x] := by simp [aF, h]
theorem DB {a i : Nat} {b : Bool} (h : a < 2 ^ i) (hi : i < 64) : a ||| b.toNat * 2 ^ i % 18446744073709551616 = a + b.toNat * 2 ^ i := by
 have h1 : (2 : Nat) ^ i ≤ 2 ^ 63 := Eh (by omega) (by omega);have h2 : (2 : Nat) ^ 63 = 9223372036854775808 := rfl;have h3 : b.toNat * 2 ^ i ≤ 2 ^ i := by cases b <;> simp
 rw [EB (by omega), ← Gm, CW h, Gm]
theorem Bk (l : List Bool) (b : Bool) (hl : l.length ≤ 100000000) : CtO P 17 (bO 1000001 l) [.c (.ad 1000000 0), .c (nB b), .c (eI .i64 1)] (bO 200 (l ++ [b])) [.c (eI .i64 0)] := by
 have hb : b.toNat ≤ 1 := by cases b <;> decide
 have hlen : (l ++ [b]).length = l.length + 1 := by simp
 have hnw := iq l.length;have hnw2 := iq (l ++ [b]).length;refine Ct.keepI (Ty.own_ok [1000001] aj) [] (N := 93) Tryz.func17 rfl rfl rfl rfl ?_;refine Dh (r := 1000001) (q := 200) (k := 1000000) (i := 0) rfl (by decide) (by decide) (by decide) rfl rfl rfl ?_;refine kg (Ty.own_ok [1000001] aj) aa ?_;refine X1 _ (wn b) ?_;refine ah (fun h => ?_) (fun _ => ?_)
 ·exfalso; omega
 refine .intro (by decide) (X1 ((l.length % 64 : Nat) : Int) (lU rfl) (And.intro ⟨by omega, by omega⟩ ?_));refine X1 ((l.length + 1 : Nat) : Int) (wI (by simp) (by omega) (by omega)) ?_;refine ah (fun h => ?_) (fun h => ?_)
 ·have h64 : l.length % 64 ≠ 0 := by omega
  obtain ⟨w1, w2⟩ := qE (b := b) h64;have w3 := u7 h64;have w4 := fv l;have w5 := fw (l := l) (k := l.length / 64) (by omega);have w6 := ou (l := l) (k := l.length / 64) (by omega) (by omega);have w7 := ot l (l.length / 64);refine .intro (by omega) ?_;refine X1 ((l.length / 64 : Nat) : Int) (wI (by omega) (by omega) (by omega)) ?_;refine .intro (by omega) (And.intro (by omega) ?_);refine X1 _ (by rw [EC]; exact mK w5) ?_;refine X1 ((l.length % 64 : Nat) : Int) (wU rfl (by omega) (by omega)) ?_;refine .intro (by omega) (X1 _ (tK (by omega)) ?_);refine X1 _ (orU w7 (E6 _ (by decide))) ?_;refine .intro (by omega) (And.intro (by omega) ?_);refine X1 _ (by rw [EC]; exact mK w5) ?_;refine .intro rfl ?_;refine au (Ty.own_ok [1000001] aj) aa (fun _ : Unit => True) (fun _ => [(0, .c (.ad 1000000 0)), (1, .c (nB b)), (7, .c (nI .i64 (l.length % 64)))])
   (fun _ => [(1000000, .var [.ow 200 1 (needW (l ++ [b]).length), nI .i64 (l ++ [b]).length]), (200, .row 1 (aF .u64 (a9 (l ++ [b]))))]) (fun _ => 0)
   () trivial ⟨rfl, rfl, rfl, trivial⟩ ⟨by rw [w2, hlen]; rfl, aB (by rw [EC, w1, ← nRow_set, DB (by rw [show l.length % 64 = l.length - 64 * (l.length / 64) by omega]; exact w6) (by omega)]; rfl), trivial⟩ (fun _ : Unit => True) (fun _ => []) (fun _ => [(1000000, .var [.ow 200 1 (needW (l ++ [b]).length), nI .i64 (l ++ [b]).length]), (200, .row 1 (aF .u64 (a9 (l ++ [b]))))]) (fun _ _ => ?_) (fun _ _ => ?_)
  ·refine .intro (by omega) ?_;refine X1 _ (qF (l ++ [b]).length (by omega)) ?_;refine .intro rfl ?_;refine ah (fun h => ?_) (fun _ => ?_)
   ·exfalso; omega
   ·exact ⟨(), trivial, trivial, ⟨rfl, rfl, trivial⟩⟩
  ·exact ⟨trivial, DA rfl rfl, r1 rfl, trivial⟩
 ·have h64 : l.length % 64 = 0 := by omega
  have w1 := qD (b := b) h64;have w2 : needW (l ++ [b]).length = needW l.length + 1 := by rw [hlen]; unfold needW; omega
  have w4 := fv l;refine au (Ty.own_ok [1000001] aj) aa (fun _ : Bool => True) (fun _ => [(0, .c (.ad 1000000 0)), (1, .c (nB b)), (7, .c (nI .i64 (l.length % 64)))])
   (fun g => [(1000000, .var [.ow 200 1 (bif g then needW (l ++ [b]).length else needW l.length), nI .i64 (l ++ [b]).length]), (200, .row 1 (aF .u64 (bif g then a9 (l ++ [b]) else a9 l)))]) (fun g => bif g then 0 else 1)
   false trivial ⟨rfl, rfl, rfl, trivial⟩ ⟨by rw [hlen]; rfl, rfl, trivial⟩ (fun _ : Unit => True) (fun _ => []) (fun _ => [(1000000, .var [.ow 200 1 (needW (l ++ [b]).length), nI .i64 (l ++ [b]).length]), (200, .row 1 (aF .u64 (a9 (l ++ [b]))))]) (fun g _ => ?_) (fun _ _ => ?_)
  ·cases g with
   | false =>
    refine .intro (by show needW l.length ≤ _; omega) ?_;refine X1 _ (qF (l ++ [b]).length (by omega)) ?_;refine .intro rfl ?_;refine ah (fun _ => ?_) (fun h => ?_)
    ·refine ah (fun h => ?_) (fun _ => ?_)
     ·exfalso; omega
     ·refine ⟨by rw [ai]; show needW l.length = (a9 l).length; rw [w4], by rw [ai]; show ((a9 l).length + 1 + 768) * 8 ≤ _; omega, by rw [ai]; show (a9 l).length + 1 ≤ _; omega, c9, c9 (l := [b.toNat]), ?_⟩;refine ⟨true, trivial, by decide, ⟨rfl, rfl, rfl, trivial⟩, ⟨?_, ?_, trivial⟩⟩
      ·show some (Ob.var [.ow 200 1 (aF .u64 (a9 l) ++ [[nB b]]).length, _]) = some (Ob.var [.ow 200 1 (needW (l ++ [b]).length), _])
       rw [D3, ai, w4, w2]; rfl
      ·refine aB ?_;show aF .u64 (a9 l) ++ aF .u64 [b.toNat] = aF .u64 (a9 (l ++ [b]))
       rw [w1, jV]
    ·exfalso;apply h;show ((needW l.length : Nat) : Int) < _
     omega
   | true =>
    refine .intro (by show needW (l ++ [b]).length ≤ _; omega) ?_;refine X1 _ (qF (l ++ [b]).length (by omega)) ?_;refine .intro rfl ?_;refine ah (fun h => ?_) (fun _ => ?_)
    ·exfalso;have : ((needW (l ++ [b]).length : Nat) : Int) < ((needW (l ++ [b]).length : Nat) : Int) := h;omega
    ·exact ⟨(), trivial, trivial, ⟨rfl, rfl, trivial⟩⟩
  ·exact ⟨trivial, DA rfl rfl, r1 rfl, trivial⟩
theorem boE {a b : Bool} (h : a = b) : (some (.c (.sc (.bool a))) : Option AV) = some (.c (.sc (.bool b))) := by rw [h]
theorem CX {x : Nat} (hx : x < 18446744073709551616) : IntKind.u64.wrap ((BitVec.ofInt IntKind.u64.bits (x : Int) &&& BitVec.ofInt IntKind.u64.bits (1 : Int)).toNat : Int) = ((x % 2 : Nat) : Int) := by
 have e : (BitVec.ofInt IntKind.u64.bits (x : Int) &&& BitVec.ofInt IntKind.u64.bits (1 : Int)).toNat = x % 2 := by
  show (BitVec.ofInt 64 (x : Int) &&& BitVec.ofInt 64 ((1 : Nat) : Int)).toNat = _
  rw [BitVec.ofInt_natCast, BitVec.ofInt_natCast, BitVec.toNat_and, BitVec.toNat_ofNat, BitVec.toNat_ofNat, EB (by omega : x < 2 ^ 64), EB (by decide : 1 < 2 ^ 64), F6]
 rw [e];exact wU rfl (by omega) (by omega)
theorem dF (l : List Bool) (hl : l.length ≤ 100000000) : Ct P 14 [.c (bP l)] [.c (nI .i64 l.length)] := by
 refine Ct.go aj aa (N := 9) Tryz.func14 rfl rfl rfl rfl ?_;exact ⟨trivial, r1 rfl, trivial⟩
theorem Bl (l : List Bool) (i : Nat) (hl : l.length ≤ 100000000) (hi : i < l.length) : Ct P 15 [.c (bP l), .c (nI .i64 i)] [.c (.sc (.bool (l.getD i false)))] := by
 have hw := fw (l := l) (k := i / 64) (by unfold needW; omega);have hb := iW hi;have hg : l.getD i false = decide (cB l (i / 64) / 2 ^ (i % 64) % 2 = 1) := by rw [DZ, hb]; rfl
 refine Ct.go aj aa (N := 33) Tryz.func15 rfl rfl rfl rfl ?_;refine ah (fun h => ?_) (fun _ => ?_)
 ·exfalso; omega
 refine .intro (by decide) (X1 ((i / 64 : Nat) : Int) (jW rfl) (And.intro ⟨by omega, by omega⟩ ?_));refine .intro (by omega) (X1 _ (by rw [EC]; exact mK hw) ?_);refine .intro (by decide) (X1 ((i % 64 : Nat) : Int) (lU rfl) (And.intro ⟨by omega, by omega⟩ ?_));refine X1 ((i % 64 : Nat) : Int) (wU rfl (by omega) (by omega)) ?_;have hwl := ot l (i / 64);have hdl : cB l (i / 64) / 2 ^ (i % 64) ≤ cB l (i / 64) := Fp _ _;refine .intro (by omega) (X1 ((cB l (i / 64) / 2 ^ (i % 64) : Nat) : Int) (fO (by omega)) (And.intro (inU (by omega)) ?_));refine X1 _ (CX (by omega)) ?_;refine ⟨trivial, r1 (boE ?_), trivial⟩;rw [hg];by_cases h : cB l (i / 64) / 2 ^ (i % 64) % 2 = 1
 ·rw [decide_eq_true h, h]; rfl
 ·rw [decide_eq_false h, show cB l (i / 64) / 2 ^ (i % 64) % 2 = 0 by omega]; rfl
def gK (l : List Bool) (k : Nat) : Nat := if k < needW l.length then cB l k else 0
theorem sM (l : List Bool) (k : Nat) : gK l k < 18446744073709551616 := by
 have := ot l k;unfold gK; split <;> omega
theorem sN (l : List Bool) (k : Nat) (hl : l.length ≤ 100000000) (hk : k ≤ 100000000) : Ct P 148 [.c (bP l), .c (nI .i64 k)] [.c (nI .u64 (gK l k))] := by
 have h1 := iq l.length;have h2 := fv l;refine Ct.go aj aa (N := 23) Tryz.func148 rfl rfl rfl rfl ?_;refine .intro (by rw [ai]; omega) ?_;rw [ai];refine ah (fun h => ?_) (fun h => ?_)
 ·exact ⟨trivial, r1 (iE (by rw [gK, if_neg (by omega)]; rfl)), trivial⟩
 ·refine .intro (by omega) (X1 _ (by rw [EC]; exact mK (fw (by omega))) ?_);exact ⟨trivial, r1 (iE (by rw [gK, if_pos (by omega)])), trivial⟩
theorem sP : Ct P 180 [.c (eI .i64 1)] [.c (eI .i64 1)] := by
 refine Ct.go aj aa (N := 6) Tryz.func180 rfl rfl rfl rfl ?_;exact ⟨trivial, r1 rfl, trivial⟩
theorem sQ : Ct P 149 [.c (eI .i64 1)] [.c (eI .u64 1)] := by
 refine Ct.go aj aa (N := 11) Tryz.func149 rfl rfl rfl rfl ?_;refine X1 _ sP ?_;refine X1 (1 : Int) (by decide) ?_;refine .intro (by decide) (X1 (2 : Int) (by decide) ?_);refine X1 (1 : Int) (by decide) ?_;exact ⟨trivial, r1 rfl, trivial⟩
theorem CY {a c s : Nat} (hs : s < 64) : (a ||| c * 2 ^ (64 - s) % 18446744073709551616) % 2 = a % 2 := by
 have h1 : c * 2 ^ (64 - s) % 18446744073709551616 % 2 = 0 := by
  have e : 18446744073709551616 = 2 * 9223372036854775808 := rfl;rw [e, Nat.mod_mul_right_mod, show 64 - s = (63 - s) + 1 by omega, EI, ← Ee];exact Nat.mul_mod_left _ _
 rw [← F6, Nat.and_or_distrib_right, F6, F6, h1, Nat.or_zero]
theorem Bm (l : List Bool) (i : Nat) (hl : l.length ≤ 100000000) (hi : i < l.length) : Ct P 103 [.c (bP l), .c (nI .i64 i), .c (eI .i64 1)] [.c (nB (l.getD i false))] := by
 have hb := iW hi;have hg : l.getD i false = decide (cB l (i / 64) / 2 ^ (i % 64) % 2 = 1) := by rw [DZ, hb]; rfl
 have hz : gK l (i / 64) = cB l (i / 64) := if_pos (by unfold needW; omega);have hwl := sM l (i / 64);have hw2 := sM l (i / 64 + 1);have hdl : gK l (i / 64) / 2 ^ (i % 64) ≤ gK l (i / 64) := Fp _ _;have fin : ∀ v, v % 2 = gK l (i / 64) / 2 ^ (i % 64) % 2 → v % 2 = (l.getD i false).toNat := fun v hv => by
  rw [hg, hv, hz];by_cases h : cB l (i / 64) / 2 ^ (i % 64) % 2 = 1
  ·rw [decide_eq_true h, h]; rfl
  ·rw [decide_eq_false h, show cB l (i / 64) / 2 ^ (i % 64) % 2 = 0 by omega]; rfl
 refine Ct.go aj aa (N := 67) Tryz.func103 rfl rfl rfl rfl ?_;refine ah (fun h => ?_) (fun _ => ?_)
 ·exfalso; omega
 refine ah (fun h => ?_) (fun _ => ?_)
 ·exfalso; omega
 refine .intro (by decide) (X1 ((i / 64 : Nat) : Int) (jW rfl) (And.intro ⟨by omega, by omega⟩ ?_));refine .intro (by decide) (X1 ((i % 64 : Nat) : Int) (lU rfl) (And.intro ⟨by omega, by omega⟩ ?_));refine X1 _ (sN l (i / 64) hl (by omega)) ?_;refine X1 ((i % 64 : Nat) : Int) (wU rfl (by omega) (by omega)) ?_;refine .intro (by omega) (X1 ((gK l (i / 64) / 2 ^ (i % 64) : Nat) : Int) (fO (by omega)) (And.intro (inU (by omega)) ?_));refine ah (fun h5 => ?_) (fun h5 => ?_)
 ·refine X1 ((i / 64 + 1 : Nat) : Int) (wI (by simp) (by omega) (by omega)) ?_;refine X1 _ (sN l (i / 64 + 1) hl (by omega)) ?_;refine X1 ((64 - i % 64 : Nat) : Int) (wI (by omega) (by omega) (by omega)) ?_;refine X1 ((64 - i % 64 : Nat) : Int) (wU rfl (by omega) (by omega)) ?_;refine .intro (by omega) (X1 _ (tK (by omega)) ?_);have hor := yK (v := gK l (i / 64) / 2 ^ (i % 64)) (m := gK l (i / 64 + 1) * 2 ^ (64 - i % 64) % 18446744073709551616) (by omega) (E6 _ (by decide));refine X1 _ (orU (by omega) (E6 _ (by decide))) ?_;refine X1 _ sQ ?_;refine X1 _ (CX hor) ?_;exact ⟨trivial, r1 (iE (by rw [fin _ (CY (by omega))])), trivial⟩
 ·refine X1 _ sQ ?_;refine X1 _ (CX (by omega)) ?_;exact ⟨trivial, r1 (iE (by rw [fin _ rfl])), trivial⟩
theorem ue (l m : List Nat) (hl : l.length ≤ 1000000) (hm : m.length ≤ 1000000) : Ct P 53 [.c (nSl .u64 l), .c (nSl .u64 m)] [.c (.sc (.bool (decide (l = m))))] := by
 refine Ct.go aj aa (N := 26) Tryz.func53 rfl rfl rfl rfl ?_;refine .intro (by rw [ai]; omega) ?_;rw [ai];refine .intro (by rw [ai]; omega) ?_;rw [ai];refine dL (fun h => ?_) (fun h => ?_)
 ·exact ⟨trivial, r1 (boE (decide_eq_false fun e => h (by rw [e])).symm), trivial⟩
 have hlm : l.length = m.length := by omega
 refine .intro (by rw [ai]; omega) ?_;rw [ai];refine au aj aa (fun i : Nat => i ≤ l.length ∧ l.take i = m.take i) (fun i => [(0, .c (nSl .u64 l)), (1, .c (nSl .u64 m)), (12, .c (nI .i64 l.length)), (13, .c (nI .i64 i))]) (fun _ => []) (fun i => l.length - i)
  0 ⟨by omega, rfl⟩ ⟨rfl, rfl, rfl, rfl, trivial⟩ trivial (fun _ : Unit => l = m) (fun _ => []) (fun _ => []) (fun i hi => ?_) (fun _ hp => ?_)
 ·obtain ⟨i1, i2⟩ := hi;refine ah (fun h1 => ?_) (fun h1 => ?_)
  ·have hi' : i < l.length := by omega
   refine .intro (by omega) (X1 _ (al rfl hi') ?_);refine .intro (by omega) (X1 _ (al rfl (by omega)) ?_);refine .intro rfl ?_;have e1 : l.getD i 0 = l[i] := by simp [DZ, hi']
   have e2 : m.getD i 0 = m[i] := by simp [DZ, show i < m.length by omega]
   refine dL (fun h2 => ?_) (fun h2 => ?_)
   ·exact ⟨trivial, r1 (boE (decide_eq_false fun e => h2 (by rw [e])).symm), trivial⟩
   ·refine X1 ((i + 1 : Nat) : Int) (wI1 (by omega)) ?_;refine ⟨i + 1, ⟨by omega, ?_⟩, by omega, ⟨rfl, rfl, rfl, rfl, trivial⟩, trivial⟩;rw [D5 hi', D5 (by omega : i < m.length), i2];congr 2;omega
  ·have e : i = l.length := by omega
   subst e;rw [EE, hlm, EE] at i2;exact ⟨(), i2, trivial, trivial⟩
 ·exact ⟨trivial, r1 (boE (decide_eq_true hp).symm), trivial⟩
theorem zD (l m : List Bool) (hl : l.length ≤ 1000000) (hm : m.length ≤ 1000000) : Ct P 19 [.c (bP l), .c (bP m)] [.c (.sc (.bool (decide (l = m))))] := by
 have a1 := iq l.length;have a2 := iq m.length;have a3 := fv l;have a4 := fv m;refine Ct.go aj aa (N := 29) Tryz.func19 rfl rfl rfl rfl ?_;refine X1 _ (dF l (by omega)) ?_;refine X1 _ (dF m (by omega)) ?_;refine dL (fun h => ?_) (fun h => ?_)
 ·refine X1 _ (dF l (by omega)) ?_;refine X1 _ (dF m (by omega)) ?_;refine ⟨trivial, r1 (boE ?_), trivial⟩;rw [decide_eq_false fun e => h (by rw [e])];simpa using h
 ·refine X1 _ (dF l (by omega)) ?_;refine aV (fun h2 => ?_) (fun h2 => ?_)
  ·refine X1 _ (dF l (by omega)) ?_;refine X1 _ (dF m (by omega)) ?_;refine ⟨trivial, r1 (boE ?_), trivial⟩;have e1 : l = [] := Ev.1 (by omega);have e2 : m = [] := Ev.1 (by omega);subst e1 e2;rfl
  ·refine X1 _ (ue (a9 l) (a9 m) (by omega) (by omega)) ?_;refine .intro rfl ?_;refine ⟨trivial, r1 (boE ?_), trivial⟩;by_cases e : l = m
   ·subst e; simp
   ·rw [decide_eq_false e, decide_eq_false fun hw => e (ud (by omega) hw)]
theorem Bn (v : Nat) (hv : v ≤ 1) : Ct P 147 [nV v] [.c (nI .u64 v), .c (.sc (.bool true))] := by
 have hc : v = 0 ∨ v = 1 := by omega
 rcases hc with rfl | rfl
 ·rw [show nV 0 = .ag [nSl .u64 []] from by rw [← bu 18446744073709551616]];refine Ct.go aj aa (N := 15) Tryz.func147 rfl rfl rfl rfl ?_;refine .intro (by decide) ?_;exact ⟨trivial, r1 rfl, r1 rfl, trivial⟩
 ·have e : dg 18446744073709551616 1 = [1] := by rw [gx (by omega) (by omega), show 1 / 18446744073709551616 = 0 from rfl, bu]
  rw [show nV 1 = .ag [nSl .u64 [1]] from by rw [← e]];refine Ct.go aj aa (N := 15) Tryz.func147 rfl rfl rfl rfl ?_;refine .intro (by decide) ?_;refine .intro (by decide) (X1 _ rfl ?_);exact ⟨trivial, r1 rfl, r1 rfl, trivial⟩
theorem uf : a9 [] = [] := by unfold a9; rw [show needW ([] : List Bool).length = 0 from rfl]; rfl
theorem CZ (v k j : Nat) (hv : v < 2 ^ j) (hj : j ≤ 900000) (hk : k ≤ 900000) : Ct P 101 [nV v, .c (nI .i64 k)] [.c (bP (dc v k))] := by
 have l1 := eZ hv (by omega);refine Ct.go (Ty.own_ok [16] aj) aa (N := 39) Tryz.func101 rfl rfl rfl rfl ?_;refine X2 (.own [] [(2, 60)]) ?_;refine ⟨_, _, Bj, ?_⟩;refine X1 ((k : Int) - 1) (wI rfl (by omega) (by omega)) ?_;refine tt (r := 61) (k := 60) (i := 0) (sz := 1) rfl rfl rfl ?_;refine au (Ty.own_ok [16] aj) aa (fun i : Nat => i ≤ k) (fun i => [(2, .c (.ad 2 0)), (5, .c (.ad 60 0)), (6, .c (eI .i64 ((i : Int) - 1)))])
  (fun i => [(2, .var (nV v).cells), (60, .var [.ow 61 1 (needW (dc (v / 2 ^ i) (k - i)).length), nI .i64 (dc (v / 2 ^ i) (k - i)).length]), (61, .row 1 (aF .u64 (a9 (dc (v / 2 ^ i) (k - i)))))]) (fun i => i)
  k (by omega) ⟨rfl, rfl, rfl, trivial⟩ ⟨rfl, by rw [Gy, show dc (v / 2 ^ k) 0 = [] from rfl, show needW ([] : List Bool).length = 0 from rfl]; rfl, by rw [Gy, show dc (v / 2 ^ k) 0 = [] from rfl, uf]; rfl, trivial⟩ (fun _ : Unit => True) (fun _ => [(5, .c (.ad 60 0))]) (fun _ => [(60, .var [.ow 61 1 (needW (dc v k).length), nI .i64 (dc v k).length]), (61, .row 1 (aF .u64 (a9 (dc v k))))]) (fun i hi => ?_) (fun _ _ => ?_)
 ·refine ah (fun h1 => ?_) (fun h1 => ?_)
  ·obtain ⟨i, rfl⟩ : ∃ n, i = n + 1 := ⟨i - 1, by omega⟩;have hb : v / 2 ^ i ≤ v := Fp _ _;have hb2 : v / 2 ^ i / 2 ^ 1 ≤ v / 2 ^ i := Fp _ _;have lb := eZ (v := v / 2 ^ i) (by omega) (by omega : j ≤ 2000000);have lb2 := eZ (v := v / 2 ^ i / 2 ^ 1) (by omega) (by omega : j ≤ 2000000);have lb3 : v / 2 ^ i / 2 ^ 1 * 2 ^ 1 ≤ v / 2 ^ i := Nat.div_mul_le_self _ _;have lb4 : v / 2 ^ i - v / 2 ^ i / 2 ^ 1 * 2 ^ 1 = v / 2 ^ i % 2 := by rw [Nat.pow_one]; omega
   have hbits : dc (v / 2 ^ i) (k - i) = dc (v / 2 ^ (i + 1)) (k - (i + 1)) ++ [decide (v / 2 ^ i % 2 = 1)] := by
    rw [show k - i = k - (i + 1) + 1 by omega, dc, F5, ← EI]
   have hbl := iT (k - (i + 1)) (v / 2 ^ (i + 1));have hbt : (decide (v / 2 ^ i % 2 = 1)).toNat = v / 2 ^ i % 2 := by
    by_cases h : v / 2 ^ i % 2 = 1
    ·rw [decide_eq_true h, h]; rfl
    ·rw [decide_eq_false h]; show 0 = _; omega
   have hadd := Bk (dc (v / 2 ^ (i + 1)) (k - (i + 1))) (decide (v / 2 ^ i % 2 = 1)) (by omega);refine X1 _ (show Ct P 146 [nV v, .c (eI .i64 (((i + 1 : Nat) : Int) - 1))] [nV (v / 2 ^ i)] by rw [show ((i + 1 : Nat) : Int) - 1 = (i : Int) by omega]; exact p9 v i (by omega) (by omega)) ?_;refine X1 _ (p9 (v / 2 ^ i) 1 (by omega) (by omega)) ?_;refine X1 _ (nH (v / 2 ^ i / 2 ^ 1) 1 (by omega) (by omega)) ?_;refine X1 _ (uw _ _ lb3 (by omega)) ?_;rw [lb4];refine .intro rfl ?_;refine X1 _ (Bn _ (by omega)) ?_;rw [← hbt];refine X2 (.own [(60, 1000000), (61, 1000001)] [(1000000, 60), (200, 61)]) ?_;refine ⟨_, _, hadd, ?_⟩;refine X1 ((i : Int) - 1) (wI (by omega) (by omega) (by omega)) ?_;rw [← hbits];exact ⟨i, by omega, by omega, ⟨rfl, rfl, rfl, trivial⟩, ⟨rfl, rfl, rfl, trivial⟩⟩
  ·have e : i = 0 := by omega
   subst e;exact ⟨(), trivial, ⟨rfl, trivial⟩, ⟨by rw [GB, GX, FY]; rfl, by rw [GB, GX, FY]; rfl, trivial⟩⟩
 ·exact ⟨trivial, r1 rfl, trivial⟩
theorem wo (l : List Bool) (i : Nat) (hi : i < l.length) : valB (l.take (i + 1)) = 2 * valB (l.take i) + (l.getD i false).toNat := by
 rw [D5 hi, pr, DZ, Em hi, Fx]
theorem ug (l : List Bool) (hl : l.length ≤ 900000) : Ct P 50 [.c (bP l)] [qP (oE l)] := by
 have hlt := fun i => Ea (mI (l.take i)) (Eh (n := 2) (by omega) (show (l.take i).length ≤ l.length by rw [Ed]; omega))
 refine Ct.go aj aa (N := 31) Tryz.func50 rfl rfl rfl rfl ?_;refine X1 _ (fM 0 (by omega)) ?_;refine X1 _ (dF l (by omega)) ?_;refine au aj aa (fun i : Nat => i ≤ l.length) (fun i => [(0, .c (bP l)), (2, .c (.ad 2 0)), (3, .c (.ad 3 0)), (9, .c (nI .i64 l.length)), (10, .c (nI .i64 i))])
  (fun i => [(2, .var [.sc (.slice none 0 0), .sc (.slice none 0 0)]), (3, .var (nV (valB (l.take i))).cells)]) (fun i => l.length - i)
  0 (by omega) ⟨rfl, rfl, rfl, rfl, rfl, trivial⟩ ⟨rfl, rfl, trivial⟩ (fun _ : Unit => True) (fun _ => [(0, .c (bP l)), (2, .c (.ad 2 0)), (3, .c (.ad 3 0))]) (fun _ => [(2, .var [.sc (.slice none 0 0), .sc (.slice none 0 0)]), (3, .var (nV (valB l)).cells)]) (fun i hi => ?_) (fun _ _ => ?_)
 ·refine ah (fun h1 => ?_) (fun h1 => ?_)
  ·have hi' : i < l.length := by omega
   have hlen := eZ (hlt i) (by omega);have hb : (l.getD i false).toNat ≤ 1 := by cases l.getD i false <;> decide
   have l2 := eZ (v := valB (l.take i) * 2 ^ 1) (k := l.length + 1) (gk (hlt i)) (by omega);have l3 := eZ (v := (l.getD i false).toNat) (k := 1) (by omega) (by omega);have hv : valB (l.take i) * 2 ^ 1 + (l.getD i false).toNat = valB (l.take (i + 1)) := by rw [wo l i hi', Nat.pow_one]; omega
   refine X1 _ (nH _ 1 (by omega) (by omega)) ?_;refine X1 _ (Bm l i (by omega) hi') ?_;refine X1 _ (fM _ (by omega)) ?_;refine X1 _ (mt _ _ (by omega) (by omega)) ?_;rw [hv];refine X1 ((i + 1 : Nat) : Int) (wI1 (by omega)) ?_;exact ⟨i + 1, by omega, by omega, ⟨rfl, rfl, rfl, rfl, rfl, trivial⟩, ⟨rfl, rfl, trivial⟩⟩
  ·have e : i = l.length := by omega
   subst e;exact ⟨(), trivial, ⟨rfl, rfl, rfl, trivial⟩, ⟨rfl, by rw [EE]; rfl, trivial⟩⟩
 ·have h1 : (1 : Nat) < 2 ^ (l.length + 1) := Ea (by decide) (Eh (n := 2) (by omega) (show 1 ≤ l.length + 1 by omega));have l1 := eZ h1 (by omega);refine X1 _ (fM 1 (by omega)) ?_;refine X1 _ (dF l (by omega)) ?_;refine X1 _ (nH 1 l.length (by omega) (by omega)) ?_;rw [EK];refine X1 _ (kJ (k := l.length + 1) (Nat.pos_iff_ne_zero.1 (ER _)) (Ea (mI l) (Eh (by omega) (by omega))) (Nat.pow_lt_pow_right (by omega) (by omega)) (by omega)) ?_;refine .intro rfl ?_;exact ⟨trivial, rc rfl, trivial⟩
theorem C0 {p : Fr2 × Fr2} {j k : Nat} (h : Bd j p.1) : vK p k < 2 ^ (j + k + 1) := by
 have h1 : Bd (j + k) (p.1.1 * 2 ^ k, p.1.2) := ⟨h.pos, gk h.n, Ea h.d (Eh (by omega) (by omega))⟩;exact CU h1
theorem Bo {p : Fr2 × Fr2} {j k0 : Nat} (h1 : Bd j p.1) (h2 : Bd j p.2) (hr : Nat.gcd p.1.1 p.1.2 = 1) (hc : IsCode p k0) (hj : j ≤ 120000) (hk : k0 ≤ 300000) : Ct P 47 [pA p] [.c (bP (dc (vK p k0) k0))] := by
 have he := eY h1 h2;refine Ct.go aj aa (N := 32) Tryz.func47 rfl rfl rfl rfl ?_;refine b9 aj aa (fun k : Nat => k ≤ k0) (fun k => [(1, .c (.ad 1 0)), (3, .c (nI .i64 k))]) (fun _ => [(1, .var (pA p).cells)]) (fun k => k0 - k)
  0 (by omega) ⟨rfl, rfl, trivial⟩ ⟨rfl, trivial⟩ (fun k hk' => ?_)
 have ht := sH (j := k) h1;have hup : upF (fR (p.1.1 * 2 ^ k) p.1.2) = vK p k := CQ h1.pos;have hv := C0 (k := k) h1;have hv1 : vK p k + 1 < 2 ^ (j + k + 2) := by rw [EI]; omega
 have ho : (1 : Nat) < 2 ^ (j + k + 2) := Ea (by decide) (Eh (n := 2) (by omega) (show 1 ≤ j + k + 2 by omega));have lo := eZ ho (by omega);have lv := eZ hv (by omega);have hte := sH (j := k) he;have hw : fR (vK p k + 1) 1 = (vK p k + 1, 1) := uJ (GN _);have hof := kJ (k := j + k + 2) (n := vK p k + 1) (d := 1) (by omega) hv1 ho (by omega);rw [hw] at hof;have hcmp := mz (vK p k + 1) 1 (fR ((bE p.1 p.2).1 * 2 ^ k) (bE p.1 p.2).2).1 (fR ((bE p.1 p.2).1 * 2 ^ k) (bE p.1 p.2).2).2 (cq (aE hv1 (by omega)) (by omega)) (cq hte (by omega));rw [ib hte.pos, show dn 1 = 1 from rfl, Fg] at hcmp;have hup2 := CV ht (by omega);rw [hup] at hup2;refine X1 _ (sI h1 (by omega)) ?_;refine X1 _ hup2 ?_;refine X1 _ (fM 1 (by omega)) ?_;refine X1 _ (mt _ _ (by omega) (by omega)) ?_;refine X1 _ (fM 1 (by omega)) ?_;refine X1 _ hof ?_;refine .intro rfl ?_;refine X1 _ (u5 h1 h2 hr (by omega)) ?_;refine X1 _ (sI he (by omega)) ?_;refine X1 _ hcmp ?_;refine .intro rfl ?_;have hgood : good p k = true ↔ bC (((vK p k + 1) * (fR ((bE p.1 p.2).1 * 2 ^ k) (bE p.1 p.2).2).2 : Nat) : Int) (((fR ((bE p.1 p.2).1 * 2 ^ k) (bE p.1 p.2).2).1 : Nat) : Int) ≤ 0 := by
  unfold good jy;rw [decide_eq_true_eq, ← Dx he.pos];unfold bC;split
  ·exact ⟨fun _ => by omega, fun _ => by omega⟩
  ·split
   ·exact ⟨fun _ => by omega, fun _ => by omega⟩
   ·exact ⟨fun _ => by omega, fun _ => by omega⟩
 refine ah (fun h5 => ?_) (fun h5 => ?_)
 ·have hg := hgood.2 h5;have e : k = k0 := by
   rcases EQ k k0 with h | h
   ·have := hc.least k h; rw [hg] at this; cases this
   ·omega
  subst e;refine X1 _ (CZ (vK p k) k (j + k + 1) hv (by omega) (by omega)) ?_;exact ⟨trivial, r1 rfl, trivial⟩
 ·have hne : k ≠ k0 := fun e => h5 (hgood.1 (by rw [e]; exact hc.good))
  refine X1 ((k + 1 : Nat) : Int) (wI (by simp) (by omega) (by omega)) ?_;exact ⟨k + 1, by omega, by omega, ⟨rfl, rfl, trivial⟩, ⟨rfl, trivial⟩⟩
end
section
def inB (n : Nat) (w : Int) : Bool := decide (0 ≤ w) && decide (w < n)
theorem inB_iff {n : Nat} {ids : List Int} : ids.all (inB n) = true ↔ InW n ids := by
 unfold inB InW;rw [EU];simp
def jb (n : Nat) (ids : List Int) : Int := if ids.length > 64 then 5 else if ids.all (inB n) = true then 0 else 8
theorem uh {n : Nat} {ids : List Int} (h : jb n ids = 0) : ids.length ≤ 64 ∧ InW n ids := by
 unfold jb at h;split at h
 ·omega
 ·split at h
  ·rename_i h1 h2; exact ⟨by omega, inB_iff.1 h2⟩
  ·omega
section
variable {Lc : List (List Cnt)} {n B : Nat}
theorem ox (hx : XOk Lc n) (ids : List Int) (hl : ids.length ≤ 1000000) : CtO P 43 (xE Lc n) [.c (.ad 1000000 0), .c (iSl ids)] (xE Lc n) [.c (eI .i64 (jb n ids))] := by
 have h6 := hx.w6;refine Ct.io aj aa (N := 29) Tryz.func43 rfl rfl rfl rfl ?_;refine .intro (by rw [ae]; omega) ?_;rw [ae];refine ah (fun h1 => ?_) (fun h1 => ?_)
 ·exact ⟨trivial, cz (l := []) rfl rfl rfl trivial, r1 (iE (by rw [jb, if_pos (by omega)])), trivial⟩
 refine .intro (by rw [ae]; omega) ?_;rw [ae];refine au aj aa (fun i : Nat => i ≤ ids.length ∧ (ids.take i).all (inB n) = true) (fun i => [(0, .c (.ad 1000000 0)), (14, .c (iSl ids)), (15, .c (nI .i64 ids.length)), (16, .c (nI .i64 i))]) (fun _ => [(1000000, xC Lc n 1000001), (1000001, .me false (MOk Lc))]) (fun i => ids.length - i)
  0 ⟨by omega, rfl⟩ ⟨rfl, rfl, rfl, rfl, trivial⟩ ⟨rfl, rfl, trivial⟩ (fun _ : Unit => ids.all (inB n) = true) (fun _ => []) (fun _ => [(1000000, xC Lc n 1000001), (1000001, .me false (MOk Lc))]) (fun i hi => ?_) (fun _ hp => ?_)
 ·obtain ⟨i1, i2⟩ := hi;refine ah (fun h2 => ?_) (fun h2 => ?_)
  ·have hi' : i < ids.length := by omega
   have hget : (aM ids)[((i : Nat) : Int).toNat]? = some [eI .i64 ids[i]] := by rw [EC]; simp [aM, hi']
   have hts : ids.take (i + 1) = ids.take i ++ [ids[i]] := D5 hi';have hbad : inB n ids[i] = false → jb n ids = 8 := fun hb => by
    rw [jb, if_neg (by omega), if_neg];intro ha;rw [EU] at ha;rw [ha _ (Ec hi')] at hb; cases hb
   refine .intro (by omega) (X1 _ hget ?_);generalize ids[i] = w at *
   refine ah (fun h3 => ?_) (fun h3 => ?_)
   ·exact ⟨trivial, cz (l := []) rfl rfl rfl trivial, r1 (iE (by rw [hbad (by unfold inB; rw [decide_eq_false (by omega)]; rfl)])), trivial⟩
   ·refine X2 (.own σx σx) ?_;refine ⟨_, _, gd, ?_⟩;refine ah (fun h4 => ?_) (fun h4 => ?_)
    ·exact ⟨trivial, cz (l := []) rfl rfl rfl trivial, r1 (iE (by rw [hbad (by unfold inB; rw [decide_eq_false (show ¬ w < (n : Int) by omega), GW])])), trivial⟩
    ·refine X1 ((i + 1 : Nat) : Int) (wI1 (by omega)) ?_;refine ⟨i + 1, ⟨by omega, ?_⟩, by omega, ⟨rfl, rfl, rfl, rfl, trivial⟩, ⟨rfl, rfl, trivial⟩⟩;rw [hts, List.all_append, i2];simp [inB]; omega
  ·have e : i = ids.length := by omega
   subst e;rw [EE] at i2;exact ⟨(), i2, trivial, ⟨rfl, rfl, trivial⟩⟩
 ·exact ⟨trivial, cz (l := []) rfl rfl rfl trivial, r1 (iE (by rw [jb, if_neg (by omega), if_pos hp])), trivial⟩
noncomputable def kOf (p : Fr2 × Fr2) : Nat := by classical exact if h : ∃ k, IsCode p k then h.choose else 0
theorem zE {p : Fr2 × Fr2} {k : Nat} (h : IsCode p k) : kOf p = k := by
 have hx : ∃ k, IsCode p k := ⟨k, h⟩;unfold kOf;rw [dif_pos hx];exact hx.choose_spec.uniq h
theorem kL {p : Fr2 × Fr2} {j : Nat} (h1 : Bd j p.1) (h2 : Bd j p.2) (h0 : p.2.1 ≠ 0) : IsCode p (kOf p) ∧ kOf p ≤ j + 1 := by
 have b2 : (0 : Rat) < p.2.2 := FB.2 (Eu h2.pos);have hg : good p (j + 1) = true := by
  refine uZ h1.pos h2.pos ?_;have e : ((2 ^ (j + 1) : Nat) : Rat) * qv p.2 = (((2 ^ (j + 1) : Nat) : Rat) * p.2.1) / p.2.2 := by unfold qv; grind
  rw [e, fJ b2];have h3 : 2 * p.2.2 ≤ 2 ^ (j + 1) * p.2.1 := by
   have := h2.d;have h4 : 2 ^ (j + 1) * 1 ≤ 2 ^ (j + 1) * p.2.1 := ET _ (by omega);rw [EI] at h4 ⊢;omega
  have := Fz.2 h3;simp only [EZ] at this;exact this
 obtain ⟨k, hk, hc⟩ := sG hg;rw [zE hc];exact ⟨hc, hk⟩
def cd (Lc : List (List Cnt)) (n : Nat) (ids : List Int) : Fr2 × Fr2 := bf Lc n (ids ++ [2])
noncomputable def encB (Lc : List (List Cnt)) (n : Nat) (ids : List Int) : List Bool := dc (vK (cd Lc n ids) (kOf (cd Lc n ids))) (kOf (cd Lc n ids))
def ir (Lc : List (List Cnt)) (n : Nat) (ids : List Int) : Int := if jb n ids ≠ 0 then jb n ids else if idx 1 ids ≥ 0 ∨ idx 2 ids ≥ 0 then 1 else if (cd Lc n ids).2.1 = 0 then 7 else 0
noncomputable def encR (Lc : List (List Cnt)) (n : Nat) (ids : List Int) : A1 := if ir Lc n ids = 0 then .c (bP (encB Lc n ids)) else ov
theorem lx {ids : List Int} (h : ir Lc n ids = 0) : ids.length ≤ 64 ∧ InW n ids ∧ idx 1 ids < 0 ∧ idx 2 ids < 0 ∧ (cd Lc n ids).2.1 ≠ 0 := by
 unfold ir at h;split at h
 ·rename_i h1; exact absurd h h1
 ·rename_i h1;obtain ⟨a1, a2⟩ := uh (by omega : jb n ids = 0);split at h
  ·omega
  ·split at h
   ·omega
   ·rename_i h2 h3;exact ⟨a1, a2, by omega, by omega, h3⟩
theorem gm (hB : SB Lc n B) (h2 : 2 < n) {ids : List Int} (hw : InW n ids) : Bd (1 + B * (ids.length + 1)) (cd Lc n ids).1 ∧ Bd (1 + B * (ids.length + 1)) (cd Lc n ids).2 ∧ Nat.gcd (cd Lc n ids).1.1 (cd Lc n ids).1.2 = 1 := by
 have hw2 : InW n (ids ++ [2]) := fun x hx => by
  rcases EF.1 hx with hx | hx
  ·exact hw x hx
  ·simp at hx; subst hx; omega
 have := qC hB hw2 (ids.length + 1) (by simp);rw [EG (by simp)] at this;exact this
theorem sR (ids : List Int) : (encB Lc n ids).length = kOf (cd Lc n ids) := iT _ _
theorem iX (hB : SB Lc n B) (h2 : 2 < n) (ids : List Int) (hl : ids.length ≤ 24) : CtO P 13 (xE Lc n) [.c (.ad 1000000 0), .c (iSl ids)] (xE Lc n) [encR Lc n ids, .c (eI .i64 (ir Lc n ids))] := by
 have hb := hB.b;refine Ct.keep (Ty.own_ok [46] aj) aa [] (N := 31) Tryz.func13 rfl rfl rfl rfl ?_;refine X2 (.own σx σx) ?_;refine ⟨_, _, ox hB.x ids (by omega), ?_⟩;refine dL (fun h1 => ?_) (fun h1 => ?_)
 ·have e : ir Lc n ids = jb n ids := if_pos h1;have e2 : encR Lc n ids = ov := if_neg (by rw [e]; exact h1);rw [e, e2];exact ⟨trivial, cz (l := []) rfl rfl rfl trivial, r1 rfl, r1 rfl, trivial⟩
 obtain ⟨_, hw⟩ := uh h1;have e0 : ir Lc n ids = if idx 1 ids ≥ 0 ∨ idx 2 ids ≥ 0 then 1 else if (cd Lc n ids).2.1 = 0 then 7 else 0 := if_neg (by omega)
 refine X1 _ (g9 ids 1 (by omega)) ?_;refine ah (fun h3 => ?_) (fun h3 => ?_)
 ·rw [if_pos (.inl h3)] at e0;have e2 : encR Lc n ids = ov := if_neg (by rw [e0]; decide);rw [e0, e2];exact ⟨trivial, cz (l := []) rfl rfl rfl trivial, r1 rfl, r1 rfl, trivial⟩
 refine X1 _ (g9 ids 2 (by omega)) ?_;refine ah (fun h4 => ?_) (fun h4 => ?_)
 ·rw [if_pos (.inr h4)] at e0;have e2 : encR Lc n ids = ov := if_neg (by rw [e0]; decide);rw [e0, e2];exact ⟨trivial, cz (l := []) rfl rfl rfl trivial, r1 rfl, r1 rfl, trivial⟩
 rw [if_neg (by omega)] at e0;have hw2 : InW n (ids ++ [2]) := fun x hx => by
  rcases EF.1 hx with hx | hx
  ·exact hw x hx
  ·simp at hx; subst hx; omega
 obtain ⟨b1, b2, b3⟩ := gm hB h2 hw;have hBl : B * (ids.length + 1) ≤ 4000 * 25 := E7 hb (by omega);refine X2 (.own [] [(5, 68)]) ?_;refine ⟨_, _, li ids (by omega), ?_⟩;refine ⟨by rw [ae], by rw [ae]; show (ids.length + 1 + 768) * 8 ≤ _; omega, by rw [ae]; show ids.length + 1 ≤ _; omega, aZ, ar rfl, ?_⟩;refine X2 (.own [(1000000, 1000000), (1000001, 1000001), (68, 1000002)] [(1000000, 1000000), (1000001, 1000001), (1000002, 68)]) ?_;refine ⟨_, _, zB hB (ids ++ [2]) hw2 (by simp; omega) _ (by simp [aM]; rfl) _ (by show ((aM ids) ++ _).length = _; simp [aM]), ?_⟩;refine X1 _ (ic _ _ (D4 (eZ b2.n (by omega)) (by omega))) ?_;refine aN (fun h5 => ?_) (fun h5 => ?_)
 ·have h6 : (bf Lc n (ids ++ [2])).2.1 = 0 := by simpa using h5
  rw [if_pos (show (cd Lc n ids).2.1 = 0 from h6)] at e0;have e2 : encR Lc n ids = ov := if_neg (by rw [e0]; decide);rw [e0, e2];exact ⟨trivial, cz (l := []) rfl rfl rfl trivial, r1 rfl, r1 rfl, trivial⟩
 ·have h6 : (cd Lc n ids).2.1 ≠ 0 := fun h => by
   have : (bf Lc n (ids ++ [2])).2.1 = 0 := h;rw [this] at h5; simp at h5
  rw [if_neg h6] at e0;have e2 : encR Lc n ids = .c (bP (encB Lc n ids)) := if_pos e0;obtain ⟨c1, c2⟩ := kL b1 b2 h6;rw [e0, e2];refine X1 _ (Bo b1 b2 b3 c1 (by omega) (by omega)) ?_;exact ⟨trivial, cz (l := []) rfl rfl rfl trivial, r1 rfl, r1 rfl, trivial⟩
abbrev zA : A1 := .ag [.sc (.slice none 0 0), .sc (.slice none 0 0)]
theorem wq (hB : SB Lc n B) (ids : List Int) (hl : ids.length ≤ 25) : CtO P 28 (xE Lc n) [.c (.ad 1000000 0), .c (iSl ids)] (xE Lc n)
  [if jb n ids = 0 then qP (bf Lc n ids).1 else zA, if jb n ids = 0 then qP (bf Lc n ids).2 else zA, .c (eI .i64 (jb n ids))] := by
 have hb := hB.b;refine Ct.io aj aa (N := 24) Tryz.func28 rfl rfl rfl rfl ?_;refine X2 (.own σx σx) ?_;refine ⟨_, _, ox hB.x ids (by omega), ?_⟩;refine dL (fun h1 => ?_) (fun h1 => ?_)
 ·rw [if_neg h1, if_neg h1];exact ⟨trivial, cz (l := []) rfl rfl rfl trivial, rc rfl, rc rfl, r1 rfl, trivial⟩
 ·obtain ⟨_, hw⟩ := uh h1;rw [if_pos h1, if_pos h1, h1];refine X2 (.own σx σx) ?_;refine ⟨_, _, zC hB ids hw hl, ?_⟩;refine .intro rfl ?_;exact ⟨trivial, cz (l := []) rfl rfl rfl trivial, rc rfl, rc rfl, r1 rfl, trivial⟩
end
end
section
section
variable {Lc : List (List Cnt)} {n B : Nat}
theorem oy {h : List Int} {u : Fr2} : ∀ (f v : Nat), (∀ k, v ≤ k → k < v + f → inP Lc n h u k = false) → pp Lc n h u f v = -1
 | 0, v, _ => rfl
 | f + 1, v, hm => by
  unfold pp;rw [if_neg (by rw [hm v (by omega) (by omega)]; simp)];exact oy f (v + 1) fun k h1 h2 => hm k (by omega) (by omega)
theorem zF (hB : SB Lc n B) (H : List Int) (hP : u6 Lc n H) (u : Fr2) {j : Nat} (hu : Bd j u) (hj : j ≤ 900000) : CtO P 29 (xX Lc n (hO H)) [.c (.ad 1000000 0), .c (.ow 1000002 1 H.length), qP u] (xX Lc n (hO H)) [.c (eI .i64 (jf Lc n H u))] := by
 have h6 := hB.x.w6;have hb := hB.b;refine Ct.io aj aa (N := 27) Tryz.func29 rfl rfl rfl rfl ?_;refine X2 (.own σ3 νP) ?_;refine ⟨_, _, sJ H, ?_⟩;refine ym aj aa σP [1000000, 1000001, 1000002] (py hB H hP) Tryz.func114 rfl rfl rfl rfl rfl rfl rfl sK [5, 6] rfl (G := Unit) (fun i _ => i ≤ n ∧ ∀ k, k < i → inP Lc n H u k = false) (fun _ _ => [(5, .c (.ad 5 0)), (6, .c (.ad 6 0))])
  (fun _ _ => [(5, .var (qP u).cells), (6, .var [eI .i64 0])]) () ⟨by omega, fun k hk => by omega⟩ ⟨rfl, rfl, trivial⟩ ⟨rfl, rfl, trivial⟩ (fun _ _ => rfl) (fun i _ args hg hi => ?_) (fun _ hi => ?_)
 ·obtain ⟨hin, rfl⟩ := pz hg;obtain ⟨i1, i2⟩ := hi;have hsb := hB.sum H (w := i) (by omega);have hpb := hB.prob H (i : Int);have hend := u5 (p := dz Lc n H i) (j := B) (k := B) (show Bd B (bq Lc n H (i : Int).toNat) by rw [EC]; exact hsb) hpb (show Nat.gcd (bq Lc n H (i : Int).toNat).1 (bq Lc n H (i : Int).toNat).2 = 1 by rw [EC]; exact po hB.x H i) (by omega);have hsb2 : Bd B (bq Lc n H (i + 1)) := hB.sum H (w := i + 1) (by omega);have e1 : bE (dz Lc n H i).1 (dz Lc n H i).2 = bq Lc n H (i + 1) := by show bE (bq Lc n H (i : Int).toNat) _ = _; rw [EC]; rfl
  rw [e1] at hend;have e2 : (dz Lc n H i).1 = bq Lc n H i := by show bq Lc n H (i : Int).toNat = _; rw [EC]
  have hc1 := mz u.1 u.2 (bq Lc n H i).1 (bq Lc n H i).2 (cq hu (by omega)) (cq hsb (by omega));have hc2 := mz u.1 u.2 (bq Lc n H (i + 1)).1 (bq Lc n H (i + 1)).2 (cq hu (by omega)) (cq hsb2 (by omega));rw [ib hsb.pos, ib hu.pos] at hc1;rw [ib hsb2.pos, ib hu.pos] at hc2;rw [← e2] at hc1;have hin1 : inP Lc n H u i = (decide (bC ((u.1 * (bq Lc n H i).2 : Nat) : Int) (((bq Lc n H i).1 * u.2 : Nat) : Int) ≥ 0) && decide (bC ((u.1 * (bq Lc n H (i + 1)).2 : Nat) : Int) (((bq Lc n H (i + 1)).1 * u.2 : Nat) : Int) < 0)) := by
   unfold inP;congr 1
   ·refine decide_eq_decide.2 ?_;unfold bC;split
    ·constructor <;> intro h <;> omega
    ·split <;> constructor <;> intro h <;> omega
   ·refine decide_eq_decide.2 ?_;rw [cmpI_lt];omega
  rw [← e2] at hin1;have next : inP Lc n H u i = false → ∃ g' : Unit, (i + 1 ≤ n ∧ ∀ k, k < i + 1 → inP Lc n H u k = false) := fun hf => ⟨(), by omega, fun k hk => by
   by_cases e : k = i
   ·rw [e]; exact hf
   ·exact i2 k (by omega)⟩
  refine X1 _ hc1 ?_;refine ah (fun h1 => ?_) (fun h1 => ?_)
  ·refine X1 _ hend ?_;refine X1 _ hc2 ?_;refine .intro rfl ?_;refine ah (fun h2 => ?_) (fun h2 => ?_)
   ·rw [decide_eq_true h1, decide_eq_true h2] at hin1;have e : jf Lc n H u = i := iS hB.x hu.pos hin hin1;refine ⟨[(6, .c (.ad 6 0))], [(6, .var [nI .i64 i])], ⟨rfl, trivial⟩, ⟨rfl, trivial⟩, (fun p hp => by simp at hp; subst hp; rfl), ?_⟩;rw [e];exact ⟨trivial, cz (l := [(1000002, .row 1 (aM H))]) rfl rfl rfl ⟨rfl, trivial⟩, rc rfl, trivial⟩
   ·rw [decide_eq_false h2, GW] at hin1;obtain ⟨_, g1, g2⟩ := next hin1;exact ⟨(), ⟨g1, g2⟩, ⟨rfl, rfl, trivial⟩, ⟨rfl, rfl, trivial⟩⟩
  ·rw [decide_eq_false h1, Bool.false_and] at hin1;obtain ⟨_, g1, g2⟩ := next hin1;refine .intro rfl ?_;exact ⟨(), ⟨g1, g2⟩, ⟨rfl, rfl, trivial⟩, ⟨rfl, rfl, trivial⟩⟩
 ·obtain ⟨i1, i2⟩ := hi;have hlen : (gl Lc n H).length = n := by simp [gl]
  have e : jf Lc n H u = -1 := oy _ 0 fun k _ hk => i2 k (by rw [hlen]; omega)
  rw [e];exact ⟨trivial, cz (l := [(1000002, .row 1 (aM H))]) rfl rfl rfl ⟨rfl, trivial⟩, rc rfl, trivial⟩
end
end
section
section
variable {Lc : List (List Cnt)} {n B : Nat}
noncomputable def decV (Lc : List (List Cnt)) (n : Nat) (l : List Bool) (M : Nat) : Option (List Int) := oD Lc n (M + 1) [1] (oE l)
def ly (Lc : List (List Cnt)) (n : Nat) (l : List Bool) (ids : List Int) : Prop := ir Lc n ids = 0 ∧ encB Lc n ids = l
def wr (Lc : List (List Cnt)) (n : Nat) (l : List Bool) (M : Nat) (r : A1) (e : Int) : Prop := match decV Lc n l M with
 | none => r = .c (.sc (.slice none 0 0)) ∧ e = 5
 | some ids => (ly Lc n l ids ∧ r = .c (iSl ids) ∧ e = 0) ∨ (¬ ly Lc n l ids ∧ r = .c (.sc (.slice none 0 0)) ∧ e = 3)
theorem zG (l : List Bool) : qv (oE l) < 1 := by
 rw [(oq l).2, GM (gi _), Rat.one_mul];exact Rat.natCast_lt_natCast.2 (mI l)
theorem Bp (l : List Bool) {k : Nat} (hl : l.length ≤ k) : Bd (k + 1) (oE l) :=
 o6 (Nat.pos_iff_ne_zero.1 (ER _)) (Ea (mI l) (Eh (by omega) (by omega))) (Nat.pow_lt_pow_right (by omega) (by omega))
theorem DC (m : Int) : min (max m 0) 64 = if 64 < (if 0 > m then 0 else m) then 64 else (if 0 > m then 0 else m) := by
 repeat' split
 all_goals omega
set_option maxHeartbeats 1000000 in
theorem pC (hB : SB Lc n B) (h2 : 2 < n) (l : List Bool) (hl : l.length ≤ 4096) (most : Int) (M : Nat) (hM : ((M : Nat) : Int) = min (max most 0) 64) (hM2 : M ≤ 24) (hmo : -1000 ≤ most) (hmo2 : most ≤ 1000) :
  ∃ r e, wr Lc n l M r e ∧ CtO P 18 (xE Lc n) [.c (.ad 1000000 0), .c (bP l), .c (eI .i64 most)] (xE Lc n) [r, .c (eI .i64 e)] := by
 have hb := hB.b;have hx := hB.x;generalize hdv : decV Lc n l M = dv;have hfin : ∃ r e, wr Lc n l M r e := by
  unfold wr;rw [hdv]
  cases dv with
  | none => exact ⟨_, _, rfl, rfl⟩
  | some ids =>
   by_cases hc : ly Lc n l ids
   ·exact ⟨_, _, .inl ⟨hc, rfl, rfl⟩⟩
   ·exact ⟨_, _, .inr ⟨hc, rfl, rfl⟩⟩
 obtain ⟨r, e, hR⟩ := hfin
 refine ⟨r, e, hR, ?_⟩;unfold wr at hR;rw [hdv] at hR;refine Ct.keep aj aa [] (N := 73) Tryz.func18 rfl rfl rfl rfl ?_;refine X1 _ (dF l (by omega)) ?_;refine ah (fun h1 => absurd h1 (by omega)) (fun _ => ?_);refine X1 _ (ug l (by omega)) ?_;refine xf (G := List Int × Fr2) aj aa (fun (ids, u) => ids.length ≤ M ∧ qv u < 1 ∧ Bd (4097 + 2 * B * ids.length) u ∧ oD Lc n (M + 1 - ids.length) ([1] ++ ids) u = dv)
  (fun (ids, u) => [(0, .c (.ad 1000000 0)), (1, .c (bP l)), (2, .c (eI .i64 most)), (8, .c (.ad 8 0)), (9, .c (.ow 24 1 (ids.length + 1)))])
  (fun (ids, u) => [(1000000, xC Lc n 1000001), (1000001, .me false (MOk Lc)), (8, .var (qP u).cells), (24, .row 1 (aM ([1] ++ ids)))]) (fun (ids, u) => M + 1 - ids.length)
  ([], oE l) ⟨by simp, zG l, Bp l hl, hdv⟩ ⟨rfl, rfl, rfl, rfl, rfl, trivial⟩ ⟨rfl, rfl, rfl, rfl, trivial⟩ (fun ids : List Int => ids.length ≤ M ∧ dv = some ids) (fun ids => [(0, .c (.ad 1000000 0)), (1, .c (bP l)), (9, .c (.ow 24 1 (ids.length + 1)))])
  (fun ids => [(1000000, xC Lc n 1000001), (1000001, .me false (MOk Lc)), (24, .row 1 (aM ([1] ++ ids)))]) (fun (ids, u) hi => ?_) (fun ids hp => ?_)
 ·obtain ⟨i1, i2, i3, i4⟩ := hi;have hBi : 2 * B * ids.length ≤ 2 * 4000 * 24 := E7 (by omega) (by omega);have hlen : ([1] ++ ids).length = ids.length + 1 := by simp
  have hP := hB.probO ([1] ++ ids) (by omega) (by omega);obtain ⟨w, hw, hin, hpk⟩ := Be hx hB.e ([1] ++ ids) i3.pos i2;have hpi := zF hB ([1] ++ ids) hP u i3 (by omega);rw [hpk, hlen] at hpi;refine X2 (.own [(1000000, 1000000), (1000001, 1000001), (24, 1000002)] [(1000000, 1000000), (1000001, 1000001), (1000002, 24)]) ?_;refine ⟨_, _, hpi, ?_⟩;refine aV (fun h3 => ?_) (fun h3 => ?_)
  ·refine ⟨ids, ⟨i1, ?_⟩, ⟨rfl, rfl, rfl, trivial⟩, ⟨rfl, rfl, rfl, trivial⟩⟩;obtain ⟨f, hf⟩ : ∃ f, M + 1 - ids.length = f + 1 := ⟨M - ids.length, by omega⟩;rw [hf] at i4;unfold oD at i4;rw [hpk, if_pos h3] at i4;exact i4.symm
  ·have hw2 : ¬ ((w : Int) = 2) := h3;obtain ⟨f, hf⟩ : ∃ f, M + 1 - ids.length = f + 1 := ⟨M - ids.length, by omega⟩;rw [hf] at i4;unfold oD at i4;rw [hpk, if_neg hw2] at i4;refine .intro (by omega) ?_;refine ah (fun h4 => ?_) (fun h4 => ?_)
   ·have hf0 : f = 0 := by
     rw [← DC most, ← hM] at h4;omega
    rw [if_pos hf0] at i4;subst i4;obtain ⟨rfl, rfl⟩ := hR;exact ⟨trivial, cz (l := []) rfl rfl rfl trivial, r1 rfl, r1 rfl, trivial⟩
   ·have hf0 : ¬ f = 0 := by
     rw [← DC most, ← hM] at h4;omega
    rw [if_neg hf0, EC] at i4;obtain ⟨l1, l2, l3, l4, l5⟩ := ol hx i3.pos hin
    have l6 := Bh hx i3.pos hin
    have hof := ub hB ([1] ++ ids) hP w hw;rw [hlen] at hof;have hsb := hB.sum ([1] ++ ids) (w := w) (by omega);have hpb := hB.prob ([1] ++ ids) (w : Int);have hs := mB i3 hsb;have hd := cn hs hpb l1;have hless := kv (p := u) (q := bq Lc n ([1] ++ ids) w) (by rw [aw i3]; exact i3) (by rw [aw hsb]; exact hsb) (by omega) (by omega);have hdiv := AS (p := cW u (bq Lc n ([1] ++ ids) w)) (q := bj Lc n ([1] ++ ids) w) (by rw [aw hs]; exact hs) (by rw [aw hpb]; exact hpb) l1 (by omega) (by omega);rw [aw i3, aw hsb] at hless;rw [aw hs, aw hpb] at hdiv;refine X2 (.own [(1000000, 1000000), (1000001, 1000001), (24, 1000002)] [(1000000, 1000000), (1000001, 1000001), (1000002, 24)]) ?_;refine ⟨_, _, hof, ?_⟩;have e2 : dz Lc n ([1] ++ ids) (w : Int) = (bq Lc n ([1] ++ ids) w, bj Lc n ([1] ++ ids) w) := by unfold dz; rw [EC]
    rw [e2];refine X1 _ hless ?_;refine X1 _ hdiv ?_;refine .intro rfl ?_;refine ⟨by rw [ae, hlen], by rw [ae, hlen]; show (ids.length + 1 + 1 + 768) * 8 ≤ _; omega, by rw [ae, hlen]; show ids.length + 1 + 1 ≤ _; omega, aZ, ar rfl, ?_⟩;refine ⟨(ids ++ [(w : Int)], _), ⟨?_, l6, ?_, ?_⟩, ?_, ⟨rfl, rfl, rfl, rfl, owE (by rw [D3, ae, hlen, D3]; rfl), trivial⟩, ⟨rfl, rfl, rfl, aB (by rw [← Gv]; simp [aM]; rfl), trivial⟩⟩
    ·rw [D3]; show ids.length + 1 ≤ M; omega
    ·refine hd.le ?_;rw [D3, show 2 * B * (ids.length + [(w : Int)].length) = 2 * B * ids.length + 2 * B by show 2 * B * (ids.length + 1) = _; rw [Er, Fg]];omega
    ·rw [D3, ← Gv];rw [show M + 1 - (ids.length + [(w : Int)].length) = f by show M + 1 - (ids.length + 1) = f; omega];exact i4
    ·show M + 1 - (ids ++ [(w : Int)]).length < _
     rw [D3];show M + 1 - (ids.length + 1) < M + 1 - ids.length
     omega
 ·obtain ⟨i1, hdv2⟩ := hp;subst hdv2;have hlen : ([1] ++ ids).length = ids.length + 1 := by simp
  refine B1 aj aa [24] ?_;refine ⟨1, ids.length + 1, rfl, by rw [ae, hlen]; rfl, by omega, by rw [ae, hlen]; omega, ?_⟩;rw [iRow_sub, show ([1] ++ ids : List Int).drop 1 = ids from rfl, show ids.length + 1 - 1 = ids.length from rfl, EE];have henc := iX hB h2 ids (by omega);refine X2 (.own σx σx) ?_;refine ⟨_, _, henc, ?_⟩;simp only at hR;refine dL (fun h3 => ?_) (fun h3 => ?_)
  ·have hc : ¬ ly Lc n l ids := fun hc => h3 hc.1
   rcases hR with ⟨hc2, _⟩ | ⟨_, rfl, rfl⟩
   ·exact absurd hc2 hc
   exact ⟨trivial, cz (l := []) rfl rfl rfl trivial, r1 rfl, r1 rfl, trivial⟩
  ·have e2 : encR Lc n ids = .c (bP (encB Lc n ids)) := if_pos h3;rw [h3, e2];obtain ⟨_, c2, _, _, c3⟩ := lx h3;obtain ⟨b1, b2, _⟩ := gm hB h2 c2;obtain ⟨_, c4⟩ := kL b1 b2 c3;have hBl : B * (ids.length + 1) ≤ 4000 * 25 := E7 hb (by omega);refine X1 _ (zD _ l (by rw [sR]; omega) (by omega)) ?_;refine aN (fun h5 => ?_) (fun h5 => ?_)
   ·have hc : ¬ ly Lc n l ids := fun hc => by
     rw [decide_eq_true hc.2] at h5; cases h5
    rcases hR with ⟨hc2, _⟩ | ⟨_, rfl, rfl⟩
    ·exact absurd hc2 hc
    exact ⟨trivial, cz (l := []) rfl rfl rfl trivial, r1 rfl, r1 rfl, trivial⟩
   ·have hc : ly Lc n l ids := ⟨h3, by simpa using h5⟩;rcases hR with ⟨_, rfl, rfl⟩ | ⟨hc2, _⟩
    ·refine X1 _ (iJ ids (by omega)) ?_;exact ⟨trivial, cz (l := []) rfl rfl rfl trivial, r1 rfl, r1 rfl, trivial⟩
    ·exact absurd hc hc2
end
end
section
abbrev σK : List (Nat × Nat) := [(200, 1000000), (201, 1000001)]
abbrev νK : List (Nat × Nat) := [(1000000, 200), (1000001, 201)]
theorem qG {s : ByteArray} (hs : s.size ≤ 120) {m : Nat} (h1 : 1 ≤ m) (h4 : m ≤ 4) : XOk (ao (ofL s m)) (aH s).length := CF (t9 hs h4).1 (sv hs h1 h4) (t9 hs h4).2
theorem Bq (s : ByteArray) (hs : s.size ≤ 120) (o m : Nat) (ho : o < 256) (hm : m = 1 + o % 4) :
  CtO P 12 [] [.c (sS s), .c (nI .u8 o)] [(200, some (xC (ao (ofL s m)) (aH s).length 201)), (201, some (.mp false [] []))] [.c (.ad 200 0), mM (ofL s m) (aH s).length, .c (.sc (.bool true))] := by
 have h1 : 1 ≤ m := by omega
 have h4 : m ≤ 4 := by omega
 have hx := qG hs h1 h4;have hw := sv hs h1 h4;obtain ⟨hsum, _⟩ := t9 (m := m) hs h4;obtain ⟨l1, l2⟩ := n7 hs;obtain ⟨a1, a2⟩ := n8 hs;have hok := (jv hw).1;have hlen : (ofL s m).length = m := cc _ _;have hcl := bm (ofL s m);have hord := sq (fu (aH s) s) m (by omega) (by omega) (fun p hp => by have := (a2 p hp).1; omega);have hnew := zb (ofL s m) (aH s).length hsum hw;have hrnew := AY (ofL s m) (aH s).length hsum (hok.ccform hsum.lim) (by omega);have hword := nO (ks := []) (vs := []) hx;refine Ct.keep (Ty.own_ok [36] aj) aa [] (N := 50) Tryz.func12 rfl rfl rfl rfl ?_;refine X1 _ (t5 s (by omega)) ?_;refine X1 (o : Int) (wI rfl (by omega) (by omega)) ?_;refine .intro (by omega) (X1 ((o % 4 : Nat) : Int) ?_ (And.intro ⟨by show (-9223372036854775808 : Int) ≤ _; omega, by show _ ≤ (9223372036854775807 : Int); omega⟩ ?_))
 ·show Int.tmod (o : Int) 4 = _
  rw [Gd (by omega)]; omega
 refine X1 (m : Int) (wI (by omega) (by omega) (by omega)) ?_;refine X1 _ (zl (aH s) s (by omega) (by omega)) ?_;refine X1 _ hord ?_;refine .intro (by rw [aK]; omega) ?_;rw [aK];refine X2 (.own [] [(36, 200), (34, 201)]) ?_;refine ⟨_, _, hnew, ?_⟩;refine .intro (by rw [aK]; omega) ?_;rw [aK];refine X1 _ hrnew ?_;refine X2 (.own σK νK) ?_;refine ⟨_, _, hword, ?_⟩;refine aV (fun _ => ?_) (fun h => ?_)
 ·refine X2 (.own σK νK) ?_;refine ⟨_, _, rX, ?_⟩;refine .intro (by rw [aK]; omega) ?_;rw [aK];exact ⟨trivial, SubO.of (l := [(200, xC (ao (ofL s m)) (aH s).length 201), (201, .mp false [] [])]) ⟨rfl, rfl, trivial⟩, r1 rfl, rc rfl, r1 (blE (beq_self_eq_true _)), trivial⟩
 ·exfalso; omega
theorem mL : ∀ {l : List Int} {v : Int}, v ∈ l → 0 ≤ idx v l
 | y :: l, v, h => by
  unfold idx;split
  ·omega
  ·rename_i hn;have : v ∈ l := by
    rcases Ey.1 h with rfl | h
    ·exact absurd rfl hn
    ·exact h
   have := mL this;rw [if_neg (by omega)]; omega
theorem Br {words : Int} {g : List Int} (h : gW words g = 0) : ∀ (a : List Int) (v : Int), g = a ++ [v] → 0 ≤ v ∧ v < words ∧ (v = 1 → a = []) := by
 intro a v e;subst e;unfold gW at h;split at h
 ·omega
 ·rename_i h1;split at h
  ·omega
  ·rename_i h2;have hb : ¬ mf words v = true := fun hb => h1 (Fk.2 ⟨v, by simp, hb⟩)
   unfold mf at hb;simp at hb;refine ⟨by omega, by omega, fun hv => ?_⟩
   cases a with
   | nil => rfl
   | cons y a =>
    exfalso;apply h2;subst hv;exact mL (by simp)
theorem Bs {s : ByteArray} (hs : s.size ≤ 120) {m : Nat} (h4 : m ≤ 4) : ∀ l, l ∈ ao (ofL s m) → eJ (aH s).length l := by
 intro l hl x hx;obtain ⟨n, hn, rfl⟩ := dK hl;obtain ⟨y, hy, rfl⟩ := Ez.1 hx;have h1 := ((n9 hs (Ec hn) h4).2.2 y hy).2.2.2;have e : (cF (ofL s m) n y).1 = y.1 := by unfold cF; split <;> rfl
 rw [e];exact Br h1
theorem u9 (s : ByteArray) : ∀ i, ((lnS s i).1.map ByteArray.size).sum ≤ (lnS s i).2
 | 0 => D1 _
 | i + 1 => by
  have ih := u9 s i;have hl := (lp s i).1;unfold lnS;split
  ·simp only [Fb, List.sum_append, EH, Gx, Ge, List.sum_nil, FO];omega
  ·exact ih
theorem pD (s : ByteArray) : ((fH s).map List.length).sum ≤ s.size := by
 have key : ∀ l : List ByteArray, ((i9 l).map List.length).sum ≤ (l.map ByteArray.size).sum := fun l => by
  induction l with
  | nil => exact D1 _
  | cons x l ih =>
   have hw := (nX x).2;unfold i9 at ih ⊢;rw [EH];rw [GG];split <;> simp only [EH, Ge] <;> omega
 refine D4 (key (dC s)) ?_;have h1 := u9 s s.size;have h2 := (lp s s.size).1;unfold dC;simp only [Fb, List.sum_append, EH, Gx, Ge, List.sum_nil, FO];omega
theorem pG : ∀ (L : List (List ByteArray)) (l : List ByteArray), (eG l L).length ≤ l.length + (L.map List.length).sum
 | [], l => by simp [eG]
 | ws :: L, l => by
  have := pG L (cP l ws);have h2 := gG ws l;show (eG (cP l ws) L).length ≤ _
  rw [EH, Ge]; omega
theorem wt (s : ByteArray) : (aH s).length ≤ s.size + 3 := by
 have h1 := pG (fH s) marks15;have h2 := pD s;have h3 : marks15.length = 3 := rfl;unfold aH;omega
end
end Go.Proofs.YtgceikecdedfcaaGreat.Pv
