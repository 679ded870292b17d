/- Parts of a proof, joined: Ck Cl Cm Ed Cs Ee Ef Ca Cb Cr Ea. -/
import Derived.Test.YtgceikecdedfcaaGreatLkL
namespace Go.Proofs.YtgceikecdedfcaaGreat.Pv
open Go
section
theorem vT (l : List Nat) (hl : l.length ≤ 1000000) : Ct P 63 [.c (nSl .u64 l)] [.c (nSl .u64 l)] := by
 refine Ct.go aj aa (N := 8) Tryz.func63 rfl rfl rfl rfl ?_;intro b hb
 cases b with
 | true =>
  have : l = [] := Ev.1 (by have := hb rfl; rwa [ai] at this);subst this;exact ⟨trivial, ⟨_, rfl, .inr ⟨rfl, 1, rfl⟩⟩, trivial⟩
 | false =>
  refine ⟨rfl, by rw [ai]; show (0 + l.length + 768) * 8 ≤ _; omega, by rw [ai]; show 0 + l.length ≤ _; omega, bV, c9, ?_⟩;exact ⟨trivial, r1 rfl, trivial⟩
section
variable {u d1 d0 x q r : Nat}
theorem yM (h : q * d1 + r = u) (ht : q * d0 ≤ 18446744073709551616 * r + x) (hp : 0 < d1 * 18446744073709551616 + d0) (hq : (u * 18446744073709551616 + x) / (d1 * 18446744073709551616 + d0) ≤ q) : (u * 18446744073709551616 + x) / (d1 * 18446744073709551616 + d0) = q := by
 refine GS hq ((Gz hp).2 ?_);have e : q * (d1 * 18446744073709551616 + d0) = q * d1 * 18446744073709551616 + q * d0 := by rw [Er, Ee]
 omega
theorem BP (h : q * d1 + r = u) (ht : 18446744073709551616 * r + x < q * d0) : (u * 18446744073709551616 + x) / (d1 * 18446744073709551616 + d0) < q := by
 apply E8;have e : (d1 * 18446744073709551616 + d0) * q = q * d1 * 18446744073709551616 + q * d0 := by rw [Ej, Er, Ee]
 omega
theorem DU (hd : 0 < d1) (hx : x < 18446744073709551616) : (u * 18446744073709551616 + x) / (d1 * 18446744073709551616 + d0) ≤ u / d1 := by
 have h0 := Fa u d1;have hm := E6 u hd;refine Nat.le_of_lt_succ (E8 ?_);have e : (d1 * 18446744073709551616 + d0) * (u / d1 + 1) = d1 * (u / d1) * 18446744073709551616 + d1 * 18446744073709551616 + d0 * (u / d1 + 1) := by
  rw [Eg, Ee, Ej 18446744073709551616, ← Ee, Er, Fg, Eg]
 show u * 18446744073709551616 + x < (d1 * 18446744073709551616 + d0) * (u / d1 + 1)
 omega
theorem uF {T : Nat} (hd0 : d0 < 18446744073709551616) (hp : 0 < d1 * 18446744073709551616 + d0) (hT : T = (u * 18446744073709551616 + x) / (d1 * 18446744073709551616 + d0)) (h : q * d1 + r = u) (hq : q < 18446744073709551616) (ht : T < q) :
  (q - 1) * d1 + (r + d1) = u ∧ (18446744073709551616 ≤ r + d1 → T = q - 1) := by
 obtain ⟨p, rfl⟩ : ∃ p, q = p + 1 := ⟨q - 1, by omega⟩;rw [Eg, EK] at h;rw [Fo];have e : p * d1 + (r + d1) = u := by omega
 refine ⟨e, fun hr => ?_⟩;rw [hT];refine yM e ?_ hp (by omega);have h1 : p * d0 ≤ 18446744073709551616 * d0 := D8 _ (by omega);have h2 : 18446744073709551616 * d0 ≤ 18446744073709551616 * (r + d1) := ET _ (by omega);omega
end
def gs (u2 u1 u0 top next : Nat) : Nat := if top ≤ u2 then 18446744073709551615 else ((u2 * 18446744073709551616 + u1) * 18446744073709551616 + u0) / (top * 18446744073709551616 + next)
theorem yN (u : List Nat) (top next n : Nat) (hu : Dig 18446744073709551616 u) (hn : u.length = n + 3) (hb : u.length ≤ 1000000) (h1 : 0 < top) (h2 : top < 18446744073709551616) (h3 : next < 18446744073709551616) :
  Ct P 154 [.c (nSl .u64 u), .c (nI .u64 top), .c (nI .u64 next)] [.c (nI .u64 (gs (u.getD (n + 2) 0) (u.getD (n + 1) 0) (u.getD n 0) top next))] := by
 have k2 := hu.getD (by omega) (n + 2);have k1 := hu.getD (by omega) (n + 1);have k0 := hu.getD (by omega) n;refine Ct.go aj aa (N := 72) Tryz.func154 rfl rfl rfl rfl ?_;refine .intro (by rw [ai]; omega) ?_;rw [ai];refine X1 ((n + 2 : Nat) : Int) (wI (by omega) (by omega) (by omega)) ?_;refine .intro (by omega) (X1 _ (al rfl (by omega)) ?_);refine ah (fun h0 => ?_) (fun h0 => ?_)
 ·exact ⟨trivial, r1 (iE (by rw [gs, if_pos (by omega)]; rfl)), trivial⟩
 ·rw [gs, if_neg (by omega)];refine X1 ((n + 2 : Nat) : Int) (wI (by omega) (by omega) (by omega)) ?_;refine .intro (by omega) (X1 _ (al rfl (by omega)) ?_);refine X1 ((n + 1 : Nat) : Int) (wI (by omega) (by omega) (by omega)) ?_;refine .intro (by omega) (X1 _ (al rfl (by omega)) ?_);generalize u.getD (n + 2) 0 = u2 at *
  generalize u.getD (n + 1) 0 = u1 at *
  refine X1 _ (rS u2 u1 top (by omega) k1 h2) ?_;refine .intro rfl ?_;have hw := E6 (u2 * 18446744073709551616 + u1) h1;have hdm := Fa (u2 * 18446744073709551616 + u1) top;rw [Ej] at hdm;have hq0 : (u2 * 18446744073709551616 + u1) / top < 18446744073709551616 := by
   refine E8 ?_;have := D8 18446744073709551616 (show u2 + 1 ≤ top by omega);omega
  obtain ⟨T, hT⟩ : ∃ T, T = ((u2 * 18446744073709551616 + u1) * 18446744073709551616 + u.getD n 0) / (top * 18446744073709551616 + next) := ⟨_, rfl⟩;have hT0 : T ≤ (u2 * 18446744073709551616 + u1) / top := by rw [hT]; exact DU h1 k0
  rw [← hT];obtain ⟨A, hA⟩ : ∃ A, A = u2 * 18446744073709551616 + u1 := ⟨_, rfl⟩;rw [← hA] at hw hdm hq0 hT hT0 ⊢;refine b9 aj aa (G := Nat × Nat) (fun (q, r) => q * top + r = A ∧ T ≤ q ∧ q < 18446744073709551616 ∧ r < 18446744073709551616)
   (fun (q, r) => [(0, .c (nSl .u64 u)), (1, .c (nI .u64 top)), (2, .c (nI .u64 next)), (7, .c (nI .i64 (n + 3 : Nat))), (8, .c (nI .u64 q)), (9, .c (nI .u64 r))]) (fun _ => []) (fun (q, _) => q)
   (A / top, A % top) ⟨hdm, hT0, hq0, by omega⟩ ⟨rfl, rfl, rfl, iE (by rw [hn]), rfl, rfl, trivial⟩ trivial (fun (q, r) hi => ?_)
  obtain ⟨i1, i2, i3, i4⟩ := hi;refine X1 _ (nE q next i3 h3) ?_;have hml := Fa (q * next) 18446744073709551616;have hmm := E6 (q * next) (show 0 < 18446744073709551616 by decide);generalize q * next / 18446744073709551616 = hi at *
  generalize q * next % 18446744073709551616 = lo at *
  refine ah (fun h4 => ?_) (fun h4 => ?_)
  ·have e : T = q := by rw [hT]; exact yM i1 (by omega) (by omega) (by rw [← hT]; exact i2)
   exact ⟨trivial, r1 (iE (by rw [e])), trivial⟩
  ·refine aV (fun h5 => ?_) (fun h5 => ?_)
   ·have e5 : hi = r := Int.ofNat_inj.1 h5;refine X1 ((n : Nat) : Int) (wI (by omega) (by omega) (by omega)) ?_;refine .intro (by omega) (X1 _ (al rfl (by omega)) ?_);refine ah (fun h7 => ?_) (fun h7 => ?_)
    ·have e7 : lo ≤ u.getD n 0 := G0.1 h7;have e : T = q := by rw [hT]; exact yM i1 (by rw [← hml, e5]; exact Nat.add_le_add_left e7 _) (by omega) (by rw [← hT]; exact i2)
     exact ⟨trivial, r1 (iE (by rw [e])), trivial⟩
    ·have e7 : u.getD n 0 < lo := GA.1 (Int.not_le.1 h7);have hlt : T < q := by rw [hT]; exact BP i1 (by rw [← hml, e5]; exact Nat.add_lt_add_left e7 _)
     obtain ⟨m1, m2⟩ := uF h3 (by omega) hT i1 i3 hlt;refine X1 ((q - 1 : Nat) : Int) (wU (by omega) (by omega) (by omega)) ?_;refine X1 _ (d8 r top 0 i4 h2 (by omega)) ?_;refine ah (fun h6 => ?_) (fun h6 => ?_)
     ·exact ⟨trivial, r1 (iE (by rw [m2 (by omega)])), trivial⟩
     ·exact ⟨(q - 1, r + top), ⟨m1, by omega, by omega, by omega⟩, by show q - 1 < q; omega, ⟨rfl, rfl, rfl, rfl, rfl, iE (by rw [EB (by omega)]; rfl), trivial⟩, trivial⟩
   ·have hlt : T < q := by rw [hT]; exact BP i1 (by omega)
    obtain ⟨m1, m2⟩ := uF h3 (by omega) hT i1 i3 hlt;refine X1 ((q - 1 : Nat) : Int) (wU (by omega) (by omega) (by omega)) ?_;refine X1 _ (d8 r top 0 i4 h2 (by omega)) ?_;refine ah (fun h6 => ?_) (fun h6 => ?_)
    ·exact ⟨trivial, r1 (iE (by rw [m2 (by omega)])), trivial⟩
    ·exact ⟨(q - 1, r + top), ⟨m1, by omega, by omega, by omega⟩, by show q - 1 < q; omega, ⟨rfl, rfl, rfl, rfl, rfl, iE (by rw [EB (by omega)]; rfl), trivial⟩, trivial⟩
end
section
section
variable {t d : List Nat} {x lo : Nat}
theorem qa : ∀ i, (sm t d x lo i).s.take lo = t.take lo
 | 0 => rfl
 | i + 1 => by simp only [sm]; rw [List.take_set_of_le (by omega)]; exact qa i
theorem qb : ∀ i, (sm t d x lo i).s.drop (lo + i) = t.drop (lo + i)
 | 0 => rfl
 | i + 1 => by
  simp only [sm];have h := congrArg (List.drop 1) (qb i);rw [FL, FL] at h;rw [List.drop_set_of_lt (by omega)];exact h
theorem qc : ∀ i, (am t d x lo i).1.take lo = t.take lo
 | 0 => rfl
 | i + 1 => by simp only [am]; rw [List.take_set_of_le (by omega)]; exact qc i
theorem qd : ∀ i, (am t d x lo i).1.drop (lo + i) = t.drop (lo + i)
 | 0 => rfl
 | i + 1 => by
  simp only [am];have h := congrArg (List.drop 1) (qd i);rw [FL, FL] at h;rw [List.drop_set_of_lt (by omega)];exact h
theorem nK {s : List Nat} {n : Nat} (hs : Dig 18446744073709551616 s) (hz : val 18446744073709551616 (s.drop (lo + n)) = 0) : val 18446744073709551616 (s.drop lo) < 18446744073709551616 ^ n := by
 have h := fg 18446744073709551616 (s.drop lo) n;rw [FL, hz, Fn, Fi] at h;rw [h];refine Ea (eL (by omega) hs.drop.take) (Eh (by omega) ?_);rw [Ed]; omega
theorem fP {s : List Nat} (h : lo ≤ s.length) : val 18446744073709551616 s = val 18446744073709551616 (s.take lo) + 18446744073709551616 ^ lo * val 18446744073709551616 (s.drop lo) := by
 have := fg 18446744073709551616 s lo;rwa [Fw h] at this
theorem AG (ht : Dig 18446744073709551616 t) (hd : Dig 18446744073709551616 d) (hx : x < 18446744073709551616) (hlen : lo + (d.length + 1) ≤ t.length) (hz : val 18446744073709551616 (t.drop (lo + (d.length + 1))) = 0) :
  (sm t d x lo (d.length + 1)).s.length = t.length ∧ Dig 18446744073709551616 (sm t d x lo (d.length + 1)).s ∧ (sm t d x lo (d.length + 1)).b ≤ 1 ∧
  val 18446744073709551616 ((sm t d x lo (d.length + 1)).s.drop lo) + x * val 18446744073709551616 d = val 18446744073709551616 (t.drop lo) + 18446744073709551616 ^ (d.length + 1) * (sm t d x lo (d.length + 1)).b ∧ val 18446744073709551616 ((sm t d x lo (d.length + 1)).s.drop lo) < 18446744073709551616 ^ (d.length + 1) := by
 obtain ⟨h1, h2, h3, h4, h5⟩ := kr (lo := lo) ht hd hx (d.length + 1) hlen;have hc : (sm t d x lo (d.length + 1)).c = 0 := by
  obtain ⟨_, _, k3, _, _⟩ := kr (lo := lo) ht hd hx d.length (by omega);have hy : d.getD d.length 0 = 0 := by rw [DZ, Eo (by omega)]; rfl
  simp only [sm, hy, Fn, ES];exact FE k3
 have e1 := qa (t := t) (d := d) (x := x) (lo := lo) (d.length + 1);have e2 := qb (t := t) (d := d) (x := x) (lo := lo) (d.length + 1);rw [hc, ES, EG (by omega)] at h5;generalize (sm t d x lo (d.length + 1)).s = s at *
 generalize (sm t d x lo (d.length + 1)).b = b at *
 refine ⟨h1, h2, h4, ?_, nK h2 (by rw [e2]; exact hz)⟩;rw [fP (lo := lo) (s := s) (by omega), fP (lo := lo) (s := t) (by omega), e1, EW, Ee, E3, E3, ← Er, ← Er] at h5;exact Nat.eq_of_mul_eq_mul_left (Nat.pow_pos (by omega)) (Nat.add_left_cancel h5)
theorem AH (ht : Dig 18446744073709551616 t) (hd : Dig 18446744073709551616 d) (hlen : lo + (d.length + 1) ≤ t.length) (hz : val 18446744073709551616 (t.drop (lo + (d.length + 1))) = 0) :
  (am t d 1 lo (d.length + 1)).1.length = t.length ∧ Dig 18446744073709551616 (am t d 1 lo (d.length + 1)).1 ∧ (am t d 1 lo (d.length + 1)).2 ≤ 1 ∧
  val 18446744073709551616 ((am t d 1 lo (d.length + 1)).1.drop lo) + 18446744073709551616 ^ (d.length + 1) * (am t d 1 lo (d.length + 1)).2 = val 18446744073709551616 (t.drop lo) + val 18446744073709551616 d ∧ val 18446744073709551616 ((am t d 1 lo (d.length + 1)).1.drop lo) < 18446744073709551616 ^ (d.length + 1) := by
 obtain ⟨h1, h2, h3, h5⟩ := ga (lo := lo) (x := 1) ht hd (by omega) (d.length + 1) hlen;have h4 := p7 (lo := lo) ht hd (d.length + 1) hlen;have e1 := qc (t := t) (d := d) (x := 1) (lo := lo) (d.length + 1);have e2 := qd (t := t) (d := d) (x := 1) (lo := lo) (d.length + 1);rw [EG (by omega), EK] at h5;generalize (am t d 1 lo (d.length + 1)).1 = s at *
 generalize (am t d 1 lo (d.length + 1)).2 = b at *
 refine ⟨h1, h2, h4, ?_, nK h2 (by rw [e2]; exact hz)⟩;rw [fP (lo := lo) (s := s) (by omega), fP (lo := lo) (s := t) (by omega), e1, EW, Ee, E3, E3, ← Er, ← Er] at h5;exact Nat.eq_of_mul_eq_mul_left (Nat.pow_pos (by omega)) (Nat.add_left_cancel h5)
end
theorem yO {n : Nat} (hn : n ≠ 0) {k : Nat} (hk : (dg 18446744073709551616 n).length = k + 1) : (dg 18446744073709551616 n).getD k 0 ≠ 0 := by
 have h3 := ml (B := 18446744073709551616) (by omega) hn;intro h0;have h4 := aJ 18446744073709551616 (dg 18446744073709551616 n) k;rw [h0, Fn, EG (by omega), bl (by omega), Fi] at h4;have h5 := eL (by omega : 0 < 18446744073709551616) ((bz (B := 18446744073709551616) (by omega) n).take (n := k));rw [Ed, Fw (by omega), ← h4] at h5;rw [hk, Fo] at h3;exact absurd h3 (Nat.not_le_of_lt h5)
theorem Dm {u d : List Nat} {n : Nat} (hu : Dig 18446744073709551616 u) (hd : Dig 18446744073709551616 d) (hul : u.length = n + 3) (hdl : d.length = n + 2) (ht : d.getD (n + 1) 0 ≠ 0) (hQ : val 18446744073709551616 u / val 18446744073709551616 d < 18446744073709551616) :
  val 18446744073709551616 u / val 18446744073709551616 d ≤ gs (u.getD (n + 2) 0) (u.getD (n + 1) 0) (u.getD n 0) (d.getD (n + 1) 0) (d.getD n 0) ∧ gs (u.getD (n + 2) 0) (u.getD (n + 1) 0) (u.getD n 0) (d.getD (n + 1) 0) (d.getD n 0) < 18446744073709551616 := by
 have k2 := hu.getD (by omega) (n + 2);have k1 := hu.getD (by omega) (n + 1);have k0 := hu.getD (by omega) n;have v1 := fP (lo := n) (s := u) (by omega);have v2 := fP (lo := n) (s := d) (by omega);have w1 := eL (by omega : 0 < 18446744073709551616) (hu.take (n := n));rw [Ed, Fw (by omega)] at w1;rw [dx 18446744073709551616 (l := u) (by omega), dx 18446744073709551616 (l := u) (by omega), dx 18446744073709551616 (l := u) (by omega), Fh (show u.length ≤ n + 1 + 1 + 1 by omega)] at v1;rw [show n + 1 + 1 = n + 2 by omega] at v1;rw [dx 18446744073709551616 (l := d) (by omega), dx 18446744073709551616 (l := d) (by omega), Fh (show d.length ≤ n + 1 + 1 by omega)] at v2;simp only [val, Fn, Fi] at v1 v2;unfold gs;generalize u.getD (n + 2) 0 = u2 at *
 generalize u.getD (n + 1) 0 = u1 at *
 generalize u.getD n 0 = u0 at *
 generalize d.getD (n + 1) 0 = t at *
 generalize d.getD n 0 = y at *
 generalize val 18446744073709551616 (u.take n) = lu at *
 generalize val 18446744073709551616 (d.take n) = ld at *
 generalize val 18446744073709551616 u = a at *
 generalize val 18446744073709551616 d = b at *
 split
 ·exact ⟨by omega, by omega⟩
 ·rename_i hlt;have hp : 0 < t * 18446744073709551616 + y := by omega
  refine ⟨(Gz hp).2 ?_, E8 (by omega)⟩;have h1 := Nat.div_mul_le_self a b;have hb : 18446744073709551616 ^ n * (t * 18446744073709551616 + y) ≤ b := by rw [v2, show t * 18446744073709551616 + y = y + 18446744073709551616 * t by omega]; exact Nat.le_add_left _ _
  have h2 := ET (a / b) hb;have h3 : a < 18446744073709551616 ^ n * ((u2 * 18446744073709551616 + u1) * 18446744073709551616 + u0 + 1) := by
   rw [v1, show (u2 * 18446744073709551616 + u1) * 18446744073709551616 + u0 + 1 = 1 + (u0 + 18446744073709551616 * (u1 + 18446744073709551616 * u2)) by omega, Er _ 1, Fg];exact Nat.add_lt_add_right w1 _
  have h4 := FJ (D4 h2 h1) h3;rw [EX] at h4;exact Nat.le_of_lt_succ (Nat.lt_of_mul_lt_mul_left h4)
theorem blB {a b : Bool} (h : a = b) : (some (.c (.sc (.bool a))) : Option AV) = some (.c (.sc (.bool b))) := by rw [h]
set_option maxHeartbeats 1000000 in
theorem mw (a b : Nat) (hb : b ≠ 0) (ha : (dg 18446744073709551616 a).length ≤ 100000) (hbl : (dg 18446744073709551616 b).length ≤ 100000) : Ct P 111 [nV a, nV b] [nV (a / b), nV (a % b), .c (eI .i64 0)] := by
 refine Ct.go aj aa (N := 128) Tryz.func111 rfl rfl rfl rfl ?_;refine X1 _ (fh b (by omega)) ?_;refine ta (by simpa using hb) ?_;refine X1 _ (iG a b (by omega) (by omega)) ?_;refine ah (fun h1 => ?_) (fun h1 => ?_)
 ·have h : a < b := by unfold bC at h1; split at h1 <;> (try split at h1) <;> omega
  rw [FE h, EB h];refine .intro rfl ?_;exact ⟨trivial, ⟨_, rfl, yL⟩, rc rfl, r1 rfl, trivial⟩
 ·have h : b ≤ a := by unfold bC at h1; split at h1 <;> (try split at h1) <;> omega
  have hl0 : (dg 18446744073709551616 b).length ≠ 0 := fun h0 => hb ((gZ (B := 18446744073709551616) (by omega)).1 (Ev.1 h0))
  refine .intro (by rw [ai]; omega) ?_;rw [ai];refine aV (fun h2 => ?_) (fun h2 => ?_)
  ·have hw : (dg 18446744073709551616 b).getD 0 0 = b := by
    have hv := bl (B := 18446744073709551616) (by omega) b;have hll : (dg 18446744073709551616 b).length = 1 := by omega
    generalize dg 18446744073709551616 b = l at *
    match l, hll with
    | [w], _ => rw [← hv]; simp [val]
   have hb2 := (bz (B := 18446744073709551616) (by omega) b).getD (by omega) 0;refine .intro (by omega) (X1 _ (al (n := 0) rfl (by omega)) ?_);rw [hw] at hb2 ⊢;refine X1 _ (vR a b (by omega) hb2 (by omega)) ?_;refine .intro rfl ?_;have hm := E6 a (Eu hb);refine X1 _ (fM (a % b) (by omega)) ?_;refine .intro rfl ?_;exact ⟨trivial, rc rfl, rc rfl, r1 rfl, trivial⟩
  ·have hB := bz (B := 18446744073709551616) (by omega) b;obtain ⟨lb, hlb⟩ : ∃ lb, (dg 18446744073709551616 b).length = lb + 2 := ⟨(dg 18446744073709551616 b).length - 2, by omega⟩;refine .intro (by rw [ai]; omega) ?_;rw [ai];refine X1 ((lb + 1 : Nat) : Int) (wI (by omega) (by omega) (by omega)) ?_;refine .intro (by omega) (X1 _ (al rfl (by omega)) ?_);have htop := hB.getD (by omega) (lb + 1);have htl : (dg 18446744073709551616 b).getD (lb + 1) 0 ≠ 0 := yO hb hlb;generalize htq : (dg 18446744073709551616 b).getD (lb + 1) 0 = tp at *
   refine X1 _ (uy tp htop) ?_;have hbt := eb (n := tp) (k := 64) (by omega);obtain ⟨s, hs⟩ : ∃ s, s = 64 - blen tp := ⟨_, rfl⟩;have hbb := rC hb;rw [hlb, show lb + 2 - 1 = lb + 1 by omega, htq] at hbb;rw [← hs];have hbt0 : blen tp ≠ 0 := fun h => by have := dB tp; rw [h] at this; omega
   refine X1 _ (nH b s (by omega) (by omega)) ?_;obtain ⟨la, hla⟩ : ∃ la, la = (dg 18446744073709551616 a).length := ⟨_, rfl⟩;refine .intro (by rw [ai]; omega) ?_;rw [ai];refine X1 ((la + 1 : Nat) : Int) (wI (by omega) (by omega) (by omega)) ?_;refine ⟨by omega, by omega, by omega, .inl (by decide), ?_⟩;refine X1 _ (nH a s (by omega) (by omega)) ?_
   -- the numbers
   have hps := ER s;obtain ⟨D, hD⟩ : ∃ D, D = b * 2 ^ s := ⟨_, rfl⟩;obtain ⟨A2, hA2⟩ : ∃ D, D = a * 2 ^ s := ⟨_, rfl⟩;have hDl : (dg 18446744073709551616 D).length = lb + 2 := by
    apply GS
    ·apply cv (by omega);have h1 := Fq (dB b) hps;rw [← EW, hbb, show 64 * (lb + 1) + blen tp + s = 64 * (lb + 2) by omega, ← nv, ← hD] at h1;exact h1
    ·rw [← hlb]; exact ba (by omega) (by rw [hD]; exact Nat.le_mul_of_pos_right _ hps)
   have hA2l : (dg 18446744073709551616 A2).length ≤ la + 1 := by
    apply cv (by omega);have h1 := bF (B := 18446744073709551616) (by omega) a;rw [← hla] at h1;have h2 : 2 ^ s ≤ 18446744073709551616 := by
     have := Eh (show 0 < 2 by omega) (show s ≤ 64 by omega);simpa using this
    rw [hA2, EI];exact Ea (Fq h1 hps) (ET _ h2)
   have hlab : lb + 2 ≤ la := by rw [hla, ← hlb]; exact ba (by omega) h
   obtain ⟨m0, hm0⟩ : ∃ m0, la + 1 = m0 + (lb + 2) := ⟨la + 1 - (lb + 2), by omega⟩;have hbig : a * 2 ^ s < 18446744073709551616 ^ m0 * D := by
    have h1 := bF (B := 18446744073709551616) (by omega) a;have h2 := ml (B := 18446744073709551616) (by omega) hb;rw [← hla, show la = m0 + (lb + 1) by omega, EW] at h1;rw [hlb, show lb + 2 - 1 = lb + 1 by omega] at h2;have h3 := Ea h1 (ET (18446744073709551616 ^ m0) h2);rw [hD, ← Ee];exact Fq h3 hps
   have hD0 : 0 < D := by rw [hD]; exact Nat.mul_pos (by omega) hps
   rw [← hA2, ← hD];refine ⟨(dg 18446744073709551616 A2).length, by rw [ai]; simp; omega, by simp; omega, c9, ?_⟩;refine .intro (by rw [ai]; omega) ?_;rw [ai];refine .intro (by omega) ?_;refine X1 ((m0 : Nat) : Int) (wI (by omega) (by omega) (by omega)) ?_;refine ⟨by omega, by omega, by omega, .inl (by decide), ?_⟩;refine .intro (by omega) ?_;refine X1 ((m0 : Int) - 1) (wI (by omega) (by omega) (by omega)) ?_;have hDd := bz (B := 18446744073709551616) (by omega) D;have hDv := bl (B := 18446744073709551616) (by omega) D;have hAd := bz (B := 18446744073709551616) (by omega) A2;have hAv := bl (B := 18446744073709551616) (by omega) A2;have hU0 : val 18446744073709551616 (dg 18446744073709551616 A2 ++ List.replicate (la + 1 - (dg 18446744073709551616 A2).length) 0) = A2 := by rw [jX, hAv, mj, Fn, Fi]
   have hU1 : (dg 18446744073709551616 A2 ++ List.replicate (la + 1 - (dg 18446744073709551616 A2).length) 0).length = la + 1 := by simp; omega
   have hU2 : Dig 18446744073709551616 (dg 18446744073709551616 A2 ++ List.replicate (la + 1 - (dg 18446744073709551616 A2).length) 0) := hAd.app fun x hx => by rw [EY hx]; omega
   have hU3 : val 18446744073709551616 ((dg 18446744073709551616 A2 ++ List.replicate (la + 1 - (dg 18446744073709551616 A2).length) 0).drop m0) < D := by
    have h1 := fP (lo := m0) (s := dg 18446744073709551616 A2 ++ List.replicate (la + 1 - (dg 18446744073709551616 A2).length) 0) (by omega);rw [hU0] at h1;rw [← hA2] at hbig;exact Nat.lt_of_mul_lt_mul_left (FJ (D4 (Nat.le_add_left _ _) (Nat.le_of_eq h1.symm)) hbig)
   obtain ⟨dl, hdl⟩ : ∃ dl, dl = dg 18446744073709551616 D := ⟨_, rfl⟩;rw [← hdl] at hDl hDd hDv ⊢;refine xf aj aa (G := Nat × List Nat × List Nat) (fun (m, u, q) => m ≤ m0 ∧ u.length = la + 1 ∧ Dig 18446744073709551616 u ∧ q.length = m0 ∧ Dig 18446744073709551616 q ∧ val 18446744073709551616 (u.drop m) < D ∧ A2 = D * (18446744073709551616 ^ m * val 18446744073709551616 (q.drop m)) + val 18446744073709551616 u)
    (fun (m, u, q) => [(4, .c (.ad 4 0)), (5, .c (.ad 5 0)), (9, .c (nI .i64 s)), (10, .c (nSl .u64 dl)), (11, .c (.ow 64 1 (la + 1))), (12, .c (nI .i64 (lb + 2 : Nat))), (13, .c (.ow 77 1 m0)), (14, .c (eI .i64 ((m : Int) - 1)))])
    (fun ((m, u, q) : Nat × List Nat × List Nat) => [(4, .var [.sc (.slice none 0 0)]), (5, .var [.sc (.slice none 0 0)]), (64, .row 1 (aF .u64 u)), (77, .row 1 (aF .u64 q))]) (fun (m, _, _) => m)
    (m0, dg 18446744073709551616 A2 ++ List.replicate (la + 1 - (dg 18446744073709551616 A2).length) 0, List.replicate m0 0) ⟨by simp, hU1, hU2, by simp, fun x hx => by rw [EY hx]; omega, hU3, by simp [hU0, val]⟩
    ⟨rfl, rfl, rfl, (by rw [hdl]; rfl), owE (by omega), iE (by rw [hDl]), owE (by omega), rfl, trivial⟩ ⟨rfl, rfl, aB (by rw [List.take_zero, Gr, EG (by rw [ai]; exact D1 _), ES, List.drop_replicate]; show _ ++ List.replicate _ [eI .u64 0] = _; simp [aF]), aB (eV rfl), trivial⟩
    (fun (u, q) => u.length = la + 1 ∧ Dig 18446744073709551616 u ∧ q.length = m0 ∧ Dig 18446744073709551616 q ∧ val 18446744073709551616 q = a / b ∧ val 18446744073709551616 u = a % b * 2 ^ s) (fun _ => [(4, .c (.ad 4 0)), (5, .c (.ad 5 0)), (9, .c (nI .i64 s)), (11, .c (.ow 64 1 (la + 1))), (12, .c (nI .i64 (lb + 2 : Nat))), (13, .c (.ow 77 1 m0))])
    (fun ((u, q) : List Nat × List Nat) => [(4, .var [.sc (.slice none 0 0)]), (5, .var [.sc (.slice none 0 0)]), (64, .row 1 (aF .u64 u)), (77, .row 1 (aF .u64 q))]) (fun (m, u, q) hg => ?_) (fun (u, q) hl => ?_)
   ·obtain ⟨i1, i2, i3, i4, i5, i6, i7⟩ := hg;refine ah (fun h5 => ?_) (fun h5 => ?_)
    ·obtain ⟨i, rfl⟩ : ∃ i, m = i + 1 := ⟨m - 1, by omega⟩;have hui := i3.getD (by omega) i;have hV := dx 18446744073709551616 (l := u) (i := i) (by omega);have hDp : D < 18446744073709551616 ^ (lb + 2) := by
      have := bF (B := 18446744073709551616) (by omega) D;rw [← hdl, hDl] at this; exact this
     have hVl : val 18446744073709551616 (u.drop i) < 18446744073709551616 * D := by
      have := ET 18446744073709551616 (Nat.succ_le_of_lt i6);rw [Nat.mul_succ] at this;omega
     have hVl2 : val 18446744073709551616 (u.drop i) < 18446744073709551616 ^ (lb + 3) := by
      rw [EI, Ej];exact Nat.lt_trans hVl (Nat.mul_lt_mul_of_pos_left hDp (by omega))
     have hz : val 18446744073709551616 (u.drop (i + (lb + 3))) = 0 := by
      have h1 := fg 18446744073709551616 (u.drop i) (lb + 3);rw [FL, EJ, Fw (by omega)] at h1;apply Classical.byContradiction;intro h0;have := ET (18446744073709551616 ^ (lb + 3)) (Eu h0);rw [Fg] at this;omega
     have hVt : val 18446744073709551616 ((u.drop i).take (lb + 3)) = val 18446744073709551616 (u.drop i) := by
      have h1 := fg 18446744073709551616 (u.drop i) (lb + 3);rw [FL, hz, Fn, Fi] at h1;exact h1.symm
     have hQ : val 18446744073709551616 (u.drop i) / D < 18446744073709551616 := E8 (by rw [Ej]; exact hVl);have htl2 := yO (n := D) (by omega) (k := lb + 1) (by rw [← hdl, hDl]);rw [← hdl] at htl2;obtain ⟨gq1, gq2⟩ := Dm (n := lb) (u := (u.drop i).take (lb + 3)) (d := dl) (i3.drop.take) hDd (by rw [Ed, EJ]; omega) hDl htl2 (by rw [hVt, hDv]; exact hQ);rw [hVt, hDv] at gq1;have kt := hDd.getD (by omega) (lb + 1);have kn := hDd.getD (by omega) lb;have hg := yN ((u.drop i).take (lb + 3)) (dl.getD (lb + 1) 0) (dl.getD lb 0) lb i3.drop.take (by rw [Ed, EJ]; omega) (by rw [Ed, EJ]; omega) (by omega) kt kn;generalize gs (((u.drop i).take (lb + 3)).getD (lb + 2) 0) (((u.drop i).take (lb + 3)).getD (lb + 1) 0) (((u.drop i).take (lb + 3)).getD lb 0) (dl.getD (lb + 1) 0) (dl.getD lb 0) = x0 at *
     generalize hQe : val 18446744073709551616 (u.drop i) / D = Q at *
     have hdm := Fa (val 18446744073709551616 (u.drop i)) D;rw [hQe] at hdm;have hml := E6 (val 18446744073709551616 (u.drop i)) hD0;obtain ⟨V, hVe⟩ : ∃ V, V = val 18446744073709551616 (u.drop i) := ⟨_, rfl⟩;rw [← hVe] at hdm hml hVl2;refine X1 ((i + (lb + 2) : Nat) : Int) (wI (by omega) (by omega) (by omega)) ?_;refine X1 ((i + (lb + 3) : Nat) : Int) (wI (by omega) (by omega) (by omega)) ?_;refine .inl ⟨i, i + (lb + 3), by simp, by simp, by omega, by omega, .inr ⟨by omega, ?_⟩⟩;rw [Nat.add_sub_cancel_left];refine X1 ((lb + 1 : Nat) : Int) (wI (by omega) (by omega) (by omega)) ?_;refine .intro (by omega) (X1 _ (al rfl (by omega)) ?_);refine X1 ((lb : Nat) : Int) (wI (by omega) (by omega) (by omega)) ?_;refine .intro (by omega) (X1 _ (al rfl (by omega)) ?_);have hg2 : Ct P 154 [A1.c (.sl 1 (((aF .u64 u).drop i).take (lb + 3))), .c (nI .u64 (dl.getD (lb + 1) 0)), .c (nI .u64 (dl.getD lb 0))] [.c (nI .u64 x0)] := by rw [gY]; exact hg
     refine X2 .look (X1 _ hg2 ?_);refine .intro rfl ?_;refine X2 (.upd 64) ?_;refine ⟨_, _, vQ u dl x0 i (lb + 3) i3 hDd gq2 (by omega) (by omega) (by omega), ?_⟩;have hz' : val 18446744073709551616 (u.drop (i + (dl.length + 1))) = 0 := by rw [hDl]; exact hz
     obtain ⟨s1, s2, s3, s4, s5⟩ := AG (x := x0) i3 hDd gq2 (by omega) hz';have s6 := qa (t := u) (d := dl) (x := x0) (lo := i) (dl.length + 1);have s7 := qb (t := u) (d := dl) (x := x0) (lo := i) (dl.length + 1);rw [← s7] at hz';generalize (sm u dl x0 i (dl.length + 1)).s = u1 at *
     generalize (sm u dl x0 i (dl.length + 1)).b = b1 at *
     rw [hDv, hDl, ← hVe] at s4;rw [hDl] at s5 hz';refine au aj aa (G := List Nat × Nat × Nat) (fun (w, x, o) => w.length = la + 1 ∧ Dig 18446744073709551616 w ∧ w.take i = u.take i ∧ val 18446744073709551616 (w.drop (i + (lb + 3))) = 0 ∧ o ≤ 1 ∧ val 18446744073709551616 (w.drop i) + x * D = V + 18446744073709551616 ^ (lb + 3) * o ∧ val 18446744073709551616 (w.drop i) < 18446744073709551616 ^ (lb + 3) ∧ Q ≤ x ∧ x < 18446744073709551616)
      (fun (w, x, o) => [(4, .c (.ad 4 0)), (5, .c (.ad 5 0)), (9, .c (nI .i64 s)), (10, .c (nSl .u64 dl)), (11, .c (.ow 64 1 (la + 1))), (12, .c (nI .i64 (lb + 2 : Nat))), (13, .c (.ow 77 1 m0)), (14, .c (nI .i64 i)), (15, .c (.os 64 1 i (lb + 3))), (16, .c (nI .u64 x)), (17, .c (.sc (.bool (decide ((o : Int) > 0)))))])
      (fun ((w, x, o) : List Nat × Nat × Nat) => [(4, .var [.sc (.slice none 0 0)]), (5, .var [.sc (.slice none 0 0)]), (64, .row 1 (aF .u64 w)), (77, .row 1 (aF .u64 q))]) (fun (_, x, _) => x)
      (u1, x0, b1) ⟨by omega, s2, s6, hz', s3, s4, s5, gq1, gq2⟩ ⟨rfl, rfl, rfl, rfl, rfl, rfl, rfl, iE (by omega), rfl, rfl, rfl, trivial⟩ ⟨rfl, rfl, rfl, rfl, trivial⟩
      (fun w => w.length = la + 1 ∧ Dig 18446744073709551616 w ∧ w.take i = u.take i ∧ val 18446744073709551616 (w.drop i) = V % D)
      (fun _ => [(4, .c (.ad 4 0)), (5, .c (.ad 5 0)), (9, .c (nI .i64 s)), (10, .c (nSl .u64 dl)), (11, .c (.ow 64 1 (la + 1))), (12, .c (nI .i64 (lb + 2 : Nat))), (13, .c (.ow 77 1 m0)), (14, .c (nI .i64 i)), (16, .c (nI .u64 Q))])
      (fun w => [(4, .var [.sc (.slice none 0 0)]), (5, .var [.sc (.slice none 0 0)]), (64, .row 1 (aF .u64 w)), (77, .row 1 (aF .u64 q))]) (fun (w, x, o) hi => ?_) (fun w hw => ?_)
     ·obtain ⟨j1, j2, j3, j4, j5, j6, j7, j8, j9⟩ := hi;refine ah (fun h6 => ?_) (fun h6 => ?_)
      ·have ho : o = 1 := by omega
       subst ho;rw [Fg] at j6;have hgt : Q < x := by
        apply F3;intro hle;have := D8 D hle;rw [Ej Q] at this;omega
       refine X2 (.upd 64) ?_;refine ⟨_, _, tJ w dl i (lb + 3) j2 hDd (by omega) (by omega) (by omega), ?_⟩;have jz : val 18446744073709551616 (w.drop (i + (dl.length + 1))) = 0 := by rw [hDl]; exact j4
       obtain ⟨r1', r2, r3, r4, r5⟩ := AH j2 hDd (by omega) jz;have r6 := qc (t := w) (d := dl) (x := 1) (lo := i) (dl.length + 1);have r7 := qd (t := w) (d := dl) (x := 1) (lo := i) (dl.length + 1);rw [← r7] at jz;generalize (am w dl 1 i (dl.length + 1)).1 = w1 at *
       generalize (am w dl 1 i (dl.length + 1)).2 = c1 at *
       rw [hDv, hDl] at r4;rw [hDl] at r5 jz;obtain ⟨p, rfl⟩ : ∃ p, x = p + 1 := ⟨x - 1, by omega⟩;rw [Eg, EK] at j6;rw [show lb + 2 + 1 = lb + 3 from rfl] at r4;have heq : val 18446744073709551616 (w1.drop i) + p * D = V + 18446744073709551616 ^ (lb + 3) * (1 - c1) := by
        have hc : c1 = 0 ∨ c1 = 1 := by omega
        rcases hc with rfl | rfl
        ·rw [Fn, Fi] at r4;rw [Fg];omega
        ·rw [Fg] at r4;rw [Fn];omega
       refine X1 ((p : Nat) : Int) (wU (by omega) (by omega) (by omega)) ?_;exact ⟨(w1, p, 1 - c1), ⟨by omega, r2, r6.trans j3, jz, by omega, heq, r5, by omega, by omega⟩, by show p < p + 1; omega, ⟨rfl, rfl, rfl, rfl, rfl, rfl, rfl, rfl, rfl, rfl, blB (by
        have hc : c1 = 0 ∨ c1 = 1 := by omega
        rcases hc with rfl | rfl <;> rfl), trivial⟩, ⟨rfl, rfl, rfl, rfl, trivial⟩⟩
      ·have ho : o = 0 := by omega
       subst ho;rw [Fn, Fi] at j6;have hle : x ≤ Q := by
        rw [← hQe, ← hVe];exact (Gz hD0).2 (by omega)
       have hxe : x = Q := by omega
       subst hxe;refine ⟨w, ⟨j1, j2, j3, by rw [Ej] at hdm; omega⟩, ⟨rfl, rfl, rfl, rfl, rfl, rfl, rfl, rfl, rfl, trivial⟩, ⟨rfl, rfl, rfl, rfl, trivial⟩⟩
     ·obtain ⟨j1, j2, j3, j4⟩ := hw;refine .intro (by omega) (And.intro (by omega) ?_);refine X1 _ (al rfl (by omega)) ?_;refine X1 ((i : Int) - 1) (wI (by omega) (by omega) (by omega)) ?_;refine ⟨(i, w, q.set i Q), ⟨by omega, j1, j2, by simp [i4], i5.set hQ, by rw [j4]; exact hml, ?_⟩, by show i < i + 1; omega, ⟨rfl, rfl, rfl, rfl, rfl, rfl, rfl, rfl, trivial⟩, ⟨rfl, rfl, rfl, aB (by rw [← nRow_set]; rfl), trivial⟩⟩;have k1 := fP (lo := i) (s := w) (by omega);have k2 := fP (lo := i) (s := u) (by omega);rw [j3, j4] at k1;rw [← hVe] at k2;have k3 := congrArg (18446744073709551616 ^ i * ·) hdm;simp only [Er] at k3;rw [ku _ (by omega), i7, k1, k2, EI, Er, Er D, Ee, EX D (18446744073709551616 ^ i) Q, ← k3];omega
    ·have e : m = 0 := by omega
     subst e;rw [GB, EK, Fu] at i7;rw [Fu] at i6;obtain ⟨e1, e2⟩ := uE i7 i6;rw [hA2, hD] at e1 e2;rw [Nat.mul_div_mul_right _ _ hps] at e1;rw [Nat.mul_mod_mul_right] at e2;exact ⟨(u, q), ⟨i2, i3, i4, i5, e1, e2⟩, ⟨rfl, rfl, rfl, rfl, rfl, rfl, trivial⟩, ⟨rfl, rfl, rfl, rfl, trivial⟩⟩
   ·obtain ⟨i2, i3, i4, i5, e1, e2⟩ := hl;refine B1 aj aa [64, 77] ?_;have hDp : D < 18446744073709551616 ^ (lb + 2) := by
     have := bF (B := 18446744073709551616) (by omega) D;rw [← hdl, hDl] at this; exact this
    have hml : a % b * 2 ^ s < D := by rw [hD]; exact Fq (E6 _ (by omega)) hps
    have hut : val 18446744073709551616 (u.take (lb + 2)) = a % b * 2 ^ s := by
     have h1 := fP (lo := lb + 2) (s := u) (by omega);have h0 : val 18446744073709551616 (u.drop (lb + 2)) = 0 := by
      apply Classical.byContradiction;intro h0;have := ET (18446744073709551616 ^ (lb + 2)) (Eu h0);rw [Fg] at this;omega
     rw [h0, Fn, Fi, e2] at h1;exact h1.symm
    refine X1 _ (d9 q (by omega)) ?_;rw [cS (by omega) i5, e1];refine ⟨0, lb + 2, by simp, by simp, by omega, by rw [ai]; omega, ?_⟩;rw [gY, Fu, FY];refine X1 _ (vT (u.take (lb + 2)) (by rw [Ed]; omega)) ?_;refine X1 _ (d9 (u.take (lb + 2)) (by rw [Ed]; omega)) ?_;rw [cS (by omega) i3.take, hut];have hll : (dg 18446744073709551616 (a % b * 2 ^ s)).length ≤ 1000000 := by
     have := ba (B := 18446744073709551616) (by omega) (Nat.le_of_lt hml);rw [← hdl, hDl] at this;omega
    have hd := p9 (a % b * 2 ^ s) s hll (by omega);rw [Nat.mul_div_cancel _ hps] at hd;refine X1 _ hd ?_;refine .intro rfl ?_;exact ⟨trivial, rc rfl, rc rfl, r1 rfl, trivial⟩
end
section
theorem AI (a b : Nat) (ha : (dg 18446744073709551616 a).length ≤ 100000) (hb : (dg 18446744073709551616 b).length ≤ 100000) : Ct P 110 [nV a, nV b] [nV (Nat.gcd a b)] := by
 refine Ct.go aj aa (N := 21) Tryz.func110 rfl rfl rfl rfl ?_;refine au aj aa (G := Nat × Nat) (fun (x, y) => Nat.gcd x y = Nat.gcd a b ∧ (dg 18446744073709551616 x).length ≤ 100000 ∧ (dg 18446744073709551616 y).length ≤ 100000) (fun _ => [(2, .c (.ad 2 0)), (3, .c (.ad 3 0)), (4, .c (.ad 4 0))])
  (fun (x, y) => [(2, .var [nSl .u64 (dg 18446744073709551616 x)]), (3, .var [nSl .u64 (dg 18446744073709551616 y)]), (4, .var [.sc (.slice none 0 0)])]) (fun (x, y) => y)
  (a, b) ⟨rfl, ha, hb⟩ ⟨rfl, rfl, rfl, trivial⟩ ⟨rfl, rfl, rfl, trivial⟩ (fun _ : Unit => True) (fun _ => [(2, .c (.ad 2 0)), (4, .c (.ad 4 0))]) (fun _ => [(2, .var [nSl .u64 (dg 18446744073709551616 (Nat.gcd a b))]), (4, .var [.sc (.slice none 0 0)])]) (fun (x, y) hg => ?_) (fun _ _ => ?_)
 ·obtain ⟨h1, h2, h3⟩ := hg;refine X1 _ (fh y (by omega)) ?_;refine aN (fun h => ?_) (fun h => ?_)
  ·have hy : y ≠ 0 := by simpa using h
   refine X1 _ (mw x y hy h2 h3) ?_;refine .intro rfl ?_;have hlt := E6 x (show 0 < y by omega);exact ⟨(y, x % y), ⟨by rw [← h1, G1 x y, Nat.gcd_rec y x, G1], h3, D4 (ba (by omega) (by omega)) h3⟩, hlt, ⟨rfl, rfl, rfl, trivial⟩, ⟨rfl, rfl, rfl, trivial⟩⟩
  ·have hy : y = 0 := by simpa using h
   subst hy;rw [Nat.gcd_zero_right] at h1;subst h1;exact ⟨(), trivial, ⟨rfl, rfl, trivial⟩, ⟨rfl, rfl, trivial⟩⟩
 ·exact ⟨trivial, rc rfl, trivial⟩
theorem my : Ct P 70 [] [nV 1] := by
 refine Ct.go aj aa (N := 2) Tryz.func70 rfl rfl rfl rfl ?_;refine X1 _ (fM 1 (by omega)) ?_;exact ⟨trivial, rc rfl, trivial⟩
abbrev qV (n d : Nat) : A1 := .ag [nSl .u64 (dg 18446744073709551616 n), nSl .u64 (dg 18446744073709551616 d)]
theorem bG (v : Nat) (hv : v < 18446744073709551616) : Ct P 27 [.c (nI .u64 v)] [qV v 1] := by
 refine Ct.go aj aa (N := 7) Tryz.func27 rfl rfl rfl rfl ?_;refine X1 _ (fM v hv) ?_;refine X1 _ my ?_;exact ⟨trivial, rc rfl, trivial⟩
theorem ck (n d : Nat) : Ct P 67 [qV n d] [nV n] := by
 refine Ct.go aj aa (N := 5) Tryz.func67 rfl rfl rfl rfl ?_;exact ⟨trivial, rc rfl, trivial⟩
def dn (d : Nat) : Nat := if d = 0 then 1 else d
theorem fp (d : Nat) : dn d ≠ 0 := by unfold dn; split <;> omega
theorem ib {d : Nat} (h : d ≠ 0) : dn d = d := if_neg h
theorem eM {d k : Nat} (hk : 1 ≤ k) (h : (dg 18446744073709551616 d).length ≤ k) : (dg 18446744073709551616 (dn d)).length ≤ k := by
 unfold dn;split
 ·exact D4 (cv (k := 1) (by omega) (by decide)) hk
 ·exact h
theorem bI (n d : Nat) (hl : (dg 18446744073709551616 d).length ≤ 1000000) : Ct P 68 [qV n d] [nV (dn d)] := by
 refine Ct.go aj aa (N := 9) Tryz.func68 rfl rfl rfl rfl ?_;refine X1 _ (fh d hl) ?_;refine aN (fun h => ?_) (fun h => ?_)
 ·have h0 : d = 0 := by simpa using h
  subst h0;refine X1 _ my ?_;exact ⟨trivial, rc rfl, trivial⟩
 ·rw [ib (by simpa using h)];exact ⟨trivial, rc rfl, trivial⟩
theorem ic (n d : Nat) (hl : (dg 18446744073709551616 n).length ≤ 1000000) : Ct P 33 [qV n d] [.c (.sc (.bool (n == 0)))] := by
 refine Ct.go aj aa (N := 6) Tryz.func33 rfl rfl rfl rfl ?_;refine X1 _ (fh n hl) ?_;exact ⟨trivial, r1 rfl, trivial⟩
abbrev qR (n d : Nat) : A1 := qV (n / Nat.gcd n d) (d / Nat.gcd n d)
theorem ie (n d : Nat) (hd : d ≠ 0) (hn : (dg 18446744073709551616 n).length ≤ 100000) (hl : (dg 18446744073709551616 d).length ≤ 100000) : Ct P 65 [nV n, nV d] [qR n d] := by
 have hg : Nat.gcd n d ≠ 0 := fun h => hd (Nat.gcd_eq_zero_iff.1 h).2
 have hgl : (dg 18446744073709551616 (Nat.gcd n d)).length ≤ 100000 := D4 (ba (by omega) (Nat.gcd_le_right n (by omega))) hl;have h1l : (dg 18446744073709551616 1).length ≤ 1000000 := by have := ba (B := 18446744073709551616) (by omega) (show 1 ≤ d by omega); omega
 refine Ct.go aj aa (N := 34) Tryz.func65 rfl rfl rfl rfl ?_;refine X1 _ (fh n (by omega)) ?_;refine aN (fun h => ?_) (fun h => ?_)
 ·have h0 : n = 0 := by simpa using h
  subst h0;unfold qR qV;rw [Gi, GU, GL (by omega), bu];refine X1 _ my ?_;exact ⟨trivial, ⟨_, rfl, .inr ⟨rfl, 1, rfl⟩, .inl rfl, trivial⟩, trivial⟩
 ·refine X1 _ (AI n d hn hl) ?_;refine X1 _ my ?_;refine X1 _ (iG _ 1 (by omega) h1l) ?_;refine .intro rfl ?_;refine ah (fun h2 => ?_) (fun h2 => ?_)
  ·refine X1 _ (mw n _ hg hn hgl) ?_;refine X1 _ (mw d _ hg hl hgl) ?_;exact ⟨trivial, rc rfl, trivial⟩
  ·have h3 : Nat.gcd n d = 1 := by
    unfold bC at h2;split at h2
    ·omega
    ·split at h2 <;> omega
   unfold qR;rw [h3, GX, GX];exact ⟨trivial, rc rfl, trivial⟩
theorem cx {a b k m : Nat} (ha : (dg 18446744073709551616 a).length ≤ k) (hb : (dg 18446744073709551616 b).length ≤ m) : (dg 18446744073709551616 (a * b)).length ≤ k + m := by
 apply cv (by omega);have h1 := bF (B := 18446744073709551616) (by omega) a;have h2 := bF (B := 18446744073709551616) (by omega) b;have h3 : a * b < 18446744073709551616 ^ (dg 18446744073709551616 a).length * 18446744073709551616 ^ (dg 18446744073709551616 b).length := GP h1 h2;rw [← EW] at h3;exact Ea h3 (Eh (by omega) (by omega))
structure LimQ (n d : Nat) : Prop where
 n : (dg 18446744073709551616 n).length ≤ 40000
 d : (dg 18446744073709551616 d).length ≤ 40000
theorem mz (a b c d : Nat) (h1 : LimQ a b) (h2 : LimQ c d) : Ct P 72 [qV a b, qV c d] [.c (eI .i64 (bC (a * dn d : Nat) (c * dn b : Nat)))] := by
 obtain ⟨n1, k1⟩ := h1;obtain ⟨n2, k2⟩ := h2;have l1 := eM (by omega) k1;have l2 := eM (by omega) k2;have p1 := fp b;have p2 := fp d;refine Ct.go aj aa (N := 16) Tryz.func72 rfl rfl rfl rfl ?_;refine X1 _ (ck a b) (X1 _ (bI c d (by omega)) (X1 _ (cU a (dn d) (by omega) (by omega)) ?_));refine X1 _ (ck c d) (X1 _ (bI a b (by omega)) (X1 _ (cU c (dn b) (by omega) (by omega)) ?_));refine X1 _ (iG _ _ (D4 (cx n1 l2) (by omega)) (D4 (cx n2 l1) (by omega))) ?_;refine .intro rfl ?_;exact ⟨trivial, r1 rfl, trivial⟩
theorem AJ (a b c d : Nat) (h1 : LimQ a b) (h2 : LimQ c d) : Ct P 133 [qV a b, qV c d] [qR (a * c) (dn b * dn d)] := by
 obtain ⟨n1, k1⟩ := h1;obtain ⟨n2, k2⟩ := h2;have l1 := eM (by omega) k1;have l2 := eM (by omega) k2;have p1 := fp b;have p2 := fp d;refine Ct.go aj aa (N := 16) Tryz.func133 rfl rfl rfl rfl ?_;refine X1 _ (ck a b) (X1 _ (ck c d) (X1 _ (cU a c (by omega) (by omega)) ?_));refine X1 _ (bI a b (by omega)) (X1 _ (bI c d (by omega)) (X1 _ (cU (dn b) (dn d) (by omega) (by omega)) ?_));refine X1 _ (ie _ _ (Es p1 p2) (D4 (cx n1 n2) (by omega)) (D4 (cx l1 l2) (by omega))) ?_;refine .intro rfl ?_;exact ⟨trivial, rc rfl, trivial⟩
theorem uG (a b c d : Nat) (h1 : LimQ a b) (h2 : LimQ c d) (hc : c ≠ 0) : Ct P 26 [qV a b, qV c d] [qR (a * dn d) (dn b * c), .c (eI .i64 0)] := by
 obtain ⟨n1, k1⟩ := h1;obtain ⟨n2, k2⟩ := h2;have l1 := eM (by omega) k1;have l2 := eM (by omega) k2;have p1 := fp b;have p2 := fp d;refine Ct.go aj aa (N := 20) Tryz.func26 rfl rfl rfl rfl ?_;refine X1 _ (ic c d (by omega)) ?_;refine ta (by simpa using hc) ?_;refine X1 _ (ck a b) (X1 _ (bI c d (by omega)) (X1 _ (cU a (dn d) (by omega) (by omega)) ?_));refine X1 _ (bI a b (by omega)) (X1 _ (ck c d) (X1 _ (cU (dn b) c (by omega) (by omega)) ?_));refine X1 _ (ie _ _ (Es p1 hc) (D4 (cx n1 l2) (by omega)) (D4 (cx l1 n2) (by omega))) ?_;refine .intro rfl ?_;exact ⟨trivial, rc rfl, r1 rfl, trivial⟩
theorem yP (a b c d : Nat) (h1 : LimQ a b) (h2 : LimQ c d) (hle : c * dn b ≤ a * dn d) : Ct P 52 [qV a b, qV c d] [qR (a * dn d - c * dn b) (dn b * dn d)] := by
 obtain ⟨n1, k1⟩ := h1;obtain ⟨n2, k2⟩ := h2;have l1 := eM (by omega) k1;have l2 := eM (by omega) k2;have p1 := fp b;have p2 := fp d;refine Ct.go aj aa (N := 31) Tryz.func52 rfl rfl rfl rfl ?_;refine X1 _ (ck a b) (X1 _ (bI c d (by omega)) (X1 _ (cU a (dn d) (by omega) (by omega)) ?_));refine X1 _ (ck c d) (X1 _ (bI a b (by omega)) (X1 _ (cU c (dn b) (by omega) (by omega)) ?_));have hl := cx n1 l2;refine X1 _ (uw _ _ hle (by omega)) ?_;refine .intro rfl ?_;refine X1 _ (bI a b (by omega)) (X1 _ (bI c d (by omega)) (X1 _ (cU (dn b) (dn d) (by omega) (by omega)) ?_));have hl3 := ba (B := 18446744073709551616) (by omega) (Nat.sub_le (a * dn d) (c * dn b));refine X1 _ (ie _ _ (Es p1 p2) (by omega) (D4 (cx l1 l2) (by omega))) ?_;refine .intro rfl ?_;exact ⟨trivial, rc rfl, trivial⟩
def cj (o x : Nat × Nat) : Nat × Nat := ((o.1 * dn x.2 + x.1 * dn o.2) / Nat.gcd (o.1 * dn x.2 + x.1 * dn o.2) (dn o.2 * dn x.2), dn o.2 * dn x.2 / Nat.gcd (o.1 * dn x.2 + x.1 * dn o.2) (dn o.2 * dn x.2))
def qe (l : List (Nat × Nat)) : List (List PC) := l.map fun x => [nSl .u64 (dg 18446744073709551616 x.1), nSl .u64 (dg 18446744073709551616 x.2)]
theorem rU {l : List (Nat × Nat)} : (qe l).length = l.length := by simp [qe]
theorem yQ {l : List (Nat × Nat)} {i : Int} {n : Nat} (h0 : i = n) (h : n < l.length) : (qe l)[i.toNat]? = some [nSl .u64 (dg 18446744073709551616 l[n].1), nSl .u64 (dg 18446744073709551616 l[n].2)] := by
 subst h0;simp [qe, h]
theorem uH (l : List (Nat × Nat)) (hl : l.length ≤ 1000000) (h1 : ∀ (i : Nat) (h : i < l.length), LimQ l[i].1 l[i].2) (h2 : ∀ i, i ≤ l.length → LimQ ((l.take i).foldl cj (0, 1)).1 ((l.take i).foldl cj (0, 1)).2) :
  Ct P 116 [.c (.sl 2 (qe l))] [qV (l.foldl cj (0, 1)).1 (l.foldl cj (0, 1)).2] := by
 refine Ct.go aj aa (N := 34) Tryz.func116 rfl rfl rfl rfl ?_;refine X1 _ (bG 0 (by omega)) ?_;refine .intro (by rw [rU]; omega) ?_;rw [rU];refine au aj aa (fun i : Nat => i ≤ l.length) (fun i => [(2, .c (.ad 2 0)), (3, .c (.ad 3 0)), (8, .c (.sl 2 (qe l))), (9, .c (nI .i64 l.length)), (10, .c (nI .i64 i))])
  (fun i => [(2, .var [.sc (.slice none 0 0), .sc (.slice none 0 0)]), (3, .var [nSl .u64 (dg 18446744073709551616 ((l.take i).foldl cj (0, 1)).1), nSl .u64 (dg 18446744073709551616 ((l.take i).foldl cj (0, 1)).2)])]) (fun i => l.length - i)
  0 (by omega) ⟨rfl, rfl, rfl, rfl, rfl, trivial⟩ ⟨rfl, rfl, trivial⟩ (fun _ : Unit => True) (fun _ => [(2, .c (.ad 2 0)), (3, .c (.ad 3 0))])
  (fun _ => [(2, .var [.sc (.slice none 0 0), .sc (.slice none 0 0)]), (3, .var [nSl .u64 (dg 18446744073709551616 (l.foldl cj (0, 1)).1), nSl .u64 (dg 18446744073709551616 (l.foldl cj (0, 1)).2)])]) (fun i hi => ?_) (fun _ _ => ?_)
 ·refine ah (fun h5 => ?_) (fun h5 => ?_)
  ·have hs : (l.take (i + 1)).foldl cj (0, 1) = cj ((l.take i).foldl cj (0, 1)) l[i] := by
    rw [D5 (by omega), Gh]; rfl
   obtain ⟨n1, k1⟩ := h2 i hi;obtain ⟨n2, k2⟩ := h1 i (by omega);have hq := yQ (l := l) (i := (i : Int)) (n := i) rfl (by omega);generalize (l.take i).foldl cj (0, 1) = o at *
   generalize l[i] = x at *
   have l1 := eM (by omega) k1;have l2 := eM (by omega) k2;have p1 := fp o.2;have p2 := fp x.2;refine .intro (by omega) (X1 _ hq ?_);refine X1 _ (ck o.1 o.2) (X1 _ (bI x.1 x.2 (by omega)) (X1 _ (cU o.1 (dn x.2) (by omega) (by omega)) ?_));refine X1 _ (ck x.1 x.2) (X1 _ (bI o.1 o.2 (by omega)) (X1 _ (cU x.1 (dn o.2) (by omega) (by omega)) ?_));have m1 := cx n1 l2;have m2 := cx n2 l1;refine X1 _ (mt _ _ (by omega) (by omega)) ?_;refine .intro rfl ?_;refine X1 _ (bI o.1 o.2 (by omega)) (X1 _ (bI x.1 x.2 (by omega)) (X1 _ (cU (dn o.2) (dn x.2) (by omega) (by omega)) ?_));have m3 := yF m1 m2;refine X1 _ (ie _ _ (Es p1 p2) (by omega) (D4 (cx l1 l2) (by omega))) ?_;refine .intro rfl ?_;refine X1 ((i + 1 : Nat) : Int) (wI1 (by omega)) ?_;exact ⟨i + 1, by omega, by omega, ⟨rfl, rfl, rfl, rfl, rfl, trivial⟩, ⟨rfl, by rw [hs]; rfl, trivial⟩⟩
  ·have e : i = l.length := by omega
   subst e;rw [EE];exact ⟨(), trivial, ⟨rfl, rfl, trivial⟩, ⟨rfl, rfl, trivial⟩⟩
 ·exact ⟨trivial, rc rfl, trivial⟩
theorem yR (a b : Nat) (hab : a < b) (ha : (dg 18446744073709551616 a).length ≤ 1000000) (hb : (dg 18446744073709551616 b).length ≤ 1000000) : Ct P 104 [nV a, nV b] [nV 0, .c (eI .i64 8)] := by
 refine Ct.go aj aa (N := 52) Tryz.func104 rfl rfl rfl rfl ?_;refine X1 _ (iG a b ha hb) ?_;refine C6 (decide_eq_true (by unfold bC; rw [if_pos (by omega)]; decide)) ?_;exact ⟨trivial, ⟨_, rfl, yL⟩, r1 rfl, trivial⟩
theorem vU (a b c d : Nat) (h1 : LimQ a b) (h2 : LimQ c d) (hlt : a * dn d < c * dn b) : Ct P 52 [qV a b, qV c d] [qV 0 1] := by
 obtain ⟨n1, k1⟩ := h1;obtain ⟨n2, k2⟩ := h2;have l1 := eM (by omega) k1;have l2 := eM (by omega) k2;refine Ct.go aj aa (N := 31) Tryz.func52 rfl rfl rfl rfl ?_;refine X1 _ (ck a b) (X1 _ (bI c d (by omega)) (X1 _ (cU a (dn d) (by omega) (by omega)) ?_));refine X1 _ (ck c d) (X1 _ (bI a b (by omega)) (X1 _ (cU c (dn b) (by omega) (by omega)) ?_));have m1 := cx n1 l2;have m2 := cx n2 l1;refine X1 _ (yR _ _ hlt (by omega) (by omega)) ?_;refine .intro rfl ?_;refine X1 _ (bG 0 (by omega)) ?_;exact ⟨trivial, rc rfl, trivial⟩
def wh (n : Int) : Nat := n.toNat
theorem yS (n : Int) (hn : n < 9223372036854775808) : Ct P 131 [.c (eI .i64 n)] [qV (wh n) 1] := by
 refine Ct.go aj aa (N := 7) Tryz.func131 rfl rfl rfl rfl ?_;have e : (if (0 : Int) > n then 0 else n) = ((wh n : Nat) : Int) := by unfold wh; split <;> omega
 have hw : wh n < 18446744073709551616 := by unfold wh; omega
 refine X1 ((wh n : Nat) : Int) (by rw [e]; exact wU rfl (by omega) (by omega)) ?_;refine X1 _ (bG (wh n) hw) ?_;exact ⟨trivial, rc rfl, trivial⟩
theorem Cm (a b c d : Nat) (h1 : LimQ a b) (h2 : LimQ c d) (hc : c ≠ 0) : Ct P 132 [qV a b, qV c d] [qR (a * dn d) (dn b * c)] := by
 refine Ct.go aj aa (N := 17) Tryz.func132 rfl rfl rfl rfl ?_;refine X1 _ (uG a b c d h1 h2 hc) ?_;exact ⟨trivial, rc rfl, trivial⟩
def gR (n d : Nat) : Nat × Nat := (n / Nat.gcd n d, d / Nat.gcd n d)
def DV (p q : Nat × Nat) : Nat × Nat := gR (p.1 * q.1) (dn p.2 * dn q.2)
def Cn (p q : Nat × Nat) : Nat × Nat := gR (p.1 * dn q.2) (dn p.2 * q.1)
def AK (p q : Nat × Nat) : Nat × Nat := if p.1 * dn q.2 < q.1 * dn p.2 then (0, 1) else gR (p.1 * dn q.2 - q.1 * dn p.2) (dn p.2 * dn q.2)
abbrev qP (p : Nat × Nat) : A1 := qV p.1 p.2
structure Bg (k : Nat) (p : Nat × Nat) : Prop where
 n : p.1 < 2 ^ k
 d : p.2 < 2 ^ k
theorem yT {k n : Nat} (h : k ≤ 64 * n) : 2 ^ k ≤ 18446744073709551616 ^ n := by
 rw [nv];exact Eh (by omega) h
theorem Bg.lim {k : Nat} {p : Nat × Nat} (h : Bg k p) (hk : k ≤ 2000000) : LimQ p.1 p.2 := by
 obtain ⟨N, hN⟩ : ∃ N, N = 40000 := ⟨_, rfl⟩;have e : 2 ^ k ≤ 18446744073709551616 ^ N := yT (by omega);have a1 := cv (by omega) (Ea h.n e);have a2 := cv (by omega) (Ea h.d e);rw [hN] at a1 a2;exact ⟨a1, a2⟩
theorem Bg.dn {k : Nat} {p : Nat × Nat} (h : Bg k p) (hk : 1 ≤ k) : dn p.2 < 2 ^ k := by
 unfold Pv.dn;split
 ·have := Eh (show 0 < 2 by omega) hk;omega
 ·exact h.d
theorem AL {k m : Nat} {p q : Nat × Nat} (h1 : Bg k p) (h2 : Bg m q) (hk : k ≤ 2000000) (hm : m ≤ 2000000) : Ct P 133 [qP p, qP q] [qP (DV p q)] := AJ _ _ _ _ (h1.lim hk) (h2.lim hm)
theorem uI {k m : Nat} {p q : Nat × Nat} (h1 : Bg k p) (h2 : Bg m q) (hq : q.1 ≠ 0) (hk : k ≤ 2000000) (hm : m ≤ 2000000) : Ct P 26 [qP p, qP q] [qP (Cn p q), .c (eI .i64 0)] := uG _ _ _ _ (h1.lim hk) (h2.lim hm) hq
theorem Co {k m : Nat} {p q : Nat × Nat} (h1 : Bg k p) (h2 : Bg m q) (hq : q.1 ≠ 0) (hk : k ≤ 2000000) (hm : m ≤ 2000000) : Ct P 132 [qP p, qP q] [qP (Cn p q)] := Cm _ _ _ _ (h1.lim hk) (h2.lim hm) hq
theorem AM {k m : Nat} {p q : Nat × Nat} (h1 : Bg k p) (h2 : Bg m q) (hk : k ≤ 2000000) (hm : m ≤ 2000000) : Ct P 52 [qP p, qP q] [qP (AK p q)] := by
 unfold AK;split
 ·rename_i h;exact vU _ _ _ _ (h1.lim hk) (h2.lim hm) h
 ·rename_i h;exact yP _ _ _ _ (h1.lim hk) (h2.lim hm) (E9 h)
abbrev gS (p0 p1 p2 p3 : Nat × Nat) : A1 := .ag [nSl .u64 (dg 18446744073709551616 p0.1), nSl .u64 (dg 18446744073709551616 p0.2), nSl .u64 (dg 18446744073709551616 p1.1), nSl .u64 (dg 18446744073709551616 p1.2), nSl .u64 (dg 18446744073709551616 p2.1), nSl .u64 (dg 18446744073709551616 p2.2), nSl .u64 (dg 18446744073709551616 p3.1), nSl .u64 (dg 18446744073709551616 p3.2)]
def gAt (p0 p1 p2 p3 : Nat × Nat) (n : Int) : Nat × Nat := if n < 1 then p0 else if n = 1 then p1 else if n = 2 then p2 else p3
theorem tL (p0 p1 p2 p3 : Nat × Nat) (n : Int) : Ct P 161 [gS p0 p1 p2 p3, .c (eI .i64 n)] [qP (gAt p0 p1 p2 p3 n)] := by
 have key : ∀ v : Int, (if 3 < (if (0 : Int) > n then 0 else n) then 3 else (if (0 : Int) > n then 0 else n)) = v → (v = 0 ∧ gAt p0 p1 p2 p3 n = p0) ∨ (v = 1 ∧ gAt p0 p1 p2 p3 n = p1) ∨ (v = 2 ∧ gAt p0 p1 p2 p3 n = p2) ∨ (v = 3 ∧ gAt p0 p1 p2 p3 n = p3) := by
  intro v hv;by_cases h0 : n < 1
  ·refine .inl ⟨by split at hv <;> split at hv <;> omega, by rw [gAt, if_pos h0]⟩
  ·by_cases h1 : n = 1
   ·exact .inr (.inl ⟨by split at hv <;> split at hv <;> omega, by rw [gAt, if_neg h0, if_pos h1]⟩)
   ·by_cases h2 : n = 2
    ·exact .inr (.inr (.inl ⟨by split at hv <;> split at hv <;> omega, by rw [gAt, if_neg h0, if_neg h1, if_pos h2]⟩))
    ·exact .inr (.inr (.inr ⟨by split at hv <;> split at hv <;> omega, by rw [gAt, if_neg h0, if_neg h1, if_neg h2]⟩))
 refine Ct.go aj aa (N := 11) Tryz.func161 rfl rfl rfl rfl ?_;obtain ⟨v, hv⟩ : ∃ v, (if 3 < (if (0 : Int) > n then 0 else n) then 3 else (if (0 : Int) > n then 0 else n)) = v := ⟨_, rfl⟩;have hk := key v hv;rcases hk with ⟨rfl, e⟩ | ⟨rfl, e⟩ | ⟨rfl, e⟩ | ⟨rfl, e⟩ <;> rw [e] <;>
 ·refine .intro (by rw [hv]; decide) (And.intro (by rw [hv]; decide) ?_);rw [hv];exact ⟨trivial, rc rfl, trivial⟩
theorem mA (l : List Nat) (hl : l.length ≤ 1000000) : Ct P 106 [.c (nSl .i64 l)] [.c (nSl .i64 (ce l))] := by
 refine Ct.go aj aa (N := 23) Tryz.func106 rfl rfl rfl rfl ?_;refine .intro (by rw [ai]; omega) ?_;refine au aj aa (fun n : Nat => n ≤ l.length ∧ ce l = ce (l.take n)) (fun n => [(0, .c (nSl .i64 l)), (3, .c (nI .i64 n))]) (fun _ => []) (fun n => n) l.length ⟨D1 _, by simp⟩ ⟨rfl, by rw [ai]; rfl, trivial⟩ trivial
  (fun n : Nat => n ≤ l.length ∧ l.take n = ce l) (fun n => [(0, .c (nSl .i64 l)), (3, .c (nI .i64 n))]) (fun _ => []) (fun n hn => ?_) (fun n hn => ?_)
 ·obtain ⟨hn, ht⟩ := hn;refine ah (fun h1 => ?_) (fun h1 => ?_)
  ·obtain ⟨m, rfl⟩ : ∃ m, n = m + 1 := ⟨n - 1, by omega⟩;refine X1 (m : Int) (wI (by omega) (by omega) (by omega)) ?_;refine .intro (by omega) (X1 _ (al rfl (by omega)) ?_);refine aV (fun h2 => ?_) (fun h2 => ?_)
   ·refine X1 (m : Int) (wI (by omega) (by omega) (by omega)) ?_;exact ⟨m, ⟨by omega, ht.trans (nm l hn (by omega))⟩, by omega, ⟨rfl, rfl, trivial⟩, trivial⟩
   ·exact ⟨m + 1, ⟨hn, jr l hn ht (.inr (by simpa using h2))⟩, ⟨rfl, rfl, trivial⟩, trivial⟩
  ·exact ⟨n, ⟨hn, jr l hn ht (.inl (by omega))⟩, ⟨rfl, rfl, trivial⟩, trivial⟩
 ·obtain ⟨hn, ht⟩ := hn;refine ⟨0, n, rfl, rfl, by omega, by rw [ai]; omega, ?_⟩;have e : [] ++ ((aF .i64 l).drop 0).take (n - 0) = aF .i64 (ce l) := by rw [Gr, gY, Fu, FY, ht]
  have hle : (((aF .i64 l).drop 0).take (n - 0)).length ≤ 1000000 := by simp [ai]; omega
  refine ⟨rfl, ?_, ?_, bV, ?_, ?_⟩
  ·show (0 + (((aF .i64 l).drop 0).take (n - 0)).length + 768) * 8 ≤ _
   omega
  ·show 0 + (((aF .i64 l).drop 0).take (n - 0)).length ≤ _
   omega
  ·rw [gY]; exact c9
  ·exact ⟨trivial, r1 (pW e), trivial⟩
theorem Dn (l : List Nat) (i : Int) (hl : l.length ≤ 1000000) : Ct P 107 [.c (nSl .i64 l), .c (eI .i64 i)] [.c (nI .i64 (if 0 ≤ i then l.getD i.toNat 0 else 0))] := by
 refine Ct.go aj aa (N := 17) Tryz.func107 rfl rfl rfl rfl ?_;refine ah (fun h1 => ?_) (fun h1 => ?_)
 ·rw [if_neg (by omega)];exact ⟨trivial, r1 rfl, trivial⟩
 ·refine .intro (by rw [ai]; omega) ?_;rw [ai];refine ah (fun h2 => ?_) (fun h2 => ?_)
  ·have : l.getD i.toNat 0 = 0 := by
    rw [DZ, Eo (by omega)]; rfl
   rw [if_pos (by omega), this];exact ⟨trivial, r1 rfl, trivial⟩
  ·rw [if_pos (by omega)];refine .intro (by omega) (X1 _ (xg (by omega) (by omega)) ?_);exact ⟨trivial, r1 rfl, trivial⟩
theorem tM (l : List Nat) (i : Nat) (hl : l.length ≤ 1000000) : Ct P 107 [.c (nSl .i64 l), .c (nI .i64 i)] [.c (nI .i64 (l.getD i 0))] := by
 have := Dn l i hl;rwa [if_pos (Gq i), EC] at this
abbrev dV (n : Nat) : PC := nSl .i64 (dg 256 n)
theorem yU (a b : Nat) (hab : b ≤ a) (hl : (dg 256 a).length ≤ 1000000) : Ct P 151 [.c (dV a), .c (dV b)] [.c (dV (a - b))] := by
 have hlb : (dg 256 b).length ≤ (dg 256 a).length := ba (by omega) hab;refine Ct.go aj aa (N := 35) Tryz.func151 rfl rfl rfl rfl ?_;refine jU (r := 50) (t := 5) (sz := 1) rfl rfl ?_;refine au aj aa (fun g : List Nat × Nat => g.1.length ≤ (dg 256 a).length ∧ Dig 256 g.1 ∧ g.2 ≤ 1 ∧ val 256 ((dg 256 a).take g.1.length) + 256 ^ g.1.length * g.2 = val 256 ((dg 256 b).take g.1.length) + val 256 g.1)
  (fun g => [(0, .c (dV a)), (1, .c (dV b)), (5, .c (.ow 50 1 g.1.length)), (6, .c (nI .i64 g.2)), (7, .c (nI .i64 g.1.length))]) (fun g => [(50, .row 1 (aF .i64 g.1))]) (fun g => (dg 256 a).length - g.1.length)
  ([], 0) ⟨by simp, .nil, by simp, by simp [val]⟩ ⟨rfl, rfl, rfl, rfl, rfl, trivial⟩ ⟨rfl, trivial⟩
  (fun l : List Nat => Dig 256 l ∧ val 256 l = a - b ∧ l.length ≤ 1000000) (fun l => [(5, .c (.ow 50 1 l.length))]) (fun l => [(50, .row 1 (aF .i64 l))]) (fun g hg => ?_) (fun l hl => ?_)
 ·obtain ⟨l, c⟩ := g;obtain ⟨h1, h2, h3, h4⟩ := hg;simp only at h1 h2 h3 h4;refine .intro (by rw [ai]; omega) ?_;rw [ai];refine ah (fun h5 => ?_) (fun h5 => ?_)
  ·replace h5 : (l.length : Int) < (dg 256 a).length := h5;refine X1 _ (tM (dg 256 a) l.length hl) ?_;have hx := (bz (B := 256) (by omega) a).getD (by omega) l.length;have hy := (bz (B := 256) (by omega) b).getD (by omega) l.length;have hA := aJ 256 (dg 256 a) l.length;have hB := aJ 256 (dg 256 b) l.length;generalize (dg 256 a).getD l.length 0 = x at hx hA ⊢;generalize hyy : (dg 256 b).getD l.length 0 = y at hy hB;refine X1 ((256 + x : Nat) : Int) (wI (by omega) (by omega) (by omega)) ?_;refine X1 _ (tM (dg 256 b) l.length (by omega)) ?_;rw [hyy];refine X1 ((256 + x - y : Nat) : Int) (wI (by omega) (by omega) (by omega)) ?_;refine X1 ((256 + x - y - c : Nat) : Int) (wI (by omega) (by omega) (by omega)) ?_;obtain ⟨v, hv⟩ : ∃ v, v = 256 + x - y - c := ⟨_, rfl⟩;rw [← hv];refine .intro (by omega) (X1 ((v % 256 : Nat) : Int) (by rw [Gd (by omega)]; omega) (And.intro ⟨by omega, by omega⟩ ?_));refine pX rfl (by simp; omega) k7 ?_;refine .intro (by omega) (X1 ((v / 256 : Nat) : Int) (by rw [Fc (by omega)]; omega) (And.intro ⟨by omega, by omega⟩ ?_));refine X1 ((1 - v / 256 : Nat) : Int) (wI (by omega) (by omega) (by omega)) ?_;refine X1 ((l.length + 1 : Nat) : Int) (wI (by simp) (by omega) (by omega)) ?_;refine ⟨(l ++ [v % 256], 1 - v / 256), ⟨by simp <;> omega, h2.snoc (by omega), by simp <;> omega, ?_⟩, by simp <;> omega, ⟨rfl, rfl, owE (by simp [ai]), rfl, iE (by simp), trivial⟩, ⟨aB (jV (m := [v % 256])), trivial⟩⟩;simp only [D3, EA, F9, hA, hB, ro];have key : x + 256 * (1 - v / 256) = v % 256 + y + c := by omega
   have k2 : 256 ^ l.length * (x + 256 * (1 - v / 256)) = 256 ^ l.length * (v % 256 + y + c) := by rw [key]
   rw [EI, Ee];simp only [Er] at k2;omega
  ·replace h5 : ¬ (l.length : Int) < (dg 256 a).length := h5;have e : l.length = (dg 256 a).length := by omega
   refine ⟨l, ⟨h2, ?_, by omega⟩, ⟨rfl, trivial⟩, ⟨rfl, trivial⟩⟩;rw [e, aW (D1 _), aW hlb, bl (by omega), bl (by omega)] at h4;have h6 := eL (by omega : 0 < 256) h2;rw [e] at h6;have h7 : c = 0 := by
    rcases FI c with h | h
    ·exact h
    ·have : c = 1 := by omega
     subst this;omega
   subst h7;omega
 ·obtain ⟨h1, h2, h3⟩ := hl;refine X2 .frz ?_;refine X1 _ (mA l h3) ?_;rw [cS (by omega) h1, h2];exact ⟨trivial, r1 rfl, trivial⟩
theorem yV (v : Nat) (hv : v < 18446744073709551616) : Ct P 77 [.c (nI .u64 v)] [.c (dV v)] := by
 refine Ct.go aj aa (N := 15) Tryz.func77 rfl rfl rfl rfl ?_;refine jU (r := 50) (t := 3) (sz := 1) rfl rfl ?_;refine au aj aa (fun g : List Nat × Nat => g.2 ≤ v ∧ g.1 ++ dg 256 g.2 = dg 256 v)
  (fun g => [(0, .c (nI .u64 g.2)), (3, .c (.ow 50 1 g.1.length))]) (fun g => [(50, .row 1 (aF .i64 g.1))]) (fun g => g.2)
  ([], v) ⟨D1 _, rfl⟩ ⟨rfl, rfl, trivial⟩ ⟨rfl, trivial⟩
  (fun _ : Unit => True) (fun _ => [(3, .c (.ow 50 1 (dg 256 v).length))]) (fun _ => [(50, .row 1 (aF .i64 (dg 256 v)))]) (fun g hg => ?_) (fun l _ => ?_)
 ·obtain ⟨l, c⟩ := g;obtain ⟨h1, h2⟩ := hg;simp only at h1 h2;refine ah (fun h5 => ?_) (fun h5 => ?_)
  ·replace h5 : (c : Int) > 0 := h5;refine .intro (by omega) (X1 ((c % 256 : Nat) : Int) (by show (c : Int).tmod 256 = _; rw [Gd (by omega)]; omega) (And.intro ⟨by omega, by omega⟩ ?_));refine X1 ((c % 256 : Nat) : Int) (wI rfl (by omega) (by omega)) ?_;have hlen : (dg 256 v).length ≤ 8 := cv (by omega) hv;have hl2 : l.length ≤ 8 := by rw [← h2, D3] at hlen; omega
   refine pX rfl (by simp; omega) k7 ?_;refine .intro (by omega) (X1 ((c / 256 : Nat) : Int) (by show (c : Int).tdiv 256 = _; rw [Fc (by omega)]; omega) (And.intro ⟨by omega, by omega⟩ ?_));refine ⟨(l ++ [c % 256], c / 256), ⟨by show c / 256 ≤ v; omega, ?_⟩, by show c / 256 < c; omega, ⟨rfl, owE (by simp [ai]), trivial⟩, ⟨aB (jV (m := [c % 256])), trivial⟩⟩;rw [← h2, gx (n := c) (by omega) (by omega)];simp
  ·replace h5 : ¬ (c : Int) > 0 := h5;have hc : c = 0 := by omega
   subst hc;rw [bu, FX] at h2;subst h2;exact ⟨(), trivial, ⟨rfl, trivial⟩, ⟨rfl, trivial⟩⟩
 ·exact ⟨trivial, r1 rfl, trivial⟩
def nL (a b : Nat) : Int := if a < b then -1 else if b < a then 1 else 0
theorem yW (a b : Nat) (ha : (dg 256 a).length ≤ 1000000) (hb : (dg 256 b).length ≤ 1000000) : Ct P 59 [.c (dV a), .c (dV b)] [.c (eI .i64 (nL a b))] := by
 refine Ct.go aj aa (N := 41) Tryz.func59 rfl rfl rfl rfl ?_;refine .intro (by rw [ai]; omega) ?_;refine .intro (by rw [ai]; omega) ?_;rw [ai, ai];refine dL (fun h => ?_) (fun h => ?_)
 ·refine .intro (by rw [ai]; omega) ?_;refine .intro (by rw [ai]; omega) ?_;rw [ai, ai];refine ah (fun h2 => ?_) (fun h2 => ?_)
  ·have : a < b := iD (B := 256) (by omega) (by omega);exact ⟨trivial, r1 (iE (by rw [nL, if_pos this])), trivial⟩
  ·have : b < a := iD (B := 256) (by omega) (by omega : (dg 256 b).length < (dg 256 a).length);exact ⟨trivial, r1 (iE (by rw [nL, if_neg (by omega), if_pos this])), trivial⟩
 ·have hlen : (dg 256 a).length = (dg 256 b).length := by omega
  refine .intro (by rw [ai]; omega) ?_;rw [ai];refine X1 (((dg 256 a).length : Int) - 1) (wi (by omega) (by omega)) ?_;refine au aj aa (fun n : Nat => n ≤ (dg 256 a).length ∧ (dg 256 a).drop n = (dg 256 b).drop n)
   (fun n => [(0, .c (dV a)), (1, .c (dV b)), (5, .c (eI .i64 ((n : Int) - 1)))]) (fun _ => []) (fun n => n)
   (dg 256 a).length ⟨D1 _, by rw [Fy, Fh (by omega)]⟩ ⟨rfl, rfl, rfl, trivial⟩ trivial
   (fun _ : Unit => a = b) (fun _ => []) (fun _ => []) (fun n hn => ?_) (fun _ he => ?_)
  ·obtain ⟨h1, h2⟩ := hn;refine ah (fun h5 => ?_) (fun h5 => ?_)
   ·obtain ⟨m, rfl⟩ : ∃ m, n = m + 1 := ⟨n - 1, by omega⟩;have hA := bz (B := 256) (by omega) a;have hB := bz (B := 256) (by omega) b;have vA := bl (B := 256) (by omega) a;have vB := bl (B := 256) (by omega) b;refine .intro (by omega) (X1 _ (al (n := m) (by omega) (by omega)) ?_);refine .intro (by omega) (X1 _ (al (n := m) (by omega) (by omega)) ?_);refine .intro rfl ?_;refine ah (fun h6 => ?_) (fun h6 => ?_)
    ·have := iF (B := 256) (by omega) hA hlen (by omega) h2 (by omega);exact ⟨trivial, r1 (iE (by rw [nL, if_pos (by omega)])), trivial⟩
    ·refine .intro (by omega) (X1 _ (al (n := m) (by omega) (by omega)) ?_);refine .intro (by omega) (X1 _ (al (n := m) (by omega) (by omega)) ?_);refine .intro rfl ?_;refine ah (fun h7 => ?_) (fun h7 => ?_)
     ·have := iF (B := 256) (by omega) hB hlen.symm (by omega) h2.symm (by omega);exact ⟨trivial, r1 (iE (by rw [nL, if_neg (by omega), if_pos (by omega)])), trivial⟩
     ·refine X1 ((m : Int) - 1) (wI (by omega) (by omega) (by omega)) ?_;refine ⟨m, ⟨by omega, ?_⟩, by omega, ⟨rfl, rfl, rfl, trivial⟩, trivial⟩;have e1 : (dg 256 a).getD m 0 = (dg 256 b).getD m 0 := by omega
      rw [DZ, DZ, Em (by omega : m < (dg 256 a).length), Em (by omega : m < (dg 256 b).length)] at e1;rw [Ew (by omega : m < (dg 256 a).length), Ew (by omega : m < (dg 256 b).length), h2];simp only [Fx] at e1;rw [e1]
   ·have hn : n = 0 := by omega
    subst hn;refine ⟨(), ?_, trivial, trivial⟩;rw [Fu, Fu] at h2;rw [← bl (B := 256) (by omega) a, h2, bl (by omega)]
  ·exact ⟨trivial, r1 (iE (by rw [nL, if_neg (by omega), if_neg (by omega)])), trivial⟩
theorem AN (la lb : List Nat) (ha : la.length ≤ 400000) (hb : lb.length ≤ 400000) (hA : Dig 256 la) (hB : Dig 256 lb) : Ct P 60 [.c (nSl .i64 la), .c (nSl .i64 lb)] [.c (dV (val 256 la * val 256 lb))] := by
 obtain ⟨b, hb0⟩ : ∃ b, b = val 256 lb := ⟨_, rfl⟩;have bB : b < 256 ^ lb.length := hb0 ▸ eL (by omega) hB;rw [← hb0];refine Ct.go aj aa (N := 57) Tryz.func60 rfl rfl rfl rfl ?_;refine .intro (by rw [ai]; omega) ?_;refine .intro (by rw [ai]; omega) ?_;rw [ai, ai];refine X1 ((la.length + lb.length : Nat) : Int) (wI (by omega) (by omega) (by omega)) ?_;refine X1 ((la.length + lb.length + 1 : Nat) : Int) (wI (by omega) (by omega) (by omega)) ?_;refine ⟨by omega, by omega, by omega, .inl (by decide), ?_⟩;refine au aj aa (fun g : Nat × List Nat => g.1 ≤ la.length ∧ g.2.length = la.length + lb.length + 1 ∧ Dig 256 g.2 ∧ val 256 g.2 = val 256 (la.take g.1) * b)
  (fun (i, out) => [(0, .c (nSl .i64 la)), (1, .c (nSl .i64 lb)), (5, .c (.ow 16 1 (la.length + lb.length + 1))), (6, .c (nI .i64 i))]) (fun (i, out) => [(16, .row 1 (aF .i64 out))]) (fun (i, out) => la.length - i)
  (0, List.replicate (la.length + lb.length + 1) 0) ⟨by simp, by simp, fun x hx => by rw [EY hx]; omega, by simp [val, mj]⟩ ⟨rfl, rfl, owE (by omega), rfl, trivial⟩ ⟨aB (eV rfl), trivial⟩
  (fun l : List Nat => l.length ≤ 1000000 ∧ Dig 256 l ∧ val 256 l = val 256 la * b) (fun l => [(5, .c (.ow 16 1 (la.length + lb.length + 1)))]) (fun l => [(16, .row 1 (aF .i64 l))]) (fun g hg => ?_) (fun l hl => ?_)
 ·obtain ⟨i, out⟩ := g;obtain ⟨h1, h2, h3, h4⟩ := hg;simp only at h1 h2 h3 h4;refine .intro (by rw [ai]; omega) ?_;rw [ai];refine ah (fun h5 => ?_) (fun h5 => ?_)
  ·replace h5 : (i : Int) < la.length := h5;have hx := hA.getD (by omega) i;have hT := aJ 256 la i;generalize hxx : la.getD i 0 = x at hx hT;have bT : val 256 (la.take (i + 1)) < 256 ^ (i + 1) := by
    have := eL (by omega : 0 < 256) (hA.take (n := i + 1));rwa [Ed, Fw (by omega)] at this
   refine b9 aj aa (fun g : Nat × List Nat × Nat => g.1 ≤ lb.length + 1 ∧ g.2.1.length = la.length + lb.length + 1 ∧ Dig 256 g.2.1 ∧ g.2.2 < 256 ∧ val 256 g.2.1 + 256 ^ (i + g.1) * g.2.2 = val 256 (la.take i) * b + 256 ^ i * (x * val 256 (lb.take g.1)))
    (fun (k, o2, c) => [(0, .c (nSl .i64 la)), (1, .c (nSl .i64 lb)), (5, .c (.ow 16 1 (la.length + lb.length + 1))), (6, .c (nI .i64 i)), (7, .c (nI .i64 c)), (8, .c (nI .i64 k))]) (fun (k, o2, c) => [(16, .row 1 (aF .i64 o2))]) (fun (k, o2, c) => lb.length + 1 - k)
    (0, out, 0) ⟨by simp, h2, h3, by simp, by simp [val, h4]⟩ ⟨rfl, rfl, rfl, rfl, rfl, rfl, trivial⟩ ⟨rfl, trivial⟩ (fun g hg => ?_)
   obtain ⟨k, o2, c⟩ := g;obtain ⟨g1, g2, g3, g4, g5⟩ := hg;simp only at g1 g2 g3 g4 g5;refine .intro (by rw [ai]; omega) ?_;rw [ai];refine ah (fun h6 => ?_) (fun h6 => ?_)
   ·replace h6 : (k : Int) ≤ lb.length := h6;have hy := hB.getD (by omega) k;have hz := g3.getD (by omega) (i + k);have hTB := aJ 256 lb k;have hset := fun v : Nat => fC (B := 256) (l := o2) (i := i + k) (x := v) (by omega)
    generalize hzz : o2.getD (i + k) 0 = z at hz hset;refine X1 ((i + k : Nat) : Int) (wI (by simp) (by omega) (by omega)) ?_;refine .intro (by omega) (And.intro (by simp <;> omega) ?_);refine X1 _ (al rfl (by omega)) ?_;refine .intro (by omega) (X1 _ (al rfl (by omega)) ?_);refine X1 _ (tM lb k (by omega)) ?_;rw [hzz, hxx];generalize hyy : lb.getD k 0 = y at hy hTB;have hxy : x * y ≤ 255 * 255 := E7 (by omega) (by omega);refine X1 ((x * y : Nat) : Int) (wI (by simp) (by omega) (by omega)) ?_;refine X1 ((z + x * y : Nat) : Int) (wI (by simp) (by omega) (by omega)) ?_;refine X1 ((z + x * y + c : Nat) : Int) (wI (by simp) (by omega) (by omega)) ?_;refine .intro rfl ?_;obtain ⟨v, hv⟩ : ∃ v, v = z + x * y + c := ⟨_, rfl⟩;rw [← hv];refine X1 ((i + k : Nat) : Int) (wI (by simp) (by omega) (by omega)) ?_;refine .intro (by omega) (X1 ((v % 256 : Nat) : Int) (lU rfl) (And.intro ⟨by omega, by omega⟩ ?_));refine .intro (by omega) (And.intro (by simp <;> omega) ?_);refine X1 _ (al rfl (by omega)) ?_;refine .intro (by omega) (X1 ((v / 256 : Nat) : Int) (jW rfl) (And.intro ⟨by omega, by omega⟩ ?_));refine X1 ((k + 1 : Nat) : Int) (wI (by simp) (by omega) (by omega)) ?_;refine ⟨(k + 1, o2.set (i + k) (v % 256), v / 256), ⟨by show k + 1 ≤ _; omega, by simp [g2], g3.set (by omega), by show v / 256 < 256; omega, ?_⟩, by show lb.length + 1 - (k + 1) < lb.length + 1 - k; omega, ⟨rfl, rfl, rfl, rfl, rfl, rfl, trivial⟩, ⟨aB nRow_set, trivial⟩⟩;show val 256 (o2.set (i + k) (v % 256)) + 256 ^ (i + (k + 1)) * (v / 256) = val 256 (la.take i) * b + 256 ^ i * (x * val 256 (lb.take (k + 1)))
    have hs := hset (v % 256);have e1 : 256 ^ (i + (k + 1)) * (v / 256) + 256 ^ (i + k) * (v % 256) = 256 ^ (i + k) * v := by
     rw [← E3, EI, Ee, ← Er];congr 1; omega
    have e2 : 256 ^ (i + k) * v = 256 ^ (i + k) * z + 256 ^ (i + k) * (x * y) + 256 ^ (i + k) * c := by rw [hv, Er, Er]
    have e3 : 256 ^ i * (x * val 256 (lb.take (k + 1))) = 256 ^ i * (x * val 256 (lb.take k)) + 256 ^ (i + k) * (x * y) := by
     rw [hTB, Er, Er, EW, Ee, EX x]
    omega
   ·replace h6 : ¬ (k : Int) ≤ lb.length := h6;have hk : k = lb.length + 1 := by omega
    subst hk;rw [aW (l := lb) (by omega), ← hb0] at g5;have e4 : val 256 (la.take (i + 1)) * b = val 256 (la.take i) * b + 256 ^ i * (x * b) := by rw [hT, Eg, Ee]
    have e5 : val 256 (la.take (i + 1)) * b < 256 ^ (i + 1) * 256 ^ lb.length := GP bT bB;rw [← EW, show i + 1 + lb.length = i + (lb.length + 1) by omega] at e5;have hc : c = 0 := by
     rcases FI c with h | h
     ·exact h
     ·have := ET (256 ^ (i + (lb.length + 1))) h;omega
    subst hc;refine X1 ((i + 1 : Nat) : Int) (wI1 (by omega)) ?_;exact ⟨(i + 1, o2), ⟨by show i + 1 ≤ _; omega, g2, g3, by show val 256 o2 = val 256 (la.take (i + 1)) * b; omega⟩, by show la.length - (i + 1) < la.length - i; omega, ⟨rfl, rfl, rfl, rfl, trivial⟩, ⟨rfl, trivial⟩⟩
  ·replace h5 : ¬ (i : Int) < la.length := h5;refine ⟨out, ⟨by omega, h3, ?_⟩, ⟨rfl, trivial⟩, ⟨rfl, trivial⟩⟩;rw [h4, aW (by omega)]
 ·obtain ⟨h1, h2, h3⟩ := hl;refine X2 .frz ?_;refine X1 _ (mA l h1) ?_;rw [cS (by omega) h2, h3];exact ⟨trivial, r1 rfl, trivial⟩
theorem gB (a b : Nat) (ha : (dg 256 a).length ≤ 400000) (hb : (dg 256 b).length ≤ 400000) : Ct P 60 [.c (dV a), .c (dV b)] [.c (dV (a * b))] := by
 have := AN (dg 256 a) (dg 256 b) ha hb (bz (by omega) a) (bz (by omega) b);rwa [bl (by omega), bl (by omega)] at this
theorem yX {l : List Nat} {i : Nat} (h : l.getD i 0 = 0) : l.set i 0 = l := by
 apply Gt;intro j;rw [Fe];by_cases hij : i = j
 ·subst hij;by_cases hl : i < l.length
  ·rw [DZ, Em hl] at h;simp only [Fx] at h;simp [hl, h]
  ·simp [hl]
 ·simp [hij]
theorem tN (a b : Nat) (hb0 : b ≠ 0) (ha : (dg 256 a).length ≤ 400000) (hb : (dg 256 b).length ≤ 400000) : Ct P 105 [.c (dV a), .c (dV b)] [.c (dV (a / b)), .c (dV (a % b))] := by
 have hA := bz (B := 256) (by omega) a;have vA := bl (B := 256) (by omega) a;refine Ct.go aj aa (N := 45) Tryz.func105 rfl rfl rfl rfl ?_;refine .intro (by rw [ai]; omega) ?_;rw [ai];refine ⟨by omega, by omega, by omega, .inl (by decide), ?_⟩;refine .intro (by rw [ai]; omega) ?_;rw [ai];refine X1 (((dg 256 a).length : Int) - 1) (wi (by omega) (by omega)) ?_;refine zY (t := 7) (sz := 1) rfl ?_;refine au aj aa (G := Nat × List Nat × Nat) (fun (n, q, r) => n ≤ (dg 256 a).length ∧ q.length = (dg 256 a).length ∧ Dig 256 q ∧ (∀ j, j < n → q.getD j 0 = 0) ∧ r < b ∧ val 256 ((dg 256 a).drop n) = b * val 256 (q.drop n) + r)
  (fun (n, q, r) => [(0, .c (dV a)), (1, .c (dV b)), (6, .c (.ow 11 1 (dg 256 a).length)), (7, .c (dV r)), (8, .c (eI .i64 ((n : Int) - 1)))]) (fun ((n, q, r) : Nat × List Nat × Nat) => [(11, .row 1 (aF .i64 q))]) (fun (n, q, r) => n)
  ((dg 256 a).length, List.replicate (dg 256 a).length 0, 0) ⟨D1 _, by simp, fun x hx => by rw [EY hx]; omega, fun j hj => by simp [DZ, Fs, hj], by omega, by simp [val]⟩
  ⟨rfl, rfl, owE (by omega), pW (l := dg 256 0) (by rw [bu]; rfl), rfl, trivial⟩ ⟨aB (eV rfl), trivial⟩
  (fun l : List Nat => l.length ≤ 1000000 ∧ Dig 256 l ∧ val 256 l = a / b) (fun l => [(6, .c (.ow 11 1 (dg 256 a).length)), (7, .c (dV (a % b)))]) (fun l => [(11, .row 1 (aF .i64 l))]) (fun g hg => ?_) (fun l hl => ?_)
 ·obtain ⟨n, q, r⟩ := g;obtain ⟨h1, h2, h3, h4, h5, h6⟩ := hg;have hlr : (dg 256 r).length ≤ 400000 := D4 (ba (by omega) (by omega)) hb;refine ah (fun h7 => ?_) (fun h7 => ?_)
  ·obtain ⟨m, rfl⟩ : ∃ m, n = m + 1 := ⟨n - 1, by omega⟩;have hx := hA.getD (by omega) m;have hdrop : val 256 ((dg 256 a).drop m) = (dg 256 a).getD m 0 + 256 * val 256 ((dg 256 a).drop (m + 1)) := by
    rw [Ew (by omega), val];simp [DZ, (by omega : m < (dg 256 a).length)]
   have hq0 := h4 m (by omega);have hdq : ∀ t, val 256 ((q.set m t).drop m) = t + 256 * val 256 (q.drop (m + 1)) := fun t => by
    rw [Ew (by simp; omega), val];simp [List.drop_set]
   refine .intro (by omega) (X1 _ (al (n := m) (by omega) (by omega)) ?_);generalize (dg 256 a).getD m 0 = x at hx hdrop ⊢;refine pX (l := [x]) rfl (by simp [ai]; omega) c9 ?_;refine X2 .frz ?_;have htr := mA ([x] ++ dg 256 r) (by simp; omega);rw [cS (by omega) (Dig.app (.cons hx .nil) (bz (by omega) r)), jX, bl (by omega)] at htr;have hL : val 256 [x] + 256 ^ [x].length * r = x + 256 * r := by simp [val]
   rw [hL] at htr;refine X1 _ (show Ct P 106 [.c (.sl 1 (aF .i64 [x] ++ aF .i64 (dg 256 r)))] [.c (dV (x + 256 * r))] by rw [jV]; exact htr) ?_;have hLb : x + 256 * r < 256 * b := by omega
   refine b9 aj aa (fun t : Nat => t * b ≤ x + 256 * r)
    (fun t => [(0, .c (dV a)), (1, .c (dV b)), (6, .c (.ow 11 1 (dg 256 a).length)), (7, .c (dV (x + 256 * r - t * b))), (8, .c (nI .i64 m))]) (fun t => [(11, .row 1 (aF .i64 (q.set m t)))]) (fun t => 256 - t)
    0 (by simp) ⟨rfl, rfl, rfl, pW (by rw [GR, FY]), iE (by omega), trivial⟩ ⟨aB (by rw [yX hq0]), trivial⟩ (fun t ht => ?_)
   have ht256 : t < 256 := by
    apply F3;intro hge;have := D8 b hge;omega
   have hll : (dg 256 (x + 256 * r - t * b)).length ≤ 400001 := by
    have h8 := bF (B := 256) (by omega) b;have : x + 256 * r - t * b < 256 ^ ((dg 256 b).length + 1) := by rw [EI]; omega
    have := cv (B := 256) (by omega) this;omega
   refine X1 _ (yW (x + 256 * r - t * b) b (by omega) (by omega)) ?_;refine ah (fun h8 => ?_) (fun h8 => ?_)
   ·have hge : b ≤ x + 256 * r - t * b := by
     apply E9;intro hlt;rw [nL, if_pos hlt] at h8;omega
    refine X1 _ (yU (x + 256 * r - t * b) b hge (by omega)) ?_;refine .intro (by omega) (And.intro (by omega) ?_);refine X1 _ (al rfl (by simp; omega)) ?_;have hgt : (q.set m t).getD m 0 = t := by simp [DZ, h2, (by omega : m < (dg 256 a).length)]
    rw [hgt];refine X1 ((t + 1 : Nat) : Int) (wI (by simp) (by omega) (by omega)) ?_;refine .intro (by omega) (And.intro (by omega) ?_);refine X1 _ (al rfl (by simp; omega)) ?_;have hmul : (t + 1) * b = t * b + b := by rw [Eg, EK]
    refine ⟨t + 1, by show (t + 1) * b ≤ _; omega, by show 256 - (t + 1) < 256 - t; omega, ⟨rfl, rfl, rfl, pW (congrArg _ (congrArg _ (by omega))), rfl, trivial⟩, ⟨aB (nRow_set.trans (congrArg _ (GT ..))), trivial⟩⟩
   ·have hlt : x + 256 * r - t * b < b := by
     apply F3;intro hge;apply h8;rw [nL, if_neg (by omega)];split <;> omega
    refine X1 ((m : Int) - 1) (wI rfl (by omega) (by omega)) ?_;refine ⟨(m, q.set m t, x + 256 * r - t * b), ⟨by omega, by simp [h2], h3.set (by omega), fun j hj => ?_, hlt, ?_⟩, by show m < m + 1; omega, ⟨rfl, rfl, rfl, rfl, rfl, trivial⟩, ⟨rfl, trivial⟩⟩
    ·have := h4 j (by omega);rw [DZ] at this ⊢;rw [List.getElem?_set_ne (by omega)]; exact this
    ·rw [hdrop, hdq, h6];simp only [Er];have : t * b = b * t := Ej _ _;have : b * (256 * val 256 (q.drop (m + 1))) = 256 * (b * val 256 (q.drop (m + 1))) := EX _ _ _;omega
  ·have hn : n = 0 := by omega
   subst hn;rw [Fu, Fu, vA] at h6;have e1 : val 256 q = a / b := by
    rw [h6, Nat.mul_add_div (by omega), FE h5]; rfl
   have e2 : r = a % b := by
    rw [h6, GQ, EB h5]
   refine ⟨q, ⟨by omega, h3, e1⟩, ⟨rfl, pW (by rw [e2]), trivial⟩, ⟨rfl, trivial⟩⟩
 ·obtain ⟨h1, h2, h3⟩ := hl;refine X2 .frz ?_;refine X1 _ (mA l h1) ?_;rw [cS (by omega) h2, h3];exact ⟨trivial, r1 rfl, r1 rfl, trivial⟩
theorem Cp (a b : Nat) (ha : (dg 256 a).length ≤ 400000) (hb : (dg 256 b).length ≤ 400000) : Ct P 122 [.c (dV a), .c (dV b)] [.c (dV (Nat.gcd a b))] := by
 refine Ct.go aj aa (N := 19) Tryz.func122 rfl rfl rfl rfl ?_;refine au aj aa (G := Nat × Nat) (fun (x, y) => Nat.gcd x y = Nat.gcd a b ∧ (dg 256 x).length ≤ 400000 ∧ (dg 256 y).length ≤ 400000) (fun (x, y) => [(0, .c (dV x)), (1, .c (dV y))]) (fun _ => []) (fun (x, y) => y)
  (a, b) ⟨rfl, ha, hb⟩ ⟨rfl, rfl, trivial⟩ trivial (fun _ : Unit => True) (fun _ => [(0, .c (dV (Nat.gcd a b)))]) (fun _ => []) (fun g hg => ?_) (fun _ _ => ?_)
 ·obtain ⟨x, y⟩ := g;obtain ⟨h1, h2, h3⟩ := hg;refine .intro (by rw [ai]; omega) ?_;rw [ai];refine ah (fun h4 => ?_) (fun h4 => ?_)
  ·have hy : y ≠ 0 := by
    rintro rfl
    rw [bu] at h4;simp at h4
   refine X1 _ (tN x y hy h2 h3) ?_;have hlt : x % y < y := E6 _ (by omega);exact ⟨(y, x % y), ⟨by rw [← h1, G1 x y, Nat.gcd_rec y x, G1], h3, D4 (ba (by omega) (by omega)) h3⟩, hlt, ⟨rfl, rfl, trivial⟩, trivial⟩
  ·have hy : y = 0 := (gZ (B := 256) (by omega)).1 (Ev.1 (by omega));subst hy;rw [Nat.gcd_zero_right] at h1;exact ⟨(), trivial, ⟨pW (by rw [h1]), trivial⟩, trivial⟩
 ·exact ⟨trivial, r1 rfl, trivial⟩
abbrev rV (n d : Nat) : A1 := .ag [dV n, dV d]
theorem Do : dg 256 1 = [1] := by rw [gx (by omega) (by omega)]; simp [bu]
theorem tO (n d : Nat) (hd : d ≠ 0) (hn : (dg 256 n).length ≤ 400000) (hl : (dg 256 d).length ≤ 400000) : Ct P 76 [.c (dV n), .c (dV d)] [rV (n / Nat.gcd n d) (d / Nat.gcd n d)] := by
 refine Ct.go aj aa (N := 33) Tryz.func76 rfl rfl rfl rfl ?_;refine X1 _ (Cp n d hn hl) ?_;refine .intro (by rw [ai]; omega) ?_;rw [ai];have hg : Nat.gcd n d ≠ 0 := fun h => hd (Nat.gcd_eq_zero_iff.1 h).2
 have hgl : (dg 256 (Nat.gcd n d)).length ≤ 400000 := D4 (ba (by omega) (Nat.gcd_le_right n (by omega))) hl;refine aV (fun h => ?_) (fun h => ?_)
 ·have h0 : n = 0 := (gZ (B := 256) (by omega)).1 (Ev.1 (by omega));subst h0;rw [Gi, GU, GL (by omega)];have e : dV 1 = nSl .i64 [1] := by rw [dV, Do]
  have e0 : dV 0 = nSl .i64 [] := by rw [dV, bu]
  rw [rV, e, e0];exact ⟨trivial, ⟨_, rfl, .inr ⟨rfl, 1, rfl⟩, .inl rfl, trivial⟩, trivial⟩
 ·refine X1 _ (tN n _ hg hn hgl) ?_;refine X1 _ (tN d _ hg hl hgl) ?_;exact ⟨trivial, rc rfl, trivial⟩
theorem bp (v : Nat) (hv : v < 9223372036854775808) : Ct P 32 [.c (nI .i64 v)] [rV v 1] := by
 refine Ct.go aj aa (N := 8) Tryz.func32 rfl rfl rfl rfl ?_;refine X1 (v : Int) (wU rfl (by omega) (by omega)) ?_;refine X1 _ (yV v (by omega)) ?_;have e : dV 1 = nSl .i64 [1] := by rw [dV, Do]
 rw [rV, e];exact ⟨trivial, rc rfl, trivial⟩
theorem fF {a b : Nat} {k m : Nat} (ha : (dg 256 a).length ≤ k) (hb : (dg 256 b).length ≤ m) : (dg 256 (a * b)).length ≤ k + m := by
 apply cv (by omega);have h1 := bF (B := 256) (by omega) a;have h2 := bF (B := 256) (by omega) b;have h3 : a * b < 256 ^ (dg 256 a).length * 256 ^ (dg 256 b).length := GP h1 h2;rw [← EW] at h3;exact Ea h3 (Eh (by omega) (by omega))
abbrev rR (n d : Nat) : A1 := rV (n / Nat.gcd n d) (d / Nat.gcd n d)
structure Lim (n d : Nat) : Prop where
 pos : d ≠ 0
 n : (dg 256 n).length ≤ 100000
 d : (dg 256 d).length ≤ 100000
theorem AO (a b c d : Nat) (h1 : Lim a b) (h2 : Lim c d) : Ct P 56 [rV a b, rV c d] [rR (a * c) (b * d)] := by
 refine Ct.go aj aa (N := 16) Tryz.func56 rfl rfl rfl rfl ?_;refine X1 _ (gB a c (by have := h1.n; omega) (by have := h2.n; omega)) ?_;refine X1 _ (gB b d (by have := h1.d; omega) (by have := h2.d; omega)) ?_;refine X1 _ (tO (a * c) (b * d) (Es h1.pos h2.pos) (D4 (fF h1.n h2.n) (by omega)) (D4 (fF h1.d h2.d) (by omega))) ?_;refine .intro rfl ?_;exact ⟨trivial, rc rfl, trivial⟩
theorem AP (a b c d : Nat) (h1 : Lim a b) (h2 : Lim c d) (hc : c ≠ 0) : Ct P 31 [rV a b, rV c d] [rR (a * d) (b * c)] := by
 refine Ct.go aj aa (N := 16) Tryz.func31 rfl rfl rfl rfl ?_;refine X1 _ (gB a d (by have := h1.n; omega) (by have := h2.d; omega)) ?_;refine X1 _ (gB b c (by have := h1.d; omega) (by have := h2.n; omega)) ?_;refine X1 _ (tO (a * d) (b * c) (Es h1.pos hc) (D4 (fF h1.n h2.d) (by omega)) (D4 (fF h1.d h2.n) (by omega))) ?_;refine .intro rfl ?_;exact ⟨trivial, rc rfl, trivial⟩
theorem AQ (a b c d : Nat) (h1 : Lim a b) (h2 : Lim c d) : Ct P 75 [rV a b, rV c d] [.c (eI .i64 (nL (a * d) (c * b)))] := by
 refine Ct.go aj aa (N := 16) Tryz.func75 rfl rfl rfl rfl ?_;refine X1 _ (gB a d (by have := h1.n; omega) (by have := h2.d; omega)) ?_;refine X1 _ (gB c b (by have := h2.n; omega) (by have := h1.d; omega)) ?_;refine X1 _ (yW (a * d) (c * b) (D4 (fF h1.n h2.d) (by omega)) (D4 (fF h2.n h1.d) (by omega))) ?_;refine .intro rfl ?_;exact ⟨trivial, r1 rfl, trivial⟩
theorem yY (a b c d : Nat) (h1 : Lim a b) (h2 : Lim c d) : Ct P 119 [rV a b, rV c d] [rR (a * d - c * b) (b * d)] := by
 refine Ct.go aj aa (N := 27) Tryz.func119 rfl rfl rfl rfl ?_;refine X1 _ (AQ a b c d h1 h2) ?_;refine ah (fun h => ?_) (fun h => ?_)
 ·have hlt : a * d < c * b := by
   unfold nL at h;split at h
   ·assumption
   ·split at h <;> omega
  refine X1 _ (bp 0 (by omega)) ?_;have hbd := Es h1.pos h2.pos;rw [rR, show a * d - c * b = 0 by omega, Gi, GU, GL (by omega)];exact ⟨trivial, rc rfl, trivial⟩
 ·have hge : c * b ≤ a * d := by
   apply E9;intro hlt;rw [nL, if_pos hlt] at h;omega
  have l1 := fF h1.n h2.d;have l2 := fF h1.d h2.d;refine X1 _ (gB a d (by have := h1.n; omega) (by have := h2.d; omega)) ?_;refine X1 _ (gB c b (by have := h2.n; omega) (by have := h1.d; omega)) ?_;refine X1 _ (yU (a * d) (c * b) hge (by omega)) ?_;refine X1 _ (gB b d (by have := h1.d; omega) (by have := h2.d; omega)) ?_;refine X1 _ (tO (a * d - c * b) (b * d) (Es h1.pos h2.pos) (D4 (ba (by omega) (Nat.sub_le _ _)) (by omega)) (by omega)) ?_;refine .intro rfl ?_;exact ⟨trivial, rc rfl, trivial⟩
def fR (n d : Nat) : Nat × Nat := (n / Nat.gcd n d, d / Nat.gcd n d)
def cG (p q : Nat × Nat) : Nat × Nat := fR (p.1 * q.1) (p.2 * q.2)
def dW (p q : Nat × Nat) : Nat × Nat := fR (p.1 * q.2) (p.2 * q.1)
def bE (p q : Nat × Nat) : Nat × Nat := fR (p.1 * q.2 + q.1 * p.2) (p.2 * q.2)
def cW (p q : Nat × Nat) : Nat × Nat := fR (p.1 * q.2 - q.1 * p.2) (p.2 * q.2)
structure Bd (k : Nat) (p : Nat × Nat) : Prop where
 pos : p.2 ≠ 0
 n : p.1 < 2 ^ k
 d : p.2 < 2 ^ k
theorem ig {n d : Nat} (h : d ≠ 0) : (fR n d).2 ≠ 0 := by
 have hg : 0 < Nat.gcd n d := Nat.gcd_pos_of_pos_right n (Eu h);have := Nat.div_pos (Nat.gcd_le_right n (Eu h)) hg;show d / Nat.gcd n d ≠ 0
 omega
theorem o6 {n d k : Nat} (h : d ≠ 0) (hn : n < 2 ^ k) (hd : d < 2 ^ k) : Bd k (fR n d) :=
 ⟨ig h, FJ (Fp _ _) hn, FJ (Fp _ _) hd⟩
theorem fQ {a b k m : Nat} (ha : a < 2 ^ k) (hb : b < 2 ^ m) : a * b < 2 ^ (k + m) := by
 rw [EW]; exact GP ha hb
theorem Bd.le {k m : Nat} {p : Nat × Nat} (h : Bd k p) (hk : k ≤ m) : Bd m p :=
 ⟨h.pos, Ea h.n (Eh (by omega) hk), Ea h.d (Eh (by omega) hk)⟩
theorem bv {k m : Nat} {p q : Nat × Nat} (h1 : Bd k p) (h2 : Bd m q) : Bd (k + m) (cG p q) := o6 (Es h1.pos h2.pos) (fQ h1.n h2.n) (fQ h1.d h2.d)
theorem cn {k m : Nat} {p q : Nat × Nat} (h1 : Bd k p) (h2 : Bd m q) (hq : q.1 ≠ 0) : Bd (k + m) (dW p q) := o6 (Es h1.pos hq) (fQ h1.n h2.d) (fQ h1.d h2.n)
theorem eY {k m : Nat} {p q : Nat × Nat} (h1 : Bd k p) (h2 : Bd m q) : Bd (k + m + 1) (bE p q) := by
 have a1 := fQ h1.n h2.d;have a2 := fQ h2.n h1.d;have a3 := fQ h1.d h2.d;rw [Gn m k] at a2;refine o6 (Es h1.pos h2.pos) ?_ ?_ <;> rw [EI] <;> omega
theorem mB {k m : Nat} {p q : Nat × Nat} (h1 : Bd k p) (h2 : Bd m q) : Bd (k + m) (cW p q) := by
 have a1 := fQ h1.n h2.d;exact o6 (Es h1.pos h2.pos) (by omega) (fQ h1.d h2.d)
theorem aE {v k : Nat} (h : v < 2 ^ k) (hk : 1 ≤ k) : Bd k (v, 1) :=
 ⟨by simp, h, by show 1 < 2 ^ k; have := Eh (show 0 < 2 by omega) hk; omega⟩
theorem tP {k n : Nat} (h : k ≤ 8 * n) : 2 ^ k ≤ 256 ^ n := by
 rw [show (256 : Nat) = 2 ^ 8 from rfl, ← Nat.pow_mul];exact Eh (by omega) h
theorem Bd.lim {k : Nat} {p : Nat × Nat} (h : Bd k p) (hk : k ≤ 800000) : Lim p.1 p.2 := by
 obtain ⟨N, hN⟩ : ∃ N, N = 100000 := ⟨_, rfl⟩;have e : 2 ^ k ≤ 256 ^ N := tP (by omega);have a1 := cv (by omega) (Ea h.n e);have a2 := cv (by omega) (Ea h.d e);rw [hN] at a1 a2;exact ⟨h.pos, a1, a2⟩
abbrev rP (p : Nat × Nat) : A1 := rV p.1 p.2
theorem iK {k m : Nat} {p q : Nat × Nat} (h1 : Bd k p) (h2 : Bd m q) (hk : k ≤ 400000) (hm : m ≤ 400000) : Ct P 56 [rP p, rP q] [rP (cG p q)] := AO _ _ _ _ (h1.lim (by omega)) (h2.lim (by omega))
theorem iL {k m : Nat} {p q : Nat × Nat} (h1 : Bd k p) (h2 : Bd m q) (hq : q.1 ≠ 0) (hk : k ≤ 400000) (hm : m ≤ 400000) : Ct P 31 [rP p, rP q] [rP (dW p q)] := AP _ _ _ _ (h1.lim (by omega)) (h2.lim (by omega)) hq
theorem qf {k m : Nat} {p q : Nat × Nat} (h1 : Bd k p) (h2 : Bd m q) (hk : k ≤ 400000) (hm : m ≤ 400000) : Ct P 119 [rP p, rP q] [rP (cW p q)] := yY _ _ _ _ (h1.lim (by omega)) (h2.lim (by omega))
end
end Go.Proofs.YtgceikecdedfcaaGreat.Pv
