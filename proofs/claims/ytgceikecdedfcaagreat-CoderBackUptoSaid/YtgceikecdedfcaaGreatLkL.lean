/- Parts of a proof, joined: Eo Ep Ce Cg Ci Cj. -/
import Derived.Test.YtgceikecdedfcaaGreatLkK
namespace Go.Proofs.YtgceikecdedfcaaGreat.Pv
open Go Go.Sort
theorem place (g : List Int) : ∀ (l : List Cnt), dP l → ∃ k, k ≤ l.length ∧ (∀ (i : Nat) (hi : i < l.length), i < k → aD l[i].1 g < 0) ∧ ∀ (i : Nat) (hi : i < l.length), k ≤ i → ¬ aD l[i].1 g < 0
 | [], _ => ⟨0, by simp, fun i hi => by simp at hi, fun i hi => by simp at hi⟩
 | x :: l, hr => by
  obtain ⟨k, h0, h1, h2⟩ := place g l (List.Pairwise.of_cons hr);by_cases hx : aD x.1 g < 0
  ·refine ⟨k + 1, by simp; omega, fun i hi hik => ?_, fun i hi hik => ?_⟩
   ·cases i with
    | zero => exact hx
    | succ i => exact h1 i (by simpa using hi) (by omega)
   ·cases i with
    | zero => omega
    | succ i => exact h2 i (by simpa using hi) (by omega)
  ·refine ⟨0, by simp, fun i hi hik => by omega, fun i hi _ hlt => ?_⟩
   cases i with
   | zero => exact hx hlt
   | succ i => exact hx (da ((FC.1 hr).1 _ (Ec (by simpa using hi))) hlt)
theorem oZ (l : List Cnt) (g : List Int) (hl : CLim l) (hg : g.length ≤ 1000000) (hr : dP l) : Ct P 129 [.c (cSl l), .c (iSl g)] [.c (eI .i64 (cM g l))] := by
 obtain ⟨k, h0, h1, h2⟩ := place g l hr;have e : (if atK l g k = true then (k : Int) else -1) = cM g l := by
  unfold atK;rcases EQ k l.length with hk | hk
  ·rw [Em hk];simp only [beq_iff_eq];split
   ·rename_i h;have hkg := k9 h;exact (oU g l k hk (fun j hj he => by
     have := h1 j (by omega) hj;rw [he, dN] at this; omega) hkg).symm
   ·rename_i h;refine (f9 g l fun j hj he => ?_).symm;rcases Fm j k with hjk | hjk | hjk
    ·have := h1 j hj hjk;rw [he, dN] at this; omega
    ·subst hjk;rw [he, dN] at h; exact h rfl
    ·have := (List.pairwise_iff_getElem.1 hr) k j hk hj hjk;rw [he] at this;exact h2 k hk (D1 _) this
  ·rw [Eo hk];refine (if_neg (by simp)).trans (f9 g l fun j hj he => ?_).symm;have := h1 j hj (by omega);rw [he, dN] at this; omega
 rw [← e];exact yp l g k hl hg h0 h1 h2
theorem rL (g : List Int) : ∀ {l : List Cnt}, (∃ x, x ∈ l ∧ x.1 = g) → ∃ (i : Nat) (hi : i < l.length), cM g l = i ∧ l[i].1 = g
 | [], ⟨x, hx, _⟩ => by simp at hx
 | y :: l, ⟨x, hx, he⟩ => by
  by_cases h : y.1 = g
  ·exact ⟨0, by simp, by rw [cM, if_pos h]; rfl, h⟩
  ·rcases Ey.1 hx with rfl | hx
   ·exact absurd he h
   ·obtain ⟨i, hi, h1, h2⟩ := rL g ⟨x, hx, he⟩;exact ⟨i + 1, by simp; omega, by rw [cM, if_neg h, h1, if_neg (by omega)]; simp, h2⟩
theorem rM {α : Type} [Inhabited α] {ltf : α → α → Bool} {d : Array α} (h : SortedIn ltf 0 d.size d) : d.toList.Pairwise fun x y => ltf y x = false := by
 rw [List.pairwise_iff_getElem];intro i j hi hj hij;have hi' : i < d.size := by simpa using hi
 have hj' : j < d.size := by simpa using hj
 have := h i j (by omega) hij hj';simpa [hi', hj'] using this
theorem yC (s : List (List Int)) (h : ∀ g, g ∈ s → g.length ≤ 1000000) : (ed s h).Pairwise fun a b => ¬ rlt b a := by
 have h1 := (SrtI.sort_spec 168 cmE kh (swo_of fun x : SrtI.El => x.1.reverse) (mkI s h)).2;have h2 := (SrtI.sort_spec 168 cmE kh (swo_of fun x : SrtI.El => x.1.reverse) (mkI s h)).1.length_eq;unfold ed;rw [show (mkI s h).size = (Sort.sort (SrtI.lt cmE) (mkI s h)).size by simpa using h2.symm] at h1;refine List.pairwise_map.2 ((rM h1).imp fun {a b} hab => ?_);simpa [SrtI.lt] using hab
theorem yD (s : List Cnt) (h : ∀ x, x ∈ s → x.1.length ≤ 1000000) : (ko s h).Pairwise fun a b => ¬ aD b.1 a.1 < 0 := by
 have h1 := (SrtC.sort_spec 172 cmG kj (swo_of fun x : SrtC.El => x.1.1) (mkC s h)).2;have h2 := (SrtC.sort_spec 172 cmG kj (swo_of fun x : SrtC.El => x.1.1) (mkC s h)).1.length_eq;unfold ko;rw [show (mkC s h).size = (Sort.sort (SrtC.lt cmG) (mkC s h)).size by simpa using h2.symm] at h1;refine List.pairwise_map.2 ((rM h1).imp fun {a b} hab => ?_);simpa [SrtC.lt] using hab
structure EndsOk (l E : List Cnt) : Prop where
 lim : CLim E
 rises : dP E
 cnt : ∀ x, x ∈ E → x.2 = ((bL l).count x.1 : Int)
 all : ∀ g, g ∈ bL l → ∃ x, x ∈ E ∧ x.1 = g
 only : ∀ x, x ∈ E → x.1 ∈ bL l
theorem yE (l : List Cnt) (hl : CLim l) : EndsOk l (rJ l hl) := by
 have hg := yB _ _ rfl (yC (bL l) (aS hl));have hlen := (mq _ (ed (bL l) (aS hl)) rfl).1;have hpI := js (bL l) (aS hl);have hpC := tG (grp (ed (bL l) (aS hl))) (eX hl);have hup := yD (grp (ed (bL l) (aS hl))) (eX hl);have hlim := eX hl;have hE : rJ l hl = ko (grp (ed (bL l) (aS hl))) (eX hl) := rfl;rw [hE];generalize ko (grp (ed (bL l) (aS hl))) (eX hl) = E at *
 have hsl : (ed (bL l) (aS hl)).length = l.length := by rw [hpI.length_eq]; simp
 generalize ed (bL l) (aS hl) = s at *
 have hll := hl.len;refine ⟨⟨by rw [hpC.length_eq]; omega, fun x hx => hlim x (hpC.subset hx)⟩, ?_, fun x hx => ?_, fun g hgm => ?_, fun x hx => ?_⟩
 ·have hne : E.Pairwise fun x y => x.1 ≠ y.1 := (List.Perm.pairwise_iff (fun {a b} (h : a.1 ≠ b.1) => h.symm) hpC).2 (hg.up.imp fun {a b} h e => by rw [e] at h; exact mr _ h)
  refine (hup.and hne).imp fun {a b} h => ?_
  have h1 := h.1;have h3 := eF a.1 b.1;apply Classical.byContradiction;intro h2;exact h.2 (k9 (by omega))
 ·rw [(hg.cnt x (hpC.subset hx)).2, hpI.count_eq]
 ·obtain ⟨x, hx, he⟩ := hg.all g (hpI.mem_iff.2 hgm);exact ⟨x, hpC.mem_iff.2 hx, he⟩
 ·exact hpI.mem_iff.1 (hg.cnt x (hpC.subset hx)).1
theorem rN {l : List Cnt} {n : Nat} (hf : ∀ x, x ∈ l → x.1.length = n + 1) {g : List Int} (hg : g.length = n) : (bL l).count g = ahead l g := by
 unfold bL ahead;rw [List.count_eq_countP, List.countP_map, List.countP_eq_length_filter];congr 1;refine List.filter_congr fun x hx => ?_
 rw [decide_eq_true (show x.1.length = g.length + 1 by rw [hf x hx, hg]), Bool.true_and];simp only [Function.comp];by_cases h : x.1.drop 1 = g
 ·rw [decide_eq_true h]; simpa using h
 ·rw [decide_eq_false h]; simpa using h
theorem vO {l E : List Cnt} (hE : EndsOk l E) {n : Nat} (hf : ∀ x, x ∈ l → x.1.length = n + 1) {g : List Int} (hg : g.length = n) :
  (∃ (i : Nat) (hi : i < E.length), cM g E = i ∧ E[i].2 = (ahead l g : Int)) ∨ (cM g E = -1 ∧ ahead l g = 0) := by
 rw [← rN hf hg];by_cases h : g ∈ bL l
 ·obtain ⟨i, hi, h1, h2⟩ := rL g (hE.all g h);exact .inl ⟨i, hi, h1, by rw [hE.cnt _ (Ec hi), h2]⟩
 ·refine .inr ⟨f9 g E fun j hj he => h (he ▸ hE.only _ (Ec hj)), List.count_eq_zero.2 h⟩
theorem BK {sz : Nat} {a b : List (List PC)} {i j : List Nat} (h : a = b) (h2 : i = j) : (some (.rowO sz a i) : Option Ob) = some (.rowO sz b j) := by rw [h, h2]
theorem DP {A : List (List Cnt)} {l : List Cnt} {m : Nat} (hm : 1 ≤ m) : (aU A ++ List.replicate m fo).set A.length [cSl l] = aU (A ++ [l]) ++ List.replicate (m - 1) fo := by
 obtain ⟨m, rfl⟩ : ∃ k, m = k + 1 := ⟨m - 1, by omega⟩;rw [List.replicate_succ, List.set_append_right _ _ (by simp [aU])];simp [aU]
theorem DQ {A : List (List Cnt)} {m : Nat} (hm : 1 ≤ m) : (aU A ++ List.replicate m fo)[A.length]? = some fo := by
 obtain ⟨m, rfl⟩ : ∃ k, m = k + 1 := ⟨m - 1, by omega⟩;rw [D7 (by simp [aU])];simp [aU]
theorem BL (A : List (List Cnt)) (m : Nat) : ax (aU A ++ List.replicate m fo) := by
 intro el h;rcases EF.1 h with h | h
 ·exact kb el h
 ·rw [EY h]; rfl
theorem DS {base : List (List PC)} {n k r sz q : Nat} {el' : List PC} (hbc : ax base) (hbl : n < base.length) (he : el' ∈ ((base.set n [.ow k r sz]).set n (spl [.ow k r sz] 0 (List.replicate 1 .dead)))) (hm : cQ q el' = true) : bw q [] = true := by
 have e : spl [PC.ow k r sz] 0 (List.replicate 1 .dead) = [PC.dead] := rfl;rw [GT, e] at he;rcases Gj he with he | he
 ·rw [cQ, closedL_ment (hbc el' he)] at hm; cases hm
 ·subst he; cases hm
theorem DT {base : List (List PC)} {n : Nat} {a b c : List PC} : ((base.set n a).set n b).set n c = base.set n c := by rw [GT, GT]
theorem Cj (V : Objs) (A : List (List Cnt)) (m : Nat) : (aU A ++ List.replicate m fo).map (·.map (dX 3 V)) = aU A ++ List.replicate m fo := by
 rw [Fb, List.map_replicate];congr 1;unfold aU;rw [List.map_map];rfl
theorem bm (L : List (List Cnt)) : (ao L).length = L.length := by simp [ao]
theorem o5 {L : List (List Cnt)} {n : Nat} (h : n < L.length) : (ao L)[n]'(by rw [bm]; exact h) = L[n].map (cF L n) := by
 simp [ao, h]
theorem rO {L : List (List Cnt)} {n : Nat} (h : n < L.length) : (ao L).take (n + 1) = (ao L).take n ++ [L[n].map (cF L n)] := by
 rw [D5 (by rw [bm]; exact h), o5 h]
theorem tH (L : List (List Cnt)) (hL : CCLim L) (h : fi L = 0) : Ct P 83 [.c (cE L)] [.c (cE (ao L)), .c (eI .i64 0)] := by
 have hok := rK h;have h8 := hok.len8;refine Ct.go aj aa (N := 89) Tryz.func83 rfl rfl rfl rfl ?_;refine X1 _ (vH L hL) ?_;refine dL (fun h2 => absurd h h2) (fun _ => ?_);refine .intro (by rw [ay]; omega) ?_;rw [ay];refine .intro (by omega) (And.intro (by omega) (And.intro (by omega) (And.intro ?_ ?_)))
 ·exact .inr (by show (L.length : Int) * 24 ≤ _; omega)
 refine .intro (by rw [ay]; omega) ?_;rw [ay];refine yr (fun n : Nat => n ≤ L.length) (fun n => [(0, .c (cE L)), (5, .c (.ow 20 1 L.length)), (21, .c (cE L)), (22, .c (nI .i64 L.length)), (23, .c (nI .i64 n))]) (fun n => [(20, .row 1 (aU ((ao L).take n) ++ List.replicate (L.length - n) fo))]) (fun n => L.length - n)
  0 (by omega) ⟨rfl, by rw [EC]; rfl, rfl, rfl, rfl, trivial⟩ ⟨by rw [EC]; rfl, trivial⟩ (fun _ : Unit => True) (fun _ => [(5, .c (.ow 20 1 L.length))]) (fun _ => [(20, .row 1 (aU (ao L)))]) (fun n hn => ?_) (fun _ _ => ?_)
 ·refine dI aj aa ?_;refine dI aj aa ?_;refine ah (fun h5 => ?_) (fun h5 => ?_)
  ·have hn' : n < L.length := by omega
   have hLn := hL.at' hn';have hff := hok.form n hn';refine vM (nA ?_);refine dI aj aa ?_;refine .intro (by omega) (X1 _ (cw rfl hn') ?_);refine dI aj aa ?_;refine zY (t := 8) (sz := 2) rfl ?_;refine nC aj aa (G2 := List Cnt) (fun v => n + 1 < L.length → EndsOk (L.getD (n + 1) []) v)
    (fun v => [(0, .c (cE L)), (5, .c (.ow 20 1 L.length)), (6, .c (nI .i64 n)), (7, .c (cSl L[n])), (8, .c (cSl v)), (21, .c (cE L)), (22, .c (nI .i64 L.length)), (23, .c (nI .i64 n))]) (fun _ => [(20, .row 1 (aU ((ao L).take n) ++ List.replicate (L.length - n) fo))]) ?_ (fun v hv => ?_)
   ·refine X1 ((n + 1 : Nat) : Int) (wI (by simp) (by omega) (by omega)) ?_;refine .intro (by rw [ay]; omega) ?_;rw [ay];refine ah (fun h6 => ?_) (fun h6 => ?_)
    ·have hn1 : n + 1 < L.length := by omega
     refine X1 ((n + 1 : Nat) : Int) (wI (by simp) (by omega) (by omega)) ?_;refine .intro (by omega) (X1 _ (cw rfl hn1) ?_);refine X1 _ (yA L[n + 1] (hL.at' hn1) (fun x hx => by have := (hok.form (n + 1) hn1 x hx).1; omega)) ?_;exact ⟨rJ L[n + 1] (hL.at' hn1), fun _ => by rw [show L.getD (n + 1) [] = L[n + 1] by simp [DZ, hn1]]; exact yE L[n + 1] (hL.at' hn1), ⟨rfl, rfl, rfl, rfl, rfl, rfl, rfl, rfl, trivial⟩, ⟨rfl, trivial⟩⟩
    ·exact ⟨[], fun h => absurd h (by omega), ⟨rfl, rfl, rfl, rfl, rfl, rfl, rfl, rfl, trivial⟩, ⟨rfl, trivial⟩⟩
   ·have hbl : n < (aU ((ao L).take n) ++ List.replicate (L.length - n) fo).length := by
     rw [D3, ay, Ed, bm, F8]; omega
    have hct : ((ao L).take n).length = n := by rw [Ed, bm]; omega
    have hbg : (aU ((ao L).take n) ++ List.replicate (L.length - n) fo)[n]? = some fo := by
     have := DQ (A := (ao L).take n) (m := L.length - n) (by omega);rwa [hct] at this
    have hbc := BL ((ao L).take n) (L.length - n);have hend : ∀ l' : List Cnt, l' = L[n].map (cF L n) → (aU ((ao L).take n) ++ List.replicate (L.length - n) fo).set n [cSl l'] = aU ((ao L).take (n + 1)) ++ List.replicate (L.length - (n + 1)) fo := fun l' hl' => by
     have := DP (A := (ao L).take n) (l := l') (m := L.length - n) (by omega);rw [hct] at this;rw [this, hl', rO hn'];rfl
    have hvw : ∀ V : Objs, (aU ((ao L).take n) ++ List.replicate (L.length - n) fo).map (·.map (dX 3 V)) = aU ((ao L).take n) ++ List.replicate (L.length - n) fo := fun V => Cj V _ _
    have hahd : n + 1 < L.length → ∀ x, x ∈ L.getD (n + 1) [] → x.1.length = n + 2 := fun hn1 x hx => by
     rw [show L.getD (n + 1) [] = L[n + 1] by simp [DZ, hn1]] at hx;exact (hok.form (n + 1) hn1 x hx).1
    have hahl : n + 1 < L.length → (L.getD (n + 1) []).length ≤ 1000000 := fun hn1 => by
     rw [show L.getD (n + 1) [] = L[n + 1] by simp [DZ, hn1]];exact (hL.at' hn1).len
    generalize L[n] = l at *
    generalize (aU ((ao L).take n) ++ List.replicate (L.length - n) fo) = base at *
    have hll := hLn.len;refine Dg (r := 84) (k := 20) (sz' := 2) rfl (by omega) rfl hbg hbc ?_;refine dI aj aa ?_;refine .intro (by rw [cRow_len]; omega) ?_;rw [cRow_len];refine yq (fun j : Nat => j ≤ l.length) (fun j => [(0, .c (cE L)), (5, .c (.ow 20 1 L.length)), (6, .c (nI .i64 n)), (8, .c (cSl v)), (21, .c (cE L)), (22, .c (nI .i64 L.length)), (23, .c (nI .i64 n)), (39, .c (cSl l)), (40, .c (nI .i64 l.length)), (41, .c (nI .i64 j))])
     (fun j => [(20, .rowO 1 (base.set n [.ow 84 2 j]) [84]), (84, .row 2 (ci ((l.take j).map (cF L n))))]) (fun j => l.length - j)
     0 (by omega) ⟨rfl, rfl, rfl, rfl, rfl, rfl, rfl, rfl, rfl, rfl, trivial⟩ ⟨rfl, rfl, trivial⟩ (fun j hj => ?_)
    refine dI aj aa ?_;refine dI aj aa ?_;refine ah (fun h7 => ?_) (fun h7 => ?_)
    ·have hj' : j < l.length := by omega
     have hsn : l.take (j + 1) = l.take j ++ [l[j]] := D5 hj';have hx := bD (l := l) (i := (j : Int)) (n := j) rfl hj';have hxf := hff l[j] (Ec hj');have hxl := hLn.at' hj';have hcj : (l.take j).length = j := by rw [Ed]; omega
     generalize l[j] = x at *
     refine vM (nA ?_);refine dI aj aa ?_;refine .intro (by omega) (X1 _ hx ?_);refine dI aj aa ?_;refine X1 _ (iJ x.1 hxl) ?_;refine .intro rfl ?_;refine nC aj aa (G2 := Cnt) (fun c => c = cF L n x) (fun _ => [(0, .c (cE L)), (5, .c (.ow 20 1 L.length)), (6, .c (nI .i64 n)), (8, .c (cSl v)), (11, .c (.ad 11 0)), (21, .c (cE L)), (22, .c (nI .i64 L.length)), (23, .c (nI .i64 n)), (39, .c (cSl l)), (40, .c (nI .i64 l.length)), (41, .c (nI .i64 j))])
      (fun c => [(11, .var [iSl c.1, eI .i64 c.2]), (20, .rowO 1 (base.set n [.ow 84 2 j]) [84]), (84, .row 2 (ci ((l.take j).map (cF L n))))]) ?_ (fun c hce => ?_)
     ·refine X1 ((n + 1 : Nat) : Int) (wI (by simp) (by omega) (by omega)) ?_;refine .intro (by rw [ay]; omega) ?_;rw [ay];refine ah (fun h6 => ?_) (fun h6 => ?_)
      ·have hn1 : n + 1 < L.length := by omega
       have hE := hv hn1;refine .intro (by omega) (X1 _ (bc (n := 0) rfl (by omega)) ?_);refine dL (fun h9 => ?_) (fun h9 => ?_)
       ·have hce : cF L n x = (x.1, (ahead (L.getD (n + 1) []) x.1 : Int)) := if_pos ⟨hn1, by simpa using h9⟩;have hfi := vO hE (n := n + 1) (hahd hn1) (g := x.1) (by omega);refine X1 _ (oZ v x.1 hE.lim hxl hE.rises) ?_;rcases hfi with ⟨i, hi, f1, f2⟩ | ⟨f1, f2⟩
        ·rw [f1];refine .intro (by omega) (X1 _ (bD (n := i) rfl hi) ?_);rw [f2];exact ⟨(x.1, (ahead (L.getD (n + 1) []) x.1 : Int)), hce.symm, ⟨rfl, rfl, rfl, rfl, rfl, rfl, rfl, rfl, rfl, rfl, rfl, trivial⟩, ⟨rfl, rfl, rfl, trivial⟩⟩
        ·rw [f1];rw [f2] at hce;exact ⟨(x.1, 0), hce.symm, ⟨rfl, rfl, rfl, rfl, rfl, rfl, rfl, rfl, rfl, rfl, rfl, trivial⟩, ⟨rfl, rfl, rfl, trivial⟩⟩
       ·have hce : cF L n x = x := if_neg (fun h => h.2 (by simpa using h9));exact ⟨x, hce.symm, ⟨rfl, rfl, rfl, rfl, rfl, rfl, rfl, rfl, rfl, rfl, rfl, trivial⟩, ⟨rfl, rfl, rfl, trivial⟩⟩
      ·have hce : cF L n x = x := if_neg (fun h => h6 (by omega));exact ⟨x, hce.symm, ⟨rfl, rfl, rfl, rfl, rfl, rfl, rfl, rfl, rfl, rfl, rfl, trivial⟩, ⟨rfl, rfl, rfl, trivial⟩⟩
     ·refine nl (Ty.own_ok [1000001, 1000002] aj) aa ?_;refine .intro (by omega) (And.intro (by omega) (X1 _ (List.getElem?_set_self hbl) ?_));refine X1 [] (fun el' q he hm => DS hbc hbl he hm) ?_;refine ⟨by rw [cRow_len]; simp; omega, by rw [cRow_len]; simp only [EP, Ed]; show (min j l.length + 1 + 768) * 32 ≤ _; omega, by rw [cRow_len]; simp only [EP, Ed]; show min j l.length + 1 ≤ _; omega, br, ar rfl, ?_⟩;refine .intro (by omega) (And.intro (by omega) (X1 _ (List.getElem?_set_self (by rw [FW]; exact hbl)) ?_));refine .intro rfl ?_;refine nl aj aa ?_;refine X1 ((j + 1 : Nat) : Int) (wI (by simp) (by omega) (by omega)) ?_;exact ⟨j + 1, by omega, by omega, ⟨rfl, rfl, rfl, rfl, rfl, rfl, rfl, rfl, rfl, rfl, trivial⟩, ⟨BK ((DT (base := base) (n := n) (a := [PC.ow 84 2 j]) (b := [PC.dead]) (c := [PC.ow 84 2 _])).trans (congrArg (fun k => base.set n [PC.ow 84 2 k]) (by rw [D3, cRow_len, EP, hcj]; rfl))) rfl, aB (by rw [hsn, Fb, ← fj]; simp only [EH, Gx]; rw [← hce]; rfl), trivial⟩⟩
    ·have hje : j = l.length := by omega
     subst hje;refine De [84] ?_;refine Df (k := 20) (sz := 1) (els := aU ((ao L).take (n + 1)) ++ List.replicate (L.length - (n + 1)) fo) (ids := [84]) (BK ?_ rfl) (BL _ _) ?_
     ·rw [List.map_set, hvw];exact hend _ (by rw [EE])
     ·refine nl aj aa ?_;refine X1 ((n + 1 : Nat) : Int) (wI (by simp) (by omega) (by omega)) ?_;exact ⟨n + 1, by omega, by omega, ⟨rfl, rfl, rfl, rfl, rfl, trivial⟩, ⟨rfl, trivial⟩⟩
  ·have e : n = L.length := by omega
   subst e;exact ⟨(), trivial, ⟨rfl, trivial⟩, ⟨aB (by rw [EG (by rw [bm]; exact D1 _)]; simp), trivial⟩⟩
 ·refine nl aj aa ?_;have : L.length = (aU (ao L)).length := by rw [ay, bm]
  exact ⟨trivial, r1 rfl, r1 rfl, trivial⟩
end Go.Proofs.YtgceikecdedfcaaGreat.Pv
namespace Go.Proofs.YtgceikecdedfcaaGreat.Pv
open Go
section
theorem rQ {x : Nat} (hx : x < 18446744073709551616) : IntKind.u64.wrap ((BitVec.ofInt IntKind.u64.bits (x : Int) &&& BitVec.ofInt IntKind.u64.bits 4294967295).toNat : Int) = ((x % 4294967296 : Nat) : Int) := by
 have e : (BitVec.ofInt IntKind.u64.bits (x : Int) &&& BitVec.ofInt IntKind.u64.bits 4294967295).toNat = x % 4294967296 := by
  show (BitVec.ofInt 64 (x : Int) &&& BitVec.ofInt 64 ((4294967295 : Nat) : Int)).toNat = _
  rw [BitVec.ofInt_natCast, BitVec.ofInt_natCast, BitVec.toNat_and, BitVec.toNat_ofNat, BitVec.toNat_ofNat, EB (by omega : x < 2 ^ 64), EB (by omega : 4294967295 < 2 ^ 64)];exact Nat.and_two_pow_sub_one_eq_mod x 32
 rw [e];exact wU rfl (by omega) (by omega)
theorem tI {n : Nat} : IntKind.u64.wrap (n : Int) = ((n % 18446744073709551616 : Nat) : Int) := by
 simp [IntKind.wrap, IntKind.bits, IntKind.signed]
theorem nE (x y : Nat) (hx : x < 18446744073709551616) (hy : y < 18446744073709551616) : Ct P 157 [.c (nI .u64 x), .c (nI .u64 y)] [.c (nI .u64 (x * y / 18446744073709551616)), .c (nI .u64 (x * y % 18446744073709551616))] := by
 have q : x * y = (x / 4294967296) * (y / 4294967296) * 18446744073709551616 + (x / 4294967296) * (y % 4294967296) * 4294967296 + (x % 4294967296) * (y / 4294967296) * 4294967296 + (x % 4294967296) * (y % 4294967296) := by
  conv => lhs; rw [← Fa x 4294967296, ← Fa y 4294967296]
  simp only [Er, Eg];have e1 : 4294967296 * (x / 4294967296) * (4294967296 * (y / 4294967296)) = (x / 4294967296) * (y / 4294967296) * 18446744073709551616 := by
   rw [Nat.mul_mul_mul_comm, Ej (4294967296 * 4294967296)]
  have e2 : x % 4294967296 * (4294967296 * (y / 4294967296)) = (x % 4294967296) * (y / 4294967296) * 4294967296 := by rw [EX, Ej 4294967296]
  have e3 : 4294967296 * (x / 4294967296) * (y % 4294967296) = (x / 4294967296) * (y % 4294967296) * 4294967296 := by rw [Ee, Ej 4294967296]
  omega
 refine Ct.go aj aa (N := 51) Tryz.func157 rfl rfl rfl rfl ?_;refine X1 _ (rQ hx) ?_;refine .intro (by omega) (X1 ((x / 4294967296 : Nat) : Int) (fO (k := 32) (by decide)) (And.intro ⟨by omega, by omega⟩ ?_));refine X1 _ (rQ hy) ?_;refine .intro (by omega) (X1 ((y / 4294967296 : Nat) : Int) (fO (k := 32) (by decide)) (And.intro ⟨by omega, by omega⟩ ?_));have hx0 : x % 4294967296 < 4294967296 := by omega
 have hx1 : x / 4294967296 < 4294967296 := by omega
 have hy0 : y % 4294967296 < 4294967296 := by omega
 have hy1 : y / 4294967296 < 4294967296 := by omega
 generalize x % 4294967296 = x0 at *
 generalize x / 4294967296 = x1 at *
 generalize y % 4294967296 = y0 at *
 generalize y / 4294967296 = y1 at *
 have l00 : x0 * y0 ≤ 4294967295 * 4294967295 := E7 (by omega) (by omega);have l01 : x0 * y1 ≤ 4294967295 * 4294967295 := E7 (by omega) (by omega);have l10 : x1 * y0 ≤ 4294967295 * 4294967295 := E7 (by omega) (by omega);have l11 : x1 * y1 ≤ 4294967295 * 4294967295 := E7 (by omega) (by omega);refine X1 ((x0 * y0 : Nat) : Int) (wU (by simp) (by omega) (by omega)) ?_;refine X1 ((x1 * y0 : Nat) : Int) (wU (by simp) (by omega) (by omega)) ?_;refine .intro (by omega) (X1 ((x0 * y0 / 4294967296 : Nat) : Int) (fO (k := 32) (by decide)) (And.intro ⟨by omega, by omega⟩ ?_));obtain ⟨t, ht⟩ : ∃ t, t = x1 * y0 + x0 * y0 / 4294967296 := ⟨_, rfl⟩;refine X1 ((t : Nat) : Int) (wU (by rw [ht]; simp) (by omega) (by omega)) ?_;refine X1 _ (rQ (by omega)) ?_;refine .intro (by omega) (X1 ((t / 4294967296 : Nat) : Int) (fO (k := 32) (by decide)) (And.intro ⟨by omega, by omega⟩ ?_));refine X1 ((x0 * y1 : Nat) : Int) (wU (by simp) (by omega) (by omega)) ?_;obtain ⟨u, hu⟩ : ∃ u, u = t % 4294967296 + x0 * y1 := ⟨_, rfl⟩;refine X1 ((u : Nat) : Int) (wU (by rw [hu]; simp) (by omega) (by omega)) ?_;refine X1 ((x1 * y1 : Nat) : Int) (wU (by simp) (by omega) (by omega)) ?_;refine X1 ((x1 * y1 + t / 4294967296 : Nat) : Int) (wU (by simp) (by omega) (by omega)) ?_;refine .intro (by omega) (X1 ((u / 4294967296 : Nat) : Int) (fO (k := 32) (by decide)) (And.intro ⟨by omega, by omega⟩ ?_));refine X1 ((x1 * y1 + t / 4294967296 + u / 4294967296 : Nat) : Int) (wU (by simp) (by omega) (by omega)) ?_;refine X1 ((x * y % 18446744073709551616 : Nat) : Int) (by rw [← tI]; simp) ?_;exact ⟨trivial, r1 (iE (by rw [show x * y / 18446744073709551616 = x1 * y1 + t / 4294967296 + u / 4294967296 by omega])), r1 rfl, trivial⟩
theorem yF {a b k : Nat} (ha : (dg 18446744073709551616 a).length ≤ k) (hb : (dg 18446744073709551616 b).length ≤ k) : (dg 18446744073709551616 (a + b)).length ≤ k + 1 := by
 apply cv (by omega);have h1 := Ea (bF (B := 18446744073709551616) (by omega) a) (Eh (by omega) ha);have h2 := Ea (bF (B := 18446744073709551616) (by omega) b) (Eh (by omega) hb);rw [EI];omega
theorem mt (a0 b0 : Nat) (ha : (dg 18446744073709551616 a0).length ≤ 400000) (hb : (dg 18446744073709551616 b0).length ≤ 400000) : Ct P 100 [nV a0, nV b0] [nV (a0 + b0)] := by
 refine Ct.go aj aa (N := 59) Tryz.func100 rfl rfl rfl rfl ?_;refine X1 _ (tD a0 b0 (by omega) (by omega)) ?_;obtain ⟨a, hae⟩ : ∃ a, a = if blen a0 < blen b0 then b0 else a0 := ⟨_, rfl⟩
 obtain ⟨b, hbe⟩ : ∃ b, b = if blen a0 < blen b0 then a0 else b0 := ⟨_, rfl⟩
 rw [← hae, ← hbe];have hsum : a0 + b0 = a + b := by rw [hae, hbe]; split <;> omega
 have hla : (dg 18446744073709551616 a).length ≤ 400000 := by rw [hae]; split <;> assumption
 have hlb : (dg 18446744073709551616 b).length ≤ (dg 18446744073709551616 a).length := by
  apply cv (by omega);have h1 : blen b ≤ blen a := by rw [hae, hbe]; split <;> omega
  have h2 := ny a;rw [nv];exact Ea (dB b) (Eh (by omega) (by omega))
 rw [hsum];clear hae hbe hsum ha hb;refine .intro (by rw [ai]; omega) ?_;rw [ai];refine X1 (((dg 18446744073709551616 a).length + 1 : Nat) : Int) (wI (by simp) (by omega) (by omega)) ?_;refine ⟨by omega, by omega, by omega, .inl (by decide), ?_⟩;refine .intro (by rw [ai]; omega) ?_;rw [ai];refine au aj aa (G := Nat × List Nat × Nat) (fun (i, out, c) => i ≤ (dg 18446744073709551616 a).length ∧ out.length = (dg 18446744073709551616 a).length + 1 ∧ Dig 18446744073709551616 out ∧ c ≤ 1 ∧ val 18446744073709551616 ((dg 18446744073709551616 a).take i) + val 18446744073709551616 ((dg 18446744073709551616 b).take i) = val 18446744073709551616 (out.take i) + 18446744073709551616 ^ i * c)
  (fun (i, out, c) => [(2, .c (.ad 2 0)), (3, .c (.ad 3 0)), (4, .c (.ad 4 0)), (5, .c (.ow 19 1 ((dg 18446744073709551616 a).length + 1))), (6, .c (nI .u64 c)), (22, .c (nI .i64 (dg 18446744073709551616 a).length)), (23, .c (nI .i64 i))])
  (fun ((i, out, c) : Nat × List Nat × Nat) => [(2, .var [nSl .u64 (dg 18446744073709551616 a)]), (3, .var [nSl .u64 (dg 18446744073709551616 b)]), (4, .var [.sc (.slice none 0 0)]), (19, .row 1 (aF .u64 out))]) (fun (i, out, c) => (dg 18446744073709551616 a).length - i)
  (0, List.replicate ((dg 18446744073709551616 a).length + 1) 0, 0) ⟨by simp, by simp, fun x hx => by rw [EY hx]; omega, by simp, by simp [val]⟩
  ⟨rfl, rfl, rfl, owE (by omega), rfl, rfl, rfl, trivial⟩ ⟨rfl, rfl, rfl, aB (eV rfl), trivial⟩
  (G2 := List Nat × Nat) (fun (l, c) => Dig 18446744073709551616 l ∧ c ≤ 1 ∧ val 18446744073709551616 (l.take (dg 18446744073709551616 a).length) + 18446744073709551616 ^ (dg 18446744073709551616 a).length * c = a + b ∧ l.length = (dg 18446744073709551616 a).length + 1) (fun (l, c) => [(2, .c (.ad 2 0)), (4, .c (.ad 4 0)), (5, .c (.ow 19 1 ((dg 18446744073709551616 a).length + 1))), (6, .c (nI .u64 c))])
  (fun ((l, c) : List Nat × Nat) => [(2, .var [nSl .u64 (dg 18446744073709551616 a)]), (4, .var [.sc (.slice none 0 0)]), (19, .row 1 (aF .u64 l))]) (fun g hg => ?_) (fun g hg => ?_)
 ·obtain ⟨i, out, c⟩ := g;obtain ⟨h1, h2, h6, h3, h4⟩ := hg;refine ah (fun h5 => ?_) (fun h5 => ?_)
  ·have hx := (bz (B := 18446744073709551616) (by omega) a).getD (by omega) i;have hy := (bz (B := 18446744073709551616) (by omega) b).getD (by omega) i;have hA := aJ 18446744073709551616 (dg 18446744073709551616 a) i;have hB := aJ 18446744073709551616 (dg 18446744073709551616 b) i;generalize hxx : (dg 18446744073709551616 a).getD i 0 = x at hx hA;refine .intro (by rw [ai]; omega) ?_;rw [ai];refine ah (fun h7 => And.intro (by omega) (X1 _ (al rfl (by omega)) ?_)) (fun h7 => ?_)
   ·generalize hyy : (dg 18446744073709551616 b).getD i 0 = y at hy hB ⊢;refine .intro (by omega) (X1 _ (al rfl (by omega)) ?_);rw [hxx];refine X1 _ (d8 x y c hx (by omega) h3) ?_;refine .intro (by omega) (And.intro (by simp <;> omega) ?_);refine X1 _ (al rfl (by omega)) ?_;refine X1 ((i + 1 : Nat) : Int) (wI1 (by omega)) ?_;refine ⟨(i + 1, out.set i ((x + y + c) % 18446744073709551616), (x + y + c) / 18446744073709551616), ⟨by omega, by simp [h2], h6.set (by omega), by omega, ?_⟩, by show _ - (i + 1) < _ - i; omega, ⟨rfl, rfl, rfl, rfl, rfl, rfl, rfl, trivial⟩, ⟨rfl, rfl, rfl, aB nRow_set, trivial⟩⟩;have hst := dh 18446744073709551616 out (i := i) (v := (x + y + c) % 18446744073709551616) (by omega);rw [hst, hA, hB];have key : x + y + c = (x + y + c) % 18446744073709551616 + 18446744073709551616 * ((x + y + c) / 18446744073709551616) := by omega
    have k2 := congrArg (18446744073709551616 ^ i * ·) key;simp only [Er] at k2;rw [EI, Ee];omega
   ·have hyy : (dg 18446744073709551616 b).getD i 0 = 0 := by rw [DZ, Eo (by omega)]; rfl
    rw [hyy] at hB;refine .intro (by omega) (X1 _ (al rfl (by omega)) ?_);rw [hxx];refine X1 _ (d8 x 0 c hx (by omega) h3) ?_;refine .intro (by omega) (And.intro (by simp <;> omega) ?_);refine X1 _ (al rfl (by omega)) ?_;refine X1 ((i + 1 : Nat) : Int) (wI1 (by omega)) ?_;refine ⟨(i + 1, out.set i ((x + 0 + c) % 18446744073709551616), (x + 0 + c) / 18446744073709551616), ⟨by omega, by simp [h2], h6.set (by omega), by omega, ?_⟩, by show _ - (i + 1) < _ - i; omega, ⟨rfl, rfl, rfl, rfl, rfl, rfl, rfl, trivial⟩, ⟨rfl, rfl, rfl, aB nRow_set, trivial⟩⟩;have hst := dh 18446744073709551616 out (i := i) (v := (x + 0 + c) % 18446744073709551616) (by omega);rw [hst, hA, hB];have key : x + 0 + c = (x + 0 + c) % 18446744073709551616 + 18446744073709551616 * ((x + 0 + c) / 18446744073709551616) := by omega
    have k2 := congrArg (18446744073709551616 ^ i * ·) key;simp only [Er] at k2;rw [EI, Ee];omega
  ·have e : i = (dg 18446744073709551616 a).length := by omega
   subst e;refine ⟨(out, c), ⟨h6, h3, ?_, h2⟩, ⟨rfl, rfl, rfl, rfl, trivial⟩, ⟨rfl, rfl, rfl, trivial⟩⟩;rw [aW (D1 _), aW hlb, bl (by omega), bl (by omega)] at h4;exact h4.symm
 ·obtain ⟨l, c⟩ := g;obtain ⟨h1, h2, h3, h4⟩ := hg;refine .intro (by rw [ai]; omega) ?_;rw [ai];refine .intro (by omega) (And.intro (by omega) ?_);refine X1 _ (al rfl (by omega)) ?_;refine X2 .frz ?_;have hv := dh 18446744073709551616 l (i := (dg 18446744073709551616 a).length) (v := c) (by omega);rw [aW (by simp; omega), h3] at hv;have ht := d9 (l.set (dg 18446744073709551616 a).length c) (by simp; omega);rw [cS (by omega) (h1.set (by omega)), hv] at ht;refine X1 _ (show Ct P 113 [.c (.sl 1 ((aF .u64 l).set (dg 18446744073709551616 a).length [nI .u64 c]))] [nV (a + b)] by rw [nRow_set]; exact ht) ?_;exact ⟨trivial, rc rfl, trivial⟩
theorem cK {k : IntKind} {l : List Nat} {a n : Nat} (h0 : a = n) (h : n < l.length) : (aF k l)[a]? = some [nI k (l.getD n 0)] := by
 subst h0;simp [aF, h]
def am (t l : List Nat) (x lo : Nat) : Nat → List Nat × Nat
 | 0 => (t, 0)
 | i + 1 => ((am t l x lo i).1.set (lo + i) (((am t l x lo i).1.getD (lo + i) 0 + x * l.getD i 0 + (am t l x lo i).2) % 18446744073709551616), ((am t l x lo i).1.getD (lo + i) 0 + x * l.getD i 0 + (am t l x lo i).2) / 18446744073709551616)
theorem ga {t l : List Nat} {x lo : Nat} (ht : Dig 18446744073709551616 t) (hl : Dig 18446744073709551616 l) (hx : x < 18446744073709551616) : ∀ i, lo + i ≤ t.length →
  (am t l x lo i).1.length = t.length ∧ Dig 18446744073709551616 (am t l x lo i).1 ∧ (am t l x lo i).2 < 18446744073709551616 ∧ val 18446744073709551616 (am t l x lo i).1 + 18446744073709551616 ^ (lo + i) * (am t l x lo i).2 = val 18446744073709551616 t + 18446744073709551616 ^ lo * (x * val 18446744073709551616 (l.take i))
 | 0, _ => ⟨rfl, ht, by show 0 < 18446744073709551616; omega, by simp [am, val]⟩
 | i + 1, hi => by
  obtain ⟨h1, h2, h3, h4⟩ := ga (lo := lo) ht hl hx i (by omega);simp only [am];generalize (am t l x lo i).1 = s at *
  generalize (am t l x lo i).2 = c at *
  have hz := h2.getD (by omega) (lo + i);have hy := hl.getD (by omega) i;have hT := aJ 18446744073709551616 l i;have hset := fun v : Nat => fC (B := 18446744073709551616) (l := s) (i := lo + i) (x := v) (by omega)
  generalize s.getD (lo + i) 0 = z at *
  generalize l.getD i 0 = y at *
  have hxy : x * y ≤ 18446744073709551615 * 18446744073709551615 := E7 (by omega) (by omega);obtain ⟨v, hv⟩ : ∃ v, v = z + x * y + c := ⟨_, rfl⟩;rw [← hv];refine ⟨by simp [h1], h2.set (by omega), by omega, ?_⟩;have hs := hset (v % 18446744073709551616);have e1 : 18446744073709551616 ^ (lo + (i + 1)) * (v / 18446744073709551616) + 18446744073709551616 ^ (lo + i) * (v % 18446744073709551616) = 18446744073709551616 ^ (lo + i) * v := by
   rw [← E3, EI, Ee, ← Er];congr 1; omega
  have e2 : 18446744073709551616 ^ (lo + i) * v = 18446744073709551616 ^ (lo + i) * z + 18446744073709551616 ^ (lo + i) * (x * y) + 18446744073709551616 ^ (lo + i) * c := by rw [hv, Er, Er]
  have e3 : 18446744073709551616 ^ lo * (x * val 18446744073709551616 (l.take (i + 1))) = 18446744073709551616 ^ lo * (x * val 18446744073709551616 (l.take i)) + 18446744073709551616 ^ (lo + i) * (x * y) := by
   rw [hT, Er, Er, EW, Ee, EX x]
  omega
theorem uD {t l : List Nat} {x lo : Nat} (ht : Dig 18446744073709551616 t) (hl : Dig 18446744073709551616 l) (hx : x < 18446744073709551616) (hlen : lo + l.length ≤ t.length) (i : Nat) (hi : i ≤ l.length) :
  (am t l x lo i).1.length = t.length ∧ Dig 18446744073709551616 (am t l x lo i).1 ∧ (am t l x lo i).2 < 18446744073709551616 ∧ val 18446744073709551616 (am t l x lo i).1 + 18446744073709551616 ^ (lo + i) * (am t l x lo i).2 = val 18446744073709551616 t + 18446744073709551616 ^ lo * (x * val 18446744073709551616 (l.take i)) := ga (lo := lo) ht hl hx i (by omega)
theorem p7 {t l : List Nat} {lo : Nat} (ht : Dig 18446744073709551616 t) (hl : Dig 18446744073709551616 l) : ∀ i, lo + i ≤ t.length → (am t l 1 lo i).2 ≤ 1
 | 0, _ => FV _
 | i + 1, hi => by
  have h1 := p7 (lo := lo) ht hl i (by omega);obtain ⟨_, h2, _, _⟩ := ga (lo := lo) (x := 1) ht hl (by omega) i (by omega);have hz := h2.getD (by omega) (lo + i);have hy := hl.getD (by omega) i;simp only [am];omega
theorem vP (t l : List Nat) (x lo n : Nat) (ht : Dig 18446744073709551616 t) (hl : Dig 18446744073709551616 l) (hx : x < 18446744073709551616) (hlen : lo + n ≤ t.length) (hn : l.length ≤ n) (hb : t.length ≤ 1000000) :
  CtO P 112 [(1000000, some (.row 1 (aF .u64 t)))] [.c (.os 1000000 1 lo n), .c (nSl .u64 l), .c (nI .u64 x)] [(1000000, some (.row 1 (aF .u64 (am t l x lo l.length).1)))] [.c (nI .u64 (am t l x lo l.length).2)] := by
 refine Ct.io aj aa (N := 52) Tryz.func112 rfl rfl rfl rfl ?_;refine .intro (by rw [ai]; omega) ?_;rw [ai];refine au aj aa (fun i : Nat => i ≤ l.length) (fun i => [(0, .c (.os 1000000 1 lo n)), (2, .c (nI .u64 x)), (7, .c (nI .u64 (am t l x lo i).2)), (13, .c (nSl .u64 l)), (14, .c (nI .i64 l.length)), (15, .c (nI .i64 i))])
  (fun i => [(1000000, .row 1 (aF .u64 (am t l x lo i).1))]) (fun i => l.length - i) 0 (by omega) ⟨rfl, rfl, rfl, rfl, rfl, rfl, trivial⟩ ⟨rfl, trivial⟩
  (fun _ : Unit => True) (fun _ => [(7, .c (nI .u64 (am t l x lo l.length).2))]) (fun _ => [(1000000, .row 1 (aF .u64 (am t l x lo l.length).1))]) (fun i hi => ?_) (fun _ _ => ?_)
 ·refine ah (fun h5 => ?_) (fun h5 => ?_)
  ·obtain ⟨h1, h2, h3, h4⟩ := uD (lo := lo) ht hl hx (by omega) i hi;have hz := h2.getD (by omega) (lo + i);have hy := hl.getD (by omega) i;have hxy : x * l.getD i 0 ≤ 18446744073709551615 * 18446744073709551615 := E7 (by omega) (by omega);refine .intro (by omega) (X1 _ (al rfl (by omega)) ?_);refine X1 _ (nE x (l.getD i 0) hx hy) ?_;refine X1 _ (d8 _ _ 0 (by omega) h3 (by omega)) ?_;refine X1 ((x * l.getD i 0 / 18446744073709551616 + (x * l.getD i 0 % 18446744073709551616 + (am t l x lo i).2 + 0) / 18446744073709551616 : Nat) : Int) (wU (by simp) (by omega) (by omega)) ?_;refine .intro (by omega) (And.intro (by omega) ?_);refine X1 _ (cK (n := lo + i) (by omega) (by omega)) ?_;refine X1 _ (d8 _ _ 0 hz (by omega) (by omega)) ?_;refine .intro (by omega) (And.intro (by omega) ?_);refine X1 _ (cK (n := lo + i) (by omega) (by omega)) ?_;have hs : am t l x lo (i + 1) = ((am t l x lo i).1.set (lo + i) (((am t l x lo i).1.getD (lo + i) 0 + x * l.getD i 0 + (am t l x lo i).2) % 18446744073709551616), ((am t l x lo i).1.getD (lo + i) 0 + x * l.getD i 0 + (am t l x lo i).2) / 18446744073709551616) := rfl;have e1 : (am t l x lo (i + 1)).1 = (am t l x lo i).1.set (lo + i) (((am t l x lo i).1.getD (lo + i) 0 + (x * l.getD i 0 % 18446744073709551616 + (am t l x lo i).2 + 0) % 18446744073709551616 + 0) % 18446744073709551616) := by
    rw [hs]; show List.set _ _ _ = _; congr 1; omega
   have e2 : (am t l x lo (i + 1)).2 = x * l.getD i 0 / 18446744073709551616 + (x * l.getD i 0 % 18446744073709551616 + (am t l x lo i).2 + 0) / 18446744073709551616 + ((am t l x lo i).1.getD (lo + i) 0 + (x * l.getD i 0 % 18446744073709551616 + (am t l x lo i).2 + 0) % 18446744073709551616 + 0) / 18446744073709551616 := by
    rw [hs]; show (_ : Nat) / _ = _; omega
   refine X1 (((am t l x lo (i + 1)).2 : Nat) : Int) (wU (by rw [e2]; simp) (by omega) (by omega)) ?_;refine X1 ((i + 1 : Nat) : Int) (wI1 (by omega)) ?_;refine ⟨i + 1, by omega, by omega, ⟨rfl, rfl, rfl, rfl, rfl, rfl, trivial⟩, ⟨aB ?_, trivial⟩⟩;rw [e1, ← nRow_set];rfl
  ·have e : i = l.length := by omega
   subst e;exact ⟨(), trivial, ⟨rfl, trivial⟩, ⟨rfl, trivial⟩⟩
 ·exact ⟨trivial, SubO.of (l := [(1000000, .row 1 (aF .u64 (am t l x lo l.length).1))]) ⟨rfl, trivial⟩, r1 rfl, trivial⟩
theorem getD_set_ne {l : List Nat} {i j v : Nat} (h : i ≠ j) : (l.set i v).getD j 0 = l.getD j 0 := by
 rw [DZ, DZ, List.getElem?_set_ne h]
theorem p8 {t l : List Nat} {x lo : Nat} : ∀ {i j : Nat}, lo + i ≤ j → (am t l x lo i).1.getD j 0 = t.getD j 0
 | 0, j, _ => rfl
 | i + 1, j, h => by
  simp only [am];rw [getD_set_ne (by omega)];exact p8 (by omega)
theorem cU (a b : Nat) (ha : (dg 18446744073709551616 a).length ≤ 400000) (hb : (dg 18446744073709551616 b).length ≤ 400000) : Ct P 66 [nV a, nV b] [nV (a * b)] := by
 refine Ct.go aj aa (N := 41) Tryz.func66 rfl rfl rfl rfl ?_;refine .intro (by rw [ai]; omega) ?_;refine .intro (by rw [ai]; omega) ?_;rw [ai, ai];refine X1 (((dg 18446744073709551616 a).length + (dg 18446744073709551616 b).length : Nat) : Int) (wI (by simp) (by omega) (by omega)) ?_;refine ⟨by omega, by omega, by omega, .inl (by decide), ?_⟩;refine .intro (by rw [ai]; omega) ?_;rw [ai];have hA := bz (B := 18446744073709551616) (by omega) a;have hB := bz (B := 18446744073709551616) (by omega) b;have vA := bl (B := 18446744073709551616) (by omega) a;have vB := bl (B := 18446744073709551616) (by omega) b;refine au aj aa (G := Nat × List Nat) (fun (i, out) => i ≤ (dg 18446744073709551616 a).length ∧ out.length = (dg 18446744073709551616 a).length + (dg 18446744073709551616 b).length ∧ Dig 18446744073709551616 out ∧ (∀ j, i + (dg 18446744073709551616 b).length ≤ j → out.getD j 0 = 0) ∧ val 18446744073709551616 out = val 18446744073709551616 ((dg 18446744073709551616 a).take i) * b)
  (fun (i, out) => [(2, .c (.ad 2 0)), (3, .c (.ad 3 0)), (4, .c (.ad 4 0)), (5, .c (.ow 15 1 ((dg 18446744073709551616 a).length + (dg 18446744073709551616 b).length))), (17, .c (nSl .u64 (dg 18446744073709551616 a))), (18, .c (nI .i64 (dg 18446744073709551616 a).length)), (19, .c (nI .i64 i))])
  (fun ((i, out) : Nat × List Nat) => [(2, .var [nSl .u64 (dg 18446744073709551616 a)]), (3, .var [nSl .u64 (dg 18446744073709551616 b)]), (4, .var [.sc (.slice none 0 0)]), (15, .row 1 (aF .u64 out))]) (fun (i, out) => (dg 18446744073709551616 a).length - i)
  (0, List.replicate ((dg 18446744073709551616 a).length + (dg 18446744073709551616 b).length) 0) ⟨by simp, by simp, fun x hx => by rw [EY hx]; omega, fun j _ => by simp [DZ, Fs]; split <;> rfl, by simp [val, mj]⟩
  ⟨rfl, rfl, rfl, owE (by omega), rfl, rfl, rfl, trivial⟩ ⟨rfl, rfl, rfl, aB (eV rfl), trivial⟩
  (fun l : List Nat => Dig 18446744073709551616 l ∧ val 18446744073709551616 l = a * b ∧ l.length ≤ 1000000) (fun l => [(4, .c (.ad 4 0)), (5, .c (.ow 15 1 ((dg 18446744073709551616 a).length + (dg 18446744073709551616 b).length)))])
  (fun l => [(4, .var [.sc (.slice none 0 0)]), (15, .row 1 (aF .u64 l))]) (fun g hg => ?_) (fun l hl => ?_)
 ·obtain ⟨i, out⟩ := g;obtain ⟨h1, h2, h3, h4, h6⟩ := hg;refine ah (fun h5 => ?_) (fun h5 => ?_)
  ·have hx := hA.getD (by omega) i;have hT := aJ 18446744073709551616 (dg 18446744073709551616 a) i;refine .intro (by omega) (X1 _ (al rfl (by omega)) ?_);generalize (dg 18446744073709551616 a).getD i 0 = x at hx hT ⊢;refine .intro (by rw [ai]; omega) ?_;rw [ai];refine X1 ((i + (dg 18446744073709551616 b).length : Nat) : Int) (wI (by simp) (by omega) (by omega)) ?_;refine ⟨i, (dg 18446744073709551616 a).length + (dg 18446744073709551616 b).length, rfl, rfl, by omega, by omega, .inr ⟨by omega, ?_⟩⟩;refine X2 (.upd 15) ?_;refine ⟨_, _, vP out (dg 18446744073709551616 b) x i ((dg 18446744073709551616 a).length + (dg 18446744073709551616 b).length - i) h3 hB hx (by omega) (by omega) (by omega), ?_⟩;obtain ⟨g1, g2, g3, g4⟩ := uD (t := out) (l := dg 18446744073709551616 b) (x := x) (lo := i) h3 hB hx (by omega) (dg 18446744073709551616 b).length (by omega);have g5 : (am out (dg 18446744073709551616 b) x i (dg 18446744073709551616 b).length).1.getD (i + (dg 18446744073709551616 b).length) 0 = 0 := (p8 (by omega)).trans (h4 _ (by omega));have g6 : ∀ j, i + 1 + (dg 18446744073709551616 b).length ≤ j → (am out (dg 18446744073709551616 b) x i (dg 18446744073709551616 b).length).1.getD j 0 = 0 := fun j hj => (p8 (by omega)).trans (h4 _ (by omega))
   rw [aW (l := dg 18446744073709551616 b) (by omega), vB] at g4;generalize (am out (dg 18446744073709551616 b) x i (dg 18446744073709551616 b).length).1 = o2 at *
   generalize (am out (dg 18446744073709551616 b) x i (dg 18446744073709551616 b).length).2 = c at *
   refine .intro (by omega) (And.intro (by omega) ?_);refine X1 _ (al rfl (by omega)) ?_;refine .intro rfl ?_;refine X1 ((i + 1 : Nat) : Int) (wI1 (by omega)) ?_;have hs := fC (B := 18446744073709551616) (l := o2) (i := i + (dg 18446744073709551616 b).length) (x := c) (by omega);rw [g5] at hs;refine ⟨(i + 1, o2.set (i + (dg 18446744073709551616 b).length) c), ⟨by omega, by simp [g1, h2], g2.set g3, fun j hj => by rw [getD_set_ne (by omega)]; exact g6 j (by omega), ?_⟩, by show _ - (i + 1) < _ - i; omega, ⟨rfl, rfl, rfl, rfl, rfl, rfl, rfl, trivial⟩, ⟨rfl, rfl, rfl, aB nRow_set, trivial⟩⟩;rw [hT, Eg, Ee, ← h6];omega
  ·have e : i = (dg 18446744073709551616 a).length := by omega
   subst e;rw [aW (D1 _), vA] at h6;exact ⟨out, ⟨h3, h6, by omega⟩, ⟨rfl, rfl, trivial⟩, ⟨rfl, rfl, trivial⟩⟩
 ·obtain ⟨h1, h2, h3⟩ := hl;refine X2 .frz ?_;refine X1 _ (d9 l h3) ?_;rw [cS (by omega) h1, h2];exact ⟨trivial, rc rfl, trivial⟩
theorem tJ (t l : List Nat) (lo n : Nat) (ht : Dig 18446744073709551616 t) (hl : Dig 18446744073709551616 l) (hlen : lo + n ≤ t.length) (hn : l.length < n) (hb : t.length ≤ 1000000) :
  CtO P 156 [(1000000, some (.row 1 (aF .u64 t)))] [.c (.os 1000000 1 lo n), .c (nSl .u64 l)] [(1000000, some (.row 1 (aF .u64 (am t l 1 lo (l.length + 1)).1)))] [.c (.sc (.bool (decide (((am t l 1 lo (l.length + 1)).2 : Int) > 0))))] := by
 have stepE : ∀ i, (am t l 1 lo (i + 1)).1 = (am t l 1 lo i).1.set (lo + i) (((am t l 1 lo i).1.getD (lo + i) 0 + l.getD i 0 + (am t l 1 lo i).2) % 18446744073709551616) := fun i => by simp only [am, EK]
 have stepC : ∀ i, (am t l 1 lo (i + 1)).2 = ((am t l 1 lo i).1.getD (lo + i) 0 + l.getD i 0 + (am t l 1 lo i).2) / 18446744073709551616 := fun i => by simp only [am, EK]
 refine Ct.io aj aa (N := 45) Tryz.func156 rfl rfl rfl rfl ?_;refine .intro (by rw [ai]; omega) ?_;rw [ai];refine au aj aa (fun i : Nat => i ≤ l.length) (fun i => [(0, .c (.os 1000000 1 lo n)), (1, .c (nSl .u64 l)), (5, .c (nI .u64 (am t l 1 lo i).2)), (8, .c (nSl .u64 l)), (9, .c (nI .i64 l.length)), (10, .c (nI .i64 i))])
  (fun i => [(1000000, .row 1 (aF .u64 (am t l 1 lo i).1))]) (fun i => l.length - i) 0 (by omega) ⟨rfl, rfl, rfl, rfl, rfl, rfl, trivial⟩ ⟨rfl, trivial⟩
  (fun _ : Unit => True) (fun _ => [(0, .c (.os 1000000 1 lo n)), (1, .c (nSl .u64 l)), (5, .c (nI .u64 (am t l 1 lo l.length).2))]) (fun _ => [(1000000, .row 1 (aF .u64 (am t l 1 lo l.length).1))]) (fun i hi => ?_) (fun _ _ => ?_)
 ·refine ah (fun h5 => ?_) (fun h5 => ?_)
  ·obtain ⟨h1, h2, h3, h4⟩ := ga (lo := lo) (x := 1) ht hl (by omega) i (by omega);have h6 := p7 (lo := lo) ht hl i (by omega);have hz := h2.getD (by omega) (lo + i);have hy := hl.getD (by omega) i;refine .intro (by omega) (X1 _ (al rfl (by omega)) ?_);refine .intro (by omega) (And.intro (by omega) ?_);refine X1 _ (cK (n := lo + i) (by omega) (by omega)) ?_;refine X1 _ (d8 _ _ _ hz hy h6) ?_;refine .intro (by omega) (And.intro (by omega) ?_);refine X1 _ (cK (n := lo + i) (by omega) (by omega)) ?_;refine X1 ((i + 1 : Nat) : Int) (wI1 (by omega)) ?_;refine ⟨i + 1, by omega, by omega, ⟨rfl, rfl, iE (by rw [stepC]), rfl, rfl, rfl, trivial⟩, ⟨aB ?_, trivial⟩⟩;rw [stepE, ← nRow_set];rfl
  ·have e : i = l.length := by omega
   subst e;exact ⟨(), trivial, ⟨rfl, rfl, rfl, trivial⟩, ⟨rfl, trivial⟩⟩
 ·obtain ⟨h1, h2, h3, h4⟩ := ga (lo := lo) (x := 1) ht hl (by omega) l.length (by omega);have h6 := p7 (lo := lo) ht hl l.length (by omega);have hz := h2.getD (by omega) (lo + l.length);have hy : l.getD l.length 0 = 0 := by rw [DZ, Eo (by omega)]; rfl
  refine .intro (by rw [ai]; omega) ?_;refine .intro (by rw [ai]; omega) ?_;rw [ai];refine .intro (by omega) (And.intro (by omega) ?_);refine X1 _ (cK (n := lo + l.length) (by omega) (by omega)) ?_;refine X1 _ (d8 _ 0 _ hz (by omega) h6) ?_;refine .intro (by omega) (And.intro (by omega) ?_);refine X1 _ (cK (n := lo + l.length) (by omega) (by omega)) ?_;have e1 : (aF .u64 (am t l 1 lo l.length).1).set (lo + l.length) [nI .u64 (((am t l 1 lo l.length).1.getD (lo + l.length) 0 + 0 + (am t l 1 lo l.length).2) % 18446744073709551616)] = aF .u64 (am t l 1 lo (l.length + 1)).1 := by
   rw [nRow_set, stepE, hy]
  have e2 : (am t l 1 lo (l.length + 1)).2 = ((am t l 1 lo l.length).1.getD (lo + l.length) 0 + 0 + (am t l 1 lo l.length).2) / 18446744073709551616 := by rw [stepC, hy]
  rw [e2, ← e1];exact ⟨trivial, SubO.of (l := [(1000000, .row 1 _)]) ⟨rfl, trivial⟩, r1 rfl, trivial⟩
structure SM where
 s : List Nat
 c : Nat
 b : Nat
def sm (t l : List Nat) (x lo : Nat) : Nat → SM
 | 0 => ⟨t, 0, 0⟩
 | i + 1 => ⟨(sm t l x lo i).s.set (lo + i) (((sm t l x lo i).s.getD (lo + i) 0 + 18446744073709551616 - (x * l.getD i 0 + (sm t l x lo i).c) % 18446744073709551616 - (sm t l x lo i).b) % 18446744073709551616),
   (x * l.getD i 0 + (sm t l x lo i).c) / 18446744073709551616, if (sm t l x lo i).s.getD (lo + i) 0 < (x * l.getD i 0 + (sm t l x lo i).c) % 18446744073709551616 + (sm t l x lo i).b then 1 else 0⟩
theorem kr {t l : List Nat} {x lo : Nat} (ht : Dig 18446744073709551616 t) (hl : Dig 18446744073709551616 l) (hx : x < 18446744073709551616) : ∀ i, lo + i ≤ t.length →
  (sm t l x lo i).s.length = t.length ∧ Dig 18446744073709551616 (sm t l x lo i).s ∧ (sm t l x lo i).c < 18446744073709551616 ∧ (sm t l x lo i).b ≤ 1 ∧ val 18446744073709551616 (sm t l x lo i).s + 18446744073709551616 ^ lo * (x * val 18446744073709551616 (l.take i)) = val 18446744073709551616 t + 18446744073709551616 ^ (lo + i) * ((sm t l x lo i).c + (sm t l x lo i).b)
 | 0, _ => ⟨rfl, ht, by show 0 < 18446744073709551616; omega, FV _, by simp [sm, val]⟩
 | i + 1, hi => by
  obtain ⟨h1, h2, h3, h5, h4⟩ := kr (lo := lo) ht hl hx i (by omega);simp only [sm];generalize (sm t l x lo i).s = s at *
  generalize (sm t l x lo i).c = c at *
  generalize (sm t l x lo i).b = b at *
  have hz := h2.getD (by omega) (lo + i);have hy := hl.getD (by omega) i;have hT := aJ 18446744073709551616 l i;have hset := fun v : Nat => fC (B := 18446744073709551616) (l := s) (i := lo + i) (x := v) (by omega)
  generalize s.getD (lo + i) 0 = z at *
  generalize l.getD i 0 = y at *
  have hxy : x * y ≤ 18446744073709551615 * 18446744073709551615 := E7 (by omega) (by omega);obtain ⟨p, hp⟩ : ∃ p, p = x * y + c := ⟨_, rfl⟩;rw [← hp];refine ⟨by simp [h1], h2.set (by omega), by omega, by split <;> omega, ?_⟩;obtain ⟨r, hr⟩ : ∃ r, r = (z + 18446744073709551616 - p % 18446744073709551616 - b) % 18446744073709551616 := ⟨_, rfl⟩;obtain ⟨b', hb'⟩ : ∃ b', b' = if z < p % 18446744073709551616 + b then 1 else 0 := ⟨_, rfl⟩
  rw [← hr, ← hb'];have k1 : r + p + b = z + 18446744073709551616 * (p / 18446744073709551616 + b') := by
   rw [hr, hb']; split <;> omega
  have k2 := congrArg (18446744073709551616 ^ (lo + i) * ·) k1;simp only [Er] at k2;have hs := hset r;have e3 : 18446744073709551616 ^ lo * (x * val 18446744073709551616 (l.take (i + 1))) = 18446744073709551616 ^ lo * (x * val 18446744073709551616 (l.take i)) + 18446744073709551616 ^ (lo + i) * (x * y) := by
   rw [hT, Er, Er, EW, Ee, EX x]
  have e4 : 18446744073709551616 ^ (lo + i) * p = 18446744073709551616 ^ (lo + i) * (x * y) + 18446744073709551616 ^ (lo + i) * c := by rw [hp, Er]
  rw [← E3 lo i 1, EI, Ee, e3];simp only [Er] at h4 ⊢;omega
theorem vQ (t l : List Nat) (x lo n : Nat) (ht : Dig 18446744073709551616 t) (hl : Dig 18446744073709551616 l) (hx : x < 18446744073709551616) (hlen : lo + n ≤ t.length) (hn : l.length < n) (hb : t.length ≤ 1000000) :
  CtO P 155 [(1000000, some (.row 1 (aF .u64 t)))] [.c (.os 1000000 1 lo n), .c (nSl .u64 l), .c (nI .u64 x)] [(1000000, some (.row 1 (aF .u64 (sm t l x lo (l.length + 1)).s)))] [.c (.sc (.bool (decide (((sm t l x lo (l.length + 1)).b : Int) > 0))))] := by
 refine Ct.io aj aa (N := 68) Tryz.func155 rfl rfl rfl rfl ?_;refine .intro (by rw [ai]; omega) ?_;rw [ai];refine au aj aa (fun i : Nat => i ≤ l.length) (fun i => [(0, .c (.os 1000000 1 lo n)), (1, .c (nSl .u64 l)), (2, .c (nI .u64 x)), (7, .c (nI .u64 (sm t l x lo i).c)), (8, .c (nI .u64 (sm t l x lo i).b)), (15, .c (nSl .u64 l)), (16, .c (nI .i64 l.length)), (17, .c (nI .i64 i))])
  (fun i => [(1000000, .row 1 (aF .u64 (sm t l x lo i).s))]) (fun i => l.length - i) 0 (by omega) ⟨rfl, rfl, rfl, rfl, rfl, rfl, rfl, rfl, trivial⟩ ⟨rfl, trivial⟩
  (fun _ : Unit => True) (fun _ => [(0, .c (.os 1000000 1 lo n)), (1, .c (nSl .u64 l)), (7, .c (nI .u64 (sm t l x lo l.length).c)), (8, .c (nI .u64 (sm t l x lo l.length).b))]) (fun _ => [(1000000, .row 1 (aF .u64 (sm t l x lo l.length).s))]) (fun i hi => ?_) (fun _ _ => ?_)
 ·refine ah (fun h5 => ?_) (fun h5 => ?_)
  ·obtain ⟨h1, h2, h3, h6, h4⟩ := kr (lo := lo) ht hl hx i (by omega);have hz := h2.getD (by omega) (lo + i);have hy := hl.getD (by omega) i;have hxy : x * l.getD i 0 ≤ 18446744073709551615 * 18446744073709551615 := E7 (by omega) (by omega);have hs : sm t l x lo (i + 1) = ⟨(sm t l x lo i).s.set (lo + i) (((sm t l x lo i).s.getD (lo + i) 0 + 18446744073709551616 - (x * l.getD i 0 + (sm t l x lo i).c) % 18446744073709551616 - (sm t l x lo i).b) % 18446744073709551616),
    (x * l.getD i 0 + (sm t l x lo i).c) / 18446744073709551616, if (sm t l x lo i).s.getD (lo + i) 0 < (x * l.getD i 0 + (sm t l x lo i).c) % 18446744073709551616 + (sm t l x lo i).b then 1 else 0⟩ := rfl
   have em : (x * l.getD i 0 % 18446744073709551616 + (sm t l x lo i).c + 0) % 18446744073709551616 = (x * l.getD i 0 + (sm t l x lo i).c) % 18446744073709551616 := by omega
   refine .intro (by omega) (X1 _ (al rfl (by omega)) ?_);refine X1 _ (nE x (l.getD i 0) hx hy) ?_;refine X1 _ (d8 _ _ 0 (by omega) h3 (by omega)) ?_;rw [em];refine X1 (((sm t l x lo (i + 1)).c : Nat) : Int) (wU (by rw [hs]; show _ = (((x * l.getD i 0 + (sm t l x lo i).c) / 18446744073709551616 : Nat) : Int); omega) (by omega) (by rw [hs]; show (((x * l.getD i 0 + (sm t l x lo i).c) / 18446744073709551616 : Nat) : Int) ≤ _; omega)) ?_;refine .intro (by omega) (And.intro (by omega) ?_);refine X1 _ (cK (n := lo + i) (by omega) (by omega)) ?_;refine X1 _ (jY _ _ _ hz (by omega) h6) ?_;refine .intro (by omega) (And.intro (by omega) ?_);refine X1 _ (cK (n := lo + i) (by omega) (by omega)) ?_;refine X1 ((i + 1 : Nat) : Int) (wI1 (by omega)) ?_;refine ⟨i + 1, by omega, by omega, ⟨rfl, rfl, rfl, rfl, rfl, rfl, rfl, rfl, trivial⟩, ⟨aB ?_, trivial⟩⟩;rw [hs, ← nRow_set];rfl
  ·have e : i = l.length := by omega
   subst e;exact ⟨(), trivial, ⟨rfl, rfl, rfl, rfl, trivial⟩, ⟨rfl, trivial⟩⟩
 ·obtain ⟨h1, h2, h3, h6, h4⟩ := kr (lo := lo) ht hl hx l.length (by omega);have hz := h2.getD (by omega) (lo + l.length);have hy : l.getD l.length 0 = 0 := by rw [DZ, Eo (by omega)]; rfl
  refine .intro (by rw [ai]; omega) ?_;rw [ai];refine .intro (by omega) (And.intro (by omega) ?_);refine X1 _ (cK (n := lo + l.length) (by omega) (by omega)) ?_;refine X1 _ (jY _ _ _ hz h3 h6) ?_;refine .intro (by omega) (And.intro (by omega) ?_);refine X1 _ (cK (n := lo + l.length) (by omega) (by omega)) ?_;have ec : (x * l.getD l.length 0 + (sm t l x lo l.length).c) % 18446744073709551616 = (sm t l x lo l.length).c := by rw [hy, Fn, ES, EB h3]
  have e1 : aF .u64 (sm t l x lo (l.length + 1)).s = (aF .u64 (sm t l x lo l.length).s).set (lo + l.length) [nI .u64 (((sm t l x lo l.length).s.getD (lo + l.length) 0 + 18446744073709551616 - (sm t l x lo l.length).c - (sm t l x lo l.length).b) % 18446744073709551616)] := by
   rw [nRow_set]; simp only [sm, ec]
  have e2 : (sm t l x lo (l.length + 1)).b = if (sm t l x lo l.length).s.getD (lo + l.length) 0 < (sm t l x lo l.length).c + (sm t l x lo l.length).b then 1 else 0 := by simp only [sm, ec]
  rw [e1, e2];exact ⟨trivial, SubO.of (l := [(1000000, .row 1 _)]) ⟨rfl, trivial⟩, r1 rfl, trivial⟩
end
section
section
variable {u d1 d0 x q r : Nat}
theorem yG (h : q * d1 + r = u) (ht : q * d0 ≤ 4294967296 * r + x) (hp : 0 < d1 * 4294967296 + d0) (hq : (u * 4294967296 + x) / (d1 * 4294967296 + d0) ≤ q) : (u * 4294967296 + x) / (d1 * 4294967296 + d0) = q := by
 refine GS hq ((Gz hp).2 ?_);have e : q * (d1 * 4294967296 + d0) = q * d1 * 4294967296 + q * d0 := by rw [Er, Ee]
 omega
theorem BN (h : q * d1 + r = u) (ht : 4294967296 * r + x < q * d0) : (u * 4294967296 + x) / (d1 * 4294967296 + d0) < q := by
 apply E8;have e : (d1 * 4294967296 + d0) * q = q * d1 * 4294967296 + q * d0 := by rw [Ej, Er, Ee]
 omega
theorem BO (hu : u < d1 * 4294967296 + d0) (hx : x < 4294967296) : (u * 4294967296 + x) / (d1 * 4294967296 + d0) < 4294967296 := by
 apply E8;have : (u + 1) * 4294967296 ≤ (d1 * 4294967296 + d0) * 4294967296 := D8 _ hu;omega
theorem Dk (hd : 2147483648 ≤ d1) (hd0 : d0 < 4294967296) (hu : u < d1 * 4294967296 + d0) (hx : x < 4294967296) :
  u / d1 * d1 + u % d1 = u ∧ (u * 4294967296 + x) / (d1 * 4294967296 + d0) ≤ u / d1 ∧ u / d1 ≤ 4294967297 ∧ u % d1 < d1 := by
 have h0 := Fa u d1;have hm := E6 u (show 0 < d1 by omega);refine ⟨by rw [Ej]; exact h0, ?_, ?_, hm⟩
 ·refine Nat.le_of_lt_succ (E8 ?_);have e : (d1 * 4294967296 + d0) * (u / d1 + 1) = d1 * (u / d1) * 4294967296 + d1 * 4294967296 + d0 * (u / d1 + 1) := by
   rw [Eg, Ee, Ej 4294967296, ← Ee, Er, Fg, Eg]
  show u * 4294967296 + x < (d1 * 4294967296 + d0) * (u / d1 + 1)
  omega
 ·have h1 : d0 < d1 * 2 := by omega
  have e : d1 * (4294967296 + 2) = d1 * 4294967296 + d1 * 2 := Er _ _ _;have h2 : u < d1 * (4294967296 + 2) := by rw [e]; exact Nat.lt_trans hu (Nat.add_lt_add_left h1 _)
  have h3 : u / d1 < 4294967296 + 2 := E8 h2;clear h2 e;omega
end
theorem mu {u d1 d0 x q r T : Nat} (hd0 : d0 < 4294967296) (hp : 0 < d1 * 4294967296 + d0) (hT : T = (u * 4294967296 + x) / (d1 * 4294967296 + d0)) (h : q * d1 + r = u) (hq : q ≤ 4294967297) (ht : T < q) :
  (q - 1) * d1 + (r + d1) = u ∧ (4294967296 ≤ r + d1 → T = q - 1) := by
 obtain ⟨p, rfl⟩ : ∃ p, q = p + 1 := ⟨q - 1, by omega⟩;rw [Eg, EK] at h;rw [Fo];have e : p * d1 + (r + d1) = u := by omega
 refine ⟨e, fun hr => ?_⟩;rw [hT];refine yG e ?_ hp (by omega);have h1 : p * d0 ≤ 4294967296 * d0 := D8 _ (by omega);have h2 : 4294967296 * d0 ≤ 4294967296 * (r + d1) := ET _ (by omega);omega
theorem wE (n : Int) : IntKind.u64.wrap n = n % 18446744073709551616 := by simp [IntKind.wrap, IntKind.bits, IntKind.signed]
theorem yH {u x q y r : Nat} (h : u * 4294967296 + x = q * y + r) (hr : r < 18446744073709551616) : IntKind.u64.wrap (IntKind.u64.wrap (IntKind.u64.wrap ((u : Int) * 4294967296) + (x : Int)) - IntKind.u64.wrap ((q : Int) * (y : Int))) = (r : Int) := by
 rw [← GK q y, wE, wE, wE, wE];omega
theorem orU {x y : Nat} (hx : x < 18446744073709551616) (hy : y < 18446744073709551616) : IntKind.u64.wrap ((BitVec.ofInt IntKind.u64.bits (x : Int) ||| BitVec.ofInt IntKind.u64.bits (y : Int)).toNat : Int) = ((x ||| y : Nat) : Int) := by
 have e : (BitVec.ofInt IntKind.u64.bits (x : Int) ||| BitVec.ofInt IntKind.u64.bits (y : Int)).toNat = x ||| y := by
  show (BitVec.ofInt 64 (x : Int) ||| BitVec.ofInt 64 (y : Int)).toNat = _
  rw [BitVec.ofInt_natCast, BitVec.ofInt_natCast, BitVec.toNat_or, BitVec.toNat_ofNat, BitVec.toNat_ofNat, EB (by omega : x < 2 ^ 64), EB (by omega : y < 2 ^ 64)]
 have h := Nat.or_lt_two_pow (x := x) (y := y) (n := 64) (by omega) (by omega);rw [e, tI, EB];simpa using h
theorem inU {n : Nat} (h : n ≤ 18446744073709551615) : inR .u64 (n : Int) := ⟨Gq n, G0.2 h⟩
theorem tK {x k : Nat} (h : k ≤ 64) : IntKind.u64.wrap ((x : Int) * 2 ^ min ((k : Nat) : Int).toNat IntKind.u64.bits) = ((x * 2 ^ k % 18446744073709551616 : Nat) : Int) := by
 show IntKind.u64.wrap ((x : Int) * 2 ^ min ((k : Nat) : Int).toNat 64) = _
 rw [EC, Fw h, ← tI];simp
theorem Ck {u x1 x0 y a b c d : Nat} (hy : 0 < y) (e1 : y * a + b = u * 4294967296 + x1) (hc : (b * 4294967296 + x0) / y = c) (hd : (b * 4294967296 + x0) % y = d) : (u * 18446744073709551616 + (x1 * 4294967296 + x0)) / y = a * 4294967296 + c ∧
  (u * 18446744073709551616 + (x1 * 4294967296 + x0)) % y = d := by
 have e : u * 18446744073709551616 + (x1 * 4294967296 + x0) = b * 4294967296 + x0 + y * (a * 4294967296) := by rw [← Ee]; omega
 rw [e, Gl _ _ hy, FT, hc, hd];exact ⟨Gn _ _, rfl⟩
theorem Dl {hi lo y s : Nat} (hlo : lo < 18446744073709551616) (hhi : hi < y) (hy : y < 2 ^ (64 - s)) (hs : s ≤ 64) :
  hi * 2 ^ s < 18446744073709551616 ∧ (hi * 2 ^ s ||| lo / 2 ^ (64 - s)) = hi * 2 ^ s + lo / 2 ^ (64 - s) ∧ (hi * 2 ^ s + lo / 2 ^ (64 - s)) * 18446744073709551616 + lo * 2 ^ s % 18446744073709551616 = (hi * 18446744073709551616 + lo) * 2 ^ s ∧ hi * 2 ^ s + lo / 2 ^ (64 - s) < y * 2 ^ s ∧ y * 2 ^ s < 18446744073709551616 := by
 have e64 : 2 ^ s * 2 ^ (64 - s) = 18446744073709551616 := by rw [← EW, show s + (64 - s) = 64 by omega]
 have hp : 0 < 2 ^ s := ER s;have hp2 : 0 < 2 ^ (64 - s) := ER _;generalize 2 ^ (64 - s) = b at *
 have hq : lo / b < 2 ^ s := E8 (by rw [Ej, e64]; exact hlo);have hor : (hi * 2 ^ s ||| lo / b) = hi * 2 ^ s + lo / b := by
  rw [Ej]; exact (Nat.two_pow_add_eq_or_of_lt hq hi).symm
 rw [hor];generalize 2 ^ s = a at *
 have h1 : (hi + 1) * a ≤ y * a := D8 _ hhi;rw [Eg, EK] at h1;have h2 : (y + 1) * a ≤ b * a := D8 _ hy;rw [Ej b, e64, Eg, EK] at h2;have h3 : lo * a % 18446744073709551616 = lo % b * a := by
  have hlt : lo % b * a < 18446744073709551616 := by
   rw [← e64, Ej a]; exact Fq (E6 _ hp2) hp
  have : lo * a = lo % b * a + 18446744073709551616 * (lo / b) := by
   conv => lhs; rw [← Fa lo b]
   rw [Eg, ← e64, Ej b, Ee, Ej b, Ej (lo / b)];omega
  rw [this, FT, EB hlt]
 have h4 : lo * a = lo % b * a + 18446744073709551616 * (lo / b) := by
  conv => lhs; rw [← Fa lo b]
  rw [Eg, ← e64, Ej b, Ee, Ej b, Ej (lo / b)];omega
 refine ⟨by omega, rfl, ?_, by omega, by omega⟩;rw [h3, Eg (hi * 18446744073709551616), Nat.mul_right_comm];omega
theorem rS (hi lo y : Nat) (hhi : hi < y) (hlo : lo < 18446744073709551616) (hy : y < 18446744073709551616) : Ct P 181 [.c (nI .u64 hi), .c (nI .u64 lo), .c (nI .u64 y)] [.c (nI .u64 ((hi * 18446744073709551616 + lo) / y)), .c (nI .u64 ((hi * 18446744073709551616 + lo) % y))] := by
 refine Ct.go aj aa (N := 135) Tryz.func181 rfl rfl rfl rfl ?_;refine aV (fun h => ?_) (fun _ => ?_)
 ·omega
 refine ah (fun h => ?_) (fun _ => ?_)
 ·omega
 refine aV (fun h0 => ?_) (fun h0 => ?_)
 ·have e0 : hi = 0 := by omega
  subst e0;rw [GR, ES];have hl := Fp lo y;have hm := E6 lo hhi;refine .intro (by omega) (X1 ((lo / y : Nat) : Int) (jW rfl) (And.intro (inU (by omega)) ?_));refine .intro (by omega) (X1 ((lo % y : Nat) : Int) (lU rfl) (And.intro (inU (by omega)) ?_));refine .intro rfl ?_;exact ⟨trivial, r1 rfl, r1 rfl, trivial⟩
 ·have hbl := eb (n := y) (k := 64) (by omega);obtain ⟨s, hs⟩ : ∃ s, s = 64 - blen y := ⟨_, rfl⟩;have hy2 : y < 2 ^ (64 - s) := by rw [hs, show 64 - (64 - blen y) = blen y by omega]; exact dB y
  obtain ⟨hs1, hs2, hs3, hs4, hs5⟩ := Dl hlo hhi hy2 (by omega);have htop : 9223372036854775808 ≤ y * 2 ^ s := by
   have h1 := mo (n := y) (by omega);have h2 : blen y ≠ 0 := fun h => by have := dB y; rw [h] at this; omega
   have h3 := D8 (2 ^ s) h1;rw [← EW, show blen y - 1 + s = 63 by omega] at h3;omega
  have hps := ER s;have hq : (hi * 18446744073709551616 + lo) / y = (hi * 18446744073709551616 + lo) * 2 ^ s / (y * 2 ^ s) := (Nat.mul_div_mul_right _ _ hps).symm;have hr : (hi * 18446744073709551616 + lo) % y = (hi * 18446744073709551616 + lo) * 2 ^ s % (y * 2 ^ s) / 2 ^ s := by rw [Nat.mul_mod_mul_right, Nat.mul_div_cancel _ hps]
  rw [hq, hr, ← hs3];clear hq hr hs3;obtain ⟨Y, hY⟩ : ∃ Y, Y = y * 2 ^ s := ⟨_, rfl⟩;obtain ⟨U, hU⟩ : ∃ U, U = hi * 2 ^ s + lo / 2 ^ (64 - s) := ⟨_, rfl⟩;obtain ⟨L, hL⟩ : ∃ L, L = lo * 2 ^ s % 18446744073709551616 := ⟨_, rfl⟩;have hLl : L < 18446744073709551616 := by rw [hL]; exact E6 _ (by decide)
  rw [← hY, ← hU, ← hL];rw [← hY, ← hU] at hs4;rw [← hY] at hs5 htop;refine X1 _ (uy y hy) ?_;refine X1 ((s : Nat) : Int) (wU (by omega) (by omega) (by omega)) ?_;refine .intro (by omega) (X1 ((Y : Nat) : Int) (by rw [tK (by omega), ← hY, EB hs5]) ?_);obtain ⟨d1, hd1⟩ : ∃ d, d = Y / 4294967296 := ⟨_, rfl⟩;obtain ⟨d0, hd0⟩ : ∃ d, d = Y % 4294967296 := ⟨_, rfl⟩;obtain ⟨x1, hx1⟩ : ∃ d, d = L / 4294967296 := ⟨_, rfl⟩;obtain ⟨x0, hx0⟩ : ∃ d, d = L % 4294967296 := ⟨_, rfl⟩;have hYd : Y = d1 * 4294967296 + d0 := by omega
  have hLx : L = x1 * 4294967296 + x0 := by omega
  refine .intro (by omega) (X1 ((d1 : Nat) : Int) (by rw [hd1]; exact fO (k := 32) (by decide)) (And.intro (inU (by omega)) ?_));refine X1 ((d0 : Nat) : Int) (by rw [hd0]; exact rQ hs5) ?_;have hle : lo / 2 ^ (64 - s) ≤ lo := Fp _ _;refine .intro (by omega) (X1 ((hi * 2 ^ s : Nat) : Int) (by rw [tK (by omega), EB hs1]) ?_);refine X1 ((64 - s : Nat) : Int) (wU (by omega) (by omega) (by omega)) ?_;refine .intro (by omega) (X1 ((lo / 2 ^ (64 - s) : Nat) : Int) (fO (k := 64 - s) (by omega)) (And.intro (inU (by omega)) ?_));refine X1 ((U : Nat) : Int) (by rw [orU hs1 (by omega), hs2, hU]) ?_;refine .intro (by omega) (X1 ((L : Nat) : Int) (by rw [tK (by omega), hL]) ?_);refine .intro (by omega) (X1 ((x1 : Nat) : Int) (by rw [hx1]; exact fO (k := 32) (by decide)) (And.intro (inU (by omega)) ?_));refine X1 ((x0 : Nat) : Int) (by rw [hx0]; exact rQ hLl) ?_;have hd1' : 2147483648 ≤ d1 := by omega
  have hd0' : d0 < 4294967296 := by omega
  have hx1' : x1 < 4294967296 := by omega
  have hx0' : x0 < 4294967296 := by omega
  rw [hYd] at hs4;obtain ⟨g1, g2, g3, g4⟩ := Dk hd1' hd0' hs4 hx1';have hT := BO hs4 hx1';have hUl : U / d1 * d1 ≤ U := by omega
  refine .intro (by omega) (X1 ((U / d1 : Nat) : Int) (jW rfl) (And.intro (inU (by omega)) ?_));refine X1 ((U / d1 * d1 : Nat) : Int) (by rw [← GK, tI, EB (by omega)]) ?_;refine X1 ((U % d1 : Nat) : Int) (wU (by omega) (Gq _) (by omega)) ?_;have hY0 : 0 < Y := by omega
  obtain ⟨T, hT'⟩ : ∃ T, T = (U * 4294967296 + x1) / Y := ⟨_, rfl⟩;obtain ⟨R, hR⟩ : ∃ R, R = (U * 4294967296 + x1) % Y := ⟨_, rfl⟩;rw [← hYd, ← hT'] at g2 hT;have hTd : T = (U * 4294967296 + x1) / (d1 * 4294967296 + d0) := by rw [hT', hYd]
  have hRl : R < Y := by rw [hR]; exact E6 _ hY0
  refine au aj aa (G := Nat × Nat) (fun (q, r) => q * d1 + r = U ∧ T ≤ q ∧ q ≤ 4294967297 ∧ r < 4294967296)
   (fun (q, r) => [(2, .c (nI .u64 Y)), (8, .c (nI .u64 s)), (9, .c (nI .u64 d1)), (10, .c (nI .u64 d0)), (11, .c (nI .u64 U)), (13, .c (nI .u64 x1)), (14, .c (nI .u64 x0)), (15, .c (nI .u64 q)), (16, .c (nI .u64 r))]) (fun _ => []) (fun (q, _) => q)
   (U / d1, U % d1) ⟨g1, g2, g3, by omega⟩ ⟨rfl, rfl, rfl, rfl, rfl, rfl, rfl, rfl, rfl, trivial⟩ trivial
   (fun _ : Unit => True) (fun _ => [(2, .c (nI .u64 Y)), (8, .c (nI .u64 s)), (9, .c (nI .u64 d1)), (10, .c (nI .u64 d0)), (11, .c (nI .u64 U)), (13, .c (nI .u64 x1)), (14, .c (nI .u64 x0)), (15, .c (nI .u64 T))]) (fun _ => []) (fun (q, r) hi => ?_) (fun _ _ => ?_)
  ·obtain ⟨k1, k2, k3, k4⟩ := hi;refine ah (fun h1 => ?_) (fun h1 => ?_)
   ·have hlt : T < q := by omega
    obtain ⟨m1, m2⟩ := mu hd0' (by omega) hTd k1 k3 hlt;refine X1 ((q - 1 : Nat) : Int) (wU (by omega) (by omega) (by omega)) ?_;refine X1 ((r + d1 : Nat) : Int) (wU (by omega) (by omega) (by omega)) ?_;refine ah (fun h2 => ?_) (fun h2 => ?_)
    ·exact ⟨(), trivial, ⟨rfl, rfl, rfl, rfl, rfl, rfl, rfl, iE (by rw [m2 (by omega)]), trivial⟩, trivial⟩
    ·exact ⟨(q - 1, r + d1), ⟨m1, by omega, by omega, by omega⟩, by show q - 1 < q; omega, ⟨rfl, rfl, rfl, rfl, rfl, rfl, rfl, rfl, rfl, trivial⟩, trivial⟩
   ·have hqd : q * d0 ≤ 4294967295 * 4294967295 := E7 (by omega) (by omega);refine X1 ((q * d0 : Nat) : Int) (by rw [← GK, tI, EB (by omega)]) ?_;refine X1 ((4294967296 * r : Nat) : Int) (wU (by omega) (by omega) (by omega)) ?_;refine X1 ((4294967296 * r + x1 : Nat) : Int) (wU (by omega) (by omega) (by omega)) ?_;refine ah (fun h3 => ?_) (fun h3 => ?_)
    ·have hlt : T < q := by rw [hTd]; exact BN k1 (GA.1 h3)
     obtain ⟨m1, m2⟩ := mu hd0' (by omega) hTd k1 k3 hlt;refine X1 ((q - 1 : Nat) : Int) (wU (by omega) (by omega) (by omega)) ?_;refine X1 ((r + d1 : Nat) : Int) (wU (by omega) (by omega) (by omega)) ?_;refine ah (fun h2 => ?_) (fun h2 => ?_)
     ·exact ⟨(), trivial, ⟨rfl, rfl, rfl, rfl, rfl, rfl, rfl, iE (by rw [m2 (by omega)]), trivial⟩, trivial⟩
     ·exact ⟨(q - 1, r + d1), ⟨m1, by omega, by omega, by omega⟩, by show q - 1 < q; omega, ⟨rfl, rfl, rfl, rfl, rfl, rfl, rfl, rfl, rfl, trivial⟩, trivial⟩
    ·have he : T = q := by rw [hTd]; exact yG k1 (by have := fun h => h3 (GA.2 h); omega) (by omega) (by rw [← hTd]; exact k2)
     exact ⟨(), trivial, ⟨rfl, rfl, rfl, rfl, rfl, rfl, rfl, iE (by rw [he]), trivial⟩, trivial⟩
  ·have hUm : U * 4294967296 + x1 = T * Y + R := by
    have := Fa (U * 4294967296 + x1) Y;rw [← hT', ← hR, Ej] at this;exact this.symm
   refine X1 _ rfl ?_;refine X1 _ rfl ?_;refine X1 _ rfl ?_;refine X1 ((R : Nat) : Int) (yH hUm (by omega)) ?_;have hs4' := hRl;rw [hYd] at hs4';obtain ⟨f1, f2, f3, f4⟩ := Dk hd1' hd0' hs4' hx0';have hT2 := BO hs4' hx0';have hUl2 : R / d1 * d1 ≤ R := by omega
   refine .intro (by omega) (X1 ((R / d1 : Nat) : Int) (jW rfl) (And.intro (inU (by omega)) ?_));refine X1 ((R / d1 * d1 : Nat) : Int) (by rw [← GK, tI, EB (by omega)]) ?_;refine X1 ((R % d1 : Nat) : Int) (wU (by omega) (Gq _) (by omega)) ?_;obtain ⟨T2, hT2'⟩ : ∃ T, T = (R * 4294967296 + x0) / Y := ⟨_, rfl⟩;obtain ⟨R2, hR2⟩ : ∃ T, T = (R * 4294967296 + x0) % Y := ⟨_, rfl⟩;rw [← hYd, ← hT2'] at f2 hT2;have hT2d : T2 = (R * 4294967296 + x0) / (d1 * 4294967296 + d0) := by rw [hT2', hYd]
   have hR2l : R2 < Y := by rw [hR2]; exact E6 _ hY0
   refine au aj aa (G := Nat × Nat) (fun (q, r) => q * d1 + r = R ∧ T2 ≤ q ∧ q ≤ 4294967297 ∧ r < 4294967296)
    (fun (q, r) => [(2, .c (nI .u64 Y)), (8, .c (nI .u64 s)), (9, .c (nI .u64 d1)), (10, .c (nI .u64 d0)), (14, .c (nI .u64 x0)), (15, .c (nI .u64 T)), (17, .c (nI .u64 R)), (18, .c (nI .u64 q)), (16, .c (nI .u64 r))]) (fun _ => []) (fun (q, _) => q)
    (R / d1, R % d1) ⟨f1, f2, f3, by omega⟩ ⟨rfl, rfl, rfl, rfl, rfl, rfl, rfl, rfl, rfl, trivial⟩ trivial
    (fun _ : Unit => True) (fun _ => [(2, .c (nI .u64 Y)), (8, .c (nI .u64 s)), (14, .c (nI .u64 x0)), (15, .c (nI .u64 T)), (17, .c (nI .u64 R)), (18, .c (nI .u64 T2))]) (fun _ => []) (fun (q, r) hi => ?_) (fun _ _ => ?_)
   ·obtain ⟨k1, k2, k3, k4⟩ := hi;refine ah (fun h1 => ?_) (fun h1 => ?_)
    ·have hlt : T2 < q := by omega
     obtain ⟨m1, m2⟩ := mu hd0' (by omega) hT2d k1 k3 hlt;refine X1 ((q - 1 : Nat) : Int) (wU (by omega) (by omega) (by omega)) ?_;refine X1 ((r + d1 : Nat) : Int) (wU (by omega) (by omega) (by omega)) ?_;refine ah (fun h2 => ?_) (fun h2 => ?_)
     ·exact ⟨(), trivial, ⟨rfl, rfl, rfl, rfl, rfl, iE (by rw [m2 (by omega)]), trivial⟩, trivial⟩
     ·exact ⟨(q - 1, r + d1), ⟨m1, by omega, by omega, by omega⟩, by show q - 1 < q; omega, ⟨rfl, rfl, rfl, rfl, rfl, rfl, rfl, rfl, rfl, trivial⟩, trivial⟩
    ·have hqd : q * d0 ≤ 4294967295 * 4294967295 := E7 (by omega) (by omega);refine X1 ((q * d0 : Nat) : Int) (by rw [← GK, tI, EB (by omega)]) ?_;refine X1 ((4294967296 * r : Nat) : Int) (wU (by omega) (by omega) (by omega)) ?_;refine X1 ((4294967296 * r + x0 : Nat) : Int) (wU (by omega) (by omega) (by omega)) ?_;refine ah (fun h3 => ?_) (fun h3 => ?_)
     ·have hlt : T2 < q := by rw [hT2d]; exact BN k1 (GA.1 h3)
      obtain ⟨m1, m2⟩ := mu hd0' (by omega) hT2d k1 k3 hlt;refine X1 ((q - 1 : Nat) : Int) (wU (by omega) (by omega) (by omega)) ?_;refine X1 ((r + d1 : Nat) : Int) (wU (by omega) (by omega) (by omega)) ?_;refine ah (fun h2 => ?_) (fun h2 => ?_)
      ·exact ⟨(), trivial, ⟨rfl, rfl, rfl, rfl, rfl, iE (by rw [m2 (by omega)]), trivial⟩, trivial⟩
      ·exact ⟨(q - 1, r + d1), ⟨m1, by omega, by omega, by omega⟩, by show q - 1 < q; omega, ⟨rfl, rfl, rfl, rfl, rfl, rfl, rfl, rfl, rfl, trivial⟩, trivial⟩
     ·have he : T2 = q := by rw [hT2d]; exact yG k1 (by have := fun h => h3 (GA.2 h); omega) (by omega) (by rw [← hT2d]; exact k2)
      exact ⟨(), trivial, ⟨rfl, rfl, rfl, rfl, rfl, iE (by rw [he]), trivial⟩, trivial⟩
   ·have hRm : R * 4294967296 + x0 = T2 * Y + R2 := by
     have := Fa (R * 4294967296 + x0) Y;rw [← hT2', ← hR2, Ej] at this;exact this.symm
    obtain ⟨z1, z2⟩ := Ck (u := U) (x1 := x1) (x0 := x0) hY0 (by rw [Ej, ← hUm]) hT2'.symm hR2.symm;refine X1 ((T * 4294967296 : Nat) : Int) (wU (by omega) (by omega) (by omega)) ?_;refine X1 ((T * 4294967296 + T2 : Nat) : Int) (wU (by omega) (by omega) (by omega)) ?_;refine X1 _ rfl ?_;refine X1 _ rfl ?_;refine X1 _ rfl ?_;refine X1 ((R2 : Nat) : Int) (yH hRm (by omega)) ?_;have hle2 : R2 / 2 ^ s ≤ R2 := Fp _ _;refine .intro (by omega) (X1 ((R2 / 2 ^ s : Nat) : Int) (fO (k := s) (by omega)) (And.intro (inU (by omega)) ?_));rw [hLx];exact ⟨trivial, r1 (iE (by rw [z1])), r1 (iE (by rw [z2])), trivial⟩
end
section
theorem dx (B : Nat) {l : List Nat} {i : Nat} (h : i < l.length) : val B (l.drop i) = l.getD i 0 + B * val B (l.drop (i + 1)) := by
 rw [Ew h, val, DZ, Em h];rfl
theorem ku (B : Nat) {l : List Nat} {i x : Nat} (h : i < l.length) : val B ((l.set i x).drop i) = x + B * val B (l.drop (i + 1)) := by
 rw [dx B (by simpa using h)];congr 1
 ·simp [DZ, h]
 ·rw [List.drop_set_of_lt (by omega)]
theorem uE {a d q r : Nat} (h : a = d * q + r) (hr : r < d) : q = a / d ∧ r = a % d := by
 subst h;rw [Nat.mul_add_div (by omega), GQ, FE hr, EB hr];exact ⟨rfl, rfl⟩
theorem vR (a d : Nat) (hd : 0 < d) (hd2 : d < 18446744073709551616) (ha : (dg 18446744073709551616 a).length ≤ 1000000) : Ct P 152 [nV a, .c (nI .u64 d)] [nV (a / d), .c (nI .u64 (a % d))] := by
 have hA := bz (B := 18446744073709551616) (by omega) a;have vA := bl (B := 18446744073709551616) (by omega) a;refine Ct.go aj aa (N := 38) Tryz.func152 rfl rfl rfl rfl ?_;refine .intro (by rw [ai]; omega) ?_;rw [ai];refine ⟨by omega, by omega, by omega, .inl (by decide), ?_⟩;refine .intro (by rw [ai]; omega) ?_;rw [ai];refine X1 (((dg 18446744073709551616 a).length : Int) - 1) (wI rfl (by omega) (by omega)) ?_;refine au aj aa (G := Nat × List Nat × Nat) (fun (n, out, c) => n ≤ (dg 18446744073709551616 a).length ∧ out.length = (dg 18446744073709551616 a).length ∧ Dig 18446744073709551616 out ∧ c < d ∧ val 18446744073709551616 ((dg 18446744073709551616 a).drop n) = d * val 18446744073709551616 (out.drop n) + c)
  (fun (n, out, c) => [(1, .c (nI .u64 d)), (2, .c (.ad 2 0)), (4, .c (.ad 4 0)), (6, .c (.ow 12 1 (dg 18446744073709551616 a).length)), (7, .c (nI .u64 c)), (8, .c (eI .i64 ((n : Int) - 1)))])
  (fun ((n, out, c) : Nat × List Nat × Nat) => [(2, .var [nSl .u64 (dg 18446744073709551616 a)]), (4, .var [.sc (.slice none 0 0)]), (12, .row 1 (aF .u64 out))]) (fun (n, out, c) => n)
  ((dg 18446744073709551616 a).length, List.replicate (dg 18446744073709551616 a).length 0, 0) ⟨by simp, by simp, fun x hx => by rw [EY hx]; omega, hd, by simp [val]⟩
  ⟨rfl, rfl, rfl, owE (by omega), rfl, rfl, trivial⟩ ⟨rfl, rfl, aB (eV rfl), trivial⟩
  (fun l : List Nat => Dig 18446744073709551616 l ∧ val 18446744073709551616 l = a / d ∧ l.length ≤ 1000000) (fun l => [(4, .c (.ad 4 0)), (6, .c (.ow 12 1 (dg 18446744073709551616 a).length)), (7, .c (nI .u64 (a % d)))]) (fun l => [(4, .var [.sc (.slice none 0 0)]), (12, .row 1 (aF .u64 l))]) (fun g hg => ?_) (fun l hl => ?_)
 ·obtain ⟨n, out, c⟩ := g;obtain ⟨h1, h2, h3, h4, h6⟩ := hg;refine ah (fun h5 => ?_) (fun h5 => ?_)
  ·obtain ⟨i, rfl⟩ : ∃ i, n = i + 1 := ⟨n - 1, by omega⟩;have hx := hA.getD (by omega) i;have hD := dx 18446744073709551616 (l := dg 18446744073709551616 a) (i := i) (by omega);refine .intro (by omega) (X1 _ (al (n := i) (by omega) (by omega)) ?_);generalize (dg 18446744073709551616 a).getD i 0 = x at hx hD ⊢;refine X1 _ (rS c x d h4 hx hd2) ?_;have hm := E6 (c * 18446744073709551616 + x) hd;have hdm := Fa (c * 18446744073709551616 + x) d;have hq : (c * 18446744073709551616 + x) / d < 18446744073709551616 := by
    refine E8 ?_;have := D8 18446744073709551616 (Nat.succ_le_of_lt h4);omega
   generalize (c * 18446744073709551616 + x) / d = q at *
   generalize (c * 18446744073709551616 + x) % d = r at *
   refine .intro (by omega) (And.intro (by omega) ?_);refine X1 _ (al (n := i) (by omega) (by omega)) ?_;refine X1 ((i : Int) - 1) (wI (by omega) (by omega) (by omega)) ?_;refine ⟨(i, out.set i q, r), ⟨by omega, by simp [h2], h3.set hq, hm, ?_⟩, by show i < i + 1; omega, ⟨rfl, rfl, rfl, rfl, rfl, rfl, trivial⟩, ⟨rfl, rfl, aB (by rw [← nRow_set, show (((i + 1 : Nat) : Int) - 1).toNat = i by omega]; rfl), trivial⟩⟩;have hs := ku 18446744073709551616 (l := out) (i := i) (x := q) (by omega);rw [hD, h6, hs, Er, Er, EX d];omega
  ·have e : n = 0 := by omega
   subst e;rw [Fu, Fu, vA] at h6;obtain ⟨e1, e2⟩ := uE h6 h4;exact ⟨out, ⟨h3, e1, by omega⟩, ⟨rfl, rfl, iE (by rw [e2]), trivial⟩, ⟨rfl, rfl, trivial⟩⟩
 ·obtain ⟨h1, h2, h3⟩ := hl;refine X2 .frz ?_;refine X1 _ (d9 l h3) ?_;rw [cS (by omega) h1, h2];exact ⟨trivial, rc rfl, r1 rfl, trivial⟩
theorem nG {x s : Nat} (hx : x < 18446744073709551616) (hs : s ≤ 64) : x * 2 ^ s % 18446744073709551616 = x % 2 ^ (64 - s) * 2 ^ s ∧ x * 2 ^ s = x % 2 ^ (64 - s) * 2 ^ s + 18446744073709551616 * (x / 2 ^ (64 - s)) ∧ x / 2 ^ (64 - s) < 2 ^ s := by
 have e64 : 2 ^ s * 2 ^ (64 - s) = 18446744073709551616 := by rw [← EW, show s + (64 - s) = 64 by omega]
 have hp : 0 < 2 ^ s := ER s;have hp2 : 0 < 2 ^ (64 - s) := ER _;generalize 2 ^ (64 - s) = b at *
 generalize 2 ^ s = a at *
 have h4 : x * a = x % b * a + 18446744073709551616 * (x / b) := by
  conv => lhs; rw [← Fa x b]
  rw [Eg, ← e64, Ej b, Ee, Ej b, Ej (x / b)];omega
 have hlt : x % b * a < 18446744073709551616 := by
  rw [← e64, Ej a]; exact Fq (E6 _ hp2) hp
 refine ⟨by rw [h4, FT, EB hlt], h4, E8 (by rw [Ej, e64]; exact hx)⟩
theorem yI {v m s : Nat} (hv : v < 2 ^ s) : (v ||| m * 2 ^ s) = v + m * 2 ^ s := by
 rw [Nat.or_comm, Ej, ← Nat.two_pow_add_eq_or_of_lt hv, Gn]
theorem Cl {out : List Nat} {j s x v : Nat} (hx : x < 18446744073709551616) (hs : s ≤ 64) (hj : j + 1 < out.length) (hv : v = out.getD j 0) (h0 : out.getD (j + 1) 0 = 0) (hl : v < 2 ^ s) :
  val 18446744073709551616 ((out.set j (v ||| x * 2 ^ s % 18446744073709551616)).set (j + 1) (x / 2 ^ (64 - s))) = val 18446744073709551616 out + 18446744073709551616 ^ j * (x * 2 ^ s) := by
 obtain ⟨g1, g2, g3⟩ := nG hx hs;rw [g1, yI hl, g2];have e1 := fC (B := 18446744073709551616) (l := out) (i := j) (x := v + x % 2 ^ (64 - s) * 2 ^ s) (by omega);have e2 := fC (B := 18446744073709551616) (l := out.set j (v + x % 2 ^ (64 - s) * 2 ^ s)) (i := j + 1) (x := x / 2 ^ (64 - s)) (by simpa using hj);rw [getD_set_ne (by omega), h0, Fn, Fi] at e2;rw [← hv] at e1;rw [e2, EI, Ee];simp only [Er] at e1 ⊢;omega
theorem yK {v m : Nat} (hv : v < 18446744073709551616) (hm : m < 18446744073709551616) : (v ||| m) < 18446744073709551616 := Nat.or_lt_two_pow (n := 64) (by omega) (by omega)
theorem rT {l : List Nat} {i v : Nat} (h : i < l.length) : (l.set i v).getD i 0 = v := by simp [DZ, h]
theorem lV {k : IntKind} {l : List Nat} {i x n : Nat} {j : Int} (h0 : j = n) (h : n < l.length) : ((aF k l).set i [nI k x])[j.toNat]? = some [nI k ((l.set i x).getD n 0)] := by
 rw [nRow_set]; exact al h0 (by simpa using h)
theorem vS {k : IntKind} {l : List Nat} {i x n : Nat} {j : Int} (h0 : j = n) (h1 : i = n) (h : n < l.length) : ((aF k l).set i [nI k x])[j.toNat]? = some [nI k x] := by
 subst h0; subst h1;simp [ai, h]
theorem nH (a n : Nat) (ha : (dg 18446744073709551616 a).length ≤ 400000) (hn : n ≤ 1000000) : Ct P 82 [nV a, .c (nI .i64 n)] [nV (a * 2 ^ n)] := by
 have hA := bz (B := 18446744073709551616) (by omega) a;have vA := bl (B := 18446744073709551616) (by omega) a;refine Ct.go aj aa (N := 63) Tryz.func82 rfl rfl rfl rfl ?_;refine ah (fun h0 => ?_) (fun h0 => ?_)
 ·have : n = 0 := by omega
  subst this;rw [GB, Fg];exact ⟨trivial, rc rfl, trivial⟩
 ·refine X1 _ (fh a (by omega)) ?_;refine aN (fun h1 => ?_) (fun h1 => ?_)
  ·have : a = 0 := by simpa using h1
   subst this;rw [GR];exact ⟨trivial, rc rfl, trivial⟩
  ·obtain ⟨k, hk⟩ : ∃ k, k = n / 64 := ⟨_, rfl⟩;obtain ⟨s, hs⟩ : ∃ s, s = n % 64 := ⟨_, rfl⟩;refine .intro (by omega) (X1 ((k : Nat) : Int) (by rw [hk]; exact jW rfl) (And.intro ⟨by omega, by omega⟩ ?_));refine .intro (by omega) (X1 ((s : Nat) : Int) (by rw [hs]; exact lU rfl) (And.intro ⟨by omega, by omega⟩ ?_));refine X1 ((s : Nat) : Int) (wU rfl (by omega) (by omega)) ?_;refine .intro (by rw [ai]; omega) ?_;rw [ai];refine X1 (((dg 18446744073709551616 a).length + k : Nat) : Int) (wI (by simp) (by omega) (by omega)) ?_;refine X1 (((dg 18446744073709551616 a).length + k + 1 : Nat) : Int) (wI (by simp) (by omega) (by omega)) ?_;refine ⟨by omega, by omega, by omega, .inl (by decide), ?_⟩;refine .intro (by rw [ai]; omega) ?_;rw [ai];have e2n : 2 ^ n = 18446744073709551616 ^ k * 2 ^ s := by rw [nv, ← EW, show 64 * k + s = n by omega]
   obtain ⟨A, eA⟩ : ∃ A, A = dg 18446744073709551616 a := ⟨_, rfl⟩;rw [← eA] at hA vA ha;rw [← eA];refine au aj aa (G := Nat × List Nat) (fun (i, out) => i ≤ A.length ∧ out.length = A.length + k + 1 ∧ Dig 18446744073709551616 out ∧ (∀ j, i + k < j → out.getD j 0 = 0) ∧ out.getD (i + k) 0 < 2 ^ s ∧ val 18446744073709551616 out = val 18446744073709551616 (A.take i) * 2 ^ n)
    (fun (i, out) => [(2, .c (.ad 2 0)), (4, .c (.ad 4 0)), (5, .c (nI .i64 k)), (6, .c (nI .u64 s)), (7, .c (.ow 28 1 (A.length + k + 1))), (30, .c (nSl .u64 A)), (31, .c (nI .i64 A.length)), (32, .c (nI .i64 i))])
    (fun ((i, out) : Nat × List Nat) => [(2, .var [nSl .u64 A]), (4, .var [.sc (.slice none 0 0)]), (28, .row 1 (aF .u64 out))]) (fun (i, _) => A.length - i)
    (0, List.replicate (A.length + k + 1) 0) ⟨by simp, by simp, fun x hx => by rw [EY hx]; omega, fun j _ => by simp [DZ, Fs]; split <;> rfl, by
     have : (List.replicate (A.length + k + 1) 0).getD (0 + k) 0 = 0 := by simp [DZ, Fs]; split <;> rfl
     rw [this]; exact ER s, by simp [val, mj]⟩
    ⟨rfl, rfl, rfl, rfl, owE (by omega), (by rw [eA]; rfl), (by rw [eA]; rfl), rfl, trivial⟩ ⟨(by rw [eA]; rfl), rfl, aB (eV rfl), trivial⟩
    (fun l : List Nat => Dig 18446744073709551616 l ∧ val 18446744073709551616 l = a * 2 ^ n ∧ l.length ≤ 1000000) (fun l => [(4, .c (.ad 4 0)), (7, .c (.ow 28 1 (A.length + k + 1)))]) (fun l => [(4, .var [.sc (.slice none 0 0)]), (28, .row 1 (aF .u64 l))]) (fun g hg => ?_) (fun l hl => ?_)
   ·obtain ⟨i, out⟩ := g;obtain ⟨h1, h2, h3, h4, h5, h6⟩ := hg;refine ah (fun h7 => ?_) (fun h7 => ?_)
    ·have hx := hA.getD (by omega) i;have hT := aJ 18446744073709551616 A i;refine .intro (by omega) (X1 _ (al rfl (by omega)) ?_);generalize A.getD i 0 = x at hx hT ⊢;have hv := h3.getD (by omega) (i + k);refine X1 ((i + k : Nat) : Int) (wI (by simp) (by omega) (by omega)) ?_;refine .intro (by omega) (And.intro (by omega) ?_);refine X1 _ (al rfl (by omega)) ?_;have hvu := Cl (out := out) (j := i + k) (s := s) (x := x) hx (by omega) (by omega) rfl (h4 _ (by omega)) h5;have hor : (out.getD (i + k) 0 ||| x * 2 ^ s % 18446744073709551616) < 18446744073709551616 := yK hv (E6 _ (by decide));have hsp := nG hx (s := s) (by omega);generalize out.getD (i + k) 0 = v at *
     refine .intro (by omega) (X1 _ (tK (by omega)) ?_);refine X1 _ (orU hv (E6 _ (by decide))) ?_;refine .intro (by omega) (And.intro (by omega) ?_);refine X1 _ (al rfl (by omega)) ?_;have hlow : x / 2 ^ (64 - s) ≤ x := Fp _ _;refine ah (fun h8 => ?_) (fun h8 => ?_)
     ·refine X1 ((i + k : Nat) : Int) (wI (by simp) (by omega) (by omega)) ?_;refine X1 ((i + k + 1 : Nat) : Int) (wI (by simp) (by omega) (by omega)) ?_;refine X1 ((64 - s : Nat) : Int) (wU (by omega) (by omega) (by omega)) ?_;refine .intro (by omega) (X1 ((x / 2 ^ (64 - s) : Nat) : Int) (fO (k := 64 - s) (by omega)) (And.intro (inU (by omega)) ?_));refine .intro (by omega) (And.intro (by omega) ?_);refine X1 _ (lV rfl (by omega)) ?_;refine X1 ((i + 1 : Nat) : Int) (wI1 (by omega)) ?_;refine ⟨(i + 1, (out.set (i + k) (v ||| x * 2 ^ s % 18446744073709551616)).set (i + k + 1) (x / 2 ^ (64 - s))), ⟨by omega, by simp [h2], (h3.set hor).set (by omega), fun j hj => by rw [getD_set_ne (by omega), getD_set_ne (by omega)]; exact h4 j (by omega), by rw [show i + 1 + k = i + k + 1 by omega, rT (by simp; omega)]; exact hsp.2.2, ?_⟩, by show _ - (i + 1) < _ - i; omega, ⟨rfl, rfl, rfl, rfl, rfl, rfl, rfl, rfl, trivial⟩, ⟨rfl, rfl, aB (by rw [← nRow_set, ← nRow_set]; rfl), trivial⟩⟩;rw [hvu, h6, hT, Eg, e2n, EW];congr 1;simp only [Ee, EX, Ej]
     ·have e0 : s = 0 := by omega
      have hz : x / 2 ^ (64 - s) = 0 := by rw [e0]; exact FE (by omega)
      rw [hz] at hvu;have hs2 := fC (B := 18446744073709551616) (l := out.set (i + k) (v ||| x * 2 ^ s % 18446744073709551616)) (i := i + k + 1) (x := 0) (by simp; omega);rw [getD_set_ne (by omega), h4 _ (by omega), Fn, Fi, Fi, hvu] at hs2;refine X1 ((i + 1 : Nat) : Int) (wI1 (by omega)) ?_;refine ⟨(i + 1, out.set (i + k) (v ||| x * 2 ^ s % 18446744073709551616)), ⟨by omega, by simp [h2], h3.set hor, fun j hj => by rw [getD_set_ne (by omega)]; exact h4 j (by omega), by rw [getD_set_ne (by omega), h4 _ (by omega)]; exact ER s, ?_⟩, by show _ - (i + 1) < _ - i; omega, ⟨rfl, rfl, rfl, rfl, rfl, rfl, rfl, rfl, trivial⟩, ⟨rfl, rfl, aB (by rw [← nRow_set]; rfl), trivial⟩⟩;rw [Fi] at hs2;rw [← hs2, h6, hT, Eg, e2n, EW];congr 1;simp only [Ee, EX, Ej]
    ·have e : i = A.length := by omega
     subst e;rw [aW (D1 _), vA] at h6;exact ⟨out, ⟨h3, h6, by omega⟩, ⟨rfl, rfl, trivial⟩, ⟨rfl, rfl, trivial⟩⟩
   ·obtain ⟨h1, h2, h3⟩ := hl;refine X2 .frz ?_;refine X1 _ (d9 l h3) ?_;rw [cS (by omega) h1, h2];exact ⟨trivial, rc rfl, trivial⟩
theorem nJ {x y s v w : Nat} (hx : x < 18446744073709551616) (hy : y < 18446744073709551616) (hs : s < 64) (hv : v = y + 18446744073709551616 * w) :
  (x + 18446744073709551616 * v) / 2 ^ s = (x / 2 ^ s ||| y * 2 ^ (64 - s) % 18446744073709551616) + 18446744073709551616 * (v / 2 ^ s) ∧ x / 2 ^ s < 2 ^ (64 - s) := by
 have e64 : 2 ^ s * 2 ^ (64 - s) = 18446744073709551616 := by rw [← EW, show s + (64 - s) = 64 by omega]
 have hp : 0 < 2 ^ s := ER s;obtain ⟨g1, _, _⟩ := nG hy (s := 64 - s) (by omega);have hxl : x / 2 ^ s < 2 ^ (64 - s) := E8 (by rw [e64]; exact hx);rw [g1, yI hxl, show 64 - (64 - s) = s by omega];refine ⟨?_, hxl⟩;generalize 2 ^ (64 - s) = b at *
 generalize 2 ^ s = a at *
 have h1 : v % a = y % a := by
  rw [hv, ← e64, Ee, FT]
 have h2 := Fa v a;have h3 : x + 18446744073709551616 * v = x + a * (y % a * b + 18446744073709551616 * (v / a)) := by
  conv => lhs; rw [← h2, h1]
  rw [Er, Er, ← e64, Ej (y % a) b, ← Ee a b, ← Ee (a * b) a, Ej (a * b) a, Ee a (a * b)];omega
 rw [h3, Gl _ _ hp, E3]
theorem yL : leA (.ag [.sc (.slice none 0 0)]) (nV 0) := by
 unfold nV;rw [bu];exact ⟨.inr ⟨rfl, 1, rfl⟩, trivial⟩
theorem p9 (a n : Nat) (ha : (dg 18446744073709551616 a).length ≤ 1000000) (hn : n ≤ 100000000) : Ct P 146 [nV a, .c (nI .i64 n)] [nV (a / 2 ^ n)] := by
 have hA := bz (B := 18446744073709551616) (by omega) a;have vA := bl (B := 18446744073709551616) (by omega) a;refine Ct.go aj aa (N := 76) Tryz.func146 rfl rfl rfl rfl ?_;have e : (if (0 : Int) > ((n : Nat) : Int) then 0 else ((n : Nat) : Int)) = n := if_neg (by omega);refine X1 _ (ia a ha) ?_;refine ah (fun h0 => ?_) (fun h0 => ?_)
 ·rw [e] at h0;have : a / 2 ^ n = 0 := FE (Ea (dB a) (Eh (by omega) (by omega)));rw [this];exact ⟨trivial, ⟨_, rfl, yL⟩, trivial⟩
 ·rw [e] at h0 ⊢;have hb := ny a;obtain ⟨k, hk⟩ : ∃ k, k = n / 64 := ⟨_, rfl⟩;obtain ⟨s, hs⟩ : ∃ s, s = n % 64 := ⟨_, rfl⟩;refine .intro (by omega) (X1 ((k : Nat) : Int) (by rw [hk]; exact jW rfl) (And.intro ⟨by omega, by omega⟩ ?_));refine .intro (by omega) (X1 ((s : Nat) : Int) (by rw [hs]; exact lU rfl) (And.intro ⟨by omega, by omega⟩ ?_));refine X1 ((s : Nat) : Int) (wU rfl (by omega) (by omega)) ?_;have hkl : k < (dg 18446744073709551616 a).length := by omega
  refine .intro (by rw [ai]; omega) ?_;rw [ai];refine X1 (((dg 18446744073709551616 a).length - k : Nat) : Int) (wI (by omega) (by omega) (by omega)) ?_;refine ⟨by omega, by omega, by omega, .inl (by decide), ?_⟩;refine .intro (by omega) ?_;obtain ⟨A, eA⟩ : ∃ A, A = dg 18446744073709551616 a := ⟨_, rfl⟩;rw [← eA] at hA vA ha hkl;rw [← eA];have hV : ∀ i, k + i < A.length → (val 18446744073709551616 (A.drop (k + i))) / 2 ^ s = (A.getD (k + i) 0 / 2 ^ s ||| A.getD (k + i + 1) 0 * 2 ^ (64 - s) % 18446744073709551616) + 18446744073709551616 * (val 18446744073709551616 (A.drop (k + i + 1)) / 2 ^ s) ∧ (A.getD (k + i) 0 / 2 ^ s ||| A.getD (k + i + 1) 0 * 2 ^ (64 - s) % 18446744073709551616) < 18446744073709551616 := fun i hi => by
   have hx := hA.getD (by omega) (k + i);have hy := hA.getD (by omega) (k + i + 1);have hle := Fp (A.getD (k + i) 0) (2 ^ s);refine ⟨?_, yK (by omega) (E6 _ (by decide))⟩;rw [dx _ hi];rcases EQ (k + i + 1) A.length with h | h
   ·exact (nJ hx hy (by omega) (dx _ h)).1
   ·have e1 : A.getD (k + i + 1) 0 = 0 := by rw [DZ, Eo h]; rfl
    exact (nJ (w := 0) hx hy (by omega) (by rw [e1, Fh h]; rfl)).1
  have hfin : a / 2 ^ n = val 18446744073709551616 (A.drop k) / 2 ^ s := by
   have h1 := fg 18446744073709551616 A k;have h2 := eL (by omega : 0 < 18446744073709551616) (hA.take (n := k));rw [Ed, Fw (by omega)] at h2;rw [Fw (by omega), vA] at h1;rw [show n = 64 * k + s by omega, EW, ← nv, ← F5, h1, Gl _ _ (Nat.pow_pos (by omega)), FE h2, ES]
  rw [hfin];refine au aj aa (G := Nat × List Nat) (fun (i, out) => i ≤ A.length - k ∧ out.length = A.length - k ∧ Dig 18446744073709551616 out ∧ val 18446744073709551616 (out.take i) + 18446744073709551616 ^ i * (val 18446744073709551616 (A.drop (k + i)) / 2 ^ s) = val 18446744073709551616 (A.drop k) / 2 ^ s)
   (fun (i, out) => [(2, .c (.ad 2 0)), (4, .c (.ad 4 0)), (5, .c (nI .i64 k)), (6, .c (nI .u64 s)), (7, .c (.ow 26 1 (A.length - k))), (28, .c (nI .i64 (A.length - k : Nat))), (29, .c (nI .i64 i))])
   (fun ((i, out) : Nat × List Nat) => [(2, .var [nSl .u64 A]), (4, .var [.sc (.slice none 0 0)]), (26, .row 1 (aF .u64 out))]) (fun (i, _) => A.length - i)
   (0, List.replicate (A.length - k) 0) ⟨by simp, by simp, fun x hx => by rw [EY hx]; omega, by simp [val]⟩
   ⟨rfl, rfl, rfl, rfl, owE (by omega), rfl, rfl, trivial⟩ ⟨(by rw [eA]; rfl), rfl, aB (eV rfl), trivial⟩
   (fun l : List Nat => Dig 18446744073709551616 l ∧ val 18446744073709551616 l = val 18446744073709551616 (A.drop k) / 2 ^ s ∧ l.length ≤ 1000000) (fun l => [(4, .c (.ad 4 0)), (7, .c (.ow 26 1 (A.length - k)))]) (fun l => [(4, .var [.sc (.slice none 0 0)]), (26, .row 1 (aF .u64 l))]) (fun g hg => ?_) (fun l hl => ?_)
  ·obtain ⟨i, out⟩ := g;obtain ⟨h1, h2, h3, h4⟩ := hg;refine ah (fun h7 => ?_) (fun h7 => ?_)
   ·obtain ⟨v1, v2⟩ := hV i (by omega);have hx := hA.getD (by omega) (k + i);have hlow : A.getD (k + i) 0 / 2 ^ s ≤ A.getD (k + i) 0 := Fp _ _;refine X1 ((k + i : Nat) : Int) (wI (by omega) (by omega) (by omega)) ?_;refine .intro (by omega) (X1 _ (al rfl (by omega)) ?_);refine .intro (by omega) (X1 ((A.getD (k + i) 0 / 2 ^ s : Nat) : Int) (fO (k := s) (by omega)) (And.intro (inU (by omega)) ?_));refine .intro (by omega) (And.intro (by omega) ?_);refine X1 _ (al rfl (by omega)) ?_;have hset : ∀ w, w < 18446744073709551616 → w = (A.getD (k + i) 0 / 2 ^ s ||| A.getD (k + i + 1) 0 * 2 ^ (64 - s) % 18446744073709551616) → val 18446744073709551616 ((out.set i w).take (i + 1)) + 18446744073709551616 ^ (i + 1) * (val 18446744073709551616 (A.drop (k + (i + 1))) / 2 ^ s) = val 18446744073709551616 (A.drop k) / 2 ^ s := fun w _ hw => by
     rw [dh _ _ (by omega), ← h4, v1, ← hw, EI, Er, Ee, ← E3 k i 1];omega
    refine ah (fun h8 => ?_) (fun h8 => ?_)
    ·refine X1 ((k + i : Nat) : Int) (wI (by omega) (by omega) (by omega)) ?_;refine X1 ((k + i + 1 : Nat) : Int) (wI (by omega) (by omega) (by omega)) ?_;refine .intro (by rw [ai]; omega) ?_;rw [ai];refine ah (fun h9 => ?_) (fun h9 => ?_)
     ·refine .intro (by omega) (And.intro (by omega) ?_);refine X1 _ (vS rfl rfl (by omega)) ?_;refine X1 ((k + i : Nat) : Int) (wI (by omega) (by omega) (by omega)) ?_;refine X1 ((k + i + 1 : Nat) : Int) (wI (by omega) (by omega) (by omega)) ?_;refine .intro (by omega) (X1 _ (al rfl (by omega)) ?_);refine X1 ((64 - s : Nat) : Int) (wU (by omega) (by omega) (by omega)) ?_;refine .intro (by omega) (X1 _ (tK (k := 64 - s) (by omega)) ?_);refine X1 _ (orU (by omega) (E6 _ (by decide))) ?_;refine .intro (by omega) (And.intro (by omega) ?_);refine X1 _ (lV rfl (by omega)) ?_;refine .intro rfl ?_;refine X1 ((i + 1 : Nat) : Int) (wI1 (by omega)) ?_;refine ⟨(i + 1, out.set i (A.getD (k + i) 0 / 2 ^ s ||| A.getD (k + i + 1) 0 * 2 ^ (64 - s) % 18446744073709551616)), ⟨by omega, by simp [h2], h3.set v2, hset _ v2 rfl⟩, by show _ - (i + 1) < _ - i; omega, ⟨rfl, rfl, rfl, rfl, rfl, rfl, rfl, trivial⟩, ⟨rfl, rfl, aB ?_, trivial⟩⟩;have e1 : out.set i (A.getD (k + i) 0 / 2 ^ s ||| A.getD (k + i + 1) 0 * 2 ^ (64 - s) % 18446744073709551616) = (out.set i (A.getD (k + i) 0 / 2 ^ s)).set i (A.getD (k + i) 0 / 2 ^ s ||| A.getD (k + i + 1) 0 * 2 ^ (64 - s) % 18446744073709551616) := by rw [GT]
      rw [e1, ← nRow_set, ← nRow_set];rfl
     ·have e0 : A.getD (k + i + 1) 0 = 0 := by rw [DZ, Eo (by omega)]; rfl
      have e1 : (A.getD (k + i) 0 / 2 ^ s ||| A.getD (k + i + 1) 0 * 2 ^ (64 - s) % 18446744073709551616) = A.getD (k + i) 0 / 2 ^ s := by rw [e0]; simp
      refine X1 ((i + 1 : Nat) : Int) (wI1 (by omega)) ?_;refine ⟨(i + 1, out.set i (A.getD (k + i) 0 / 2 ^ s)), ⟨by omega, by simp [h2], h3.set (by omega), hset _ (by omega) e1.symm⟩, by show _ - (i + 1) < _ - i; omega, ⟨rfl, rfl, rfl, rfl, rfl, rfl, rfl, trivial⟩, ⟨rfl, rfl, aB ?_, trivial⟩⟩;rw [← nRow_set];rfl
    ·have e0 : s = 0 := by omega
     have e1 : (A.getD (k + i) 0 / 2 ^ s ||| A.getD (k + i + 1) 0 * 2 ^ (64 - s) % 18446744073709551616) = A.getD (k + i) 0 / 2 ^ s := by
      rw [e0, show 2 ^ (64 - 0) = 18446744073709551616 from rfl, Nat.mul_mod_left]; simp
     refine X1 ((i + 1 : Nat) : Int) (wI1 (by omega)) ?_;refine ⟨(i + 1, out.set i (A.getD (k + i) 0 / 2 ^ s)), ⟨by omega, by simp [h2], h3.set (by omega), hset _ (by omega) e1.symm⟩, by show _ - (i + 1) < _ - i; omega, ⟨rfl, rfl, rfl, rfl, rfl, rfl, rfl, trivial⟩, ⟨rfl, rfl, aB ?_, trivial⟩⟩;rw [← nRow_set];rfl
   ·have e : i = A.length - k := by omega
    subst e;rw [EG (by omega), Fh (by omega)] at h4;simp only [val, GU, Fn, Fi] at h4;exact ⟨out, ⟨h3, h4, by omega⟩, ⟨rfl, rfl, trivial⟩, ⟨rfl, rfl, trivial⟩⟩
  ·obtain ⟨h1, h2, h3⟩ := hl;refine X2 .frz ?_;refine X1 _ (d9 l h3) ?_;rw [cS (by omega) h1, h2];exact ⟨trivial, rc rfl, trivial⟩
end
end Go.Proofs.YtgceikecdedfcaaGreat.Pv
