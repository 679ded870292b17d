/- Parts of a proof, joined: Fs Ft Fd Fe Fa Fb Fc Ey Ez Ff Fh Fu Fv Ga Gb Ha Hb. -/
import Derived.Test.YtgceikecdedfcaaGreatLaO
namespace Go.Proofs.YtgceikecdedfcaaGreat.Pv
open Go
section
theorem qB {x : Cnt} : ∀ (l : List Cnt), (∀ z, z ∈ l → aD x.1 z.1 < 0) → pu x l true = l
 | [], _ => rfl
 | y :: l, h => by
  have h1 := h y (by simp);have h2 := eH x.1 y.1;rw [pu, if_neg (by simp), if_neg (by omega), G0, G0, qB l fun z hz => h z (Eo _ hz)];rfl
theorem CJ {x : Cnt} : ∀ (l : List Cnt) (b : Bool), ∀ y, y ∈ pu x l b → y.1 = x.1 ∨ ∃ z, z ∈ l ∧ z.1 = y.1
 | [], b, y, h => by
  unfold pu at h;split at h
  ·simp at h
  ·simp at h; subst h; exact .inl rfl
 | z :: l, b, y, h => by
  rw [pu] at h;rcases EF.1 h with h | h
  ·split at h
   ·simp at h; subst h; exact .inl rfl
   ·simp at h
  ·rcases Ey.1 h with h | h
   ·right;refine ⟨z, by simp, ?_⟩;rw [h]; split <;> rfl
   ·rcases CJ l _ y h with h | ⟨w, h1, h2⟩
    ·exact .inl h
    ·exact .inr ⟨w, Eo _ h1, h2⟩
theorem Du {x : Cnt} {c : Int} (hx : 1 ≤ x.2 ∧ x.2 ≤ 1) (hc : 0 ≤ c) : ∀ (l : List Cnt) (b : Bool), (∀ z, z ∈ l → 1 ≤ z.2 ∧ z.2 ≤ c) → ∀ y, y ∈ pu x l b → 1 ≤ y.2 ∧ y.2 ≤ c + 1
 | [], b, _, y, h => by
  unfold pu at h;split at h
  ·simp at h
  ·simp at h; subst h; omega
 | z :: l, b, hl, y, h => by
  rw [pu] at h;have hz := hl z (by simp);rcases EF.1 h with h | h
  ·split at h
   ·simp at h; subst h; omega
   ·simp at h
  ·rcases Ey.1 h with h | h
   ·rw [h]; split
    ·show 1 ≤ z.2 + x.2 ∧ z.2 + x.2 ≤ c + 1; omega
    ·omega
   ·exact Du hx hc l _ (fun w hw => hl w (Eo _ hw)) y h
theorem zu {x : Cnt} : ∀ (l : List Cnt) (b : Bool), (pu x l b).length ≤ l.length + (if b = true then 0 else 1)
 | [], b => by unfold pu; split <;> simp
 | z :: l, b => by
  rw [pu, D3, EB, EB];have ih := zu (x := x) l (b || decide (aD z.1 x.1 > 0) || decide (aD z.1 x.1 = 0));by_cases hb : b = true
  ·subst hb;simp at ih ⊢;omega
  ·have hb' : b = false := by simpa using hb
   subst hb';by_cases hg : aD z.1 x.1 > 0
   ·simp [hg] at ih ⊢;omega
   ·simp [hg] at ih ⊢;split at ih <;> omega
theorem sC {x : Cnt} : ∀ (l : List Cnt), dN l → dN (pu x l false)
 | [], _ => by simp [pu, dN]
 | y :: l, hr => by
  obtain ⟨hy, hr'⟩ := FD.1 hr;have hneg := eH x.1 y.1;rw [pu];by_cases hg : aD y.1 x.1 > 0
  ·have hall : ∀ z, z ∈ l → aD x.1 z.1 < 0 := fun z hz => dc (by omega) (hy z hz)
   rw [if_pos ⟨hg, rfl⟩, if_neg (by omega), decide_eq_true hg, Bool.false_or, G0, qB l hall];refine FD.2 ⟨fun z hz => ?_, hr⟩;rcases Ey.1 hz with rfl | hz
   ·omega
   ·exact hall z hz
  ·rw [if_neg (fun h => hg h.1), decide_eq_false hg, Gu];by_cases h0 : aD y.1 x.1 = 0
   ·have e := lh h0;have hall : ∀ z, z ∈ l → aD x.1 z.1 < 0 := fun z hz => by rw [← e]; exact hy z hz
    rw [if_pos h0, decide_eq_true h0, Bool.or_true, qB l hall];exact FD.2 ⟨fun z hz => hy z hz, hr'⟩
   ·rw [if_neg h0, decide_eq_false h0, GY, GY];refine FD.2 ⟨fun z hz => ?_, sC l hr'⟩;rcases CJ l false z hz with h | ⟨w, h1, h2⟩
    ·rw [h]; omega
    ·rw [← h2]; exact hy w h1
def gk (G : List (List Int)) : List Cnt := G.foldl (fun l g => mb l (g, 1)) []
theorem po (G : List (List Int)) (g : List Int) : gk (G ++ [g]) = mb (gk G) (g, 1) := by simp [gk, Gj]
structure GOk (G : List (List Int)) (l : List Cnt) : Prop where
 len : l.length ≤ G.length
 g : ∀ y, y ∈ l → y.1 ∈ G
 n : ∀ y, y ∈ l → 1 ≤ y.2 ∧ y.2 ≤ (G.length : Int)
 rises : dN l
theorem mK : ∀ (k : Nat) (G : List (List Int)), G.length = k → GOk G (gk G)
 | 0, G, h => by
  have : G = [] := Eu.1 h;subst this;exact ⟨by simp [gk], fun y h => by simp [gk] at h, fun y h => by simp [gk] at h, by simp [gk, dN]⟩
 | k + 1, G, h => by
  obtain ⟨G', g, rfl⟩ : ∃ G' g, G = G' ++ [g] := ⟨G.dropLast, G.getLast (by intro e; subst e; simp at h), (FA _).symm⟩;have hk : G'.length = k := by simpa using h
  obtain ⟨a1, a2, a3, a4⟩ := mK k G' hk;rw [po];refine ⟨?_, fun y hy => ?_, fun y hy => ?_, sC _ a4⟩
  ·have := zu (x := (g, 1)) (gk G') false;unfold mb;simp at this ⊢; omega
  ·rcases CJ _ _ y hy with e | ⟨z, h1, h2⟩
   ·rw [e]; simp
   ·rw [← h2]; exact Ff _ (a2 z h1)
  ·have := Du (x := (g, 1)) (c := (G'.length : Int)) ⟨by show (1 : Int) ≤ 1; omega, by show (1 : Int) ≤ 1; omega⟩ (by omega) (gk G') false a3 y hy;rw [D3];show 1 ≤ y.2 ∧ y.2 ≤ ((G'.length + 1 : Nat) : Int)
   omega
theorem uc (L : List (List Int)) (n : Nat) (h1 : 1 ≤ n) (hn : n ≤ 1000000) (hL : L.length ≤ 600) (hp : ∀ p, p ∈ L → p.length ≤ 600) : Ct P 90 [.c (mn L), .c (nI .i64 n)] [.c (cSl (gk (aZ L n)))] := by
 have hE := wq L n h1 hn hL hp;have hlen : (aZ L n).length ≤ 360000 := by
  have h2 := gN (n := n) (k := 600) L hp;have h3 : L.length * 600 ≤ 600 * 600 := D8 _ hL;omega
 have hg : ∀ g, g ∈ aZ L n → g.length ≤ 1000000 := fun g h => by
  unfold aZ at h;obtain ⟨l, hl, hgl⟩ := List.mem_flatten.1 h;obtain ⟨p, hpm, rfl⟩ := EA.1 hl;have hpl := hp p hpm;have key : ∀ i, g ∈ grS p n i → g.length ≤ 1000000 := by
   intro i
   induction i with
   | zero => intro h; simp [grS] at h
   | succ i ih =>
    intro h;unfold grS at h;split at h
    ·rcases EF.1 h with h | h
     ·exact ih h
     ·simp at h; subst h; rw [Ec]; omega
    ·exact ih h
  exact key _ hgl
 generalize aZ L n = G at *
 refine Ct.go aj aa (N := 25) Tryz.func90 rfl rfl rfl rfl ?_;refine X1 _ hE ?_;refine Ab (t := 5) (sz := 2) rfl ?_;refine ar aj aa (fun i : Nat => i ≤ G.length) (fun i => [(6, .c (mn G)), (5, .c (cSl (gk (G.take i)))), (7, .c (nI .i64 i))]) (fun _ => []) (fun i => G.length - i)
  0 (by omega) ⟨rfl, rfl, rfl, trivial⟩ trivial (fun _ : Unit => True) (fun _ => [(5, .c (cSl (gk G)))]) (fun _ => []) (fun i hi => ?_) (fun _ _ => ?_)
 ·refine .intro (by rw [bf]; omega) ?_;rw [bf];refine ae (fun h2 => ?_) (fun h2 => ?_)
  ·have hi' : i < G.length := by omega
   have hget := pn (L := G) (i := (i : Int)) (n := i) rfl hi';have hs : gk (G.take (i + 1)) = mb (gk (G.take i)) (G[i], 1) := by rw [D5 hi', po]
   obtain ⟨a1, a2, a3, a4⟩ := mK _ (G.take i) rfl;have hgl := hg _ (Ed hi');have hti : (G.take i).length ≤ 360000 := by rw [Ec]; omega
   generalize G[i] = g at *
   refine .intro (by omega) (X1 _ hget ?_);refine X1 _ (zt (gk (G.take i)) (g, 1) ⟨by omega, fun y hy => hg _ (Fw (a2 y hy))⟩ hgl (fun y hy => by have := a3 y hy; omega) ⟨by show (0 : Int) ≤ 1; omega, by show (1 : Int) ≤ _; omega⟩) ?_;refine X1 ((i + 1 : Nat) : Int) (wI1 (by omega)) ?_;exact ⟨i + 1, by omega, by omega, ⟨rfl, by rw [hs]; rfl, rfl, trivial⟩, trivial⟩
  ·have e : i = G.length := by omega
   subst e;rw [EG];exact ⟨(), trivial, ⟨rfl, trivial⟩, trivial⟩
 ·exact ⟨trivial, r1 rfl, trivial⟩
def cd (L : List (List Int)) (m : Nat) : List (List Cnt) := (List.range m).map fun k => gk (aZ L (k + 1))
theorem oH (L : List (List Int)) (m : Nat) : cd L (m + 1) = cd L m ++ [gk (aZ L (m + 1))] := by simp [cd, GR]
theorem ce (L : List (List Int)) (m : Nat) : (cd L m).length = m := by simp [cd]
theorem sD (L : List (List Int)) (m : Nat) (hm : m ≤ 1000) (hL : L.length ≤ 600) (hp : ∀ p, p ∈ L → p.length ≤ 600) : Ct P 38 [.c (mn L), .c (nI .i64 m)] [.c (cE (cd L m))] := by
 refine Ct.go aj aa (N := 19) Tryz.func38 rfl rfl rfl rfl ?_;refine jW (r := 34) (t := 5) (sz := 1) rfl rfl ?_;refine ar aj aa (fun i : Nat => i ≤ m) (fun i => [(0, .c (mn L)), (1, .c (nI .i64 m)), (5, .c (.ow 34 1 i)), (6, .c (eI .i64 ((i : Int) + 1)))]) (fun i => [(34, .row 1 (aV (cd L i)))]) (fun i => m - i)
  0 (by omega) ⟨rfl, rfl, rfl, rfl, trivial⟩ ⟨rfl, trivial⟩ (fun _ : Unit => True) (fun _ => [(5, .c (.ow 34 1 m))]) (fun _ => [(34, .row 1 (aV (cd L m)))]) (fun i hi => ?_) (fun _ _ => ?_)
 ·refine ae (fun h1 => ?_) (fun h1 => ?_)
  ·have h2 : (i : Int) + 1 ≤ (m : Int) := h1;have hc := uc L (i + 1) (by omega) (by omega) hL hp;have hcl : az (aV (cd L i)) := fun el h => by
    obtain ⟨x, _, rfl⟩ := EA.1 h;rfl
   have hsn : aV (cd L (i + 1)) = aV (cd L i) ++ [[cSl (gk (aZ L (i + 1)))]] := by rw [oH]; simp [aV]
   refine X1 _ hc ?_;refine ⟨by rw [ax, ce], by rw [ax, ce]; show (i + 1 + 768) * 24 ≤ _; omega, by rw [ax, ce]; show i + 1 ≤ _; omega, hcl, au rfl, ?_⟩;refine X1 (((i + 1 : Nat) : Int) + 1) (wI (by simp) (by omega) (by omega)) ?_;exact ⟨i + 1, by omega, by omega, ⟨rfl, rfl, owE (by rw [D3, ax, ce]; rfl), rfl, trivial⟩, ⟨aB (by rw [hsn]; rfl), trivial⟩⟩
  ·have h2 : ¬ (i : Int) + 1 ≤ (m : Int) := h1;have e : i = m := by omega
   subst e;exact ⟨(), trivial, ⟨rfl, trivial⟩, ⟨rfl, trivial⟩⟩
 ·exact ⟨trivial, r1 rfl, trivial⟩
end
section
section
variable {Lc : List (List Cnt)} {words : Int}
end
end
section
section
variable {Lc : List (List Cnt)} {words : Int}
end
end
section
theorem CtO.args {P : Program} {f : FuncId} {O O' : Objs} {args args' res : List A1} (h : CtO P f O args O' res) (hw : ∀ K ok w vs, RelAs K ok w args' vs → RelAs K ok w args vs) : CtO P f O args' O' res :=
 ⟨fun K ok w vs hp hr => h.run K ok w vs hp (hw K ok w vs hr)⟩
theorem RelAs.set {K : Km} {ok : Nat → Prop} {w : World} {xs : List A1} {vs : List Value} {i : Nat} {x y : A1} (h : RelAs K ok w xs vs) (hx : xs[i]? = some x) (hw : ∀ u, RelA K ok w x u → RelA K ok w y u) : RelAs K ok w (xs.set i y) vs :=
 ⟨by rw [FX]; exact h.len, fun j z hj => by
  by_cases e : i = j
  ·subst e;rw [List.getElem?_set_self (D2.1 hx).1] at hj;cases hj;obtain ⟨u, h1, h2⟩ := h.get i x hx;exact ⟨u, h1, hw u h2⟩
  ·rw [List.getElem?_set_ne e] at hj;exact h.get j z hj⟩
theorem Bf {K : Km} {ok : Nat → Prop} {w : World} {sz : Nat} (u : Value) (h : RelA K ok w (.c (.sc (.slice none 0 0))) u) : RelA K ok w (.c (.sl sz [])) u := by
 cases h with
 | c h =>
  cases h with
  | cl h =>
   cases h with
   | sc _ => exact .c (.cl .sl0)
theorem CK {K : Km} {ok : Nat → Prop} {w : World} (u : Value) (h : RelA K ok w (.c (.sl 1 [[.sc (.slice none 0 0)]])) u) : RelA K ok w (.c (cE [[]])) u := by
 cases h with
 | c h =>
  cases h with
  | cl h =>
   cases h with
   | sl g h1 h2 h3 h4 h5 h6 h7 =>
    refine .c (.cl (.sl g h1 h2 h3 h4 (fun j el hj => ?_) (fun j i el x hj hi => ?_) (fun j i el x hj hi => ?_)))
    ·cases j with
     | zero => simp [aV] at hj; subst hj; rfl
     | succ j => simp [aV] at hj
    ·cases j with
     | zero =>
      simp [aV] at hj; subst hj
      cases i with
      | zero => exact h6 0 0 _ _ rfl rfl
      | succ i => simp at hi
     | succ j => simp [aV] at hj
    ·cases j with
     | zero =>
      simp [aV] at hj; subst hj
      cases i with
      | zero =>
       simp at hi; subst hi;have := h7 0 0 _ _ rfl rfl;generalize g 0 0 = v at *
       cases this with
       | sc _ => exact .sl0
      | succ i => simp at hi
     | succ j => simp [aV] at hj
theorem CL {words : Int} {g : List Int} (hw : words ≤ 65536) (h : gW words g = 0) : dp g = true := by
 unfold gW at h;split at h
 ·cases h
 ·rename_i hb;unfold dp;rw [EW];intro v hv;rw [D0, decide_eq_true_eq, decide_eq_true_eq];have : ¬ mm words v = true := fun hbad => hb (Fl.2 ⟨v, hv, hbad⟩)
  unfold mm at this;simp at this;omega
theorem u5 {words : Int} : ∀ {l : List Cnt}, kwL words l = 0 → ∀ x, x ∈ l → gW words x.1 = 0
 | [], _, x, hx => by simp at hx
 | y :: l, h, x, hx => by
  unfold kwL at h;split at h
  ·rename_i h1; exact absurd h h1
  ·rename_i h1;rcases Ey.1 hx with rfl | hx
   ·omega
   ·exact u5 h x hx
theorem sF {words : Int} : ∀ {L : List (List Cnt)}, ip words L = 0 → ∀ l, l ∈ L → kwL words l = 0
 | [], _, l, hl => by simp at hl
 | m :: L, h, l, hl => by
  unfold ip at h;split at h
  ·rename_i h1; exact absurd h h1
  ·rename_i h1;rcases Ey.1 hl with rfl | hl
   ·omega
   ·exact sF h l hl
theorem CM {L : List (List Cnt)} {words : Int} (hL : CCSum L) (h : gJ L words = 0) (hn : ∀ l, l ∈ L → ∀ x, x ∈ l → x.2 ≤ 4611686018427387904) : XOk (ao L) words := by
 obtain ⟨hok, w1, w2, hkw⟩ := jw h;refine ⟨jv hL.lim, hL.tot, fun l hl => qt hok hl, by rw [bm]; exact hok.len0, by rw [bm]; exact hok.len8, w1, w2, fun l hl x hx => ?_, fun l hl x hx => ?_⟩
 ·obtain ⟨n, hlt, rfl⟩ := dK hl;obtain ⟨y, hy, rfl⟩ := EA.1 hx;rw [qs];exact CL w2 (u5 (sF hkw _ (Ed hlt)) y hy)
 ·obtain ⟨n, hlt, rfl⟩ := dK hl;obtain ⟨y, hy, rfl⟩ := EA.1 hx;have h1 := (hok.form n hlt y hy).2;have h2 := hn _ (Ed hlt) y hy;unfold cF;split
  ·have : ahead (L.getD (n + 1) []) y.1 ≤ 1000000 := by
    by_cases h3 : n + 1 < L.length
    ·have e : L.getD (n + 1) [] = L[n + 1] := by simp [DZ, h3]
     rw [e];exact D4 (E5 _ _) (hL.lim.at' h3).len
    ·have e : L.getD (n + 1) [] = [] := by simp [DZ, Ej (E8 h3)]
     rw [e]; simp [ahead]
   show 0 ≤ ((ahead _ _ : Nat) : Int) ∧ ((ahead _ _ : Nat) : Int) ≤ _
   omega
  ·show 0 ≤ y.2 ∧ y.2 ≤ _
   omega
theorem n9 {M : Int} (hM : 0 ≤ M) : ∀ (l : List Cnt), (∀ x, x ∈ l → x.2 ≤ M) → tot l ≤ l.length * M
 | [], _ => by simp [tot]
 | y :: l, h => by
  have ih := n9 hM l fun x hx => h x (Eo _ hx)
  have hy := h y (by simp);have e : ((y :: l).length : Int) * M = l.length * M + M := by
   rw [EB]; push_cast; rw [Int.add_mul, Int.one_mul]
  rw [e];unfold tot at ih ⊢;by_cases hl : aR y = true
  ·rw [EM (p := aR) hl, EH, Gf]; omega
  ·rw [ED (p := aR) hl]; omega
theorem wt (l : List ByteArray) (s : ByteArray) : l <+: gQ l s := by
 unfold gQ; split
 ·exact List.prefix_refl _
 ·exact List.prefix_append _ _
theorem oa : ∀ (ws l : List ByteArray), l <+: cP l ws
 | [], l => List.prefix_refl _
 | w :: ws, l => (wt l w).trans (oa ws (gQ l w))
theorem pp : ∀ (L : List (List ByteArray)) (l : List ByteArray), l <+: eJ l L
 | [], l => List.prefix_refl _
 | ws :: L, l => (oa ws l).trans (pp L (cP l ws))
theorem oc (s : ByteArray) : ∀ (l : List ByteArray) (i : Nat), bY s l = i → ∃ y, l[i]? = some y ∧ (y.toList == s.toList) = true
 | [], i, h => by simp [bY] at h
 | y :: l, i, h => by
  unfold bY at h;split at h
  ·rename_i hy;have : i = 0 := by omega
   subst this;exact ⟨y, rfl, hy⟩
  ·split at h
   ·omega
   ·rename_i h1 h2;obtain ⟨z, h3, h4⟩ := oc s l (i - 1) (by omega);refine ⟨z, ?_, h4⟩;rw [show i = (i - 1) + 1 by omega];simpa using h3
theorem Bh {ws : List ByteArray} {w : ByteArray} (hp : marks15 <+: ws) (hm : kD w = false) : 0 ≤ gU ws w ∧ gU ws w < ws.length ∧ gU ws w ≠ 1 := by
 have h3 : 3 ≤ ws.length := hp.length_le;have hl := wl w ws;unfold gU;split
 ·omega
 ·refine ⟨by omega, by omega, fun h => ?_⟩;obtain ⟨y, h1, h2⟩ := oc w ws 1 h;obtain ⟨t, rfl⟩ := hp;have : y = ⟨#[60, 115, 62]⟩ := by
   have h5 : (marks15 ++ t)[1]? = some (⟨#[60, 115, 62]⟩ : ByteArray) := rfl;rw [h5] at h1;exact (FB h1).symm
  subst this;unfold kD at hm;rw [Bool.or_eq_false_iff] at hm;have h6 := beq_iff_eq.1 h2;rw [← h6] at hm;have h7 := hm.1;rw [beq_self_eq_true] at h7;cases h7
structure PadOk (words : Int) (p : List Int) : Prop where
 rg : ∀ v, v ∈ p → 0 ≤ v ∧ v < words
 tl : ∀ v, v ∈ p.drop 1 → v ≠ 1
theorem zw {ws l : List ByteArray} (hp : marks15 <+: ws) (hl : kF l) : PadOk ws.length (ek ws l) := by
 have h3 : 3 ≤ ws.length := hp.length_le;have key : ∀ v, v ∈ l.map (gU ws) ++ [2] → 0 ≤ v ∧ v < (ws.length : Int) ∧ v ≠ 1 := fun v hv => by
  rcases EF.1 hv with hv | hv
  ·obtain ⟨w, hw, rfl⟩ := EA.1 hv;exact Bh hp (hl w hw).2
  ·simp at hv; subst hv; omega
 refine ⟨fun v hv => ?_, fun v hv => (key v (by simpa [ek] using hv)).2.2⟩;have : v = 1 ∨ v ∈ l.map (gU ws) ++ [2] := by simpa [ek] using hv
 rcases this with rfl | h
 ·omega
 ·exact ⟨(key v h).1, (key v h).2.1⟩
theorem qC {p : List Int} {n : Nat} : ∀ (i : Nat) (g : List Int), g ∈ grS p n i → ∃ j, n + j ≤ p.length ∧ g = (p.drop j).take n
 | 0, g, h => by simp [grS] at h
 | i + 1, g, h => by
  unfold grS at h;split at h
  ·rename_i hi;rcases EF.1 h with h | h
   ·exact qC i g h
   ·simp at h; exact ⟨i, hi, h⟩
  ·exact qC i g h
theorem ud {L : List (List Int)} {n : Nat} {g : List Int} (h : g ∈ aZ L n) : ∃ p j, p ∈ L ∧ n + j ≤ p.length ∧ g = (p.drop j).take n := by
 unfold aZ at h;obtain ⟨l, hl, hgl⟩ := List.mem_flatten.1 h;obtain ⟨p, hpm, rfl⟩ := EA.1 hl;obtain ⟨j, h1, h2⟩ := qC _ _ hgl;exact ⟨p, j, hpm, h1, h2⟩
theorem u6 : ∀ (l : List Int), (∀ v, v ∈ l → v ≠ 1) → idx 1 l < 0
 | [], _ => by simp [idx]
 | y :: l, h => by
  unfold idx;rw [if_neg (fun e => h y (by simp) e.symm), if_pos (u6 l fun v hv => h v (Eo _ hv))];omega
theorem Dw {words : Int} {p : List Int} (hp : PadOk words p) {n j : Nat} : gW words ((p.drop j).take n) = 0 := by
 have hsub : ∀ v, v ∈ (p.drop j).take n → v ∈ p := fun v hv => Gm (Fw hv)
 unfold gW;rw [if_neg, if_neg]
 ·have := u6 (((p.drop j).take n).drop 1) fun v hv => hp.tl v (by
   rw [List.drop_take] at hv;have h1 : v ∈ (p.drop j).drop 1 := Fw hv;have e : (p.drop j).drop 1 = (p.drop 1).drop j := by rw [FK, FK, Gq]
   rw [e] at h1;exact Gm h1)
  omega
 ·rw [Fl]
  rintro ⟨v, hv, hb⟩
  have := hp.rg v (hsub v hv);unfold mm at hb;simp at hb;omega
theorem sG {words : Int} : ∀ {l : List Cnt}, (∀ x, x ∈ l → gW words x.1 = 0) → kwL words l = 0
 | [], _ => rfl
 | y :: l, h => by
  unfold kwL;rw [if_neg (by rw [h y (by simp)]; simp)];exact sG fun x hx => h x (Eo _ hx)
theorem pq {words : Int} : ∀ {L : List (List Cnt)}, (∀ l, l ∈ L → kwL words l = 0) → ip words L = 0
 | [], _ => rfl
 | y :: l, h => by
  unfold ip;rw [if_neg (by rw [h y (by simp)]; simp)];exact pq fun x hx => h x (Eo _ hx)
theorem mc {n : Nat} : ∀ {l : List Cnt} {p : Option (List Int)}, (∀ x, x ∈ l → x.1.length = n + 1 ∧ 1 ≤ x.2) → dN l → (∀ q, p = some q → ∀ x, x ∈ l → aD q x.1 < 0) → cO n p l = 0
 | [], p, _, _, _ => nA
 | x :: l, p, h, hr, hq => by
  obtain ⟨h1, h2⟩ := FD.1 hr;obtain ⟨a1, a2⟩ := h x (by simp);rw [ii, if_neg (by omega), if_neg (by omega), if_neg]
  ·exact mc (fun y hy => h y (Eo _ hy)) h2 fun q hq y hy => by cases hq; exact h1 y hy
  ·cases p with
   | none => simp
   | some q =>
    have := hq q rfl x (by simp);simp; omega
theorem kH : ∀ {L : List (List Cnt)} {n : Nat}, (∀ (k : Nat) l, L[k]? = some l → cO (n + k) none l = 0) → cT n L = 0
 | [], _, _ => rfl
 | l :: L, n, h => by
  have h0 : cO n none l = 0 := h 0 l rfl;rw [cT, if_neg (by rw [h0]; simp)];exact kH fun k x hx => by
   have := h (k + 1) x (by simpa using hx);rwa [show n + (k + 1) = n + 1 + k by omega] at this
abbrev ofL (s : ByteArray) (m : Nat) : List (List Cnt) := cd (fx (aH s) s) m
theorem od {s : ByteArray} (hs : s.size ≤ 120) : marks15 <+: aH s ∧ (aH s).length ≤ 14523 := by
 obtain ⟨b1, b2⟩ := kG s;refine ⟨pp _ _, ?_⟩;have h1 := ly (n := 120) (fL s) marks15 fun ws h => by have := (b2 ws h).1; omega
 have h3 : (fL s).length * 120 ≤ 121 * 120 := D8 _ (by omega);have h4 : marks15.length = 3 := rfl;unfold aH;omega
theorem oe {s : ByteArray} (hs : s.size ≤ 120) : (fx (aH s) s).length ≤ 121 ∧ ∀ p, p ∈ fx (aH s) s → p.length ≤ 122 ∧ PadOk (aH s).length p := by
 obtain ⟨b1, b2⟩ := kG s;unfold fx;refine ⟨by rw [EQ]; omega, fun p hp => ?_⟩;obtain ⟨l, hl, rfl⟩ := EA.1 hp;obtain ⟨c1, c2⟩ := b2 l hl;refine ⟨?_, zw (od hs).1 c2⟩;simp [ek];omega
theorem kI {L : List (List Int)} {m k : Nat} {l : List Cnt} (h : (cd L m)[k]? = some l) : k < m ∧ l = gk (aZ L (k + 1)) := by
 unfold cd at h;rw [Eb, D6] at h;obtain ⟨j, hj, rfl⟩ := h;obtain ⟨h1, h2⟩ := D2.1 hj;simp at h1 h2;subst h2;exact ⟨h1, rfl⟩
theorem Bi {s : ByteArray} (hs : s.size ≤ 120) (n : Nat) : (aZ (fx (aH s) s) n).length ≤ 14762 := by
 obtain ⟨a1, a2⟩ := oe hs;have h1 := gN (n := n) (k := 122) (fx (aH s) s) fun p h => (a2 p h).1
 have h3 : (fx (aH s) s).length * 122 ≤ 121 * 122 := D8 _ a1;omega
theorem u7 {s : ByteArray} (hs : s.size ≤ 120) {m k : Nat} {l : List Cnt} (h : (ofL s m)[k]? = some l) : k < m ∧ l.length ≤ 14762 ∧ dN l ∧ ∀ x, x ∈ l → x.1.length = k + 1 ∧ 1 ≤ x.2 ∧ x.2 ≤ 14762 ∧ gW (aH s).length x.1 = 0 := by
 obtain ⟨h1, rfl⟩ := kI h;obtain ⟨g1, g2, g3, g4⟩ := mK _ (aZ (fx (aH s) s) (k + 1)) rfl;have hb := Bi hs (k + 1);refine ⟨h1, by omega, g4, fun x hx => ?_⟩;obtain ⟨p, j, hp, hj, hg⟩ := ud (g2 x hx);have hn := g3 x hx;refine ⟨?_, hn.1, by omega, ?_⟩
 ·rw [hg, Ec, EJ]; omega
 ·rw [hg]; exact Dw ((oe hs).2 p hp).2
theorem og {s : ByteArray} (hs : s.size ≤ 120) {m : Nat} {l : List Cnt} (h : l ∈ ofL s m) (hm : m ≤ 4) : l.length ≤ 14762 ∧ dN l ∧ ∀ x, x ∈ l → x.1.length ≤ 4 ∧ 1 ≤ x.2 ∧ x.2 ≤ 14762 ∧ gW (aH s).length x.1 = 0 := by
 obtain ⟨k, hk⟩ := FS.1 h;obtain ⟨h1, h2, h3, h4⟩ := u7 hs hk;exact ⟨h2, h3, fun x hx => by obtain ⟨a1, a2⟩ := h4 x hx; exact ⟨by omega, a2⟩⟩
theorem sH {s : ByteArray} (hs : s.size ≤ 120) {m : Nat} (h1 : 1 ≤ m) (h4 : m ≤ 4) : gJ (ofL s m) (aH s).length = 0 := by
 obtain ⟨l1, l2⟩ := od hs;have l3 : 3 ≤ (aH s).length := l1.length_le;have hlen : (ofL s m).length = m := ce _ _;have hw : fl (ofL s m) = 0 := by
  unfold fl;rw [if_neg (by rw [hlen]; omega)];refine kH fun k l hk => ?_
  obtain ⟨_, _, r, hx⟩ := u7 hs hk;rw [ES];exact mc (fun x hm => ⟨(hx x hm).1, (hx x hm).2.1⟩) r fun q hq => by cases hq
 unfold gJ;rw [if_neg (by rw [hw]; simp), if_neg (by omega)];refine pq fun l hl => sG fun x hx => ?_
 exact ((og hs hl h4).2.2 x hx).2.2.2
theorem ue {s : ByteArray} (hs : s.size ≤ 120) {m : Nat} (h4 : m ≤ 4) : CCSum (ofL s m) ∧ ∀ l, l ∈ ofL s m → ∀ x, x ∈ l → x.2 ≤ 4611686018427387904 := by
 have hlen : (ofL s m).length = m := ce _ _;have hcl : CCLim (ofL s m) := ⟨by rw [hlen]; omega, fun l hl => by
  obtain ⟨a1, _, a3⟩ := og hs hl h4;exact ⟨by omega, fun x hx => by have := (a3 x hx).1; omega⟩⟩
 refine ⟨⟨hcl, fun l hl => ?_⟩, fun l hl x hx => by have := ((og hs hl h4).2.2 x hx).2.2.1; omega⟩;obtain ⟨n, hn, rfl⟩ := dK hl;obtain ⟨a1, _, a3⟩ := og hs (Ed hn) h4;have := n9 (M := 1000000) (by omega) ((ofL s m)[n].map (cF (ofL s m) n)) fun x hx' => by
  obtain ⟨y, hy, rfl⟩ := EA.1 hx';have h4 := (a3 y hy).2.2.1;unfold cF;split
  ·have : ahead ((ofL s m).getD (n + 1) []) y.1 ≤ 1000000 := by
    by_cases h3 : n + 1 < (ofL s m).length
    ·have e : (ofL s m).getD (n + 1) [] = (ofL s m)[n + 1] := by simp [DZ, h3]
     rw [e];exact D4 (E5 _ _) (hcl.at' h3).len
    ·have e : (ofL s m).getD (n + 1) [] = [] := by simp [DZ, Ej (E8 h3)]
     rw [e]; simp [ahead]
   show ((ahead _ _ : Nat) : Int) ≤ _
   omega
  ·omega
 rw [EQ] at this;have h5 : ((ofL s m)[n].length : Int) * 1000000 ≤ 14762 * 1000000 := Int.mul_le_mul_of_nonneg_right (by omega) (by omega);omega
def qv (p : Nat × Nat) : Rat := (p.1 : Rat) / (p.2 : Rat)
theorem ef {n : Nat} (h : n ≠ 0) : (n : Rat) ≠ 0 := fun e => h (Rat.natCast_inj.1 (by rw [e]; rfl))
theorem pr {n d : Nat} (h : d ≠ 0) : qv (fR n d) = (n : Rat) / (d : Rat) := by
 have hg : Nat.gcd n d ≠ 0 := fun e => h (FQ e)
 obtain ⟨a, ha⟩ := GC n d;obtain ⟨b, hb⟩ := F1 n d;unfold qv fR;generalize Nat.gcd n d = g at *
 subst ha hb;have hb0 : b ≠ 0 := fun e => h (by rw [e, Fo])
 simp only;rw [Fu _ (Ew hg), Fu _ (Ew hg), EZ, EZ];have h1 := ef hg;have h2 := ef hb0;grind
theorem jx {p q : Nat × Nat} (hp : p.2 ≠ 0) (hq : q.2 ≠ 0) : qv (cG p q) = qv p * qv q := by
 unfold cG;rw [pr (Es hp hq), EZ, EZ];have h1 := ef hp;have h2 := ef hq;unfold qv;grind
theorem qD {p q : Nat × Nat} (hp : p.2 ≠ 0) (hq : q.2 ≠ 0) (hq1 : q.1 ≠ 0) : qv (dW p q) = qv p / qv q := by
 unfold dW;rw [pr (Es hp hq1), EZ, EZ];have h1 := ef hp;have h2 := ef hq;have h3 := ef hq1;unfold qv;grind
theorem iu {p q : Nat × Nat} (hp : p.2 ≠ 0) (hq : q.2 ≠ 0) : qv (bF p q) = qv p + qv q := by
 unfold bF;rw [pr (Es hp hq), EZ, FC, EZ, EZ];have h1 := ef hp;have h2 := ef hq;unfold qv;grind
theorem zx {p q : Nat × Nat} (hp : p.2 ≠ 0) (hq : q.2 ≠ 0) (hle : q.1 * p.2 ≤ p.1 * q.2) : qv (cY p q) = qv p - qv q := by
 unfold cY;obtain ⟨c, hc⟩ := Nat.exists_eq_add_of_le hle;have e : (p.1 : Rat) * q.2 = q.1 * p.2 + c := by rw [← EZ, hc, FC, EZ]
 rw [pr (Es hp hq), hc, Nat.add_sub_cancel_left, EZ];have h1 := ef hp;have h2 := ef hq;unfold qv;grind
theorem er (n : Nat) : qv (n, 1) = n := by
 unfold qv;simp only;rw [show ((1 : Nat) : Rat) = 1 from rfl];grind
theorem CN {n d : Nat} (hd : d ≠ 0) (h : qv (fR n d) = 1) : fR n d = (1, 1) := by
 rw [pr hd] at h;have h1 := ef hd;have e : (n : Rat) = d := by grind
 have := Rat.natCast_inj.1 e;subst this;unfold fR;rw [Nat.gcd_self, GJ (Ew hd)]
theorem eK {p q : Nat × Nat} (hp : p.2 ≠ 0) (hq : q.2 ≠ 0) : (cG p q).2 ≠ 0 := ik (Es hp hq)
theorem gl {p q : Nat × Nat} (hp : p.2 ≠ 0) (hq : q.2 ≠ 0) : (bF p q).2 ≠ 0 := ik (Es hp hq)
theorem oh {p q : Nat × Nat} (hp : p.2 ≠ 0) (hq : q.1 ≠ 0) : (dW p q).2 ≠ 0 := ik (Es hp hq)
def de (f : Nat → Rat) : Nat → Rat
 | 0 => 0
 | n + 1 => de f n + f n
def fX (f : Cnt → Rat) : List Cnt → Rat
 | [] => 0
 | x :: l => f x + fX f l
theorem et {f g : Nat → Rat} : ∀ {n : Nat}, (∀ w, w < n → f w = g w) → de f n = de g n
 | 0, _ => rfl
 | n + 1, h => by rw [de, de, et fun w hw => h w (by omega), h n (by omega)]
theorem oi {f g : Nat → Rat} : ∀ {n : Nat}, de (fun w => f w + g w) n = de f n + de g n
 | 0 => by simp only [de]; grind
 | n + 1 => by simp only [de]; rw [oi]; grind
theorem ol {f : Nat → Rat} {c : Rat} : ∀ {n : Nat}, de (fun w => c * f w) n = c * de f n
 | 0 => by simp only [de]; grind
 | n + 1 => by simp only [de]; rw [ol]; grind
theorem lz : ∀ {n : Nat}, de (fun _ => 0) n = 0
 | 0 => rfl
 | n + 1 => by simp only [de]; rw [lz]; grind
theorem sI {c : Rat} {v : Nat} : ∀ {n : Nat}, de (fun w => if w = v then c else 0) n = if v < n then c else 0
 | 0 => by simp [de]
 | n + 1 => by
  simp only [de]; rw [sI];by_cases h1 : n = v
  ·subst h1; rw [if_neg (by omega), if_pos rfl, if_pos (by omega)]; grind
  ·rw [if_neg h1];by_cases h2 : v < n
   ·rw [if_pos h2, if_pos (by omega)]; grind
   ·rw [if_neg h2, if_neg (by omega)]; grind
theorem om {c : Rat} : ∀ {n : Nat}, de (fun w => if (w : Int) = 1 then 0 else c) (n + 2) = ((n + 1 : Nat) : Rat) * c
 | 0 => by
  simp only [de];rw [if_neg (by decide), if_pos (by decide), show ((0 + 1 : Nat) : Rat) = 1 from rfl];grind
 | n + 1 => by
  rw [de, om, if_neg (by omega), FC (n + 1) 1, show ((1 : Nat) : Rat) = 1 from rfl];grind
theorem oq {f g : Cnt → Rat} : ∀ {l : List Cnt}, (∀ x, x ∈ l → f x = g x) → fX f l = fX g l
 | [], _ => rfl
 | y :: l, h => by rw [fX, fX, oq fun x hx => h x (Eo _ hx), h y (by simp)]
theorem pt : ∀ l : List Cnt, fX (fun _ => 0) l = 0
 | [] => rfl
 | _ :: l => by simp only [fX]; rw [pt l]; grind
theorem Dx (f : Nat → Cnt → Rat) : ∀ (l : List Cnt) (n : Nat), de (fun w => fX (f w) l) n = fX (fun x => de (fun w => f w x) n) l
 | [], n => by simp only [fX]; exact lz
 | y :: l, n => by simp only [fX]; rw [oi, Dx f l n]
theorem md {f : Cnt → Rat} {p : Cnt → Bool} : ∀ {l : List Cnt}, fX (fun x => if p x = true then f x else 0) l = fX f (l.filter p)
 | [] => rfl
 | y :: l => by
  simp only [fX]; rw [md];by_cases h : p y = true
  ·rw [if_pos h, EM h, fX]
  ·rw [if_neg h, ED h]; grind
def nlk (g : List Int) (l : List Cnt) : Int := if cM g l < 0 then 0 else (l.getD (cM g l).toNat ([], 0)).2
theorem zy {g : List Int} {x : Cnt} {l : List Cnt} : nlk g (x :: l) = if x.1 = g then x.2 else nlk g l := by
 unfold nlk;by_cases h : x.1 = g
 ·rw [if_pos h, show cM g (x :: l) = 0 by rw [cM, if_pos h]]; rfl
 ·rw [if_neg h];have := qu g l;by_cases h2 : cM g l < 0
  ·rw [show cM g (x :: l) = -1 by rw [cM, if_neg h, if_pos h2], if_pos h2]; rfl
  ·rw [show cM g (x :: l) = cM g l + 1 by rw [cM, if_neg h, if_neg h2], if_neg h2, if_neg (by omega), show (cM g l + 1).toNat = (cM g l).toNat + 1 by omega];simp
theorem u9 {f : Int → Rat} (hf : f 0 = 0) (g : List Int) : ∀ {l : List Cnt}, dN l → f (nlk g l) = fX (fun x => if x.1 = g then f x.2 else 0) l
 | [], _ => by show f 0 = 0; exact hf
 | y :: l, h => by
  obtain ⟨h1, h2⟩ := FD.1 h;rw [zy, fX, ← u9 hf g h2];by_cases h3 : y.1 = g
  ·have h4 : nlk g l = 0 := by
    unfold nlk;rw [if_pos];rw [ge g l fun j hj e => ?_]
    ·decide
    ·have := h1 _ (Ed hj);rw [e, h3, dM] at this;omega
   rw [if_pos h3, if_pos h3, h4, hf]; grind
  ·rw [if_neg h3, if_neg h3]; grind
theorem wu {Lc : List (List Cnt)} {h : List Int} {w : Int} (hh : h.length < Lc.length) : cz Lc (h ++ [w]) = nlk (h ++ [w]) (lvl Lc h) := by
 have e : (h ++ [w]).length - 1 = h.length := by simp
 unfold cz nlk lvl;rw [e, if_neg (by simp; omega)]
def eo (words : Int) (l : List Cnt) : Prop := ∀ x, x ∈ l → ∀ (h : List Int) (v : Int), x.1 = h ++ [v] → 0 ≤ v ∧ v < words ∧ (v = 1 → h = [])
theorem Bj {f : Int → Rat} (hf : f 0 = 0) {l : List Cnt} {words : Nat} (hr : dN l) (h0 : ∀ x, x ∈ l → 0 ≤ x.2) (he : eo words l) (h : List Int) :
  de (fun w => if (w : Int) = 1 then 0 else f (nlk (h ++ [(w : Int)]) l)) words = fX (fun x => if aR x = true then f x.2 else 0) (after l h) := by
 rw [et (g := fun w => fX (fun x => if (w : Int) = 1 then 0 else if x.1 = h ++ [(w : Int)] then f x.2 else 0) l) fun w _ => ?_, Dx]
 ·unfold after;rw [← md];refine oq fun x hx => ?_
  by_cases hp : fS h x = true
  ·rw [if_pos hp];unfold fS at hp;rw [D0, decide_eq_true_eq, decide_eq_true_eq] at hp;obtain ⟨v, hv⟩ : ∃ v, x.1 = h ++ [v] := by
    refine ⟨x.1[h.length]'(by omega), ?_⟩;have e := Gc h.length x.1;rw [hp.2, Ev (by omega), List.drop_of_length_le (by omega)] at e;exact e.symm
   obtain ⟨e1, e2, e3⟩ := he x hx h v hv;obtain ⟨vn, rfl⟩ : ∃ vn : Nat, v = (vn : Int) := ⟨v.toNat, by omega⟩;rw [et (g := fun w => if w = vn then (if (vn : Int) = 1 then 0 else f x.2) else 0) fun w _ => ?_, sI, if_pos (by omega)]
   ·by_cases h1 : (vn : Int) = 1
    ·rw [if_pos h1, if_neg];have : x.1 = [1] := by rw [hv, e3 h1, h1]; rfl
     unfold aR;rw [this]; simp
    ·rw [if_neg h1];have hne : ¬ x.1 = [1] := fun h2 => by
      rw [hv] at h2;have hl := congrArg List.length h2;simp at hl;subst hl;simp at h2;omega
     by_cases h2 : x.2 < 1
     ·have := h0 x hx;rw [show x.2 = 0 by omega, hf];split <;> rfl
     ·rw [if_pos];unfold aR;rw [decide_eq_false h2, decide_eq_false hne]; rfl
   ·by_cases hw : w = vn
    ·subst hw;rw [if_pos rfl, if_pos hv]
    ·rw [if_neg hw];rw [if_neg (show ¬ x.1 = h ++ [(w : Int)] from fun e => by
      rw [hv] at e;have := List.append_cancel_left e;simp at this;omega)]
     split <;> rfl
  ·rw [if_neg hp, et (g := fun _ => 0) fun w _ => ?_, lz];rw [if_neg (show ¬ x.1 = h ++ [(w : Int)] from fun e => hp (by unfold fS; rw [e]; simp))];split <;> rfl
 ·by_cases hw : (w : Int) = 1
  ·simp only [if_pos hw];exact (pt l).symm
  ·simp only [if_neg hw];exact u9 hf _ hr
theorem Dy {n d k : Nat} (h : n ≤ k * d) : (fR n d).1 ≤ k * (fR n d).2 := by
 show n / Nat.gcd n d ≤ k * (d / Nat.gcd n d)
 rw [← Nat.mul_div_assoc k (F1 n d)];exact Nat.div_le_div_right h
theorem Bk (k : Nat) (p : Nat × Nat) : (cY (k, 1) p).1 ≤ k * (cY (k, 1) p).2 := Dy (by simp)
theorem qE (l : List Cnt) (k : Nat) (h1 : 1 ≤ k) (h3 : k ≤ 3) : (eP l k).1 ≤ k * (eP l k).2 := by
 have hk : k = 1 ∨ k = 2 ∨ k = 3 := by omega
 unfold eP;rcases hk with rfl | rfl | rfl
 all_goals
  simp only [cH];split
  ·exact Bk _ _
  ·exact FW _
theorem CO (l : List Cnt) {a : Int} (ha : 0 ≤ a) : (atN l a).1 * 1 ≤ a.toNat * (atN l a).2 := by
 rw [Fk];unfold atN at4;split
 ·exact FW _
 ·split
  ·rename_i h; subst h; exact qE l 1 (by omega) (by omega)
  ·split
   ·rename_i h; subst h; exact qE l 2 (by omega) (by omega)
   ·exact D4 (qE l 3 (by omega) (by omega)) (D8 _ (by omega))
def kJ (l : List Cnt) (a : Int) : Rat := qv (cY (a.toNat, 1) (atN l a))
theorem Bl (l : List Cnt) : kJ l 0 = 0 := by
 have : cY ((0 : Int).toNat, 1) (atN l 0) = (0, 1) := by
  unfold atN at4;rw [if_pos (by omega)];rfl
 unfold kJ;rw [this, er];rfl
theorem zz {l : List Cnt} (hl : CLim l) {a : Int} (ha : 0 ≤ a) : kJ l a = (a.toNat : Rat) - qv (atN l a) := by
 unfold kJ;rw [zx (by simp) (nY hl a).pos (CO l ha), er]
theorem pw {x : Cnt} {l : List Cnt} : totN (x :: l) = (if aR x = true then x.2.toNat else 0) + totN l := by
 have h1 : tot (x :: l) = tot [x] + tot l := iI [x] l;have h2 := cC [x];have h3 := cC l;have h4 : tot [x] = if aR x = true then x.2 else 0 := by
  unfold tot;by_cases h : aR x = true
  ·rw [if_pos h, EM h]; simp
  ·rw [if_neg h, ED h]; simp
 unfold totN;split
 ·rename_i h; rw [if_pos h] at h4; omega
 ·rename_i h; rw [if_neg h] at h4; omega
theorem wv {x : Cnt} {l : List Cnt} : tysN (x :: l) = (if aR x = true then 1 else 0) + tysN l := by
 unfold tysN;by_cases h : aR x = true
 ·rw [if_pos h, EM h, EB]; omega
 ·rw [if_neg h, ED h]; omega
theorem py {x : Cnt} {l : List Cnt} {k : Int} : aq (x :: l) k = (if aR x = true ∧ x.2 = k then 1 else 0) + aq l k := by
 unfold aq;by_cases h : aR x = true ∧ x.2 = k
 ·rw [if_pos h, EM (by simp [h]), EB]; omega
 ·rw [if_neg h, ED (by simpa using h)]; omega
def zA (l A : List Cnt) : Rat := (aq A 1 : Rat) * qv (eP l 1) + (aq A 2 : Rat) * qv (eP l 2) + ((tysN A : Rat) - (aq A 1 : Rat) - (aq A 2 : Rat)) * qv (eP l 3)
theorem CP {x : Cnt} (h : aR x = true) : 1 ≤ x.2 := by
 unfold aR at h;rw [D0] at h;have := h.1;simp at this;omega
theorem sJ {l : List Cnt} (hl : CLim l) : ∀ A : List Cnt, fX (fun x => if aR x = true then kJ l x.2 else 0) A = (totN A : Rat) - zA l A
 | [] => by
  show (0 : Rat) = ((0 : Nat) : Rat) - _
  unfold zA;rw [show ((aq [] 1 : Nat) : Rat) = 0 from rfl, show ((aq [] 2 : Nat) : Rat) = 0 from rfl, show ((tysN [] : Nat) : Rat) = 0 from rfl, show ((0 : Nat) : Rat) = 0 from rfl];grind
 | x :: A => by
  have ih := sJ hl A;rw [fX, ih];unfold zA;rw [pw, wv, py, py];by_cases h : aR x = true
  ·have h1 := CP h;rw [if_pos h, if_pos h, if_pos h, zz hl (by omega)];simp only [h, true_and, FC];rw [show ((1 : Nat) : Rat) = 1 from rfl];have h2 : x.2 = 1 ∨ x.2 = 2 ∨ 3 ≤ x.2 := by omega
   unfold atN at4;rw [if_neg (by omega)];rcases h2 with h2 | h2 | h2
   ·rw [if_pos h2, if_pos h2, if_neg (show ¬ x.2 = 2 by omega), show ((1 : Nat) : Rat) = 1 from rfl, show ((0 : Nat) : Rat) = 0 from rfl];grind
   ·rw [if_neg (show ¬ x.2 = 1 by omega), if_pos h2, if_neg (show ¬ x.2 = 1 by omega), if_pos h2, show ((1 : Nat) : Rat) = 1 from rfl, show ((0 : Nat) : Rat) = 0 from rfl];grind
   ·rw [if_neg (show ¬ x.2 = 1 by omega), if_neg (show ¬ x.2 = 2 by omega), if_neg (show ¬ x.2 = 1 by omega), if_neg (show ¬ x.2 = 2 by omega), show ((0 : Nat) : Rat) = 0 from rfl];grind
  ·rw [if_neg h, if_neg h, if_neg h, if_neg (fun e => h e.1), if_neg (fun e => h e.1)];simp only [ES];grind
theorem CQ {Lc : List (List Cnt)} {words : Int} (hx : XOk Lc words) {h : List Int} (hT : totN (after (lvl Lc h) h) ≠ 0) : qv (gi Lc h) = zA (lvl Lc h) (after (lvl Lc h) h) / (totN (after (lvl Lc h) h) : Rat) := by
 have hh : h.length < Lc.length := by
  apply Classical.byContradiction;intro hn;apply hT;have : lvl Lc h = [] := by simp [lvl, DZ, Ej (E8 hn)]
  rw [this]; rfl
 have hlv := gK hh;have hln := hx.lim.at' hh;have ob := fun k => fK hln k
 unfold gi;rw [dif_pos hh, ← hlv];rw [← hlv] at ob;generalize lvl Lc h = l at *
 have hs := mH (after l h);unfold nR;rw [if_neg (by omega)];have i := fun n : Nat => er n
 obtain ⟨c, hc⟩ := Nat.exists_eq_add_of_le hs;have p1 := (ob 1).pos;have p2 := (ob 2).pos;have p3 := (ob 3).pos;have one : (1 : Nat) ≠ 0 := by decide
 have m1 : (cG (aq (after l h) 1, 1) (eP l 1)).2 ≠ 0 := eK one p1;have m2 : (cG (aq (after l h) 2, 1) (eP l 2)).2 ≠ 0 := eK one p2;have m3 : (cG (tysN (after l h) - aq (after l h) 1 - aq (after l h) 2, 1) (eP l 3)).2 ≠ 0 := eK one p3;have a1 : (bF (cG (aq (after l h) 1, 1) (eP l 1)) (cG (aq (after l h) 2, 1) (eP l 2))).2 ≠ 0 := gl m1 m2;show qv (dW (bF (bF (cG (aq (after l h) 1, 1) (eP l 1)) (cG (aq (after l h) 2, 1) (eP l 2))) (cG (tysN (after l h) - aq (after l h) 1 - aq (after l h) 2, 1) (eP l 3))) (totN (after l h), 1)) = _
 rw [qD (gl a1 m3) one hT, iu a1 m3, iu m1 m2, jx one p1, jx one p2, jx one p3, i, i, i, i];unfold zA;congr 2;rw [hc, show aq (after l h) 1 + aq (after l h) 2 + c - aq (after l h) 1 - aq (after l h) 2 = c by omega, FC, FC];grind
def noB (f : Nat → Rat) (w : Nat) : Rat := if (w : Int) = 1 then 0 else f w
theorem sK {Lc : List (List Cnt)} {n : Nat} (hx : XOk Lc n) (he : ∀ l, l ∈ Lc → eo n l) (h : List Int) {p : Nat → Nat × Nat} (hp : ∀ w, (p w).2 ≠ 0) (hs : de (noB fun w => qv (p w)) n = 1) :
  de (noB fun w => qv (eS Lc w h (p w))) n = 1 := by
 by_cases hT : totN (after (lvl Lc h) h) = 0
 ·rw [← hs];refine et fun w _ => ?_
  unfold noB eS;simp only [if_pos hT]
 ·have hh : h.length < Lc.length := by
   apply Classical.byContradiction;intro hn;apply hT;have : lvl Lc h = [] := by simp [lvl, DZ, Ej (E8 hn)]
   rw [this]; rfl
  have hm : lvl Lc h ∈ Lc := by rw [gK hh]; exact Ed hh
  have hln := hx.lim.l _ hm;have hsn := Bj (f := kJ (lvl Lc h)) (Bl _) (words := n) (hx.rises _ hm) (fun x hxm => (hx.num _ hm x hxm).1) (he _ hm) h;rw [sJ hln] at hsn;have hg := CQ hx hT;have hgb := (kA hx h).pos;have hT' := ef hT;rw [et (g := fun w => (1 / (totN (after (lvl Lc h) h) : Rat)) * (if (w : Int) = 1 then 0 else kJ (lvl Lc h) (nlk (h ++ [(w : Int)]) (lvl Lc h))) + qv (gi Lc h) * noB (fun w => qv (p w)) w) fun w _ => ?_, oi, ol, ol, hs, hsn, hg]
  ·grind
  ·unfold noB;by_cases hw : (w : Int) = 1
   ·simp only [if_pos hw]; grind
   ·simp only [if_neg hw];unfold eS;have ob := (ed hx w h).pos;have one : (1 : Nat) ≠ 0 := by decide
    rw [if_neg hT, iu (oh ob hT) (eK hgb (hp w)), qD ob one hT, jx hgb (hp w), er];have : qv (owF Lc w h) = kJ (lvl Lc h) (nlk (h ++ [(w : Int)]) (lvl Lc h)) := by
     unfold owF kJ;rw [wu hh]
    rw [this];grind
theorem CR {Lc : List (List Cnt)} {n : Nat} (hx : XOk Lc n) : de (noB fun _ => qv (p0F n)) n = 1 := by
 have h3 := hx.w3;obtain ⟨k, rfl⟩ : ∃ k, n = k + 2 := ⟨n - 2, by omega⟩;have e : qv (p0F ((k + 2 : Nat) : Int)) = 1 / ((k + 1 : Nat) : Rat) := by
  unfold p0F;rw [show (((k + 2 : Nat) : Int) - 1).toNat = k + 1 by omega, qD (by decide) (show (1 : Nat) ≠ 0 by decide) (show k + 1 ≠ 0 by omega), er, er];rfl
 unfold noB;rw [om, e];have := ef (n := k + 1) (by omega);grind
theorem qF {Lc : List (List Cnt)} {n : Nat} (hx : XOk Lc n) (he : ∀ l, l ∈ Lc → eo n l) : ∀ h : List Int, de (noB fun w => qv (pF Lc n w h)) n = 1
 | [] => sK hx he [] (fun _ => (t5 hx).pos) (CR hx)
 | x :: t => sK hx he (x :: t) (fun w => (uX hx w t).pos) (qF hx he t)
def bs (Lc : List (List Cnt)) (words : Int) (h : List Int) : Nat → Nat × Nat
 | 0 => (0, 1)
 | w + 1 => bF (bs Lc words h w) (bj Lc words h w)
theorem mL {Lc : List (List Cnt)} {n : Nat} (hx : XOk Lc n) (h : List Int) : ∀ w : Nat, w ≤ n → (bs Lc n h w).2 ≠ 0 ∧ qv (bs Lc n h w) = de (noB fun w => qv (pF Lc n w (fW Lc h))) w
 | 0, _ => ⟨show (1 : Nat) ≠ 0 by decide, by show qv (0, 1) = 0; rw [er]; rfl⟩
 | w + 1, hw => by
  obtain ⟨i1, i2⟩ := mL hx h w (by omega);have hp := (sr hx h (w : Int)).pos;refine ⟨ik (Es i1 hp), ?_⟩;show qv (bF _ _) = de _ w + _
  rw [iu i1 hp, i2];congr 1;unfold bj noB;by_cases h1 : (w : Int) = 1
  ·rw [if_pos (.inr (.inr h1)), if_pos h1, er]; rfl
  ·rw [if_neg (by omega), if_neg h1]
theorem zB {Lc : List (List Cnt)} {n : Nat} (hx : XOk Lc n) (he : ∀ l, l ∈ Lc → eo n l) (h : List Int) : bs Lc n h n = (1, 1) := by
 have h3 := hx.w3;obtain ⟨k, rfl⟩ : ∃ k, n = k + 1 := ⟨n - 1, by omega⟩;obtain ⟨i1, i2⟩ := mL hx h (k + 1) (by omega);obtain ⟨j1, _⟩ := mL hx h k (by omega);rw [qF hx he] at i2;exact CN (Es j1 (sr hx h (k : Int)).pos) i2
theorem CS {n d N D : Nat} (hd : d ≠ 0) (h : n * D = N * d) : (fR n d).2 ∣ D := by
 have hg : Nat.gcd n d ≠ 0 := fun e => hd (FQ e)
 have hco := ju (n := n) hd;obtain ⟨a, ha⟩ := GC n d;obtain ⟨b, hb⟩ := F1 n d;unfold fR at hco ⊢;generalize Nat.gcd n d = g at *
 subst ha hb;simp only at hco ⊢;rw [Fu _ (Ew hg)] at hco ⊢;rw [Fu _ (Ew hg)] at hco;have h2 : g * (a * D) = g * (N * b) := by rw [← Ef, h, ET]
 have h3 := Nat.eq_of_mul_eq_mul_left (Ew hg) h2;exact (Nat.Coprime.symm hco).dvd_of_dvd_mul_left ⟨N, by rw [h3, Eh]⟩
theorem fM {n d : Nat} : (fR n d).2 ∣ d := Nat.div_dvd_of_dvd (F1 n d)
structure Dv (Q : Nat) (p : Nat × Nat) : Prop where
 pos : p.2 ≠ 0
 dvd : p.2 ∣ Q
theorem Dv.up {Q R : Nat} {p : Nat × Nat} (h : Dv Q p) (hd : Q ∣ R) : Dv R p := ⟨h.pos, FJ h.dvd hd⟩
theorem Dv.add {Q : Nat} {p q : Nat × Nat} (h1 : Dv Q p) (h2 : Dv Q q) : Dv Q (bF p q) := by
 refine ⟨gl h1.pos h2.pos, ?_⟩;obtain ⟨a, ha⟩ := h1.dvd;obtain ⟨b, hb⟩ := h2.dvd;refine CS (N := p.1 * a + q.1 * b) (Es h1.pos h2.pos) ?_;rw [Ek, Ek];congr 1
 ·rw [ha]; simp only [Ef, Eh, ET]
 ·rw [hb]; simp only [Ef, Eh, ET]
theorem Dv.mul {Q R : Nat} {p q : Nat × Nat} (h1 : Dv Q p) (h2 : Dv R q) : Dv (Q * R) (cG p q) :=
 ⟨eK h1.pos h2.pos, FJ fM (Nat.mul_dvd_mul h1.dvd h2.dvd)⟩
theorem Dv.sub1 {Q k : Nat} {q : Nat × Nat} (h : Dv Q q) : Dv Q (cY (k, 1) q) :=
 ⟨ik (Es (show (1 : Nat) ≠ 0 by decide) h.pos), FJ fM (by show 1 * q.2 ∣ Q; rw [EK]; exact h.dvd)⟩
theorem Dv.div1 {Q T : Nat} {p : Nat × Nat} (h : Dv Q p) (hT : T ≠ 0) : Dv (Q * T) (dW p (T, 1)) :=
 ⟨oh h.pos hT, FJ fM (Nat.mul_dvd_mul h.dvd (G1 _))⟩
theorem Dv.int {Q n : Nat} : Dv Q (n, 1) := ⟨by show (1 : Nat) ≠ 0; decide, Nat.one_dvd Q⟩
theorem Dv.bd {Q k : Nat} {p : Nat × Nat} (h : Dv Q p) (hQ : Q ≠ 0) (hk : Q < 2 ^ k) (hle : p.1 ≤ p.2) : Bd k p := by
 have := Nat.le_of_dvd (Ew hQ) h.dvd;exact ⟨h.pos, by omega, by omega⟩
def dD (l : List Cnt) : Nat := (eP l 1).2 * (eP l 2).2 * (eP l 3).2
theorem mN {l : List Cnt} (hl : CLim l) (k : Nat) (h1 : 1 ≤ k) (h3 : k ≤ 3) : Dv (dD l) (eP l k) := by
 refine ⟨(fK hl k).pos, ?_⟩;have hk : k = 1 ∨ k = 2 ∨ k = 3 := by omega
 unfold dD;rcases hk with rfl | rfl | rfl
 ·exact FJ (Gw _ _) (Gw _ _)
 ·exact FJ (Nat.dvd_mul_left _ _) (Gw _ _)
 ·exact Nat.dvd_mul_left _ _
theorem CT {l : List Cnt} (hl : CLim l) : dD l ≠ 0 := Es (Es (fK hl 1).pos (fK hl 2).pos) (fK hl 3).pos
theorem CU {l : List Cnt} (hl : CLim l) (a : Int) : Dv (dD l) (atN l a) := by
 unfold atN at4;split
 ·exact .int
 ·split
  ·exact mN hl 1 (by omega) (by omega)
  ·split
   ·exact mN hl 2 (by omega) (by omega)
   ·exact mN hl 3 (by omega) (by omega)
def lvT (Lc : List (List Cnt)) (h : List Int) : Nat := totN (after (lvl Lc h) h)
def mf (Lc : List (List Cnt)) (h : List Int) (q : Nat) : Nat := if lvT Lc h = 0 then q else dD (lvl Lc h) * lvT Lc h * q
def QF (Lc : List (List Cnt)) (words : Int) : List Int → Nat
 | [] => mf Lc [] (words - 1).toNat
 | x :: t => mf Lc (x :: t) (QF Lc words t)
theorem zC {Lc : List (List Cnt)} {h : List Int} (hT : lvT Lc h ≠ 0) : h.length < Lc.length := by
 apply Classical.byContradiction;intro hn;apply hT;have : lvl Lc h = [] := by simp [lvl, DZ, Ej (E8 hn)]
 unfold lvT;rw [this]; rfl
theorem CV {Lc : List (List Cnt)} {words : Int} (hx : XOk Lc words) {h : List Int} (hT : lvT Lc h ≠ 0) : Dv (dD (lvl Lc h) * lvT Lc h) (gi Lc h) := by
 have hh := zC hT;have hlv := gK hh;have hln := hx.lim.at' hh;unfold gi;rw [dif_pos hh, ← hlv];rw [← hlv] at hln;unfold lvT at hT ⊢;generalize lvl Lc h = l at *
 unfold nR;rw [if_neg (by omega)];have d := fun n k h1 h3 => (Dv.mul (Q := 1) (Dv.int (n := n)) (mN hln k h1 h3)).up (by rw [EK]; exact G1 _)
 exact (((d _ 1 (by omega) (by omega)).add (d _ 2 (by omega) (by omega))).add (d _ 3 (by omega) (by omega))).div1 hT
theorem vc {Lc : List (List Cnt)} {words : Int} (hx : XOk Lc words) {w : Int} {h : List Int} {p : Nat × Nat} {q : Nat} (hp : Dv q p) : Dv (mf Lc h q) (eS Lc w h p) := by
 have hlm := qx hx.lim h;unfold mf eS;show Dv (if lvT Lc h = 0 then _ else _) (if lvT Lc h = 0 then _ else _)
 by_cases hT : lvT Lc h = 0
 ·rw [if_pos hT, if_pos hT]; exact hp
 ·rw [if_neg hT, if_neg hT];exact (((CU hlm _).sub1.div1 hT).up (Gw _ _)).add ((CV hx hT).mul hp)
theorem BZ {Lc : List (List Cnt)} {words : Int} (hx : XOk Lc words) (w : Int) : ∀ h : List Int, Dv (QF Lc words h) (pF Lc words w h)
 | [] => vc hx (by
   have h3 := hx.w3;have := Dv.div1 (Dv.int (Q := 1) (n := 1)) (T := (words - 1).toNat) (by omega);rwa [EK] at this)
 | x :: t => vc hx (BZ hx w t)
theorem eL {Lc : List (List Cnt)} {words : Int} (hx : XOk Lc words) (h : List Int) (w : Int) : Dv (QF Lc words (fW Lc h)) (bj Lc words h w) := by
 unfold bj;split
 ·exact .int
 ·exact BZ hx w _
theorem pz {Lc : List (List Cnt)} {words : Int} (hx : XOk Lc words) {h : List Int} {q : Nat} (hq : q ≠ 0) : mf Lc h q ≠ 0 := by
 unfold mf;split
 ·exact hq
 ·rename_i hT;exact Es (Es (CT (qx hx.lim h)) hT) hq
theorem qG {Lc : List (List Cnt)} {words : Int} (hx : XOk Lc words) : ∀ h : List Int, QF Lc words h ≠ 0
 | [] => pz hx (by have := hx.w3; omega)
 | x :: t => pz hx (qG hx t)
structure Few (Lc : List (List Cnt)) (words : Int) (e t b : Nat) : Prop where
 d : ∀ l, l ∈ Lc → dD l < 2 ^ e
 t : ∀ l, l ∈ Lc → totN l < 2 ^ t
 w : (words - 1).toNat < 2 ^ b
theorem kK {a b k m : Nat} (h1 : a < 2 ^ k) (h2 : b < 2 ^ m) : a * b < 2 ^ (k + m) := fV h1 h2
theorem sL {Lc : List (List Cnt)} {words : Int} {e t b : Nat} (hf : Few Lc words e t b) {h : List Int} {q k : Nat} (hq : q < 2 ^ k) : mf Lc h q < 2 ^ (k + (e + t)) := by
 unfold mf;split
 ·exact Ea hq (Ep (by omega) (by omega))
 ·rename_i hT;have hh := zC hT;have hm : lvl Lc h ∈ Lc := by rw [gK hh]; exact Ed hh
  have ht : lvT Lc h < 2 ^ t := by
   have h1 := fp (fS h) (lvl Lc h);have h2 := hf.t _ hm;have : lvT Lc h ≤ totN (lvl Lc h) := by unfold lvT totN after; omega
   omega
  rw [Gq k];exact kK (kK (hf.d _ hm) ht) hq
theorem B0 {Lc : List (List Cnt)} {words : Int} {e t b : Nat} (hf : Few Lc words e t b) : ∀ h : List Int, QF Lc words h < 2 ^ (b + (e + t) * (h.length + 1))
 | [] => by
  have := sL hf (h := []) hf.w;rwa [show (e + t) * (([] : List Int).length + 1) = e + t by simp]
 | x :: l => by
  have := sL hf (h := x :: l) (B0 hf l);rwa [E4, show (e + t) * (l.length + 1) + (e + t) = (e + t) * ((x :: l).length + 1) by rw [EB, Er (e + t) (l.length + 1) 1, Fk]] at this
theorem iS {a b c : Rat} (hb : 0 < b) : a / b ≤ c ↔ a ≤ c * b := by rw [← Rat.not_lt, ← Rat.not_lt, Rat.lt_div_iff hb]
theorem fN {a b c : Rat} (hb : 0 < b) : a ≤ c / b ↔ a * b ≤ c := by rw [← Rat.not_lt, ← Rat.not_lt, Gz hb]
theorem dR (p : Nat × Nat) : 0 ≤ qv p := by
 unfold qv;by_cases h : p.2 = 0
 ·rw [h, show ((0 : Nat) : Rat) = 0 from rfl]; grind
 ·rw [fN (FH.2 (Ew h)), Rat.zero_mul];exact Rat.natCast_nonneg
theorem qH {p : Nat × Nat} (hp : p.2 ≠ 0) (h : qv p ≤ 1) : p.1 ≤ p.2 := by
 have h1 : (0 : Rat) < p.2 := FH.2 (Ew hp);have h2 := (iS h1).1 h;rw [Rat.one_mul] at h2;exact Fz.1 h2
theorem iT {f : Nat → Rat} (hf : ∀ w, 0 ≤ f w) {m : Nat} : ∀ {n : Nat}, m ≤ n → de f m ≤ de f n
 | 0, h => by
   have : m = 0 := by omega
   subst this; exact GN
 | n + 1, h => by
  by_cases hm : m = n + 1
  ·subst hm; exact GN
  ·have := iT hf (m := m) (n := n) (by omega);have h2 := hf n;simp only [de];grind
theorem jy {f : Nat → Rat} (hf : ∀ w, 0 ≤ f w) (w : Nat) : 0 ≤ noB f w := by
 unfold noB;split
 ·exact GN
 ·exact hf w
theorem Bm {Lc : List (List Cnt)} {n : Nat} (hx : XOk Lc n) (he : ∀ l, l ∈ Lc → eo n l) (h : List Int) {w : Nat} (hw : w ≤ n) : (bs Lc n h w).1 ≤ (bs Lc n h w).2 := by
 obtain ⟨i1, i2⟩ := mL hx h w hw;refine qH i1 ?_;rw [i2, ← qF hx he (fW Lc h)];exact iT (jy fun w => dR _) hw
theorem eC {Lc : List (List Cnt)} {n : Int} (hx : XOk Lc n) (h : List Int) : ∀ w, Dv (QF Lc n (fW Lc h)) (bs Lc n h w)
 | 0 => .int
 | w + 1 => (eC hx h w).add (eL hx h w)
theorem pB {Lc : List (List Cnt)} {n : Int} (hx : XOk Lc n) (h : List Int) : ∀ w, Nat.gcd (bs Lc n h w).1 (bs Lc n h w).2 = 1
 | 0 => Gk 1
 | w + 1 => ju (Es (eC hx h w).pos (eL hx h w).pos)
theorem zD {Lc : List (List Cnt)} {n : Nat} (hx : XOk Lc n) (he : ∀ l, l ∈ Lc → eo n l) (h : List Int) (w : Int) : (bj Lc n h w).1 ≤ (bj Lc n h w).2 := by
 refine qH (eL hx h w).pos ?_;by_cases hw : w < 0 ∨ n ≤ w ∨ w = 1
 ·unfold bj; rw [if_pos hw, er]; exact (by decide : (((0 : Nat) : Rat)) ≤ 1)
 ·obtain ⟨v, rfl⟩ : ∃ v : Nat, w = (v : Int) := ⟨w.toNat, by omega⟩;have h1 := iT (f := noB fun w => qv (pF Lc n w (fW Lc h))) (jy fun w => dR _) (m := v + 1) (n := n) (by omega);have h2 := iT (f := noB fun w => qv (pF Lc n w (fW Lc h))) (jy fun w => dR _) (m := 0) (n := v) (by omega);rw [qF hx he] at h1;simp only [de] at h1 h2;have h3 : noB (fun w => qv (pF Lc n w (fW Lc h))) v = qv (bj Lc n h v) := by unfold noB bj; rw [if_neg (by omega), if_neg hw]
  rw [h3] at h1;grind
end
section
abbrev Fr2 := Nat × Nat
def qI (p q : Fr2 × Fr2) : Fr2 × Fr2 := (bF p.1 (cG p.2 q.1), cG p.2 q.2)
def dT (Lc : List (List Cnt)) (n : Int) (h : List Int) (w : Int) : Fr2 × Fr2 := (bs Lc n h w.toNat, bj Lc n h w)
def eT (Lc : List (List Cnt)) (n : Int) : Fr2 × Fr2 → List Int → List Int → Fr2 × Fr2
 | p, _, [] => p
 | p, h, w :: r => eT Lc n (qI p (dT Lc n h w)) (h ++ [w]) r
theorem ot {Lc : List (List Cnt)} {n : Int} {w : Int} : ∀ (r : List Int) (p : Fr2 × Fr2) (h : List Int), eT Lc n p h (r ++ [w]) = qI (eT Lc n p h r) (dT Lc n (h ++ r) w)
 | [], p, h => by simp [eT]
 | v :: r, p, h => by
  show eT Lc n _ (h ++ [v]) (r ++ [w]) = _
  rw [ot r, GL]; rfl
def inP (Lc : List (List Cnt)) (n : Int) (h : List Int) (u : Fr2) (w : Nat) : Bool := decide ((bs Lc n h w).1 * u.2 ≤ u.1 * (bs Lc n h w).2) && decide (u.1 * (bs Lc n h (w + 1)).2 < (bs Lc n h (w + 1)).1 * u.2)
def pC (Lc : List (List Cnt)) (n : Int) (h : List Int) (u : Fr2) : Nat → Nat → Int
 | 0, _ => -1
 | f + 1, w => if inP Lc n h u w = true then w else pC Lc n h u f (w + 1)
def jg (Lc : List (List Cnt)) (n : Int) (h : List Int) (u : Fr2) : Int := pC Lc n h u n.toNat 0
theorem uf {p q : Fr2} (hp : p.2 ≠ 0) (hq : q.2 ≠ 0) : p.1 * q.2 ≤ q.1 * p.2 ↔ qv p ≤ qv q := by
 have h1 : (0 : Rat) < p.2 := FH.2 (Ew hp);have h2 : (0 : Rat) < q.2 := FH.2 (Ew hq);unfold qv;rw [iS h1, ← Fz, EZ, EZ];rw [show (q.1 : Rat) / q.2 * p.2 = (q.1 * p.2) / q.2 by grind, fN h2]
theorem CW {p q : Fr2} (hp : p.2 ≠ 0) (hq : q.2 ≠ 0) : p.1 * q.2 < q.1 * p.2 ↔ qv p < qv q := by
 have := uf hq hp;constructor
 ·intro h;apply Rat.not_le.1;rw [← this]; omega
 ·intro h;apply F4;rw [this]; exact Rat.not_le.2 h
section
variable {Lc : List (List Cnt)} {n : Nat}
theorem gm (hx : XOk Lc n) (h : List Int) (w : Nat) : qv (bs Lc n h (w + 1)) = qv (bs Lc n h w) + qv (bj Lc n h w) := iu (eC hx h w).pos (eL hx h w).pos
theorem lA (hx : XOk Lc n) (h : List Int) {v : Nat} : ∀ {w : Nat}, v ≤ w → qv (bs Lc n h v) ≤ qv (bs Lc n h w)
 | 0, hv => by
   have : v = 0 := by omega
   subst this; exact GN
 | w + 1, hv => by
  by_cases e : v = w + 1
  ·subst e; exact GN
  ·have h1 := lA hx h (v := v) (w := w) (by omega);have h2 := dR (bj Lc n h w);rw [gm hx];grind
theorem sM (hx : XOk Lc n) (he : ∀ l, l ∈ Lc → eo n l) (h : List Int) : qv (bs Lc n h n) = 1 := by
 rw [zB hx he, er]; rfl
theorem iU (hx : XOk Lc n) {h : List Int} {u : Fr2} (hu : u.2 ≠ 0) {w : Nat} : inP Lc n h u w = true ↔ qv (bs Lc n h w) ≤ qv u ∧ qv u < qv (bs Lc n h (w + 1)) := by
 unfold inP;rw [D0, decide_eq_true_eq, decide_eq_true_eq, uf (eC hx h w).pos hu, CW hu (eC hx h (w + 1)).pos]
theorem pD {h : List Int} {u : Fr2} {w : Nat} (hw : inP Lc n h u w = true) : ∀ (f v : Nat), v ≤ w → w < v + f → (∀ k, v ≤ k → k < w → inP Lc n h u k = false) → pC Lc n h u f v = w
 | 0, v, h1, h2, _ => by omega
 | f + 1, v, h1, h2, h3 => by
  unfold pC;by_cases e : v = w
  ·subst e; rw [if_pos hw]
  ·rw [if_neg (by rw [h3 v (by omega) (by omega)]; simp)];exact pD hw f (v + 1) (by omega) (by omega) fun k h4 h5 => h3 k (by omega) h5
theorem iV (hx : XOk Lc n) {h : List Int} {u : Fr2} (hu : u.2 ≠ 0) {w : Nat} (hw : w < n) (hi : inP Lc n h u w = true) : jg Lc n h u = w := by
 unfold jg;refine pD hi _ 0 (by omega) (by omega) fun k _ hk => ?_
 cases hb : inP Lc n h u k with
 | false => rfl
 | true =>
  exfalso;have h1 := ((iU hx hu).1 hb).2;have h2 := ((iU hx hu).1 hi).1;have h3 := lA hx h (v := k + 1) (w := w) (by omega);grind
theorem Bn (hx : XOk Lc n) (he : ∀ l, l ∈ Lc → eo n l) (h : List Int) {u : Fr2} (hu : u.2 ≠ 0) (h1 : qv u < 1) : ∃ w, w < n ∧ inP Lc n h u w = true ∧ jg Lc n h u = w := by
 have h0 := dR u;have key : ∀ k, k ≤ n → qv u < qv (bs Lc n h k) → ∃ w, w < k ∧ inP Lc n h u w = true := by
  intro k
  induction k with
  | zero =>
   intro _ hlt;have : qv (bs Lc n h 0) = 0 := by show qv (0, 1) = 0; rw [er]; rfl
   rw [this] at hlt;grind
  | succ k ih =>
   intro hk hlt;by_cases hb : qv (bs Lc n h k) ≤ qv u
   ·exact ⟨k, by omega, (iU hx hu).2 ⟨hb, hlt⟩⟩
   ·obtain ⟨w, a1, a2⟩ := ih (by omega) (Rat.not_le.1 hb);exact ⟨w, by omega, a2⟩
 obtain ⟨w, a1, a2⟩ := key n (D1 _) (by rw [sM hx he]; exact h1);exact ⟨w, a1, a2, iV hx hu a1 a2⟩
def spA (Lc : List (List Cnt)) (n : Int) : List Int → List Int → Rat
 | _, [] => 0
 | h, w :: r => qv (bs Lc n h w.toNat) + qv (bj Lc n h w) * spA Lc n (h ++ [w]) r
def spB (Lc : List (List Cnt)) (n : Int) : List Int → List Int → Rat
 | _, [] => 1
 | h, w :: r => qv (bj Lc n h w) * spB Lc n (h ++ [w]) r
theorem sN (hx : XOk Lc n) : ∀ (r h : List Int) (p : Fr2 × Fr2), p.1.2 ≠ 0 → p.2.2 ≠ 0 → (eT Lc n p h r).1.2 ≠ 0 ∧ (eT Lc n p h r).2.2 ≠ 0 ∧ qv (eT Lc n p h r).1 = qv p.1 + qv p.2 * spA Lc n h r ∧ qv (eT Lc n p h r).2 = qv p.2 * spB Lc n h r
 | [], h, p, h1, h2 => ⟨h1, h2, by simp only [eT, spA]; grind, by simp only [eT, spB]; grind⟩
 | w :: r, h, p, h1, h2 => by
  have d1 := (eC hx h w.toNat).pos;have d2 := (eL hx h w).pos;have m1 := eK h2 d1;obtain ⟨a1, a2, a3, a4⟩ := sN hx r (h ++ [w]) (qI p (dT Lc n h w)) (gl h1 m1) (eK h2 d2);refine ⟨a1, a2, ?_, ?_⟩
  ·show qv (eT Lc n (qI p (dT Lc n h w)) (h ++ [w]) r).1 = _
   rw [a3];simp only [qI, dT, spA];rw [iu h1 m1, jx h2 d1, jx h2 d2];grind
  ·show qv (eT Lc n (qI p (dT Lc n h w)) (h ++ [w]) r).2 = _
   rw [a4];simp only [qI, dT, spB];rw [jx h2 d2];grind
def InW (n : Int) (r : List Int) : Prop := ∀ w, w ∈ r → 0 ≤ w ∧ w < n
theorem Bo (hx : XOk Lc n) (he : ∀ l, l ∈ Lc → eo n l) (h : List Int) {w : Int} (h0 : 0 ≤ w) (h1 : w < n) : qv (bs Lc n h w.toNat) + qv (bj Lc n h w) ≤ 1 := by
 obtain ⟨v, rfl⟩ : ∃ v : Nat, w = (v : Int) := ⟨w.toNat, by omega⟩;have h2 := lA hx h (v := v + 1) (w := n) (by omega);rw [sM hx he, gm hx] at h2;exact h2
theorem vd (hx : XOk Lc n) (he : ∀ l, l ∈ Lc → eo n l) : ∀ (r h : List Int), InW n r → 0 ≤ spA Lc n h r ∧ 0 ≤ spB Lc n h r ∧ spA Lc n h r + spB Lc n h r ≤ 1
 | [], h, _ => by simp only [spA, spB]; refine ⟨GN, by decide, ?_⟩; grind
 | w :: r, h, hi => by
  obtain ⟨i1, i2, i3⟩ := vd hx he r (h ++ [w]) fun v hv => hi v (Eo _ hv)
  obtain ⟨w1, w2⟩ := hi w (by simp);have a1 := dR (bs Lc n h w.toNat);have a2 := dR (bj Lc n h w);have a3 := Bo hx he h w1 w2;have b1 := Rat.mul_nonneg a2 i1;have b2 := Rat.mul_nonneg a2 i2;have b3 : qv (bj Lc n h w) * (spA Lc n (h ++ [w]) r + spB Lc n (h ++ [w]) r) ≤ qv (bj Lc n h w) * 1 := Rat.mul_le_mul_of_nonneg_left i3 a2;simp only [spA, spB];refine ⟨?_, b2, ?_⟩ <;> grind
def oI (Lc : List (List Cnt)) (n : Int) : Nat → List Int → Fr2 → Option (List Int)
 | 0, _, _ => none
 | f + 1, h, u => if jg Lc n h u = 2 then some (h.drop 1) else if f = 0 then none else
   oI Lc n f (h ++ [jg Lc n h u]) (dW (cY u (bs Lc n h (jg Lc n h u).toNat)) (bj Lc n h (jg Lc n h u)))
theorem ou (hx : XOk Lc n) {h : List Int} {u : Fr2} (hu : u.2 ≠ 0) {w : Nat} (hi : inP Lc n h u w = true) :
  (bj Lc n h w).1 ≠ 0 ∧ (dW (cY u (bs Lc n h w)) (bj Lc n h w)).2 ≠ 0 ∧ qv (dW (cY u (bs Lc n h w)) (bj Lc n h w)) = (qv u - qv (bs Lc n h w)) / qv (bj Lc n h w) ∧ 0 < qv (bj Lc n h w) ∧ qv u < qv (bs Lc n h w) + qv (bj Lc n h w) := by
 obtain ⟨h1, h2⟩ := (iU hx hu).1 hi;rw [gm hx] at h2;have hpos : 0 < qv (bj Lc n h w) := by grind
 have hd := (eL hx h w).pos;have hs := (eC hx h w).pos;have hn : (bj Lc n h w).1 ≠ 0 := fun e => by
  unfold qv at hpos;rw [e, show ((0 : Nat) : Rat) = 0 from rfl] at hpos;grind
 have hsub : (cY u (bs Lc n h w)).2 ≠ 0 := ik (Es hu hs);refine ⟨hn, oh hsub hn, ?_, hpos, h2⟩;rw [qD hsub hd hn, zx hu hs ((uf hs hu).2 h1)]
theorem Bp (hx : XOk Lc n) {h : List Int} {u : Fr2} (hu : u.2 ≠ 0) {w : Nat} (hi : inP Lc n h u w = true) : qv (dW (cY u (bs Lc n h w)) (bj Lc n h w)) < 1 := by
 obtain ⟨_, _, h3, h4, h5⟩ := ou hx hu hi;rw [h3, Gz h4];grind
theorem sP (hx : XOk Lc n) (he : ∀ l, l ∈ Lc → eo n l) : ∀ (r h : List Int) (u : Fr2) (f : Nat), u.2 ≠ 0 → InW n r → 2 < n → (∀ w, w ∈ r → w ≠ 2) → spA Lc n h (r ++ [2]) ≤ qv u → qv u < spA Lc n h (r ++ [2]) + spB Lc n h (r ++ [2]) →
  oI Lc n f h u = if r.length < f then some ((h ++ r).drop 1) else none
 | r, h, u, 0, _, _, _, _, _, _ => by rw [if_neg (by omega)]; rfl
 | [], h, u, f + 1, hu, _, h2, _, g1, g2 => by
  have e2 : (2 : Int).toNat = 2 := rfl;simp only [Gu, spA, spB, e2] at g1 g2;have hs := gm hx h 2;have e : ((2 : Nat) : Int) = 2 := rfl;rw [e] at hs;have hi : inP Lc n h u 2 = true := by
   refine (iU hx hu).2 ?_;rw [hs];constructor <;> grind
  have hp := iV hx hu h2 hi;rw [e] at hp;unfold oI;rw [hp, if_pos rfl, if_pos (by simp), FY]
 | w :: r, h, u, f + 1, hu, hw, h2, hn, g1, g2 => by
  obtain ⟨w0, w1⟩ := hw w (by simp);obtain ⟨v, rfl⟩ : ∃ v : Nat, w = (v : Int) := ⟨w.toNat, by omega⟩;have hr : InW n (r ++ [2]) := fun x hx' => by
   rcases EF.1 hx' with hx' | hx'
   ·exact hw x (Eo _ hx')
   ·simp at hx'; subst hx'; omega
  obtain ⟨i1, i2, i3⟩ := vd hx he (r ++ [2]) (h ++ [(v : Int)]) hr;have a2 := dR (bj Lc n h v);simp only [FE, spA, spB, EE] at g1 g2;have b1 := Rat.mul_nonneg a2 i1;have b3 : qv (bj Lc n h v) * (spA Lc n (h ++ [(v : Int)]) (r ++ [2]) + spB Lc n (h ++ [(v : Int)]) (r ++ [2])) ≤ qv (bj Lc n h v) * 1 := Rat.mul_le_mul_of_nonneg_left i3 a2;have hi : inP Lc n h u v = true := by
   rw [iU hx hu, gm hx];constructor <;> grind
  obtain ⟨l1, l2, l3, l4, l5⟩ := ou hx hu hi;have hp := iV hx hu (by omega) hi;have hne := hn v (by simp);unfold oI;rw [hp, if_neg hne, EE];by_cases hf : f = 0
  ·subst hf; rw [if_pos rfl, if_neg (by simp)]
  ·rw [if_neg hf, sP hx he r (h ++ [(v : Int)]) _ f l2 (fun x hx' => hw x (Eo _ hx')) h2 (fun x hx' => hn x (Eo _ hx'))]
   ·simp
   ·rw [l3, fN l4]; grind
   ·rw [l3, Gz l4]; grind
end
end
end Go.Proofs.YtgceikecdedfcaaGreat.Pv
