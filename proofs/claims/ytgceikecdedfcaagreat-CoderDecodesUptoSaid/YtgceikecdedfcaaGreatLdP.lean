/- Parts of a proof, joined: Fs Ft Fd Fe Fa Fb Fc Ey Ez Ff Fh Fu Fv Ga Gb Ha Hb. -/
import Derived.Test.YtgceikecdedfcaaGreatLdO
namespace Go.Proofs.YtgceikecdedfcaaGreat.Pv
open Go
section
theorem qm {x : Cnt} : ∀ (l : List Cnt), (∀ z, z ∈ l → aE x.1 z.1 < 0) → pu x l true = l
 | [], _ => rfl
 | y :: l, h => by
  have h1 := h y (by simp);have h2 := eB x.1 y.1;rw [pu, if_neg (by simp), if_neg (by omega), Bool.true_or, Bool.true_or, qm l fun z hz => h z (D2 _ hz)];rfl
theorem Cm {x : Cnt} : ∀ (l : List Cnt) (b : Bool), ∀ y, y ∈ pu x l b → y.1 = x.1 ∨ ∃ z, z ∈ l ∧ z.1 = y.1
 | [], b, y, h => by
  unfold pu at h;split at h
  ·simp at h
  ·simp at h; subst h; exact .inl rfl
 | z :: l, b, y, h => by
  rw [pu] at h;rcases Ej.1 h with h | h
  ·split at h
   ·simp at h; subst h; exact .inl rfl
   ·simp at h
  ·rcases Ee.1 h with h | h
   ·right;refine ⟨z, by simp, ?_⟩;rw [h]; split <;> rfl
   ·rcases Cm l _ y h with h | ⟨w, h1, h2⟩
    ·exact .inl h
    ·exact .inr ⟨w, D2 _ h1, h2⟩
theorem Da {x : Cnt} {c : Int} (hx : 1 ≤ x.2 ∧ x.2 ≤ 1) (hc : 0 ≤ c) : ∀ (l : List Cnt) (b : Bool), (∀ z, z ∈ l → 1 ≤ z.2 ∧ z.2 ≤ c) → ∀ y, y ∈ pu x l b → 1 ≤ y.2 ∧ y.2 ≤ c + 1
 | [], b, _, y, h => by
  unfold pu at h;split at h
  ·simp at h
  ·simp at h; subst h; omega
 | z :: l, b, hl, y, h => by
  rw [pu] at h;have hz := hl z (by simp);rcases Ej.1 h with h | h
  ·split at h
   ·simp at h; subst h; omega
   ·simp at h
  ·rcases Ee.1 h with h | h
   ·rw [h]; split
    ·show 1 ≤ z.2 + x.2 ∧ z.2 + x.2 ≤ c + 1; omega
    ·omega
   ·exact Da hx hc l _ (fun w hw => hl w (D2 _ hw)) y h
theorem zd {x : Cnt} : ∀ (l : List Cnt) (b : Bool), (pu x l b).length ≤ l.length + (if b = true then 0 else 1)
 | [], b => by unfold pu; split <;> simp
 | z :: l, b => by
  rw [pu, DK, Eh, Eh];have ih := zd (x := x) l (b || decide (aE z.1 x.1 > 0) || decide (aE z.1 x.1 = 0));by_cases hb : b = true
  ·subst hb;simp at ih ⊢;omega
  ·have hb' : b = false := by simpa using hb
   subst hb';by_cases hg : aE z.1 x.1 > 0
   ·simp [hg] at ih ⊢;omega
   ·simp [hg] at ih ⊢;split at ih <;> omega
theorem sg {x : Cnt} : ∀ (l : List Cnt), dH l → dH (pu x l false)
 | [], _ => by simp [pu, dH]
 | y :: l, hr => by
  obtain ⟨hy, hr'⟩ := Fh.1 hr;have hneg := eB x.1 y.1;rw [pu];by_cases hg : aE y.1 x.1 > 0
  ·have hall : ∀ z, z ∈ l → aE x.1 z.1 < 0 := fun z hz => c9 (by omega) (hy z hz)
   rw [if_pos ⟨hg, rfl⟩, if_neg (by omega), decide_eq_true hg, Bool.false_or, Bool.true_or, qm l hall];refine Fh.2 ⟨fun z hz => ?_, hr⟩;rcases Ee.1 hz with rfl | hz
   ·omega
   ·exact hall z hz
  ·rw [if_neg (fun h => hg h.1), decide_eq_false hg, F8];by_cases h0 : aE y.1 x.1 = 0
   ·have e := kX h0;have hall : ∀ z, z ∈ l → aE x.1 z.1 < 0 := fun z hz => by rw [← e]; exact hy z hz
    rw [if_pos h0, decide_eq_true h0, Bool.or_true, qm l hall];exact Fh.2 ⟨fun z hz => hy z hz, hr'⟩
   ·rw [if_neg h0, decide_eq_false h0, GG, GG];refine Fh.2 ⟨fun z hz => ?_, sg l hr'⟩;rcases Cm l false z hz with h | ⟨w, h1, h2⟩
    ·rw [h]; omega
    ·rw [← h2]; exact hy w h1
def gb (G : List (List Int)) : List Cnt := G.foldl (fun l g => lT l (g, 1)) []
theorem o6 (G : List (List Int)) (g : List Int) : gb (G ++ [g]) = lT (gb G) (g, 1) := by simp [gb, FY]
structure GOk (G : List (List Int)) (l : List Cnt) : Prop where
 len : l.length ≤ G.length
 g : ∀ y, y ∈ l → y.1 ∈ G
 n : ∀ y, y ∈ l → 1 ≤ y.2 ∧ y.2 ≤ (G.length : Int)
 rises : dH l
theorem mA : ∀ (k : Nat) (G : List (List Int)), G.length = k → GOk G (gb G)
 | 0, G, h => by
  have : G = [] := Eb.1 h;subst this;exact ⟨by simp [gb], fun y h => by simp [gb] at h, fun y h => by simp [gb] at h, by simp [gb, dH]⟩
 | k + 1, G, h => by
  obtain ⟨G', g, rfl⟩ : ∃ G' g, G = G' ++ [g] := ⟨G.dropLast, G.getLast (by intro e; subst e; simp at h), (Fg _).symm⟩;have hk : G'.length = k := by simpa using h
  obtain ⟨a1, a2, a3, a4⟩ := mA k G' hk;rw [o6];refine ⟨?_, fun y hy => ?_, fun y hy => ?_, sg _ a4⟩
  ·have := zd (x := (g, 1)) (gb G') false;unfold lT;simp at this ⊢; omega
  ·rcases Cm _ _ y hy with e | ⟨z, h1, h2⟩
   ·rw [e]; simp
   ·rw [← h2]; exact EU _ (a2 z h1)
  ·have := Da (x := (g, 1)) (c := (G'.length : Int)) ⟨by show (1 : Int) ≤ 1; omega, by show (1 : Int) ≤ 1; omega⟩ (by omega) (gb G') false a3 y hy;rw [DK];show 1 ≤ y.2 ∧ y.2 ≤ ((G'.length + 1 : Nat) : Int)
   omega
theorem tW (L : List (List Int)) (n : Nat) (h1 : 1 ≤ n) (hn : n ≤ 1000000) (hL : L.length ≤ 600) (hp : ∀ p, p ∈ L → p.length ≤ 600) : Ct P 90 [.c (l9 L), .c (nI .i64 n)] [.c (cSl (gb (a8 L n)))] := by
 have hE := v6 L n h1 hn hL hp;have hlen : (a8 L n).length ≤ 360000 := by
  have h2 := gB (n := n) (k := 600) L hp;have h3 : L.length * 600 ≤ 600 * 600 := DP _ hL;omega
 have hg : ∀ g, g ∈ a8 L n → g.length ≤ 1000000 := fun g h => by
  unfold a8 at h;obtain ⟨l, hl, hgl⟩ := List.mem_flatten.1 h;obtain ⟨p, hpm, rfl⟩ := Ef.1 hl;have hpl := hp p hpm;have key : ∀ i, g ∈ grS p n i → g.length ≤ 1000000 := by
   intro i
   induction i with
   | zero => intro h; simp [grS] at h
   | succ i ih =>
    intro h;unfold grS at h;split at h
    ·rcases Ej.1 h with h | h
     ·exact ih h
     ·simp at h; subst h; rw [DV]; omega
    ·exact ih h
  exact key _ hgl
 generalize a8 L n = G at *
 refine Ct.go aj aa (N := 25) Tryz.func90 rfl rfl rfl rfl ?_;refine X1 _ hE ?_;refine zO (t := 5) (sz := 2) rfl ?_;refine ar aj aa (fun i : Nat => i ≤ G.length) (fun i => [(6, .c (l9 G)), (5, .c (cSl (gb (G.take i)))), (7, .c (nI .i64 i))]) (fun _ => []) (fun i => G.length - i)
  0 (by omega) ⟨rfl, rfl, rfl, trivial⟩ trivial (fun _ : Unit => True) (fun _ => [(5, .c (cSl (gb G)))]) (fun _ => []) (fun i hi => ?_) (fun _ _ => ?_)
 ·refine .intro (by rw [bc]; omega) ?_;rw [bc];refine ae (fun h2 => ?_) (fun h2 => ?_)
  ·have hi' : i < G.length := by omega
   have hget := o5 (L := G) (i := (i : Int)) (n := i) rfl hi';have hs : gb (G.take (i + 1)) = lT (gb (G.take i)) (G[i], 1) := by rw [DL hi', o6]
   obtain ⟨a1, a2, a3, a4⟩ := mA _ (G.take i) rfl;have hgl := hg _ (DU hi');have hti : (G.take i).length ≤ 360000 := by rw [DV]; omega
   generalize G[i] = g at *
   refine .intro (by omega) (X1 _ hget ?_);refine X1 _ (zc (gb (G.take i)) (g, 1) ⟨by omega, fun y hy => hg _ (Fc (a2 y hy))⟩ hgl (fun y hy => by have := a3 y hy; omega) ⟨by show (0 : Int) ≤ 1; omega, by show (1 : Int) ≤ _; omega⟩) ?_;refine X1 ((i + 1 : Nat) : Int) (wI1 (by omega)) ?_;exact ⟨i + 1, by omega, by omega, ⟨rfl, by rw [hs]; rfl, rfl, trivial⟩, trivial⟩
  ·have e : i = G.length := by omega
   subst e;rw [Ek];exact ⟨(), trivial, ⟨rfl, trivial⟩, trivial⟩
 ·exact ⟨trivial, r1 rfl, trivial⟩
def b9 (L : List (List Int)) (m : Nat) : List (List Cnt) := (List.range m).map fun k => gb (a8 L (k + 1))
theorem ov (L : List (List Int)) (m : Nat) : b9 L (m + 1) = b9 L m ++ [gb (a8 L (m + 1))] := by simp [b9, Gz]
theorem ca (L : List (List Int)) (m : Nat) : (b9 L m).length = m := by simp [b9]
theorem sh (L : List (List Int)) (m : Nat) (hm : m ≤ 1000) (hL : L.length ≤ 600) (hp : ∀ p, p ∈ L → p.length ≤ 600) : Ct P 38 [.c (l9 L), .c (nI .i64 m)] [.c (cB (b9 L m))] := by
 refine Ct.go aj aa (N := 19) Tryz.func38 rfl rfl rfl rfl ?_;refine jN (r := 34) (t := 5) (sz := 1) rfl rfl ?_;refine ar aj aa (fun i : Nat => i ≤ m) (fun i => [(0, .c (l9 L)), (1, .c (nI .i64 m)), (5, .c (.ow 34 1 i)), (6, .c (eI .i64 ((i : Int) + 1)))]) (fun i => [(34, .row 1 (aU (b9 L i)))]) (fun i => m - i)
  0 (by omega) ⟨rfl, rfl, rfl, rfl, trivial⟩ ⟨rfl, trivial⟩ (fun _ : Unit => True) (fun _ => [(5, .c (.ow 34 1 m))]) (fun _ => [(34, .row 1 (aU (b9 L m)))]) (fun i hi => ?_) (fun _ _ => ?_)
 ·refine ae (fun h1 => ?_) (fun h1 => ?_)
  ·have h2 : (i : Int) + 1 ≤ (m : Int) := h1;have hc := tW L (i + 1) (by omega) (by omega) hL hp;have hcl : az (aU (b9 L i)) := fun el h => by
    obtain ⟨x, _, rfl⟩ := Ef.1 h;rfl
   have hsn : aU (b9 L (i + 1)) = aU (b9 L i) ++ [[cSl (gb (a8 L (i + 1)))]] := by rw [ov]; simp [aU]
   refine X1 _ hc ?_;refine ⟨by rw [ax, ca], by rw [ax, ca]; show (i + 1 + 768) * 24 ≤ _; omega, by rw [ax, ca]; show i + 1 ≤ _; omega, hcl, au rfl, ?_⟩;refine X1 (((i + 1 : Nat) : Int) + 1) (wI (by simp) (by omega) (by omega)) ?_;exact ⟨i + 1, by omega, by omega, ⟨rfl, rfl, owE (by rw [DK, ax, ca]; rfl), rfl, trivial⟩, ⟨aB (by rw [hsn]; rfl), trivial⟩⟩
  ·have h2 : ¬ (i : Int) + 1 ≤ (m : Int) := h1;have e : i = m := by omega
   subst e;exact ⟨(), trivial, ⟨rfl, trivial⟩, ⟨rfl, trivial⟩⟩
 ·exact ⟨trivial, r1 rfl, trivial⟩
end
section
section
variable {Lc : List (List Cnt)} {words : Int}
end
end
section
section
variable {Lc : List (List Cnt)} {words : Int}
end
end
section
theorem CtO.args {P : Program} {f : FuncId} {O O' : Objs} {args args' res : List A1} (h : CtO P f O args O' res) (hw : ∀ K ok w vs, RelAs K ok w args' vs → RelAs K ok w args vs) : CtO P f O args' O' res :=
 ⟨fun K ok w vs hp hr => h.run K ok w vs hp (hw K ok w vs hr)⟩
theorem RelAs.set {K : Km} {ok : Nat → Prop} {w : World} {xs : List A1} {vs : List Value} {i : Nat} {x y : A1} (h : RelAs K ok w xs vs) (hx : xs[i]? = some x) (hw : ∀ u, RelA K ok w x u → RelA K ok w y u) : RelAs K ok w (xs.set i y) vs :=
 ⟨by rw [FD]; exact h.len, fun j z hj => by
  by_cases e : i = j
  ·subst e;rw [List.getElem?_set_self (DJ.1 hx).1] at hj;cases hj;obtain ⟨u, h1, h2⟩ := h.get i x hx;exact ⟨u, h1, hw u h2⟩
  ·rw [List.getElem?_set_ne e] at hj;exact h.get j z hj⟩
theorem uL {K : Km} {ok : Nat → Prop} {w : World} {sz : Nat} (u : Value) (h : RelA K ok w (.c (.sc (.slice none 0 0))) u) : RelA K ok w (.c (.sl sz [])) u := by
 cases h with
 | c h =>
  cases h with
  | cl h =>
   cases h with
   | sc _ => exact .c (.cl .sl0)
theorem Cn {K : Km} {ok : Nat → Prop} {w : World} (u : Value) (h : RelA K ok w (.c (.sl 1 [[.sc (.slice none 0 0)]])) u) : RelA K ok w (.c (cB [[]])) u := by
 cases h with
 | c h =>
  cases h with
  | cl h =>
   cases h with
   | sl g h1 h2 h3 h4 h5 h6 h7 =>
    refine .c (.cl (.sl g h1 h2 h3 h4 (fun j el hj => ?_) (fun j i el x hj hi => ?_) (fun j i el x hj hi => ?_)))
    ·cases j with
     | zero => simp [aU] at hj; subst hj; rfl
     | succ j => simp [aU] at hj
    ·cases j with
     | zero =>
      simp [aU] at hj; subst hj
      cases i with
      | zero => exact h6 0 0 _ _ rfl rfl
      | succ i => simp at hi
     | succ j => simp [aU] at hj
    ·cases j with
     | zero =>
      simp [aU] at hj; subst hj
      cases i with
      | zero =>
       simp at hi; subst hi;have := h7 0 0 _ _ rfl rfl;generalize g 0 0 = v at *
       cases this with
       | sc _ => exact .sl0
      | succ i => simp at hi
     | succ j => simp [aU] at hj
theorem Co {words : Int} {g : List Int} (hw : words ≤ 65536) (h : gW words g = 0) : di g = true := by
 unfold gW at h;split at h
 ·cases h
 ·rename_i hb;unfold di;rw [EB];intro v hv;rw [DH, decide_eq_true_eq, decide_eq_true_eq];have : ¬ l8 words v = true := fun hbad => hb (EZ.2 ⟨v, hv, hbad⟩)
  unfold l8 at this;simp at this;omega
theorem uM {words : Int} : ∀ {l : List Cnt}, kwL words l = 0 → ∀ x, x ∈ l → gW words x.1 = 0
 | [], _, x, hx => by simp at hx
 | y :: l, h, x, hx => by
  unfold kwL at h;split at h
  ·rename_i h1; exact absurd h h1
  ·rename_i h1;rcases Ee.1 hx with rfl | hx
   ·omega
   ·exact uM h x hx
theorem si {words : Int} : ∀ {L : List (List Cnt)}, hG words L = 0 → ∀ l, l ∈ L → kwL words l = 0
 | [], _, l, hl => by simp at hl
 | m :: L, h, l, hl => by
  unfold hG at h;split at h
  ·rename_i h1; exact absurd h h1
  ·rename_i h1;rcases Ee.1 hl with rfl | hl
   ·omega
   ·exact si h l hl
theorem Cp {L : List (List Cnt)} {words : Int} (hL : CCSum L) (h : gw L words = 0) (hn : ∀ l, l ∈ L → ∀ x, x ∈ l → x.2 ≤ 4611686018427387904) : XOk (ao L) words := by
 obtain ⟨hok, w1, w2, hkw⟩ := jn h;refine ⟨jm hL.lim, hL.tot, fun l hl => qf hok hl, by rw [bj]; exact hok.len0, by rw [bj]; exact hok.len8, w1, w2, fun l hl x hx => ?_, fun l hl x hx => ?_⟩
 ·obtain ⟨n, hlt, rfl⟩ := dE hl;obtain ⟨y, hy, rfl⟩ := Ef.1 hx;rw [qe];exact Co w2 (uM (si hkw _ (DU hlt)) y hy)
 ·obtain ⟨n, hlt, rfl⟩ := dE hl;obtain ⟨y, hy, rfl⟩ := Ef.1 hx;have h1 := (hok.form n hlt y hy).2;have h2 := hn _ (DU hlt) y hy;unfold cC;split
  ·have : ahead (L.getD (n + 1) []) y.1 ≤ 1000000 := by
    by_cases h3 : n + 1 < L.length
    ·have e : L.getD (n + 1) [] = L[n + 1] := by simp [DG, h3]
     rw [e];exact DM (EG _ _) (hL.lim.at' h3).len
    ·have e : L.getD (n + 1) [] = [] := by simp [DG, D4 (EM h3)]
     rw [e]; simp [ahead]
   show 0 ≤ ((ahead _ _ : Nat) : Int) ∧ ((ahead _ _ : Nat) : Int) ≤ _
   omega
  ·show 0 ≤ y.2 ∧ y.2 ≤ _
   omega
theorem nQ {M : Int} (hM : 0 ≤ M) : ∀ (l : List Cnt), (∀ x, x ∈ l → x.2 ≤ M) → tot l ≤ l.length * M
 | [], _ => by simp [tot]
 | y :: l, h => by
  have ih := nQ hM l fun x hx => h x (D2 _ hx)
  have hy := h y (by simp);have e : ((y :: l).length : Int) * M = l.length * M + M := by
   rw [Eh]; push_cast; rw [Int.add_mul, Int.one_mul]
  rw [e];unfold tot at ih ⊢;by_cases hl : aR y = true
  ·rw [Et (p := aR) hl, Ep, FV]; omega
  ·rw [Eg (p := aR) hl]; omega
theorem v7 (l : List ByteArray) (s : ByteArray) : l <+: gF l s := by
 unfold gF; split
 ·exact List.prefix_refl _
 ·exact List.prefix_append _ _
theorem nR : ∀ (ws l : List ByteArray), l <+: cL l ws
 | [], l => List.prefix_refl _
 | w :: ws, l => (v7 l w).trans (nR ws (gF l w))
theorem o7 : ∀ (L : List (List ByteArray)) (l : List ByteArray), l <+: eC l L
 | [], l => List.prefix_refl _
 | ws :: L, l => (nR ws l).trans (o7 L (cL l ws))
theorem nS (s : ByteArray) : ∀ (l : List ByteArray) (i : Nat), bW s l = i → ∃ y, l[i]? = some y ∧ (y.toList == s.toList) = true
 | [], i, h => by simp [bW] at h
 | y :: l, i, h => by
  unfold bW at h;split at h
  ·rename_i hy;have : i = 0 := by omega
   subst this;exact ⟨y, rfl, hy⟩
  ·split at h
   ·omega
   ·rename_i h1 h2;obtain ⟨z, h3, h4⟩ := nS s l (i - 1) (by omega);refine ⟨z, ?_, h4⟩;rw [show i = (i - 1) + 1 by omega];simpa using h3
theorem AT {ws : List ByteArray} {w : ByteArray} (hp : marks15 <+: ws) (hm : kr w = false) : 0 ≤ gH ws w ∧ gH ws w < ws.length ∧ gH ws w ≠ 1 := by
 have h3 : 3 ≤ ws.length := hp.length_le;have hl := vY w ws;unfold gH;split
 ·omega
 ·refine ⟨by omega, by omega, fun h => ?_⟩;obtain ⟨y, h1, h2⟩ := nS w ws 1 h;obtain ⟨t, rfl⟩ := hp;have : y = ⟨#[60, 115, 62]⟩ := by
   have h5 : (marks15 ++ t)[1]? = some (⟨#[60, 115, 62]⟩ : ByteArray) := rfl;rw [h5] at h1;exact (Fm h1).symm
  subst this;unfold kr at hm;rw [Bool.or_eq_false_iff] at hm;have h6 := beq_iff_eq.1 h2;rw [← h6] at hm;have h7 := hm.1;rw [beq_self_eq_true] at h7;cases h7
structure PadOk (words : Int) (p : List Int) : Prop where
 rg : ∀ v, v ∈ p → 0 ≤ v ∧ v < words
 tl : ∀ v, v ∈ p.drop 1 → v ≠ 1
theorem ze {ws l : List ByteArray} (hp : marks15 <+: ws) (hl : kv l) : PadOk ws.length (eg ws l) := by
 have h3 : 3 ≤ ws.length := hp.length_le;have key : ∀ v, v ∈ l.map (gH ws) ++ [2] → 0 ≤ v ∧ v < (ws.length : Int) ∧ v ≠ 1 := fun v hv => by
  rcases Ej.1 hv with hv | hv
  ·obtain ⟨w, hw, rfl⟩ := Ef.1 hv;exact AT hp (hl w hw).2
  ·simp at hv; subst hv; omega
 refine ⟨fun v hv => ?_, fun v hv => (key v (by simpa [eg] using hv)).2.2⟩;have : v = 1 ∨ v ∈ l.map (gH ws) ++ [2] := by simpa [eg] using hv
 rcases this with rfl | h
 ·omega
 ·exact ⟨(key v h).1, (key v h).2.1⟩
theorem qn {p : List Int} {n : Nat} : ∀ (i : Nat) (g : List Int), g ∈ grS p n i → ∃ j, n + j ≤ p.length ∧ g = (p.drop j).take n
 | 0, g, h => by simp [grS] at h
 | i + 1, g, h => by
  unfold grS at h;split at h
  ·rename_i hi;rcases Ej.1 h with h | h
   ·exact qn i g h
   ·simp at h; exact ⟨i, hi, h⟩
  ·exact qn i g h
theorem tX {L : List (List Int)} {n : Nat} {g : List Int} (h : g ∈ a8 L n) : ∃ p j, p ∈ L ∧ n + j ≤ p.length ∧ g = (p.drop j).take n := by
 unfold a8 at h;obtain ⟨l, hl, hgl⟩ := List.mem_flatten.1 h;obtain ⟨p, hpm, rfl⟩ := Ef.1 hl;obtain ⟨j, h1, h2⟩ := qn _ _ hgl;exact ⟨p, j, hpm, h1, h2⟩
theorem uN : ∀ (l : List Int), (∀ v, v ∈ l → v ≠ 1) → idx 1 l < 0
 | [], _ => by simp [idx]
 | y :: l, h => by
  unfold idx;rw [if_neg (fun e => h y (by simp) e.symm), if_pos (uN l fun v hv => h v (D2 _ hv))];omega
theorem Db {words : Int} {p : List Int} (hp : PadOk words p) {n j : Nat} : gW words ((p.drop j).take n) = 0 := by
 have hsub : ∀ v, v ∈ (p.drop j).take n → v ∈ p := fun v hv => F2 (Fc hv)
 unfold gW;rw [if_neg, if_neg]
 ·have := uN (((p.drop j).take n).drop 1) fun v hv => hp.tl v (by
   rw [List.drop_take] at hv;have h1 : v ∈ (p.drop j).drop 1 := Fc hv;have e : (p.drop j).drop 1 = (p.drop 1).drop j := by rw [Fs, Fs, F5]
   rw [e] at h1;exact F2 h1)
  omega
 ·rw [EZ]
  rintro ⟨v, hv, hb⟩
  have := hp.rg v (hsub v hv);unfold l8 at hb;simp at hb;omega
theorem sj {words : Int} : ∀ {l : List Cnt}, (∀ x, x ∈ l → gW words x.1 = 0) → kwL words l = 0
 | [], _ => rfl
 | y :: l, h => by
  unfold kwL;rw [if_neg (by rw [h y (by simp)]; simp)];exact sj fun x hx => h x (D2 _ hx)
theorem o8 {words : Int} : ∀ {L : List (List Cnt)}, (∀ l, l ∈ L → kwL words l = 0) → hG words L = 0
 | [], _ => rfl
 | y :: l, h => by
  unfold hG;rw [if_neg (by rw [h y (by simp)]; simp)];exact o8 fun x hx => h x (D2 _ hx)
theorem lU {n : Nat} : ∀ {l : List Cnt} {p : Option (List Int)}, (∀ x, x ∈ l → x.1.length = n + 1 ∧ 1 ≤ x.2) → dH l → (∀ q, p = some q → ∀ x, x ∈ l → aE q x.1 < 0) → cK n p l = 0
 | [], p, _, _, _ => ni
 | x :: l, p, h, hr, hq => by
  obtain ⟨h1, h2⟩ := Fh.1 hr;obtain ⟨a1, a2⟩ := h x (by simp);rw [gX, if_neg (by omega), if_neg (by omega), if_neg]
  ·exact lU (fun y hy => h y (D2 _ hy)) h2 fun q hq y hy => by cases hq; exact h1 y hy
  ·cases p with
   | none => simp
   | some q =>
    have := hq q rfl x (by simp);simp; omega
theorem kx : ∀ {L : List (List Cnt)} {n : Nat}, (∀ (k : Nat) l, L[k]? = some l → cK (n + k) none l = 0) → cQ n L = 0
 | [], _, _ => rfl
 | l :: L, n, h => by
  have h0 : cK n none l = 0 := h 0 l rfl;rw [cQ, if_neg (by rw [h0]; simp)];exact kx fun k x hx => by
   have := h (k + 1) x (by simpa using hx);rwa [show n + (k + 1) = n + 1 + k by omega] at this
abbrev ofL (s : ByteArray) (m : Nat) : List (List Cnt) := b9 (fp (aH s) s) m
theorem nT {s : ByteArray} (hs : s.size ≤ 120) : marks15 <+: aH s ∧ (aH s).length ≤ 14523 := by
 obtain ⟨b1, b2⟩ := kw s;refine ⟨o7 _ _, ?_⟩;have h1 := lg (n := 120) (fF s) marks15 fun ws h => by have := (b2 ws h).1; omega
 have h3 : (fF s).length * 120 ≤ 121 * 120 := DP _ (by omega);have h4 : marks15.length = 3 := rfl;unfold aH;omega
theorem nU {s : ByteArray} (hs : s.size ≤ 120) : (fp (aH s) s).length ≤ 121 ∧ ∀ p, p ∈ fp (aH s) s → p.length ≤ 122 ∧ PadOk (aH s).length p := by
 obtain ⟨b1, b2⟩ := kw s;unfold fp;refine ⟨by rw [Ez]; omega, fun p hp => ?_⟩;obtain ⟨l, hl, rfl⟩ := Ef.1 hp;obtain ⟨c1, c2⟩ := b2 l hl;refine ⟨?_, ze (nT hs).1 c2⟩;simp [eg];omega
theorem ky {L : List (List Int)} {m k : Nat} {l : List Cnt} (h : (b9 L m)[k]? = some l) : k < m ∧ l = gb (a8 L (k + 1)) := by
 unfold b9 at h;rw [DT, DN] at h;obtain ⟨j, hj, rfl⟩ := h;obtain ⟨h1, h2⟩ := DJ.1 hj;simp at h1 h2;subst h2;exact ⟨h1, rfl⟩
theorem AU {s : ByteArray} (hs : s.size ≤ 120) (n : Nat) : (a8 (fp (aH s) s) n).length ≤ 14762 := by
 obtain ⟨a1, a2⟩ := nU hs;have h1 := gB (n := n) (k := 122) (fp (aH s) s) fun p h => (a2 p h).1
 have h3 : (fp (aH s) s).length * 122 ≤ 121 * 122 := DP _ a1;omega
theorem uO {s : ByteArray} (hs : s.size ≤ 120) {m k : Nat} {l : List Cnt} (h : (ofL s m)[k]? = some l) : k < m ∧ l.length ≤ 14762 ∧ dH l ∧ ∀ x, x ∈ l → x.1.length = k + 1 ∧ 1 ≤ x.2 ∧ x.2 ≤ 14762 ∧ gW (aH s).length x.1 = 0 := by
 obtain ⟨h1, rfl⟩ := ky h;obtain ⟨g1, g2, g3, g4⟩ := mA _ (a8 (fp (aH s) s) (k + 1)) rfl;have hb := AU hs (k + 1);refine ⟨h1, by omega, g4, fun x hx => ?_⟩;obtain ⟨p, j, hp, hj, hg⟩ := tX (g2 x hx);have hn := g3 x hx;refine ⟨?_, hn.1, by omega, ?_⟩
 ·rw [hg, DV, Eo]; omega
 ·rw [hg]; exact Db ((nU hs).2 p hp).2
theorem nW {s : ByteArray} (hs : s.size ≤ 120) {m : Nat} {l : List Cnt} (h : l ∈ ofL s m) (hm : m ≤ 4) : l.length ≤ 14762 ∧ dH l ∧ ∀ x, x ∈ l → x.1.length ≤ 4 ∧ 1 ≤ x.2 ∧ x.2 ≤ 14762 ∧ gW (aH s).length x.1 = 0 := by
 obtain ⟨k, hk⟩ := FN.1 h;obtain ⟨h1, h2, h3, h4⟩ := uO hs hk;exact ⟨h2, h3, fun x hx => by obtain ⟨a1, a2⟩ := h4 x hx; exact ⟨by omega, a2⟩⟩
theorem sn {s : ByteArray} (hs : s.size ≤ 120) {m : Nat} (h1 : 1 ≤ m) (h4 : m ≤ 4) : gw (ofL s m) (aH s).length = 0 := by
 obtain ⟨l1, l2⟩ := nT hs;have l3 : 3 ≤ (aH s).length := l1.length_le;have hlen : (ofL s m).length = m := ca _ _;have hw : fg (ofL s m) = 0 := by
  unfold fg;rw [if_neg (by rw [hlen]; omega)];refine kx fun k l hk => ?_
  obtain ⟨_, _, r, hx⟩ := uO hs hk;rw [Ey];exact lU (fun x hm => ⟨(hx x hm).1, (hx x hm).2.1⟩) r fun q hq => by cases hq
 unfold gw;rw [if_neg (by rw [hw]; simp), if_neg (by omega)];refine o8 fun l hl => sj fun x hx => ?_
 exact ((nW hs hl h4).2.2 x hx).2.2.2
theorem tY {s : ByteArray} (hs : s.size ≤ 120) {m : Nat} (h4 : m ≤ 4) : CCSum (ofL s m) ∧ ∀ l, l ∈ ofL s m → ∀ x, x ∈ l → x.2 ≤ 4611686018427387904 := by
 have hlen : (ofL s m).length = m := ca _ _;have hcl : CCLim (ofL s m) := ⟨by rw [hlen]; omega, fun l hl => by
  obtain ⟨a1, _, a3⟩ := nW hs hl h4;exact ⟨by omega, fun x hx => by have := (a3 x hx).1; omega⟩⟩
 refine ⟨⟨hcl, fun l hl => ?_⟩, fun l hl x hx => by have := ((nW hs hl h4).2.2 x hx).2.2.1; omega⟩;obtain ⟨n, hn, rfl⟩ := dE hl;obtain ⟨a1, _, a3⟩ := nW hs (DU hn) h4;have := nQ (M := 1000000) (by omega) ((ofL s m)[n].map (cC (ofL s m) n)) fun x hx' => by
  obtain ⟨y, hy, rfl⟩ := Ef.1 hx';have h4 := (a3 y hy).2.2.1;unfold cC;split
  ·have : ahead ((ofL s m).getD (n + 1) []) y.1 ≤ 1000000 := by
    by_cases h3 : n + 1 < (ofL s m).length
    ·have e : (ofL s m).getD (n + 1) [] = (ofL s m)[n + 1] := by simp [DG, h3]
     rw [e];exact DM (EG _ _) (hcl.at' h3).len
    ·have e : (ofL s m).getD (n + 1) [] = [] := by simp [DG, D4 (EM h3)]
     rw [e]; simp [ahead]
   show ((ahead _ _ : Nat) : Int) ≤ _
   omega
  ·omega
 rw [Ez] at this;have h5 : ((ofL s m)[n].length : Int) * 1000000 ≤ 14762 * 1000000 := Int.mul_le_mul_of_nonneg_right (by omega) (by omega);omega
def qv (p : Nat × Nat) : Rat := (p.1 : Rat) / (p.2 : Rat)
theorem d8 {n : Nat} (h : n ≠ 0) : (n : Rat) ≠ 0 := fun e => h (Rat.natCast_inj.1 (by rw [e]; rfl))
theorem o9 {n d : Nat} (h : d ≠ 0) : qv (fR n d) = (n : Rat) / (d : Rat) := by
 have hg : Nat.gcd n d ≠ 0 := fun e => h (Fy e)
 obtain ⟨a, ha⟩ := Gh n d;obtain ⟨b, hb⟩ := FG n d;unfold qv fR;generalize Nat.gcd n d = g at *
 subst ha hb;have hb0 : b ≠ 0 := fun e => h (by rw [e, E4])
 simp only;rw [Fa _ (Ec hg), Fa _ (Ec hg), EJ, EJ];have h1 := d8 hg;have h2 := d8 hb0;grind
theorem jo {p q : Nat × Nat} (hp : p.2 ≠ 0) (hq : q.2 ≠ 0) : qv (cD p q) = qv p * qv q := by
 unfold cD;rw [o9 (D6 hp hq), EJ, EJ];have h1 := d8 hp;have h2 := d8 hq;unfold qv;grind
theorem qo {p q : Nat × Nat} (hp : p.2 ≠ 0) (hq : q.2 ≠ 0) (hq1 : q.1 ≠ 0) : qv (dN p q) = qv p / qv q := by
 unfold dN;rw [o9 (D6 hp hq1), EJ, EJ];have h1 := d8 hp;have h2 := d8 hq;have h3 := d8 hq1;unfold qv;grind
theorem ic {p q : Nat × Nat} (hp : p.2 ≠ 0) (hq : q.2 ≠ 0) : qv (bE p q) = qv p + qv q := by
 unfold bE;rw [o9 (D6 hp hq), EJ, Fn, EJ, EJ];have h1 := d8 hp;have h2 := d8 hq;unfold qv;grind
theorem zf {p q : Nat × Nat} (hp : p.2 ≠ 0) (hq : q.2 ≠ 0) (hle : q.1 * p.2 ≤ p.1 * q.2) : qv (cV p q) = qv p - qv q := by
 unfold cV;obtain ⟨c, hc⟩ := Nat.exists_eq_add_of_le hle;have e : (p.1 : Rat) * q.2 = q.1 * p.2 + c := by rw [← EJ, hc, Fn, EJ]
 rw [o9 (D6 hp hq), hc, Nat.add_sub_cancel_left, EJ];have h1 := d8 hp;have h2 := d8 hq;unfold qv;grind
theorem ek (n : Nat) : qv (n, 1) = n := by
 unfold qv;simp only;rw [show ((1 : Nat) : Rat) = 1 from rfl];grind
theorem Cq {n d : Nat} (hd : d ≠ 0) (h : qv (fR n d) = 1) : fR n d = (1, 1) := by
 rw [o9 hd] at h;have h1 := d8 hd;have e : (n : Rat) = d := by grind
 have := Rat.natCast_inj.1 e;subst this;unfold fR;rw [Nat.gcd_self, Gp (Ec hd)]
theorem eD {p q : Nat × Nat} (hp : p.2 ≠ 0) (hq : q.2 ≠ 0) : (cD p q).2 ≠ 0 := gZ (D6 hp hq)
theorem gc {p q : Nat × Nat} (hp : p.2 ≠ 0) (hq : q.2 ≠ 0) : (bE p q).2 ≠ 0 := gZ (D6 hp hq)
theorem nX {p q : Nat × Nat} (hp : p.2 ≠ 0) (hq : q.1 ≠ 0) : (dN p q).2 ≠ 0 := gZ (D6 hp hq)
def da (f : Nat → Rat) : Nat → Rat
 | 0 => 0
 | n + 1 => da f n + f n
def fP (f : Cnt → Rat) : List Cnt → Rat
 | [] => 0
 | x :: l => f x + fP f l
theorem eo {f g : Nat → Rat} : ∀ {n : Nat}, (∀ w, w < n → f w = g w) → da f n = da g n
 | 0, _ => rfl
 | n + 1, h => by rw [da, da, eo fun w hw => h w (by omega), h n (by omega)]
theorem nY {f g : Nat → Rat} : ∀ {n : Nat}, da (fun w => f w + g w) n = da f n + da g n
 | 0 => by simp only [da]; grind
 | n + 1 => by simp only [da]; rw [nY]; grind
theorem nZ {f : Nat → Rat} {c : Rat} : ∀ {n : Nat}, da (fun w => c * f w) n = c * da f n
 | 0 => by simp only [da]; grind
 | n + 1 => by simp only [da]; rw [nZ]; grind
theorem lh : ∀ {n : Nat}, da (fun _ => 0) n = 0
 | 0 => rfl
 | n + 1 => by simp only [da]; rw [lh]; grind
theorem so {c : Rat} {v : Nat} : ∀ {n : Nat}, da (fun w => if w = v then c else 0) n = if v < n then c else 0
 | 0 => by simp [da]
 | n + 1 => by
  simp only [da]; rw [so];by_cases h1 : n = v
  ·subst h1; rw [if_neg (by omega), if_pos rfl, if_pos (by omega)]; grind
  ·rw [if_neg h1];by_cases h2 : v < n
   ·rw [if_pos h2, if_pos (by omega)]; grind
   ·rw [if_neg h2, if_neg (by omega)]; grind
theorem n6 {c : Rat} : ∀ {n : Nat}, da (fun w => if (w : Int) = 1 then 0 else c) (n + 2) = ((n + 1 : Nat) : Rat) * c
 | 0 => by
  simp only [da];rw [if_neg (by decide), if_pos (by decide), show ((0 + 1 : Nat) : Rat) = 1 from rfl];grind
 | n + 1 => by
  rw [da, n6, if_neg (by omega), Fn (n + 1) 1, show ((1 : Nat) : Rat) = 1 from rfl];grind
theorem n7 {f g : Cnt → Rat} : ∀ {l : List Cnt}, (∀ x, x ∈ l → f x = g x) → fP f l = fP g l
 | [], _ => rfl
 | y :: l, h => by rw [fP, fP, n7 fun x hx => h x (D2 _ hx), h y (by simp)]
theorem pa : ∀ l : List Cnt, fP (fun _ => 0) l = 0
 | [] => rfl
 | _ :: l => by simp only [fP]; rw [pa l]; grind
theorem Dc (f : Nat → Cnt → Rat) : ∀ (l : List Cnt) (n : Nat), da (fun w => fP (f w) l) n = fP (fun x => da (fun w => f w x) n) l
 | [], n => by simp only [fP]; exact lh
 | y :: l, n => by simp only [fP]; rw [nY, Dc f l n]
theorem lV {f : Cnt → Rat} {p : Cnt → Bool} : ∀ {l : List Cnt}, fP (fun x => if p x = true then f x else 0) l = fP f (l.filter p)
 | [] => rfl
 | y :: l => by
  simp only [fP]; rw [lV];by_cases h : p y = true
  ·rw [if_pos h, Et h, fP]
  ·rw [if_neg h, Eg h]; grind
def nlk (g : List Int) (l : List Cnt) : Int := if cJ g l < 0 then 0 else (l.getD (cJ g l).toNat ([], 0)).2
theorem zg {g : List Int} {x : Cnt} {l : List Cnt} : nlk g (x :: l) = if x.1 = g then x.2 else nlk g l := by
 unfold nlk;by_cases h : x.1 = g
 ·rw [if_pos h, show cJ g (x :: l) = 0 by rw [cJ, if_pos h]]; rfl
 ·rw [if_neg h];have := qg g l;by_cases h2 : cJ g l < 0
  ·rw [show cJ g (x :: l) = -1 by rw [cJ, if_neg h, if_pos h2], if_pos h2]; rfl
  ·rw [show cJ g (x :: l) = cJ g l + 1 by rw [cJ, if_neg h, if_neg h2], if_neg h2, if_neg (by omega), show (cJ g l + 1).toNat = (cJ g l).toNat + 1 by omega];simp
theorem uP {f : Int → Rat} (hf : f 0 = 0) (g : List Int) : ∀ {l : List Cnt}, dH l → f (nlk g l) = fP (fun x => if x.1 = g then f x.2 else 0) l
 | [], _ => by show f 0 = 0; exact hf
 | y :: l, h => by
  obtain ⟨h1, h2⟩ := Fh.1 h;rw [zg, fP, ← uP hf g h2];by_cases h3 : y.1 = g
  ·have h4 : nlk g l = 0 := by
    unfold nlk;rw [if_pos];rw [f6 g l fun j hj e => ?_]
    ·decide
    ·have := h1 _ (DU hj);rw [e, h3, dG] at this;omega
   rw [if_pos h3, if_pos h3, h4, hf]; grind
  ·rw [if_neg h3, if_neg h3]; grind
theorem v8 {Lc : List (List Cnt)} {h : List Int} {w : Int} (hh : h.length < Lc.length) : cw Lc (h ++ [w]) = nlk (h ++ [w]) (lvl Lc h) := by
 have e : (h ++ [w]).length - 1 = h.length := by simp
 unfold cw nlk lvl;rw [e, if_neg (by simp; omega)]
def eE (words : Int) (l : List Cnt) : Prop := ∀ x, x ∈ l → ∀ (h : List Int) (v : Int), x.1 = h ++ [v] → 0 ≤ v ∧ v < words ∧ (v = 1 → h = [])
theorem AW {f : Int → Rat} (hf : f 0 = 0) {l : List Cnt} {words : Nat} (hr : dH l) (h0 : ∀ x, x ∈ l → 0 ≤ x.2) (he : eE words l) (h : List Int) :
  da (fun w => if (w : Int) = 1 then 0 else f (nlk (h ++ [(w : Int)]) l)) words = fP (fun x => if aR x = true then f x.2 else 0) (after l h) := by
 rw [eo (g := fun w => fP (fun x => if (w : Int) = 1 then 0 else if x.1 = h ++ [(w : Int)] then f x.2 else 0) l) fun w _ => ?_, Dc]
 ·unfold after;rw [← lV];refine n7 fun x hx => ?_
  by_cases hp : fK h x = true
  ·rw [if_pos hp];unfold fK at hp;rw [DH, decide_eq_true_eq, decide_eq_true_eq] at hp;obtain ⟨v, hv⟩ : ∃ v, x.1 = h ++ [v] := by
    refine ⟨x.1[h.length]'(by omega), ?_⟩;have e := FS h.length x.1;rw [hp.2, D8 (by omega), List.drop_of_length_le (by omega)] at e;exact e.symm
   obtain ⟨e1, e2, e3⟩ := he x hx h v hv;obtain ⟨vn, rfl⟩ : ∃ vn : Nat, v = (vn : Int) := ⟨v.toNat, by omega⟩;rw [eo (g := fun w => if w = vn then (if (vn : Int) = 1 then 0 else f x.2) else 0) fun w _ => ?_, so, if_pos (by omega)]
   ·by_cases h1 : (vn : Int) = 1
    ·rw [if_pos h1, if_neg];have : x.1 = [1] := by rw [hv, e3 h1, h1]; rfl
     unfold aR;rw [this]; simp
    ·rw [if_neg h1];have hne : ¬ x.1 = [1] := fun h2 => by
      rw [hv] at h2;have hl := congrArg List.length h2;simp at hl;subst hl;simp at h2;omega
     by_cases h2 : x.2 < 1
     ·have := h0 x hx;rw [show x.2 = 0 by omega, hf];split <;> rfl
     ·rw [if_pos];unfold aR;rw [decide_eq_false h2, decide_eq_false hne]; rfl
   ·by_cases hw : w = vn
    ·subst hw;rw [if_pos rfl, if_pos hv]
    ·rw [if_neg hw];rw [if_neg (show ¬ x.1 = h ++ [(w : Int)] from fun e => by
      rw [hv] at e;have := List.append_cancel_left e;simp at this;omega)]
     split <;> rfl
  ·rw [if_neg hp, eo (g := fun _ => 0) fun w _ => ?_, lh];rw [if_neg (show ¬ x.1 = h ++ [(w : Int)] from fun e => hp (by unfold fK; rw [e]; simp))];split <;> rfl
 ·by_cases hw : (w : Int) = 1
  ·simp only [if_pos hw];exact (pa l).symm
  ·simp only [if_neg hw];exact uP hf _ hr
theorem Dd {n d k : Nat} (h : n ≤ k * d) : (fR n d).1 ≤ k * (fR n d).2 := by
 show n / Nat.gcd n d ≤ k * (d / Nat.gcd n d)
 rw [← Nat.mul_div_assoc k (FG n d)];exact Nat.div_le_div_right h
theorem AX (k : Nat) (p : Nat × Nat) : (cV (k, 1) p).1 ≤ k * (cV (k, 1) p).2 := Dd (by simp)
theorem qp (l : List Cnt) (k : Nat) (h1 : 1 ≤ k) (h3 : k ≤ 3) : (eK l k).1 ≤ k * (eK l k).2 := by
 have hk : k = 1 ∨ k = 2 ∨ k = 3 := by omega
 unfold eK;rcases hk with rfl | rfl | rfl
 all_goals
  simp only [cE];split
  ·exact AX _ _
  ·exact FC _
theorem Cr (l : List Cnt) {a : Int} (ha : 0 ≤ a) : (atN l a).1 * 1 ≤ a.toNat * (atN l a).2 := by
 rw [E6];unfold atN at4;split
 ·exact FC _
 ·split
  ·rename_i h; subst h; exact qp l 1 (by omega) (by omega)
  ·split
   ·rename_i h; subst h; exact qp l 2 (by omega) (by omega)
   ·exact DM (qp l 3 (by omega) (by omega)) (DP _ (by omega))
def kz (l : List Cnt) (a : Int) : Rat := qv (cV (a.toNat, 1) (atN l a))
theorem AY (l : List Cnt) : kz l 0 = 0 := by
 have : cV ((0 : Int).toNat, 1) (atN l 0) = (0, 1) := by
  unfold atN at4;rw [if_pos (by omega)];rfl
 unfold kz;rw [this, ek];rfl
theorem zh {l : List Cnt} (hl : CLim l) {a : Int} (ha : 0 ≤ a) : kz l a = (a.toNat : Rat) - qv (atN l a) := by
 unfold kz;rw [zf (by simp) (nL hl a).pos (Cr l ha), ek]
theorem pc {x : Cnt} {l : List Cnt} : totN (x :: l) = (if aR x = true then x.2.toNat else 0) + totN l := by
 have h1 : tot (x :: l) = tot [x] + tot l := iw [x] l;have h2 := cy [x];have h3 := cy l;have h4 : tot [x] = if aR x = true then x.2 else 0 := by
  unfold tot;by_cases h : aR x = true
  ·rw [if_pos h, Et h]; simp
  ·rw [if_neg h, Eg h]; simp
 unfold totN;split
 ·rename_i h; rw [if_pos h] at h4; omega
 ·rename_i h; rw [if_neg h] at h4; omega
theorem v9 {x : Cnt} {l : List Cnt} : tysN (x :: l) = (if aR x = true then 1 else 0) + tysN l := by
 unfold tysN;by_cases h : aR x = true
 ·rw [if_pos h, Et h, Eh]; omega
 ·rw [if_neg h, Eg h]; omega
theorem pd {x : Cnt} {l : List Cnt} {k : Int} : aq (x :: l) k = (if aR x = true ∧ x.2 = k then 1 else 0) + aq l k := by
 unfold aq;by_cases h : aR x = true ∧ x.2 = k
 ·rw [if_pos h, Et (by simp [h]), Eh]; omega
 ·rw [if_neg h, Eg (by simpa using h)]; omega
def zi (l A : List Cnt) : Rat := (aq A 1 : Rat) * qv (eK l 1) + (aq A 2 : Rat) * qv (eK l 2) + ((tysN A : Rat) - (aq A 1 : Rat) - (aq A 2 : Rat)) * qv (eK l 3)
theorem Cs {x : Cnt} (h : aR x = true) : 1 ≤ x.2 := by
 unfold aR at h;rw [DH] at h;have := h.1;simp at this;omega
theorem sq {l : List Cnt} (hl : CLim l) : ∀ A : List Cnt, fP (fun x => if aR x = true then kz l x.2 else 0) A = (totN A : Rat) - zi l A
 | [] => by
  show (0 : Rat) = ((0 : Nat) : Rat) - _
  unfold zi;rw [show ((aq [] 1 : Nat) : Rat) = 0 from rfl, show ((aq [] 2 : Nat) : Rat) = 0 from rfl, show ((tysN [] : Nat) : Rat) = 0 from rfl, show ((0 : Nat) : Rat) = 0 from rfl];grind
 | x :: A => by
  have ih := sq hl A;rw [fP, ih];unfold zi;rw [pc, v9, pd, pd];by_cases h : aR x = true
  ·have h1 := Cs h;rw [if_pos h, if_pos h, if_pos h, zh hl (by omega)];simp only [h, true_and, Fn];rw [show ((1 : Nat) : Rat) = 1 from rfl];have h2 : x.2 = 1 ∨ x.2 = 2 ∨ 3 ≤ x.2 := by omega
   unfold atN at4;rw [if_neg (by omega)];rcases h2 with h2 | h2 | h2
   ·rw [if_pos h2, if_pos h2, if_neg (show ¬ x.2 = 2 by omega), show ((1 : Nat) : Rat) = 1 from rfl, show ((0 : Nat) : Rat) = 0 from rfl];grind
   ·rw [if_neg (show ¬ x.2 = 1 by omega), if_pos h2, if_neg (show ¬ x.2 = 1 by omega), if_pos h2, show ((1 : Nat) : Rat) = 1 from rfl, show ((0 : Nat) : Rat) = 0 from rfl];grind
   ·rw [if_neg (show ¬ x.2 = 1 by omega), if_neg (show ¬ x.2 = 2 by omega), if_neg (show ¬ x.2 = 1 by omega), if_neg (show ¬ x.2 = 2 by omega), show ((0 : Nat) : Rat) = 0 from rfl];grind
  ·rw [if_neg h, if_neg h, if_neg h, if_neg (fun e => h e.1), if_neg (fun e => h e.1)];simp only [Ey];grind
theorem Cu {Lc : List (List Cnt)} {words : Int} (hx : XOk Lc words) {h : List Int} (hT : totN (after (lvl Lc h) h) ≠ 0) : qv (f9 Lc h) = zi (lvl Lc h) (after (lvl Lc h) h) / (totN (after (lvl Lc h) h) : Rat) := by
 have hh : h.length < Lc.length := by
  apply Classical.byContradiction;intro hn;apply hT;have : lvl Lc h = [] := by simp [lvl, DG, D4 (EM hn)]
  rw [this]; rfl
 have hlv := gx hh;have hln := hx.lim.at' hh;have ob := fun k => fE hln k
 unfold f9;rw [dif_pos hh, ← hlv];rw [← hlv] at ob;generalize lvl Lc h = l at *
 have hs := mw (after l h);unfold nD;rw [if_neg (by omega)];have i := fun n : Nat => ek n
 obtain ⟨c, hc⟩ := Nat.exists_eq_add_of_le hs;have p1 := (ob 1).pos;have p2 := (ob 2).pos;have p3 := (ob 3).pos;have one : (1 : Nat) ≠ 0 := by decide
 have m1 : (cD (aq (after l h) 1, 1) (eK l 1)).2 ≠ 0 := eD one p1;have m2 : (cD (aq (after l h) 2, 1) (eK l 2)).2 ≠ 0 := eD one p2;have m3 : (cD (tysN (after l h) - aq (after l h) 1 - aq (after l h) 2, 1) (eK l 3)).2 ≠ 0 := eD one p3;have a1 : (bE (cD (aq (after l h) 1, 1) (eK l 1)) (cD (aq (after l h) 2, 1) (eK l 2))).2 ≠ 0 := gc m1 m2;show qv (dN (bE (bE (cD (aq (after l h) 1, 1) (eK l 1)) (cD (aq (after l h) 2, 1) (eK l 2))) (cD (tysN (after l h) - aq (after l h) 1 - aq (after l h) 2, 1) (eK l 3))) (totN (after l h), 1)) = _
 rw [qo (gc a1 m3) one hT, ic a1 m3, ic m1 m2, jo one p1, jo one p2, jo one p3, i, i, i, i];unfold zi;congr 2;rw [hc, show aq (after l h) 1 + aq (after l h) 2 + c - aq (after l h) 1 - aq (after l h) 2 = c by omega, Fn, Fn];grind
def noB (f : Nat → Rat) (w : Nat) : Rat := if (w : Int) = 1 then 0 else f w
theorem sr {Lc : List (List Cnt)} {n : Nat} (hx : XOk Lc n) (he : ∀ l, l ∈ Lc → eE n l) (h : List Int) {p : Nat → Nat × Nat} (hp : ∀ w, (p w).2 ≠ 0) (hs : da (noB fun w => qv (p w)) n = 1) :
  da (noB fun w => qv (eN Lc w h (p w))) n = 1 := by
 by_cases hT : totN (after (lvl Lc h) h) = 0
 ·rw [← hs];refine eo fun w _ => ?_
  unfold noB eN;simp only [if_pos hT]
 ·have hh : h.length < Lc.length := by
   apply Classical.byContradiction;intro hn;apply hT;have : lvl Lc h = [] := by simp [lvl, DG, D4 (EM hn)]
   rw [this]; rfl
  have hm : lvl Lc h ∈ Lc := by rw [gx hh]; exact DU hh
  have hln := hx.lim.l _ hm;have hsn := AW (f := kz (lvl Lc h)) (AY _) (words := n) (hx.rises _ hm) (fun x hxm => (hx.num _ hm x hxm).1) (he _ hm) h;rw [sq hln] at hsn;have hg := Cu hx hT;have hgb := (kj hx h).pos;have hT' := d8 hT;rw [eo (g := fun w => (1 / (totN (after (lvl Lc h) h) : Rat)) * (if (w : Int) = 1 then 0 else kz (lvl Lc h) (nlk (h ++ [(w : Int)]) (lvl Lc h))) + qv (f9 Lc h) * noB (fun w => qv (p w)) w) fun w _ => ?_, nY, nZ, nZ, hs, hsn, hg]
  ·grind
  ·unfold noB;by_cases hw : (w : Int) = 1
   ·simp only [if_pos hw]; grind
   ·simp only [if_neg hw];unfold eN;have ob := (d6 hx w h).pos;have one : (1 : Nat) ≠ 0 := by decide
    rw [if_neg hT, ic (nX ob hT) (eD hgb (hp w)), qo ob one hT, jo hgb (hp w), ek];have : qv (owF Lc w h) = kz (lvl Lc h) (nlk (h ++ [(w : Int)]) (lvl Lc h)) := by
     unfold owF kz;rw [v8 hh]
    rw [this];grind
theorem Cv {Lc : List (List Cnt)} {n : Nat} (hx : XOk Lc n) : da (noB fun _ => qv (p0F n)) n = 1 := by
 have h3 := hx.w3;obtain ⟨k, rfl⟩ : ∃ k, n = k + 2 := ⟨n - 2, by omega⟩;have e : qv (p0F ((k + 2 : Nat) : Int)) = 1 / ((k + 1 : Nat) : Rat) := by
  unfold p0F;rw [show (((k + 2 : Nat) : Int) - 1).toNat = k + 1 by omega, qo (by decide) (show (1 : Nat) ≠ 0 by decide) (show k + 1 ≠ 0 by omega), ek, ek];rfl
 unfold noB;rw [n6, e];have := d8 (n := k + 1) (by omega);grind
theorem qq {Lc : List (List Cnt)} {n : Nat} (hx : XOk Lc n) (he : ∀ l, l ∈ Lc → eE n l) : ∀ h : List Int, da (noB fun w => qv (pF Lc n w h)) n = 1
 | [] => sr hx he [] (fun _ => (tP hx).pos) (Cv hx)
 | x :: t => sr hx he (x :: t) (fun w => (uH hx w t).pos) (qq hx he t)
def bq (Lc : List (List Cnt)) (words : Int) (h : List Int) : Nat → Nat × Nat
 | 0 => (0, 1)
 | w + 1 => bE (bq Lc words h w) (bh Lc words h w)
theorem mB {Lc : List (List Cnt)} {n : Nat} (hx : XOk Lc n) (h : List Int) : ∀ w : Nat, w ≤ n → (bq Lc n h w).2 ≠ 0 ∧ qv (bq Lc n h w) = da (noB fun w => qv (pF Lc n w (fO Lc h))) w
 | 0, _ => ⟨show (1 : Nat) ≠ 0 by decide, by show qv (0, 1) = 0; rw [ek]; rfl⟩
 | w + 1, hw => by
  obtain ⟨i1, i2⟩ := mB hx h w (by omega);have hp := (rY hx h (w : Int)).pos;refine ⟨gZ (D6 i1 hp), ?_⟩;show qv (bE _ _) = da _ w + _
  rw [ic i1 hp, i2];congr 1;unfold bh noB;by_cases h1 : (w : Int) = 1
  ·rw [if_pos (.inr (.inr h1)), if_pos h1, ek]; rfl
  ·rw [if_neg (by omega), if_neg h1]
theorem zj {Lc : List (List Cnt)} {n : Nat} (hx : XOk Lc n) (he : ∀ l, l ∈ Lc → eE n l) (h : List Int) : bq Lc n h n = (1, 1) := by
 have h3 := hx.w3;obtain ⟨k, rfl⟩ : ∃ k, n = k + 1 := ⟨n - 1, by omega⟩;obtain ⟨i1, i2⟩ := mB hx h (k + 1) (by omega);obtain ⟨j1, _⟩ := mB hx h k (by omega);rw [qq hx he] at i2;exact Cq (D6 j1 (rY hx h (k : Int)).pos) i2
theorem Cw {n d N D : Nat} (hd : d ≠ 0) (h : n * D = N * d) : (fR n d).2 ∣ D := by
 have hg : Nat.gcd n d ≠ 0 := fun e => hd (Fy e)
 have hco := jl (n := n) hd;obtain ⟨a, ha⟩ := Gh n d;obtain ⟨b, hb⟩ := FG n d;unfold fR at hco ⊢;generalize Nat.gcd n d = g at *
 subst ha hb;simp only at hco ⊢;rw [Fa _ (Ec hg)] at hco ⊢;rw [Fa _ (Ec hg)] at hco;have h2 : g * (a * D) = g * (N * b) := by rw [← DX, h, ED]
 have h3 := Nat.eq_of_mul_eq_mul_left (Ec hg) h2;exact (Nat.Coprime.symm hco).dvd_of_dvd_mul_left ⟨N, by rw [h3, D0]⟩
theorem fG {n d : Nat} : (fR n d).2 ∣ d := Nat.div_dvd_of_dvd (FG n d)
structure Dv (Q : Nat) (p : Nat × Nat) : Prop where
 pos : p.2 ≠ 0
 dvd : p.2 ∣ Q
theorem Dv.up {Q R : Nat} {p : Nat × Nat} (h : Dv Q p) (hd : Q ∣ R) : Dv R p := ⟨h.pos, Fq h.dvd hd⟩
theorem Dv.add {Q : Nat} {p q : Nat × Nat} (h1 : Dv Q p) (h2 : Dv Q q) : Dv Q (bE p q) := by
 refine ⟨gc h1.pos h2.pos, ?_⟩;obtain ⟨a, ha⟩ := h1.dvd;obtain ⟨b, hb⟩ := h2.dvd;refine Cw (N := p.1 * a + q.1 * b) (D6 h1.pos h2.pos) ?_;rw [DY, DY];congr 1
 ·rw [ha]; simp only [DX, D0, ED]
 ·rw [hb]; simp only [DX, D0, ED]
theorem Dv.mul {Q R : Nat} {p q : Nat × Nat} (h1 : Dv Q p) (h2 : Dv R q) : Dv (Q * R) (cD p q) :=
 ⟨eD h1.pos h2.pos, Fq fG (Nat.mul_dvd_mul h1.dvd h2.dvd)⟩
theorem Dv.sub1 {Q k : Nat} {q : Nat × Nat} (h : Dv Q q) : Dv Q (cV (k, 1) q) :=
 ⟨gZ (D6 (show (1 : Nat) ≠ 0 by decide) h.pos), Fq fG (by show 1 * q.2 ∣ Q; rw [Es]; exact h.dvd)⟩
theorem Dv.div1 {Q T : Nat} {p : Nat × Nat} (h : Dv Q p) (hT : T ≠ 0) : Dv (Q * T) (dN p (T, 1)) :=
 ⟨nX h.pos hT, Fq fG (Nat.mul_dvd_mul h.dvd (GI _))⟩
theorem Dv.int {Q n : Nat} : Dv Q (n, 1) := ⟨by show (1 : Nat) ≠ 0; decide, Nat.one_dvd Q⟩
theorem Dv.bd {Q k : Nat} {p : Nat × Nat} (h : Dv Q p) (hQ : Q ≠ 0) (hk : Q < 2 ^ k) (hle : p.1 ≤ p.2) : Bd k p := by
 have := Nat.le_of_dvd (Ec hQ) h.dvd;exact ⟨h.pos, by omega, by omega⟩
def dD (l : List Cnt) : Nat := (eK l 1).2 * (eK l 2).2 * (eK l 3).2
theorem mC {l : List Cnt} (hl : CLim l) (k : Nat) (h1 : 1 ≤ k) (h3 : k ≤ 3) : Dv (dD l) (eK l k) := by
 refine ⟨(fE hl k).pos, ?_⟩;have hk : k = 1 ∨ k = 2 ∨ k = 3 := by omega
 unfold dD;rcases hk with rfl | rfl | rfl
 ·exact Fq (Gb _ _) (Gb _ _)
 ·exact Fq (Nat.dvd_mul_left _ _) (Gb _ _)
 ·exact Nat.dvd_mul_left _ _
theorem Cy {l : List Cnt} (hl : CLim l) : dD l ≠ 0 := D6 (D6 (fE hl 1).pos (fE hl 2).pos) (fE hl 3).pos
theorem Cz {l : List Cnt} (hl : CLim l) (a : Int) : Dv (dD l) (atN l a) := by
 unfold atN at4;split
 ·exact .int
 ·split
  ·exact mC hl 1 (by omega) (by omega)
  ·split
   ·exact mC hl 2 (by omega) (by omega)
   ·exact mC hl 3 (by omega) (by omega)
def lvT (Lc : List (List Cnt)) (h : List Int) : Nat := totN (after (lvl Lc h) h)
def lW (Lc : List (List Cnt)) (h : List Int) (q : Nat) : Nat := if lvT Lc h = 0 then q else dD (lvl Lc h) * lvT Lc h * q
def QF (Lc : List (List Cnt)) (words : Int) : List Int → Nat
 | [] => lW Lc [] (words - 1).toNat
 | x :: t => lW Lc (x :: t) (QF Lc words t)
theorem zk {Lc : List (List Cnt)} {h : List Int} (hT : lvT Lc h ≠ 0) : h.length < Lc.length := by
 apply Classical.byContradiction;intro hn;apply hT;have : lvl Lc h = [] := by simp [lvl, DG, D4 (EM hn)]
 unfold lvT;rw [this]; rfl
theorem CA {Lc : List (List Cnt)} {words : Int} (hx : XOk Lc words) {h : List Int} (hT : lvT Lc h ≠ 0) : Dv (dD (lvl Lc h) * lvT Lc h) (f9 Lc h) := by
 have hh := zk hT;have hlv := gx hh;have hln := hx.lim.at' hh;unfold f9;rw [dif_pos hh, ← hlv];rw [← hlv] at hln;unfold lvT at hT ⊢;generalize lvl Lc h = l at *
 unfold nD;rw [if_neg (by omega)];have d := fun n k h1 h3 => (Dv.mul (Q := 1) (Dv.int (n := n)) (mC hln k h1 h3)).up (by rw [Es]; exact GI _)
 exact (((d _ 1 (by omega) (by omega)).add (d _ 2 (by omega) (by omega))).add (d _ 3 (by omega) (by omega))).div1 hT
theorem uQ {Lc : List (List Cnt)} {words : Int} (hx : XOk Lc words) {w : Int} {h : List Int} {p : Nat × Nat} {q : Nat} (hp : Dv q p) : Dv (lW Lc h q) (eN Lc w h p) := by
 have hlm := qi hx.lim h;unfold lW eN;show Dv (if lvT Lc h = 0 then _ else _) (if lvT Lc h = 0 then _ else _)
 by_cases hT : lvT Lc h = 0
 ·rw [if_pos hT, if_pos hT]; exact hp
 ·rw [if_neg hT, if_neg hT];exact (((Cz hlm _).sub1.div1 hT).up (Gb _ _)).add ((CA hx hT).mul hp)
theorem BF {Lc : List (List Cnt)} {words : Int} (hx : XOk Lc words) (w : Int) : ∀ h : List Int, Dv (QF Lc words h) (pF Lc words w h)
 | [] => uQ hx (by
   have h3 := hx.w3;have := Dv.div1 (Dv.int (Q := 1) (n := 1)) (T := (words - 1).toNat) (by omega);rwa [Es] at this)
 | x :: t => uQ hx (BF hx w t)
theorem eF {Lc : List (List Cnt)} {words : Int} (hx : XOk Lc words) (h : List Int) (w : Int) : Dv (QF Lc words (fO Lc h)) (bh Lc words h w) := by
 unfold bh;split
 ·exact .int
 ·exact BF hx w _
theorem pf {Lc : List (List Cnt)} {words : Int} (hx : XOk Lc words) {h : List Int} {q : Nat} (hq : q ≠ 0) : lW Lc h q ≠ 0 := by
 unfold lW;split
 ·exact hq
 ·rename_i hT;exact D6 (D6 (Cy (qi hx.lim h)) hT) hq
theorem qr {Lc : List (List Cnt)} {words : Int} (hx : XOk Lc words) : ∀ h : List Int, QF Lc words h ≠ 0
 | [] => pf hx (by have := hx.w3; omega)
 | x :: t => pf hx (qr hx t)
structure Few (Lc : List (List Cnt)) (words : Int) (e t b : Nat) : Prop where
 d : ∀ l, l ∈ Lc → dD l < 2 ^ e
 t : ∀ l, l ∈ Lc → totN l < 2 ^ t
 w : (words - 1).toNat < 2 ^ b
theorem kA {a b k m : Nat} (h1 : a < 2 ^ k) (h2 : b < 2 ^ m) : a * b < 2 ^ (k + m) := fN h1 h2
theorem su {Lc : List (List Cnt)} {words : Int} {e t b : Nat} (hf : Few Lc words e t b) {h : List Int} {q k : Nat} (hq : q < 2 ^ k) : lW Lc h q < 2 ^ (k + (e + t)) := by
 unfold lW;split
 ·exact DS hq (D3 (by omega) (by omega))
 ·rename_i hT;have hh := zk hT;have hm : lvl Lc h ∈ Lc := by rw [gx hh]; exact DU hh
  have ht : lvT Lc h < 2 ^ t := by
   have h1 := fj (fK h) (lvl Lc h);have h2 := hf.t _ hm;have : lvT Lc h ≤ totN (lvl Lc h) := by unfold lvT totN after; omega
   omega
  rw [F5 k];exact kA (kA (hf.d _ hm) ht) hq
theorem BG {Lc : List (List Cnt)} {words : Int} {e t b : Nat} (hf : Few Lc words e t b) : ∀ h : List Int, QF Lc words h < 2 ^ (b + (e + t) * (h.length + 1))
 | [] => by
  have := su hf (h := []) hf.w;rwa [show (e + t) * (([] : List Int).length + 1) = e + t by simp]
 | x :: l => by
  have := su hf (h := x :: l) (BG hf l);rwa [EK, show (e + t) * (l.length + 1) + (e + t) = (e + t) * ((x :: l).length + 1) by rw [Eh, D5 (e + t) (l.length + 1) 1, E6]] at this
theorem kB {a b c : Rat} (hb : 0 < b) : a / b ≤ c ↔ a ≤ c * b := by rw [← Rat.not_lt, ← Rat.not_lt, Rat.lt_div_iff hb]
theorem gC {a b c : Rat} (hb : 0 < b) : a ≤ c / b ↔ a * b ≤ c := by rw [← Rat.not_lt, ← Rat.not_lt, Gr hb]
theorem dK (p : Nat × Nat) : 0 ≤ qv p := by
 unfold qv;by_cases h : p.2 = 0
 ·rw [h, show ((0 : Nat) : Rat) = 0 from rfl]; grind
 ·rw [gC (Fo.2 (Ec h)), Rat.zero_mul];exact Rat.natCast_nonneg
theorem qs {p : Nat × Nat} (hp : p.2 ≠ 0) (h : qv p ≤ 1) : p.1 ≤ p.2 := by
 have h1 : (0 : Rat) < p.2 := Fo.2 (Ec hp);have h2 := (kB h1).1 h;rw [Rat.one_mul] at h2;exact Fk.1 h2
theorem iH {f : Nat → Rat} (hf : ∀ w, 0 ≤ f w) {m : Nat} : ∀ {n : Nat}, m ≤ n → da f m ≤ da f n
 | 0, h => by
   have : m = 0 := by omega
   subst this; exact Gv
 | n + 1, h => by
  by_cases hm : m = n + 1
  ·subst hm; exact Gv
  ·have := iH hf (m := m) (n := n) (by omega);have h2 := hf n;simp only [da];grind
theorem jp {f : Nat → Rat} (hf : ∀ w, 0 ≤ f w) (w : Nat) : 0 ≤ noB f w := by
 unfold noB;split
 ·exact Gv
 ·exact hf w
theorem AZ {Lc : List (List Cnt)} {n : Nat} (hx : XOk Lc n) (he : ∀ l, l ∈ Lc → eE n l) (h : List Int) {w : Nat} (hw : w ≤ n) : (bq Lc n h w).1 ≤ (bq Lc n h w).2 := by
 obtain ⟨i1, i2⟩ := mB hx h w hw;refine qs i1 ?_;rw [i2, ← qq hx he (fO Lc h)];exact iH (jp fun w => dK _) hw
theorem er {Lc : List (List Cnt)} {n : Int} (hx : XOk Lc n) (h : List Int) : ∀ w, Dv (QF Lc n (fO Lc h)) (bq Lc n h w)
 | 0 => .int
 | w + 1 => (er hx h w).add (eF hx h w)
theorem pg {Lc : List (List Cnt)} {n : Int} (hx : XOk Lc n) (h : List Int) : ∀ w, Nat.gcd (bq Lc n h w).1 (bq Lc n h w).2 = 1
 | 0 => FZ 1
 | w + 1 => jl (D6 (er hx h w).pos (eF hx h w).pos)
theorem zl {Lc : List (List Cnt)} {n : Nat} (hx : XOk Lc n) (he : ∀ l, l ∈ Lc → eE n l) (h : List Int) (w : Int) : (bh Lc n h w).1 ≤ (bh Lc n h w).2 := by
 refine qs (eF hx h w).pos ?_;by_cases hw : w < 0 ∨ n ≤ w ∨ w = 1
 ·unfold bh; rw [if_pos hw, ek]; exact (by decide : (((0 : Nat) : Rat)) ≤ 1)
 ·obtain ⟨v, rfl⟩ : ∃ v : Nat, w = (v : Int) := ⟨w.toNat, by omega⟩;have h1 := iH (f := noB fun w => qv (pF Lc n w (fO Lc h))) (jp fun w => dK _) (m := v + 1) (n := n) (by omega);have h2 := iH (f := noB fun w => qv (pF Lc n w (fO Lc h))) (jp fun w => dK _) (m := 0) (n := v) (by omega);rw [qq hx he] at h1;simp only [da] at h1 h2;have h3 : noB (fun w => qv (pF Lc n w (fO Lc h))) v = qv (bh Lc n h v) := by unfold noB bh; rw [if_neg (by omega), if_neg hw]
  rw [h3] at h1;grind
end
section
abbrev Fr2 := Nat × Nat
def qt (p q : Fr2 × Fr2) : Fr2 × Fr2 := (bE p.1 (cD p.2 q.1), cD p.2 q.2)
def dL (Lc : List (List Cnt)) (n : Int) (h : List Int) (w : Int) : Fr2 × Fr2 := (bq Lc n h w.toNat, bh Lc n h w)
def eO (Lc : List (List Cnt)) (n : Int) : Fr2 × Fr2 → List Int → List Int → Fr2 × Fr2
 | p, _, [] => p
 | p, h, w :: r => eO Lc n (qt p (dL Lc n h w)) (h ++ [w]) r
theorem n8 {Lc : List (List Cnt)} {n : Int} {w : Int} : ∀ (r : List Int) (p : Fr2 × Fr2) (h : List Int), eO Lc n p h (r ++ [w]) = qt (eO Lc n p h r) (dL Lc n (h ++ r) w)
 | [], p, h => by simp [eO]
 | v :: r, p, h => by
  show eO Lc n _ (h ++ [v]) (r ++ [w]) = _
  rw [n8 r, Gt]; rfl
def inP (Lc : List (List Cnt)) (n : Int) (h : List Int) (u : Fr2) (w : Nat) : Bool := decide ((bq Lc n h w).1 * u.2 ≤ u.1 * (bq Lc n h w).2) && decide (u.1 * (bq Lc n h (w + 1)).2 < (bq Lc n h (w + 1)).1 * u.2)
def ph (Lc : List (List Cnt)) (n : Int) (h : List Int) (u : Fr2) : Nat → Nat → Int
 | 0, _ => -1
 | f + 1, w => if inP Lc n h u w = true then w else ph Lc n h u f (w + 1)
def iY (Lc : List (List Cnt)) (n : Int) (h : List Int) (u : Fr2) : Int := ph Lc n h u n.toNat 0
theorem tZ {p q : Fr2} (hp : p.2 ≠ 0) (hq : q.2 ≠ 0) : p.1 * q.2 ≤ q.1 * p.2 ↔ qv p ≤ qv q := by
 have h1 : (0 : Rat) < p.2 := Fo.2 (Ec hp);have h2 : (0 : Rat) < q.2 := Fo.2 (Ec hq);unfold qv;rw [kB h1, ← Fk, EJ, EJ];rw [show (q.1 : Rat) / q.2 * p.2 = (q.1 * p.2) / q.2 by grind, gC h2]
theorem CB {p q : Fr2} (hp : p.2 ≠ 0) (hq : q.2 ≠ 0) : p.1 * q.2 < q.1 * p.2 ↔ qv p < qv q := by
 have := tZ hq hp;constructor
 ·intro h;apply Rat.not_le.1;rw [← this]; omega
 ·intro h;apply FJ;rw [this]; exact Rat.not_le.2 h
section
variable {Lc : List (List Cnt)} {n : Nat}
theorem gd (hx : XOk Lc n) (h : List Int) (w : Nat) : qv (bq Lc n h (w + 1)) = qv (bq Lc n h w) + qv (bh Lc n h w) := ic (er hx h w).pos (eF hx h w).pos
theorem li (hx : XOk Lc n) (h : List Int) {v : Nat} : ∀ {w : Nat}, v ≤ w → qv (bq Lc n h v) ≤ qv (bq Lc n h w)
 | 0, hv => by
   have : v = 0 := by omega
   subst this; exact Gv
 | w + 1, hv => by
  by_cases e : v = w + 1
  ·subst e; exact Gv
  ·have h1 := li hx h (v := v) (w := w) (by omega);have h2 := dK (bh Lc n h w);rw [gd hx];grind
theorem sv (hx : XOk Lc n) (he : ∀ l, l ∈ Lc → eE n l) (h : List Int) : qv (bq Lc n h n) = 1 := by
 rw [zj hx he, ek]; rfl
theorem iI (hx : XOk Lc n) {h : List Int} {u : Fr2} (hu : u.2 ≠ 0) {w : Nat} : inP Lc n h u w = true ↔ qv (bq Lc n h w) ≤ qv u ∧ qv u < qv (bq Lc n h (w + 1)) := by
 unfold inP;rw [DH, decide_eq_true_eq, decide_eq_true_eq, tZ (er hx h w).pos hu, CB hu (er hx h (w + 1)).pos]
theorem pj {h : List Int} {u : Fr2} {w : Nat} (hw : inP Lc n h u w = true) : ∀ (f v : Nat), v ≤ w → w < v + f → (∀ k, v ≤ k → k < w → inP Lc n h u k = false) → ph Lc n h u f v = w
 | 0, v, h1, h2, _ => by omega
 | f + 1, v, h1, h2, h3 => by
  unfold ph;by_cases e : v = w
  ·subst e; rw [if_pos hw]
  ·rw [if_neg (by rw [h3 v (by omega) (by omega)]; simp)];exact pj hw f (v + 1) (by omega) (by omega) fun k h4 h5 => h3 k (by omega) h5
theorem iJ (hx : XOk Lc n) {h : List Int} {u : Fr2} (hu : u.2 ≠ 0) {w : Nat} (hw : w < n) (hi : inP Lc n h u w = true) : iY Lc n h u = w := by
 unfold iY;refine pj hi _ 0 (by omega) (by omega) fun k _ hk => ?_
 cases hb : inP Lc n h u k with
 | false => rfl
 | true =>
  exfalso;have h1 := ((iI hx hu).1 hb).2;have h2 := ((iI hx hu).1 hi).1;have h3 := li hx h (v := k + 1) (w := w) (by omega);grind
theorem A3 (hx : XOk Lc n) (he : ∀ l, l ∈ Lc → eE n l) (h : List Int) {u : Fr2} (hu : u.2 ≠ 0) (h1 : qv u < 1) : ∃ w, w < n ∧ inP Lc n h u w = true ∧ iY Lc n h u = w := by
 have h0 := dK u;have key : ∀ k, k ≤ n → qv u < qv (bq Lc n h k) → ∃ w, w < k ∧ inP Lc n h u w = true := by
  intro k
  induction k with
  | zero =>
   intro _ hlt;have : qv (bq Lc n h 0) = 0 := by show qv (0, 1) = 0; rw [ek]; rfl
   rw [this] at hlt;grind
  | succ k ih =>
   intro hk hlt;by_cases hb : qv (bq Lc n h k) ≤ qv u
   ·exact ⟨k, by omega, (iI hx hu).2 ⟨hb, hlt⟩⟩
   ·obtain ⟨w, a1, a2⟩ := ih (by omega) (Rat.not_le.1 hb);exact ⟨w, by omega, a2⟩
 obtain ⟨w, a1, a2⟩ := key n (DI _) (by rw [sv hx he]; exact h1);exact ⟨w, a1, a2, iJ hx hu a1 a2⟩
def spA (Lc : List (List Cnt)) (n : Int) : List Int → List Int → Rat
 | _, [] => 0
 | h, w :: r => qv (bq Lc n h w.toNat) + qv (bh Lc n h w) * spA Lc n (h ++ [w]) r
def spB (Lc : List (List Cnt)) (n : Int) : List Int → List Int → Rat
 | _, [] => 1
 | h, w :: r => qv (bh Lc n h w) * spB Lc n (h ++ [w]) r
theorem sw (hx : XOk Lc n) : ∀ (r h : List Int) (p : Fr2 × Fr2), p.1.2 ≠ 0 → p.2.2 ≠ 0 → (eO Lc n p h r).1.2 ≠ 0 ∧ (eO Lc n p h r).2.2 ≠ 0 ∧ qv (eO Lc n p h r).1 = qv p.1 + qv p.2 * spA Lc n h r ∧ qv (eO Lc n p h r).2 = qv p.2 * spB Lc n h r
 | [], h, p, h1, h2 => ⟨h1, h2, by simp only [eO, spA]; grind, by simp only [eO, spB]; grind⟩
 | w :: r, h, p, h1, h2 => by
  have d1 := (er hx h w.toNat).pos;have d2 := (eF hx h w).pos;have m1 := eD h2 d1;obtain ⟨a1, a2, a3, a4⟩ := sw hx r (h ++ [w]) (qt p (dL Lc n h w)) (gc h1 m1) (eD h2 d2);refine ⟨a1, a2, ?_, ?_⟩
  ·show qv (eO Lc n (qt p (dL Lc n h w)) (h ++ [w]) r).1 = _
   rw [a3];simp only [qt, dL, spA];rw [ic h1 m1, jo h2 d1, jo h2 d2];grind
  ·show qv (eO Lc n (qt p (dL Lc n h w)) (h ++ [w]) r).2 = _
   rw [a4];simp only [qt, dL, spB];rw [jo h2 d2];grind
def InW (n : Int) (r : List Int) : Prop := ∀ w, w ∈ r → 0 ≤ w ∧ w < n
theorem A4 (hx : XOk Lc n) (he : ∀ l, l ∈ Lc → eE n l) (h : List Int) {w : Int} (h0 : 0 ≤ w) (h1 : w < n) : qv (bq Lc n h w.toNat) + qv (bh Lc n h w) ≤ 1 := by
 obtain ⟨v, rfl⟩ : ∃ v : Nat, w = (v : Int) := ⟨w.toNat, by omega⟩;have h2 := li hx h (v := v + 1) (w := n) (by omega);rw [sv hx he, gd hx] at h2;exact h2
theorem uR (hx : XOk Lc n) (he : ∀ l, l ∈ Lc → eE n l) : ∀ (r h : List Int), InW n r → 0 ≤ spA Lc n h r ∧ 0 ≤ spB Lc n h r ∧ spA Lc n h r + spB Lc n h r ≤ 1
 | [], h, _ => by simp only [spA, spB]; refine ⟨Gv, by decide, ?_⟩; grind
 | w :: r, h, hi => by
  obtain ⟨i1, i2, i3⟩ := uR hx he r (h ++ [w]) fun v hv => hi v (D2 _ hv)
  obtain ⟨w1, w2⟩ := hi w (by simp);have a1 := dK (bq Lc n h w.toNat);have a2 := dK (bh Lc n h w);have a3 := A4 hx he h w1 w2;have b1 := Rat.mul_nonneg a2 i1;have b2 := Rat.mul_nonneg a2 i2;have b3 : qv (bh Lc n h w) * (spA Lc n (h ++ [w]) r + spB Lc n (h ++ [w]) r) ≤ qv (bh Lc n h w) * 1 := Rat.mul_le_mul_of_nonneg_left i3 a2;simp only [spA, spB];refine ⟨?_, b2, ?_⟩ <;> grind
def ma (Lc : List (List Cnt)) (n : Int) : Nat → List Int → Fr2 → Option (List Int)
 | 0, _, _ => none
 | f + 1, h, u => if iY Lc n h u = 2 then some (h.drop 1) else if f = 0 then none else
   ma Lc n f (h ++ [iY Lc n h u]) (dN (cV u (bq Lc n h (iY Lc n h u).toNat)) (bh Lc n h (iY Lc n h u)))
theorem n9 (hx : XOk Lc n) {h : List Int} {u : Fr2} (hu : u.2 ≠ 0) {w : Nat} (hi : inP Lc n h u w = true) :
  (bh Lc n h w).1 ≠ 0 ∧ (dN (cV u (bq Lc n h w)) (bh Lc n h w)).2 ≠ 0 ∧ qv (dN (cV u (bq Lc n h w)) (bh Lc n h w)) = (qv u - qv (bq Lc n h w)) / qv (bh Lc n h w) ∧ 0 < qv (bh Lc n h w) ∧ qv u < qv (bq Lc n h w) + qv (bh Lc n h w) := by
 obtain ⟨h1, h2⟩ := (iI hx hu).1 hi;rw [gd hx] at h2;have hpos : 0 < qv (bh Lc n h w) := by grind
 have hd := (eF hx h w).pos;have hs := (er hx h w).pos;have hn : (bh Lc n h w).1 ≠ 0 := fun e => by
  unfold qv at hpos;rw [e, show ((0 : Nat) : Rat) = 0 from rfl] at hpos;grind
 have hsub : (cV u (bq Lc n h w)).2 ≠ 0 := gZ (D6 hu hs);refine ⟨hn, nX hsub hn, ?_, hpos, h2⟩;rw [qo hsub hd hn, zf hu hs ((tZ hs hu).2 h1)]
theorem A5 (hx : XOk Lc n) {h : List Int} {u : Fr2} (hu : u.2 ≠ 0) {w : Nat} (hi : inP Lc n h u w = true) : qv (dN (cV u (bq Lc n h w)) (bh Lc n h w)) < 1 := by
 obtain ⟨_, _, h3, h4, h5⟩ := n9 hx hu hi;rw [h3, Gr h4];grind
theorem sx (hx : XOk Lc n) (he : ∀ l, l ∈ Lc → eE n l) : ∀ (r h : List Int) (u : Fr2) (f : Nat), u.2 ≠ 0 → InW n r → 2 < n → (∀ w, w ∈ r → w ≠ 2) → spA Lc n h (r ++ [2]) ≤ qv u → qv u < spA Lc n h (r ++ [2]) + spB Lc n h (r ++ [2]) →
  ma Lc n f h u = if r.length < f then some ((h ++ r).drop 1) else none
 | r, h, u, 0, _, _, _, _, _, _ => by rw [if_neg (by omega)]; rfl
 | [], h, u, f + 1, hu, _, h2, _, g1, g2 => by
  have e2 : (2 : Int).toNat = 2 := rfl;simp only [F8, spA, spB, e2] at g1 g2;have hs := gd hx h 2;have e : ((2 : Nat) : Int) = 2 := rfl;rw [e] at hs;have hi : inP Lc n h u 2 = true := by
   refine (iI hx hu).2 ?_;rw [hs];constructor <;> grind
  have hp := iJ hx hu h2 hi;rw [e] at hp;unfold ma;rw [hp, if_pos rfl, if_pos (by simp), FE]
 | w :: r, h, u, f + 1, hu, hw, h2, hn, g1, g2 => by
  obtain ⟨w0, w1⟩ := hw w (by simp);obtain ⟨v, rfl⟩ : ∃ v : Nat, w = (v : Int) := ⟨w.toNat, by omega⟩;have hr : InW n (r ++ [2]) := fun x hx' => by
   rcases Ej.1 hx' with hx' | hx'
   ·exact hw x (D2 _ hx')
   ·simp at hx'; subst hx'; omega
  obtain ⟨i1, i2, i3⟩ := uR hx he (r ++ [2]) (h ++ [(v : Int)]) hr;have a2 := dK (bh Lc n h v);simp only [Fi, spA, spB, Ei] at g1 g2;have b1 := Rat.mul_nonneg a2 i1;have b3 : qv (bh Lc n h v) * (spA Lc n (h ++ [(v : Int)]) (r ++ [2]) + spB Lc n (h ++ [(v : Int)]) (r ++ [2])) ≤ qv (bh Lc n h v) * 1 := Rat.mul_le_mul_of_nonneg_left i3 a2;have hi : inP Lc n h u v = true := by
   rw [iI hx hu, gd hx];constructor <;> grind
  obtain ⟨l1, l2, l3, l4, l5⟩ := n9 hx hu hi;have hp := iJ hx hu (by omega) hi;have hne := hn v (by simp);unfold ma;rw [hp, if_neg hne, Ei];by_cases hf : f = 0
  ·subst hf; rw [if_pos rfl, if_neg (by simp)]
  ·rw [if_neg hf, sx hx he r (h ++ [(v : Int)]) _ f l2 (fun x hx' => hw x (D2 _ hx')) h2 (fun x hx' => hn x (D2 _ hx'))]
   ·simp
   ·rw [l3, gC l4]; grind
   ·rw [l3, Gr l4]; grind
end
end
end Go.Proofs.YtgceikecdedfcaaGreat.Pv
