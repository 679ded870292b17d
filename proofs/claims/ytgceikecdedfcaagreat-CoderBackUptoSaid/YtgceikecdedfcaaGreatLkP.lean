/- Parts of a proof, joined: Fs Ft Fd Fe Fa Fb Fc Ey Ez Ff Fh Fu Fv Ga Gb Ha Hb. -/
import Derived.Test.YtgceikecdedfcaaGreatLkO
namespace Go.Proofs.YtgceikecdedfcaaGreat.Pv
open Go
section
theorem qt {x : Cnt} : ∀ (l : List Cnt), (∀ z, z ∈ l → aD x.1 z.1 < 0) → pu x l true = l
 | [], _ => rfl
 | y :: l, h => by
  have h1 := h y (by simp);have h2 := eF x.1 y.1;rw [pu, if_neg (by simp), if_neg (by omega), Bool.true_or, Bool.true_or, qt l fun z hz => h z (Ep _ hz)];rfl
theorem CC {x : Cnt} : ∀ (l : List Cnt) (b : Bool), ∀ y, y ∈ pu x l b → y.1 = x.1 ∨ ∃ z, z ∈ l ∧ z.1 = y.1
 | [], b, y, h => by
  unfold pu at h;split at h
  ·simp at h
  ·simp at h; subst h; exact .inl rfl
 | z :: l, b, y, h => by
  rw [pu] at h;rcases EF.1 h with h | h
  ·split at h
   ·simp at h; subst h; exact .inl rfl
   ·simp at h
  ·rcases Ey.1 h with h | h
   ·right;refine ⟨z, by simp, ?_⟩;rw [h]; split <;> rfl
   ·rcases CC l _ y h with h | ⟨w, h1, h2⟩
    ·exact .inl h
    ·exact .inr ⟨w, Ep _ h1, h2⟩
theorem Dr {x : Cnt} {c : Int} (hx : 1 ≤ x.2 ∧ x.2 ≤ 1) (hc : 0 ≤ c) : ∀ (l : List Cnt) (b : Bool), (∀ z, z ∈ l → 1 ≤ z.2 ∧ z.2 ≤ c) → ∀ y, y ∈ pu x l b → 1 ≤ y.2 ∧ y.2 ≤ c + 1
 | [], b, _, y, h => by
  unfold pu at h;split at h
  ·simp at h
  ·simp at h; subst h; omega
 | z :: l, b, hl, y, h => by
  rw [pu] at h;have hz := hl z (by simp);rcases EF.1 h with h | h
  ·split at h
   ·simp at h; subst h; omega
   ·simp at h
  ·rcases Ey.1 h with h | h
   ·rw [h]; split
    ·show 1 ≤ z.2 + x.2 ∧ z.2 + x.2 ≤ c + 1; omega
    ·omega
   ·exact Dr hx hc l _ (fun w hw => hl w (Ep _ hw)) y h
theorem zn {x : Cnt} : ∀ (l : List Cnt) (b : Bool), (pu x l b).length ≤ l.length + (if b = true then 0 else 1)
 | [], b => by unfold pu; split <;> simp
 | z :: l, b => by
  rw [pu, D3, EA, EA];have ih := zn (x := x) l (b || decide (aD z.1 x.1 > 0) || decide (aD z.1 x.1 = 0));by_cases hb : b = true
  ·subst hb;simp at ih ⊢;omega
  ·have hb' : b = false := by simpa using hb
   subst hb';by_cases hg : aD z.1 x.1 > 0
   ·simp [hg] at ih ⊢;omega
   ·simp [hg] at ih ⊢;split at ih <;> omega
theorem so {x : Cnt} : ∀ (l : List Cnt), dP l → dP (pu x l false)
 | [], _ => by simp [pu, dP]
 | y :: l, hr => by
  obtain ⟨hy, hr'⟩ := FC.1 hr;have hneg := eF x.1 y.1;rw [pu];by_cases hg : aD y.1 x.1 > 0
  ·have hall : ∀ z, z ∈ l → aD x.1 z.1 < 0 := fun z hz => da (by omega) (hy z hz)
   rw [if_pos ⟨hg, rfl⟩, if_neg (by omega), decide_eq_true hg, Bool.false_or, Bool.true_or, qt l hall];refine FC.2 ⟨fun z hz => ?_, hr⟩;rcases Ey.1 hz with rfl | hz
   ·omega
   ·exact hall z hz
  ·rw [if_neg (fun h => hg h.1), decide_eq_false hg, Gr];by_cases h0 : aD y.1 x.1 = 0
   ·have e := k9 h0;have hall : ∀ z, z ∈ l → aD x.1 z.1 < 0 := fun z hz => by rw [← e]; exact hy z hz
    rw [if_pos h0, decide_eq_true h0, Bool.or_true, qt l hall];exact FC.2 ⟨fun z hz => hy z hz, hr'⟩
   ·rw [if_neg h0, decide_eq_false h0, GZ, GZ];refine FC.2 ⟨fun z hz => ?_, so l hr'⟩;rcases CC l false z hz with h | ⟨w, h1, h2⟩
    ·rw [h]; omega
    ·rw [← h2]; exact hy w h1
def ge (G : List (List Int)) : List Cnt := G.foldl (fun l g => lZ l (g, 1)) []
theorem pd (G : List (List Int)) (g : List Int) : ge (G ++ [g]) = lZ (ge G) (g, 1) := by simp [ge, Gh]
structure GOk (G : List (List Int)) (l : List Cnt) : Prop where
 len : l.length ≤ G.length
 g : ∀ y, y ∈ l → y.1 ∈ G
 n : ∀ y, y ∈ l → 1 ≤ y.2 ∧ y.2 ≤ (G.length : Int)
 rises : dP l
theorem mF : ∀ (k : Nat) (G : List (List Int)), G.length = k → GOk G (ge G)
 | 0, G, h => by
  have : G = [] := Ev.1 h;subst this;exact ⟨by simp [ge], fun y h => by simp [ge] at h, fun y h => by simp [ge] at h, by simp [ge, dP]⟩
 | k + 1, G, h => by
  obtain ⟨G', g, rfl⟩ : ∃ G' g, G = G' ++ [g] := ⟨G.dropLast, G.getLast (by intro e; subst e; simp at h), (FA _).symm⟩;have hk : G'.length = k := by simpa using h
  obtain ⟨a1, a2, a3, a4⟩ := mF k G' hk;rw [pd];refine ⟨?_, fun y hy => ?_, fun y hy => ?_, so _ a4⟩
  ·have := zn (x := (g, 1)) (ge G') false;unfold lZ;simp at this ⊢; omega
  ·rcases CC _ _ y hy with e | ⟨z, h1, h2⟩
   ·rw [e]; simp
   ·rw [← h2]; exact Ff _ (a2 z h1)
  ·have := Dr (x := (g, 1)) (c := (G'.length : Int)) ⟨by show (1 : Int) ≤ 1; omega, by show (1 : Int) ≤ 1; omega⟩ (by omega) (ge G') false a3 y hy;rw [D3];show 1 ≤ y.2 ∧ y.2 ≤ ((G'.length + 1 : Nat) : Int)
   omega
theorem t7 (L : List (List Int)) (n : Nat) (h1 : 1 ≤ n) (hn : n ≤ 1000000) (hL : L.length ≤ 600) (hp : ∀ p, p ∈ L → p.length ≤ 600) : Ct P 90 [.c (mg L), .c (nI .i64 n)] [.c (cSl (ge (a8 L n)))] := by
 have hE := wg L n h1 hn hL hp;have hlen : (a8 L n).length ≤ 360000 := by
  have h2 := gH (n := n) (k := 600) L hp;have h3 : L.length * 600 ≤ 600 * 600 := D8 _ hL;omega
 have hg : ∀ g, g ∈ a8 L n → g.length ≤ 1000000 := fun g h => by
  unfold a8 at h;obtain ⟨l, hl, hgl⟩ := List.mem_flatten.1 h;obtain ⟨p, hpm, rfl⟩ := Ez.1 hl;have hpl := hp p hpm;have key : ∀ i, g ∈ grS p n i → g.length ≤ 1000000 := by
   intro i
   induction i with
   | zero => intro h; simp [grS] at h
   | succ i ih =>
    intro h;unfold grS at h;split at h
    ·rcases EF.1 h with h | h
     ·exact ih h
     ·simp at h; subst h; rw [Ed]; omega
    ·exact ih h
  exact key _ hgl
 generalize a8 L n = G at *
 refine Ct.go aj aa (N := 25) Tryz.func90 rfl rfl rfl rfl ?_;refine X1 _ hE ?_;refine zY (t := 5) (sz := 2) rfl ?_;refine au aj aa (fun i : Nat => i ≤ G.length) (fun i => [(6, .c (mg G)), (5, .c (cSl (ge (G.take i)))), (7, .c (nI .i64 i))]) (fun _ => []) (fun i => G.length - i)
  0 (by omega) ⟨rfl, rfl, rfl, trivial⟩ trivial (fun _ : Unit => True) (fun _ => [(5, .c (cSl (ge G)))]) (fun _ => []) (fun i hi => ?_) (fun _ _ => ?_)
 ·refine .intro (by rw [be]; omega) ?_;rw [be];refine ah (fun h2 => ?_) (fun h2 => ?_)
  ·have hi' : i < G.length := by omega
   have hget := pc (L := G) (i := (i : Int)) (n := i) rfl hi';have hs : ge (G.take (i + 1)) = lZ (ge (G.take i)) (G[i], 1) := by rw [D5 hi', pd]
   obtain ⟨a1, a2, a3, a4⟩ := mF _ (G.take i) rfl;have hgl := hg _ (Ec hi');have hti : (G.take i).length ≤ 360000 := by rw [Ed]; omega
   generalize G[i] = g at *
   refine .intro (by omega) (X1 _ hget ?_);refine X1 _ (zm (ge (G.take i)) (g, 1) ⟨by omega, fun y hy => hg _ (Fv (a2 y hy))⟩ hgl (fun y hy => by have := a3 y hy; omega) ⟨by show (0 : Int) ≤ 1; omega, by show (1 : Int) ≤ _; omega⟩) ?_;refine X1 ((i + 1 : Nat) : Int) (wI1 (by omega)) ?_;exact ⟨i + 1, by omega, by omega, ⟨rfl, by rw [hs]; rfl, rfl, trivial⟩, trivial⟩
  ·have e : i = G.length := by omega
   subst e;rw [EE];exact ⟨(), trivial, ⟨rfl, trivial⟩, trivial⟩
 ·exact ⟨trivial, r1 rfl, trivial⟩
def ca (L : List (List Int)) (m : Nat) : List (List Cnt) := (List.range m).map fun k => ge (a8 L (k + 1))
theorem oC (L : List (List Int)) (m : Nat) : ca L (m + 1) = ca L m ++ [ge (a8 L (m + 1))] := by simp [ca, List.range_succ]
theorem cc (L : List (List Int)) (m : Nat) : (ca L m).length = m := by simp [ca]
theorem sq (L : List (List Int)) (m : Nat) (hm : m ≤ 1000) (hL : L.length ≤ 600) (hp : ∀ p, p ∈ L → p.length ≤ 600) : Ct P 38 [.c (mg L), .c (nI .i64 m)] [.c (cE (ca L m))] := by
 refine Ct.go aj aa (N := 19) Tryz.func38 rfl rfl rfl rfl ?_;refine jU (r := 34) (t := 5) (sz := 1) rfl rfl ?_;refine au aj aa (fun i : Nat => i ≤ m) (fun i => [(0, .c (mg L)), (1, .c (nI .i64 m)), (5, .c (.ow 34 1 i)), (6, .c (eI .i64 ((i : Int) + 1)))]) (fun i => [(34, .row 1 (aU (ca L i)))]) (fun i => m - i)
  0 (by omega) ⟨rfl, rfl, rfl, rfl, trivial⟩ ⟨rfl, trivial⟩ (fun _ : Unit => True) (fun _ => [(5, .c (.ow 34 1 m))]) (fun _ => [(34, .row 1 (aU (ca L m)))]) (fun i hi => ?_) (fun _ _ => ?_)
 ·refine ah (fun h1 => ?_) (fun h1 => ?_)
  ·have h2 : (i : Int) + 1 ≤ (m : Int) := h1;have hc := t7 L (i + 1) (by omega) (by omega) hL hp;have hcl : ax (aU (ca L i)) := fun el h => by
    obtain ⟨x, _, rfl⟩ := Ez.1 h;rfl
   have hsn : aU (ca L (i + 1)) = aU (ca L i) ++ [[cSl (ge (a8 L (i + 1)))]] := by rw [oC]; simp [aU]
   refine X1 _ hc ?_;refine ⟨by rw [ay, cc], by rw [ay, cc]; show (i + 1 + 768) * 24 ≤ _; omega, by rw [ay, cc]; show i + 1 ≤ _; omega, hcl, ar rfl, ?_⟩;refine X1 (((i + 1 : Nat) : Int) + 1) (wI (by simp) (by omega) (by omega)) ?_;exact ⟨i + 1, by omega, by omega, ⟨rfl, rfl, owE (by rw [D3, ay, cc]; rfl), rfl, trivial⟩, ⟨aB (by rw [hsn]; rfl), trivial⟩⟩
  ·have h2 : ¬ (i : Int) + 1 ≤ (m : Int) := h1;have e : i = m := by omega
   subst e;exact ⟨(), trivial, ⟨rfl, trivial⟩, ⟨rfl, trivial⟩⟩
 ·exact ⟨trivial, r1 rfl, trivial⟩
end
section
section
variable {Lc : List (List Cnt)} {words : Int}
end
end
section
section
variable {Lc : List (List Cnt)} {words : Int}
end
end
section
theorem CtO.args {P : Program} {f : FuncId} {O O' : Objs} {args args' res : List A1} (h : CtO P f O args O' res) (hw : ∀ K ok w vs, RelAs K ok w args' vs → RelAs K ok w args vs) : CtO P f O args' O' res :=
 ⟨fun K ok w vs hp hr => h.run K ok w vs hp (hw K ok w vs hr)⟩
theorem RelAs.set {K : Km} {ok : Nat → Prop} {w : World} {xs : List A1} {vs : List Value} {i : Nat} {x y : A1} (h : RelAs K ok w xs vs) (hx : xs[i]? = some x) (hw : ∀ u, RelA K ok w x u → RelA K ok w y u) : RelAs K ok w (xs.set i y) vs :=
 ⟨by rw [FW]; exact h.len, fun j z hj => by
  by_cases e : i = j
  ·subst e;rw [List.getElem?_set_self (D2.1 hx).1] at hj;cases hj;obtain ⟨u, h1, h2⟩ := h.get i x hx;exact ⟨u, h1, hw u h2⟩
  ·rw [List.getElem?_set_ne e] at hj;exact h.get j z hj⟩
theorem A6 {K : Km} {ok : Nat → Prop} {w : World} {sz : Nat} (u : Value) (h : RelA K ok w (.c (.sc (.slice none 0 0))) u) : RelA K ok w (.c (.sl sz [])) u := by
 cases h with
 | c h =>
  cases h with
  | cl h =>
   cases h with
   | sc _ => exact .c (.cl .sl0)
theorem CD {K : Km} {ok : Nat → Prop} {w : World} (u : Value) (h : RelA K ok w (.c (.sl 1 [[.sc (.slice none 0 0)]])) u) : RelA K ok w (.c (cE [[]])) u := by
 cases h with
 | c h =>
  cases h with
  | cl h =>
   cases h with
   | sl g h1 h2 h3 h4 h5 h6 h7 =>
    refine .c (.cl (.sl g h1 h2 h3 h4 (fun j el hj => ?_) (fun j i el x hj hi => ?_) (fun j i el x hj hi => ?_)))
    ·cases j with
     | zero => simp [aU] at hj; subst hj; rfl
     | succ j => simp [aU] at hj
    ·cases j with
     | zero =>
      simp [aU] at hj; subst hj
      cases i with
      | zero => exact h6 0 0 _ _ rfl rfl
      | succ i => simp at hi
     | succ j => simp [aU] at hj
    ·cases j with
     | zero =>
      simp [aU] at hj; subst hj
      cases i with
      | zero =>
       simp at hi; subst hi;have := h7 0 0 _ _ rfl rfl;generalize g 0 0 = v at *
       cases this with
       | sc _ => exact .sl0
      | succ i => simp at hi
     | succ j => simp [aU] at hj
theorem CE {words : Int} {g : List Int} (hw : words ≤ 65536) (h : gW words g = 0) : dj g = true := by
 unfold gW at h;split at h
 ·cases h
 ·rename_i hb;unfold dj;rw [EU];intro v hv;rw [D0, decide_eq_true_eq, decide_eq_true_eq];have : ¬ mf words v = true := fun hbad => hb (Fk.2 ⟨v, hv, hbad⟩)
  unfold mf at this;simp at this;omega
theorem uU {words : Int} : ∀ {l : List Cnt}, kwL words l = 0 → ∀ x, x ∈ l → gW words x.1 = 0
 | [], _, x, hx => by simp at hx
 | y :: l, h, x, hx => by
  unfold kwL at h;split at h
  ·rename_i h1; exact absurd h h1
  ·rename_i h1;rcases Ey.1 hx with rfl | hx
   ·omega
   ·exact uU h x hx
theorem sr {words : Int} : ∀ {L : List (List Cnt)}, ij words L = 0 → ∀ l, l ∈ L → kwL words l = 0
 | [], _, l, hl => by simp at hl
 | m :: L, h, l, hl => by
  unfold ij at h;split at h
  ·rename_i h1; exact absurd h h1
  ·rename_i h1;rcases Ey.1 hl with rfl | hl
   ·omega
   ·exact sr h l hl
theorem CF {L : List (List Cnt)} {words : Int} (hL : CCSum L) (h : gC L words = 0) (hn : ∀ l, l ∈ L → ∀ x, x ∈ l → x.2 ≤ 4611686018427387904) : XOk (ao L) words := by
 obtain ⟨hok, w1, w2, hkw⟩ := jv h;refine ⟨ju hL.lim, hL.tot, fun l hl => qm hok hl, by rw [bm]; exact hok.len0, by rw [bm]; exact hok.len8, w1, w2, fun l hl x hx => ?_, fun l hl x hx => ?_⟩
 ·obtain ⟨n, hlt, rfl⟩ := dK hl;obtain ⟨y, hy, rfl⟩ := Ez.1 hx;rw [ql];exact CE w2 (uU (sr hkw _ (Ec hlt)) y hy)
 ·obtain ⟨n, hlt, rfl⟩ := dK hl;obtain ⟨y, hy, rfl⟩ := Ez.1 hx;have h1 := (hok.form n hlt y hy).2;have h2 := hn _ (Ec hlt) y hy;unfold cF;split
  ·have : ahead (L.getD (n + 1) []) y.1 ≤ 1000000 := by
    by_cases h3 : n + 1 < L.length
    ·have e : L.getD (n + 1) [] = L[n + 1] := by simp [DZ, h3]
     rw [e];exact D4 (E4 _ _) (hL.lim.at' h3).len
    ·have e : L.getD (n + 1) [] = [] := by simp [DZ, Eo (E9 h3)]
     rw [e]; simp [ahead]
   show 0 ≤ ((ahead _ _ : Nat) : Int) ∧ ((ahead _ _ : Nat) : Int) ≤ _
   omega
  ·show 0 ≤ y.2 ∧ y.2 ≤ _
   omega
theorem nY {M : Int} (hM : 0 ≤ M) : ∀ (l : List Cnt), (∀ x, x ∈ l → x.2 ≤ M) → tot l ≤ l.length * M
 | [], _ => by simp [tot]
 | y :: l, h => by
  have ih := nY hM l fun x hx => h x (Ep _ hx)
  have hy := h y (by simp);have e : ((y :: l).length : Int) * M = l.length * M + M := by
   rw [EA]; push_cast; rw [Int.add_mul, Int.one_mul]
  rw [e];unfold tot at ih ⊢;by_cases hl : aR y = true
  ·rw [EL (p := aR) hl, EH, Ge]; omega
  ·rw [ED (p := aR) hl]; omega
theorem wj (l : List ByteArray) (s : ByteArray) : l <+: gJ l s := by
 unfold gJ; split
 ·exact List.prefix_refl _
 ·exact List.prefix_append _ _
theorem nZ : ∀ (ws l : List ByteArray), l <+: cP l ws
 | [], l => List.prefix_refl _
 | w :: ws, l => (wj l w).trans (nZ ws (gJ l w))
theorem pf : ∀ (L : List (List ByteArray)) (l : List ByteArray), l <+: eG l L
 | [], l => List.prefix_refl _
 | ws :: L, l => (nZ ws l).trans (pf L (cP l ws))
theorem n6 (s : ByteArray) : ∀ (l : List ByteArray) (i : Nat), bX s l = i → ∃ y, l[i]? = some y ∧ (y.toList == s.toList) = true
 | [], i, h => by simp [bX] at h
 | y :: l, i, h => by
  unfold bX at h;split at h
  ·rename_i hy;have : i = 0 := by omega
   subst this;exact ⟨y, rfl, hy⟩
  ·split at h
   ·omega
   ·rename_i h1 h2;obtain ⟨z, h3, h4⟩ := n6 s l (i - 1) (by omega);refine ⟨z, ?_, h4⟩;rw [show i = (i - 1) + 1 by omega];simpa using h3
theorem A7 {ws : List ByteArray} {w : ByteArray} (hp : marks15 <+: ws) (hm : kA w = false) : 0 ≤ gL ws w ∧ gL ws w < ws.length ∧ gL ws w ≠ 1 := by
 have h3 : 3 ≤ ws.length := hp.length_le;have hl := wa w ws;unfold gL;split
 ·omega
 ·refine ⟨by omega, by omega, fun h => ?_⟩;obtain ⟨y, h1, h2⟩ := n6 w ws 1 h;obtain ⟨t, rfl⟩ := hp;have : y = ⟨#[60, 115, 62]⟩ := by
   have h5 : (marks15 ++ t)[1]? = some (⟨#[60, 115, 62]⟩ : ByteArray) := rfl;rw [h5] at h1;exact (FG h1).symm
  subst this;unfold kA at hm;rw [Bool.or_eq_false_iff] at hm;have h6 := beq_iff_eq.1 h2;rw [← h6] at hm;have h7 := hm.1;rw [beq_self_eq_true] at h7;cases h7
structure PadOk (words : Int) (p : List Int) : Prop where
 rg : ∀ v, v ∈ p → 0 ≤ v ∧ v < words
 tl : ∀ v, v ∈ p.drop 1 → v ≠ 1
theorem zo {ws l : List ByteArray} (hp : marks15 <+: ws) (hl : kC l) : PadOk ws.length (eo ws l) := by
 have h3 : 3 ≤ ws.length := hp.length_le;have key : ∀ v, v ∈ l.map (gL ws) ++ [2] → 0 ≤ v ∧ v < (ws.length : Int) ∧ v ≠ 1 := fun v hv => by
  rcases EF.1 hv with hv | hv
  ·obtain ⟨w, hw, rfl⟩ := Ez.1 hv;exact A7 hp (hl w hw).2
  ·simp at hv; subst hv; omega
 refine ⟨fun v hv => ?_, fun v hv => (key v (by simpa [eo] using hv)).2.2⟩;have : v = 1 ∨ v ∈ l.map (gL ws) ++ [2] := by simpa [eo] using hv
 rcases this with rfl | h
 ·omega
 ·exact ⟨(key v h).1, (key v h).2.1⟩
theorem qu {p : List Int} {n : Nat} : ∀ (i : Nat) (g : List Int), g ∈ grS p n i → ∃ j, n + j ≤ p.length ∧ g = (p.drop j).take n
 | 0, g, h => by simp [grS] at h
 | i + 1, g, h => by
  unfold grS at h;split at h
  ·rename_i hi;rcases EF.1 h with h | h
   ·exact qu i g h
   ·simp at h; exact ⟨i, hi, h⟩
  ·exact qu i g h
theorem t8 {L : List (List Int)} {n : Nat} {g : List Int} (h : g ∈ a8 L n) : ∃ p j, p ∈ L ∧ n + j ≤ p.length ∧ g = (p.drop j).take n := by
 unfold a8 at h;obtain ⟨l, hl, hgl⟩ := List.mem_flatten.1 h;obtain ⟨p, hpm, rfl⟩ := Ez.1 hl;obtain ⟨j, h1, h2⟩ := qu _ _ hgl;exact ⟨p, j, hpm, h1, h2⟩
theorem uV : ∀ (l : List Int), (∀ v, v ∈ l → v ≠ 1) → idx 1 l < 0
 | [], _ => by simp [idx]
 | y :: l, h => by
  unfold idx;rw [if_neg (fun e => h y (by simp) e.symm), if_pos (uV l fun v hv => h v (Ep _ hv))];omega
theorem Dt {words : Int} {p : List Int} (hp : PadOk words p) {n j : Nat} : gW words ((p.drop j).take n) = 0 := by
 have hsub : ∀ v, v ∈ (p.drop j).take n → v ∈ p := fun v hv => Gk (Fv hv)
 unfold gW;rw [if_neg, if_neg]
 ·have := uV (((p.drop j).take n).drop 1) fun v hv => hp.tl v (by
   rw [List.drop_take] at hv;have h1 : v ∈ (p.drop j).drop 1 := Fv hv;have e : (p.drop j).drop 1 = (p.drop 1).drop j := by rw [FL, FL, Gn]
   rw [e] at h1;exact Gk h1)
  omega
 ·rw [Fk]
  rintro ⟨v, hv, hb⟩
  have := hp.rg v (hsub v hv);unfold mf at hb;simp at hb;omega
theorem su {words : Int} : ∀ {l : List Cnt}, (∀ x, x ∈ l → gW words x.1 = 0) → kwL words l = 0
 | [], _ => rfl
 | y :: l, h => by
  unfold kwL;rw [if_neg (by rw [h y (by simp)]; simp)];exact su fun x hx => h x (Ep _ hx)
theorem pg {words : Int} : ∀ {L : List (List Cnt)}, (∀ l, l ∈ L → kwL words l = 0) → ij words L = 0
 | [], _ => rfl
 | y :: l, h => by
  unfold ij;rw [if_neg (by rw [h y (by simp)]; simp)];exact pg fun x hx => h x (Ep _ hx)
theorem l7 {n : Nat} : ∀ {l : List Cnt} {p : Option (List Int)}, (∀ x, x ∈ l → x.1.length = n + 1 ∧ 1 ≤ x.2) → dP l → (∀ q, p = some q → ∀ x, x ∈ l → aD q x.1 < 0) → cO n p l = 0
 | [], p, _, _, _ => nq
 | x :: l, p, h, hr, hq => by
  obtain ⟨h1, h2⟩ := FC.1 hr;obtain ⟨a1, a2⟩ := h x (by simp);rw [hG, if_neg (by omega), if_neg (by omega), if_neg]
  ·exact l7 (fun y hy => h y (Ep _ hy)) h2 fun q hq y hy => by cases hq; exact h1 y hy
  ·cases p with
   | none => simp
   | some q =>
    have := hq q rfl x (by simp);simp; omega
theorem kE : ∀ {L : List (List Cnt)} {n : Nat}, (∀ (k : Nat) l, L[k]? = some l → cO (n + k) none l = 0) → cT n L = 0
 | [], _, _ => rfl
 | l :: L, n, h => by
  have h0 : cO n none l = 0 := h 0 l rfl;rw [cT, if_neg (by rw [h0]; simp)];exact kE fun k x hx => by
   have := h (k + 1) x (by simpa using hx);rwa [show n + (k + 1) = n + 1 + k by omega] at this
abbrev ofL (s : ByteArray) (m : Nat) : List (List Cnt) := ca (fu (aH s) s) m
theorem n7 {s : ByteArray} (hs : s.size ≤ 120) : marks15 <+: aH s ∧ (aH s).length ≤ 14523 := by
 obtain ⟨b1, b2⟩ := kD s;refine ⟨pf _ _, ?_⟩;have h1 := lq (n := 120) (fH s) marks15 fun ws h => by have := (b2 ws h).1; omega
 have h3 : (fH s).length * 120 ≤ 121 * 120 := D8 _ (by omega);have h4 : marks15.length = 3 := rfl;unfold aH;omega
theorem n8 {s : ByteArray} (hs : s.size ≤ 120) : (fu (aH s) s).length ≤ 121 ∧ ∀ p, p ∈ fu (aH s) s → p.length ≤ 122 ∧ PadOk (aH s).length p := by
 obtain ⟨b1, b2⟩ := kD s;unfold fu;refine ⟨by rw [EP]; omega, fun p hp => ?_⟩;obtain ⟨l, hl, rfl⟩ := Ez.1 hp;obtain ⟨c1, c2⟩ := b2 l hl;refine ⟨?_, zo (n7 hs).1 c2⟩;simp [eo];omega
theorem kF {L : List (List Int)} {m k : Nat} {l : List Cnt} (h : (ca L m)[k]? = some l) : k < m ∧ l = ge (a8 L (k + 1)) := by
 unfold ca at h;rw [Eb, D6] at h;obtain ⟨j, hj, rfl⟩ := h;obtain ⟨h1, h2⟩ := D2.1 hj;simp at h1 h2;subst h2;exact ⟨h1, rfl⟩
theorem A8 {s : ByteArray} (hs : s.size ≤ 120) (n : Nat) : (a8 (fu (aH s) s) n).length ≤ 14762 := by
 obtain ⟨a1, a2⟩ := n8 hs;have h1 := gH (n := n) (k := 122) (fu (aH s) s) fun p h => (a2 p h).1
 have h3 : (fu (aH s) s).length * 122 ≤ 121 * 122 := D8 _ a1;omega
theorem uW {s : ByteArray} (hs : s.size ≤ 120) {m k : Nat} {l : List Cnt} (h : (ofL s m)[k]? = some l) : k < m ∧ l.length ≤ 14762 ∧ dP l ∧ ∀ x, x ∈ l → x.1.length = k + 1 ∧ 1 ≤ x.2 ∧ x.2 ≤ 14762 ∧ gW (aH s).length x.1 = 0 := by
 obtain ⟨h1, rfl⟩ := kF h;obtain ⟨g1, g2, g3, g4⟩ := mF _ (a8 (fu (aH s) s) (k + 1)) rfl;have hb := A8 hs (k + 1);refine ⟨h1, by omega, g4, fun x hx => ?_⟩;obtain ⟨p, j, hp, hj, hg⟩ := t8 (g2 x hx);have hn := g3 x hx;refine ⟨?_, hn.1, by omega, ?_⟩
 ·rw [hg, Ed, EJ]; omega
 ·rw [hg]; exact Dt ((n8 hs).2 p hp).2
theorem n9 {s : ByteArray} (hs : s.size ≤ 120) {m : Nat} {l : List Cnt} (h : l ∈ ofL s m) (hm : m ≤ 4) : l.length ≤ 14762 ∧ dP l ∧ ∀ x, x ∈ l → x.1.length ≤ 4 ∧ 1 ≤ x.2 ∧ x.2 ≤ 14762 ∧ gW (aH s).length x.1 = 0 := by
 obtain ⟨k, hk⟩ := FS.1 h;obtain ⟨h1, h2, h3, h4⟩ := uW hs hk;exact ⟨h2, h3, fun x hx => by obtain ⟨a1, a2⟩ := h4 x hx; exact ⟨by omega, a2⟩⟩
theorem sv {s : ByteArray} (hs : s.size ≤ 120) {m : Nat} (h1 : 1 ≤ m) (h4 : m ≤ 4) : gC (ofL s m) (aH s).length = 0 := by
 obtain ⟨l1, l2⟩ := n7 hs;have l3 : 3 ≤ (aH s).length := l1.length_le;have hlen : (ofL s m).length = m := cc _ _;have hw : fi (ofL s m) = 0 := by
  unfold fi;rw [if_neg (by rw [hlen]; omega)];refine kE fun k l hk => ?_
  obtain ⟨_, _, r, hx⟩ := uW hs hk;rw [ES];exact l7 (fun x hm => ⟨(hx x hm).1, (hx x hm).2.1⟩) r fun q hq => by cases hq
 unfold gC;rw [if_neg (by rw [hw]; simp), if_neg (by omega)];refine pg fun l hl => su fun x hx => ?_
 exact ((n9 hs hl h4).2.2 x hx).2.2.2
theorem t9 {s : ByteArray} (hs : s.size ≤ 120) {m : Nat} (h4 : m ≤ 4) : CCSum (ofL s m) ∧ ∀ l, l ∈ ofL s m → ∀ x, x ∈ l → x.2 ≤ 4611686018427387904 := by
 have hlen : (ofL s m).length = m := cc _ _;have hcl : CCLim (ofL s m) := ⟨by rw [hlen]; omega, fun l hl => by
  obtain ⟨a1, _, a3⟩ := n9 hs hl h4;exact ⟨by omega, fun x hx => by have := (a3 x hx).1; omega⟩⟩
 refine ⟨⟨hcl, fun l hl => ?_⟩, fun l hl x hx => by have := ((n9 hs hl h4).2.2 x hx).2.2.1; omega⟩;obtain ⟨n, hn, rfl⟩ := dK hl;obtain ⟨a1, _, a3⟩ := n9 hs (Ec hn) h4;have := nY (M := 1000000) (by omega) ((ofL s m)[n].map (cF (ofL s m) n)) fun x hx' => by
  obtain ⟨y, hy, rfl⟩ := Ez.1 hx';have h4 := (a3 y hy).2.2.1;unfold cF;split
  ·have : ahead ((ofL s m).getD (n + 1) []) y.1 ≤ 1000000 := by
    by_cases h3 : n + 1 < (ofL s m).length
    ·have e : (ofL s m).getD (n + 1) [] = (ofL s m)[n + 1] := by simp [DZ, h3]
     rw [e];exact D4 (E4 _ _) (hcl.at' h3).len
    ·have e : (ofL s m).getD (n + 1) [] = [] := by simp [DZ, Eo (E9 h3)]
     rw [e]; simp [ahead]
   show ((ahead _ _ : Nat) : Int) ≤ _
   omega
  ·omega
 rw [EP] at this;have h5 : ((ofL s m)[n].length : Int) * 1000000 ≤ 14762 * 1000000 := Int.mul_le_mul_of_nonneg_right (by omega) (by omega);omega
def qv (p : Nat × Nat) : Rat := (p.1 : Rat) / (p.2 : Rat)
theorem eg {n : Nat} (h : n ≠ 0) : (n : Rat) ≠ 0 := fun e => h (Rat.natCast_inj.1 (by rw [e]; rfl))
theorem ph {n d : Nat} (h : d ≠ 0) : qv (fR n d) = (n : Rat) / (d : Rat) := by
 have hg : Nat.gcd n d ≠ 0 := fun e => h (FQ e)
 obtain ⟨a, ha⟩ := GF n d;obtain ⟨b, hb⟩ := FZ n d;unfold qv fR;generalize Nat.gcd n d = g at *
 subst ha hb;have hb0 : b ≠ 0 := fun e => h (by rw [e, Fn])
 simp only;rw [Ft _ (Eu hg), Ft _ (Eu hg), EZ, EZ];have h1 := eg hg;have h2 := eg hb0;grind
theorem jw {p q : Nat × Nat} (hp : p.2 ≠ 0) (hq : q.2 ≠ 0) : qv (cG p q) = qv p * qv q := by
 unfold cG;rw [ph (Es hp hq), EZ, EZ];have h1 := eg hp;have h2 := eg hq;unfold qv;grind
theorem qw {p q : Nat × Nat} (hp : p.2 ≠ 0) (hq : q.2 ≠ 0) (hq1 : q.1 ≠ 0) : qv (dW p q) = qv p / qv q := by
 unfold dW;rw [ph (Es hp hq1), EZ, EZ];have h1 := eg hp;have h2 := eg hq;have h3 := eg hq1;unfold qv;grind
theorem ip {p q : Nat × Nat} (hp : p.2 ≠ 0) (hq : q.2 ≠ 0) : qv (bE p q) = qv p + qv q := by
 unfold bE;rw [ph (Es hp hq), EZ, FH, EZ, EZ];have h1 := eg hp;have h2 := eg hq;unfold qv;grind
theorem zp {p q : Nat × Nat} (hp : p.2 ≠ 0) (hq : q.2 ≠ 0) (hle : q.1 * p.2 ≤ p.1 * q.2) : qv (cW p q) = qv p - qv q := by
 unfold cW;obtain ⟨c, hc⟩ := Nat.exists_eq_add_of_le hle;have e : (p.1 : Rat) * q.2 = q.1 * p.2 + c := by rw [← EZ, hc, FH, EZ]
 rw [ph (Es hp hq), hc, Nat.add_sub_cancel_left, EZ];have h1 := eg hp;have h2 := eg hq;unfold qv;grind
theorem er (n : Nat) : qv (n, 1) = n := by
 unfold qv;simp only;rw [show ((1 : Nat) : Rat) = 1 from rfl];grind
theorem CG {n d : Nat} (hd : d ≠ 0) (h : qv (fR n d) = 1) : fR n d = (1, 1) := by
 rw [ph hd] at h;have h1 := eg hd;have e : (n : Rat) = d := by grind
 have := Rat.natCast_inj.1 e;subst this;unfold fR;rw [Nat.gcd_self, GL (Eu hd)]
theorem eH {p q : Nat × Nat} (hp : p.2 ≠ 0) (hq : q.2 ≠ 0) : (cG p q).2 ≠ 0 := ig (Es hp hq)
theorem gf {p q : Nat × Nat} (hp : p.2 ≠ 0) (hq : q.2 ≠ 0) : (bE p q).2 ≠ 0 := ig (Es hp hq)
theorem oa {p q : Nat × Nat} (hp : p.2 ≠ 0) (hq : q.1 ≠ 0) : (dW p q).2 ≠ 0 := ig (Es hp hq)
def db (f : Nat → Rat) : Nat → Rat
 | 0 => 0
 | n + 1 => db f n + f n
def fT (f : Cnt → Rat) : List Cnt → Rat
 | [] => 0
 | x :: l => f x + fT f l
theorem et {f g : Nat → Rat} : ∀ {n : Nat}, (∀ w, w < n → f w = g w) → db f n = db g n
 | 0, _ => rfl
 | n + 1, h => by rw [db, db, et fun w hw => h w (by omega), h n (by omega)]
theorem oc {f g : Nat → Rat} : ∀ {n : Nat}, db (fun w => f w + g w) n = db f n + db g n
 | 0 => by simp only [db]; grind
 | n + 1 => by simp only [db]; rw [oc]; grind
theorem od {f : Nat → Rat} {c : Rat} : ∀ {n : Nat}, db (fun w => c * f w) n = c * db f n
 | 0 => by simp only [db]; grind
 | n + 1 => by simp only [db]; rw [od]; grind
theorem lr : ∀ {n : Nat}, db (fun _ => 0) n = 0
 | 0 => rfl
 | n + 1 => by simp only [db]; rw [lr]; grind
theorem sw {c : Rat} {v : Nat} : ∀ {n : Nat}, db (fun w => if w = v then c else 0) n = if v < n then c else 0
 | 0 => by simp [db]
 | n + 1 => by
  simp only [db]; rw [sw];by_cases h1 : n = v
  ·subst h1; rw [if_neg (by omega), if_pos rfl, if_pos (by omega)]; grind
  ·rw [if_neg h1];by_cases h2 : v < n
   ·rw [if_pos h2, if_pos (by omega)]; grind
   ·rw [if_neg h2, if_neg (by omega)]; grind
theorem oe {c : Rat} : ∀ {n : Nat}, db (fun w => if (w : Int) = 1 then 0 else c) (n + 2) = ((n + 1 : Nat) : Rat) * c
 | 0 => by
  simp only [db];rw [if_neg (by decide), if_pos (by decide), show ((0 + 1 : Nat) : Rat) = 1 from rfl];grind
 | n + 1 => by
  rw [db, oe, if_neg (by omega), FH (n + 1) 1, show ((1 : Nat) : Rat) = 1 from rfl];grind
theorem og {f g : Cnt → Rat} : ∀ {l : List Cnt}, (∀ x, x ∈ l → f x = g x) → fT f l = fT g l
 | [], _ => rfl
 | y :: l, h => by rw [fT, fT, og fun x hx => h x (Ep _ hx), h y (by simp)]
theorem pj : ∀ l : List Cnt, fT (fun _ => 0) l = 0
 | [] => rfl
 | _ :: l => by simp only [fT]; rw [pj l]; grind
theorem Du (f : Nat → Cnt → Rat) : ∀ (l : List Cnt) (n : Nat), db (fun w => fT (f w) l) n = fT (fun x => db (fun w => f w x) n) l
 | [], n => by simp only [fT]; exact lr
 | y :: l, n => by simp only [fT]; rw [oc, Du f l n]
theorem l8 {f : Cnt → Rat} {p : Cnt → Bool} : ∀ {l : List Cnt}, fT (fun x => if p x = true then f x else 0) l = fT f (l.filter p)
 | [] => rfl
 | y :: l => by
  simp only [fT]; rw [l8];by_cases h : p y = true
  ·rw [if_pos h, EL h, fT]
  ·rw [if_neg h, ED h]; grind
def nlk (g : List Int) (l : List Cnt) : Int := if cM g l < 0 then 0 else (l.getD (cM g l).toNat ([], 0)).2
theorem zq {g : List Int} {x : Cnt} {l : List Cnt} : nlk g (x :: l) = if x.1 = g then x.2 else nlk g l := by
 unfold nlk;by_cases h : x.1 = g
 ·rw [if_pos h, show cM g (x :: l) = 0 by rw [cM, if_pos h]]; rfl
 ·rw [if_neg h];have := qn g l;by_cases h2 : cM g l < 0
  ·rw [show cM g (x :: l) = -1 by rw [cM, if_neg h, if_pos h2], if_pos h2]; rfl
  ·rw [show cM g (x :: l) = cM g l + 1 by rw [cM, if_neg h, if_neg h2], if_neg h2, if_neg (by omega), show (cM g l + 1).toNat = (cM g l).toNat + 1 by omega];simp
theorem uX {f : Int → Rat} (hf : f 0 = 0) (g : List Int) : ∀ {l : List Cnt}, dP l → f (nlk g l) = fT (fun x => if x.1 = g then f x.2 else 0) l
 | [], _ => by show f 0 = 0; exact hf
 | y :: l, h => by
  obtain ⟨h1, h2⟩ := FC.1 h;rw [zq, fT, ← uX hf g h2];by_cases h3 : y.1 = g
  ·have h4 : nlk g l = 0 := by
    unfold nlk;rw [if_pos];rw [f9 g l fun j hj e => ?_]
    ·decide
    ·have := h1 _ (Ec hj);rw [e, h3, dN] at this;omega
   rw [if_pos h3, if_pos h3, h4, hf]; grind
  ·rw [if_neg h3, if_neg h3]; grind
theorem wk {Lc : List (List Cnt)} {h : List Int} {w : Int} (hh : h.length < Lc.length) : cy Lc (h ++ [w]) = nlk (h ++ [w]) (lvl Lc h) := by
 have e : (h ++ [w]).length - 1 = h.length := by simp
 unfold cy nlk lvl;rw [e, if_neg (by simp; omega)]
def eJ (words : Int) (l : List Cnt) : Prop := ∀ x, x ∈ l → ∀ (h : List Int) (v : Int), x.1 = h ++ [v] → 0 ≤ v ∧ v < words ∧ (v = 1 → h = [])
theorem A9 {f : Int → Rat} (hf : f 0 = 0) {l : List Cnt} {words : Nat} (hr : dP l) (h0 : ∀ x, x ∈ l → 0 ≤ x.2) (he : eJ words l) (h : List Int) :
  db (fun w => if (w : Int) = 1 then 0 else f (nlk (h ++ [(w : Int)]) l)) words = fT (fun x => if aR x = true then f x.2 else 0) (after l h) := by
 rw [et (g := fun w => fT (fun x => if (w : Int) = 1 then 0 else if x.1 = h ++ [(w : Int)] then f x.2 else 0) l) fun w _ => ?_, Du]
 ·unfold after;rw [← l8];refine og fun x hx => ?_
  by_cases hp : fN h x = true
  ·rw [if_pos hp];unfold fN at hp;rw [D0, decide_eq_true_eq, decide_eq_true_eq] at hp;obtain ⟨v, hv⟩ : ∃ v, x.1 = h ++ [v] := by
    refine ⟨x.1[h.length]'(by omega), ?_⟩;have e := Gb h.length x.1;rw [hp.2, Ew (by omega), List.drop_of_length_le (by omega)] at e;exact e.symm
   obtain ⟨e1, e2, e3⟩ := he x hx h v hv;obtain ⟨vn, rfl⟩ : ∃ vn : Nat, v = (vn : Int) := ⟨v.toNat, by omega⟩;rw [et (g := fun w => if w = vn then (if (vn : Int) = 1 then 0 else f x.2) else 0) fun w _ => ?_, sw, if_pos (by omega)]
   ·by_cases h1 : (vn : Int) = 1
    ·rw [if_pos h1, if_neg];have : x.1 = [1] := by rw [hv, e3 h1, h1]; rfl
     unfold aR;rw [this]; simp
    ·rw [if_neg h1];have hne : ¬ x.1 = [1] := fun h2 => by
      rw [hv] at h2;have hl := congrArg List.length h2;simp at hl;subst hl;simp at h2;omega
     by_cases h2 : x.2 < 1
     ·have := h0 x hx;rw [show x.2 = 0 by omega, hf];split <;> rfl
     ·rw [if_pos];unfold aR;rw [decide_eq_false h2, decide_eq_false hne]; rfl
   ·by_cases hw : w = vn
    ·subst hw;rw [if_pos rfl, if_pos hv]
    ·rw [if_neg hw];rw [if_neg (show ¬ x.1 = h ++ [(w : Int)] from fun e => by
      rw [hv] at e;have := List.append_cancel_left e;simp at this;omega)]
     split <;> rfl
  ·rw [if_neg hp, et (g := fun _ => 0) fun w _ => ?_, lr];rw [if_neg (show ¬ x.1 = h ++ [(w : Int)] from fun e => hp (by unfold fN; rw [e]; simp))];split <;> rfl
 ·by_cases hw : (w : Int) = 1
  ·simp only [if_pos hw];exact (pj l).symm
  ·simp only [if_neg hw];exact uX hf _ hr
theorem Dw {n d k : Nat} (h : n ≤ k * d) : (fR n d).1 ≤ k * (fR n d).2 := by
 show n / Nat.gcd n d ≤ k * (d / Nat.gcd n d)
 rw [← Nat.mul_div_assoc k (FZ n d)];exact Nat.div_le_div_right h
theorem Ba (k : Nat) (p : Nat × Nat) : (cW (k, 1) p).1 ≤ k * (cW (k, 1) p).2 := Dw (by simp)
theorem qx (l : List Cnt) (k : Nat) (h1 : 1 ≤ k) (h3 : k ≤ 3) : (eN l k).1 ≤ k * (eN l k).2 := by
 have hk : k = 1 ∨ k = 2 ∨ k = 3 := by omega
 unfold eN;rcases hk with rfl | rfl | rfl
 all_goals
  simp only [cH];split
  ·exact Ba _ _
  ·exact FV _
theorem CH (l : List Cnt) {a : Int} (ha : 0 ≤ a) : (atN l a).1 * 1 ≤ a.toNat * (atN l a).2 := by
 rw [Fg];unfold atN at4;split
 ·exact FV _
 ·split
  ·rename_i h; subst h; exact qx l 1 (by omega) (by omega)
  ·split
   ·rename_i h; subst h; exact qx l 2 (by omega) (by omega)
   ·exact D4 (qx l 3 (by omega) (by omega)) (D8 _ (by omega))
def kG (l : List Cnt) (a : Int) : Rat := qv (cW (a.toNat, 1) (atN l a))
theorem Bb (l : List Cnt) : kG l 0 = 0 := by
 have : cW ((0 : Int).toNat, 1) (atN l 0) = (0, 1) := by
  unfold atN at4;rw [if_pos (by omega)];rfl
 unfold kG;rw [this, er];rfl
theorem zr {l : List Cnt} (hl : CLim l) {a : Int} (ha : 0 ≤ a) : kG l a = (a.toNat : Rat) - qv (atN l a) := by
 unfold kG;rw [zp (by simp) (nS hl a).pos (CH l ha), er]
theorem pk {x : Cnt} {l : List Cnt} : totN (x :: l) = (if aR x = true then x.2.toNat else 0) + totN l := by
 have h1 : tot (x :: l) = tot [x] + tot l := iH [x] l;have h2 := cC [x];have h3 := cC l;have h4 : tot [x] = if aR x = true then x.2 else 0 := by
  unfold tot;by_cases h : aR x = true
  ·rw [if_pos h, EL h]; simp
  ·rw [if_neg h, ED h]; simp
 unfold totN;split
 ·rename_i h; rw [if_pos h] at h4; omega
 ·rename_i h; rw [if_neg h] at h4; omega
theorem wl {x : Cnt} {l : List Cnt} : tysN (x :: l) = (if aR x = true then 1 else 0) + tysN l := by
 unfold tysN;by_cases h : aR x = true
 ·rw [if_pos h, EL h, EA]; omega
 ·rw [if_neg h, ED h]; omega
theorem pm {x : Cnt} {l : List Cnt} {k : Int} : aq (x :: l) k = (if aR x = true ∧ x.2 = k then 1 else 0) + aq l k := by
 unfold aq;by_cases h : aR x = true ∧ x.2 = k
 ·rw [if_pos h, EL (by simp [h]), EA]; omega
 ·rw [if_neg h, ED (by simpa using h)]; omega
def zs (l A : List Cnt) : Rat := (aq A 1 : Rat) * qv (eN l 1) + (aq A 2 : Rat) * qv (eN l 2) + ((tysN A : Rat) - (aq A 1 : Rat) - (aq A 2 : Rat)) * qv (eN l 3)
theorem CI {x : Cnt} (h : aR x = true) : 1 ≤ x.2 := by
 unfold aR at h;rw [D0] at h;have := h.1;simp at this;omega
theorem sx {l : List Cnt} (hl : CLim l) : ∀ A : List Cnt, fT (fun x => if aR x = true then kG l x.2 else 0) A = (totN A : Rat) - zs l A
 | [] => by
  show (0 : Rat) = ((0 : Nat) : Rat) - _
  unfold zs;rw [show ((aq [] 1 : Nat) : Rat) = 0 from rfl, show ((aq [] 2 : Nat) : Rat) = 0 from rfl, show ((tysN [] : Nat) : Rat) = 0 from rfl, show ((0 : Nat) : Rat) = 0 from rfl];grind
 | x :: A => by
  have ih := sx hl A;rw [fT, ih];unfold zs;rw [pk, wl, pm, pm];by_cases h : aR x = true
  ·have h1 := CI h;rw [if_pos h, if_pos h, if_pos h, zr hl (by omega)];simp only [h, true_and, FH];rw [show ((1 : Nat) : Rat) = 1 from rfl];have h2 : x.2 = 1 ∨ x.2 = 2 ∨ 3 ≤ x.2 := by omega
   unfold atN at4;rw [if_neg (by omega)];rcases h2 with h2 | h2 | h2
   ·rw [if_pos h2, if_pos h2, if_neg (show ¬ x.2 = 2 by omega), show ((1 : Nat) : Rat) = 1 from rfl, show ((0 : Nat) : Rat) = 0 from rfl];grind
   ·rw [if_neg (show ¬ x.2 = 1 by omega), if_pos h2, if_neg (show ¬ x.2 = 1 by omega), if_pos h2, show ((1 : Nat) : Rat) = 1 from rfl, show ((0 : Nat) : Rat) = 0 from rfl];grind
   ·rw [if_neg (show ¬ x.2 = 1 by omega), if_neg (show ¬ x.2 = 2 by omega), if_neg (show ¬ x.2 = 1 by omega), if_neg (show ¬ x.2 = 2 by omega), show ((0 : Nat) : Rat) = 0 from rfl];grind
  ·rw [if_neg h, if_neg h, if_neg h, if_neg (fun e => h e.1), if_neg (fun e => h e.1)];simp only [ES];grind
theorem CJ {Lc : List (List Cnt)} {words : Int} (hx : XOk Lc words) {h : List Int} (hT : totN (after (lvl Lc h) h) ≠ 0) : qv (gc Lc h) = zs (lvl Lc h) (after (lvl Lc h) h) / (totN (after (lvl Lc h) h) : Rat) := by
 have hh : h.length < Lc.length := by
  apply Classical.byContradiction;intro hn;apply hT;have : lvl Lc h = [] := by simp [lvl, DZ, Eo (E9 hn)]
  rw [this]; rfl
 have hlv := gD hh;have hln := hx.lim.at' hh;have ob := fun k => fG hln k
 unfold gc;rw [dif_pos hh, ← hlv];rw [← hlv] at ob;generalize lvl Lc h = l at *
 have hs := mC (after l h);unfold nM;rw [if_neg (by omega)];have i := fun n : Nat => er n
 obtain ⟨c, hc⟩ := Nat.exists_eq_add_of_le hs;have p1 := (ob 1).pos;have p2 := (ob 2).pos;have p3 := (ob 3).pos;have one : (1 : Nat) ≠ 0 := by decide
 have m1 : (cG (aq (after l h) 1, 1) (eN l 1)).2 ≠ 0 := eH one p1;have m2 : (cG (aq (after l h) 2, 1) (eN l 2)).2 ≠ 0 := eH one p2;have m3 : (cG (tysN (after l h) - aq (after l h) 1 - aq (after l h) 2, 1) (eN l 3)).2 ≠ 0 := eH one p3;have a1 : (bE (cG (aq (after l h) 1, 1) (eN l 1)) (cG (aq (after l h) 2, 1) (eN l 2))).2 ≠ 0 := gf m1 m2;show qv (dW (bE (bE (cG (aq (after l h) 1, 1) (eN l 1)) (cG (aq (after l h) 2, 1) (eN l 2))) (cG (tysN (after l h) - aq (after l h) 1 - aq (after l h) 2, 1) (eN l 3))) (totN (after l h), 1)) = _
 rw [qw (gf a1 m3) one hT, ip a1 m3, ip m1 m2, jw one p1, jw one p2, jw one p3, i, i, i, i];unfold zs;congr 2;rw [hc, show aq (after l h) 1 + aq (after l h) 2 + c - aq (after l h) 1 - aq (after l h) 2 = c by omega, FH, FH];grind
def noB (f : Nat → Rat) (w : Nat) : Rat := if (w : Int) = 1 then 0 else f w
theorem sy {Lc : List (List Cnt)} {n : Nat} (hx : XOk Lc n) (he : ∀ l, l ∈ Lc → eJ n l) (h : List Int) {p : Nat → Nat × Nat} (hp : ∀ w, (p w).2 ≠ 0) (hs : db (noB fun w => qv (p w)) n = 1) :
  db (noB fun w => qv (eQ Lc w h (p w))) n = 1 := by
 by_cases hT : totN (after (lvl Lc h) h) = 0
 ·rw [← hs];refine et fun w _ => ?_
  unfold noB eQ;simp only [if_pos hT]
 ·have hh : h.length < Lc.length := by
   apply Classical.byContradiction;intro hn;apply hT;have : lvl Lc h = [] := by simp [lvl, DZ, Eo (E9 hn)]
   rw [this]; rfl
  have hm : lvl Lc h ∈ Lc := by rw [gD hh]; exact Ec hh
  have hln := hx.lim.l _ hm;have hsn := A9 (f := kG (lvl Lc h)) (Bb _) (words := n) (hx.rises _ hm) (fun x hxm => (hx.num _ hm x hxm).1) (he _ hm) h;rw [sx hln] at hsn;have hg := CJ hx hT;have hgb := (kx hx h).pos;have hT' := eg hT;rw [et (g := fun w => (1 / (totN (after (lvl Lc h) h) : Rat)) * (if (w : Int) = 1 then 0 else kG (lvl Lc h) (nlk (h ++ [(w : Int)]) (lvl Lc h))) + qv (gc Lc h) * noB (fun w => qv (p w)) w) fun w _ => ?_, oc, od, od, hs, hsn, hg]
  ·grind
  ·unfold noB;by_cases hw : (w : Int) = 1
   ·simp only [if_pos hw]; grind
   ·simp only [if_neg hw];unfold eQ;have ob := (ee hx w h).pos;have one : (1 : Nat) ≠ 0 := by decide
    rw [if_neg hT, ip (oa ob hT) (eH hgb (hp w)), qw ob one hT, jw hgb (hp w), er];have : qv (owF Lc w h) = kG (lvl Lc h) (nlk (h ++ [(w : Int)]) (lvl Lc h)) := by
     unfold owF kG;rw [wk hh]
    rw [this];grind
theorem CK {Lc : List (List Cnt)} {n : Nat} (hx : XOk Lc n) : db (noB fun _ => qv (p0F n)) n = 1 := by
 have h3 := hx.w3;obtain ⟨k, rfl⟩ : ∃ k, n = k + 2 := ⟨n - 2, by omega⟩;have e : qv (p0F ((k + 2 : Nat) : Int)) = 1 / ((k + 1 : Nat) : Rat) := by
  unfold p0F;rw [show (((k + 2 : Nat) : Int) - 1).toNat = k + 1 by omega, qw (by decide) (show (1 : Nat) ≠ 0 by decide) (show k + 1 ≠ 0 by omega), er, er];rfl
 unfold noB;rw [oe, e];have := eg (n := k + 1) (by omega);grind
theorem qy {Lc : List (List Cnt)} {n : Nat} (hx : XOk Lc n) (he : ∀ l, l ∈ Lc → eJ n l) : ∀ h : List Int, db (noB fun w => qv (pF Lc n w h)) n = 1
 | [] => sy hx he [] (fun _ => (tV hx).pos) (CK hx)
 | x :: t => sy hx he (x :: t) (fun w => (uQ hx w t).pos) (qy hx he t)
def bq (Lc : List (List Cnt)) (words : Int) (h : List Int) : Nat → Nat × Nat
 | 0 => (0, 1)
 | w + 1 => bE (bq Lc words h w) (bj Lc words h w)
theorem mG {Lc : List (List Cnt)} {n : Nat} (hx : XOk Lc n) (h : List Int) : ∀ w : Nat, w ≤ n → (bq Lc n h w).2 ≠ 0 ∧ qv (bq Lc n h w) = db (noB fun w => qv (pF Lc n w (fS Lc h))) w
 | 0, _ => ⟨show (1 : Nat) ≠ 0 by decide, by show qv (0, 1) = 0; rw [er]; rfl⟩
 | w + 1, hw => by
  obtain ⟨i1, i2⟩ := mG hx h w (by omega);have hp := (sd hx h (w : Int)).pos;refine ⟨ig (Es i1 hp), ?_⟩;show qv (bE _ _) = db _ w + _
  rw [ip i1 hp, i2];congr 1;unfold bj noB;by_cases h1 : (w : Int) = 1
  ·rw [if_pos (.inr (.inr h1)), if_pos h1, er]; rfl
  ·rw [if_neg (by omega), if_neg h1]
theorem zt {Lc : List (List Cnt)} {n : Nat} (hx : XOk Lc n) (he : ∀ l, l ∈ Lc → eJ n l) (h : List Int) : bq Lc n h n = (1, 1) := by
 have h3 := hx.w3;obtain ⟨k, rfl⟩ : ∃ k, n = k + 1 := ⟨n - 1, by omega⟩;obtain ⟨i1, i2⟩ := mG hx h (k + 1) (by omega);obtain ⟨j1, _⟩ := mG hx h k (by omega);rw [qy hx he] at i2;exact CG (Es j1 (sd hx h (k : Int)).pos) i2
theorem CL {n d N D : Nat} (hd : d ≠ 0) (h : n * D = N * d) : (fR n d).2 ∣ D := by
 have hg : Nat.gcd n d ≠ 0 := fun e => hd (FQ e)
 have hco := jt (n := n) hd;obtain ⟨a, ha⟩ := GF n d;obtain ⟨b, hb⟩ := FZ n d;unfold fR at hco ⊢;generalize Nat.gcd n d = g at *
 subst ha hb;simp only at hco ⊢;rw [Ft _ (Eu hg)] at hco ⊢;rw [Ft _ (Eu hg)] at hco;have h2 : g * (a * D) = g * (N * b) := by rw [← Ee, h, EX]
 have h3 := Nat.eq_of_mul_eq_mul_left (Eu hg) h2;exact (Nat.Coprime.symm hco).dvd_of_dvd_mul_left ⟨N, by rw [h3, Ej]⟩
theorem fI {n d : Nat} : (fR n d).2 ∣ d := Nat.div_dvd_of_dvd (FZ n d)
structure Dv (Q : Nat) (p : Nat × Nat) : Prop where
 pos : p.2 ≠ 0
 dvd : p.2 ∣ Q
theorem Dv.up {Q R : Nat} {p : Nat × Nat} (h : Dv Q p) (hd : Q ∣ R) : Dv R p := ⟨h.pos, FK h.dvd hd⟩
theorem Dv.add {Q : Nat} {p q : Nat × Nat} (h1 : Dv Q p) (h2 : Dv Q q) : Dv Q (bE p q) := by
 refine ⟨gf h1.pos h2.pos, ?_⟩;obtain ⟨a, ha⟩ := h1.dvd;obtain ⟨b, hb⟩ := h2.dvd;refine CL (N := p.1 * a + q.1 * b) (Es h1.pos h2.pos) ?_;rw [Eg, Eg];congr 1
 ·rw [ha]; simp only [Ee, Ej, EX]
 ·rw [hb]; simp only [Ee, Ej, EX]
theorem Dv.mul {Q R : Nat} {p q : Nat × Nat} (h1 : Dv Q p) (h2 : Dv R q) : Dv (Q * R) (cG p q) :=
 ⟨eH h1.pos h2.pos, FK fI (Nat.mul_dvd_mul h1.dvd h2.dvd)⟩
theorem Dv.sub1 {Q k : Nat} {q : Nat × Nat} (h : Dv Q q) : Dv Q (cW (k, 1) q) :=
 ⟨ig (Es (show (1 : Nat) ≠ 0 by decide) h.pos), FK fI (by show 1 * q.2 ∣ Q; rw [EK]; exact h.dvd)⟩
theorem Dv.div1 {Q T : Nat} {p : Nat × Nat} (h : Dv Q p) (hT : T ≠ 0) : Dv (Q * T) (dW p (T, 1)) :=
 ⟨oa h.pos hT, FK fI (Nat.mul_dvd_mul h.dvd (G3 _))⟩
theorem Dv.int {Q n : Nat} : Dv Q (n, 1) := ⟨by show (1 : Nat) ≠ 0; decide, Nat.one_dvd Q⟩
theorem Dv.bd {Q k : Nat} {p : Nat × Nat} (h : Dv Q p) (hQ : Q ≠ 0) (hk : Q < 2 ^ k) (hle : p.1 ≤ p.2) : Bd k p := by
 have := Nat.le_of_dvd (Eu hQ) h.dvd;exact ⟨h.pos, by omega, by omega⟩
def dD (l : List Cnt) : Nat := (eN l 1).2 * (eN l 2).2 * (eN l 3).2
theorem mH {l : List Cnt} (hl : CLim l) (k : Nat) (h1 : 1 ≤ k) (h3 : k ≤ 3) : Dv (dD l) (eN l k) := by
 refine ⟨(fG hl k).pos, ?_⟩;have hk : k = 1 ∨ k = 2 ∨ k = 3 := by omega
 unfold dD;rcases hk with rfl | rfl | rfl
 ·exact FK (Gu _ _) (Gu _ _)
 ·exact FK (Nat.dvd_mul_left _ _) (Gu _ _)
 ·exact Nat.dvd_mul_left _ _
theorem CM {l : List Cnt} (hl : CLim l) : dD l ≠ 0 := Es (Es (fG hl 1).pos (fG hl 2).pos) (fG hl 3).pos
theorem CN {l : List Cnt} (hl : CLim l) (a : Int) : Dv (dD l) (atN l a) := by
 unfold atN at4;split
 ·exact .int
 ·split
  ·exact mH hl 1 (by omega) (by omega)
  ·split
   ·exact mH hl 2 (by omega) (by omega)
   ·exact mH hl 3 (by omega) (by omega)
def lvT (Lc : List (List Cnt)) (h : List Int) : Nat := totN (after (lvl Lc h) h)
def l9 (Lc : List (List Cnt)) (h : List Int) (q : Nat) : Nat := if lvT Lc h = 0 then q else dD (lvl Lc h) * lvT Lc h * q
def QF (Lc : List (List Cnt)) (words : Int) : List Int → Nat
 | [] => l9 Lc [] (words - 1).toNat
 | x :: t => l9 Lc (x :: t) (QF Lc words t)
theorem zu {Lc : List (List Cnt)} {h : List Int} (hT : lvT Lc h ≠ 0) : h.length < Lc.length := by
 apply Classical.byContradiction;intro hn;apply hT;have : lvl Lc h = [] := by simp [lvl, DZ, Eo (E9 hn)]
 unfold lvT;rw [this]; rfl
theorem CO {Lc : List (List Cnt)} {words : Int} (hx : XOk Lc words) {h : List Int} (hT : lvT Lc h ≠ 0) : Dv (dD (lvl Lc h) * lvT Lc h) (gc Lc h) := by
 have hh := zu hT;have hlv := gD hh;have hln := hx.lim.at' hh;unfold gc;rw [dif_pos hh, ← hlv];rw [← hlv] at hln;unfold lvT at hT ⊢;generalize lvl Lc h = l at *
 unfold nM;rw [if_neg (by omega)];have d := fun n k h1 h3 => (Dv.mul (Q := 1) (Dv.int (n := n)) (mH hln k h1 h3)).up (by rw [EK]; exact G3 _)
 exact (((d _ 1 (by omega) (by omega)).add (d _ 2 (by omega) (by omega))).add (d _ 3 (by omega) (by omega))).div1 hT
theorem uY {Lc : List (List Cnt)} {words : Int} (hx : XOk Lc words) {w : Int} {h : List Int} {p : Nat × Nat} {q : Nat} (hp : Dv q p) : Dv (l9 Lc h q) (eQ Lc w h p) := by
 have hlm := qp hx.lim h;unfold l9 eQ;show Dv (if lvT Lc h = 0 then _ else _) (if lvT Lc h = 0 then _ else _)
 by_cases hT : lvT Lc h = 0
 ·rw [if_pos hT, if_pos hT]; exact hp
 ·rw [if_neg hT, if_neg hT];exact (((CN hlm _).sub1.div1 hT).up (Gu _ _)).add ((CO hx hT).mul hp)
theorem BR {Lc : List (List Cnt)} {words : Int} (hx : XOk Lc words) (w : Int) : ∀ h : List Int, Dv (QF Lc words h) (pF Lc words w h)
 | [] => uY hx (by
   have h3 := hx.w3;have := Dv.div1 (Dv.int (Q := 1) (n := 1)) (T := (words - 1).toNat) (by omega);rwa [EK] at this)
 | x :: t => uY hx (BR hx w t)
theorem eK {Lc : List (List Cnt)} {words : Int} (hx : XOk Lc words) (h : List Int) (w : Int) : Dv (QF Lc words (fS Lc h)) (bj Lc words h w) := by
 unfold bj;split
 ·exact .int
 ·exact BR hx w _
theorem pn {Lc : List (List Cnt)} {words : Int} (hx : XOk Lc words) {h : List Int} {q : Nat} (hq : q ≠ 0) : l9 Lc h q ≠ 0 := by
 unfold l9;split
 ·exact hq
 ·rename_i hT;exact Es (Es (CM (qp hx.lim h)) hT) hq
theorem qz {Lc : List (List Cnt)} {words : Int} (hx : XOk Lc words) : ∀ h : List Int, QF Lc words h ≠ 0
 | [] => pn hx (by have := hx.w3; omega)
 | x :: t => pn hx (qz hx t)
structure Few (Lc : List (List Cnt)) (words : Int) (e t b : Nat) : Prop where
 d : ∀ l, l ∈ Lc → dD l < 2 ^ e
 t : ∀ l, l ∈ Lc → totN l < 2 ^ t
 w : (words - 1).toNat < 2 ^ b
theorem kH {a b k m : Nat} (h1 : a < 2 ^ k) (h2 : b < 2 ^ m) : a * b < 2 ^ (k + m) := fQ h1 h2
theorem sA {Lc : List (List Cnt)} {words : Int} {e t b : Nat} (hf : Few Lc words e t b) {h : List Int} {q k : Nat} (hq : q < 2 ^ k) : l9 Lc h q < 2 ^ (k + (e + t)) := by
 unfold l9;split
 ·exact Ea hq (Eh (by omega) (by omega))
 ·rename_i hT;have hh := zu hT;have hm : lvl Lc h ∈ Lc := by rw [gD hh]; exact Ec hh
  have ht : lvT Lc h < 2 ^ t := by
   have h1 := fl (fN h) (lvl Lc h);have h2 := hf.t _ hm;have : lvT Lc h ≤ totN (lvl Lc h) := by unfold lvT totN after; omega
   omega
  rw [Gn k];exact kH (kH (hf.d _ hm) ht) hq
theorem BS {Lc : List (List Cnt)} {words : Int} {e t b : Nat} (hf : Few Lc words e t b) : ∀ h : List Int, QF Lc words h < 2 ^ (b + (e + t) * (h.length + 1))
 | [] => by
  have := sA hf (h := []) hf.w;rwa [show (e + t) * (([] : List Int).length + 1) = e + t by simp]
 | x :: l => by
  have := sA hf (h := x :: l) (BS hf l);rwa [E3, show (e + t) * (l.length + 1) + (e + t) = (e + t) * ((x :: l).length + 1) by rw [EA, Er (e + t) (l.length + 1) 1, Fg]] at this
theorem kI {a b c : Rat} (hb : 0 < b) : a / b ≤ c ↔ a ≤ c * b := by rw [← Rat.not_lt, ← Rat.not_lt, Rat.lt_div_iff hb]
theorem fJ {a b c : Rat} (hb : 0 < b) : a ≤ c / b ↔ a * b ≤ c := by rw [← Rat.not_lt, ← Rat.not_lt, GM hb]
theorem dT (p : Nat × Nat) : 0 ≤ qv p := by
 unfold qv;by_cases h : p.2 = 0
 ·rw [h, show ((0 : Nat) : Rat) = 0 from rfl]; grind
 ·rw [fJ (FB.2 (Eu h)), Rat.zero_mul];exact Rat.natCast_nonneg
theorem oh {p : Nat × Nat} (hp : p.2 ≠ 0) (h : qv p ≤ 1) : p.1 ≤ p.2 := by
 have h1 : (0 : Rat) < p.2 := FB.2 (Eu hp);have h2 := (kI h1).1 h;rw [Rat.one_mul] at h2;exact Fz.1 h2
theorem iQ {f : Nat → Rat} (hf : ∀ w, 0 ≤ f w) {m : Nat} : ∀ {n : Nat}, m ≤ n → db f m ≤ db f n
 | 0, h => by
   have : m = 0 := by omega
   subst this; exact GO
 | n + 1, h => by
  by_cases hm : m = n + 1
  ·subst hm; exact GO
  ·have := iQ hf (m := m) (n := n) (by omega);have h2 := hf n;simp only [db];grind
theorem jx {f : Nat → Rat} (hf : ∀ w, 0 ≤ f w) (w : Nat) : 0 ≤ noB f w := by
 unfold noB;split
 ·exact GO
 ·exact hf w
theorem Bc {Lc : List (List Cnt)} {n : Nat} (hx : XOk Lc n) (he : ∀ l, l ∈ Lc → eJ n l) (h : List Int) {w : Nat} (hw : w ≤ n) : (bq Lc n h w).1 ≤ (bq Lc n h w).2 := by
 obtain ⟨i1, i2⟩ := mG hx h w hw;refine oh i1 ?_;rw [i2, ← qy hx he (fS Lc h)];exact iQ (jx fun w => dT _) hw
theorem ez {Lc : List (List Cnt)} {n : Int} (hx : XOk Lc n) (h : List Int) : ∀ w, Dv (QF Lc n (fS Lc h)) (bq Lc n h w)
 | 0 => .int
 | w + 1 => (ez hx h w).add (eK hx h w)
theorem po {Lc : List (List Cnt)} {n : Int} (hx : XOk Lc n) (h : List Int) : ∀ w, Nat.gcd (bq Lc n h w).1 (bq Lc n h w).2 = 1
 | 0 => Gi 1
 | w + 1 => jt (Es (ez hx h w).pos (eK hx h w).pos)
theorem zw {Lc : List (List Cnt)} {n : Nat} (hx : XOk Lc n) (he : ∀ l, l ∈ Lc → eJ n l) (h : List Int) (w : Int) : (bj Lc n h w).1 ≤ (bj Lc n h w).2 := by
 refine oh (eK hx h w).pos ?_;by_cases hw : w < 0 ∨ n ≤ w ∨ w = 1
 ·unfold bj; rw [if_pos hw, er]; exact (by decide : (((0 : Nat) : Rat)) ≤ 1)
 ·obtain ⟨v, rfl⟩ : ∃ v : Nat, w = (v : Int) := ⟨w.toNat, by omega⟩;have h1 := iQ (f := noB fun w => qv (pF Lc n w (fS Lc h))) (jx fun w => dT _) (m := v + 1) (n := n) (by omega);have h2 := iQ (f := noB fun w => qv (pF Lc n w (fS Lc h))) (jx fun w => dT _) (m := 0) (n := v) (by omega);rw [qy hx he] at h1;simp only [db] at h1 h2;have h3 : noB (fun w => qv (pF Lc n w (fS Lc h))) v = qv (bj Lc n h v) := by unfold noB bj; rw [if_neg (by omega), if_neg hw]
  rw [h3] at h1;grind
end
section
abbrev Fr2 := Nat × Nat
def qA (p q : Fr2 × Fr2) : Fr2 × Fr2 := (bE p.1 (cG p.2 q.1), cG p.2 q.2)
def dz (Lc : List (List Cnt)) (n : Int) (h : List Int) (w : Int) : Fr2 × Fr2 := (bq Lc n h w.toNat, bj Lc n h w)
def eR (Lc : List (List Cnt)) (n : Int) : Fr2 × Fr2 → List Int → List Int → Fr2 × Fr2
 | p, _, [] => p
 | p, h, w :: r => eR Lc n (qA p (dz Lc n h w)) (h ++ [w]) r
theorem oi {Lc : List (List Cnt)} {n : Int} {w : Int} : ∀ (r : List Int) (p : Fr2 × Fr2) (h : List Int), eR Lc n p h (r ++ [w]) = qA (eR Lc n p h r) (dz Lc n (h ++ r) w)
 | [], p, h => by simp [eR]
 | v :: r, p, h => by
  show eR Lc n _ (h ++ [v]) (r ++ [w]) = _
  rw [oi r, Gv]; rfl
def inP (Lc : List (List Cnt)) (n : Int) (h : List Int) (u : Fr2) (w : Nat) : Bool := decide ((bq Lc n h w).1 * u.2 ≤ u.1 * (bq Lc n h w).2) && decide (u.1 * (bq Lc n h (w + 1)).2 < (bq Lc n h (w + 1)).1 * u.2)
def pp (Lc : List (List Cnt)) (n : Int) (h : List Int) (u : Fr2) : Nat → Nat → Int
 | 0, _ => -1
 | f + 1, w => if inP Lc n h u w = true then w else pp Lc n h u f (w + 1)
def jf (Lc : List (List Cnt)) (n : Int) (h : List Int) (u : Fr2) : Int := pp Lc n h u n.toNat 0
theorem ua {p q : Fr2} (hp : p.2 ≠ 0) (hq : q.2 ≠ 0) : p.1 * q.2 ≤ q.1 * p.2 ↔ qv p ≤ qv q := by
 have h1 : (0 : Rat) < p.2 := FB.2 (Eu hp);have h2 : (0 : Rat) < q.2 := FB.2 (Eu hq);unfold qv;rw [kI h1, ← Fz, EZ, EZ];rw [show (q.1 : Rat) / q.2 * p.2 = (q.1 * p.2) / q.2 by grind, fJ h2]
theorem CP {p q : Fr2} (hp : p.2 ≠ 0) (hq : q.2 ≠ 0) : p.1 * q.2 < q.1 * p.2 ↔ qv p < qv q := by
 have := ua hq hp;constructor
 ·intro h;apply Rat.not_le.1;rw [← this]; omega
 ·intro h;apply F3;rw [this]; exact Rat.not_le.2 h
section
variable {Lc : List (List Cnt)} {n : Nat}
theorem gh (hx : XOk Lc n) (h : List Int) (w : Nat) : qv (bq Lc n h (w + 1)) = qv (bq Lc n h w) + qv (bj Lc n h w) := ip (ez hx h w).pos (eK hx h w).pos
theorem lw (hx : XOk Lc n) (h : List Int) {v : Nat} : ∀ {w : Nat}, v ≤ w → qv (bq Lc n h v) ≤ qv (bq Lc n h w)
 | 0, hv => by
   have : v = 0 := by omega
   subst this; exact GO
 | w + 1, hv => by
  by_cases e : v = w + 1
  ·subst e; exact GO
  ·have h1 := lw hx h (v := v) (w := w) (by omega);have h2 := dT (bj Lc n h w);rw [gh hx];grind
theorem sB (hx : XOk Lc n) (he : ∀ l, l ∈ Lc → eJ n l) (h : List Int) : qv (bq Lc n h n) = 1 := by
 rw [zt hx he, er]; rfl
theorem iR (hx : XOk Lc n) {h : List Int} {u : Fr2} (hu : u.2 ≠ 0) {w : Nat} : inP Lc n h u w = true ↔ qv (bq Lc n h w) ≤ qv u ∧ qv u < qv (bq Lc n h (w + 1)) := by
 unfold inP;rw [D0, decide_eq_true_eq, decide_eq_true_eq, ua (ez hx h w).pos hu, CP hu (ez hx h (w + 1)).pos]
theorem pq {h : List Int} {u : Fr2} {w : Nat} (hw : inP Lc n h u w = true) : ∀ (f v : Nat), v ≤ w → w < v + f → (∀ k, v ≤ k → k < w → inP Lc n h u k = false) → pp Lc n h u f v = w
 | 0, v, h1, h2, _ => by omega
 | f + 1, v, h1, h2, h3 => by
  unfold pp;by_cases e : v = w
  ·subst e; rw [if_pos hw]
  ·rw [if_neg (by rw [h3 v (by omega) (by omega)]; simp)];exact pq hw f (v + 1) (by omega) (by omega) fun k h4 h5 => h3 k (by omega) h5
theorem iS (hx : XOk Lc n) {h : List Int} {u : Fr2} (hu : u.2 ≠ 0) {w : Nat} (hw : w < n) (hi : inP Lc n h u w = true) : jf Lc n h u = w := by
 unfold jf;refine pq hi _ 0 (by omega) (by omega) fun k _ hk => ?_
 cases hb : inP Lc n h u k with
 | false => rfl
 | true =>
  exfalso;have h1 := ((iR hx hu).1 hb).2;have h2 := ((iR hx hu).1 hi).1;have h3 := lw hx h (v := k + 1) (w := w) (by omega);grind
theorem Be (hx : XOk Lc n) (he : ∀ l, l ∈ Lc → eJ n l) (h : List Int) {u : Fr2} (hu : u.2 ≠ 0) (h1 : qv u < 1) : ∃ w, w < n ∧ inP Lc n h u w = true ∧ jf Lc n h u = w := by
 have h0 := dT u;have key : ∀ k, k ≤ n → qv u < qv (bq Lc n h k) → ∃ w, w < k ∧ inP Lc n h u w = true := by
  intro k
  induction k with
  | zero =>
   intro _ hlt;have : qv (bq Lc n h 0) = 0 := by show qv (0, 1) = 0; rw [er]; rfl
   rw [this] at hlt;grind
  | succ k ih =>
   intro hk hlt;by_cases hb : qv (bq Lc n h k) ≤ qv u
   ·exact ⟨k, by omega, (iR hx hu).2 ⟨hb, hlt⟩⟩
   ·obtain ⟨w, a1, a2⟩ := ih (by omega) (Rat.not_le.1 hb);exact ⟨w, by omega, a2⟩
 obtain ⟨w, a1, a2⟩ := key n (D1 _) (by rw [sB hx he]; exact h1);exact ⟨w, a1, a2, iS hx hu a1 a2⟩
def spA (Lc : List (List Cnt)) (n : Int) : List Int → List Int → Rat
 | _, [] => 0
 | h, w :: r => qv (bq Lc n h w.toNat) + qv (bj Lc n h w) * spA Lc n (h ++ [w]) r
def spB (Lc : List (List Cnt)) (n : Int) : List Int → List Int → Rat
 | _, [] => 1
 | h, w :: r => qv (bj Lc n h w) * spB Lc n (h ++ [w]) r
theorem sC (hx : XOk Lc n) : ∀ (r h : List Int) (p : Fr2 × Fr2), p.1.2 ≠ 0 → p.2.2 ≠ 0 → (eR Lc n p h r).1.2 ≠ 0 ∧ (eR Lc n p h r).2.2 ≠ 0 ∧ qv (eR Lc n p h r).1 = qv p.1 + qv p.2 * spA Lc n h r ∧ qv (eR Lc n p h r).2 = qv p.2 * spB Lc n h r
 | [], h, p, h1, h2 => ⟨h1, h2, by simp only [eR, spA]; grind, by simp only [eR, spB]; grind⟩
 | w :: r, h, p, h1, h2 => by
  have d1 := (ez hx h w.toNat).pos;have d2 := (eK hx h w).pos;have m1 := eH h2 d1;obtain ⟨a1, a2, a3, a4⟩ := sC hx r (h ++ [w]) (qA p (dz Lc n h w)) (gf h1 m1) (eH h2 d2);refine ⟨a1, a2, ?_, ?_⟩
  ·show qv (eR Lc n (qA p (dz Lc n h w)) (h ++ [w]) r).1 = _
   rw [a3];simp only [qA, dz, spA];rw [ip h1 m1, jw h2 d1, jw h2 d2];grind
  ·show qv (eR Lc n (qA p (dz Lc n h w)) (h ++ [w]) r).2 = _
   rw [a4];simp only [qA, dz, spB];rw [jw h2 d2];grind
def InW (n : Int) (r : List Int) : Prop := ∀ w, w ∈ r → 0 ≤ w ∧ w < n
theorem Bf (hx : XOk Lc n) (he : ∀ l, l ∈ Lc → eJ n l) (h : List Int) {w : Int} (h0 : 0 ≤ w) (h1 : w < n) : qv (bq Lc n h w.toNat) + qv (bj Lc n h w) ≤ 1 := by
 obtain ⟨v, rfl⟩ : ∃ v : Nat, w = (v : Int) := ⟨w.toNat, by omega⟩;have h2 := lw hx h (v := v + 1) (w := n) (by omega);rw [sB hx he, gh hx] at h2;exact h2
theorem sD (hx : XOk Lc n) (he : ∀ l, l ∈ Lc → eJ n l) : ∀ (r h : List Int), InW n r → 0 ≤ spA Lc n h r ∧ 0 ≤ spB Lc n h r ∧ spA Lc n h r + spB Lc n h r ≤ 1
 | [], h, _ => by simp only [spA, spB]; refine ⟨GO, by decide, ?_⟩; grind
 | w :: r, h, hi => by
  obtain ⟨i1, i2, i3⟩ := sD hx he r (h ++ [w]) fun v hv => hi v (Ep _ hv)
  obtain ⟨w1, w2⟩ := hi w (by simp);have a1 := dT (bq Lc n h w.toNat);have a2 := dT (bj Lc n h w);have a3 := Bf hx he h w1 w2;have b1 := Rat.mul_nonneg a2 i1;have b2 := Rat.mul_nonneg a2 i2;have b3 : qv (bj Lc n h w) * (spA Lc n (h ++ [w]) r + spB Lc n (h ++ [w]) r) ≤ qv (bj Lc n h w) * 1 := Rat.mul_le_mul_of_nonneg_left i3 a2;simp only [spA, spB];refine ⟨?_, b2, ?_⟩ <;> grind
def oD (Lc : List (List Cnt)) (n : Int) : Nat → List Int → Fr2 → Option (List Int)
 | 0, _, _ => none
 | f + 1, h, u => if jf Lc n h u = 2 then some (h.drop 1) else if f = 0 then none else
   oD Lc n f (h ++ [jf Lc n h u]) (dW (cW u (bq Lc n h (jf Lc n h u).toNat)) (bj Lc n h (jf Lc n h u)))
theorem ol (hx : XOk Lc n) {h : List Int} {u : Fr2} (hu : u.2 ≠ 0) {w : Nat} (hi : inP Lc n h u w = true) :
  (bj Lc n h w).1 ≠ 0 ∧ (dW (cW u (bq Lc n h w)) (bj Lc n h w)).2 ≠ 0 ∧ qv (dW (cW u (bq Lc n h w)) (bj Lc n h w)) = (qv u - qv (bq Lc n h w)) / qv (bj Lc n h w) ∧ 0 < qv (bj Lc n h w) ∧ qv u < qv (bq Lc n h w) + qv (bj Lc n h w) := by
 obtain ⟨h1, h2⟩ := (iR hx hu).1 hi;rw [gh hx] at h2;have hpos : 0 < qv (bj Lc n h w) := by grind
 have hd := (eK hx h w).pos;have hs := (ez hx h w).pos;have hn : (bj Lc n h w).1 ≠ 0 := fun e => by
  unfold qv at hpos;rw [e, show ((0 : Nat) : Rat) = 0 from rfl] at hpos;grind
 have hsub : (cW u (bq Lc n h w)).2 ≠ 0 := ig (Es hu hs);refine ⟨hn, oa hsub hn, ?_, hpos, h2⟩;rw [qw hsub hd hn, zp hu hs ((ua hs hu).2 h1)]
theorem Bh (hx : XOk Lc n) {h : List Int} {u : Fr2} (hu : u.2 ≠ 0) {w : Nat} (hi : inP Lc n h u w = true) : qv (dW (cW u (bq Lc n h w)) (bj Lc n h w)) < 1 := by
 obtain ⟨_, _, h3, h4, h5⟩ := ol hx hu hi;rw [h3, GM h4];grind
theorem sF (hx : XOk Lc n) (he : ∀ l, l ∈ Lc → eJ n l) : ∀ (r h : List Int) (u : Fr2) (f : Nat), u.2 ≠ 0 → InW n r → 2 < n → (∀ w, w ∈ r → w ≠ 2) → spA Lc n h (r ++ [2]) ≤ qv u → qv u < spA Lc n h (r ++ [2]) + spB Lc n h (r ++ [2]) →
  oD Lc n f h u = if r.length < f then some ((h ++ r).drop 1) else none
 | r, h, u, 0, _, _, _, _, _, _ => by rw [if_neg (by omega)]; rfl
 | [], h, u, f + 1, hu, _, h2, _, g1, g2 => by
  have e2 : (2 : Int).toNat = 2 := rfl;simp only [Gr, spA, spB, e2] at g1 g2;have hs := gh hx h 2;have e : ((2 : Nat) : Int) = 2 := rfl;rw [e] at hs;have hi : inP Lc n h u 2 = true := by
   refine (iR hx hu).2 ?_;rw [hs];constructor <;> grind
  have hp := iS hx hu h2 hi;rw [e] at hp;unfold oD;rw [hp, if_pos rfl, if_pos (by simp), FX]
 | w :: r, h, u, f + 1, hu, hw, h2, hn, g1, g2 => by
  obtain ⟨w0, w1⟩ := hw w (by simp);obtain ⟨v, rfl⟩ : ∃ v : Nat, w = (v : Int) := ⟨w.toNat, by omega⟩;have hr : InW n (r ++ [2]) := fun x hx' => by
   rcases EF.1 hx' with hx' | hx'
   ·exact hw x (Ep _ hx')
   ·simp at hx'; subst hx'; omega
  obtain ⟨i1, i2, i3⟩ := sD hx he (r ++ [2]) (h ++ [(v : Int)]) hr;have a2 := dT (bj Lc n h v);simp only [FD, spA, spB, EC] at g1 g2;have b1 := Rat.mul_nonneg a2 i1;have b3 : qv (bj Lc n h v) * (spA Lc n (h ++ [(v : Int)]) (r ++ [2]) + spB Lc n (h ++ [(v : Int)]) (r ++ [2])) ≤ qv (bj Lc n h v) * 1 := Rat.mul_le_mul_of_nonneg_left i3 a2;have hi : inP Lc n h u v = true := by
   rw [iR hx hu, gh hx];constructor <;> grind
  obtain ⟨l1, l2, l3, l4, l5⟩ := ol hx hu hi;have hp := iS hx hu (by omega) hi;have hne := hn v (by simp);unfold oD;rw [hp, if_neg hne, EC];by_cases hf : f = 0
  ·subst hf; rw [if_pos rfl, if_neg (by simp)]
  ·rw [if_neg hf, sF hx he r (h ++ [(v : Int)]) _ f l2 (fun x hx' => hw x (Ep _ hx')) h2 (fun x hx' => hn x (Ep _ hx'))]
   ·simp
   ·rw [l3, fJ l4]; grind
   ·rw [l3, GM l4]; grind
end
end
end Go.Proofs.YtgceikecdedfcaaGreat.Pv
