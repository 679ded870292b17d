/- Parts of a proof, joined: Ex Hf Hg Ch Fl Fm Fn Fo Fp Fq Fr. -/
import Derived.Test.YtgceikecdedfcaaGreatLdN
namespace Go.Proofs.YtgceikecdedfcaaGreat.Pv
open Go
section
theorem ko {k : Nat} {p : Nat × Nat} (n : Nat) (h : Bd k (nz p)) (hk : k ≤ 400000) (h0 : n ≠ 0) (hn : n < 9223372036854775808) : Ct P 158 [qP p, .c (nI .i64 n)] [qP (dN (nz p) (n, 1))] := Ck n h.bg (by omega) h0 hn
theorem k8 {l : List Cnt} (hl : CLim l) (a : Int) : nz (gAt (0, 0) (dC (aq l 1) (aq l 2) (aq l 3) (aq l 4) 1) (dC (aq l 1) (aq l 2) (aq l 3) (aq l 4) 2) (dC (aq l 1) (aq l 2) (aq l 3) (aq l 4) 3) a) = atN l a := by
 have m := fun k => DM (cn l k) hl.len
 have rn := fun k h1 h3 => uB (m 1) (m 2) (m 3) (m 4) k h1 h3
 unfold gAt atN at4 eK;split
 ·rfl
 ·split
  ·exact rn 1 (by omega) (by omega)
  ·split
   ·exact rn 2 (by omega) (by omega)
   ·exact rn 3 (by omega) (by omega)
section
variable {Lc : List (List Cnt)} {words : Int}
theorem rY (hx : XOk Lc words) (h : List Int) (w : Int) : Bd 30000 (bh Lc words h w) := by
 have h8 := hx.len8;have hclt := qk hx h;unfold bh;split
 ·exact bd01.le (by omega)
 ·exact (uH hx w _).le (by omega)
end
end
section
theorem Hp.turn {K : Km} {ok : Nat → Prop} {w : World} {O O' : Objs} (hp : Hp K ok w O) (ho : ∀ k o', O'.get k = some o' → (∃ o, O.get k = some o) ∧ HOb K ok w k o') : Hp K ok w O' :=
 ⟨fun k o h => (ho k o h).2, fun k k' o o' b L L' h1 h2 e1 e2 => by
  obtain ⟨⟨p, g1⟩, _⟩ := ho k o h1;obtain ⟨⟨p', g2⟩, _⟩ := ho k' o' h2;exact hp.inj k k' p p' b L L' g1 g2 e1 e2, fun k o b L h e => by
  obtain ⟨⟨p, g1⟩, _⟩ := ho k o h;exact hp.apart k p b L g1 e, hp.lt, hp.hlt, hp.hok, fun k o b L h e => by
  obtain ⟨⟨p, g1⟩, _⟩ := ho k o h;exact hp.how k p b L g1 e⟩
theorem Fr.turn {K K' : Km} {ok ok' : Nat → Prop} {w w' : World} {O O1 O2 O3 : Objs} (hf : Fr K ok w O K' ok' w' O2) (h1 : ∀ k o, O.get k = some o → ∃ o', O1.get k = some o') (h2 : ∀ k o, O3.get k = some o → ∃ o', O2.get k = some o') : Fr K ok w O1 K' ok' w' O3 :=
 ⟨hf.size, fun b hb g1 g2 => hf.keep b hb (fun k o L e1 e2 => by obtain ⟨o', g⟩ := h1 k o e1; exact g1 k o' L g e2) g2, hf.okUp, fun b hb => by
  rcases hf.okNew b hb with h | h | ⟨k, o, L, e1, e2⟩
  ·exact .inl h
  ·exact .inr (.inl h)
  ·obtain ⟨o', g⟩ := h1 k o e1; exact .inr (.inr ⟨k, o', L, g, e2⟩), fun k o b L e1 e2 => by
  obtain ⟨o', g⟩ := h2 k o e1;rcases hf.own k o' b L g e2 with h | ⟨k0, o0, L0, g1, g2⟩
  ·exact .inl h
  ·obtain ⟨o1, g3⟩ := h1 k0 o0 g1; exact .inr ⟨k0, o1, L0, g3, g2⟩, hf.os, hf.tape, hf.output, hf.kind, hf.pin, hf.hid⟩
theorem CtO.less {P : Program} {f : FuncId} {O O' O2 : Objs} {args res : List A1} (h : CtO P f O args O' res) (hw : ∀ K ok w k o2, O2.get k = some o2 → ∃ o', O'.get k = some o' ∧ (HOb K ok w k o' → HOb K ok w k o2)) : CtO P f O args O2 res :=
 ⟨fun K ok w vs hp hrel => (h.run K ok w vs hp hrel).mono fun e w' ⟨v, K', ok', h1, h2, h3, h4⟩ =>
  ⟨v, K', ok', h1, h2, h3.turn fun k o2 g => by obtain ⟨o', g1, g2⟩ := hw K' ok' w' k o2 g; exact ⟨⟨o', g1⟩, g2 (h3.obs k o' g1)⟩,
   h4.turn (fun k o g => ⟨o, g⟩) fun k o g => by obtain ⟨o', g1, _⟩ := hw K' ok' w' k o g; exact ⟨o', g1⟩⟩⟩
theorem AP {k : Nat} {o1 o2 o : Ob} {OX : Objs} (h : Objs.get ((1000000, some o1) :: (1000001, some o2) :: OX) k = some o) : (k = 1000000 ∧ o = o1) ∨ (k = 1000001 ∧ o = o2) ∨ (k ≠ 1000000 ∧ k ≠ 1000001 ∧ OX.get k = some o) := by
 simp only [Objs.get] at h
 cases h1 : Nat.beq 1000000 k with
 | true => rw [h1] at h; exact .inl ⟨(DF h1).symm, (Fm h).symm⟩
 | false =>
  rw [h1] at h;have n1 : k ≠ 1000000 := fun e => by rw [e, DZ] at h1; cases h1
  cases h2 : Nat.beq 1000001 k with
  | true => rw [h2] at h; exact .inr (.inl ⟨(DF h2).symm, (Fm h).symm⟩)
  | false =>
   rw [h2] at h;exact .inr (.inr ⟨n1, (fun e => by rw [e, DZ] at h2; cases h2), h⟩)
theorem oX {k : Nat} {o1 o2 o : Ob} {OX : Objs} (n1 : k ≠ 1000000) (n2 : k ≠ 1000001) (h : OX.get k = some o) : Objs.get ((1000000, some o1) :: (1000001, some o2) :: OX) k = some o := by
 simp only [Objs.get]
 cases h1 : Nat.beq 1000000 k with
 | true => exact absurd (DF h1).symm n1
 | false =>
  cases h2 : Nat.beq 1000001 k with
  | true => exact absurd (DF h2).symm n2
  | false => exact h
abbrev xM (Lc : List (List Cnt)) (words : Int) (ks : List Value) (vs : List (List PC)) (OX : Objs) : Objs := (1000000, some (xC Lc words 1000001)) :: (1000001, some (.mp false ks vs)) :: OX
abbrev xX (Lc : List (List Cnt)) (words : Int) (OX : Objs) : Objs := (1000000, some (xC Lc words 1000001)) :: (1000001, some (.me false (MOk Lc))) :: OX
abbrev xE (Lc : List (List Cnt)) (words : Int) : Objs := xX Lc words []
theorem CtO.ex {f : FuncId} {args res : List A1} {Lc : List (List Cnt)} {words : Int} {OX OX' : Objs} (h : ∀ ks vs, MOk Lc ks vs → ∃ ks' vs', MOk Lc ks' vs' ∧ CtO P f (xM Lc words ks vs OX) args (xM Lc words ks' vs' OX') res) : CtO P f (xX Lc words OX) args (xX Lc words OX') res := by
 refine ⟨fun K ok w vs hp hrel => ?_⟩;obtain ⟨ks, ws, hS, hob⟩ := hp.obs 1000001 (.me false (MOk Lc)) rfl;obtain ⟨ks', ws', hS', hct⟩ := h ks ws hS;have hp2 : Hp K ok w (xM Lc words ks ws OX) := hp.turn fun k o g => by
  rcases AP g with ⟨rfl, rfl⟩ | ⟨rfl, rfl⟩ | ⟨n1, n2, g⟩
  ·exact ⟨⟨_, rfl⟩, hp.obs 1000000 _ rfl⟩
  ·exact ⟨⟨_, rfl⟩, hob⟩
  ·exact ⟨⟨_, oX n1 n2 g⟩, hp.obs k o (oX n1 n2 g)⟩
 refine (hct.run K ok w vs hp2 hrel).mono fun e w' ⟨v, K', ok', h1, h2, h3, h4⟩ => ⟨v, K', ok', h1, h2, h3.turn fun k o g => ?_, h4.turn (fun k o g => ?_) fun k o g => ?_⟩
 ·rcases AP g with ⟨rfl, rfl⟩ | ⟨rfl, rfl⟩ | ⟨n1, n2, g⟩
  ·exact ⟨⟨_, rfl⟩, h3.obs 1000000 _ rfl⟩
  ·exact ⟨⟨_, rfl⟩, ks', ws', hS', h3.obs 1000001 _ rfl⟩
  ·exact ⟨⟨_, oX n1 n2 g⟩, h3.obs k o (oX n1 n2 g)⟩
 ·rcases AP g with ⟨rfl, rfl⟩ | ⟨rfl, rfl⟩ | ⟨n1, n2, g⟩
  ·exact ⟨_, rfl⟩
  ·exact ⟨_, rfl⟩
  ·exact ⟨_, oX n1 n2 g⟩
 ·rcases AP g with ⟨rfl, rfl⟩ | ⟨rfl, rfl⟩ | ⟨n1, n2, g⟩
  ·exact ⟨_, rfl⟩
  ·exact ⟨_, rfl⟩
  ·exact ⟨_, oX n1 n2 g⟩
section
variable {Lc : List (List Cnt)} {words : Int}
theorem ga : CtO P 42 (xE Lc words) [.c (.ad 1000000 0)] (xE Lc words) [.c (eI .i64 words)] := .ex fun ks vs hm => ⟨ks, vs, hm, rQ⟩
end
end
section
section
variable {Lc : List (List Cnt)} {words : Int} {ks : List Value} {vs : List (List PC)}
theorem rZ (hx : XOk Lc words) (hm : MOk Lc ks vs) (H h : List Int) (lo n : Nat) (hh0 : h = (H.drop lo).take n) (hH : H.length ≤ 1000000) (hle : lo + n ≤ H.length) (hh : h.length < Lc.length) :
  ∃ ks' vs', MOk Lc ks' vs' ∧ CtO P 159 (y5 Lc words ks vs (aP H)) [.c (.ad 1000000 0), .c (.os 1000002 1 lo n)] (y5 Lc words ks' vs' (aP H)) [.c (k6 Lc h)] := by
 have hn : h.length = n := by rw [hh0, DV, Eo]; omega
 have esub : iSl h = .sl 1 (((aP H).drop lo).take n) := by rw [hh0]; exact congrArg _ iRow_sub.symm
 have h8 := hx.len8;have hln := hx.lim.at' hh;have e : Lc.getD h.length [] = Lc[h.length] := by simp [DG, hh]
 by_cases hk : di h = true
 ·obtain ⟨r, f1, f2⟩ := k5 (pS h) ks 0 hm.str;have hkey := mi h (by omega);rw [if_pos hk, if_pos hk, esub] at hkey
  cases r with
  | some j =>
   obtain ⟨_, f3⟩ := f2 j rfl;rw [FF] at f3;obtain ⟨h', g1, g2, g3⟩ := hm.at' j _ f3;have e' : h = h' := rT hk g1 (by injection g2);subst e';refine ⟨ks, vs, hm, ?_⟩;refine Ct.io aj aa (N := 63) Tryz.func159 rfl rfl rfl rfl ?_;refine X2 .look (X1 _ hkey ?_);refine ⟨some j, .c (k6 Lc h), f1, ⟨_, g3, rfl⟩, ?_⟩;exact ⟨trivial, rW rfl rfl rfl, r1 rfl, trivial⟩
  | none =>
   refine ⟨ks ++ [.string (pS h)], vs ++ [[k6 Lc h]], ?_, ?_⟩
   ·refine ⟨by simp [hm.len], fun i k hi => ?_⟩;have hlen : ∀ i k, ks[i]? = some k → i < vs.length := fun i k hi => by
     obtain ⟨_, _, _, g3⟩ := hm.at' i k hi;exact (DJ.1 g3).1
    rcases E8 i ks.length with hlt | heq | hgt
    ·rw [DQ hlt] at hi;rw [DQ (hlen i k hi)];exact hm.at' i k hi
    ·subst heq;rw [DO (DI _), Gq] at hi;cases hi;refine ⟨h, hk, rfl, ?_⟩;rw [DO (Nat.le_of_eq hm.len.symm), hm.len, Gq];rfl
    ·rw [D4 (by simp; omega)] at hi; cases hi
   ·have haft := oW Lc[h.length] h hln (hx.rises _ (DU hh)) (by omega) (hx.tot _ (DU hh));rw [esub] at haft;refine Ct.io aj aa (N := 63) Tryz.func159 rfl rfl rfl rfl ?_;refine X2 .look (X1 _ hkey ?_);refine ⟨none, .c (.sc (.pointer none)), f1, rfl, ?_⟩;refine .intro (by omega) ?_;refine .intro (by omega) (X1 _ (cu (n := h.length) (by omega) hh) ?_);refine X2 .look (X1 _ haft ?_);refine .intro (by omega) ?_;refine .intro (by omega) (X1 _ (f8 (n := h.length) (by omega) hh) ?_);refine X1 _ (uG hx h hh) ?_;refine .intro rfl ?_;refine ⟨[55], none, f1, rfl, ?_⟩;have hc : tM Lc h = nI .i64 (totN (after Lc[h.length] h)) :: (qP (f9 Lc h)).cells := by unfold tM; rw [e]
    unfold k6;rw [hc];exact ⟨trivial, rW rfl rfl rfl, r1 rfl, trivial⟩
 ·refine ⟨ks, vs, hm, ?_⟩;have hkey := mi h (by omega);rw [if_neg hk, if_neg hk, esub] at hkey;refine Ct.keep aj aa [20] (N := 63) Tryz.func159 rfl rfl rfl rfl ?_;refine X2 .look (X1 _ hkey ?_);refine X1 _ (bS 1 (by omega)) ?_;unfold k6;rw [nK hx hh hk];exact ⟨trivial, rW rfl rfl rfl, r1 rfl, trivial⟩
abbrev hO (H : List Int) : Objs := [(1000002, some (.row 1 (aP H)))]
theorem r9 (hx : XOk Lc words) (H h : List Int) (lo n : Nat) (hh0 : h = (H.drop lo).take n) (hH : H.length ≤ 1000000) (hle : lo + n ≤ H.length) (hh : h.length < Lc.length) :
  CtO P 159 (xX Lc words (hO H)) [.c (.ad 1000000 0), .c (.os 1000002 1 lo n)] (xX Lc words (hO H)) [.c (k6 Lc h)] := .ex fun ks vs hm => rZ hx hm H h lo n hh0 hH hle hh
theorem nM (hx : XOk Lc words) (g : List Int) (els : List (List PC)) (he : els = aP g) (m : Nat) (hm : m = g.length) (h1 : 1 ≤ g.length) (hg : g.length ≤ Lc.length) :
  CtO P 160 (xX Lc words [(1000002, some (.row 1 els))]) [.c (.ad 1000000 0), .c (.ow 1000002 1 m)] (xX Lc words [(1000002, some (.row 1 els))]) [.c (eI .i64 (cw Lc g))] :=
 .ex fun ks vs hk => ⟨ks, vs, hk, tO hx g els he m hm h1 hg⟩
theorem iF (hx : XOk Lc words) : CtO P 41 (xE Lc words) [.c (.ad 1000000 0)] (xE Lc words) [.c (nI .i64 Lc.length)] := .ex fun ks vs hm => ⟨ks, vs, hm, nG hx⟩
theorem vT (H h : List Int) (lo n : Nat) (hh0 : h = (H.drop lo).take n) (hH : H.length ≤ 1000000) (hle : lo + n ≤ H.length) :
  CtO P 46 (hO H) [.c (.os 1000002 1 lo n)] [(1000002, some (.row 1 (aP H))), (5, some (.row 1 (aP h)))] [.c (.ow 5 1 h.length)] := by
 have hn : h.length = n := by rw [hh0, DV, Eo]; omega
 have esub : ((aP H).drop lo).take n = aP h := by rw [hh0]; exact iRow_sub
 refine Ct.keepI aj [] (N := 8) Tryz.func46 rfl rfl rfl rfl ?_;refine eV aj aa ?_;refine vD ?_;refine eV aj aa ?_;intro b hb;refine yh (b := b) rfl (fun e => ?_) (fun e => ?_)
 ·subst e;have : h = [] := Eb.1 (by have := hb rfl; omega);subst this;refine eV aj aa ?_;refine jN (r := 5) (t := 2) (sz := 1) rfl rfl ?_;exact C1 ⟨trivial, SubO.of (l := [(1000002, .row 1 (aP H)), (5, .row 1 [])]) ⟨rfl, rfl, trivial⟩, r1 rfl, trivial⟩
 ·subst e;refine yi ?_;refine lN aj aa ?_;refine ⟨rfl, by rw [esub, ai]; show (0 + h.length + 768) * 8 ≤ _; omega, by rw [esub, ai]; show 0 + h.length ≤ _; omega, cc, by rw [esub]; exact bm, ?_⟩;exact ⟨trivial, SubO.of (l := [(1000002, .row 1 (aP H)), (5, .row 1 (aP h))]) ⟨rfl, aB (by rw [esub]; rfl), trivial⟩, r1 (owE (by rw [esub]; show (aP h).length = _; rw [ai])), trivial⟩
abbrev σ3 : List (Nat × Nat) := [(1000000, 1000000), (1000001, 1000001), (1000002, 1000002)]
theorem cT {OX : Objs} {l : List (Nat × Ob)} (hl : OX = bX l) {O : Objs} (h1 : O.get 1000000 = some (xC Lc words 1000001)) (h2 : O.get 1000001 = some (.me false (MOk Lc))) (h3 : be O l) : SubO (xX Lc words OX) O := by
 subst hl;exact SubO.of (l := (1000000, xC Lc words 1000001) :: (1000001, .me false (MOk Lc)) :: l) ⟨h1, h2, h3⟩
theorem vU (w : Int) (hw : w < 0 ∨ words ≤ w ∨ w = 1) (H : List Int) :
  CtO P 115 (xX Lc words (hO H)) [.c (.ad 1000000 0), .c (.ow 1000002 1 H.length), .c (eI .i64 w)] (xX Lc words (hO H)) [qP (0, 1)] := by
 refine Ct.io aj aa (N := 101) Tryz.func115 rfl rfl rfl rfl ?_;refine ae (fun h1 => ?_) (fun h1 => ?_)
 ·refine X1 _ (bS 0 (by omega)) ?_;exact ⟨trivial, cT (l := [(1000002, .row 1 (aP H))]) rfl rfl rfl ⟨rfl, trivial⟩, rc rfl, trivial⟩
 ·refine X2 (.own σx σx) ?_;refine ⟨_, _, ga, ?_⟩;refine ae (fun h2 => ?_) (fun h2 => ?_)
  ·refine X1 _ (bS 0 (by omega)) ?_;exact ⟨trivial, cT (l := [(1000002, .row 1 (aP H))]) rfl rfl rfl ⟨rfl, trivial⟩, rc rfl, trivial⟩
  ·refine aW (fun h3 => ?_) (fun h3 => ?_)
   ·refine X1 _ (bS 0 (by omega)) ?_;exact ⟨trivial, cT (l := [(1000002, .row 1 (aP H))]) rfl rfl rfl ⟨rfl, trivial⟩, rc rfl, trivial⟩
   ·exfalso; omega
theorem nN (hx : XOk Lc words) (h : List Int) (hh : h.length < Lc.length) : CtO P 159 (xE Lc words) [.c (.ad 1000000 0), .c (iSl h)] (xE Lc words) [.c (k6 Lc h)] := .ex fun ks vs hm => tN hx hm h hh
set_option maxHeartbeats 16000000 in
theorem vV (hx : XOk Lc words) {H : List Int} {w : Int} (hl : H.length ≤ 1000000) (hl1 : 1 ≤ H.length) (hw : ¬ (w < 0 ∨ words ≤ w ∨ w = 1)) (h2L : 2 ≤ Lc.length) :
  CtO P 115 (xX Lc words (hO H)) [.c (.ad 1000000 0), .c (.ow 1000002 1 H.length), .c (eI .i64 w)] (xX Lc words (hO H)) [qP (pF Lc words w (fO Lc H))] := by
 have h8 := hx.len8;have h0 := hx.len0;have w3 := hx.w3;have w6 := hx.w6;refine Ct.keepI (Ty.own_ok [46, 1000001] aj) [] (N := 101) Tryz.func115 rfl rfl rfl rfl ?_;refine Du (t := 1) rfl (by omega) ?_;refine lN (Ty.own_ok [46, 1000001] aj) aa ?_;refine ae (fun h1 => ?_) (fun h1 => ?_)
 ·exfalso; omega
 refine X2 (.own σx σx) ?_;refine ⟨_, _, ga, ?_⟩;refine ae (fun h2 => ?_) (fun h2 => ?_)
 ·exfalso; omega
 refine aW (fun h3 => ?_) (fun h3 => ?_)
 ·exfalso; omega
 refine .intro (by omega) ?_;refine X2 (.own σx σx) ?_;refine ⟨_, _, iF hx, ?_⟩;have hclt := qk hx H;refine ae (fun hc => ?_) (fun hc => ?_);have e : fO Lc H = H.drop (H.length - Lc.length + 1) := if_pos (by omega);refine .intro (by omega) ?_;refine X2 (.own σx σx) ?_;refine ⟨_, _, iF hx, ?_⟩;refine X1 ((H.length - Lc.length : Nat) : Int) (wI (by omega) (by omega) (by omega)) ?_;refine X1 ((H.length - Lc.length + 1 : Nat) : Int) (wI (by omega) (by omega) (by omega)) ?_;refine ⟨H.length - Lc.length + 1, H.length, rfl, rfl, DI _, .inr ⟨by omega, ?_⟩⟩;rw [show 0 + (H.length - Lc.length + 1) = H.length - Lc.length + 1 by omega];have hlo : H.length - Lc.length + 1 < H.length := by omega
 rw [e] at hclt ⊢;generalize H.length - Lc.length + 1 = lo at *
 rotate_left;have e : fO Lc H = H := if_neg (by omega);have hlo : 0 < H.length := by omega
 rw [e] at hclt ⊢;obtain ⟨lo, hz0⟩ : ∃ lo : Nat, lo = 0 := ⟨0, rfl⟩;rw [show H = H.drop lo by rw [hz0]; rfl] at hclt;rw [show pF Lc words w H = pF Lc words w (H.drop lo) by rw [hz0]; rfl];rw [show (PC.os 1000002 1 0 H.length) = PC.os 1000002 1 lo (H.length - lo) by rw [hz0, FF]];replace hlo : lo < H.length := by omega
 all_goals
  have hl2 : (H.drop lo).length = H.length - lo := Eo;obtain ⟨h', hh'⟩ : ∃ h', h' = H.drop lo := ⟨_, rfl⟩;rw [← hh'] at hl2 hclt ⊢;rw [← hl2];refine X1 _ (bS 1 (by omega)) ?_;refine X1 (((words - 1).toNat : Nat) : Int) (wI (by omega) (by omega) (by omega)) ?_;refine X1 _ (ko (p := (1, 1)) (k := 63) (words - 1).toNat (bd1 (n := 1) (by omega)) (by omega) (by omega) (by omega)) ?_;refine .intro rfl ?_;refine ar (Ty.own_ok [46, 1000001] aj) aa (fun n : Nat => n ≤ h'.length + 1) (fun n => [(0, .c (.ad 1000000 0)), (1, .c (.os 1000002 1 lo h'.length)), (2, .c (eI .i64 w)), (6, .c (.ad 6 0)), (7, .c (.ad 7 0)), (8, .c (nI .i64 n))])
   (fun n => [(6, .var [.sc (.slice none 0 0), .sc (.slice none 0 0)]), (7, .var (qP (pN Lc words w h' n)).cells), (1000000, xC Lc words 1000001), (1000001, .me false (MOk Lc)), (1000002, .row 1 (aP H))]) (fun n => h'.length + 1 - n)
   0 (by omega) ⟨rfl, rfl, rfl, rfl, rfl, rfl, trivial⟩ ⟨rfl, rfl, rfl, rfl, rfl, trivial⟩ (fun _ : Unit => True) (fun _ => [(6, .c (.ad 6 0)), (7, .c (.ad 7 0))])
   (fun _ => [(6, .var [.sc (.slice none 0 0), .sc (.slice none 0 0)]), (7, .var (qP (pF Lc words w h')).cells), (1000000, xC Lc words 1000001), (1000001, .me false (MOk Lc)), (1000002, .row 1 (aP H))]) (fun n hn => ?_) (fun _ _ => ?_)
  ·refine .intro (by omega) ?_;refine ae (fun h5 => ?_) (fun h5 => ?_)
   ·have hn' : n ≤ h'.length := by omega
    have hstep := uI (Lc := Lc) (words := words) (w := w) hn';have hpb := BE hx w h' (n := n) (by omega);have hnl : (h'.drop (h'.length - n)).length = n := by rw [Eo]; omega
    refine .intro (by omega) ?_;refine X1 ((h'.length - n : Nat) : Int) (wI (by omega) (by omega) (by omega)) ?_;rcases Fp n with hz | hp
    ·have hnn : h'.drop (h'.length - n) = [] := Eb.1 (by omega);rw [hnn] at hstep hnl;refine ⟨h'.length - n, h'.length, rfl, rfl, DI _, .inl ⟨by omega, ?_⟩⟩;rw [show (PC.sl 1 []) = iSl [] from rfl];generalize ([] : List Int) = near at *
     refine X2 (.own σx σx) ?_;refine ⟨_, _, nN hx near (by omega), ?_⟩;have hnlt : near.length < Lc.length := by omega
     have hlv : lvl Lc near = Lc[near.length] := gx hnlt;have htl := my hx near;refine aW (fun h6 => ?_) (fun h6 => ?_)
     ·have h7 : totN (after (lvl Lc near) near) = 0 := by
       have : ((totN (after (lvl Lc near) near) : Nat) : Int) = 0 := h6;omega
      unfold eN at hstep;rw [if_pos h7] at hstep;refine X1 ((n + 1 : Nat) : Int) (wI (by simp) (by omega) (by omega)) ?_;refine ⟨n + 1, by omega, by omega, ⟨rfl, rfl, rfl, rfl, rfl, rfl, trivial⟩, ⟨rfl, by rw [← hstep]; rfl, rfl, rfl, rfl, trivial⟩⟩
     ·have h7 : totN (after (lvl Lc near) near) ≠ 0 := fun h => h6 (congrArg Nat.cast h)
      unfold eN at hstep;rw [if_neg h7] at hstep;have hnb := kl hx (near ++ [w]);have hnl2 : (near ++ [w]).length = n + 1 := by simp [hnl]
      refine X2 (.own [] [(5, 68)]) ?_;refine ⟨_, _, k7 near (by omega), ?_⟩;refine ⟨by rw [ai], by rw [ai, hnl]; show (n + 1 + 768) * 8 ≤ _; omega, by rw [ai, hnl]; show n + 1 ≤ _; omega, bm, au rfl, ?_⟩;refine X2 (.own [(1000000, 1000000), (1000001, 1000001), (68, 1000002)] [(1000000, 1000000), (1000001, 1000001), (1000002, 68)]) ?_;refine ⟨_, _, nM hx (near ++ [w]) _ (by simp [aP]; rfl) _ (by rw [hnl2]; show ((aP near) ++ _).length = _; simp [aP, hnl]) (by omega) (by omega), ?_⟩;have hbd1 : Bd 63 (nz ((cw Lc (near ++ [w])).toNat, 1)) := bd1 (by omega);have hbd2 : Bd 500 (nz (gAt (0, 0) (dC (aq Lc[near.length] 1) (aq Lc[near.length] 2) (aq Lc[near.length] 3) (aq Lc[near.length] 4) 1) (dC (aq Lc[near.length] 1) (aq Lc[near.length] 2) (aq Lc[near.length] 3) (aq Lc[near.length] 4) 2) (dC (aq Lc[near.length] 1) (aq Lc[near.length] 2) (aq Lc[near.length] 3) (aq Lc[near.length] 4) 3) (cw Lc (near ++ [w])))) := by
       rw [k8 (hx.lim.at' hnlt)]; exact nL (hx.lim.at' hnlt) _
      have hsub := kg hbd1 hbd2 (by omega) (by omega);have eow : cV ((cw Lc (near ++ [w])).toNat, 1) (atN Lc[near.length] (cw Lc (near ++ [w]))) = owF Lc w near := by unfold owF; rw [hlv]
      rw [k8 (hx.lim.at' hnlt), nz1, eow] at hsub;have hgr := f8 (ls := Lc) (i := (n : Int)) (n := near.length) (by rw [hnl]) hnlt;refine X1 (((cw Lc (near ++ [w])).toNat : Nat) : Int) (wU (by omega) (by omega) (by omega)) ?_;refine X1 _ (bS _ (by omega)) ?_;refine .intro (by omega) (X1 _ hgr ?_);refine X1 _ (tF _ _ _ _ _) ?_;refine X1 _ hsub ?_;refine .intro rfl ?_;have hob : Bd 600 (nz (owF Lc w near)) := by rw [aw (d6 hx w near)]; exact d6 hx w near
      have hby := ko (totN (after (lvl Lc near) near)) hob (by omega) h7 (by omega);rw [aw (d6 hx w near)] at hby;refine X1 _ hby ?_;have hg := kj hx near;have hmul := eq (p := f9 Lc near) (q := pN Lc words w h' n) (by rw [aw hg]; exact hg) (by rw [aw hpb]; exact hpb) (by omega) (by omega);rw [aw hg, aw hpb] at hmul;refine X1 _ hmul ?_;have hb1 := qj hx w near h7;have hb2 := bu hg hpb;have hadd := nE (p := dN (owF Lc w near) (totN (after (lvl Lc near) near), 1)) (q := cD (f9 Lc near) (pN Lc words w h' n)) (by rw [aw hb1]; exact hb1) (by rw [aw hb2]; exact hb2) (by rw [aw hb1]; exact jl (D6 (d6 hx w near).pos h7)) (by omega) (by omega);rw [aw hb1, aw hb2] at hadd;refine X1 _ hadd ?_;refine .intro rfl ?_;refine X1 ((n + 1 : Nat) : Int) (wI (by simp) (by omega) (by omega)) ?_;refine ⟨n + 1, by omega, by omega, ⟨rfl, rfl, rfl, rfl, rfl, rfl, trivial⟩, ⟨rfl, by rw [← hstep]; rfl, rfl, rfl, rfl, trivial⟩⟩
    ·have hnear : h'.drop (h'.length - n) = (H.drop (lo + (h'.length - n))).take (h'.length - (h'.length - n)) := by
      have e1 : h'.drop (h'.length - n) = H.drop (lo + (h'.length - n)) := by
       conv => lhs; rw [hh', Fs]
       rw [← hh']
      rw [e1, Em (by rw [Eo]; omega)]
     refine ⟨h'.length - n, h'.length, rfl, rfl, DI _, .inr ⟨by omega, ?_⟩⟩;rw [show h'.length - (h'.length - n) = n by omega] at hnear ⊢;generalize h'.drop (h'.length - n) = near at *
     refine X2 (.own σ3 σ3) ?_;refine ⟨_, _, r9 hx H near (lo + (h'.length - n)) n hnear hl (by omega) (by omega), ?_⟩;have hnlt : near.length < Lc.length := by omega
     have hlv : lvl Lc near = Lc[near.length] := gx hnlt;have htl := my hx near;refine aW (fun h6 => ?_) (fun h6 => ?_)
     ·have h7 : totN (after (lvl Lc near) near) = 0 := by
       have : ((totN (after (lvl Lc near) near) : Nat) : Int) = 0 := h6;omega
      unfold eN at hstep;rw [if_pos h7] at hstep;refine X1 ((n + 1 : Nat) : Int) (wI (by simp) (by omega) (by omega)) ?_;refine ⟨n + 1, by omega, by omega, ⟨rfl, rfl, rfl, rfl, rfl, rfl, trivial⟩, ⟨rfl, by rw [← hstep]; rfl, rfl, rfl, rfl, trivial⟩⟩
     ·have h7 : totN (after (lvl Lc near) near) ≠ 0 := fun h => h6 (congrArg Nat.cast h)
      unfold eN at hstep;rw [if_neg h7] at hstep;have hnb := kl hx (near ++ [w]);have hnl2 : (near ++ [w]).length = n + 1 := by simp [hnl]
      refine X2 (.own [(1000002, 1000002)] [(1000002, 1000002), (5, 68)]) ?_;refine ⟨_, _, vT H near _ n hnear hl (by omega), ?_⟩;refine ⟨by rw [ai], by rw [ai, hnl]; show (n + 1 + 768) * 8 ≤ _; omega, by rw [ai, hnl]; show n + 1 ≤ _; omega, bm, au rfl, ?_⟩;refine X2 (.own [(1000000, 1000000), (1000001, 1000001), (68, 1000002)] [(1000000, 1000000), (1000001, 1000001), (1000002, 68)]) ?_;refine ⟨_, _, nM hx (near ++ [w]) _ (by simp [aP]; rfl) _ (by rw [hnl2]; show ((aP near) ++ _).length = _; simp [aP, hnl]) (by omega) (by omega), ?_⟩;have hbd1 : Bd 63 (nz ((cw Lc (near ++ [w])).toNat, 1)) := bd1 (by omega);have hbd2 : Bd 500 (nz (gAt (0, 0) (dC (aq Lc[near.length] 1) (aq Lc[near.length] 2) (aq Lc[near.length] 3) (aq Lc[near.length] 4) 1) (dC (aq Lc[near.length] 1) (aq Lc[near.length] 2) (aq Lc[near.length] 3) (aq Lc[near.length] 4) 2) (dC (aq Lc[near.length] 1) (aq Lc[near.length] 2) (aq Lc[near.length] 3) (aq Lc[near.length] 4) 3) (cw Lc (near ++ [w])))) := by
       rw [k8 (hx.lim.at' hnlt)]; exact nL (hx.lim.at' hnlt) _
      have hsub := kg hbd1 hbd2 (by omega) (by omega);have eow : cV ((cw Lc (near ++ [w])).toNat, 1) (atN Lc[near.length] (cw Lc (near ++ [w]))) = owF Lc w near := by unfold owF; rw [hlv]
      rw [k8 (hx.lim.at' hnlt), nz1, eow] at hsub;have hgr := f8 (ls := Lc) (i := (n : Int)) (n := near.length) (by rw [hnl]) hnlt;refine X1 (((cw Lc (near ++ [w])).toNat : Nat) : Int) (wU (by omega) (by omega) (by omega)) ?_;refine X1 _ (bS _ (by omega)) ?_;refine .intro (by omega) (X1 _ hgr ?_);refine X1 _ (tF _ _ _ _ _) ?_;refine X1 _ hsub ?_;refine .intro rfl ?_;have hob : Bd 600 (nz (owF Lc w near)) := by rw [aw (d6 hx w near)]; exact d6 hx w near
      have hby := ko (totN (after (lvl Lc near) near)) hob (by omega) h7 (by omega);rw [aw (d6 hx w near)] at hby;refine X1 _ hby ?_;have hg := kj hx near;have hmul := eq (p := f9 Lc near) (q := pN Lc words w h' n) (by rw [aw hg]; exact hg) (by rw [aw hpb]; exact hpb) (by omega) (by omega);rw [aw hg, aw hpb] at hmul;refine X1 _ hmul ?_;have hb1 := qj hx w near h7;have hb2 := bu hg hpb;have hadd := nE (p := dN (owF Lc w near) (totN (after (lvl Lc near) near), 1)) (q := cD (f9 Lc near) (pN Lc words w h' n)) (by rw [aw hb1]; exact hb1) (by rw [aw hb2]; exact hb2) (by rw [aw hb1]; exact jl (D6 (d6 hx w near).pos h7)) (by omega) (by omega);rw [aw hb1, aw hb2] at hadd;refine X1 _ hadd ?_;refine .intro rfl ?_;refine X1 ((n + 1 : Nat) : Int) (wI (by simp) (by omega) (by omega)) ?_;refine ⟨n + 1, by omega, by omega, ⟨rfl, rfl, rfl, rfl, rfl, rfl, trivial⟩, ⟨rfl, by rw [← hstep]; rfl, rfl, rfl, rfl, trivial⟩⟩
   ·have en : n = h'.length + 1 := by omega
    subst en;have e2 : pN Lc words w h' (h'.length + 1) = pF Lc words w h' := by simp [pN]
    exact ⟨(), trivial, ⟨rfl, rfl, trivial⟩, ⟨rfl, by rw [e2]; rfl, rfl, rfl, rfl, trivial⟩⟩
  ·exact ⟨trivial, cT (l := [(1000002, .row 1 (aP H))]) rfl rfl rfl ⟨rfl, trivial⟩, rc rfl, trivial⟩
set_option maxHeartbeats 8000000 in
theorem vW (hx : XOk Lc words) {H : List Int} {w : Int} (hl : H.length ≤ 1000000) (hl1 : 1 ≤ H.length) (hw : ¬ (w < 0 ∨ words ≤ w ∨ w = 1)) (h1L : Lc.length = 1) :
  CtO P 115 (xX Lc words (hO H)) [.c (.ad 1000000 0), .c (.ow 1000002 1 H.length), .c (eI .i64 w)] (xX Lc words (hO H)) [qP (pF Lc words w (fO Lc H))] := by
 have h8 := hx.len8;have h0 := hx.len0;have w3 := hx.w3;have w6 := hx.w6;refine Ct.io (Ty.own_ok [46, 1000001] aj) aa (N := 101) Tryz.func115 rfl rfl rfl rfl ?_;refine ae (fun h1 => ?_) (fun h1 => ?_)
 ·exfalso; omega
 refine X2 (.own σx σx) ?_;refine ⟨_, _, ga, ?_⟩;refine ae (fun h2 => ?_) (fun h2 => ?_)
 ·exfalso; omega
 refine aW (fun h3 => ?_) (fun h3 => ?_)
 ·exfalso; omega
 refine .intro (by omega) ?_;refine X2 (.own σx σx) ?_;refine ⟨_, _, iF hx, ?_⟩;refine ae (fun hc => ?_) (fun hc => ?_);rotate_left
 ·exfalso; omega
 refine .intro (by omega) ?_;refine X2 (.own σx σx) ?_;refine ⟨_, _, iF hx, ?_⟩;refine X1 ((H.length - 1 : Nat) : Int) (wI (by omega) (by omega) (by omega)) ?_;refine X1 ((H.length : Nat) : Int) (wI (by omega) (by omega) (by omega)) ?_;refine .inl ⟨H.length, H.length, rfl, rfl, DI _, by omega, .inl ⟨rfl, ?_⟩⟩;have e : fO Lc H = [] := by
  unfold fO;rw [if_pos (by omega)];exact Eb.1 (by rw [Eo]; omega)
 rw [e, show (PC.sl 1 []) = iSl [] from rfl];obtain ⟨h', hh'⟩ : ∃ h' : List Int, h' = [] := ⟨_, rfl⟩;rw [← hh'];have hl' : h'.length ≤ 1000000 := by rw [hh']; decide
 have hclt : h'.length < Lc.length := by rw [hh']; show 0 < _; omega
 refine X1 _ (bS 1 (by omega)) ?_;refine X1 (((words - 1).toNat : Nat) : Int) (wI (by omega) (by omega) (by omega)) ?_;refine X1 _ (ko (p := (1, 1)) (k := 63) (words - 1).toNat (bd1 (n := 1) (by omega)) (by omega) (by omega) (by omega)) ?_;refine .intro rfl ?_;refine ar (Ty.own_ok [46, 1000001] aj) aa (fun n : Nat => n ≤ h'.length + 1) (fun n => [(0, .c (.ad 1000000 0)), (1, .c (iSl h')), (2, .c (eI .i64 w)), (6, .c (.ad 6 0)), (7, .c (.ad 7 0)), (8, .c (nI .i64 n))])
  (fun n => [(6, .var [.sc (.slice none 0 0), .sc (.slice none 0 0)]), (7, .var (qP (pN Lc words w h' n)).cells), (1000000, xC Lc words 1000001), (1000001, .me false (MOk Lc)), (1000002, .row 1 (aP H))]) (fun n => h'.length + 1 - n)
  0 (by omega) ⟨rfl, rfl, rfl, rfl, rfl, rfl, trivial⟩ ⟨rfl, rfl, rfl, rfl, rfl, trivial⟩ (fun _ : Unit => True) (fun _ => [(6, .c (.ad 6 0)), (7, .c (.ad 7 0))])
  (fun _ => [(6, .var [.sc (.slice none 0 0), .sc (.slice none 0 0)]), (7, .var (qP (pF Lc words w h')).cells), (1000000, xC Lc words 1000001), (1000001, .me false (MOk Lc)), (1000002, .row 1 (aP H))]) (fun n hn => ?_) (fun _ _ => ?_)
 ·refine .intro (by rw [ai]; omega) ?_;rw [ai];refine ae (fun h5 => ?_) (fun h5 => ?_)
  ·have hn' : n ≤ h'.length := by omega
   have hstep := uI (Lc := Lc) (words := words) (w := w) hn';have hpb := BE hx w h' (n := n) (by omega);have hnl : (h'.drop (h'.length - n)).length = n := by rw [Eo]; omega
   refine .intro (by rw [ai]; omega) ?_;rw [ai];refine X1 ((h'.length - n : Nat) : Int) (wI (by omega) (by omega) (by omega)) ?_;refine ⟨h'.length - n, h'.length, rfl, by show ((aP h').length : Int) = _; rw [ai], by omega, by rw [ai]; exact DI _, ?_⟩;rw [iRow_sub, Em (by rw [hnl]; omega)];generalize h'.drop (h'.length - n) = near at *
   refine X2 (.own σx σx) ?_;refine ⟨_, _, nN hx near (by omega), ?_⟩;have hnlt : near.length < Lc.length := by omega
   have hlv : lvl Lc near = Lc[near.length] := gx hnlt;have htl := my hx near;refine aW (fun h6 => ?_) (fun h6 => ?_)
   ·have h7 : totN (after (lvl Lc near) near) = 0 := by
     have : ((totN (after (lvl Lc near) near) : Nat) : Int) = 0 := h6;omega
    unfold eN at hstep;rw [if_pos h7] at hstep;refine X1 ((n + 1 : Nat) : Int) (wI (by simp) (by omega) (by omega)) ?_;refine ⟨n + 1, by omega, by omega, ⟨rfl, rfl, rfl, rfl, rfl, rfl, trivial⟩, ⟨rfl, by rw [← hstep]; rfl, rfl, rfl, rfl, trivial⟩⟩
   ·have h7 : totN (after (lvl Lc near) near) ≠ 0 := fun h => h6 (congrArg Nat.cast h)
    unfold eN at hstep;rw [if_neg h7] at hstep;have hnb := kl hx (near ++ [w]);have hnl2 : (near ++ [w]).length = n + 1 := by simp [hnl]
    refine X2 (.own [] [(5, 68)]) ?_;refine ⟨_, _, k7 near (by omega), ?_⟩;refine ⟨by rw [ai], by rw [ai, hnl]; show (n + 1 + 768) * 8 ≤ _; omega, by rw [ai, hnl]; show n + 1 ≤ _; omega, bm, au rfl, ?_⟩;refine X2 (.own [(1000000, 1000000), (1000001, 1000001), (68, 1000002)] [(1000000, 1000000), (1000001, 1000001), (1000002, 68)]) ?_;refine ⟨_, _, nM hx (near ++ [w]) _ (by simp [aP]; rfl) _ (by rw [hnl2]; show ((aP near) ++ _).length = _; simp [aP, hnl]) (by omega) (by omega), ?_⟩;have hbd1 : Bd 63 (nz ((cw Lc (near ++ [w])).toNat, 1)) := bd1 (by omega);have hbd2 : Bd 500 (nz (gAt (0, 0) (dC (aq Lc[near.length] 1) (aq Lc[near.length] 2) (aq Lc[near.length] 3) (aq Lc[near.length] 4) 1) (dC (aq Lc[near.length] 1) (aq Lc[near.length] 2) (aq Lc[near.length] 3) (aq Lc[near.length] 4) 2) (dC (aq Lc[near.length] 1) (aq Lc[near.length] 2) (aq Lc[near.length] 3) (aq Lc[near.length] 4) 3) (cw Lc (near ++ [w])))) := by
     rw [k8 (hx.lim.at' hnlt)]; exact nL (hx.lim.at' hnlt) _
    have hsub := kg hbd1 hbd2 (by omega) (by omega);have eow : cV ((cw Lc (near ++ [w])).toNat, 1) (atN Lc[near.length] (cw Lc (near ++ [w]))) = owF Lc w near := by unfold owF; rw [hlv]
    rw [k8 (hx.lim.at' hnlt), nz1, eow] at hsub;have hgr := f8 (ls := Lc) (i := (n : Int)) (n := near.length) (by rw [hnl]) hnlt;refine X1 (((cw Lc (near ++ [w])).toNat : Nat) : Int) (wU (by omega) (by omega) (by omega)) ?_;refine X1 _ (bS _ (by omega)) ?_;refine .intro (by omega) (X1 _ hgr ?_);refine X1 _ (tF _ _ _ _ _) ?_;refine X1 _ hsub ?_;refine .intro rfl ?_;have hob : Bd 600 (nz (owF Lc w near)) := by rw [aw (d6 hx w near)]; exact d6 hx w near
    have hby := ko (totN (after (lvl Lc near) near)) hob (by omega) h7 (by omega);rw [aw (d6 hx w near)] at hby;refine X1 _ hby ?_;have hg := kj hx near;have hmul := eq (p := f9 Lc near) (q := pN Lc words w h' n) (by rw [aw hg]; exact hg) (by rw [aw hpb]; exact hpb) (by omega) (by omega);rw [aw hg, aw hpb] at hmul;refine X1 _ hmul ?_;have hb1 := qj hx w near h7;have hb2 := bu hg hpb;have hadd := nE (p := dN (owF Lc w near) (totN (after (lvl Lc near) near), 1)) (q := cD (f9 Lc near) (pN Lc words w h' n)) (by rw [aw hb1]; exact hb1) (by rw [aw hb2]; exact hb2) (by rw [aw hb1]; exact jl (D6 (d6 hx w near).pos h7)) (by omega) (by omega);rw [aw hb1, aw hb2] at hadd;refine X1 _ hadd ?_;refine .intro rfl ?_;refine X1 ((n + 1 : Nat) : Int) (wI (by simp) (by omega) (by omega)) ?_;refine ⟨n + 1, by omega, by omega, ⟨rfl, rfl, rfl, rfl, rfl, rfl, trivial⟩, ⟨rfl, by rw [← hstep]; rfl, rfl, rfl, rfl, trivial⟩⟩
  ·have en : n = h'.length + 1 := by omega
   subst en;have e2 : pN Lc words w h' (h'.length + 1) = pF Lc words w h' := by simp [pN]
   exact ⟨(), trivial, ⟨rfl, rfl, trivial⟩, ⟨rfl, by rw [e2]; rfl, rfl, rfl, rfl, trivial⟩⟩
 ·exact ⟨trivial, cT (l := [(1000002, .row 1 (aP H))]) rfl rfl rfl ⟨rfl, trivial⟩, rc rfl, trivial⟩
theorem vX (hx : XOk Lc words) (H : List Int) (hl : H.length ≤ 1000000) (hl1 : 1 ≤ H.length) (w : Int) :
  CtO P 115 (xX Lc words (hO H)) [.c (.ad 1000000 0), .c (.ow 1000002 1 H.length), .c (eI .i64 w)] (xX Lc words (hO H)) [qP (bh Lc words H w)] := by
 have h0 := hx.len0;unfold bh;by_cases hw : w < 0 ∨ words ≤ w ∨ w = 1
 ·rw [if_pos hw]; exact vU w hw H
 ·rw [if_neg hw];by_cases h1 : Lc.length = 1
  ·exact vW hx hl hl1 hw h1
  ·exact vV hx hl hl1 hw (by omega)
end
end
section
def k9 (n : Int) : Bool := n == 9 || n == 11 || n == 12 || n == 13 || n == 32
theorem blE {a b : Bool} (h : a = b) : (some (.c (.sc (.bool a))) : Option AV) = some (.c (.sc (.bool b))) := by rw [h]
theorem sa (n : Int) : Ct P 175 [.c (eI .u8 n)] [.c (.sc (.bool (k9 n)))] := by
 refine Ct.go aj aa (N := 21) Tryz.func175 rfl rfl rfl rfl ?_;refine aW (fun h1 => ?_) (fun h1 => ?_)
 ·exact ⟨trivial, r1 (blE (by subst h1; rfl)), trivial⟩
 ·refine aW (fun h2 => ?_) (fun h2 => ?_)
  ·exact ⟨trivial, r1 (blE (by subst h2; rfl)), trivial⟩
  ·refine aW (fun h3 => ?_) (fun h3 => ?_)
   ·exact ⟨trivial, r1 (blE (by subst h3; rfl)), trivial⟩
   ·refine aW (fun h4 => ?_) (fun h4 => ?_)
    ·exact ⟨trivial, r1 (blE (by subst h4; rfl)), trivial⟩
    ·exact ⟨trivial, r1 (blE (show (n == 32) = k9 n by simp [k9, h1, h2, h3, h4])), trivial⟩
abbrev sS (s : ByteArray) : PC := .sc (.string s)
def kr (s : ByteArray) : Bool := (s.toList == (ByteArray.mk #[60, 115, 62]).toList) || (s.toList == (ByteArray.mk #[60, 47, 115, 62]).toList)
theorem AQ (s : ByteArray) : Ct P 176 [.c (sS s)] [.c (.sc (.bool (kr s)))] := by
 refine Ct.go aj aa (N := 9) Tryz.func176 rfl rfl rfl rfl ?_;refine aM (fun h1 => ?_) (fun h1 => ?_)
 ·exact ⟨trivial, r1 (blE (show true = kr s by unfold kr; rw [show (s.toList == (ByteArray.mk #[60, 115, 62]).toList) = true from h1]; rfl)), trivial⟩
 ·exact ⟨trivial, r1 (blE (show (s.toList == (ByteArray.mk #[60, 47, 115, 62]).toList) = kr s by unfold kr; rw [show (s.toList == (ByteArray.mk #[60, 115, 62]).toList) = false from h1]; rfl)), trivial⟩
def gy (l : List ByteArray) : List (List PC) := l.map fun x => [sS x]
abbrev sSl (l : List ByteArray) : PC := .sl 1 (gy l)
theorem aK {l : List ByteArray} : (gy l).length = l.length := by simp [gy]
theorem iG {l : List ByteArray} {i : Int} {n : Nat} (h0 : i = n) (h : n < l.length) : (gy l)[i.toNat]? = some [sS l[n]] := by
 subst h0;simp [gy, h]
def bW (s : ByteArray) : List ByteArray → Int
 | [] => -1
 | y :: l => if (y.toList == s.toList) = true then 0 else if bW s l < 0 then -1 else bW s l + 1
theorem lR (s : ByteArray) : ∀ (l : List ByteArray) (i : Nat) (h : i < l.length), (∀ (j : Nat) (hj : j < i), (l[j].toList == s.toList) = false) → (l[i].toList == s.toList) = true → bW s l = i
 | [], i, h, _, _ => by simp at h
 | y :: l, 0, _, _, h => by simp at h; simp [bW, h]
 | y :: l, i + 1, hi, h1, h => by
  have h0 := h1 0 (by omega);have := lR s l i (by simpa using hi) (fun j hj => by simpa using h1 (j + 1) (by omega)) (by simpa using h);simp only [F9] at h0;simp only [bW, this, h0];rw [if_neg (by simp), if_neg (by omega)];simp
theorem lS (s : ByteArray) : ∀ (l : List ByteArray), (∀ (j : Nat) (hj : j < l.length), (l[j].toList == s.toList) = false) → bW s l = -1
 | [], _ => rfl
 | y :: l, h => by
  have h0 := h 0 (by simp);have := lS s l (fun j hj => h (j + 1) (Nat.succ_lt_succ hj));simp only [F9] at h0;simp only [bW, this, h0];rw [if_neg (by simp), if_pos (by omega)]
theorem lc (l : List ByteArray) (s : ByteArray) (hl : l.length ≤ 1000000) : Ct P 137 [.c (sSl l), .c (sS s)] [.c (eI .i64 (bW s l))] := by
 refine Ct.go aj aa (N := 19) Tryz.func137 rfl rfl rfl rfl ?_;refine ar aj aa (fun i : Nat => i ≤ l.length ∧ ∀ (j : Nat) (hj : j < l.length), j < i → (l[j].toList == s.toList) = false) (fun i => [(0, .c (sSl l)), (1, .c (sS s)), (5, .c (nI .i64 i))]) (fun _ => []) (fun i => l.length - i)
  0 ⟨by omega, fun j _ hj => by omega⟩ ⟨rfl, rfl, rfl, trivial⟩ trivial (fun _ : Unit => bW s l = -1) (fun _ => []) (fun _ => []) (fun i hi => ?_) (fun _ he => ?_)
 ·obtain ⟨h1, h2⟩ := hi;refine .intro (by rw [aK]; omega) ?_;rw [aK];refine ae (fun h5 => ?_) (fun h5 => ?_)
  ·refine .intro (by omega) (X1 _ (iG rfl (by omega)) ?_);refine aM (fun h6 => ?_) (fun h6 => ?_)
   ·exact ⟨trivial, r1 (iE (lR s l i (by omega) (fun j hj => h2 j (by omega) hj) h6).symm), trivial⟩
   ·refine X1 ((i + 1 : Nat) : Int) (wI1 (by omega)) ?_;refine ⟨i + 1, ⟨by omega, fun j hj hji => ?_⟩, by omega, ⟨rfl, rfl, rfl, trivial⟩, trivial⟩;by_cases e : j = i
    ·subst e; exact h6
    ·exact h2 j hj (by omega)
  ·exact ⟨(), lS s l (fun j hj => h2 j hj (by omega)), trivial, trivial⟩
 ·exact ⟨trivial, r1 (iE he.symm), trivial⟩
theorem vY (s : ByteArray) (l : List ByteArray) : -1 ≤ bW s l ∧ bW s l < l.length := by
 induction l with
 | nil => simp [bW]
 | cons y l ih =>
  simp only [bW, Eh];split
  ·omega
  ·split <;> omega
theorem AR (l : List ByteArray) (s : ByteArray) (hl : l.length ≤ 1000000) : Ct P 179 [.c (sSl l), .c (sS s)] [.c (eI .i64 (if 0 > bW s l then 0 else bW s l))] := by
 refine Ct.go aj aa (N := 9) Tryz.func179 rfl rfl rfl rfl ?_;refine X1 _ (lc l s hl) ?_;exact ⟨trivial, r1 rfl, trivial⟩
def gH (l : List ByteArray) (s : ByteArray) : Int := if 0 > bW s l then 0 else bW s l
theorem DC {l : List Int} {x : Int} : aP l ++ [[eI .i64 x]] = aP (l ++ [x]) := by simp [aP]
theorem y6 (l m : List ByteArray) (hl : l.length ≤ 1000000) (hm : m.length ≤ 1000000) : Ct P 140 [.c (sSl l), .c (sSl m)] [.c (iSl (m.map (gH l)))] := by
 refine Ct.go aj aa (N := 23) Tryz.func140 rfl rfl rfl rfl ?_;refine jN (r := 50) (t := 5) (sz := 1) rfl rfl ?_;refine ar aj aa (fun i : Nat => i ≤ m.length) (fun i => [(0, .c (sSl l)), (1, .c (sSl m)), (5, .c (.ow 50 1 i)), (6, .c (nI .i64 i))]) (fun i => [(50, .row 1 (aP ((m.take i).map (gH l))))]) (fun i => m.length - i)
  0 (by omega) ⟨rfl, rfl, rfl, rfl, trivial⟩ ⟨rfl, trivial⟩ (fun _ : Unit => True) (fun _ => [(5, .c (.ow 50 1 m.length))]) (fun _ => [(50, .row 1 (aP (m.map (gH l))))]) (fun i hi => ?_) (fun _ he => ?_)
 ·refine .intro (by rw [aK]; omega) ?_;rw [aK];refine ae (fun h5 => ?_) (fun h5 => ?_)
  ·refine .intro (by omega) (X1 _ (iG rfl (by omega)) ?_);refine X1 _ (AR l m[i] hl) ?_;have e0 : (aP ((m.take i).map (gH l))).length = i := by simp [aP]; omega
   refine ⟨e0.symm, by rw [e0]; show (i + 1 + 768) * 8 ≤ _; omega, by rw [e0]; show i + 1 ≤ _; omega, bm, kV, ?_⟩;refine X1 ((i + 1 : Nat) : Int) (wI1 (by omega)) ?_;have e1 : (m.take (i + 1)).map (gH l) = (m.take i).map (gH l) ++ [gH l m[i]] := by
    rw [DL (by omega), EQ]; rfl
   exact ⟨i + 1, by omega, by omega, ⟨rfl, rfl, owE (by rw [DK, e0]; rfl), rfl, trivial⟩, ⟨aB (by rw [e1, ← DC]; rfl), trivial⟩⟩
  ·have e : i = m.length := by omega
   subst e;exact ⟨(), trivial, ⟨rfl, trivial⟩, ⟨aB (by rw [Ek]), trivial⟩⟩
 ·exact ⟨trivial, r1 rfl, trivial⟩
def marks15 : List ByteArray := [⟨#[60, 117, 110, 107, 62]⟩, ⟨#[60, 115, 62]⟩, ⟨#[60, 47, 115, 62]⟩]
theorem tQ : Ct P 87 [] [.c (sSl marks15)] := by
 refine Ct.go aj aa (N := 2) Tryz.func87 rfl rfl rfl rfl ?_;exact ⟨trivial, r1 rfl, trivial⟩
theorem dI {l : List ByteArray} : az (gy l) := by
 intro el h;obtain ⟨x, _, rfl⟩ := Ef.1 h;rfl
theorem ku (l : List ByteArray) (x : ByteArray) : gy (l ++ [x]) = gy l ++ [[sS x]] := by simp [gy]
def lnS (s : ByteArray) : Nat → List ByteArray × Nat
 | 0 => ([], 0)
 | i + 1 => if s.data[i]? = some 10 then ((lnS s i).1 ++ [s.extract (lnS s i).2 i], i + 1) else lnS s i
theorem lf (s : ByteArray) : ∀ i, (lnS s i).2 ≤ i ∧ (lnS s i).1.length ≤ i
 | 0 => ⟨DI _, DI _⟩
 | i + 1 => by
  obtain ⟨h1, h2⟩ := lf s i;unfold lnS;split
  ·exact ⟨DI _, by simp; omega⟩
  ·exact ⟨by omega, by omega⟩
def dy (s : ByteArray) : List ByteArray := (lnS s s.size).1 ++ [s.extract (lnS s s.size).2 s.size]
theorem y7 (s : ByteArray) (hs : s.size ≤ 100000) : Ct P 135 [.c (sS s)] [.c (sSl (dy s))] := by
 have e : gy (dy s) = gy (lnS s s.size).1 ++ [[sS (s.extract (lnS s s.size).2 s.size)]] := by unfold dy; rw [ku]
 rw [show sSl (dy s) = .sl 1 (gy (lnS s s.size).1 ++ [[sS (s.extract (lnS s s.size).2 s.size)]]) from congrArg _ e];refine Ct.go aj aa (N := 33) Tryz.func135 rfl rfl rfl rfl ?_;refine jN (r := 34) (t := 3) (sz := 1) rfl rfl ?_;refine ar aj aa (fun i : Nat => i ≤ s.size) (fun i => [(0, .c (sS s)), (3, .c (.ow 34 1 (lnS s i).1.length)), (4, .c (nI .i64 (lnS s i).2)), (5, .c (nI .i64 i))]) (fun i => [(34, .row 1 (gy (lnS s i).1))]) (fun i => s.size - i)
  0 (by omega) ⟨rfl, rfl, rfl, rfl, trivial⟩ ⟨rfl, trivial⟩ (fun _ : Unit => True) (fun _ => [(0, .c (sS s)), (3, .c (.ow 34 1 (lnS s s.size).1.length)), (4, .c (nI .i64 (lnS s s.size).2))]) (fun _ => [(34, .row 1 (gy (lnS s s.size).1))]) (fun i hi => ?_) (fun _ _ => ?_)
 ·obtain ⟨a1, a2⟩ := lf s i;refine ae (fun h1 => ?_) (fun h1 => ?_)
  ·have hi' : i < s.size := by omega
   have hb : s.data[(i : Int).toNat]? = some s.data[i] := by simp [hi', show i < s.data.size from hi']
   refine .intro (by omega) (X1 _ hb ?_);refine aW (fun h2 => ?_) (fun h2 => ?_)
   ·have h3 : s.data[i]? = some 10 := by
     rw [FB hi'];congr 1;have : (s.data[i]).toNat = 10 := by omega
     exact UInt8.toNat_inj.1 this
    have hst : lnS s (i + 1) = ((lnS s i).1 ++ [s.extract (lnS s i).2 i], i + 1) := by rw [lnS, if_pos h3]
    refine ⟨(lnS s i).2, i, rfl, rfl, a1, by omega, ?_⟩;refine ⟨by rw [aK], by rw [aK]; show ((lnS s i).1.length + 1 + 768) * 16 ≤ _; omega, by rw [aK]; show (lnS s i).1.length + 1 ≤ _; omega, dI, au rfl, ?_⟩;refine X1 ((i + 1 : Nat) : Int) (wI1 (by omega)) ?_;refine X1 ((i + 1 : Nat) : Int) (wI1 (by omega)) ?_;refine ⟨i + 1, by omega, by omega, ⟨rfl, owE (by rw [hst, DK, DK, aK]; rfl), by rw [hst]; rfl, rfl, trivial⟩, ⟨aB (by rw [hst, ku]; rfl), trivial⟩⟩
   ·have h3 : ¬ s.data[i]? = some 10 := fun h => by
     rw [FB hi', DW] at h;apply h2;rw [h]; rfl
    have hst : lnS s (i + 1) = lnS s i := by rw [lnS, if_neg h3]
    refine X1 ((i + 1 : Nat) : Int) (wI1 (by omega)) ?_;refine ⟨i + 1, by omega, by omega, ⟨rfl, by rw [hst]; rfl, by rw [hst]; rfl, rfl, trivial⟩, ⟨by rw [hst]; rfl, trivial⟩⟩
  ·have e : i = s.size := by omega
   subst e;exact ⟨(), trivial, ⟨rfl, rfl, rfl, trivial⟩, ⟨rfl, trivial⟩⟩
 ·obtain ⟨a1, a2⟩ := lf s s.size;refine ⟨rfl, by rw [aK]; show (0 + (lnS s s.size).1.length + 768) * 16 ≤ _; omega, by rw [aK]; show 0 + (lnS s s.size).1.length ≤ _; omega, cc, dI, ?_⟩;refine ⟨(lnS s s.size).2, s.size, rfl, rfl, a1, DI _, ?_⟩;refine ⟨rfl, by rw [DK, aK]; show (0 + (lnS s s.size).1.length + 1 + 768) * 16 ≤ _; omega, by rw [DK, aK]; show 0 + (lnS s s.size).1.length + 1 ≤ _; omega, dI, au rfl, ?_⟩;refine .intro rfl ?_;exact ⟨trivial, r1 rfl, trivial⟩
abbrev nbB (b : UInt8) : Bool := !(k9 (b.toNat : Int))
def eb (s : ByteArray) (i : Nat) : Nat := ((s.data.toList.drop i).takeWhile nbB).length
theorem uJ {α : Type} {p : α → Bool} : ∀ (l : List α), (∀ (j : Nat) x, j < (l.takeWhile p).length → l[j]? = some x → p x = true) ∧ (∀ x, l[(l.takeWhile p).length]? = some x → p x = false) ∧ (l.takeWhile p).length ≤ l.length
 | [] => ⟨fun j x h => by simp at h, fun x h => by simp at h, by simp⟩
 | y :: l => by
  obtain ⟨h1, h2, h3⟩ := uJ (p := p) l
  cases hp : p y with
  | true =>
   rw [FX hp];refine ⟨fun j x hj hx => ?_, fun x hx => ?_, by simp; omega⟩
   ·cases j with
    | zero => simp at hx; subst hx; exact hp
    | succ j => exact h1 j x (by simpa using hj) (by simpa using hx)
   ·exact h2 x (by simpa using hx)
  | false =>
   rw [List.takeWhile_cons_of_neg (by rw [hp]; simp)];exact ⟨fun j x hj => by simp at hj, fun x hx => by simp at hx; subst hx; exact hp, by simp⟩
theorem nO (s : ByteArray) (i : Nat) (hi : i ≤ s.size) : i + eb s i ≤ s.size ∧ (∀ j, j < eb s i → ∀ b, s.data[i + j]? = some b → nbB b = true) ∧ ∀ b, s.data[i + eb s i]? = some b → nbB b = false := by
 obtain ⟨h1, h2, h3⟩ := uJ (p := nbB) (s.data.toList.drop i);have e : ∀ j, (s.data.toList.drop i)[j]? = s.data[i + j]? := fun j => by simp [Eu]
 refine ⟨?_, fun j hj b hb => h1 j b hj (by rw [e]; exact hb), fun b hb => h2 b (by rw [e]; exact hb)⟩;have : (s.data.toList.drop i).length = s.size - i := by rw [Eo]; rfl
 unfold eb;omega
abbrev C9 : ByteArray := ⟨#[60, 117, 110, 107, 62]⟩
def wdW (s : ByteArray) (i : Nat) : ByteArray := if eb s i > 255 then C9 else s.extract i (i + eb s i)
def wdF (s : ByteArray) : Nat → Nat → List ByteArray → List ByteArray
 | 0, _, out => out
 | f + 1, i, out => match s.data[i]? with
  | none => out
  | some b => if nbB b = false then wdF s f (i + 1) out else wdF s f (i + eb s i) (if kr (wdW s i) = true then out else out ++ [wdW s i])
def dz (s : ByteArray) : List ByteArray := wdF s (s.size + 1) 0 []
theorem uK {s : ByteArray} {i : Nat} (hi : i < s.size) {b : UInt8} (hb : s.data[i]? = some b) (h : nbB b = true) : 1 ≤ eb s i := by
 obtain ⟨_, _, h3⟩ := nO s i (by omega);apply Classical.byContradiction;intro hn;have e : eb s i = 0 := by omega
 rw [e] at h3;have := h3 b (by simpa using hb);rw [h] at this; cases this
def kv (out : List ByteArray) : Prop := ∀ w, w ∈ out → w.size ≤ 255 ∧ kr w = false
theorem Cl (s : ByteArray) (i : Nat) : (wdW s i).size ≤ 255 := by
 unfold wdW;split
 ·decide
 ·have : (s.extract i (i + eb s i)).size ≤ eb s i := by rw [Fv]; omega
  omega
theorem tR (s : ByteArray) (hs : s.size ≤ 100000) : Ct P 136 [.c (sS s)] [.c (sSl (dz s))] := by
 refine Ct.go aj aa (N := 53) Tryz.func136 rfl rfl rfl rfl ?_;refine jN (r := 60) (t := 3) (sz := 1) rfl rfl ?_;refine ar aj aa (G := Nat × List ByteArray × Nat) (fun (i, out, f) => i ≤ s.size ∧ out.length ≤ i ∧ s.size + 1 ≤ i + f ∧ wdF s f i out = dz s) (fun (i, out, _) => [(0, .c (sS s)), (3, .c (.ow 60 1 out.length)), (4, .c (nI .i64 i))]) (fun (_, out, _) => [(60, .row 1 (gy out))]) (fun (i, _, _) => s.size - i)
  (0, [], s.size + 1) ⟨by omega, by simp, by omega, rfl⟩ ⟨rfl, rfl, rfl, trivial⟩ ⟨rfl, trivial⟩ (fun _ : Unit => True) (fun _ => [(3, .c (.ow 60 1 (dz s).length))]) (fun _ => [(60, .row 1 (gy (dz s)))]) (fun (i, out, f) hi => ?_) (fun _ _ => ?_)
 ·obtain ⟨i1, i2, i3, i4⟩ := hi;refine ae (fun h1 => ?_) (fun h1 => ?_)
  ·have hi' : i < s.size := by omega
   obtain ⟨f', rfl⟩ : ∃ f', f = f' + 1 := ⟨f - 1, by omega⟩;have hb : s.data[i]? = some s.data[i] := FB hi';generalize s.data[i] = b at *
   rw [wdF, hb] at i4;simp only at i4;obtain ⟨r1', r2', r3'⟩ := nO s i i1;refine .intro (by omega) (X1 b (by rw [Ei]; exact hb) ?_);refine X1 _ (sa _) ?_;refine aM (fun h2 => ?_) (fun h2 => ?_)
   ·have hn : nbB b = false := by show (!(k9 (b.toNat : Int))) = false; rw [h2]; rfl
    rw [if_pos hn] at i4;refine X1 ((i + 1 : Nat) : Int) (wI1 (by omega)) ?_;exact ⟨(i + 1, out, f'), ⟨by omega, by omega, by omega, i4⟩, by show s.size - (i + 1) < s.size - i; omega, ⟨rfl, rfl, rfl, trivial⟩, ⟨rfl, trivial⟩⟩
   ·have hn : nbB b = true := by show (!(k9 (b.toNat : Int))) = true; rw [h2]; rfl
    rw [if_neg (by rw [hn]; simp)] at i4;have hpos := uK hi' hb hn;refine ar aj aa (fun n : Nat => n ≤ eb s i) (fun n => [(0, .c (sS s)), (3, .c (.ow 60 1 out.length)), (4, .c (nI .i64 i)), (5, .c (nI .i64 n))]) (fun _ => [(60, .row 1 (gy out))]) (fun n => eb s i - n)
     0 (by omega) ⟨rfl, rfl, rfl, rfl, trivial⟩ ⟨rfl, trivial⟩ (fun _ : Unit => True) (fun _ => [(0, .c (sS s)), (3, .c (.ow 60 1 out.length)), (4, .c (nI .i64 i)), (5, .c (nI .i64 (eb s i)))]) (fun _ => [(60, .row 1 (gy out))]) (fun n hn' => ?_) (fun _ _ => ?_)
    ·refine X1 ((s.size - i : Nat) : Int) (wI (by omega) (by omega) (by omega)) ?_;refine ae (fun h3 => ?_) (fun h3 => ?_)
     ·have hin : i + n < s.size := by omega
      have hbn : s.data[i + n]? = some s.data[i + n] := FB hin
      generalize s.data[i + n] = c at *
      refine X1 ((i + n : Nat) : Int) (wI (by simp) (by omega) (by omega)) ?_;refine .intro (by omega) (X1 c (by rw [Ei]; exact hbn) ?_);refine X1 _ (sa _) ?_;refine aM (fun h4 => ?_) (fun h4 => ?_)
      ·have h5 : nbB c = true := h4;have hlt : n < eb s i := by
        apply Classical.byContradiction;intro hge;have e : n = eb s i := by omega
        subst e;have := r3' c hbn;rw [h5] at this; cases this
       refine X1 ((n + 1 : Nat) : Int) (wI (by simp) (by omega) (by omega)) ?_;exact ⟨n + 1, by omega, by omega, ⟨rfl, rfl, rfl, rfl, trivial⟩, ⟨rfl, trivial⟩⟩
      ·have h5 : nbB c = false := h4;have e : n = eb s i := by
        apply Classical.byContradiction;intro hne;have := r2' n (by omega) c hbn;rw [h5] at this; cases this
       subst e;exact ⟨(), trivial, ⟨rfl, rfl, rfl, rfl, trivial⟩, ⟨rfl, trivial⟩⟩
     ·have e : n = eb s i := by omega
      subst e;exact ⟨(), trivial, ⟨rfl, rfl, rfl, rfl, trivial⟩, ⟨rfl, trivial⟩⟩
    ·refine X1 ((i + eb s i : Nat) : Int) (wI (by simp) (by omega) (by omega)) ?_;refine ⟨i, i + eb s i, rfl, rfl, by omega, r1', ?_⟩;refine ae (fun h6 => ?_) (fun h6 => ?_);have ew : wdW s i = C9 := if_pos (by omega);rw [ew] at i4;rotate_left;have ew : wdW s i = s.extract i (i + eb s i) := if_neg (by omega);rw [ew] at i4
     all_goals
      refine X1 _ (AQ _) ?_;refine aM (fun h7 => ?_) (fun h7 => ?_)
      ·rw [if_neg (by simpa using h7)] at i4;refine ⟨by rw [aK], by rw [aK]; show (out.length + 1 + 768) * 16 ≤ _; omega, by rw [aK]; show out.length + 1 ≤ _; omega, dI, au rfl, ?_⟩;refine X1 ((i + eb s i : Nat) : Int) (wI (by simp) (by omega) (by omega)) ?_;refine ⟨(i + eb s i, _, f'), ⟨r1', by rw [DK]; show out.length + 1 ≤ _; omega, by omega, i4⟩, by show s.size - (i + eb s i) < s.size - i; omega, ⟨rfl, owE (by rw [DK, DK, aK]; rfl), rfl, trivial⟩, ⟨aB (by rw [ku]; rfl), trivial⟩⟩
      ·rw [if_pos (by simpa using h7)] at i4;refine X1 ((i + eb s i : Nat) : Int) (wI (by simp) (by omega) (by omega)) ?_;exact ⟨(i + eb s i, out, f'), ⟨r1', by omega, by omega, i4⟩, by show s.size - (i + eb s i) < s.size - i; omega, ⟨rfl, rfl, rfl, trivial⟩, ⟨rfl, trivial⟩⟩
  ·have hnone : s.data[i]? = none := Fu (by show s.size ≤ i; omega);obtain ⟨f', rfl⟩ : ∃ f', f = f' + 1 := ⟨f - 1, by omega⟩;rw [wdF, hnone] at i4;simp only at i4;subst i4;exact ⟨(), trivial, ⟨rfl, trivial⟩, ⟨rfl, trivial⟩⟩
 ·exact ⟨trivial, r1 rfl, trivial⟩
theorem tS (s : ByteArray) : ∀ (f i : Nat) (out : List ByteArray), i ≤ s.size → kv out → out.length ≤ i → kv (wdF s f i out) ∧ (wdF s f i out).length ≤ s.size
 | 0, i, out, hi, h, hl => ⟨h, by show out.length ≤ _; omega⟩
 | f + 1, i, out, hi, h, hl => by
  unfold wdF
  cases hb : s.data[i]? with
  | none => exact ⟨h, by show out.length ≤ _; omega⟩
  | some b =>
   have hi' : i < s.size := (Ea.1 hb).1;simp only;split
   ·exact tS s f (i + 1) out (by omega) h (by omega)
   ·rename_i hn;have hpos := uK hi' hb (by simpa using hn);have hr := (nO s i hi).1;refine tS s f (i + eb s i) _ hr ?_ ?_
    ·split
     ·exact h
     ·rename_i hm;intro w hw;rcases Ej.1 hw with hw | hw
      ·exact h w hw
      ·simp at hw; subst hw;exact ⟨Cl s i, by simpa using hm⟩
    ·split
     ·omega
     ·rw [DK]; show out.length + 1 ≤ _; omega
theorem nP (s : ByteArray) : kv (dz s) ∧ (dz s).length ≤ s.size := tS s _ 0 [] (by omega) (fun w h => by simp at h) (by simp)
def ib (L : List (List ByteArray)) : List (List PC) := L.map fun l => [sSl l]
abbrev AS (L : List (List ByteArray)) : PC := .sl 1 (ib L)
theorem dJ {L : List (List ByteArray)} : (ib L).length = L.length := by simp [ib]
theorem ql {L : List (List ByteArray)} : az (ib L) := by
 intro el h;obtain ⟨x, _, rfl⟩ := Ef.1 h;rfl
theorem vZ (L : List (List ByteArray)) (l : List ByteArray) : ib (L ++ [l]) = ib L ++ [[sSl l]] := by simp [ib]
theorem oY {L : List (List ByteArray)} {i : Int} {n : Nat} (h0 : i = n) (h : n < L.length) : (ib L)[i.toNat]? = some [sSl L[n]] := by
 subst h0;simp [ib, h]
def iQ (l : List ByteArray) : List (List ByteArray) := (l.map dz).filter fun w => decide (w.length > 0)
def fF (s : ByteArray) : List (List ByteArray) := iQ (dy s)
theorem v4 (l : List ByteArray) (x : ByteArray) : iQ (l ++ [x]) = if (dz x).length > 0 then iQ l ++ [dz x] else iQ l := by
 unfold iQ;rw [EQ, EX];by_cases h : (dz x).length > 0
 ·rw [if_pos h]; simp [Gi, h]
 ·rw [if_neg h]; simp [Gi, h]
theorem y8 {s : ByteArray} : (∀ i, ∀ l, l ∈ (lnS s i).1 → l.size ≤ s.size) := by
 intro i
 induction i with
 | zero => intro l h; simp [lnS] at h
 | succ i ih =>
  intro l h;unfold lnS at h;split at h
  ·rcases Ej.1 h with h | h
   ·exact ih l h
   ·simp at h; subst h;rw [Fv]; omega
  ·exact ih l h
theorem sb (s : ByteArray) : (dy s).length ≤ s.size + 1 ∧ ∀ l, l ∈ dy s → l.size ≤ s.size := by
 unfold dy;refine ⟨by rw [DK]; have := (lf s s.size).2; show (lnS s s.size).1.length + 1 ≤ _; omega, fun l h => ?_⟩;rcases Ej.1 h with h | h
 ·exact y8 s.size l h
 ·simp at h; subst h;rw [Fv]; omega
theorem sd (s : ByteArray) (hs : s.size ≤ 100000) : Ct P 88 [.c (sS s)] [.c (AS (fF s))] := by
 obtain ⟨b1, b2⟩ := sb s;refine Ct.go aj aa (N := 28) Tryz.func88 rfl rfl rfl rfl ?_;refine X1 _ (y7 s hs) ?_;unfold fF;generalize dy s = l at *
 refine jN (r := 34) (t := 3) (sz := 1) rfl rfl ?_;refine ar aj aa (fun i : Nat => i ≤ l.length) (fun i => [(4, .c (sSl l)), (3, .c (.ow 34 1 (iQ (l.take i)).length)), (5, .c (nI .i64 i))]) (fun i => [(34, .row 1 (ib (iQ (l.take i))))]) (fun i => l.length - i)
  0 (by omega) ⟨rfl, rfl, rfl, trivial⟩ ⟨rfl, trivial⟩ (fun _ : Unit => True) (fun _ => [(3, .c (.ow 34 1 (iQ l).length))]) (fun _ => [(34, .row 1 (ib (iQ l)))]) (fun i hi => ?_) (fun _ _ => ?_)
 ·refine .intro (by rw [aK]; omega) ?_;rw [aK];refine ae (fun h1 => ?_) (fun h1 => ?_)
  ·have hi' : i < l.length := by omega
   have hget := iG (l := l) (i := (i : Int)) (n := i) rfl hi';have hs : l.take (i + 1) = l.take i ++ [l[i]] := DL hi';have hsn := v4 (l.take i) l[i];rw [← hs] at hsn;have hb := b2 l[i] (DU hi');have hwl := (nP l[i]).2;have hal : (iQ (l.take i)).length ≤ i := by
    have := EG (fun w : List ByteArray => decide (w.length > 0)) ((l.take i).map dz);rw [Ez, DV] at this;unfold iQ; omega
   generalize l[i] = x at *
   refine .intro (by omega) (X1 _ hget ?_);refine X1 _ (tR x (by omega)) ?_;refine .intro (by rw [aK]; omega) ?_;rw [aK];refine ae (fun h2 => ?_) (fun h2 => ?_)
   ·rw [if_pos (by omega)] at hsn;refine ⟨by rw [dJ], by rw [dJ]; show ((iQ (l.take i)).length + 1 + 768) * 24 ≤ _; omega, by rw [dJ]; show (iQ (l.take i)).length + 1 ≤ _; omega, ql, au rfl, ?_⟩;refine X1 ((i + 1 : Nat) : Int) (wI1 (by omega)) ?_;exact ⟨i + 1, by omega, by omega, ⟨rfl, owE (by rw [hsn, DK, DK, dJ]; rfl), rfl, trivial⟩, ⟨aB (by rw [hsn, vZ]; rfl), trivial⟩⟩
   ·rw [if_neg (by omega)] at hsn;refine X1 ((i + 1 : Nat) : Int) (wI1 (by omega)) ?_;exact ⟨i + 1, by omega, by omega, ⟨rfl, by rw [hsn]; rfl, rfl, trivial⟩, ⟨by rw [hsn]; rfl, trivial⟩⟩
  ·have e : i = l.length := by omega
   subst e;rw [Ek];exact ⟨(), trivial, ⟨rfl, trivial⟩, ⟨rfl, trivial⟩⟩
 ·exact ⟨trivial, r1 rfl, trivial⟩
def gF (l : List ByteArray) (s : ByteArray) : List ByteArray := if bW s l ≥ 0 then l else l ++ [s]
theorem y9 (l : List ByteArray) (s : ByteArray) (hl : l.length ≤ 500000) : Ct P 89 [.c (sSl l), .c (sS s)] [.c (sSl (gF l s))] := by
 unfold gF;by_cases h0 : bW s l ≥ 0
 ·rw [if_pos h0];refine Ct.go aj aa (N := 16) Tryz.func89 rfl rfl rfl rfl ?_;refine X1 _ (lc l s (by omega)) ?_;refine ae (fun h1 => ?_) (fun h1 => ?_)
  ·exact ⟨trivial, r1 rfl, trivial⟩
  ·exfalso; omega
 ·rw [if_neg h0, show sSl (l ++ [s]) = .sl 1 (gy l ++ [[sS s]]) from congrArg _ (ku l s)];refine Ct.go aj aa (N := 16) Tryz.func89 rfl rfl rfl rfl ?_;refine X1 _ (lc l s (by omega)) ?_;refine ae (fun h1 => ?_) (fun h1 => ?_)
  ·exfalso; omega
  ·refine ⟨rfl, by rw [aK]; show (0 + l.length + 768) * 16 ≤ _; omega, by rw [aK]; show 0 + l.length ≤ _; omega, cc, dI, ?_⟩;refine ⟨rfl, by rw [DK, aK]; show (0 + l.length + 1 + 768) * 16 ≤ _; omega, by rw [DK, aK]; show 0 + l.length + 1 ≤ _; omega, dI, au rfl, ?_⟩;exact ⟨trivial, r1 rfl, trivial⟩
theorem v5 (l : List ByteArray) (s : ByteArray) : (gF l s).length ≤ l.length + 1 := by
 unfold gF; split
 ·omega
 ·simp
def cL (l : List ByteArray) (ws : List ByteArray) : List ByteArray := ws.foldl gF l
theorem se (l ws : List ByteArray) (w : ByteArray) : cL l (ws ++ [w]) = gF (cL l ws) w := by simp [cL, FY]
theorem gA : ∀ (ws l : List ByteArray), (cL l ws).length ≤ l.length + ws.length
 | [], l => by simp [cL]
 | w :: ws, l => by
  have := gA ws (gF l w);have h2 := v5 l w;show (cL (gF l w) ws).length ≤ _
  rw [Eh]; omega
def eC (l : List ByteArray) (L : List (List ByteArray)) : List ByteArray := L.foldl cL l
theorem tT (l : List ByteArray) (L : List (List ByteArray)) (ws : List ByteArray) : eC l (L ++ [ws]) = cL (eC l L) ws := by simp [eC, FY]
theorem lg {n : Nat} : ∀ (L : List (List ByteArray)) (l : List ByteArray), (∀ ws, ws ∈ L → ws.length ≤ n) → (eC l L).length ≤ l.length + L.length * n
 | [], l, _ => by simp [eC]
 | ws :: L, l, h => by
  have := lg L (cL l ws) fun x hx => h x (D2 _ hx)
  have h2 := gA ws l;have h3 := h ws (by simp);show (eC (cL l ws) L).length ≤ _
  rw [Eh, DY, Es]; omega
def aH (s : ByteArray) : List ByteArray := eC marks15 (fF s)
theorem kw (s : ByteArray) : (fF s).length ≤ s.size + 1 ∧ ∀ ws, ws ∈ fF s → ws.length ≤ s.size ∧ kv ws := by
 obtain ⟨b1, b2⟩ := sb s;unfold fF iQ;refine ⟨?_, fun ws h => ?_⟩
 ·have := EG (fun w : List ByteArray => decide (w.length > 0)) ((dy s).map dz);rw [Ez] at this;omega
 ·obtain ⟨h1, _⟩ := Gl.1 h;obtain ⟨l, hl, rfl⟩ := Ef.1 h1;obtain ⟨w1, w2⟩ := nP l;have := b2 l hl;exact ⟨by omega, w1⟩
theorem tU (s : ByteArray) (hs : s.size ≤ 500) : Ct P 37 [.c (sS s)] [.c (sSl (aH s))] := by
 obtain ⟨b1, b2⟩ := kw s;have hA := sd s (by omega);unfold aH;generalize fF s = L at *
 have hbd : ∀ i, (eC marks15 (L.take i)).length ≤ 251000 := fun i => by
  have h1 := lg (n := 500) (L.take i) marks15 fun ws h => by have := (b2 ws (Fc h)).1; omega
  have h2 : (L.take i).length ≤ 501 := by rw [DV]; omega
  have h3 : (L.take i).length * 500 ≤ 501 * 500 := DP _ h2;have h4 : marks15.length = 3 := rfl;omega
 refine Ct.go aj aa (N := 35) Tryz.func37 rfl rfl rfl rfl ?_;refine X1 _ tQ ?_;refine X1 _ hA ?_;refine ar aj aa (fun i : Nat => i ≤ L.length) (fun i => [(4, .c (AS L)), (3, .c (sSl (eC marks15 (L.take i)))), (5, .c (nI .i64 i))]) (fun _ => []) (fun i => L.length - i)
  0 (by omega) ⟨rfl, rfl, rfl, trivial⟩ trivial (fun _ : Unit => True) (fun _ => [(3, .c (sSl (eC marks15 L)))]) (fun _ => []) (fun i hi => ?_) (fun _ _ => ?_)
 ·refine .intro (by rw [dJ]; omega) ?_;rw [dJ];refine ae (fun h1 => ?_) (fun h1 => ?_)
  ·have hi' : i < L.length := by omega
   have hget := oY (L := L) (i := (i : Int)) (n := i) rfl hi';have hs : L.take (i + 1) = L.take i ++ [L[i]] := DL hi';have hbi := hbd i;have hwl := (b2 _ (DU hi')).1;have hsn : eC marks15 (L.take (i + 1)) = cL (eC marks15 (L.take i)) L[i] := by rw [hs, tT]
   generalize L[i] = ws at *
   generalize eC marks15 (L.take i) = l at *
   refine b8 aj aa (fun k : Nat => k ≤ ws.length) (fun k => [(4, .c (AS L)), (3, .c (sSl (cL l (ws.take k)))), (5, .c (nI .i64 i)), (6, .c (nI .i64 k))]) (fun _ => []) (fun k => ws.length - k)
    0 (by omega) ⟨rfl, rfl, rfl, rfl, trivial⟩ trivial (fun k hk => ?_)
   refine .intro (by omega) (X1 _ hget ?_);refine .intro (by rw [aK]; omega) ?_;rw [aK];refine ae (fun h2 => ?_) (fun h2 => ?_)
   ·have hk' : k < ws.length := by omega
    have hs2 : ws.take (k + 1) = ws.take k ++ [ws[k]] := DL hk';have hsn2 : cL l (ws.take (k + 1)) = gF (cL l (ws.take k)) ws[k] := by rw [hs2, se]
    have hlen2 := gA (ws.take k) l;rw [DV] at hlen2;refine .intro (by omega) (X1 _ hget ?_);refine .intro (by omega) (X1 _ (iG (n := k) rfl hk') ?_);refine X1 _ (y9 _ _ (by omega)) ?_;refine X1 ((k + 1 : Nat) : Int) (wI (by simp) (by omega) (by omega)) ?_;exact ⟨k + 1, by omega, by omega, ⟨rfl, by rw [hsn2]; rfl, rfl, rfl, trivial⟩, trivial⟩
   ·have e : k = ws.length := by omega
    subst e;rw [Ek, ← hsn];refine X1 ((i + 1 : Nat) : Int) (wI1 (by omega)) ?_;exact ⟨i + 1, by omega, by omega, ⟨rfl, rfl, rfl, trivial⟩, trivial⟩
  ·have e : i = L.length := by omega
   subst e;rw [Ek];exact ⟨(), trivial, ⟨rfl, trivial⟩, trivial⟩
 ·exact ⟨trivial, r1 rfl, trivial⟩
def eg (ws l : List ByteArray) : List Int := ([1] ++ l.map (gH ws)) ++ [2]
theorem za (ws l : List ByteArray) (hw : ws.length ≤ 1000000) (hl : l.length ≤ 900000) : Ct P 91 [.c (sSl ws), .c (sSl l)] [.c (iSl (eg ws l))] := by
 have e : aP (eg ws l) = ([[eI .i64 1]] ++ aP (l.map (gH ws))) ++ [[eI .i64 2]] := by simp [eg, aP]
 have hlen : (aP (l.map (gH ws))).length = l.length := by simp [aP]
 have hids := y6 ws l hw (by omega);rw [show iSl (eg ws l) = .sl 1 (([[eI .i64 1]] ++ aP (l.map (gH ws))) ++ [[eI .i64 2]]) from congrArg _ e];generalize l.map (gH ws) = ids at *
 refine Ct.go aj aa (N := 19) Tryz.func91 rfl rfl rfl rfl ?_;refine ⟨rfl, by show (0 + 1 + 768) * 8 ≤ _; omega, by show 0 + 1 ≤ _; omega, cc, au rfl, ?_⟩;refine X1 _ hids ?_;refine ⟨rfl, by rw [hlen]; show (1 + l.length + 768) * 8 ≤ _; omega, by rw [hlen]; show 1 + l.length ≤ _; omega, au rfl, bm, ?_⟩;have hc : az ([[eI .i64 1]] ++ aP ids) := fun el h => by
  rcases Ej.1 h with h | h
  ·simp at h; subst h; rfl
  ·exact bm el h
 have hl2 : ([[eI .i64 1]] ++ aP ids).length = l.length + 1 := by rw [DK, hlen]; show 1 + l.length = _; omega
 refine ⟨rfl, by show (0 + ([[eI .i64 1]] ++ aP ids).length + 768) * 8 ≤ _; rw [hl2]; omega, by show 0 + ([[eI .i64 1]] ++ aP ids).length ≤ _; rw [hl2]; omega, cc, hc, ?_⟩;refine ⟨rfl, by show (([[eI .i64 1]] ++ aP ids).length + 1 + 768) * 8 ≤ _; rw [hl2]; omega, by show ([[eI .i64 1]] ++ aP ids).length + 1 ≤ _; rw [hl2]; omega, hc, au rfl, ?_⟩;exact ⟨trivial, r1 rfl, trivial⟩
def dx (L : List (List Int)) : List (List PC) := L.map fun l => [iSl l]
abbrev l9 (L : List (List Int)) : PC := .sl 1 (dx L)
theorem bc {L : List (List Int)} : (dx L).length = L.length := by simp [dx]
theorem d7 {L : List (List Int)} : az (dx L) := by
 intro el h;obtain ⟨x, _, rfl⟩ := Ef.1 h;rfl
theorem oZ (L : List (List Int)) (l : List Int) : dx (L ++ [l]) = dx L ++ [[iSl l]] := by simp [dx]
theorem o5 {L : List (List Int)} {i : Int} {n : Nat} (h0 : i = n) (h : n < L.length) : (dx L)[i.toNat]? = some [iSl L[n]] := by
 subst h0;simp [dx, h]
def fp (ws : List ByteArray) (s : ByteArray) : List (List Int) := (fF s).map (eg ws)
theorem zb (ws : List ByteArray) (s : ByteArray) (hw : ws.length ≤ 1000000) (hs : s.size ≤ 100000) : Ct P 39 [.c (sSl ws), .c (sS s)] [.c (l9 (fp ws s))] := by
 obtain ⟨b1, b2⟩ := kw s;have hA := sd s hs;unfold fp;generalize fF s = L at *
 refine Ct.go aj aa (N := 26) Tryz.func39 rfl rfl rfl rfl ?_;refine X1 _ hA ?_;refine jN (r := 34) (t := 5) (sz := 1) rfl rfl ?_;refine ar aj aa (fun i : Nat => i ≤ L.length) (fun i => [(0, .c (sSl ws)), (6, .c (AS L)), (5, .c (.ow 34 1 i)), (7, .c (nI .i64 i))]) (fun i => [(34, .row 1 (dx ((L.take i).map (eg ws))))]) (fun i => L.length - i)
  0 (by omega) ⟨rfl, rfl, rfl, rfl, trivial⟩ ⟨rfl, trivial⟩ (fun _ : Unit => True) (fun _ => [(5, .c (.ow 34 1 L.length))]) (fun _ => [(34, .row 1 (dx (L.map (eg ws))))]) (fun i hi => ?_) (fun _ _ => ?_)
 ·refine .intro (by rw [dJ]; omega) ?_;rw [dJ];refine ae (fun h1 => ?_) (fun h1 => ?_)
  ·have hi' : i < L.length := by omega
   have hget := oY (L := L) (i := (i : Int)) (n := i) rfl hi';have hs : (L.take (i + 1)).map (eg ws) = (L.take i).map (eg ws) ++ [eg ws L[i]] := by rw [DL hi', EQ]; rfl
   have hwl := (b2 _ (DU hi')).1;have hl : ((L.take i).map (eg ws)).length = i := by simp; omega
   generalize L[i] = x at *
   refine .intro (by omega) (X1 _ hget ?_);refine X1 _ (za ws x hw (by omega)) ?_;refine ⟨by rw [bc, hl], by rw [bc, hl]; show (i + 1 + 768) * 24 ≤ _; omega, by rw [bc, hl]; show i + 1 ≤ _; omega, d7, au rfl, ?_⟩;refine X1 ((i + 1 : Nat) : Int) (wI1 (by omega)) ?_;exact ⟨i + 1, by omega, by omega, ⟨rfl, rfl, owE (by rw [DK, bc, hl]; rfl), rfl, trivial⟩, ⟨aB (by rw [hs, oZ]; rfl), trivial⟩⟩
  ·have e : i = L.length := by omega
   subst e;rw [Ek];exact ⟨(), trivial, ⟨rfl, trivial⟩, ⟨rfl, trivial⟩⟩
 ·exact ⟨trivial, r1 rfl, trivial⟩
def grS (p : List Int) (n : Nat) : Nat → List (List Int)
 | 0 => []
 | i + 1 => if n + i ≤ p.length then grS p n i ++ [(p.drop i).take n] else grS p n i
theorem mz (p : List Int) (n : Nat) : ∀ i, (grS p n i).length ≤ i
 | 0 => DI _
 | i + 1 => by
  have := mz p n i;unfold grS;split
  ·simp; omega
  ·omega
def cq (p : List Int) (n : Nat) : List (List Int) := grS p n p.length
theorem tV (p : List Int) (n : Nat) (h1 : 1 ≤ n) (hn : n ≤ 1000000) (hp : p.length ≤ 900000) : Ct P 177 [.c (iSl p), .c (nI .i64 n)] [.c (l9 (cq p n))] := by
 refine Ct.go aj aa (N := 32) Tryz.func177 rfl rfl rfl rfl ?_;refine ae (fun h => ?_) (fun _ => ?_)
 ·exfalso; omega
 refine jN (r := 34) (t := 5) (sz := 1) rfl rfl ?_;refine ar aj aa (fun i : Nat => i ≤ p.length) (fun i => [(0, .c (iSl p)), (1, .c (nI .i64 n)), (5, .c (.ow 34 1 (grS p n i).length)), (6, .c (nI .i64 i))]) (fun i => [(34, .row 1 (dx (grS p n i)))]) (fun i => p.length - i)
  0 (by omega) ⟨rfl, rfl, rfl, rfl, trivial⟩ ⟨rfl, trivial⟩ (fun _ : Unit => True) (fun _ => [(5, .c (.ow 34 1 (cq p n).length))]) (fun _ => [(34, .row 1 (dx (cq p n)))]) (fun i hi => ?_) (fun _ _ => ?_)
 ·refine .intro (by rw [ai]; omega) ?_;rw [ai];have hgl := mz p n i;refine ae (fun h2 => ?_) (fun h2 => ?_)
  ·refine .intro (by rw [ai]; omega) ?_;rw [ai];refine X1 ((p.length - i : Nat) : Int) (wI (by omega) (by omega) (by omega)) ?_;refine ae (fun h3 => ?_) (fun h3 => ?_)
   ·have hst : grS p n (i + 1) = grS p n i ++ [(p.drop i).take n] := by rw [grS, if_pos (by omega)]
    refine X1 ((i + n : Nat) : Int) (wI (by simp) (by omega) (by omega)) ?_;refine ⟨i, i + n, rfl, rfl, by omega, by rw [ai]; omega, ?_⟩;rw [iRow_sub, show i + n - i = n by omega];refine ⟨by rw [bc], by rw [bc]; show ((grS p n i).length + 1 + 768) * 24 ≤ _; omega, by rw [bc]; show (grS p n i).length + 1 ≤ _; omega, d7, au rfl, ?_⟩;refine X1 ((i + 1 : Nat) : Int) (wI1 (by omega)) ?_;exact ⟨i + 1, by omega, by omega, ⟨rfl, rfl, owE (by rw [hst, DK, DK, bc]; rfl), rfl, trivial⟩, ⟨aB (by rw [hst, oZ]; rfl), trivial⟩⟩
   ·have hst : grS p n (i + 1) = grS p n i := by rw [grS, if_neg (by omega)]
    refine X1 ((i + 1 : Nat) : Int) (wI1 (by omega)) ?_;exact ⟨i + 1, by omega, by omega, ⟨rfl, rfl, by rw [hst]; rfl, rfl, trivial⟩, ⟨by rw [hst]; rfl, trivial⟩⟩
  ·have e : i = p.length := by omega
   subst e;exact ⟨(), trivial, ⟨rfl, trivial⟩, ⟨rfl, trivial⟩⟩
 ·exact ⟨trivial, r1 rfl, trivial⟩
def pu (x : Cnt) : List Cnt → Bool → List Cnt
 | [], laid => if laid = true then [] else [x]
 | y :: l, laid => (if aE y.1 x.1 > 0 ∧ laid = false then [x] else []) ++ (if aE y.1 x.1 = 0 then (y.1, y.2 + x.2) else y) :: pu x l (laid || decide (aE y.1 x.1 > 0) || decide (aE y.1 x.1 = 0))
def lT (l : List Cnt) (x : Cnt) : List Cnt := pu x l false
theorem ej (l : List Cnt) (x : Cnt) : cf (l ++ [x]) = cf l ++ [[iSl x.1, eI .i64 x.2]] := by simp [cf]
theorem zc (l : List Cnt) (x : Cnt) (hl : CLim l) (hx : x.1.length ≤ 1000000) (hn : ∀ y, y ∈ l → 0 ≤ y.2 ∧ y.2 ≤ 1000000000) (hx2 : 0 ≤ x.2 ∧ x.2 ≤ 1000000000) :
  Ct P 139 [.c (cSl l), .ag [iSl x.1, eI .i64 x.2]] [.c (cSl (lT l x))] := by
 have hll := hl.len;refine Ct.go aj aa (N := 57) Tryz.func139 rfl rfl rfl rfl ?_;refine jN (r := 60) (t := 5) (sz := 2) rfl rfl ?_;refine ar aj aa (G := Nat × List Cnt × Bool) (fun (i, out, b) => i ≤ l.length ∧ out.length ≤ i + (if b = true then 1 else 0) ∧ out ++ pu x (l.drop i) b = lT l x) (fun (i, out, b) => [(0, .c (cSl l)), (3, .c (.ad 3 0)), (5, .c (.ow 60 2 out.length)), (6, .c (.sc (.bool b))), (7, .c (nI .i64 i))])
  (fun (_, out, _) => [(3, .var [iSl x.1, eI .i64 x.2]), (60, .row 2 (cf out))]) (fun (i, _, _) => l.length - i)
  (0, [], false) ⟨by omega, by simp, rfl⟩ ⟨rfl, rfl, rfl, rfl, rfl, trivial⟩ ⟨rfl, rfl, trivial⟩ (fun (g : List Cnt × Bool) => g.1.length ≤ l.length + 1 ∧ g.1 ++ pu x [] g.2 = lT l x) (fun (out, b) => [(3, .c (.ad 3 0)), (5, .c (.ow 60 2 out.length)), (6, .c (.sc (.bool b)))]) (fun (out, _) => [(3, .var [iSl x.1, eI .i64 x.2]), (60, .row 2 (cf out))]) (fun (i, out, b) hi => ?_) (fun (out, b) ho => ?_)
 ·obtain ⟨i1, i2, i3⟩ := hi;have hout : out.length ≤ i + 1 := by split at i2 <;> omega
  refine .intro (by rw [cRow_len]; omega) ?_;rw [cRow_len];refine ae (fun h1 => ?_) (fun h1 => ?_)
  ·have hi' : i < l.length := by omega
   have hget := bD (l := l) (i := (i : Int)) (n := i) rfl hi';have hgl := hl.at' hi';have hnn := hn _ (DU hi');rw [D8 hi', pu] at i3;generalize l[i] = y at *
   refine .intro (by omega) (X1 _ hget ?_);refine X1 _ (rm y.1 x.1 hgl hx) ?_;refine .intro rfl ?_;refine ae (fun h2 => ?_) (fun h2 => ?_)
   ·have h0 : ¬ aE y.1 x.1 = 0 := by omega
    refine aM (fun h3 => ?_) (fun h3 => ?_)
    ·have hb : b = false := by simpa using h3
     subst hb;rw [if_pos ⟨h2, rfl⟩, if_neg h0, decide_eq_true h2] at i3;have e1 : (out ++ [x]).length = out.length + 1 := by simp
     refine ⟨by rw [cRow_len], by rw [cRow_len]; show (out.length + 1 + 768) * 32 ≤ _; omega, by rw [cRow_len]; show out.length + 1 ≤ _; omega, bp, au rfl, ?_⟩;refine .intro (by omega) (X1 _ hget ?_);refine aW (fun h => absurd h h0) (fun _ => ?_);have e2 : cf out ++ [[iSl x.1, eI .i64 x.2]] = cf (out ++ [x]) := (ej out x).symm;refine ⟨?_, ?_, ?_, ?_, au rfl, ?_⟩
     ·rfl
     ·show ((cf out ++ [[iSl x.1, eI .i64 x.2]]).length + 1 + 768) * 32 ≤ _
      rw [e2, cRow_len, e1]; omega
     ·show (cf out ++ [[iSl x.1, eI .i64 x.2]]).length + 1 ≤ _
      rw [e2, cRow_len, e1]; omega
     ·show az (cf out ++ [[iSl x.1, eI .i64 x.2]])
      rw [e2]; exact bp
     ·refine X1 ((i + 1 : Nat) : Int) (wI1 (by omega)) ?_;refine ⟨(i + 1, out ++ [x] ++ [y], true), ⟨by omega, by simp at i2 ⊢; omega, ?_⟩, by show l.length - (i + 1) < l.length - i; omega, ⟨rfl, rfl, owE ?_, rfl, rfl, trivial⟩, ⟨rfl, aB ?_, trivial⟩⟩
      ·rw [← i3]; simp
      ·simp [cRow_len]
      ·rw [ej, ej]; rfl
    ·have hb : b = true := by simpa using h3
     subst hb;rw [if_neg (by simp), if_neg h0] at i3;refine .intro (by omega) (X1 _ hget ?_);refine aW (fun h => absurd h h0) (fun _ => ?_);refine ⟨by rw [cRow_len], by rw [cRow_len]; show (out.length + 1 + 768) * 32 ≤ _; omega, by rw [cRow_len]; show out.length + 1 ≤ _; omega, bp, au rfl, ?_⟩;refine X1 ((i + 1 : Nat) : Int) (wI1 (by omega)) ?_;refine ⟨(i + 1, out ++ [y], true), ⟨by omega, by simp at i2 ⊢; omega, ?_⟩, by show l.length - (i + 1) < l.length - i; omega, ⟨rfl, rfl, owE ?_, rfl, rfl, trivial⟩, ⟨rfl, aB ?_, trivial⟩⟩
     ·rw [← i3]; simp
     ·simp [cRow_len]
     ·rw [ej]; rfl
   ·rw [if_neg (fun h => h2 h.1), decide_eq_false h2] at i3;refine .intro (by omega) (X1 _ hget ?_);refine aW (fun h3 => ?_) (fun h3 => ?_)
    ·rw [if_pos h3, decide_eq_true h3] at i3;refine X1 (y.2 + x.2) (wI rfl (by omega) (by omega)) ?_;refine ⟨by rw [cRow_len], by rw [cRow_len]; show (out.length + 1 + 768) * 32 ≤ _; omega, by rw [cRow_len]; show out.length + 1 ≤ _; omega, bp, au rfl, ?_⟩;refine X1 ((i + 1 : Nat) : Int) (wI1 (by omega)) ?_;refine ⟨(i + 1, out ++ [(y.1, y.2 + x.2)], true), ⟨by omega, by rw [DK]; show out.length + 1 ≤ i + 1 + 1; omega, ?_⟩, by show l.length - (i + 1) < l.length - i; omega, ⟨rfl, rfl, owE ?_, rfl, rfl, trivial⟩, ⟨rfl, aB ?_, trivial⟩⟩
     ·rw [← i3]; simp
     ·simp [cRow_len]
     ·rw [ej]; rfl
    ·rw [if_neg h3, decide_eq_false h3] at i3;refine ⟨by rw [cRow_len], by rw [cRow_len]; show (out.length + 1 + 768) * 32 ≤ _; omega, by rw [cRow_len]; show out.length + 1 ≤ _; omega, bp, au rfl, ?_⟩;refine X1 ((i + 1 : Nat) : Int) (wI1 (by omega)) ?_;refine ⟨(i + 1, out ++ [y], b), ⟨by omega, by rw [DK]; show out.length + 1 ≤ i + 1 + _; omega, ?_⟩, by show l.length - (i + 1) < l.length - i; omega, ⟨rfl, rfl, owE ?_, rfl, rfl, trivial⟩, ⟨rfl, aB ?_, trivial⟩⟩
     ·rw [← i3]; simp
     ·simp [cRow_len]
     ·rw [ej]; rfl
  ·have e : i = l.length := by omega
   subst e;rw [Ff] at i3;exact ⟨(out, b), ⟨hout, i3⟩, ⟨rfl, rfl, rfl, trivial⟩, ⟨rfl, rfl, trivial⟩⟩
 ·obtain ⟨o1, o2⟩ := ho;have o1' : out.length ≤ l.length + 1 := o1;have o2' : out ++ pu x [] b = lT l x := o2;rw [← o2'];refine aM (fun h3 => ?_) (fun h3 => ?_)
  ·have hb : b = false := by simpa using h3
   subst hb;rw [show pu x [] false = [x] from rfl, show cSl (out ++ [x]) = .sl 2 (cf out ++ [[iSl x.1, eI .i64 x.2]]) from congrArg _ (ej out x)];refine ⟨by rw [cRow_len], by rw [cRow_len]; show (out.length + 1 + 768) * 32 ≤ _; omega, by rw [cRow_len]; show out.length + 1 ≤ _; omega, bp, au rfl, ?_⟩;exact ⟨trivial, r1 rfl, trivial⟩
  ·have hb : b = true := by simpa using h3
   subst hb;rw [show pu x [] true = [] from rfl, FE];exact ⟨trivial, r1 rfl, trivial⟩
def a8 (L : List (List Int)) (n : Nat) : List (List Int) := (L.map fun p => cq p n).flatten
theorem sf (L : List (List Int)) (p : List Int) (n : Nat) : a8 (L ++ [p]) n = a8 L n ++ cq p n := by simp [a8]
theorem gB {k n : Nat} : ∀ (L : List (List Int)), (∀ p, p ∈ L → p.length ≤ k) → (a8 L n).length ≤ L.length * k
 | [], _ => by simp [a8]
 | p :: L, h => by
  have ih := gB (n := n) L fun x hx => h x (D2 _ hx)
  have h1 := h p (by simp);have h2 := mz p n p.length;have e : a8 (p :: L) n = cq p n ++ a8 L n := by simp [a8]
  rw [e, DK, Eh, DY, Es];unfold cq;omega
theorem v6 (L : List (List Int)) (n : Nat) (h1 : 1 ≤ n) (hn : n ≤ 1000000) (hL : L.length ≤ 600) (hp : ∀ p, p ∈ L → p.length ≤ 600) : Ct P 138 [.c (l9 L), .c (nI .i64 n)] [.c (l9 (a8 L n))] := by
 have hbd : ∀ i, (a8 (L.take i) n).length ≤ 360000 := fun i => by
  have h1 := gB (n := n) (k := 600) (L.take i) fun p h => hp p (Fc h)
  have h2 : (L.take i).length ≤ 600 := by rw [DV]; omega
  have h3 : (L.take i).length * 600 ≤ 600 * 600 := DP _ h2;omega
 refine Ct.go aj aa (N := 24) Tryz.func138 rfl rfl rfl rfl ?_;refine zO (t := 5) (sz := 1) rfl ?_;refine yg (fun i : Nat => i ≤ L.length) (fun i => [(0, .c (l9 L)), (1, .c (nI .i64 n)), (5, .c (l9 (a8 (L.take i) n))), (6, .c (nI .i64 i))]) (fun _ => []) (fun i => L.length - i)
  0 (by omega) ⟨rfl, rfl, rfl, rfl, trivial⟩ trivial (fun _ : Unit => True) (fun _ => [(5, .c (l9 (a8 L n)))]) (fun _ => []) (fun i hi => ?_) (fun _ _ => ?_)
 ·refine vD ?_;refine eV aj aa ?_;refine .intro (by rw [bc]; omega) ?_;rw [bc];refine yh (b := decide ((i : Int) < (L.length : Int))) rfl (fun e => ?_) (fun e => ?_)
  ·have hi' : i < L.length := by have := of_decide_eq_true e; omega
   have hget := o5 (L := L) (i := (i : Int)) (n := i) rfl hi';have hs : L.take (i + 1) = L.take i ++ [L[i]] := DL hi';have hsn : a8 (L.take (i + 1)) n = a8 (L.take i) n ++ cq L[i] n := by rw [hs, sf]
   have hpl := hp _ (DU hi');have hb1 := hbd i;have hb2 := hbd (i + 1);rw [hsn, DK] at hb2;generalize L[i] = p at *
   generalize a8 (L.take i) n = E0 at *
   refine yi ?_;refine vD ?_;refine nr ?_;refine lN aj aa ?_;refine ⟨rfl, by rw [bc]; show (0 + E0.length + 768) * 24 ≤ _; omega, by rw [bc]; show 0 + E0.length ≤ _; omega, cc, d7, ?_⟩;refine .intro (by omega) (X1 _ hget ?_);refine X1 _ (tV p n h1 hn (by omega)) ?_;refine ⟨rfl, by rw [bc]; show ((dx E0).length + (cq p n).length + 768) * 24 ≤ _; rw [bc]; omega, by rw [bc]; show (dx E0).length + (cq p n).length ≤ _; rw [bc]; omega, d7, d7, ?_⟩;refine .intro rfl ?_;refine CX [13] ?_;refine lN aj aa ?_;refine X1 ((i + 1 : Nat) : Int) (wI1 (by omega)) ?_;refine ⟨i + 1, by omega, by omega, ⟨rfl, rfl, ?_, rfl, trivial⟩, trivial⟩;have e2 : dx (E0 ++ cq p n) = dx E0 ++ dx (cq p n) := by simp [dx]
   rw [hsn, show l9 (E0 ++ cq p n) = .sl 1 (dx E0 ++ dx (cq p n)) from congrArg _ e2];rfl
  ·have e1 : i = L.length := by have := of_decide_eq_false e; omega
   subst e1;rw [Ek];exact lN aj aa ⟨(), trivial, ⟨rfl, trivial⟩, trivial⟩
 ·exact lN aj aa ⟨trivial, r1 rfl, trivial⟩
end
end Go.Proofs.YtgceikecdedfcaaGreat.Pv
