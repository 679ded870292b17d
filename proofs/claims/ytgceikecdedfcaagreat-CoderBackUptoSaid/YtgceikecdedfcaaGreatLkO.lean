/- Parts of a proof, joined: Ex Hf Hg Ch Fl Fm Fn Fo Fp Fq Fr. -/
import Derived.Test.YtgceikecdedfcaaGreatLkN
namespace Go.Proofs.YtgceikecdedfcaaGreat.Pv
open Go
section
theorem kz {k : Nat} {p : Nat × Nat} (n : Nat) (h : Bd k (nz p)) (hk : k ≤ 400000) (h0 : n ≠ 0) (hn : n < 9223372036854775808) : Ct P 158 [qP p, .c (nI .i64 n)] [qP (dW (nz p) (n, 1))] := CA n h.bg (by omega) h0 hn
theorem lj {l : List Cnt} (hl : CLim l) (a : Int) : nz (gAt (0, 0) (dJ (aq l 1) (aq l 2) (aq l 3) (aq l 4) 1) (dJ (aq l 1) (aq l 2) (aq l 3) (aq l 4) 2) (dJ (aq l 1) (aq l 2) (aq l 3) (aq l 4) 3) a) = atN l a := by
 have m := fun k => D4 (cr l k) hl.len
 have rn := fun k h1 h3 => uK (m 1) (m 2) (m 3) (m 4) k h1 h3
 unfold gAt atN at4 eN;split
 ·rfl
 ·split
  ·exact rn 1 (by omega) (by omega)
  ·split
   ·exact rn 2 (by omega) (by omega)
   ·exact rn 3 (by omega) (by omega)
section
variable {Lc : List (List Cnt)} {words : Int}
theorem sd (hx : XOk Lc words) (h : List Int) (w : Int) : Bd 30000 (bj Lc words h w) := by
 have h8 := hx.len8;have hclt := qr hx h;unfold bj;split
 ·exact bd01.le (by omega)
 ·exact (uQ hx w _).le (by omega)
end
end
section
theorem Hp.turn {K : Km} {ok : Nat → Prop} {w : World} {O O' : Objs} (hp : Hp K ok w O) (ho : ∀ k o', O'.get k = some o' → (∃ o, O.get k = some o) ∧ HOb K ok w k o') : Hp K ok w O' :=
 ⟨fun k o h => (ho k o h).2, fun k k' o o' b L L' h1 h2 e1 e2 => by
  obtain ⟨⟨p, g1⟩, _⟩ := ho k o h1;obtain ⟨⟨p', g2⟩, _⟩ := ho k' o' h2;exact hp.inj k k' p p' b L L' g1 g2 e1 e2, fun k o b L h e => by
  obtain ⟨⟨p, g1⟩, _⟩ := ho k o h;exact hp.apart k p b L g1 e, hp.lt, hp.hlt, hp.hok, fun k o b L h e => by
  obtain ⟨⟨p, g1⟩, _⟩ := ho k o h;exact hp.how k p b L g1 e⟩
theorem Fr.turn {K K' : Km} {ok ok' : Nat → Prop} {w w' : World} {O O1 O2 O3 : Objs} (hf : Fr K ok w O K' ok' w' O2) (h1 : ∀ k o, O.get k = some o → ∃ o', O1.get k = some o') (h2 : ∀ k o, O3.get k = some o → ∃ o', O2.get k = some o') : Fr K ok w O1 K' ok' w' O3 :=
 ⟨hf.size, fun b hb g1 g2 => hf.keep b hb (fun k o L e1 e2 => by obtain ⟨o', g⟩ := h1 k o e1; exact g1 k o' L g e2) g2, hf.okUp, fun b hb => by
  rcases hf.okNew b hb with h | h | ⟨k, o, L, e1, e2⟩
  ·exact .inl h
  ·exact .inr (.inl h)
  ·obtain ⟨o', g⟩ := h1 k o e1; exact .inr (.inr ⟨k, o', L, g, e2⟩), fun k o b L e1 e2 => by
  obtain ⟨o', g⟩ := h2 k o e1;rcases hf.own k o' b L g e2 with h | ⟨k0, o0, L0, g1, g2⟩
  ·exact .inl h
  ·obtain ⟨o1, g3⟩ := h1 k0 o0 g1; exact .inr ⟨k0, o1, L0, g3, g2⟩, hf.os, hf.tape, hf.output, hf.kind, hf.pin, hf.hid⟩
theorem CtO.less {P : Program} {f : FuncId} {O O' O2 : Objs} {args res : List A1} (h : CtO P f O args O' res) (hw : ∀ K ok w k o2, O2.get k = some o2 → ∃ o', O'.get k = some o' ∧ (HOb K ok w k o' → HOb K ok w k o2)) : CtO P f O args O2 res :=
 ⟨fun K ok w vs hp hrel => (h.run K ok w vs hp hrel).mono fun e w' ⟨v, K', ok', h1, h2, h3, h4⟩ =>
  ⟨v, K', ok', h1, h2, h3.turn fun k o2 g => by obtain ⟨o', g1, g2⟩ := hw K' ok' w' k o2 g; exact ⟨⟨o', g1⟩, g2 (h3.obs k o' g1)⟩,
   h4.turn (fun k o g => ⟨o, g⟩) fun k o g => by obtain ⟨o', g1, _⟩ := hw K' ok' w' k o g; exact ⟨o', g1⟩⟩⟩
theorem AZ {k : Nat} {o1 o2 o : Ob} {OX : Objs} (h : Objs.get ((1000000, some o1) :: (1000001, some o2) :: OX) k = some o) : (k = 1000000 ∧ o = o1) ∨ (k = 1000001 ∧ o = o2) ∨ (k ≠ 1000000 ∧ k ≠ 1000001 ∧ OX.get k = some o) := by
 simp only [Objs.get] at h
 cases h1 : Nat.beq 1000000 k with
 | true => rw [h1] at h; exact .inl ⟨(DY h1).symm, (FG h).symm⟩
 | false =>
  rw [h1] at h;have n1 : k ≠ 1000000 := fun e => by rw [e, Ei] at h1; cases h1
  cases h2 : Nat.beq 1000001 k with
  | true => rw [h2] at h; exact .inr (.inl ⟨(DY h2).symm, (FG h).symm⟩)
  | false =>
   rw [h2] at h;exact .inr (.inr ⟨n1, (fun e => by rw [e, Ei] at h2; cases h2), h⟩)
theorem o8 {k : Nat} {o1 o2 o : Ob} {OX : Objs} (n1 : k ≠ 1000000) (n2 : k ≠ 1000001) (h : OX.get k = some o) : Objs.get ((1000000, some o1) :: (1000001, some o2) :: OX) k = some o := by
 simp only [Objs.get]
 cases h1 : Nat.beq 1000000 k with
 | true => exact absurd (DY h1).symm n1
 | false =>
  cases h2 : Nat.beq 1000001 k with
  | true => exact absurd (DY h2).symm n2
  | false => exact h
abbrev xM (Lc : List (List Cnt)) (words : Int) (ks : List Value) (vs : List (List PC)) (OX : Objs) : Objs := (1000000, some (xC Lc words 1000001)) :: (1000001, some (.mp false ks vs)) :: OX
abbrev xX (Lc : List (List Cnt)) (words : Int) (OX : Objs) : Objs := (1000000, some (xC Lc words 1000001)) :: (1000001, some (.me false (MOk Lc))) :: OX
abbrev xE (Lc : List (List Cnt)) (words : Int) : Objs := xX Lc words []
theorem CtO.ex {f : FuncId} {args res : List A1} {Lc : List (List Cnt)} {words : Int} {OX OX' : Objs} (h : ∀ ks vs, MOk Lc ks vs → ∃ ks' vs', MOk Lc ks' vs' ∧ CtO P f (xM Lc words ks vs OX) args (xM Lc words ks' vs' OX') res) : CtO P f (xX Lc words OX) args (xX Lc words OX') res := by
 refine ⟨fun K ok w vs hp hrel => ?_⟩;obtain ⟨ks, ws, hS, hob⟩ := hp.obs 1000001 (.me false (MOk Lc)) rfl;obtain ⟨ks', ws', hS', hct⟩ := h ks ws hS;have hp2 : Hp K ok w (xM Lc words ks ws OX) := hp.turn fun k o g => by
  rcases AZ g with ⟨rfl, rfl⟩ | ⟨rfl, rfl⟩ | ⟨n1, n2, g⟩
  ·exact ⟨⟨_, rfl⟩, hp.obs 1000000 _ rfl⟩
  ·exact ⟨⟨_, rfl⟩, hob⟩
  ·exact ⟨⟨_, o8 n1 n2 g⟩, hp.obs k o (o8 n1 n2 g)⟩
 refine (hct.run K ok w vs hp2 hrel).mono fun e w' ⟨v, K', ok', h1, h2, h3, h4⟩ => ⟨v, K', ok', h1, h2, h3.turn fun k o g => ?_, h4.turn (fun k o g => ?_) fun k o g => ?_⟩
 ·rcases AZ g with ⟨rfl, rfl⟩ | ⟨rfl, rfl⟩ | ⟨n1, n2, g⟩
  ·exact ⟨⟨_, rfl⟩, h3.obs 1000000 _ rfl⟩
  ·exact ⟨⟨_, rfl⟩, ks', ws', hS', h3.obs 1000001 _ rfl⟩
  ·exact ⟨⟨_, o8 n1 n2 g⟩, h3.obs k o (o8 n1 n2 g)⟩
 ·rcases AZ g with ⟨rfl, rfl⟩ | ⟨rfl, rfl⟩ | ⟨n1, n2, g⟩
  ·exact ⟨_, rfl⟩
  ·exact ⟨_, rfl⟩
  ·exact ⟨_, o8 n1 n2 g⟩
 ·rcases AZ g with ⟨rfl, rfl⟩ | ⟨rfl, rfl⟩ | ⟨n1, n2, g⟩
  ·exact ⟨_, rfl⟩
  ·exact ⟨_, rfl⟩
  ·exact ⟨_, o8 n1 n2 g⟩
section
variable {Lc : List (List Cnt)} {words : Int}
theorem gd : CtO P 42 (xE Lc words) [.c (.ad 1000000 0)] (xE Lc words) [.c (eI .i64 words)] := .ex fun ks vs hm => ⟨ks, vs, hm, rX⟩
end
end
section
section
variable {Lc : List (List Cnt)} {words : Int} {ks : List Value} {vs : List (List PC)}
theorem se (hx : XOk Lc words) (hm : MOk Lc ks vs) (H h : List Int) (lo n : Nat) (hh0 : h = (H.drop lo).take n) (hH : H.length ≤ 1000000) (hle : lo + n ≤ H.length) (hh : h.length < Lc.length) :
  ∃ ks' vs', MOk Lc ks' vs' ∧ CtO P 159 (zf Lc words ks vs (aM H)) [.c (.ad 1000000 0), .c (.os 1000002 1 lo n)] (zf Lc words ks' vs' (aM H)) [.c (lh Lc h)] := by
 have hn : h.length = n := by rw [hh0, Ed, EJ]; omega
 have esub : iSl h = .sl 1 (((aM H).drop lo).take n) := by rw [hh0]; exact congrArg _ iRow_sub.symm
 have h8 := hx.len8;have hln := hx.lim.at' hh;have e : Lc.getD h.length [] = Lc[h.length] := by simp [DZ, hh]
 by_cases hk : dj h = true
 ·obtain ⟨r, f1, f2⟩ := lg (p5 h) ks 0 hm.str;have hkey := mn h (by omega);rw [if_pos hk, if_pos hk, esub] at hkey
  cases r with
  | some j =>
   obtain ⟨_, f3⟩ := f2 j rfl;rw [FY] at f3;obtain ⟨h', g1, g2, g3⟩ := hm.at' j _ f3;have e' : h = h' := rZ hk g1 (by injection g2);subst e';refine ⟨ks, vs, hm, ?_⟩;refine Ct.io aj aa (N := 63) Tryz.func159 rfl rfl rfl rfl ?_;refine X2 .look (X1 _ hkey ?_);refine ⟨some j, .c (lh Lc h), f1, ⟨_, g3, rfl⟩, ?_⟩;exact ⟨trivial, sa rfl rfl rfl, r1 rfl, trivial⟩
  | none =>
   refine ⟨ks ++ [.string (p5 h)], vs ++ [[lh Lc h]], ?_, ?_⟩
   ·refine ⟨by simp [hm.len], fun i k hi => ?_⟩;have hlen : ∀ i k, ks[i]? = some k → i < vs.length := fun i k hi => by
     obtain ⟨_, _, _, g3⟩ := hm.at' i k hi;exact (D2.1 g3).1
    rcases Fm i ks.length with hlt | heq | hgt
    ·rw [D9 hlt] at hi;rw [D9 (hlen i k hi)];exact hm.at' i k hi
    ·subst heq;rw [D7 (D1 _), Gy] at hi;cases hi;refine ⟨h, hk, rfl, ?_⟩;rw [D7 (Nat.le_of_eq hm.len.symm), hm.len, Gy];rfl
    ·rw [Eo (by simp; omega)] at hi; cases hi
   ·have haft := o7 Lc[h.length] h hln (hx.rises _ (Ec hh)) (by omega) (hx.tot _ (Ec hh));rw [esub] at haft;refine Ct.io aj aa (N := 63) Tryz.func159 rfl rfl rfl rfl ?_;refine X2 .look (X1 _ hkey ?_);refine ⟨none, .c (.sc (.pointer none)), f1, rfl, ?_⟩;refine .intro (by omega) ?_;refine .intro (by omega) (X1 _ (cw (n := h.length) (by omega) hh) ?_);refine X2 .look (X1 _ haft ?_);refine .intro (by omega) ?_;refine .intro (by omega) (X1 _ (gb (n := h.length) (by omega) hh) ?_);refine X1 _ (uP hx h hh) ?_;refine .intro rfl ?_;refine ⟨[55], none, f1, rfl, ?_⟩;have hc : tS Lc h = nI .i64 (totN (after Lc[h.length] h)) :: (qP (gc Lc h)).cells := by unfold tS; rw [e]
    unfold lh;rw [hc];exact ⟨trivial, sa rfl rfl rfl, r1 rfl, trivial⟩
 ·refine ⟨ks, vs, hm, ?_⟩;have hkey := mn h (by omega);rw [if_neg hk, if_neg hk, esub] at hkey;refine Ct.keep aj aa [20] (N := 63) Tryz.func159 rfl rfl rfl rfl ?_;refine X2 .look (X1 _ hkey ?_);refine X1 _ (bG 1 (by omega)) ?_;unfold lh;rw [nR hx hh hk];exact ⟨trivial, sa rfl rfl rfl, r1 rfl, trivial⟩
abbrev hO (H : List Int) : Objs := [(1000002, some (.row 1 (aM H)))]
theorem sf (hx : XOk Lc words) (H h : List Int) (lo n : Nat) (hh0 : h = (H.drop lo).take n) (hH : H.length ≤ 1000000) (hle : lo + n ≤ H.length) (hh : h.length < Lc.length) :
  CtO P 159 (xX Lc words (hO H)) [.c (.ad 1000000 0), .c (.os 1000002 1 lo n)] (xX Lc words (hO H)) [.c (lh Lc h)] := .ex fun ks vs hm => se hx hm H h lo n hh0 hH hle hh
theorem nT (hx : XOk Lc words) (g : List Int) (els : List (List PC)) (he : els = aM g) (m : Nat) (hm : m = g.length) (h1 : 1 ≤ g.length) (hg : g.length ≤ Lc.length) :
  CtO P 160 (xX Lc words [(1000002, some (.row 1 els))]) [.c (.ad 1000000 0), .c (.ow 1000002 1 m)] (xX Lc words [(1000002, some (.row 1 els))]) [.c (eI .i64 (cy Lc g))] :=
 .ex fun ks vs hk => ⟨ks, vs, hk, tU hx g els he m hm h1 hg⟩
theorem iO (hx : XOk Lc words) : CtO P 41 (xE Lc words) [.c (.ad 1000000 0)] (xE Lc words) [.c (nI .i64 Lc.length)] := .ex fun ks vs hm => ⟨ks, vs, hm, nO hx⟩
theorem v5 (H h : List Int) (lo n : Nat) (hh0 : h = (H.drop lo).take n) (hH : H.length ≤ 1000000) (hle : lo + n ≤ H.length) :
  CtO P 46 (hO H) [.c (.os 1000002 1 lo n)] [(1000002, some (.row 1 (aM H))), (5, some (.row 1 (aM h)))] [.c (.ow 5 1 h.length)] := by
 have hn : h.length = n := by rw [hh0, Ed, EJ]; omega
 have esub : ((aM H).drop lo).take n = aM h := by rw [hh0]; exact iRow_sub
 refine Ct.keepI aj [] (N := 8) Tryz.func46 rfl rfl rfl rfl ?_;refine dI aj aa ?_;refine vM ?_;refine dI aj aa ?_;intro b hb;refine yt (b := b) rfl (fun e => ?_) (fun e => ?_)
 ·subst e;have : h = [] := Ev.1 (by have := hb rfl; omega);subst this;refine dI aj aa ?_;refine jU (r := 5) (t := 2) (sz := 1) rfl rfl ?_;exact Di ⟨trivial, SubO.of (l := [(1000002, .row 1 (aM H)), (5, .row 1 [])]) ⟨rfl, rfl, trivial⟩, r1 rfl, trivial⟩
 ·subst e;refine yu ?_;refine kg aj aa ?_;refine ⟨rfl, by rw [esub, ae]; show (0 + h.length + 768) * 8 ≤ _; omega, by rw [esub, ae]; show 0 + h.length ≤ _; omega, bV, by rw [esub]; exact aZ, ?_⟩;exact ⟨trivial, SubO.of (l := [(1000002, .row 1 (aM H)), (5, .row 1 (aM h))]) ⟨rfl, aB (by rw [esub]; rfl), trivial⟩, r1 (owE (by rw [esub]; show (aM h).length = _; rw [ae])), trivial⟩
abbrev σ3 : List (Nat × Nat) := [(1000000, 1000000), (1000001, 1000001), (1000002, 1000002)]
theorem cz {OX : Objs} {l : List (Nat × Ob)} (hl : OX = bY l) {O : Objs} (h1 : O.get 1000000 = some (xC Lc words 1000001)) (h2 : O.get 1000001 = some (.me false (MOk Lc))) (h3 : bh O l) : SubO (xX Lc words OX) O := by
 subst hl;exact SubO.of (l := (1000000, xC Lc words 1000001) :: (1000001, .me false (MOk Lc)) :: l) ⟨h1, h2, h3⟩
theorem v6 (w : Int) (hw : w < 0 ∨ words ≤ w ∨ w = 1) (H : List Int) :
  CtO P 115 (xX Lc words (hO H)) [.c (.ad 1000000 0), .c (.ow 1000002 1 H.length), .c (eI .i64 w)] (xX Lc words (hO H)) [qP (0, 1)] := by
 refine Ct.io aj aa (N := 101) Tryz.func115 rfl rfl rfl rfl ?_;refine ah (fun h1 => ?_) (fun h1 => ?_)
 ·refine X1 _ (bG 0 (by omega)) ?_;exact ⟨trivial, cz (l := [(1000002, .row 1 (aM H))]) rfl rfl rfl ⟨rfl, trivial⟩, rc rfl, trivial⟩
 ·refine X2 (.own σx σx) ?_;refine ⟨_, _, gd, ?_⟩;refine ah (fun h2 => ?_) (fun h2 => ?_)
  ·refine X1 _ (bG 0 (by omega)) ?_;exact ⟨trivial, cz (l := [(1000002, .row 1 (aM H))]) rfl rfl rfl ⟨rfl, trivial⟩, rc rfl, trivial⟩
  ·refine aV (fun h3 => ?_) (fun h3 => ?_)
   ·refine X1 _ (bG 0 (by omega)) ?_;exact ⟨trivial, cz (l := [(1000002, .row 1 (aM H))]) rfl rfl rfl ⟨rfl, trivial⟩, rc rfl, trivial⟩
   ·exfalso; omega
theorem nU (hx : XOk Lc words) (h : List Int) (hh : h.length < Lc.length) : CtO P 159 (xE Lc words) [.c (.ad 1000000 0), .c (iSl h)] (xE Lc words) [.c (lh Lc h)] := .ex fun ks vs hm => tT hx hm h hh
set_option maxHeartbeats 16000000 in
theorem v7 (hx : XOk Lc words) {H : List Int} {w : Int} (hl : H.length ≤ 1000000) (hl1 : 1 ≤ H.length) (hw : ¬ (w < 0 ∨ words ≤ w ∨ w = 1)) (h2L : 2 ≤ Lc.length) :
  CtO P 115 (xX Lc words (hO H)) [.c (.ad 1000000 0), .c (.ow 1000002 1 H.length), .c (eI .i64 w)] (xX Lc words (hO H)) [qP (pF Lc words w (fS Lc H))] := by
 have h8 := hx.len8;have h0 := hx.len0;have w3 := hx.w3;have w6 := hx.w6;refine Ct.keepI (Ty.own_ok [46, 1000001] aj) [] (N := 101) Tryz.func115 rfl rfl rfl rfl ?_;refine DO (t := 1) rfl (by omega) ?_;refine kg (Ty.own_ok [46, 1000001] aj) aa ?_;refine ah (fun h1 => ?_) (fun h1 => ?_)
 ·exfalso; omega
 refine X2 (.own σx σx) ?_;refine ⟨_, _, gd, ?_⟩;refine ah (fun h2 => ?_) (fun h2 => ?_)
 ·exfalso; omega
 refine aV (fun h3 => ?_) (fun h3 => ?_)
 ·exfalso; omega
 refine .intro (by omega) ?_;refine X2 (.own σx σx) ?_;refine ⟨_, _, iO hx, ?_⟩;have hclt := qr hx H;refine ah (fun hc => ?_) (fun hc => ?_);have e : fS Lc H = H.drop (H.length - Lc.length + 1) := if_pos (by omega);refine .intro (by omega) ?_;refine X2 (.own σx σx) ?_;refine ⟨_, _, iO hx, ?_⟩;refine X1 ((H.length - Lc.length : Nat) : Int) (wI (by omega) (by omega) (by omega)) ?_;refine X1 ((H.length - Lc.length + 1 : Nat) : Int) (wI (by omega) (by omega) (by omega)) ?_;refine ⟨H.length - Lc.length + 1, H.length, rfl, rfl, D1 _, .inr ⟨by omega, ?_⟩⟩;rw [show 0 + (H.length - Lc.length + 1) = H.length - Lc.length + 1 by omega];have hlo : H.length - Lc.length + 1 < H.length := by omega
 rw [e] at hclt ⊢;generalize H.length - Lc.length + 1 = lo at *
 rotate_left;have e : fS Lc H = H := if_neg (by omega);have hlo : 0 < H.length := by omega
 rw [e] at hclt ⊢;obtain ⟨lo, hz0⟩ : ∃ lo : Nat, lo = 0 := ⟨0, rfl⟩;rw [show H = H.drop lo by rw [hz0]; rfl] at hclt;rw [show pF Lc words w H = pF Lc words w (H.drop lo) by rw [hz0]; rfl];rw [show (PC.os 1000002 1 0 H.length) = PC.os 1000002 1 lo (H.length - lo) by rw [hz0, FY]];replace hlo : lo < H.length := by omega
 all_goals
  have hl2 : (H.drop lo).length = H.length - lo := EJ;obtain ⟨h', hh'⟩ : ∃ h', h' = H.drop lo := ⟨_, rfl⟩;rw [← hh'] at hl2 hclt ⊢;rw [← hl2];refine X1 _ (bG 1 (by omega)) ?_;refine X1 (((words - 1).toNat : Nat) : Int) (wI (by omega) (by omega) (by omega)) ?_;refine X1 _ (kz (p := (1, 1)) (k := 63) (words - 1).toNat (bd1 (n := 1) (by omega)) (by omega) (by omega) (by omega)) ?_;refine .intro rfl ?_;refine au (Ty.own_ok [46, 1000001] aj) aa (fun n : Nat => n ≤ h'.length + 1) (fun n => [(0, .c (.ad 1000000 0)), (1, .c (.os 1000002 1 lo h'.length)), (2, .c (eI .i64 w)), (6, .c (.ad 6 0)), (7, .c (.ad 7 0)), (8, .c (nI .i64 n))])
   (fun n => [(6, .var [.sc (.slice none 0 0), .sc (.slice none 0 0)]), (7, .var (qP (pN Lc words w h' n)).cells), (1000000, xC Lc words 1000001), (1000001, .me false (MOk Lc)), (1000002, .row 1 (aM H))]) (fun n => h'.length + 1 - n)
   0 (by omega) ⟨rfl, rfl, rfl, rfl, rfl, rfl, trivial⟩ ⟨rfl, rfl, rfl, rfl, rfl, trivial⟩ (fun _ : Unit => True) (fun _ => [(6, .c (.ad 6 0)), (7, .c (.ad 7 0))])
   (fun _ => [(6, .var [.sc (.slice none 0 0), .sc (.slice none 0 0)]), (7, .var (qP (pF Lc words w h')).cells), (1000000, xC Lc words 1000001), (1000001, .me false (MOk Lc)), (1000002, .row 1 (aM H))]) (fun n hn => ?_) (fun _ _ => ?_)
  ·refine .intro (by omega) ?_;refine ah (fun h5 => ?_) (fun h5 => ?_)
   ·have hn' : n ≤ h'.length := by omega
    have hstep := uR (Lc := Lc) (words := words) (w := w) hn';have hpb := BQ hx w h' (n := n) (by omega);have hnl : (h'.drop (h'.length - n)).length = n := by rw [EJ]; omega
    refine .intro (by omega) ?_;refine X1 ((h'.length - n : Nat) : Int) (wI (by omega) (by omega) (by omega)) ?_;rcases FI n with hz | hp
    ·have hnn : h'.drop (h'.length - n) = [] := Ev.1 (by omega);rw [hnn] at hstep hnl;refine ⟨h'.length - n, h'.length, rfl, rfl, D1 _, .inl ⟨by omega, ?_⟩⟩;rw [show (PC.sl 1 []) = iSl [] from rfl];generalize ([] : List Int) = near at *
     refine X2 (.own σx σx) ?_;refine ⟨_, _, nU hx near (by omega), ?_⟩;have hnlt : near.length < Lc.length := by omega
     have hlv : lvl Lc near = Lc[near.length] := gD hnlt;have htl := mD hx near;refine aV (fun h6 => ?_) (fun h6 => ?_)
     ·have h7 : totN (after (lvl Lc near) near) = 0 := by
       have : ((totN (after (lvl Lc near) near) : Nat) : Int) = 0 := h6;omega
      unfold eQ at hstep;rw [if_pos h7] at hstep;refine X1 ((n + 1 : Nat) : Int) (wI (by simp) (by omega) (by omega)) ?_;refine ⟨n + 1, by omega, by omega, ⟨rfl, rfl, rfl, rfl, rfl, rfl, trivial⟩, ⟨rfl, by rw [← hstep]; rfl, rfl, rfl, rfl, trivial⟩⟩
     ·have h7 : totN (after (lvl Lc near) near) ≠ 0 := fun h => h6 (congrArg Nat.cast h)
      unfold eQ at hstep;rw [if_neg h7] at hstep;have hnb := ky hx (near ++ [w]);have hnl2 : (near ++ [w]).length = n + 1 := by simp [hnl]
      refine X2 (.own [] [(5, 68)]) ?_;refine ⟨_, _, li near (by omega), ?_⟩;refine ⟨by rw [ae], by rw [ae, hnl]; show (n + 1 + 768) * 8 ≤ _; omega, by rw [ae, hnl]; show n + 1 ≤ _; omega, aZ, ar rfl, ?_⟩;refine X2 (.own [(1000000, 1000000), (1000001, 1000001), (68, 1000002)] [(1000000, 1000000), (1000001, 1000001), (1000002, 68)]) ?_;refine ⟨_, _, nT hx (near ++ [w]) _ (by simp [aM]; rfl) _ (by rw [hnl2]; show ((aM near) ++ _).length = _; simp [aM, hnl]) (by omega) (by omega), ?_⟩;have hbd1 : Bd 63 (nz ((cy Lc (near ++ [w])).toNat, 1)) := bd1 (by omega);have hbd2 : Bd 500 (nz (gAt (0, 0) (dJ (aq Lc[near.length] 1) (aq Lc[near.length] 2) (aq Lc[near.length] 3) (aq Lc[near.length] 4) 1) (dJ (aq Lc[near.length] 1) (aq Lc[near.length] 2) (aq Lc[near.length] 3) (aq Lc[near.length] 4) 2) (dJ (aq Lc[near.length] 1) (aq Lc[near.length] 2) (aq Lc[near.length] 3) (aq Lc[near.length] 4) 3) (cy Lc (near ++ [w])))) := by
       rw [lj (hx.lim.at' hnlt)]; exact nS (hx.lim.at' hnlt) _
      have hsub := kv hbd1 hbd2 (by omega) (by omega);have eow : cW ((cy Lc (near ++ [w])).toNat, 1) (atN Lc[near.length] (cy Lc (near ++ [w]))) = owF Lc w near := by unfold owF; rw [hlv]
      rw [lj (hx.lim.at' hnlt), nz1, eow] at hsub;have hgr := gb (ls := Lc) (i := (n : Int)) (n := near.length) (by rw [hnl]) hnlt;refine X1 (((cy Lc (near ++ [w])).toNat : Nat) : Int) (wU (by omega) (by omega) (by omega)) ?_;refine X1 _ (bG _ (by omega)) ?_;refine .intro (by omega) (X1 _ hgr ?_);refine X1 _ (tL _ _ _ _ _) ?_;refine X1 _ hsub ?_;refine .intro rfl ?_;have hob : Bd 600 (nz (owF Lc w near)) := by rw [aw (ee hx w near)]; exact ee hx w near
      have hby := kz (totN (after (lvl Lc near) near)) hob (by omega) h7 (by omega);rw [aw (ee hx w near)] at hby;refine X1 _ hby ?_;have hg := kx hx near;have hmul := ey (p := gc Lc near) (q := pN Lc words w h' n) (by rw [aw hg]; exact hg) (by rw [aw hpb]; exact hpb) (by omega) (by omega);rw [aw hg, aw hpb] at hmul;refine X1 _ hmul ?_;have hb1 := qq hx w near h7;have hb2 := bv hg hpb;have hadd := nN (p := dW (owF Lc w near) (totN (after (lvl Lc near) near), 1)) (q := cG (gc Lc near) (pN Lc words w h' n)) (by rw [aw hb1]; exact hb1) (by rw [aw hb2]; exact hb2) (by rw [aw hb1]; exact jt (Es (ee hx w near).pos h7)) (by omega) (by omega);rw [aw hb1, aw hb2] at hadd;refine X1 _ hadd ?_;refine .intro rfl ?_;refine X1 ((n + 1 : Nat) : Int) (wI (by simp) (by omega) (by omega)) ?_;refine ⟨n + 1, by omega, by omega, ⟨rfl, rfl, rfl, rfl, rfl, rfl, trivial⟩, ⟨rfl, by rw [← hstep]; rfl, rfl, rfl, rfl, trivial⟩⟩
    ·have hnear : h'.drop (h'.length - n) = (H.drop (lo + (h'.length - n))).take (h'.length - (h'.length - n)) := by
      have e1 : h'.drop (h'.length - n) = H.drop (lo + (h'.length - n)) := by
       conv => lhs; rw [hh', FL]
       rw [← hh']
      rw [e1, EG (by rw [EJ]; omega)]
     refine ⟨h'.length - n, h'.length, rfl, rfl, D1 _, .inr ⟨by omega, ?_⟩⟩;rw [show h'.length - (h'.length - n) = n by omega] at hnear ⊢;generalize h'.drop (h'.length - n) = near at *
     refine X2 (.own σ3 σ3) ?_;refine ⟨_, _, sf hx H near (lo + (h'.length - n)) n hnear hl (by omega) (by omega), ?_⟩;have hnlt : near.length < Lc.length := by omega
     have hlv : lvl Lc near = Lc[near.length] := gD hnlt;have htl := mD hx near;refine aV (fun h6 => ?_) (fun h6 => ?_)
     ·have h7 : totN (after (lvl Lc near) near) = 0 := by
       have : ((totN (after (lvl Lc near) near) : Nat) : Int) = 0 := h6;omega
      unfold eQ at hstep;rw [if_pos h7] at hstep;refine X1 ((n + 1 : Nat) : Int) (wI (by simp) (by omega) (by omega)) ?_;refine ⟨n + 1, by omega, by omega, ⟨rfl, rfl, rfl, rfl, rfl, rfl, trivial⟩, ⟨rfl, by rw [← hstep]; rfl, rfl, rfl, rfl, trivial⟩⟩
     ·have h7 : totN (after (lvl Lc near) near) ≠ 0 := fun h => h6 (congrArg Nat.cast h)
      unfold eQ at hstep;rw [if_neg h7] at hstep;have hnb := ky hx (near ++ [w]);have hnl2 : (near ++ [w]).length = n + 1 := by simp [hnl]
      refine X2 (.own [(1000002, 1000002)] [(1000002, 1000002), (5, 68)]) ?_;refine ⟨_, _, v5 H near _ n hnear hl (by omega), ?_⟩;refine ⟨by rw [ae], by rw [ae, hnl]; show (n + 1 + 768) * 8 ≤ _; omega, by rw [ae, hnl]; show n + 1 ≤ _; omega, aZ, ar rfl, ?_⟩;refine X2 (.own [(1000000, 1000000), (1000001, 1000001), (68, 1000002)] [(1000000, 1000000), (1000001, 1000001), (1000002, 68)]) ?_;refine ⟨_, _, nT hx (near ++ [w]) _ (by simp [aM]; rfl) _ (by rw [hnl2]; show ((aM near) ++ _).length = _; simp [aM, hnl]) (by omega) (by omega), ?_⟩;have hbd1 : Bd 63 (nz ((cy Lc (near ++ [w])).toNat, 1)) := bd1 (by omega);have hbd2 : Bd 500 (nz (gAt (0, 0) (dJ (aq Lc[near.length] 1) (aq Lc[near.length] 2) (aq Lc[near.length] 3) (aq Lc[near.length] 4) 1) (dJ (aq Lc[near.length] 1) (aq Lc[near.length] 2) (aq Lc[near.length] 3) (aq Lc[near.length] 4) 2) (dJ (aq Lc[near.length] 1) (aq Lc[near.length] 2) (aq Lc[near.length] 3) (aq Lc[near.length] 4) 3) (cy Lc (near ++ [w])))) := by
       rw [lj (hx.lim.at' hnlt)]; exact nS (hx.lim.at' hnlt) _
      have hsub := kv hbd1 hbd2 (by omega) (by omega);have eow : cW ((cy Lc (near ++ [w])).toNat, 1) (atN Lc[near.length] (cy Lc (near ++ [w]))) = owF Lc w near := by unfold owF; rw [hlv]
      rw [lj (hx.lim.at' hnlt), nz1, eow] at hsub;have hgr := gb (ls := Lc) (i := (n : Int)) (n := near.length) (by rw [hnl]) hnlt;refine X1 (((cy Lc (near ++ [w])).toNat : Nat) : Int) (wU (by omega) (by omega) (by omega)) ?_;refine X1 _ (bG _ (by omega)) ?_;refine .intro (by omega) (X1 _ hgr ?_);refine X1 _ (tL _ _ _ _ _) ?_;refine X1 _ hsub ?_;refine .intro rfl ?_;have hob : Bd 600 (nz (owF Lc w near)) := by rw [aw (ee hx w near)]; exact ee hx w near
      have hby := kz (totN (after (lvl Lc near) near)) hob (by omega) h7 (by omega);rw [aw (ee hx w near)] at hby;refine X1 _ hby ?_;have hg := kx hx near;have hmul := ey (p := gc Lc near) (q := pN Lc words w h' n) (by rw [aw hg]; exact hg) (by rw [aw hpb]; exact hpb) (by omega) (by omega);rw [aw hg, aw hpb] at hmul;refine X1 _ hmul ?_;have hb1 := qq hx w near h7;have hb2 := bv hg hpb;have hadd := nN (p := dW (owF Lc w near) (totN (after (lvl Lc near) near), 1)) (q := cG (gc Lc near) (pN Lc words w h' n)) (by rw [aw hb1]; exact hb1) (by rw [aw hb2]; exact hb2) (by rw [aw hb1]; exact jt (Es (ee hx w near).pos h7)) (by omega) (by omega);rw [aw hb1, aw hb2] at hadd;refine X1 _ hadd ?_;refine .intro rfl ?_;refine X1 ((n + 1 : Nat) : Int) (wI (by simp) (by omega) (by omega)) ?_;refine ⟨n + 1, by omega, by omega, ⟨rfl, rfl, rfl, rfl, rfl, rfl, trivial⟩, ⟨rfl, by rw [← hstep]; rfl, rfl, rfl, rfl, trivial⟩⟩
   ·have en : n = h'.length + 1 := by omega
    subst en;have e2 : pN Lc words w h' (h'.length + 1) = pF Lc words w h' := by simp [pN]
    exact ⟨(), trivial, ⟨rfl, rfl, trivial⟩, ⟨rfl, by rw [e2]; rfl, rfl, rfl, rfl, trivial⟩⟩
  ·exact ⟨trivial, cz (l := [(1000002, .row 1 (aM H))]) rfl rfl rfl ⟨rfl, trivial⟩, rc rfl, trivial⟩
set_option maxHeartbeats 8000000 in
theorem v8 (hx : XOk Lc words) {H : List Int} {w : Int} (hl : H.length ≤ 1000000) (hl1 : 1 ≤ H.length) (hw : ¬ (w < 0 ∨ words ≤ w ∨ w = 1)) (h1L : Lc.length = 1) :
  CtO P 115 (xX Lc words (hO H)) [.c (.ad 1000000 0), .c (.ow 1000002 1 H.length), .c (eI .i64 w)] (xX Lc words (hO H)) [qP (pF Lc words w (fS Lc H))] := by
 have h8 := hx.len8;have h0 := hx.len0;have w3 := hx.w3;have w6 := hx.w6;refine Ct.io (Ty.own_ok [46, 1000001] aj) aa (N := 101) Tryz.func115 rfl rfl rfl rfl ?_;refine ah (fun h1 => ?_) (fun h1 => ?_)
 ·exfalso; omega
 refine X2 (.own σx σx) ?_;refine ⟨_, _, gd, ?_⟩;refine ah (fun h2 => ?_) (fun h2 => ?_)
 ·exfalso; omega
 refine aV (fun h3 => ?_) (fun h3 => ?_)
 ·exfalso; omega
 refine .intro (by omega) ?_;refine X2 (.own σx σx) ?_;refine ⟨_, _, iO hx, ?_⟩;refine ah (fun hc => ?_) (fun hc => ?_);rotate_left
 ·exfalso; omega
 refine .intro (by omega) ?_;refine X2 (.own σx σx) ?_;refine ⟨_, _, iO hx, ?_⟩;refine X1 ((H.length - 1 : Nat) : Int) (wI (by omega) (by omega) (by omega)) ?_;refine X1 ((H.length : Nat) : Int) (wI (by omega) (by omega) (by omega)) ?_;refine .inl ⟨H.length, H.length, rfl, rfl, D1 _, by omega, .inl ⟨rfl, ?_⟩⟩;have e : fS Lc H = [] := by
  unfold fS;rw [if_pos (by omega)];exact Ev.1 (by rw [EJ]; omega)
 rw [e, show (PC.sl 1 []) = iSl [] from rfl];obtain ⟨h', hh'⟩ : ∃ h' : List Int, h' = [] := ⟨_, rfl⟩;rw [← hh'];have hl' : h'.length ≤ 1000000 := by rw [hh']; decide
 have hclt : h'.length < Lc.length := by rw [hh']; show 0 < _; omega
 refine X1 _ (bG 1 (by omega)) ?_;refine X1 (((words - 1).toNat : Nat) : Int) (wI (by omega) (by omega) (by omega)) ?_;refine X1 _ (kz (p := (1, 1)) (k := 63) (words - 1).toNat (bd1 (n := 1) (by omega)) (by omega) (by omega) (by omega)) ?_;refine .intro rfl ?_;refine au (Ty.own_ok [46, 1000001] aj) aa (fun n : Nat => n ≤ h'.length + 1) (fun n => [(0, .c (.ad 1000000 0)), (1, .c (iSl h')), (2, .c (eI .i64 w)), (6, .c (.ad 6 0)), (7, .c (.ad 7 0)), (8, .c (nI .i64 n))])
  (fun n => [(6, .var [.sc (.slice none 0 0), .sc (.slice none 0 0)]), (7, .var (qP (pN Lc words w h' n)).cells), (1000000, xC Lc words 1000001), (1000001, .me false (MOk Lc)), (1000002, .row 1 (aM H))]) (fun n => h'.length + 1 - n)
  0 (by omega) ⟨rfl, rfl, rfl, rfl, rfl, rfl, trivial⟩ ⟨rfl, rfl, rfl, rfl, rfl, trivial⟩ (fun _ : Unit => True) (fun _ => [(6, .c (.ad 6 0)), (7, .c (.ad 7 0))])
  (fun _ => [(6, .var [.sc (.slice none 0 0), .sc (.slice none 0 0)]), (7, .var (qP (pF Lc words w h')).cells), (1000000, xC Lc words 1000001), (1000001, .me false (MOk Lc)), (1000002, .row 1 (aM H))]) (fun n hn => ?_) (fun _ _ => ?_)
 ·refine .intro (by rw [ae]; omega) ?_;rw [ae];refine ah (fun h5 => ?_) (fun h5 => ?_)
  ·have hn' : n ≤ h'.length := by omega
   have hstep := uR (Lc := Lc) (words := words) (w := w) hn';have hpb := BQ hx w h' (n := n) (by omega);have hnl : (h'.drop (h'.length - n)).length = n := by rw [EJ]; omega
   refine .intro (by rw [ae]; omega) ?_;rw [ae];refine X1 ((h'.length - n : Nat) : Int) (wI (by omega) (by omega) (by omega)) ?_;refine ⟨h'.length - n, h'.length, rfl, by show ((aM h').length : Int) = _; rw [ae], by omega, by rw [ae]; exact D1 _, ?_⟩;rw [iRow_sub, EG (by rw [hnl]; omega)];generalize h'.drop (h'.length - n) = near at *
   refine X2 (.own σx σx) ?_;refine ⟨_, _, nU hx near (by omega), ?_⟩;have hnlt : near.length < Lc.length := by omega
   have hlv : lvl Lc near = Lc[near.length] := gD hnlt;have htl := mD hx near;refine aV (fun h6 => ?_) (fun h6 => ?_)
   ·have h7 : totN (after (lvl Lc near) near) = 0 := by
     have : ((totN (after (lvl Lc near) near) : Nat) : Int) = 0 := h6;omega
    unfold eQ at hstep;rw [if_pos h7] at hstep;refine X1 ((n + 1 : Nat) : Int) (wI (by simp) (by omega) (by omega)) ?_;refine ⟨n + 1, by omega, by omega, ⟨rfl, rfl, rfl, rfl, rfl, rfl, trivial⟩, ⟨rfl, by rw [← hstep]; rfl, rfl, rfl, rfl, trivial⟩⟩
   ·have h7 : totN (after (lvl Lc near) near) ≠ 0 := fun h => h6 (congrArg Nat.cast h)
    unfold eQ at hstep;rw [if_neg h7] at hstep;have hnb := ky hx (near ++ [w]);have hnl2 : (near ++ [w]).length = n + 1 := by simp [hnl]
    refine X2 (.own [] [(5, 68)]) ?_;refine ⟨_, _, li near (by omega), ?_⟩;refine ⟨by rw [ae], by rw [ae, hnl]; show (n + 1 + 768) * 8 ≤ _; omega, by rw [ae, hnl]; show n + 1 ≤ _; omega, aZ, ar rfl, ?_⟩;refine X2 (.own [(1000000, 1000000), (1000001, 1000001), (68, 1000002)] [(1000000, 1000000), (1000001, 1000001), (1000002, 68)]) ?_;refine ⟨_, _, nT hx (near ++ [w]) _ (by simp [aM]; rfl) _ (by rw [hnl2]; show ((aM near) ++ _).length = _; simp [aM, hnl]) (by omega) (by omega), ?_⟩;have hbd1 : Bd 63 (nz ((cy Lc (near ++ [w])).toNat, 1)) := bd1 (by omega);have hbd2 : Bd 500 (nz (gAt (0, 0) (dJ (aq Lc[near.length] 1) (aq Lc[near.length] 2) (aq Lc[near.length] 3) (aq Lc[near.length] 4) 1) (dJ (aq Lc[near.length] 1) (aq Lc[near.length] 2) (aq Lc[near.length] 3) (aq Lc[near.length] 4) 2) (dJ (aq Lc[near.length] 1) (aq Lc[near.length] 2) (aq Lc[near.length] 3) (aq Lc[near.length] 4) 3) (cy Lc (near ++ [w])))) := by
     rw [lj (hx.lim.at' hnlt)]; exact nS (hx.lim.at' hnlt) _
    have hsub := kv hbd1 hbd2 (by omega) (by omega);have eow : cW ((cy Lc (near ++ [w])).toNat, 1) (atN Lc[near.length] (cy Lc (near ++ [w]))) = owF Lc w near := by unfold owF; rw [hlv]
    rw [lj (hx.lim.at' hnlt), nz1, eow] at hsub;have hgr := gb (ls := Lc) (i := (n : Int)) (n := near.length) (by rw [hnl]) hnlt;refine X1 (((cy Lc (near ++ [w])).toNat : Nat) : Int) (wU (by omega) (by omega) (by omega)) ?_;refine X1 _ (bG _ (by omega)) ?_;refine .intro (by omega) (X1 _ hgr ?_);refine X1 _ (tL _ _ _ _ _) ?_;refine X1 _ hsub ?_;refine .intro rfl ?_;have hob : Bd 600 (nz (owF Lc w near)) := by rw [aw (ee hx w near)]; exact ee hx w near
    have hby := kz (totN (after (lvl Lc near) near)) hob (by omega) h7 (by omega);rw [aw (ee hx w near)] at hby;refine X1 _ hby ?_;have hg := kx hx near;have hmul := ey (p := gc Lc near) (q := pN Lc words w h' n) (by rw [aw hg]; exact hg) (by rw [aw hpb]; exact hpb) (by omega) (by omega);rw [aw hg, aw hpb] at hmul;refine X1 _ hmul ?_;have hb1 := qq hx w near h7;have hb2 := bv hg hpb;have hadd := nN (p := dW (owF Lc w near) (totN (after (lvl Lc near) near), 1)) (q := cG (gc Lc near) (pN Lc words w h' n)) (by rw [aw hb1]; exact hb1) (by rw [aw hb2]; exact hb2) (by rw [aw hb1]; exact jt (Es (ee hx w near).pos h7)) (by omega) (by omega);rw [aw hb1, aw hb2] at hadd;refine X1 _ hadd ?_;refine .intro rfl ?_;refine X1 ((n + 1 : Nat) : Int) (wI (by simp) (by omega) (by omega)) ?_;refine ⟨n + 1, by omega, by omega, ⟨rfl, rfl, rfl, rfl, rfl, rfl, trivial⟩, ⟨rfl, by rw [← hstep]; rfl, rfl, rfl, rfl, trivial⟩⟩
  ·have en : n = h'.length + 1 := by omega
   subst en;have e2 : pN Lc words w h' (h'.length + 1) = pF Lc words w h' := by simp [pN]
   exact ⟨(), trivial, ⟨rfl, rfl, trivial⟩, ⟨rfl, by rw [e2]; rfl, rfl, rfl, rfl, trivial⟩⟩
 ·exact ⟨trivial, cz (l := [(1000002, .row 1 (aM H))]) rfl rfl rfl ⟨rfl, trivial⟩, rc rfl, trivial⟩
theorem v9 (hx : XOk Lc words) (H : List Int) (hl : H.length ≤ 1000000) (hl1 : 1 ≤ H.length) (w : Int) :
  CtO P 115 (xX Lc words (hO H)) [.c (.ad 1000000 0), .c (.ow 1000002 1 H.length), .c (eI .i64 w)] (xX Lc words (hO H)) [qP (bj Lc words H w)] := by
 have h0 := hx.len0;unfold bj;by_cases hw : w < 0 ∨ words ≤ w ∨ w = 1
 ·rw [if_pos hw]; exact v6 w hw H
 ·rw [if_neg hw];by_cases h1 : Lc.length = 1
  ·exact v8 hx hl hl1 hw h1
  ·exact v7 hx hl hl1 hw (by omega)
end
end
section
def lm (n : Int) : Bool := n == 9 || n == 11 || n == 12 || n == 13 || n == 32
theorem blE {a b : Bool} (h : a = b) : (some (.c (.sc (.bool a))) : Option AV) = some (.c (.sc (.bool b))) := by rw [h]
theorem sg (n : Int) : Ct P 175 [.c (eI .u8 n)] [.c (.sc (.bool (lm n)))] := by
 refine Ct.go aj aa (N := 21) Tryz.func175 rfl rfl rfl rfl ?_;refine aV (fun h1 => ?_) (fun h1 => ?_)
 ·exact ⟨trivial, r1 (blE (by subst h1; rfl)), trivial⟩
 ·refine aV (fun h2 => ?_) (fun h2 => ?_)
  ·exact ⟨trivial, r1 (blE (by subst h2; rfl)), trivial⟩
  ·refine aV (fun h3 => ?_) (fun h3 => ?_)
   ·exact ⟨trivial, r1 (blE (by subst h3; rfl)), trivial⟩
   ·refine aV (fun h4 => ?_) (fun h4 => ?_)
    ·exact ⟨trivial, r1 (blE (by subst h4; rfl)), trivial⟩
    ·exact ⟨trivial, r1 (blE (show (n == 32) = lm n by simp [lm, h1, h2, h3, h4])), trivial⟩
abbrev sS (s : ByteArray) : PC := .sc (.string s)
def kA (s : ByteArray) : Bool := (s.toList == (ByteArray.mk #[60, 115, 62]).toList) || (s.toList == (ByteArray.mk #[60, 47, 115, 62]).toList)
theorem A3 (s : ByteArray) : Ct P 176 [.c (sS s)] [.c (.sc (.bool (kA s)))] := by
 refine Ct.go aj aa (N := 9) Tryz.func176 rfl rfl rfl rfl ?_;refine aN (fun h1 => ?_) (fun h1 => ?_)
 ·exact ⟨trivial, r1 (blE (show true = kA s by unfold kA; rw [show (s.toList == (ByteArray.mk #[60, 115, 62]).toList) = true from h1]; rfl)), trivial⟩
 ·exact ⟨trivial, r1 (blE (show (s.toList == (ByteArray.mk #[60, 47, 115, 62]).toList) = kA s by unfold kA; rw [show (s.toList == (ByteArray.mk #[60, 115, 62]).toList) = false from h1]; rfl)), trivial⟩
def gF (l : List ByteArray) : List (List PC) := l.map fun x => [sS x]
abbrev sSl (l : List ByteArray) : PC := .sl 1 (gF l)
theorem aK {l : List ByteArray} : (gF l).length = l.length := by simp [gF]
theorem iP {l : List ByteArray} {i : Int} {n : Nat} (h0 : i = n) (h : n < l.length) : (gF l)[i.toNat]? = some [sS l[n]] := by
 subst h0;simp [gF, h]
def bX (s : ByteArray) : List ByteArray → Int
 | [] => -1
 | y :: l => if (y.toList == s.toList) = true then 0 else if bX s l < 0 then -1 else bX s l + 1
theorem lX (s : ByteArray) : ∀ (l : List ByteArray) (i : Nat) (h : i < l.length), (∀ (j : Nat) (hj : j < i), (l[j].toList == s.toList) = false) → (l[i].toList == s.toList) = true → bX s l = i
 | [], i, h, _, _ => by simp at h
 | y :: l, 0, _, _, h => by simp at h; simp [bX, h]
 | y :: l, i + 1, hi, h1, h => by
  have h0 := h1 0 (by omega);have := lX s l i (by simpa using hi) (fun j hj => by simpa using h1 (j + 1) (by omega)) (by simpa using h);simp only [Gs] at h0;simp only [bX, this, h0];rw [if_neg (by simp), if_neg (by omega)];simp
theorem lY (s : ByteArray) : ∀ (l : List ByteArray), (∀ (j : Nat) (hj : j < l.length), (l[j].toList == s.toList) = false) → bX s l = -1
 | [], _ => rfl
 | y :: l, h => by
  have h0 := h 0 (by simp);have := lY s l (fun j hj => h (j + 1) (Nat.succ_lt_succ hj));simp only [Gs] at h0;simp only [bX, this, h0];rw [if_neg (by simp), if_pos (by omega)]
theorem ln (l : List ByteArray) (s : ByteArray) (hl : l.length ≤ 1000000) : Ct P 137 [.c (sSl l), .c (sS s)] [.c (eI .i64 (bX s l))] := by
 refine Ct.go aj aa (N := 19) Tryz.func137 rfl rfl rfl rfl ?_;refine au aj aa (fun i : Nat => i ≤ l.length ∧ ∀ (j : Nat) (hj : j < l.length), j < i → (l[j].toList == s.toList) = false) (fun i => [(0, .c (sSl l)), (1, .c (sS s)), (5, .c (nI .i64 i))]) (fun _ => []) (fun i => l.length - i)
  0 ⟨by omega, fun j _ hj => by omega⟩ ⟨rfl, rfl, rfl, trivial⟩ trivial (fun _ : Unit => bX s l = -1) (fun _ => []) (fun _ => []) (fun i hi => ?_) (fun _ he => ?_)
 ·obtain ⟨h1, h2⟩ := hi;refine .intro (by rw [aK]; omega) ?_;rw [aK];refine ah (fun h5 => ?_) (fun h5 => ?_)
  ·refine .intro (by omega) (X1 _ (iP rfl (by omega)) ?_);refine aN (fun h6 => ?_) (fun h6 => ?_)
   ·exact ⟨trivial, r1 (iE (lX s l i (by omega) (fun j hj => h2 j (by omega) hj) h6).symm), trivial⟩
   ·refine X1 ((i + 1 : Nat) : Int) (wI1 (by omega)) ?_;refine ⟨i + 1, ⟨by omega, fun j hj hji => ?_⟩, by omega, ⟨rfl, rfl, rfl, trivial⟩, trivial⟩;by_cases e : j = i
    ·subst e; exact h6
    ·exact h2 j hj (by omega)
  ·exact ⟨(), lY s l (fun j hj => h2 j hj (by omega)), trivial, trivial⟩
 ·exact ⟨trivial, r1 (iE he.symm), trivial⟩
theorem wa (s : ByteArray) (l : List ByteArray) : -1 ≤ bX s l ∧ bX s l < l.length := by
 induction l with
 | nil => simp [bX]
 | cons y l ih =>
  simp only [bX, EA];split
  ·omega
  ·split <;> omega
theorem A4 (l : List ByteArray) (s : ByteArray) (hl : l.length ≤ 1000000) : Ct P 179 [.c (sSl l), .c (sS s)] [.c (eI .i64 (if 0 > bX s l then 0 else bX s l))] := by
 refine Ct.go aj aa (N := 9) Tryz.func179 rfl rfl rfl rfl ?_;refine X1 _ (ln l s hl) ?_;exact ⟨trivial, r1 rfl, trivial⟩
def gL (l : List ByteArray) (s : ByteArray) : Int := if 0 > bX s l then 0 else bX s l
theorem DW {l : List Int} {x : Int} : aM l ++ [[eI .i64 x]] = aM (l ++ [x]) := by simp [aM]
theorem zg (l m : List ByteArray) (hl : l.length ≤ 1000000) (hm : m.length ≤ 1000000) : Ct P 140 [.c (sSl l), .c (sSl m)] [.c (iSl (m.map (gL l)))] := by
 refine Ct.go aj aa (N := 23) Tryz.func140 rfl rfl rfl rfl ?_;refine jU (r := 50) (t := 5) (sz := 1) rfl rfl ?_;refine au aj aa (fun i : Nat => i ≤ m.length) (fun i => [(0, .c (sSl l)), (1, .c (sSl m)), (5, .c (.ow 50 1 i)), (6, .c (nI .i64 i))]) (fun i => [(50, .row 1 (aM ((m.take i).map (gL l))))]) (fun i => m.length - i)
  0 (by omega) ⟨rfl, rfl, rfl, rfl, trivial⟩ ⟨rfl, trivial⟩ (fun _ : Unit => True) (fun _ => [(5, .c (.ow 50 1 m.length))]) (fun _ => [(50, .row 1 (aM (m.map (gL l))))]) (fun i hi => ?_) (fun _ he => ?_)
 ·refine .intro (by rw [aK]; omega) ?_;rw [aK];refine ah (fun h5 => ?_) (fun h5 => ?_)
  ·refine .intro (by omega) (X1 _ (iP rfl (by omega)) ?_);refine X1 _ (A4 l m[i] hl) ?_;have e0 : (aM ((m.take i).map (gL l))).length = i := by simp [aM]; omega
   refine ⟨e0.symm, by rw [e0]; show (i + 1 + 768) * 8 ≤ _; omega, by rw [e0]; show i + 1 ≤ _; omega, aZ, k7, ?_⟩;refine X1 ((i + 1 : Nat) : Int) (wI1 (by omega)) ?_;have e1 : (m.take (i + 1)).map (gL l) = (m.take i).map (gL l) ++ [gL l m[i]] := by
    rw [D5 (by omega), Fb]; rfl
   exact ⟨i + 1, by omega, by omega, ⟨rfl, rfl, owE (by rw [D3, e0]; rfl), rfl, trivial⟩, ⟨aB (by rw [e1, ← DW]; rfl), trivial⟩⟩
  ·have e : i = m.length := by omega
   subst e;exact ⟨(), trivial, ⟨rfl, trivial⟩, ⟨aB (by rw [EE]), trivial⟩⟩
 ·exact ⟨trivial, r1 rfl, trivial⟩
def marks15 : List ByteArray := [⟨#[60, 117, 110, 107, 62]⟩, ⟨#[60, 115, 62]⟩, ⟨#[60, 47, 115, 62]⟩]
theorem tW : Ct P 87 [] [.c (sSl marks15)] := by
 refine Ct.go aj aa (N := 2) Tryz.func87 rfl rfl rfl rfl ?_;exact ⟨trivial, r1 rfl, trivial⟩
theorem dQ {l : List ByteArray} : ax (gF l) := by
 intro el h;obtain ⟨x, _, rfl⟩ := Ez.1 h;rfl
theorem kB (l : List ByteArray) (x : ByteArray) : gF (l ++ [x]) = gF l ++ [[sS x]] := by simp [gF]
def lnS (s : ByteArray) : Nat → List ByteArray × Nat
 | 0 => ([], 0)
 | i + 1 => if s.data[i]? = some 10 then ((lnS s i).1 ++ [s.extract (lnS s i).2 i], i + 1) else lnS s i
theorem lp (s : ByteArray) : ∀ i, (lnS s i).2 ≤ i ∧ (lnS s i).1.length ≤ i
 | 0 => ⟨D1 _, D1 _⟩
 | i + 1 => by
  obtain ⟨h1, h2⟩ := lp s i;unfold lnS;split
  ·exact ⟨D1 _, by simp; omega⟩
  ·exact ⟨by omega, by omega⟩
def dC (s : ByteArray) : List ByteArray := (lnS s s.size).1 ++ [s.extract (lnS s s.size).2 s.size]
theorem zh (s : ByteArray) (hs : s.size ≤ 100000) : Ct P 135 [.c (sS s)] [.c (sSl (dC s))] := by
 have e : gF (dC s) = gF (lnS s s.size).1 ++ [[sS (s.extract (lnS s s.size).2 s.size)]] := by unfold dC; rw [kB]
 rw [show sSl (dC s) = .sl 1 (gF (lnS s s.size).1 ++ [[sS (s.extract (lnS s s.size).2 s.size)]]) from congrArg _ e];refine Ct.go aj aa (N := 33) Tryz.func135 rfl rfl rfl rfl ?_;refine jU (r := 34) (t := 3) (sz := 1) rfl rfl ?_;refine au aj aa (fun i : Nat => i ≤ s.size) (fun i => [(0, .c (sS s)), (3, .c (.ow 34 1 (lnS s i).1.length)), (4, .c (nI .i64 (lnS s i).2)), (5, .c (nI .i64 i))]) (fun i => [(34, .row 1 (gF (lnS s i).1))]) (fun i => s.size - i)
  0 (by omega) ⟨rfl, rfl, rfl, rfl, trivial⟩ ⟨rfl, trivial⟩ (fun _ : Unit => True) (fun _ => [(0, .c (sS s)), (3, .c (.ow 34 1 (lnS s s.size).1.length)), (4, .c (nI .i64 (lnS s s.size).2))]) (fun _ => [(34, .row 1 (gF (lnS s s.size).1))]) (fun i hi => ?_) (fun _ _ => ?_)
 ·obtain ⟨a1, a2⟩ := lp s i;refine ah (fun h1 => ?_) (fun h1 => ?_)
  ·have hi' : i < s.size := by omega
   have hb : s.data[(i : Int).toNat]? = some s.data[i] := by simp [hi', show i < s.data.size from hi']
   refine .intro (by omega) (X1 _ hb ?_);refine aV (fun h2 => ?_) (fun h2 => ?_)
   ·have h3 : s.data[i]? = some 10 := by
     rw [FU hi'];congr 1;have : (s.data[i]).toNat = 10 := by omega
     exact UInt8.toNat_inj.1 this
    have hst : lnS s (i + 1) = ((lnS s i).1 ++ [s.extract (lnS s i).2 i], i + 1) := by rw [lnS, if_pos h3]
    refine ⟨(lnS s i).2, i, rfl, rfl, a1, by omega, ?_⟩;refine ⟨by rw [aK], by rw [aK]; show ((lnS s i).1.length + 1 + 768) * 16 ≤ _; omega, by rw [aK]; show (lnS s i).1.length + 1 ≤ _; omega, dQ, ar rfl, ?_⟩;refine X1 ((i + 1 : Nat) : Int) (wI1 (by omega)) ?_;refine X1 ((i + 1 : Nat) : Int) (wI1 (by omega)) ?_;refine ⟨i + 1, by omega, by omega, ⟨rfl, owE (by rw [hst, D3, D3, aK]; rfl), by rw [hst]; rfl, rfl, trivial⟩, ⟨aB (by rw [hst, kB]; rfl), trivial⟩⟩
   ·have h3 : ¬ s.data[i]? = some 10 := fun h => by
     rw [FU hi', Ef] at h;apply h2;rw [h]; rfl
    have hst : lnS s (i + 1) = lnS s i := by rw [lnS, if_neg h3]
    refine X1 ((i + 1 : Nat) : Int) (wI1 (by omega)) ?_;refine ⟨i + 1, by omega, by omega, ⟨rfl, by rw [hst]; rfl, by rw [hst]; rfl, rfl, trivial⟩, ⟨by rw [hst]; rfl, trivial⟩⟩
  ·have e : i = s.size := by omega
   subst e;exact ⟨(), trivial, ⟨rfl, rfl, rfl, trivial⟩, ⟨rfl, trivial⟩⟩
 ·obtain ⟨a1, a2⟩ := lp s s.size;refine ⟨rfl, by rw [aK]; show (0 + (lnS s s.size).1.length + 768) * 16 ≤ _; omega, by rw [aK]; show 0 + (lnS s s.size).1.length ≤ _; omega, bV, dQ, ?_⟩;refine ⟨(lnS s s.size).2, s.size, rfl, rfl, a1, D1 _, ?_⟩;refine ⟨rfl, by rw [D3, aK]; show (0 + (lnS s s.size).1.length + 1 + 768) * 16 ≤ _; omega, by rw [D3, aK]; show 0 + (lnS s s.size).1.length + 1 ≤ _; omega, dQ, ar rfl, ?_⟩;refine .intro rfl ?_;exact ⟨trivial, r1 rfl, trivial⟩
abbrev nbB (b : UInt8) : Bool := !(lm (b.toNat : Int))
def ei (s : ByteArray) (i : Nat) : Nat := ((s.data.toList.drop i).takeWhile nbB).length
theorem uS {α : Type} {p : α → Bool} : ∀ (l : List α), (∀ (j : Nat) x, j < (l.takeWhile p).length → l[j]? = some x → p x = true) ∧ (∀ x, l[(l.takeWhile p).length]? = some x → p x = false) ∧ (l.takeWhile p).length ≤ l.length
 | [] => ⟨fun j x h => by simp at h, fun x h => by simp at h, by simp⟩
 | y :: l => by
  obtain ⟨h1, h2, h3⟩ := uS (p := p) l
  cases hp : p y with
  | true =>
   rw [Gg hp];refine ⟨fun j x hj hx => ?_, fun x hx => ?_, by simp; omega⟩
   ·cases j with
    | zero => simp at hx; subst hx; exact hp
    | succ j => exact h1 j x (by simpa using hj) (by simpa using hx)
   ·exact h2 x (by simpa using hx)
  | false =>
   rw [List.takeWhile_cons_of_neg (by rw [hp]; simp)];exact ⟨fun j x hj => by simp at hj, fun x hx => by simp at hx; subst hx; exact hp, by simp⟩
theorem nW (s : ByteArray) (i : Nat) (hi : i ≤ s.size) : i + ei s i ≤ s.size ∧ (∀ j, j < ei s i → ∀ b, s.data[i + j]? = some b → nbB b = true) ∧ ∀ b, s.data[i + ei s i]? = some b → nbB b = false := by
 obtain ⟨h1, h2, h3⟩ := uS (p := nbB) (s.data.toList.drop i);have e : ∀ j, (s.data.toList.drop i)[j]? = s.data[i + j]? := fun j => by simp [EM]
 refine ⟨?_, fun j hj b hb => h1 j b hj (by rw [e]; exact hb), fun b hb => h2 b (by rw [e]; exact hb)⟩;have : (s.data.toList.drop i).length = s.size - i := by rw [EJ]; rfl
 unfold ei;omega
abbrev Dq : ByteArray := ⟨#[60, 117, 110, 107, 62]⟩
def wdW (s : ByteArray) (i : Nat) : ByteArray := if ei s i > 255 then Dq else s.extract i (i + ei s i)
def wdF (s : ByteArray) : Nat → Nat → List ByteArray → List ByteArray
 | 0, _, out => out
 | f + 1, i, out => match s.data[i]? with
  | none => out
  | some b => if nbB b = false then wdF s f (i + 1) out else wdF s f (i + ei s i) (if kA (wdW s i) = true then out else out ++ [wdW s i])
def dE (s : ByteArray) : List ByteArray := wdF s (s.size + 1) 0 []
theorem uT {s : ByteArray} {i : Nat} (hi : i < s.size) {b : UInt8} (hb : s.data[i]? = some b) (h : nbB b = true) : 1 ≤ ei s i := by
 obtain ⟨_, _, h3⟩ := nW s i (by omega);apply Classical.byContradiction;intro hn;have e : ei s i = 0 := by omega
 rw [e] at h3;have := h3 b (by simpa using hb);rw [h] at this; cases this
def kC (out : List ByteArray) : Prop := ∀ w, w ∈ out → w.size ≤ 255 ∧ kA w = false
theorem CB (s : ByteArray) (i : Nat) : (wdW s i).size ≤ 255 := by
 unfold wdW;split
 ·decide
 ·have : (s.extract i (i + ei s i)).size ≤ ei s i := by rw [FO]; omega
  omega
theorem tX (s : ByteArray) (hs : s.size ≤ 100000) : Ct P 136 [.c (sS s)] [.c (sSl (dE s))] := by
 refine Ct.go aj aa (N := 53) Tryz.func136 rfl rfl rfl rfl ?_;refine jU (r := 60) (t := 3) (sz := 1) rfl rfl ?_;refine au aj aa (G := Nat × List ByteArray × Nat) (fun (i, out, f) => i ≤ s.size ∧ out.length ≤ i ∧ s.size + 1 ≤ i + f ∧ wdF s f i out = dE s) (fun (i, out, _) => [(0, .c (sS s)), (3, .c (.ow 60 1 out.length)), (4, .c (nI .i64 i))]) (fun (_, out, _) => [(60, .row 1 (gF out))]) (fun (i, _, _) => s.size - i)
  (0, [], s.size + 1) ⟨by omega, by simp, by omega, rfl⟩ ⟨rfl, rfl, rfl, trivial⟩ ⟨rfl, trivial⟩ (fun _ : Unit => True) (fun _ => [(3, .c (.ow 60 1 (dE s).length))]) (fun _ => [(60, .row 1 (gF (dE s)))]) (fun (i, out, f) hi => ?_) (fun _ _ => ?_)
 ·obtain ⟨i1, i2, i3, i4⟩ := hi;refine ah (fun h1 => ?_) (fun h1 => ?_)
  ·have hi' : i < s.size := by omega
   obtain ⟨f', rfl⟩ : ∃ f', f = f' + 1 := ⟨f - 1, by omega⟩;have hb : s.data[i]? = some s.data[i] := FU hi';generalize s.data[i] = b at *
   rw [wdF, hb] at i4;simp only at i4;obtain ⟨r1', r2', r3'⟩ := nW s i i1;refine .intro (by omega) (X1 b (by rw [EC]; exact hb) ?_);refine X1 _ (sg _) ?_;refine aN (fun h2 => ?_) (fun h2 => ?_)
   ·have hn : nbB b = false := by show (!(lm (b.toNat : Int))) = false; rw [h2]; rfl
    rw [if_pos hn] at i4;refine X1 ((i + 1 : Nat) : Int) (wI1 (by omega)) ?_;exact ⟨(i + 1, out, f'), ⟨by omega, by omega, by omega, i4⟩, by show s.size - (i + 1) < s.size - i; omega, ⟨rfl, rfl, rfl, trivial⟩, ⟨rfl, trivial⟩⟩
   ·have hn : nbB b = true := by show (!(lm (b.toNat : Int))) = true; rw [h2]; rfl
    rw [if_neg (by rw [hn]; simp)] at i4;have hpos := uT hi' hb hn;refine au aj aa (fun n : Nat => n ≤ ei s i) (fun n => [(0, .c (sS s)), (3, .c (.ow 60 1 out.length)), (4, .c (nI .i64 i)), (5, .c (nI .i64 n))]) (fun _ => [(60, .row 1 (gF out))]) (fun n => ei s i - n)
     0 (by omega) ⟨rfl, rfl, rfl, rfl, trivial⟩ ⟨rfl, trivial⟩ (fun _ : Unit => True) (fun _ => [(0, .c (sS s)), (3, .c (.ow 60 1 out.length)), (4, .c (nI .i64 i)), (5, .c (nI .i64 (ei s i)))]) (fun _ => [(60, .row 1 (gF out))]) (fun n hn' => ?_) (fun _ _ => ?_)
    ·refine X1 ((s.size - i : Nat) : Int) (wI (by omega) (by omega) (by omega)) ?_;refine ah (fun h3 => ?_) (fun h3 => ?_)
     ·have hin : i + n < s.size := by omega
      have hbn : s.data[i + n]? = some s.data[i + n] := FU hin
      generalize s.data[i + n] = c at *
      refine X1 ((i + n : Nat) : Int) (wI (by simp) (by omega) (by omega)) ?_;refine .intro (by omega) (X1 c (by rw [EC]; exact hbn) ?_);refine X1 _ (sg _) ?_;refine aN (fun h4 => ?_) (fun h4 => ?_)
      ·have h5 : nbB c = true := h4;have hlt : n < ei s i := by
        apply Classical.byContradiction;intro hge;have e : n = ei s i := by omega
        subst e;have := r3' c hbn;rw [h5] at this; cases this
       refine X1 ((n + 1 : Nat) : Int) (wI (by simp) (by omega) (by omega)) ?_;exact ⟨n + 1, by omega, by omega, ⟨rfl, rfl, rfl, rfl, trivial⟩, ⟨rfl, trivial⟩⟩
      ·have h5 : nbB c = false := h4;have e : n = ei s i := by
        apply Classical.byContradiction;intro hne;have := r2' n (by omega) c hbn;rw [h5] at this; cases this
       subst e;exact ⟨(), trivial, ⟨rfl, rfl, rfl, rfl, trivial⟩, ⟨rfl, trivial⟩⟩
     ·have e : n = ei s i := by omega
      subst e;exact ⟨(), trivial, ⟨rfl, rfl, rfl, rfl, trivial⟩, ⟨rfl, trivial⟩⟩
    ·refine X1 ((i + ei s i : Nat) : Int) (wI (by simp) (by omega) (by omega)) ?_;refine ⟨i, i + ei s i, rfl, rfl, by omega, r1', ?_⟩;refine ah (fun h6 => ?_) (fun h6 => ?_);have ew : wdW s i = Dq := if_pos (by omega);rw [ew] at i4;rotate_left;have ew : wdW s i = s.extract i (i + ei s i) := if_neg (by omega);rw [ew] at i4
     all_goals
      refine X1 _ (A3 _) ?_;refine aN (fun h7 => ?_) (fun h7 => ?_)
      ·rw [if_neg (by simpa using h7)] at i4;refine ⟨by rw [aK], by rw [aK]; show (out.length + 1 + 768) * 16 ≤ _; omega, by rw [aK]; show out.length + 1 ≤ _; omega, dQ, ar rfl, ?_⟩;refine X1 ((i + ei s i : Nat) : Int) (wI (by simp) (by omega) (by omega)) ?_;refine ⟨(i + ei s i, _, f'), ⟨r1', by rw [D3]; show out.length + 1 ≤ _; omega, by omega, i4⟩, by show s.size - (i + ei s i) < s.size - i; omega, ⟨rfl, owE (by rw [D3, D3, aK]; rfl), rfl, trivial⟩, ⟨aB (by rw [kB]; rfl), trivial⟩⟩
      ·rw [if_pos (by simpa using h7)] at i4;refine X1 ((i + ei s i : Nat) : Int) (wI (by simp) (by omega) (by omega)) ?_;exact ⟨(i + ei s i, out, f'), ⟨r1', by omega, by omega, i4⟩, by show s.size - (i + ei s i) < s.size - i; omega, ⟨rfl, rfl, rfl, trivial⟩, ⟨rfl, trivial⟩⟩
  ·have hnone : s.data[i]? = none := FN (by show s.size ≤ i; omega);obtain ⟨f', rfl⟩ : ∃ f', f = f' + 1 := ⟨f - 1, by omega⟩;rw [wdF, hnone] at i4;simp only at i4;subst i4;exact ⟨(), trivial, ⟨rfl, trivial⟩, ⟨rfl, trivial⟩⟩
 ·exact ⟨trivial, r1 rfl, trivial⟩
theorem tY (s : ByteArray) : ∀ (f i : Nat) (out : List ByteArray), i ≤ s.size → kC out → out.length ≤ i → kC (wdF s f i out) ∧ (wdF s f i out).length ≤ s.size
 | 0, i, out, hi, h, hl => ⟨h, by show out.length ≤ _; omega⟩
 | f + 1, i, out, hi, h, hl => by
  unfold wdF
  cases hb : s.data[i]? with
  | none => exact ⟨h, by show out.length ≤ _; omega⟩
  | some b =>
   have hi' : i < s.size := (Et.1 hb).1;simp only;split
   ·exact tY s f (i + 1) out (by omega) h (by omega)
   ·rename_i hn;have hpos := uT hi' hb (by simpa using hn);have hr := (nW s i hi).1;refine tY s f (i + ei s i) _ hr ?_ ?_
    ·split
     ·exact h
     ·rename_i hm;intro w hw;rcases EF.1 hw with hw | hw
      ·exact h w hw
      ·simp at hw; subst hw;exact ⟨CB s i, by simpa using hm⟩
    ·split
     ·omega
     ·rw [D3]; show out.length + 1 ≤ _; omega
theorem nX (s : ByteArray) : kC (dE s) ∧ (dE s).length ≤ s.size := tY s _ 0 [] (by omega) (fun w h => by simp at h) (by simp)
def im (L : List (List ByteArray)) : List (List PC) := L.map fun l => [sSl l]
abbrev A5 (L : List (List ByteArray)) : PC := .sl 1 (im L)
theorem dR {L : List (List ByteArray)} : (im L).length = L.length := by simp [im]
theorem qs {L : List (List ByteArray)} : ax (im L) := by
 intro el h;obtain ⟨x, _, rfl⟩ := Ez.1 h;rfl
theorem wc (L : List (List ByteArray)) (l : List ByteArray) : im (L ++ [l]) = im L ++ [[sSl l]] := by simp [im]
theorem o9 {L : List (List ByteArray)} {i : Int} {n : Nat} (h0 : i = n) (h : n < L.length) : (im L)[i.toNat]? = some [sSl L[n]] := by
 subst h0;simp [im, h]
def i9 (l : List ByteArray) : List (List ByteArray) := (l.map dE).filter fun w => decide (w.length > 0)
def fH (s : ByteArray) : List (List ByteArray) := i9 (dC s)
theorem wd (l : List ByteArray) (x : ByteArray) : i9 (l ++ [x]) = if (dE x).length > 0 then i9 l ++ [dE x] else i9 l := by
 unfold i9;rw [Fb, Fj];by_cases h : (dE x).length > 0
 ·rw [if_pos h]; simp [GG, h]
 ·rw [if_neg h]; simp [GG, h]
theorem zi {s : ByteArray} : (∀ i, ∀ l, l ∈ (lnS s i).1 → l.size ≤ s.size) := by
 intro i
 induction i with
 | zero => intro l h; simp [lnS] at h
 | succ i ih =>
  intro l h;unfold lnS at h;split at h
  ·rcases EF.1 h with h | h
   ·exact ih l h
   ·simp at h; subst h;rw [FO]; omega
  ·exact ih l h
theorem sh (s : ByteArray) : (dC s).length ≤ s.size + 1 ∧ ∀ l, l ∈ dC s → l.size ≤ s.size := by
 unfold dC;refine ⟨by rw [D3]; have := (lp s s.size).2; show (lnS s s.size).1.length + 1 ≤ _; omega, fun l h => ?_⟩;rcases EF.1 h with h | h
 ·exact zi s.size l h
 ·simp at h; subst h;rw [FO]; omega
theorem si (s : ByteArray) (hs : s.size ≤ 100000) : Ct P 88 [.c (sS s)] [.c (A5 (fH s))] := by
 obtain ⟨b1, b2⟩ := sh s;refine Ct.go aj aa (N := 28) Tryz.func88 rfl rfl rfl rfl ?_;refine X1 _ (zh s hs) ?_;unfold fH;generalize dC s = l at *
 refine jU (r := 34) (t := 3) (sz := 1) rfl rfl ?_;refine au aj aa (fun i : Nat => i ≤ l.length) (fun i => [(4, .c (sSl l)), (3, .c (.ow 34 1 (i9 (l.take i)).length)), (5, .c (nI .i64 i))]) (fun i => [(34, .row 1 (im (i9 (l.take i))))]) (fun i => l.length - i)
  0 (by omega) ⟨rfl, rfl, rfl, trivial⟩ ⟨rfl, trivial⟩ (fun _ : Unit => True) (fun _ => [(3, .c (.ow 34 1 (i9 l).length))]) (fun _ => [(34, .row 1 (im (i9 l)))]) (fun i hi => ?_) (fun _ _ => ?_)
 ·refine .intro (by rw [aK]; omega) ?_;rw [aK];refine ah (fun h1 => ?_) (fun h1 => ?_)
  ·have hi' : i < l.length := by omega
   have hget := iP (l := l) (i := (i : Int)) (n := i) rfl hi';have hs : l.take (i + 1) = l.take i ++ [l[i]] := D5 hi';have hsn := wd (l.take i) l[i];rw [← hs] at hsn;have hb := b2 l[i] (Ec hi');have hwl := (nX l[i]).2;have hal : (i9 (l.take i)).length ≤ i := by
    have := E4 (fun w : List ByteArray => decide (w.length > 0)) ((l.take i).map dE);rw [EP, Ed] at this;unfold i9; omega
   generalize l[i] = x at *
   refine .intro (by omega) (X1 _ hget ?_);refine X1 _ (tX x (by omega)) ?_;refine .intro (by rw [aK]; omega) ?_;rw [aK];refine ah (fun h2 => ?_) (fun h2 => ?_)
   ·rw [if_pos (by omega)] at hsn;refine ⟨by rw [dR], by rw [dR]; show ((i9 (l.take i)).length + 1 + 768) * 24 ≤ _; omega, by rw [dR]; show (i9 (l.take i)).length + 1 ≤ _; omega, qs, ar rfl, ?_⟩;refine X1 ((i + 1 : Nat) : Int) (wI1 (by omega)) ?_;exact ⟨i + 1, by omega, by omega, ⟨rfl, owE (by rw [hsn, D3, D3, dR]; rfl), rfl, trivial⟩, ⟨aB (by rw [hsn, wc]; rfl), trivial⟩⟩
   ·rw [if_neg (by omega)] at hsn;refine X1 ((i + 1 : Nat) : Int) (wI1 (by omega)) ?_;exact ⟨i + 1, by omega, by omega, ⟨rfl, by rw [hsn]; rfl, rfl, trivial⟩, ⟨by rw [hsn]; rfl, trivial⟩⟩
  ·have e : i = l.length := by omega
   subst e;rw [EE];exact ⟨(), trivial, ⟨rfl, trivial⟩, ⟨rfl, trivial⟩⟩
 ·exact ⟨trivial, r1 rfl, trivial⟩
def gJ (l : List ByteArray) (s : ByteArray) : List ByteArray := if bX s l ≥ 0 then l else l ++ [s]
theorem zj (l : List ByteArray) (s : ByteArray) (hl : l.length ≤ 500000) : Ct P 89 [.c (sSl l), .c (sS s)] [.c (sSl (gJ l s))] := by
 unfold gJ;by_cases h0 : bX s l ≥ 0
 ·rw [if_pos h0];refine Ct.go aj aa (N := 16) Tryz.func89 rfl rfl rfl rfl ?_;refine X1 _ (ln l s (by omega)) ?_;refine ah (fun h1 => ?_) (fun h1 => ?_)
  ·exact ⟨trivial, r1 rfl, trivial⟩
  ·exfalso; omega
 ·rw [if_neg h0, show sSl (l ++ [s]) = .sl 1 (gF l ++ [[sS s]]) from congrArg _ (kB l s)];refine Ct.go aj aa (N := 16) Tryz.func89 rfl rfl rfl rfl ?_;refine X1 _ (ln l s (by omega)) ?_;refine ah (fun h1 => ?_) (fun h1 => ?_)
  ·exfalso; omega
  ·refine ⟨rfl, by rw [aK]; show (0 + l.length + 768) * 16 ≤ _; omega, by rw [aK]; show 0 + l.length ≤ _; omega, bV, dQ, ?_⟩;refine ⟨rfl, by rw [D3, aK]; show (0 + l.length + 1 + 768) * 16 ≤ _; omega, by rw [D3, aK]; show 0 + l.length + 1 ≤ _; omega, dQ, ar rfl, ?_⟩;exact ⟨trivial, r1 rfl, trivial⟩
theorem we (l : List ByteArray) (s : ByteArray) : (gJ l s).length ≤ l.length + 1 := by
 unfold gJ; split
 ·omega
 ·simp
def cP (l : List ByteArray) (ws : List ByteArray) : List ByteArray := ws.foldl gJ l
theorem sj (l ws : List ByteArray) (w : ByteArray) : cP l (ws ++ [w]) = gJ (cP l ws) w := by simp [cP, Gh]
theorem gG : ∀ (ws l : List ByteArray), (cP l ws).length ≤ l.length + ws.length
 | [], l => by simp [cP]
 | w :: ws, l => by
  have := gG ws (gJ l w);have h2 := we l w;show (cP (gJ l w) ws).length ≤ _
  rw [EA]; omega
def eG (l : List ByteArray) (L : List (List ByteArray)) : List ByteArray := L.foldl cP l
theorem tZ (l : List ByteArray) (L : List (List ByteArray)) (ws : List ByteArray) : eG l (L ++ [ws]) = cP (eG l L) ws := by simp [eG, Gh]
theorem lq {n : Nat} : ∀ (L : List (List ByteArray)) (l : List ByteArray), (∀ ws, ws ∈ L → ws.length ≤ n) → (eG l L).length ≤ l.length + L.length * n
 | [], l, _ => by simp [eG]
 | ws :: L, l, h => by
  have := lq L (cP l ws) fun x hx => h x (Ep _ hx)
  have h2 := gG ws l;have h3 := h ws (by simp);show (eG (cP l ws) L).length ≤ _
  rw [EA, Eg, EK]; omega
def aH (s : ByteArray) : List ByteArray := eG marks15 (fH s)
theorem kD (s : ByteArray) : (fH s).length ≤ s.size + 1 ∧ ∀ ws, ws ∈ fH s → ws.length ≤ s.size ∧ kC ws := by
 obtain ⟨b1, b2⟩ := sh s;unfold fH i9;refine ⟨?_, fun ws h => ?_⟩
 ·have := E4 (fun w : List ByteArray => decide (w.length > 0)) ((dC s).map dE);rw [EP] at this;omega
 ·obtain ⟨h1, _⟩ := GJ.1 h;obtain ⟨l, hl, rfl⟩ := Ez.1 h1;obtain ⟨w1, w2⟩ := nX l;have := b2 l hl;exact ⟨by omega, w1⟩
theorem t5 (s : ByteArray) (hs : s.size ≤ 500) : Ct P 37 [.c (sS s)] [.c (sSl (aH s))] := by
 obtain ⟨b1, b2⟩ := kD s;have hA := si s (by omega);unfold aH;generalize fH s = L at *
 have hbd : ∀ i, (eG marks15 (L.take i)).length ≤ 251000 := fun i => by
  have h1 := lq (n := 500) (L.take i) marks15 fun ws h => by have := (b2 ws (Fv h)).1; omega
  have h2 : (L.take i).length ≤ 501 := by rw [Ed]; omega
  have h3 : (L.take i).length * 500 ≤ 501 * 500 := D8 _ h2;have h4 : marks15.length = 3 := rfl;omega
 refine Ct.go aj aa (N := 35) Tryz.func37 rfl rfl rfl rfl ?_;refine X1 _ tW ?_;refine X1 _ hA ?_;refine au aj aa (fun i : Nat => i ≤ L.length) (fun i => [(4, .c (A5 L)), (3, .c (sSl (eG marks15 (L.take i)))), (5, .c (nI .i64 i))]) (fun _ => []) (fun i => L.length - i)
  0 (by omega) ⟨rfl, rfl, rfl, trivial⟩ trivial (fun _ : Unit => True) (fun _ => [(3, .c (sSl (eG marks15 L)))]) (fun _ => []) (fun i hi => ?_) (fun _ _ => ?_)
 ·refine .intro (by rw [dR]; omega) ?_;rw [dR];refine ah (fun h1 => ?_) (fun h1 => ?_)
  ·have hi' : i < L.length := by omega
   have hget := o9 (L := L) (i := (i : Int)) (n := i) rfl hi';have hs : L.take (i + 1) = L.take i ++ [L[i]] := D5 hi';have hbi := hbd i;have hwl := (b2 _ (Ec hi')).1;have hsn : eG marks15 (L.take (i + 1)) = cP (eG marks15 (L.take i)) L[i] := by rw [hs, tZ]
   generalize L[i] = ws at *
   generalize eG marks15 (L.take i) = l at *
   refine b9 aj aa (fun k : Nat => k ≤ ws.length) (fun k => [(4, .c (A5 L)), (3, .c (sSl (cP l (ws.take k)))), (5, .c (nI .i64 i)), (6, .c (nI .i64 k))]) (fun _ => []) (fun k => ws.length - k)
    0 (by omega) ⟨rfl, rfl, rfl, rfl, trivial⟩ trivial (fun k hk => ?_)
   refine .intro (by omega) (X1 _ hget ?_);refine .intro (by rw [aK]; omega) ?_;rw [aK];refine ah (fun h2 => ?_) (fun h2 => ?_)
   ·have hk' : k < ws.length := by omega
    have hs2 : ws.take (k + 1) = ws.take k ++ [ws[k]] := D5 hk';have hsn2 : cP l (ws.take (k + 1)) = gJ (cP l (ws.take k)) ws[k] := by rw [hs2, sj]
    have hlen2 := gG (ws.take k) l;rw [Ed] at hlen2;refine .intro (by omega) (X1 _ hget ?_);refine .intro (by omega) (X1 _ (iP (n := k) rfl hk') ?_);refine X1 _ (zj _ _ (by omega)) ?_;refine X1 ((k + 1 : Nat) : Int) (wI (by simp) (by omega) (by omega)) ?_;exact ⟨k + 1, by omega, by omega, ⟨rfl, by rw [hsn2]; rfl, rfl, rfl, trivial⟩, trivial⟩
   ·have e : k = ws.length := by omega
    subst e;rw [EE, ← hsn];refine X1 ((i + 1 : Nat) : Int) (wI1 (by omega)) ?_;exact ⟨i + 1, by omega, by omega, ⟨rfl, rfl, rfl, trivial⟩, trivial⟩
  ·have e : i = L.length := by omega
   subst e;rw [EE];exact ⟨(), trivial, ⟨rfl, trivial⟩, trivial⟩
 ·exact ⟨trivial, r1 rfl, trivial⟩
def eo (ws l : List ByteArray) : List Int := ([1] ++ l.map (gL ws)) ++ [2]
theorem zk (ws l : List ByteArray) (hw : ws.length ≤ 1000000) (hl : l.length ≤ 900000) : Ct P 91 [.c (sSl ws), .c (sSl l)] [.c (iSl (eo ws l))] := by
 have e : aM (eo ws l) = ([[eI .i64 1]] ++ aM (l.map (gL ws))) ++ [[eI .i64 2]] := by simp [eo, aM]
 have hlen : (aM (l.map (gL ws))).length = l.length := by simp [aM]
 have hids := zg ws l hw (by omega);rw [show iSl (eo ws l) = .sl 1 (([[eI .i64 1]] ++ aM (l.map (gL ws))) ++ [[eI .i64 2]]) from congrArg _ e];generalize l.map (gL ws) = ids at *
 refine Ct.go aj aa (N := 19) Tryz.func91 rfl rfl rfl rfl ?_;refine ⟨rfl, by show (0 + 1 + 768) * 8 ≤ _; omega, by show 0 + 1 ≤ _; omega, bV, ar rfl, ?_⟩;refine X1 _ hids ?_;refine ⟨rfl, by rw [hlen]; show (1 + l.length + 768) * 8 ≤ _; omega, by rw [hlen]; show 1 + l.length ≤ _; omega, ar rfl, aZ, ?_⟩;have hc : ax ([[eI .i64 1]] ++ aM ids) := fun el h => by
  rcases EF.1 h with h | h
  ·simp at h; subst h; rfl
  ·exact aZ el h
 have hl2 : ([[eI .i64 1]] ++ aM ids).length = l.length + 1 := by rw [D3, hlen]; show 1 + l.length = _; omega
 refine ⟨rfl, by show (0 + ([[eI .i64 1]] ++ aM ids).length + 768) * 8 ≤ _; rw [hl2]; omega, by show 0 + ([[eI .i64 1]] ++ aM ids).length ≤ _; rw [hl2]; omega, bV, hc, ?_⟩;refine ⟨rfl, by show (([[eI .i64 1]] ++ aM ids).length + 1 + 768) * 8 ≤ _; rw [hl2]; omega, by show ([[eI .i64 1]] ++ aM ids).length + 1 ≤ _; rw [hl2]; omega, hc, ar rfl, ?_⟩;exact ⟨trivial, r1 rfl, trivial⟩
def dy (L : List (List Int)) : List (List PC) := L.map fun l => [iSl l]
abbrev mg (L : List (List Int)) : PC := .sl 1 (dy L)
theorem be {L : List (List Int)} : (dy L).length = L.length := by simp [dy]
theorem ef {L : List (List Int)} : ax (dy L) := by
 intro el h;obtain ⟨x, _, rfl⟩ := Ez.1 h;rfl
theorem pa (L : List (List Int)) (l : List Int) : dy (L ++ [l]) = dy L ++ [[iSl l]] := by simp [dy]
theorem pc {L : List (List Int)} {i : Int} {n : Nat} (h0 : i = n) (h : n < L.length) : (dy L)[i.toNat]? = some [iSl L[n]] := by
 subst h0;simp [dy, h]
def fu (ws : List ByteArray) (s : ByteArray) : List (List Int) := (fH s).map (eo ws)
theorem zl (ws : List ByteArray) (s : ByteArray) (hw : ws.length ≤ 1000000) (hs : s.size ≤ 100000) : Ct P 39 [.c (sSl ws), .c (sS s)] [.c (mg (fu ws s))] := by
 obtain ⟨b1, b2⟩ := kD s;have hA := si s hs;unfold fu;generalize fH s = L at *
 refine Ct.go aj aa (N := 26) Tryz.func39 rfl rfl rfl rfl ?_;refine X1 _ hA ?_;refine jU (r := 34) (t := 5) (sz := 1) rfl rfl ?_;refine au aj aa (fun i : Nat => i ≤ L.length) (fun i => [(0, .c (sSl ws)), (6, .c (A5 L)), (5, .c (.ow 34 1 i)), (7, .c (nI .i64 i))]) (fun i => [(34, .row 1 (dy ((L.take i).map (eo ws))))]) (fun i => L.length - i)
  0 (by omega) ⟨rfl, rfl, rfl, rfl, trivial⟩ ⟨rfl, trivial⟩ (fun _ : Unit => True) (fun _ => [(5, .c (.ow 34 1 L.length))]) (fun _ => [(34, .row 1 (dy (L.map (eo ws))))]) (fun i hi => ?_) (fun _ _ => ?_)
 ·refine .intro (by rw [dR]; omega) ?_;rw [dR];refine ah (fun h1 => ?_) (fun h1 => ?_)
  ·have hi' : i < L.length := by omega
   have hget := o9 (L := L) (i := (i : Int)) (n := i) rfl hi';have hs : (L.take (i + 1)).map (eo ws) = (L.take i).map (eo ws) ++ [eo ws L[i]] := by rw [D5 hi', Fb]; rfl
   have hwl := (b2 _ (Ec hi')).1;have hl : ((L.take i).map (eo ws)).length = i := by simp; omega
   generalize L[i] = x at *
   refine .intro (by omega) (X1 _ hget ?_);refine X1 _ (zk ws x hw (by omega)) ?_;refine ⟨by rw [be, hl], by rw [be, hl]; show (i + 1 + 768) * 24 ≤ _; omega, by rw [be, hl]; show i + 1 ≤ _; omega, ef, ar rfl, ?_⟩;refine X1 ((i + 1 : Nat) : Int) (wI1 (by omega)) ?_;exact ⟨i + 1, by omega, by omega, ⟨rfl, rfl, owE (by rw [D3, be, hl]; rfl), rfl, trivial⟩, ⟨aB (by rw [hs, pa]; rfl), trivial⟩⟩
  ·have e : i = L.length := by omega
   subst e;rw [EE];exact ⟨(), trivial, ⟨rfl, trivial⟩, ⟨rfl, trivial⟩⟩
 ·exact ⟨trivial, r1 rfl, trivial⟩
def grS (p : List Int) (n : Nat) : Nat → List (List Int)
 | 0 => []
 | i + 1 => if n + i ≤ p.length then grS p n i ++ [(p.drop i).take n] else grS p n i
theorem mE (p : List Int) (n : Nat) : ∀ i, (grS p n i).length ≤ i
 | 0 => D1 _
 | i + 1 => by
  have := mE p n i;unfold grS;split
  ·simp; omega
  ·omega
def ct (p : List Int) (n : Nat) : List (List Int) := grS p n p.length
theorem t6 (p : List Int) (n : Nat) (h1 : 1 ≤ n) (hn : n ≤ 1000000) (hp : p.length ≤ 900000) : Ct P 177 [.c (iSl p), .c (nI .i64 n)] [.c (mg (ct p n))] := by
 refine Ct.go aj aa (N := 32) Tryz.func177 rfl rfl rfl rfl ?_;refine ah (fun h => ?_) (fun _ => ?_)
 ·exfalso; omega
 refine jU (r := 34) (t := 5) (sz := 1) rfl rfl ?_;refine au aj aa (fun i : Nat => i ≤ p.length) (fun i => [(0, .c (iSl p)), (1, .c (nI .i64 n)), (5, .c (.ow 34 1 (grS p n i).length)), (6, .c (nI .i64 i))]) (fun i => [(34, .row 1 (dy (grS p n i)))]) (fun i => p.length - i)
  0 (by omega) ⟨rfl, rfl, rfl, rfl, trivial⟩ ⟨rfl, trivial⟩ (fun _ : Unit => True) (fun _ => [(5, .c (.ow 34 1 (ct p n).length))]) (fun _ => [(34, .row 1 (dy (ct p n)))]) (fun i hi => ?_) (fun _ _ => ?_)
 ·refine .intro (by rw [ae]; omega) ?_;rw [ae];have hgl := mE p n i;refine ah (fun h2 => ?_) (fun h2 => ?_)
  ·refine .intro (by rw [ae]; omega) ?_;rw [ae];refine X1 ((p.length - i : Nat) : Int) (wI (by omega) (by omega) (by omega)) ?_;refine ah (fun h3 => ?_) (fun h3 => ?_)
   ·have hst : grS p n (i + 1) = grS p n i ++ [(p.drop i).take n] := by rw [grS, if_pos (by omega)]
    refine X1 ((i + n : Nat) : Int) (wI (by simp) (by omega) (by omega)) ?_;refine ⟨i, i + n, rfl, rfl, by omega, by rw [ae]; omega, ?_⟩;rw [iRow_sub, show i + n - i = n by omega];refine ⟨by rw [be], by rw [be]; show ((grS p n i).length + 1 + 768) * 24 ≤ _; omega, by rw [be]; show (grS p n i).length + 1 ≤ _; omega, ef, ar rfl, ?_⟩;refine X1 ((i + 1 : Nat) : Int) (wI1 (by omega)) ?_;exact ⟨i + 1, by omega, by omega, ⟨rfl, rfl, owE (by rw [hst, D3, D3, be]; rfl), rfl, trivial⟩, ⟨aB (by rw [hst, pa]; rfl), trivial⟩⟩
   ·have hst : grS p n (i + 1) = grS p n i := by rw [grS, if_neg (by omega)]
    refine X1 ((i + 1 : Nat) : Int) (wI1 (by omega)) ?_;exact ⟨i + 1, by omega, by omega, ⟨rfl, rfl, by rw [hst]; rfl, rfl, trivial⟩, ⟨by rw [hst]; rfl, trivial⟩⟩
  ·have e : i = p.length := by omega
   subst e;exact ⟨(), trivial, ⟨rfl, trivial⟩, ⟨rfl, trivial⟩⟩
 ·exact ⟨trivial, r1 rfl, trivial⟩
def pu (x : Cnt) : List Cnt → Bool → List Cnt
 | [], laid => if laid = true then [] else [x]
 | y :: l, laid => (if aD y.1 x.1 > 0 ∧ laid = false then [x] else []) ++ (if aD y.1 x.1 = 0 then (y.1, y.2 + x.2) else y) :: pu x l (laid || decide (aD y.1 x.1 > 0) || decide (aD y.1 x.1 = 0))
def lZ (l : List Cnt) (x : Cnt) : List Cnt := pu x l false
theorem eq (l : List Cnt) (x : Cnt) : ci (l ++ [x]) = ci l ++ [[iSl x.1, eI .i64 x.2]] := by simp [ci]
theorem zm (l : List Cnt) (x : Cnt) (hl : CLim l) (hx : x.1.length ≤ 1000000) (hn : ∀ y, y ∈ l → 0 ≤ y.2 ∧ y.2 ≤ 1000000000) (hx2 : 0 ≤ x.2 ∧ x.2 ≤ 1000000000) :
  Ct P 139 [.c (cSl l), .ag [iSl x.1, eI .i64 x.2]] [.c (cSl (lZ l x))] := by
 have hll := hl.len;refine Ct.go aj aa (N := 57) Tryz.func139 rfl rfl rfl rfl ?_;refine jU (r := 60) (t := 5) (sz := 2) rfl rfl ?_;refine au aj aa (G := Nat × List Cnt × Bool) (fun (i, out, b) => i ≤ l.length ∧ out.length ≤ i + (if b = true then 1 else 0) ∧ out ++ pu x (l.drop i) b = lZ l x) (fun (i, out, b) => [(0, .c (cSl l)), (3, .c (.ad 3 0)), (5, .c (.ow 60 2 out.length)), (6, .c (.sc (.bool b))), (7, .c (nI .i64 i))])
  (fun (_, out, _) => [(3, .var [iSl x.1, eI .i64 x.2]), (60, .row 2 (ci out))]) (fun (i, _, _) => l.length - i)
  (0, [], false) ⟨by omega, by simp, rfl⟩ ⟨rfl, rfl, rfl, rfl, rfl, trivial⟩ ⟨rfl, rfl, trivial⟩ (fun (g : List Cnt × Bool) => g.1.length ≤ l.length + 1 ∧ g.1 ++ pu x [] g.2 = lZ l x) (fun (out, b) => [(3, .c (.ad 3 0)), (5, .c (.ow 60 2 out.length)), (6, .c (.sc (.bool b)))]) (fun (out, _) => [(3, .var [iSl x.1, eI .i64 x.2]), (60, .row 2 (ci out))]) (fun (i, out, b) hi => ?_) (fun (out, b) ho => ?_)
 ·obtain ⟨i1, i2, i3⟩ := hi;have hout : out.length ≤ i + 1 := by split at i2 <;> omega
  refine .intro (by rw [cRow_len]; omega) ?_;rw [cRow_len];refine ah (fun h1 => ?_) (fun h1 => ?_)
  ·have hi' : i < l.length := by omega
   have hget := bD (l := l) (i := (i : Int)) (n := i) rfl hi';have hgl := hl.at' hi';have hnn := hn _ (Ec hi');rw [Ew hi', pu] at i3;generalize l[i] = y at *
   refine .intro (by omega) (X1 _ hget ?_);refine X1 _ (rt y.1 x.1 hgl hx) ?_;refine .intro rfl ?_;refine ah (fun h2 => ?_) (fun h2 => ?_)
   ·have h0 : ¬ aD y.1 x.1 = 0 := by omega
    refine aN (fun h3 => ?_) (fun h3 => ?_)
    ·have hb : b = false := by simpa using h3
     subst hb;rw [if_pos ⟨h2, rfl⟩, if_neg h0, decide_eq_true h2] at i3;have e1 : (out ++ [x]).length = out.length + 1 := by simp
     refine ⟨by rw [cRow_len], by rw [cRow_len]; show (out.length + 1 + 768) * 32 ≤ _; omega, by rw [cRow_len]; show out.length + 1 ≤ _; omega, br, ar rfl, ?_⟩;refine .intro (by omega) (X1 _ hget ?_);refine aV (fun h => absurd h h0) (fun _ => ?_);have e2 : ci out ++ [[iSl x.1, eI .i64 x.2]] = ci (out ++ [x]) := (eq out x).symm;refine ⟨?_, ?_, ?_, ?_, ar rfl, ?_⟩
     ·rfl
     ·show ((ci out ++ [[iSl x.1, eI .i64 x.2]]).length + 1 + 768) * 32 ≤ _
      rw [e2, cRow_len, e1]; omega
     ·show (ci out ++ [[iSl x.1, eI .i64 x.2]]).length + 1 ≤ _
      rw [e2, cRow_len, e1]; omega
     ·show ax (ci out ++ [[iSl x.1, eI .i64 x.2]])
      rw [e2]; exact br
     ·refine X1 ((i + 1 : Nat) : Int) (wI1 (by omega)) ?_;refine ⟨(i + 1, out ++ [x] ++ [y], true), ⟨by omega, by simp at i2 ⊢; omega, ?_⟩, by show l.length - (i + 1) < l.length - i; omega, ⟨rfl, rfl, owE ?_, rfl, rfl, trivial⟩, ⟨rfl, aB ?_, trivial⟩⟩
      ·rw [← i3]; simp
      ·simp [cRow_len]
      ·rw [eq, eq]; rfl
    ·have hb : b = true := by simpa using h3
     subst hb;rw [if_neg (by simp), if_neg h0] at i3;refine .intro (by omega) (X1 _ hget ?_);refine aV (fun h => absurd h h0) (fun _ => ?_);refine ⟨by rw [cRow_len], by rw [cRow_len]; show (out.length + 1 + 768) * 32 ≤ _; omega, by rw [cRow_len]; show out.length + 1 ≤ _; omega, br, ar rfl, ?_⟩;refine X1 ((i + 1 : Nat) : Int) (wI1 (by omega)) ?_;refine ⟨(i + 1, out ++ [y], true), ⟨by omega, by simp at i2 ⊢; omega, ?_⟩, by show l.length - (i + 1) < l.length - i; omega, ⟨rfl, rfl, owE ?_, rfl, rfl, trivial⟩, ⟨rfl, aB ?_, trivial⟩⟩
     ·rw [← i3]; simp
     ·simp [cRow_len]
     ·rw [eq]; rfl
   ·rw [if_neg (fun h => h2 h.1), decide_eq_false h2] at i3;refine .intro (by omega) (X1 _ hget ?_);refine aV (fun h3 => ?_) (fun h3 => ?_)
    ·rw [if_pos h3, decide_eq_true h3] at i3;refine X1 (y.2 + x.2) (wI rfl (by omega) (by omega)) ?_;refine ⟨by rw [cRow_len], by rw [cRow_len]; show (out.length + 1 + 768) * 32 ≤ _; omega, by rw [cRow_len]; show out.length + 1 ≤ _; omega, br, ar rfl, ?_⟩;refine X1 ((i + 1 : Nat) : Int) (wI1 (by omega)) ?_;refine ⟨(i + 1, out ++ [(y.1, y.2 + x.2)], true), ⟨by omega, by rw [D3]; show out.length + 1 ≤ i + 1 + 1; omega, ?_⟩, by show l.length - (i + 1) < l.length - i; omega, ⟨rfl, rfl, owE ?_, rfl, rfl, trivial⟩, ⟨rfl, aB ?_, trivial⟩⟩
     ·rw [← i3]; simp
     ·simp [cRow_len]
     ·rw [eq]; rfl
    ·rw [if_neg h3, decide_eq_false h3] at i3;refine ⟨by rw [cRow_len], by rw [cRow_len]; show (out.length + 1 + 768) * 32 ≤ _; omega, by rw [cRow_len]; show out.length + 1 ≤ _; omega, br, ar rfl, ?_⟩;refine X1 ((i + 1 : Nat) : Int) (wI1 (by omega)) ?_;refine ⟨(i + 1, out ++ [y], b), ⟨by omega, by rw [D3]; show out.length + 1 ≤ i + 1 + _; omega, ?_⟩, by show l.length - (i + 1) < l.length - i; omega, ⟨rfl, rfl, owE ?_, rfl, rfl, trivial⟩, ⟨rfl, aB ?_, trivial⟩⟩
     ·rw [← i3]; simp
     ·simp [cRow_len]
     ·rw [eq]; rfl
  ·have e : i = l.length := by omega
   subst e;rw [Fy] at i3;exact ⟨(out, b), ⟨hout, i3⟩, ⟨rfl, rfl, rfl, trivial⟩, ⟨rfl, rfl, trivial⟩⟩
 ·obtain ⟨o1, o2⟩ := ho;have o1' : out.length ≤ l.length + 1 := o1;have o2' : out ++ pu x [] b = lZ l x := o2;rw [← o2'];refine aN (fun h3 => ?_) (fun h3 => ?_)
  ·have hb : b = false := by simpa using h3
   subst hb;rw [show pu x [] false = [x] from rfl, show cSl (out ++ [x]) = .sl 2 (ci out ++ [[iSl x.1, eI .i64 x.2]]) from congrArg _ (eq out x)];refine ⟨by rw [cRow_len], by rw [cRow_len]; show (out.length + 1 + 768) * 32 ≤ _; omega, by rw [cRow_len]; show out.length + 1 ≤ _; omega, br, ar rfl, ?_⟩;exact ⟨trivial, r1 rfl, trivial⟩
  ·have hb : b = true := by simpa using h3
   subst hb;rw [show pu x [] true = [] from rfl, FX];exact ⟨trivial, r1 rfl, trivial⟩
def a8 (L : List (List Int)) (n : Nat) : List (List Int) := (L.map fun p => ct p n).flatten
theorem sn (L : List (List Int)) (p : List Int) (n : Nat) : a8 (L ++ [p]) n = a8 L n ++ ct p n := by simp [a8]
theorem gH {k n : Nat} : ∀ (L : List (List Int)), (∀ p, p ∈ L → p.length ≤ k) → (a8 L n).length ≤ L.length * k
 | [], _ => by simp [a8]
 | p :: L, h => by
  have ih := gH (n := n) L fun x hx => h x (Ep _ hx)
  have h1 := h p (by simp);have h2 := mE p n p.length;have e : a8 (p :: L) n = ct p n ++ a8 L n := by simp [a8]
  rw [e, D3, EA, Eg, EK];unfold ct;omega
theorem wg (L : List (List Int)) (n : Nat) (h1 : 1 ≤ n) (hn : n ≤ 1000000) (hL : L.length ≤ 600) (hp : ∀ p, p ∈ L → p.length ≤ 600) : Ct P 138 [.c (mg L), .c (nI .i64 n)] [.c (mg (a8 L n))] := by
 have hbd : ∀ i, (a8 (L.take i) n).length ≤ 360000 := fun i => by
  have h1 := gH (n := n) (k := 600) (L.take i) fun p h => hp p (Fv h)
  have h2 : (L.take i).length ≤ 600 := by rw [Ed]; omega
  have h3 : (L.take i).length * 600 ≤ 600 * 600 := D8 _ h2;omega
 refine Ct.go aj aa (N := 24) Tryz.func138 rfl rfl rfl rfl ?_;refine zY (t := 5) (sz := 1) rfl ?_;refine yr (fun i : Nat => i ≤ L.length) (fun i => [(0, .c (mg L)), (1, .c (nI .i64 n)), (5, .c (mg (a8 (L.take i) n))), (6, .c (nI .i64 i))]) (fun _ => []) (fun i => L.length - i)
  0 (by omega) ⟨rfl, rfl, rfl, rfl, trivial⟩ trivial (fun _ : Unit => True) (fun _ => [(5, .c (mg (a8 L n)))]) (fun _ => []) (fun i hi => ?_) (fun _ _ => ?_)
 ·refine vM ?_;refine dI aj aa ?_;refine .intro (by rw [be]; omega) ?_;rw [be];refine yt (b := decide ((i : Int) < (L.length : Int))) rfl (fun e => ?_) (fun e => ?_)
  ·have hi' : i < L.length := by have := of_decide_eq_true e; omega
   have hget := pc (L := L) (i := (i : Int)) (n := i) rfl hi';have hs : L.take (i + 1) = L.take i ++ [L[i]] := D5 hi';have hsn : a8 (L.take (i + 1)) n = a8 (L.take i) n ++ ct L[i] n := by rw [hs, sn]
   have hpl := hp _ (Ec hi');have hb1 := hbd i;have hb2 := hbd (i + 1);rw [hsn, D3] at hb2;generalize L[i] = p at *
   generalize a8 (L.take i) n = E0 at *
   refine yu ?_;refine vM ?_;refine nA ?_;refine kg aj aa ?_;refine ⟨rfl, by rw [be]; show (0 + E0.length + 768) * 24 ≤ _; omega, by rw [be]; show 0 + E0.length ≤ _; omega, bV, ef, ?_⟩;refine .intro (by omega) (X1 _ hget ?_);refine X1 _ (t6 p n h1 hn (by omega)) ?_;refine ⟨rfl, by rw [be]; show ((dy E0).length + (ct p n).length + 768) * 24 ≤ _; rw [be]; omega, by rw [be]; show (dy E0).length + (ct p n).length ≤ _; rw [be]; omega, ef, ef, ?_⟩;refine .intro rfl ?_;refine De [13] ?_;refine kg aj aa ?_;refine X1 ((i + 1 : Nat) : Int) (wI1 (by omega)) ?_;refine ⟨i + 1, by omega, by omega, ⟨rfl, rfl, ?_, rfl, trivial⟩, trivial⟩;have e2 : dy (E0 ++ ct p n) = dy E0 ++ dy (ct p n) := by simp [dy]
   rw [hsn, show mg (E0 ++ ct p n) = .sl 1 (dy E0 ++ dy (ct p n)) from congrArg _ e2];rfl
  ·have e1 : i = L.length := by have := of_decide_eq_false e; omega
   subst e1;rw [EE];exact kg aj aa ⟨(), trivial, ⟨rfl, trivial⟩, trivial⟩
 ·exact kg aj aa ⟨trivial, r1 rfl, trivial⟩
end
end Go.Proofs.YtgceikecdedfcaaGreat.Pv
