/- Parts of a proof, joined: Ex Hf Hg Ch Fl Fm Fn Fo Fp Fq Fr. -/
import Derived.Test.YtgceikecdedfcaaGreatLpN
namespace Go.Proofs.YtgceikecdedfcaaGreat.Pv
open Go
section
theorem gP {k:Nat} {p:Nat × Nat} (n:Nat) (h:Bd k (nz p)) (hk:k≤400000) (h0:n≠0) (hn:n<9223372036854775808):Ct P 158 [qP p,.c (nI .i64 n)] [qP (c9 (nz p) (n,1))]:=C5 n h.bg (by omega) h0 hn
theorem iF {l:List Cnt} (hl:CLim l) (a:Int):nz (gAt (0,0) (dw (aq l 1) (aq l 2) (aq l 3) (aq l 4) 1) (dw (aq l 1) (aq l 2) (aq l 3) (aq l 4) 2) (dw (aq l 1) (aq l 2) (aq l 3) (aq l 4) 3) a)=atN l a:=by
 have m:=λk=>EA (bM l k) hl.len
 have rn:=λk h1 h3=>u5 (m 1) (m 2) (m 3) (m 4) k h1 h3
 unfold gAt atN at4 e8;split
 ·rfl
 ·split
  ·exact rn 1 (by omega) (by omega)
  ·split
   ·exact rn 2 (by omega) (by omega)
   ·exact rn 3 (by omega) (by omega)
abbrev MM (Lc:List (List Cnt)):Type:={ m:List Value × List (List PC) // MOk Lc m.1 m.2 }
section
variable {Lc:List (List Cnt)} {words:Int}
theorem Ep (hx:XOk Lc words) (hs:Nat→List Int) (N:Nat) (hh:∀ n,n<N→(hs n).length<Lc.length) (m0:MM Lc) :
  ∃ seq:Nat→MM Lc,seq 0=m0∧∀ n,n<N→CtO P 159 (xOs Lc words (seq n).1.1 (seq n).1.2) [.c (.ad 1000000 0),.c (iSl (hs n))] (xOs Lc words (seq (n+1)).1.1 (seq (n+1)).1.2) [.c (jp Lc (hs n))]:=by
 have step:∀ q:MM Lc × Nat,∃ m':MM Lc,q.2<N→CtO P 159 (xOs Lc words q.1.1.1 q.1.1.2) [.c (.ad 1000000 0),.c (iSl (hs q.2))] (xOs Lc words m'.1.1 m'.1.2) [.c (jp Lc (hs q.2))]:=by
  intro q;by_cases hn:q.2<N
  ·obtain ⟨ks',vs',h1,h2⟩:=oa hx q.1.2 (hs q.2) (hh _ hn);exact ⟨⟨(ks',vs'),h1⟩,λ_=>h2⟩
  ·exact ⟨q.1,λh=>absurd h hn⟩
 obtain ⟨f,hf⟩:=Classical.axiomOfChoice step;exact ⟨λn=>Nat.rec m0 (λn m=>f (m,n)) n,rfl,λn hn=>hf (Nat.rec m0 (λn m=>f (m,n)) n,n) hn⟩
theorem wn {ks:List Value} {vs:List (List PC)} (h:List Int) (w:Int) (hw:w<0∨words≤w∨w=1) :
  CtO P 115 (xOs Lc words ks vs) [.c (.ad 1000000 0),.c (iSl h),.c (eI .i64 w)] (xOs Lc words ks vs) [qP (0,1)]:=by
 refine Ct.io aj aa (N:=101) Tryz.func115 rfl rfl rfl rfl ?_;refine ae (λh1=>?_) (λh1=>?_)
 ·refine X1 _ (be 0 (by omega)) ?_;exact ⟨HB,qI rfl rfl,rc rfl,HB⟩
 ·refine X2 (.own σx σx) ?_;refine ⟨_,_,kP,?_⟩;refine ae (λh2=>?_) (λh2=>?_)
  ·refine X1 _ (be 0 (by omega)) ?_;exact ⟨HB,qI rfl rfl,rc rfl,HB⟩
  ·refine aT (λh3=>?_) (λh3=>?_)
   ·refine X1 _ (be 0 (by omega)) ?_;exact ⟨HB,qI rfl rfl,rc rfl,HB⟩
   ·exfalso; omega
set_option maxHeartbeats 4000000 in
theorem wo (hx:XOk Lc words) {h:List Int} {w:Int} (hl:h.length≤1000000) (hw:¬ (w<0∨words≤w∨w=1)) {seq:Nat→MM Lc}
  (hs:∀ n,n<(cO Lc h).length+1→CtO P 159 (xOs Lc words (seq n).1.1 (seq n).1.2) [.c (.ad 1000000 0),.c (iSl ((cO Lc h).drop ((cO Lc h).length-n)))] (xOs Lc words (seq (n+1)).1.1 (seq (n+1)).1.2) [.c (jp Lc ((cO Lc h).drop ((cO Lc h).length-n)))]) :
  CtO P 115 (xOs Lc words (seq 0).1.1 (seq 0).1.2) [.c (.ad 1000000 0),.c (iSl h),.c (eI .i64 w)] (xOs Lc words (seq ((cO Lc h).length+1)).1.1 (seq ((cO Lc h).length+1)).1.2) [qP (pF Lc words w (cO Lc h))]:=by
 have h8:=hx.len8;have h0:=hx.len0;have w3:=hx.w3;have w6:=hx.w6;refine Ct.io (Ty.own_ok [46,1000001] aj) aa (N:=101) Tryz.func115 rfl rfl rfl rfl ?_;refine ae (λh1=>?_) (λh1=>?_)
 ·exfalso; omega
 refine X2 (.own σx σx) ?_;refine ⟨_,_,kP,?_⟩;refine ae (λh2=>?_) (λh2=>?_)
 ·exfalso; omega
 refine aT (λh3=>?_) (λh3=>?_)
 ·exfalso; omega
 refine .intro (by rw[ac]; omega) ?_;rw[ac];refine X2 (.own σx σx) ?_;refine ⟨_,_,iD hx,?_⟩;have hclt:=jd hx h;refine ae (λhc=>?_) (λhc=>?_);have e:cO Lc h=h.drop (h.length-Lc.length+1):=if_pos (by omega);refine .intro (by rw[ac]; omega) ?_;rw[ac];refine X2 (.own σx σx) ?_;refine ⟨_,_,iD hx,?_⟩;refine X1 ((h.length-Lc.length:Nat):Int) (wI (by omega) (by omega) (by omega)) ?_;refine X1 ((h.length-Lc.length+1:Nat):Int) (wI (by omega) (by omega) (by omega)) ?_;refine ⟨h.length-Lc.length+1,h.length,rfl,by show ((aI h).length:Int)=_; rw[ac],by omega,by rw[ac]; exact Ew _,?_⟩;rw[iRow_sub,E3 (by rw[E8]; omega)];rw[e]at hs hclt ⊢;have hl':(h.drop (h.length-Lc.length+1)).length≤1000000:=by rw[E8]; omega
 generalize h.drop (h.length-Lc.length+1)=h' at *
 rotate_left;have e:cO Lc h=h:=if_neg (by omega);rw[e]at hs hclt ⊢;have hl':h.length≤1000000:=hl;generalize h=h' at *
 all_goals
  refine X1 _ (be 1 (by omega)) ?_;refine X1 (((words-1).toNat:Nat):Int) (wI (by omega) (by omega) (by omega)) ?_;refine X1 _ (gP (p:=(1,1)) (k:=63) (words-1).toNat (bd1 (n:=1) (by omega)) (by omega) (by omega) (by omega)) ?_;refine .intro rfl ?_;refine ax (Ty.own_ok [46,1000001] aj) aa (λn:Nat=>n≤h'.length+1) (λn=>[(0,.c (.ad 1000000 0)),(1,.c (iSl h')),(2,.c (eI .i64 w)),(6,.c (.ad 6 0)),(7,.c (.ad 7 0)),(8,.c (nI .i64 n))])
   (λn=>[(6,.var [.sc (.slice none 0 0),.sc (.slice none 0 0)]),(7,.var (qP (pN Lc words w h' n)).cells),(1000000,xC Lc words 1000001),(1000001,.mp false (seq n).1.1 (seq n).1.2)]) (λn=>h'.length+1-n)
   0 (by omega) ⟨rfl,rfl,rfl,rfl,rfl,rfl,HB⟩ ⟨rfl,rfl,rfl,rfl,HB⟩ (λ_:Unit=>True) (λ_=>[(6,.c (.ad 6 0)),(7,.c (.ad 7 0))])
   (λ_=>[(6,.var [.sc (.slice none 0 0),.sc (.slice none 0 0)]),(7,.var (qP (pF Lc words w h')).cells),(1000000,xC Lc words 1000001),(1000001,.mp false (seq (h'.length+1)).1.1 (seq (h'.length+1)).1.2)]) (λn hn=>?_) (λ_ _=>?_)
  ·refine .intro (by rw[ac]; omega) ?_;rw[ac];refine ae (λh5=>?_) (λh5=>?_)
   ·have hn':n≤h'.length:=by omega
    have hbeh:=hs n (by omega);have hstep:=qL (Lc:=Lc) (words:=words) (w:=w) hn';have hpb:=zB hx w h' (n:=n) (by omega);have hnl:(h'.drop (h'.length-n)).length=n:=by rw[E8]; omega
    refine .intro (by rw[ac]; omega) ?_;rw[ac];refine X1 ((h'.length-n:Nat):Int) (wI (by omega) (by omega) (by omega)) ?_;refine ⟨h'.length-n,h'.length,rfl,by show ((aI h').length:Int)=_; rw[ac],by omega,by rw[ac]; exact Ew _,?_⟩;rw[iRow_sub,E3 (by rw[hnl]; omega)];generalize h'.drop (h'.length-n)=near at *
    refine X2 (.own σx σx) ?_;refine ⟨_,_,hbeh,?_⟩;have hnlt:near.length<Lc.length:=by omega
    have hlv:lvl Lc near=Lc[near.length]:=fJ hnlt;have htl:=jc hx near;refine aT (λh6=>?_) (λh6=>?_)
    ·have h7:totN (after (lvl Lc near) near)=0:=by
      have:((totN (after (lvl Lc near) near):Nat):Int)=0:=h6;omega
     unfold dJ at hstep;rw[if_pos h7]at hstep;refine X1 ((n+1:Nat):Int) (wI (by simp) (by omega) (by omega)) ?_;refine ⟨n+1,by omega,by omega,⟨rfl,rfl,rfl,rfl,rfl,rfl,HB⟩,⟨rfl,by rw[←hstep]; rfl,rfl,rfl,HB⟩⟩
    ·have h7:totN (after (lvl Lc near) near)≠0:=λh=>h6 (congrArg Nat.cast h)
     unfold dJ at hstep;rw[if_neg h7]at hstep;have hnb:=gt hx (near++[w]);have hnl2:(near++[w]).length=n+1:=by simp[hnl]
     refine X2 (.own [] [(5,68)]) ?_;refine ⟨_,_,jb near (by omega),?_⟩;refine ⟨by rw[ac],by rw[ac,hnl]; show (n+1+768)*8≤_; omega,by rw[ac,hnl]; show n+1≤_; omega,bc,aw rfl,?_⟩;refine X2 (.own [(1000000,1000000),(1000001,1000001),(68,1000002)] [(1000000,1000000),(1000001,1000001),(1000002,68)]) ?_;refine ⟨_,_,oc hx (near++[w]) _ (by simp[aI]; rfl) _ (by rw[hnl2]; show ((aI near)++_).length=_; simp[aI,hnl]) (by omega) (by omega),?_⟩;have hbd1:Bd 63 (nz ((bz Lc (near++[w])).toNat,1)):=bd1 (by omega);have hbd2:Bd 500 (nz (gAt (0,0) (dw (aq Lc[near.length] 1) (aq Lc[near.length] 2) (aq Lc[near.length] 3) (aq Lc[near.length] 4) 1) (dw (aq Lc[near.length] 1) (aq Lc[near.length] 2) (aq Lc[near.length] 3) (aq Lc[near.length] 4) 2) (dw (aq Lc[near.length] 1) (aq Lc[near.length] 2) (aq Lc[near.length] 3) (aq Lc[near.length] 4) 3) (bz Lc (near++[w])))):=by
      rw[iF (hx.lim.at' hnlt)]; exact jM (hx.lim.at' hnlt) _
     have hsub:=iZ hbd1 hbd2 (by omega) (by omega);have eow:cD ((bz Lc (near++[w])).toNat,1) (atN Lc[near.length] (bz Lc (near++[w])))=owF Lc w near:=by unfold owF; rw[hlv]
     rw[iF (hx.lim.at' hnlt),nz1,eow]at hsub;have hgr:=fp (ls:=Lc) (i:=(n:Int)) (n:=near.length) (by rw[hnl]) hnlt;refine X1 (((bz Lc (near++[w])).toNat:Nat):Int) (wU (by omega) (by omega) (by omega)) ?_;refine X1 _ (be _ (by omega)) ?_;refine .intro (by omega) (X1 _ hgr ?_);refine X1 _ (qw _ _ _ _ _) ?_;refine X1 _ hsub ?_;refine .intro rfl ?_;have hob:Bd 600 (nz (owF Lc w near)):=by rw[au (cJ hx w near)]; exact cJ hx w near
     have hby:=gP (totN (after (lvl Lc near) near)) hob (by omega) h7 (by omega);rw[au (cJ hx w near)]at hby;refine X1 _ hby ?_;have hg:=gN hx near;have hmul:=eq (p:=fk Lc near) (q:=pN Lc words w h' n) (by rw[au hg]; exact hg) (by rw[au hpb]; exact hpb) (by omega) (by omega);rw[au hg,au hpb]at hmul;refine X1 _ hmul ?_;have hb1:=lG hx w near h7;have hb2:=bf hg hpb;have hadd:=kN (p:=c9 (owF Lc w near) (totN (after (lvl Lc near) near),1)) (q:=cI (fk Lc near) (pN Lc words w h' n)) (by rw[au hb1]; exact hb1) (by rw[au hb2]; exact hb2) (by rw[au hb1]; exact iy (EU (cJ hx w near).pos h7)) (by omega) (by omega);rw[au hb1,au hb2]at hadd;refine X1 _ hadd ?_;refine .intro rfl ?_;refine X1 ((n+1:Nat):Int) (wI (by simp) (by omega) (by omega)) ?_;refine ⟨n+1,by omega,by omega,⟨rfl,rfl,rfl,rfl,rfl,rfl,HB⟩,⟨rfl,by rw[←hstep]; rfl,rfl,rfl,HB⟩⟩
   ·have en:n=h'.length+1:=by omega
    subst en;have e2:pN Lc words w h' (h'.length+1)=pF Lc words w h':=by simp[pN]
    exact ⟨(),HB,⟨rfl,rfl,HB⟩,⟨rfl,by rw[e2]; rfl,rfl,rfl,HB⟩⟩
  ·exact ⟨HB,qI rfl rfl,rc rfl,HB⟩
theorem zC (hx:XOk Lc words) (m:MM Lc) (h:List Int) (hl:h.length≤1000000) (w:Int) :
  ∃ m':MM Lc,CtO P 115 (xOs Lc words m.1.1 m.1.2) [.c (.ad 1000000 0),.c (iSl h),.c (eI .i64 w)] (xOs Lc words m'.1.1 m'.1.2) [qP (a9 Lc words h w)]:=by
 unfold a9;by_cases hw:w<0∨words≤w∨w=1
 ·rw[if_pos hw];exact ⟨m,wn h w hw⟩
 ·rw[if_neg hw];have hclt:=jd hx h;obtain ⟨seq,h0,hs⟩:=Ep hx (λn=>(cO Lc h).drop ((cO Lc h).length-n)) ((cO Lc h).length+1) (λn _=>by rw[E8]; omega) m;subst h0;exact ⟨_,wo hx hl hw hs⟩
theorem sI (hx:XOk Lc words) (h:List Int) (w:Int):Bd 30000 (a9 Lc words h w):=by
 have h8:=hx.len8;have hclt:=jd hx h;unfold a9;split
 ·exact bd01.le (by omega)
 ·exact (sH hx w _).le (by omega)
end
end
section
theorem Hp.turn {K:Km} {ok:Nat→Prop} {w:World} {O O':Objs} (hp:Hp K ok w O) (ho:∀ k o',O'.get k=some o'→(∃ o,O.get k=some o)∧HOb K ok w k o'):Hp K ok w O':=
 ⟨λk o h=>(ho k o h).2,λk k' o o' b L L' h1 h2 e1 e2=>by
  obtain ⟨⟨p,g1⟩,_⟩:=ho k o h1;obtain ⟨⟨p',g2⟩,_⟩:=ho k' o' h2;exact hp.inj k k' p p' b L L' g1 g2 e1 e2,λk o b L h e=>by
  obtain ⟨⟨p,g1⟩,_⟩:=ho k o h;exact hp.apart k p b L g1 e,hp.lt,hp.hlt,hp.hok,λk o b L h e=>by
  obtain ⟨⟨p,g1⟩,_⟩:=ho k o h;exact hp.how k p b L g1 e⟩
theorem Fr.turn {K K':Km} {ok ok':Nat→Prop} {w w':World} {O O1 O2 O3:Objs} (hf:Fr K ok w O K' ok' w' O2) (h1:∀ k o,O.get k=some o→∃ o',O1.get k=some o') (h2:∀ k o,O3.get k=some o→∃ o',O2.get k=some o'):Fr K ok w O1 K' ok' w' O3:=
 ⟨hf.size,λb hb g1 g2=>hf.keep b hb (λk o L e1 e2=>by obtain ⟨o',g⟩:=h1 k o e1; exact g1 k o' L g e2) g2,hf.okUp,λb hb=>by
  rcases hf.okNew b hb with h | h | ⟨k,o,L,e1,e2⟩
  ·exact .inl h
  ·exact .inr (.inl h)
  ·obtain ⟨o',g⟩:=h1 k o e1; exact .inr (.inr ⟨k,o',L,g,e2⟩),λk o b L e1 e2=>by
  obtain ⟨o',g⟩:=h2 k o e1;rcases hf.own k o' b L g e2 with h | ⟨k0,o0,L0,g1,g2⟩
  ·exact .inl h
  ·obtain ⟨o1,g3⟩:=h1 k0 o0 g1; exact .inr ⟨k0,o1,L0,g3,g2⟩,hf.os,hf.tape,hf.output,hf.kind,hf.pin,hf.hid⟩
theorem CtO.less {P:Program} {f:FuncId} {O O' O2:Objs} {args res:List A1} (h:CtO P f O args O' res) (hw:∀ K ok w k o2,O2.get k=some o2→∃ o',O'.get k=some o'∧(HOb K ok w k o'→HOb K ok w k o2)):CtO P f O args O2 res:=
 ⟨λK ok w vs hp hrel=>(h.run K ok w vs hp hrel).mono λe w' ⟨v,K',ok',h1,h2,h3,h4⟩=>
  ⟨v,K',ok',h1,h2,h3.turn λk o2 g=>by obtain ⟨o',g1,g2⟩:=hw K' ok' w' k o2 g; exact ⟨⟨o',g1⟩,g2 (h3.obs k o' g1)⟩,
   h4.turn (λk o g=>⟨o,g⟩) λk o g=>by obtain ⟨o',g1,_⟩:=hw K' ok' w' k o g; exact ⟨o',g1⟩⟩⟩
theorem BC {k:Nat} {o1 o2 o:Ob} {OX:Objs} (h:Objs.get ((1000000,some o1)::(1000001,some o2)::OX) k=some o):(k=1000000∧o=o1)∨(k=1000001∧o=o2)∨(k≠1000000∧k≠1000001∧OX.get k=some o):=by
 simp only[Objs.get]at h
 cases h1:Nat.beq 1000000 k with
 | true=>rw[h1]at h; exact .inl ⟨(Eu h1).symm,(Gc h).symm⟩
 | false=>
  rw[h1]at h;have n1:k≠1000000:=λe=>by rw[e,EP]at h1; cases h1
  cases h2:Nat.beq 1000001 k with
  | true=>rw[h2]at h; exact .inr (.inl ⟨(Eu h2).symm,(Gc h).symm⟩)
  | false=>
   rw[h2]at h;exact .inr (.inr ⟨n1,(λe=>by rw[e,EP]at h2; cases h2),h⟩)
theorem pw {k:Nat} {o1 o2 o:Ob} {OX:Objs} (n1:k≠1000000) (n2:k≠1000001) (h:OX.get k=some o):Objs.get ((1000000,some o1)::(1000001,some o2)::OX) k=some o:=by
 simp only[Objs.get]
 cases h1:Nat.beq 1000000 k with
 | true=>exact absurd (Eu h1).symm n1
 | false=>
  cases h2:Nat.beq 1000001 k with
  | true=>exact absurd (Eu h2).symm n2
  | false=>exact h
abbrev xM (Lc:List (List Cnt)) (words:Int) (ks:List Value) (vs:List (List PC)) (OX:Objs):Objs:=(1000000,some (xC Lc words 1000001))::(1000001,some (.mp false ks vs))::OX
abbrev xX (Lc:List (List Cnt)) (words:Int) (OX:Objs):Objs:=(1000000,some (xC Lc words 1000001))::(1000001,some (.me false (MOk Lc)))::OX
abbrev xE (Lc:List (List Cnt)) (words:Int):Objs:=xX Lc words []
theorem CtO.ex {f:FuncId} {args res:List A1} {Lc:List (List Cnt)} {words:Int} {OX OX':Objs} (h:∀ ks vs,MOk Lc ks vs→∃ ks' vs',MOk Lc ks' vs'∧CtO P f (xM Lc words ks vs OX) args (xM Lc words ks' vs' OX') res):CtO P f (xX Lc words OX) args (xX Lc words OX') res:=by
 refine ⟨λK ok w vs hp hrel=>?_⟩;obtain ⟨ks,ws,hS,hob⟩:=hp.obs 1000001 (.me false (MOk Lc)) rfl;obtain ⟨ks',ws',hS',hct⟩:=h ks ws hS;have hp2:Hp K ok w (xM Lc words ks ws OX):=hp.turn λk o g=>by
  rcases BC g with ⟨rfl,rfl⟩ | ⟨rfl,rfl⟩ | ⟨n1,n2,g⟩
  ·exact ⟨⟨_,rfl⟩,hp.obs 1000000 _ rfl⟩
  ·exact ⟨⟨_,rfl⟩,hob⟩
  ·exact ⟨⟨_,pw n1 n2 g⟩,hp.obs k o (pw n1 n2 g)⟩
 refine (hct.run K ok w vs hp2 hrel).mono λe w' ⟨v,K',ok',h1,h2,h3,h4⟩=>⟨v,K',ok',h1,h2,h3.turn λk o g=>?_,h4.turn (λk o g=>?_) λk o g=>?_⟩
 ·rcases BC g with ⟨rfl,rfl⟩ | ⟨rfl,rfl⟩ | ⟨n1,n2,g⟩
  ·exact ⟨⟨_,rfl⟩,h3.obs 1000000 _ rfl⟩
  ·exact ⟨⟨_,rfl⟩,ks',ws',hS',h3.obs 1000001 _ rfl⟩
  ·exact ⟨⟨_,pw n1 n2 g⟩,h3.obs k o (pw n1 n2 g)⟩
 ·rcases BC g with ⟨rfl,rfl⟩ | ⟨rfl,rfl⟩ | ⟨n1,n2,g⟩
  ·exact ⟨_,rfl⟩
  ·exact ⟨_,rfl⟩
  ·exact ⟨_,pw n1 n2 g⟩
 ·rcases BC g with ⟨rfl,rfl⟩ | ⟨rfl,rfl⟩ | ⟨n1,n2,g⟩
  ·exact ⟨_,rfl⟩
  ·exact ⟨_,rfl⟩
  ·exact ⟨_,pw n1 n2 g⟩
section
variable {Lc:List (List Cnt)} {words:Int}
theorem zD (hx:XOk Lc words) (h:List Int) (hl:h.length≤1000000) (w:Int):CtO P 115 (xE Lc words) [.c (.ad 1000000 0),.c (iSl h),.c (eI .i64 w)] (xE Lc words) [qP (a9 Lc words h w)]:=
 .ex λks vs hm=>by
  obtain ⟨m',h'⟩:=zC hx ⟨(ks,vs),hm⟩ h hl w;exact ⟨_,_,m'.2,h'⟩
theorem fq:CtO P 42 (xE Lc words) [.c (.ad 1000000 0)] (xE Lc words) [.c (eI .i64 words)]:=.ex λks vs hm=>⟨ks,vs,hm,kP⟩
end
end
section
section
variable {Lc:List (List Cnt)} {words:Int} {ks:List Value} {vs:List (List PC)}
theorem sJ (hx:XOk Lc words) (hm:MOk Lc ks vs) (H h:List Int) (lo n:Nat) (hh0:h=(H.drop lo).take n) (hH:H.length≤1000000) (hle:lo+n≤H.length) (hh:h.length<Lc.length) :
  ∃ ks' vs',MOk Lc ks' vs'∧CtO P 159 (zz Lc words ks vs (aI H)) [.c (.ad 1000000 0),.c (.os 1000002 1 lo n)] (zz Lc words ks' vs' (aI H)) [.c (jp Lc h)]:=by
 have hn:h.length=n:=by rw[hh0,EJ,E8]; omega
 have esub:iSl h = .sl 1 (((aI H).drop lo).take n):=by rw[hh0]; exact congrArg _ iRow_sub.symm
 have h8:=hx.len8;have hln:=hx.lim.at' hh;have e:Lc.getD h.length []=Lc[h.length]:=by simp[Ev,hh]
 by_cases hk:dy h=true
 ·obtain ⟨r,f1,f2⟩:=lD (qk h) ks 0 hm.str;have hkey:=mH h (by omega);rw[if_pos hk,if_pos hk,esub]at hkey
  cases r with
  | some j=>
   obtain ⟨_,f3⟩:=f2 j rfl;rw[Gk]at f3;obtain ⟨h',g1,g2,g3⟩:=hm.at' j _ f3;have e':h=h':=sC hk g1 (by injection g2);subst e';refine ⟨ks,vs,hm,?_⟩;refine Ct.io aj aa (N:=63) Tryz.func159 rfl rfl rfl rfl ?_;refine X2 .look (X1 _ hkey ?_);refine ⟨some j,.c (jp Lc h),f1,⟨_,g3,rfl⟩,?_⟩;exact ⟨HB,sF rfl rfl rfl,r1 rfl,HB⟩
  | none=>
   refine ⟨ks++[.string (qk h)],vs++[[jp Lc h]],?_,?_⟩
   ·refine ⟨by simp[hm.len],λi k hi=>?_⟩;have hlen:∀ i k,ks[i]? = some k→i<vs.length:=λi k hi=>by
     obtain ⟨_,_,_,g3⟩:=hm.at' i k hi;exact (Ez.1 g3).1
    rcases FP i ks.length with hlt | heq | hgt
    ·rw[EF hlt]at hi;rw[EF (hlen i k hi)];exact hm.at' i k hi
    ·subst heq;rw[ED (Ew _),G1]at hi;cases hi;refine ⟨h,hk,rfl,?_⟩;rw[ED (Nat.le_of_eq hm.len.symm),hm.len,G1];rfl
    ·rw[ET (by simp; omega)]at hi; cases hi
   ·have haft:=pt Lc[h.length] h hln (hx.rises _ (EI hh)) (by omega) (hx.tot _ (EI hh));rw[esub]at haft;refine Ct.io aj aa (N:=63) Tryz.func159 rfl rfl rfl rfl ?_;refine X2 .look (X1 _ hkey ?_);refine ⟨none,.c (.sc (.pointer none)),f1,rfl,?_⟩;refine .intro (by omega) ?_;refine .intro (by omega) (X1 _ (bK (n:=h.length) (by omega) hh) ?_);refine X2 .look (X1 _ haft ?_);refine .intro (by omega) ?_;refine .intro (by omega) (X1 _ (fp (n:=h.length) (by omega) hh) ?_);refine X1 _ (va hx h hh) ?_;refine .intro rfl ?_;refine ⟨[55],none,f1,rfl,?_⟩;have hc:uc Lc h=nI .i64 (totN (after Lc[h.length] h))::(qP (fk Lc h)).cells:=by unfold uc; rw[e]
    unfold jp;rw[hc];exact ⟨HB,sF rfl rfl rfl,r1 rfl,HB⟩
 ·refine ⟨ks,vs,hm,?_⟩;have hkey:=mH h (by omega);rw[if_neg hk,if_neg hk,esub]at hkey;refine Ct.keep aj aa [20] (N:=63) Tryz.func159 rfl rfl rfl rfl ?_;refine X2 .look (X1 _ hkey ?_);refine X1 _ (be 1 (by omega)) ?_;unfold jp;rw[n9 hx hh hk];exact ⟨HB,sF rfl rfl rfl,r1 rfl,HB⟩
abbrev hO (H:List Int):Objs:=[(1000002,some (.row 1 (aI H)))]
theorem sK (hx:XOk Lc words) (H h:List Int) (lo n:Nat) (hh0:h=(H.drop lo).take n) (hH:H.length≤1000000) (hle:lo+n≤H.length) (hh:h.length<Lc.length) :
  CtO P 159 (xX Lc words (hO H)) [.c (.ad 1000000 0),.c (.os 1000002 1 lo n)] (xX Lc words (hO H)) [.c (jp Lc h)]:=.ex λks vs hm=>sJ hx hm H h lo n hh0 hH hle hh
theorem od (hx:XOk Lc words) (g:List Int) (els:List (List PC)) (he:els=aI g) (m:Nat) (hm:m=g.length) (h1:1≤g.length) (hg:g.length≤Lc.length) :
  CtO P 160 (xX Lc words [(1000002,some (.row 1 els))]) [.c (.ad 1000000 0),.c (.ow 1000002 1 m)] (xX Lc words [(1000002,some (.row 1 els))]) [.c (eI .i64 (bz Lc g))]:=
 .ex λks vs hk=>⟨ks,vs,hk,oc hx g els he m hm h1 hg⟩
theorem je (hx:XOk Lc words):CtO P 41 (xE Lc words) [.c (.ad 1000000 0)] (xE Lc words) [.c (nI .i64 Lc.length)]:=.ex λks vs hm=>⟨ks,vs,hm,iD hx⟩
theorem wq (H h:List Int) (lo n:Nat) (hh0:h=(H.drop lo).take n) (hH:H.length≤1000000) (hle:lo+n≤H.length) :
  CtO P 46 (hO H) [.c (.os 1000002 1 lo n)] [(1000002,some (.row 1 (aI H))),(5,some (.row 1 (aI h)))] [.c (.ow 5 1 h.length)]:=by
 have hn:h.length=n:=by rw[hh0,EJ,E8]; omega
 have esub:((aI H).drop lo).take n=aI h:=by rw[hh0]; exact iRow_sub
 refine Ct.keepI aj [] (N:=8) Tryz.func46 rfl rfl rfl rfl ?_;refine dR aj aa ?_;refine vZ ?_;refine dR aj aa ?_;intro b hb;refine yN (b:=b) rfl (λe=>?_) (λe=>?_)
 ·subst e;have:h=[]:=EZ.1 (by have:=hb rfl; omega);subst this;refine dR aj aa ?_;refine jo (r:=5) (t:=2) (sz:=1) rfl rfl ?_;exact DN ⟨HB,SubO.of (l:=[(1000002,.row 1 (aI H)),(5,.row 1 [])]) ⟨rfl,rfl,HB⟩,r1 rfl,HB⟩
 ·subst e;refine yO ?_;refine kE aj aa ?_;refine ⟨rfl,by rw[esub,ac]; show (0+h.length+768)*8≤_; omega,by rw[esub,ac]; show 0+h.length≤_; omega,b9,by rw[esub]; exact bc,?_⟩;exact ⟨HB,SubO.of (l:=[(1000002,.row 1 (aI H)),(5,.row 1 (aI h))]) ⟨rfl,aB (by rw[esub]; rfl),HB⟩,r1 (owE (by rw[esub]; show (aI h).length=_; rw[ac])),HB⟩
abbrev σ3:List (Nat × Nat):=[(1000000,1000000),(1000001,1000001),(1000002,1000002)]
theorem cv {OX:Objs} {l:List (Nat × Ob)} (hl:OX=ce l) {O:Objs} (h1:O.get 1000000=some (xC Lc words 1000001)) (h2:O.get 1000001=some (.me false (MOk Lc))) (h3:bs O l):SubO (xX Lc words OX) O:=by
 subst hl;exact SubO.of (l:=(1000000,xC Lc words 1000001)::(1000001,.me false (MOk Lc))::l) ⟨h1,h2,h3⟩
theorem wt (w:Int) (hw:w<0∨words≤w∨w=1) (H:List Int) :
  CtO P 115 (xX Lc words (hO H)) [.c (.ad 1000000 0),.c (.ow 1000002 1 H.length),.c (eI .i64 w)] (xX Lc words (hO H)) [qP (0,1)]:=by
 refine Ct.io aj aa (N:=101) Tryz.func115 rfl rfl rfl rfl ?_;refine ae (λh1=>?_) (λh1=>?_)
 ·refine X1 _ (be 0 (by omega)) ?_;exact ⟨HB,cv (l:=[(1000002,.row 1 (aI H))]) rfl rfl rfl ⟨rfl,HB⟩,rc rfl,HB⟩
 ·refine X2 (.own σx σx) ?_;refine ⟨_,_,fq,?_⟩;refine ae (λh2=>?_) (λh2=>?_)
  ·refine X1 _ (be 0 (by omega)) ?_;exact ⟨HB,cv (l:=[(1000002,.row 1 (aI H))]) rfl rfl rfl ⟨rfl,HB⟩,rc rfl,HB⟩
  ·refine aT (λh3=>?_) (λh3=>?_)
   ·refine X1 _ (be 0 (by omega)) ?_;exact ⟨HB,cv (l:=[(1000002,.row 1 (aI H))]) rfl rfl rfl ⟨rfl,HB⟩,rc rfl,HB⟩
   ·exfalso; omega
theorem oe (hx:XOk Lc words) (h:List Int) (hh:h.length<Lc.length):CtO P 159 (xE Lc words) [.c (.ad 1000000 0),.c (iSl h)] (xE Lc words) [.c (jp Lc h)]:=.ex λks vs hm=>oa hx hm h hh
set_option maxHeartbeats 16000000 in
theorem wu (hx:XOk Lc words) {H:List Int} {w:Int} (hl:H.length≤1000000) (hl1:1≤H.length) (hw:¬ (w<0∨words≤w∨w=1)) (h2L:2≤Lc.length) :
  CtO P 115 (xX Lc words (hO H)) [.c (.ad 1000000 0),.c (.ow 1000002 1 H.length),.c (eI .i64 w)] (xX Lc words (hO H)) [qP (pF Lc words w (cO Lc H))]:=by
 have h8:=hx.len8;have h0:=hx.len0;have w3:=hx.w3;have w6:=hx.w6;refine Ct.keepI (Ty.own_ok [46,1000001] aj) [] (N:=101) Tryz.func115 rfl rfl rfl rfl ?_;refine Eg (t:=1) rfl (by omega) ?_;refine kE (Ty.own_ok [46,1000001] aj) aa ?_;refine ae (λh1=>?_) (λh1=>?_)
 ·exfalso; omega
 refine X2 (.own σx σx) ?_;refine ⟨_,_,fq,?_⟩;refine ae (λh2=>?_) (λh2=>?_)
 ·exfalso; omega
 refine aT (λh3=>?_) (λh3=>?_)
 ·exfalso; omega
 refine .intro (by omega) ?_;refine X2 (.own σx σx) ?_;refine ⟨_,_,je hx,?_⟩;have hclt:=jd hx H;refine ae (λhc=>?_) (λhc=>?_);have e:cO Lc H=H.drop (H.length-Lc.length+1):=if_pos (by omega);refine .intro (by omega) ?_;refine X2 (.own σx σx) ?_;refine ⟨_,_,je hx,?_⟩;refine X1 ((H.length-Lc.length:Nat):Int) (wI (by omega) (by omega) (by omega)) ?_;refine X1 ((H.length-Lc.length+1:Nat):Int) (wI (by omega) (by omega) (by omega)) ?_;refine ⟨H.length-Lc.length+1,H.length,rfl,rfl,Ew _,.inr ⟨by omega,?_⟩⟩;rw[show 0+(H.length-Lc.length+1)=H.length-Lc.length+1 by omega];have hlo:H.length-Lc.length+1<H.length:=by omega
 rw[e]at hclt ⊢;generalize H.length-Lc.length+1=lo at *
 rotate_left;have e:cO Lc H=H:=if_neg (by omega);have hlo:0<H.length:=by omega
 rw[e]at hclt ⊢;obtain ⟨lo,hz0⟩:∃ lo:Nat,lo=0:=⟨0,rfl⟩;rw[show H=H.drop lo by rw[hz0]; rfl]at hclt;rw[show pF Lc words w H=pF Lc words w (H.drop lo) by rw[hz0]; rfl];rw[show (PC.os 1000002 1 0 H.length)=PC.os 1000002 1 lo (H.length-lo) by rw[hz0,Gk]];replace hlo:lo<H.length:=by omega
 all_goals
  have hl2:(H.drop lo).length=H.length-lo:=E8;obtain ⟨h',hh'⟩:∃ h',h'=H.drop lo:=⟨_,rfl⟩;rw[←hh']at hl2 hclt ⊢;rw[←hl2];refine X1 _ (be 1 (by omega)) ?_;refine X1 (((words-1).toNat:Nat):Int) (wI (by omega) (by omega) (by omega)) ?_;refine X1 _ (gP (p:=(1,1)) (k:=63) (words-1).toNat (bd1 (n:=1) (by omega)) (by omega) (by omega) (by omega)) ?_;refine .intro rfl ?_;refine ax (Ty.own_ok [46,1000001] aj) aa (λn:Nat=>n≤h'.length+1) (λn=>[(0,.c (.ad 1000000 0)),(1,.c (.os 1000002 1 lo h'.length)),(2,.c (eI .i64 w)),(6,.c (.ad 6 0)),(7,.c (.ad 7 0)),(8,.c (nI .i64 n))])
   (λn=>[(6,.var [.sc (.slice none 0 0),.sc (.slice none 0 0)]),(7,.var (qP (pN Lc words w h' n)).cells),(1000000,xC Lc words 1000001),(1000001,.me false (MOk Lc)),(1000002,.row 1 (aI H))]) (λn=>h'.length+1-n)
   0 (by omega) ⟨rfl,rfl,rfl,rfl,rfl,rfl,HB⟩ ⟨rfl,rfl,rfl,rfl,rfl,HB⟩ (λ_:Unit=>True) (λ_=>[(6,.c (.ad 6 0)),(7,.c (.ad 7 0))])
   (λ_=>[(6,.var [.sc (.slice none 0 0),.sc (.slice none 0 0)]),(7,.var (qP (pF Lc words w h')).cells),(1000000,xC Lc words 1000001),(1000001,.me false (MOk Lc)),(1000002,.row 1 (aI H))]) (λn hn=>?_) (λ_ _=>?_)
  ·refine .intro (by omega) ?_;refine ae (λh5=>?_) (λh5=>?_)
   ·have hn':n≤h'.length:=by omega
    have hstep:=qL (Lc:=Lc) (words:=words) (w:=w) hn';have hpb:=zB hx w h' (n:=n) (by omega);have hnl:(h'.drop (h'.length-n)).length=n:=by rw[E8]; omega
    refine .intro (by omega) ?_;refine X1 ((h'.length-n:Nat):Int) (wI (by omega) (by omega) (by omega)) ?_;rcases F7 n with hz | hp
    ·have hnn:h'.drop (h'.length-n)=[]:=EZ.1 (by omega);rw[hnn]at hstep hnl;refine ⟨h'.length-n,h'.length,rfl,rfl,Ew _,.inl ⟨by omega,?_⟩⟩;rw[show (PC.sl 1 [])=iSl [] from rfl];generalize ([]:List Int)=near at *
     refine X2 (.own σx σx) ?_;refine ⟨_,_,oe hx near (by omega),?_⟩;have hnlt:near.length<Lc.length:=by omega
     have hlv:lvl Lc near=Lc[near.length]:=fJ hnlt;have htl:=jc hx near;refine aT (λh6=>?_) (λh6=>?_)
     ·have h7:totN (after (lvl Lc near) near)=0:=by
       have:((totN (after (lvl Lc near) near):Nat):Int)=0:=h6;omega
      unfold dJ at hstep;rw[if_pos h7]at hstep;refine X1 ((n+1:Nat):Int) (wI (by simp) (by omega) (by omega)) ?_;refine ⟨n+1,by omega,by omega,⟨rfl,rfl,rfl,rfl,rfl,rfl,HB⟩,⟨rfl,by rw[←hstep]; rfl,rfl,rfl,rfl,HB⟩⟩
     ·have h7:totN (after (lvl Lc near) near)≠0:=λh=>h6 (congrArg Nat.cast h)
      unfold dJ at hstep;rw[if_neg h7]at hstep;have hnb:=gt hx (near++[w]);have hnl2:(near++[w]).length=n+1:=by simp[hnl]
      refine X2 (.own [] [(5,68)]) ?_;refine ⟨_,_,jb near (by omega),?_⟩;refine ⟨by rw[ac],by rw[ac,hnl]; show (n+1+768)*8≤_; omega,by rw[ac,hnl]; show n+1≤_; omega,bc,aw rfl,?_⟩;refine X2 (.own [(1000000,1000000),(1000001,1000001),(68,1000002)] [(1000000,1000000),(1000001,1000001),(1000002,68)]) ?_;refine ⟨_,_,od hx (near++[w]) _ (by simp[aI]; rfl) _ (by rw[hnl2]; show ((aI near)++_).length=_; simp[aI,hnl]) (by omega) (by omega),?_⟩;have hbd1:Bd 63 (nz ((bz Lc (near++[w])).toNat,1)):=bd1 (by omega);have hbd2:Bd 500 (nz (gAt (0,0) (dw (aq Lc[near.length] 1) (aq Lc[near.length] 2) (aq Lc[near.length] 3) (aq Lc[near.length] 4) 1) (dw (aq Lc[near.length] 1) (aq Lc[near.length] 2) (aq Lc[near.length] 3) (aq Lc[near.length] 4) 2) (dw (aq Lc[near.length] 1) (aq Lc[near.length] 2) (aq Lc[near.length] 3) (aq Lc[near.length] 4) 3) (bz Lc (near++[w])))):=by
       rw[iF (hx.lim.at' hnlt)]; exact jM (hx.lim.at' hnlt) _
      have hsub:=iZ hbd1 hbd2 (by omega) (by omega);have eow:cD ((bz Lc (near++[w])).toNat,1) (atN Lc[near.length] (bz Lc (near++[w])))=owF Lc w near:=by unfold owF; rw[hlv]
      rw[iF (hx.lim.at' hnlt),nz1,eow]at hsub;have hgr:=fp (ls:=Lc) (i:=(n:Int)) (n:=near.length) (by rw[hnl]) hnlt;refine X1 (((bz Lc (near++[w])).toNat:Nat):Int) (wU (by omega) (by omega) (by omega)) ?_;refine X1 _ (be _ (by omega)) ?_;refine .intro (by omega) (X1 _ hgr ?_);refine X1 _ (qw _ _ _ _ _) ?_;refine X1 _ hsub ?_;refine .intro rfl ?_;have hob:Bd 600 (nz (owF Lc w near)):=by rw[au (cJ hx w near)]; exact cJ hx w near
      have hby:=gP (totN (after (lvl Lc near) near)) hob (by omega) h7 (by omega);rw[au (cJ hx w near)]at hby;refine X1 _ hby ?_;have hg:=gN hx near;have hmul:=eq (p:=fk Lc near) (q:=pN Lc words w h' n) (by rw[au hg]; exact hg) (by rw[au hpb]; exact hpb) (by omega) (by omega);rw[au hg,au hpb]at hmul;refine X1 _ hmul ?_;have hb1:=lG hx w near h7;have hb2:=bf hg hpb;have hadd:=kN (p:=c9 (owF Lc w near) (totN (after (lvl Lc near) near),1)) (q:=cI (fk Lc near) (pN Lc words w h' n)) (by rw[au hb1]; exact hb1) (by rw[au hb2]; exact hb2) (by rw[au hb1]; exact iy (EU (cJ hx w near).pos h7)) (by omega) (by omega);rw[au hb1,au hb2]at hadd;refine X1 _ hadd ?_;refine .intro rfl ?_;refine X1 ((n+1:Nat):Int) (wI (by simp) (by omega) (by omega)) ?_;refine ⟨n+1,by omega,by omega,⟨rfl,rfl,rfl,rfl,rfl,rfl,HB⟩,⟨rfl,by rw[←hstep]; rfl,rfl,rfl,rfl,HB⟩⟩
    ·have hnear:h'.drop (h'.length-n)=(H.drop (lo+(h'.length-n))).take (h'.length-(h'.length-n)):=by
      have e1:h'.drop (h'.length-n)=H.drop (lo+(h'.length-n)):=by
       conv=>lhs; rw[hh',Gf]
       rw[←hh']
      rw[e1,E3 (by rw[E8]; omega)]
     refine ⟨h'.length-n,h'.length,rfl,rfl,Ew _,.inr ⟨by omega,?_⟩⟩;rw[show h'.length-(h'.length-n)=n by omega]at hnear ⊢;generalize h'.drop (h'.length-n)=near at *
     refine X2 (.own σ3 σ3) ?_;refine ⟨_,_,sK hx H near (lo+(h'.length-n)) n hnear hl (by omega) (by omega),?_⟩;have hnlt:near.length<Lc.length:=by omega
     have hlv:lvl Lc near=Lc[near.length]:=fJ hnlt;have htl:=jc hx near;refine aT (λh6=>?_) (λh6=>?_)
     ·have h7:totN (after (lvl Lc near) near)=0:=by
       have:((totN (after (lvl Lc near) near):Nat):Int)=0:=h6;omega
      unfold dJ at hstep;rw[if_pos h7]at hstep;refine X1 ((n+1:Nat):Int) (wI (by simp) (by omega) (by omega)) ?_;refine ⟨n+1,by omega,by omega,⟨rfl,rfl,rfl,rfl,rfl,rfl,HB⟩,⟨rfl,by rw[←hstep]; rfl,rfl,rfl,rfl,HB⟩⟩
     ·have h7:totN (after (lvl Lc near) near)≠0:=λh=>h6 (congrArg Nat.cast h)
      unfold dJ at hstep;rw[if_neg h7]at hstep;have hnb:=gt hx (near++[w]);have hnl2:(near++[w]).length=n+1:=by simp[hnl]
      refine X2 (.own [(1000002,1000002)] [(1000002,1000002),(5,68)]) ?_;refine ⟨_,_,wq H near _ n hnear hl (by omega),?_⟩;refine ⟨by rw[ac],by rw[ac,hnl]; show (n+1+768)*8≤_; omega,by rw[ac,hnl]; show n+1≤_; omega,bc,aw rfl,?_⟩;refine X2 (.own [(1000000,1000000),(1000001,1000001),(68,1000002)] [(1000000,1000000),(1000001,1000001),(1000002,68)]) ?_;refine ⟨_,_,od hx (near++[w]) _ (by simp[aI]; rfl) _ (by rw[hnl2]; show ((aI near)++_).length=_; simp[aI,hnl]) (by omega) (by omega),?_⟩;have hbd1:Bd 63 (nz ((bz Lc (near++[w])).toNat,1)):=bd1 (by omega);have hbd2:Bd 500 (nz (gAt (0,0) (dw (aq Lc[near.length] 1) (aq Lc[near.length] 2) (aq Lc[near.length] 3) (aq Lc[near.length] 4) 1) (dw (aq Lc[near.length] 1) (aq Lc[near.length] 2) (aq Lc[near.length] 3) (aq Lc[near.length] 4) 2) (dw (aq Lc[near.length] 1) (aq Lc[near.length] 2) (aq Lc[near.length] 3) (aq Lc[near.length] 4) 3) (bz Lc (near++[w])))):=by
       rw[iF (hx.lim.at' hnlt)]; exact jM (hx.lim.at' hnlt) _
      have hsub:=iZ hbd1 hbd2 (by omega) (by omega);have eow:cD ((bz Lc (near++[w])).toNat,1) (atN Lc[near.length] (bz Lc (near++[w])))=owF Lc w near:=by unfold owF; rw[hlv]
      rw[iF (hx.lim.at' hnlt),nz1,eow]at hsub;have hgr:=fp (ls:=Lc) (i:=(n:Int)) (n:=near.length) (by rw[hnl]) hnlt;refine X1 (((bz Lc (near++[w])).toNat:Nat):Int) (wU (by omega) (by omega) (by omega)) ?_;refine X1 _ (be _ (by omega)) ?_;refine .intro (by omega) (X1 _ hgr ?_);refine X1 _ (qw _ _ _ _ _) ?_;refine X1 _ hsub ?_;refine .intro rfl ?_;have hob:Bd 600 (nz (owF Lc w near)):=by rw[au (cJ hx w near)]; exact cJ hx w near
      have hby:=gP (totN (after (lvl Lc near) near)) hob (by omega) h7 (by omega);rw[au (cJ hx w near)]at hby;refine X1 _ hby ?_;have hg:=gN hx near;have hmul:=eq (p:=fk Lc near) (q:=pN Lc words w h' n) (by rw[au hg]; exact hg) (by rw[au hpb]; exact hpb) (by omega) (by omega);rw[au hg,au hpb]at hmul;refine X1 _ hmul ?_;have hb1:=lG hx w near h7;have hb2:=bf hg hpb;have hadd:=kN (p:=c9 (owF Lc w near) (totN (after (lvl Lc near) near),1)) (q:=cI (fk Lc near) (pN Lc words w h' n)) (by rw[au hb1]; exact hb1) (by rw[au hb2]; exact hb2) (by rw[au hb1]; exact iy (EU (cJ hx w near).pos h7)) (by omega) (by omega);rw[au hb1,au hb2]at hadd;refine X1 _ hadd ?_;refine .intro rfl ?_;refine X1 ((n+1:Nat):Int) (wI (by simp) (by omega) (by omega)) ?_;refine ⟨n+1,by omega,by omega,⟨rfl,rfl,rfl,rfl,rfl,rfl,HB⟩,⟨rfl,by rw[←hstep]; rfl,rfl,rfl,rfl,HB⟩⟩
   ·have en:n=h'.length+1:=by omega
    subst en;have e2:pN Lc words w h' (h'.length+1)=pF Lc words w h':=by simp[pN]
    exact ⟨(),HB,⟨rfl,rfl,HB⟩,⟨rfl,by rw[e2]; rfl,rfl,rfl,rfl,HB⟩⟩
  ·exact ⟨HB,cv (l:=[(1000002,.row 1 (aI H))]) rfl rfl rfl ⟨rfl,HB⟩,rc rfl,HB⟩
set_option maxHeartbeats 8000000 in
theorem wv (hx:XOk Lc words) {H:List Int} {w:Int} (hl:H.length≤1000000) (hl1:1≤H.length) (hw:¬ (w<0∨words≤w∨w=1)) (h1L:Lc.length=1) :
  CtO P 115 (xX Lc words (hO H)) [.c (.ad 1000000 0),.c (.ow 1000002 1 H.length),.c (eI .i64 w)] (xX Lc words (hO H)) [qP (pF Lc words w (cO Lc H))]:=by
 have h8:=hx.len8;have h0:=hx.len0;have w3:=hx.w3;have w6:=hx.w6;refine Ct.io (Ty.own_ok [46,1000001] aj) aa (N:=101) Tryz.func115 rfl rfl rfl rfl ?_;refine ae (λh1=>?_) (λh1=>?_)
 ·exfalso; omega
 refine X2 (.own σx σx) ?_;refine ⟨_,_,fq,?_⟩;refine ae (λh2=>?_) (λh2=>?_)
 ·exfalso; omega
 refine aT (λh3=>?_) (λh3=>?_)
 ·exfalso; omega
 refine .intro (by omega) ?_;refine X2 (.own σx σx) ?_;refine ⟨_,_,je hx,?_⟩;refine ae (λhc=>?_) (λhc=>?_);rotate_left
 ·exfalso; omega
 refine .intro (by omega) ?_;refine X2 (.own σx σx) ?_;refine ⟨_,_,je hx,?_⟩;refine X1 ((H.length-1:Nat):Int) (wI (by omega) (by omega) (by omega)) ?_;refine X1 ((H.length:Nat):Int) (wI (by omega) (by omega) (by omega)) ?_;refine .inl ⟨H.length,H.length,rfl,rfl,Ew _,by omega,.inl ⟨rfl,?_⟩⟩;have e:cO Lc H=[]:=by
  unfold cO;rw[if_pos (by omega)];exact EZ.1 (by rw[E8]; omega)
 rw[e,show (PC.sl 1 [])=iSl [] from rfl];obtain ⟨h',hh'⟩:∃ h':List Int,h'=[]:=⟨_,rfl⟩;rw[←hh'];have hl':h'.length≤1000000:=by rw[hh']; decide
 have hclt:h'.length<Lc.length:=by rw[hh']; show 0<_; omega
 refine X1 _ (be 1 (by omega)) ?_;refine X1 (((words-1).toNat:Nat):Int) (wI (by omega) (by omega) (by omega)) ?_;refine X1 _ (gP (p:=(1,1)) (k:=63) (words-1).toNat (bd1 (n:=1) (by omega)) (by omega) (by omega) (by omega)) ?_;refine .intro rfl ?_;refine ax (Ty.own_ok [46,1000001] aj) aa (λn:Nat=>n≤h'.length+1) (λn=>[(0,.c (.ad 1000000 0)),(1,.c (iSl h')),(2,.c (eI .i64 w)),(6,.c (.ad 6 0)),(7,.c (.ad 7 0)),(8,.c (nI .i64 n))])
  (λn=>[(6,.var [.sc (.slice none 0 0),.sc (.slice none 0 0)]),(7,.var (qP (pN Lc words w h' n)).cells),(1000000,xC Lc words 1000001),(1000001,.me false (MOk Lc)),(1000002,.row 1 (aI H))]) (λn=>h'.length+1-n)
  0 (by omega) ⟨rfl,rfl,rfl,rfl,rfl,rfl,HB⟩ ⟨rfl,rfl,rfl,rfl,rfl,HB⟩ (λ_:Unit=>True) (λ_=>[(6,.c (.ad 6 0)),(7,.c (.ad 7 0))])
  (λ_=>[(6,.var [.sc (.slice none 0 0),.sc (.slice none 0 0)]),(7,.var (qP (pF Lc words w h')).cells),(1000000,xC Lc words 1000001),(1000001,.me false (MOk Lc)),(1000002,.row 1 (aI H))]) (λn hn=>?_) (λ_ _=>?_)
 ·refine .intro (by rw[ac]; omega) ?_;rw[ac];refine ae (λh5=>?_) (λh5=>?_)
  ·have hn':n≤h'.length:=by omega
   have hstep:=qL (Lc:=Lc) (words:=words) (w:=w) hn';have hpb:=zB hx w h' (n:=n) (by omega);have hnl:(h'.drop (h'.length-n)).length=n:=by rw[E8]; omega
   refine .intro (by rw[ac]; omega) ?_;rw[ac];refine X1 ((h'.length-n:Nat):Int) (wI (by omega) (by omega) (by omega)) ?_;refine ⟨h'.length-n,h'.length,rfl,by show ((aI h').length:Int)=_; rw[ac],by omega,by rw[ac]; exact Ew _,?_⟩;rw[iRow_sub,E3 (by rw[hnl]; omega)];generalize h'.drop (h'.length-n)=near at *
   refine X2 (.own σx σx) ?_;refine ⟨_,_,oe hx near (by omega),?_⟩;have hnlt:near.length<Lc.length:=by omega
   have hlv:lvl Lc near=Lc[near.length]:=fJ hnlt;have htl:=jc hx near;refine aT (λh6=>?_) (λh6=>?_)
   ·have h7:totN (after (lvl Lc near) near)=0:=by
     have:((totN (after (lvl Lc near) near):Nat):Int)=0:=h6;omega
    unfold dJ at hstep;rw[if_pos h7]at hstep;refine X1 ((n+1:Nat):Int) (wI (by simp) (by omega) (by omega)) ?_;refine ⟨n+1,by omega,by omega,⟨rfl,rfl,rfl,rfl,rfl,rfl,HB⟩,⟨rfl,by rw[←hstep]; rfl,rfl,rfl,rfl,HB⟩⟩
   ·have h7:totN (after (lvl Lc near) near)≠0:=λh=>h6 (congrArg Nat.cast h)
    unfold dJ at hstep;rw[if_neg h7]at hstep;have hnb:=gt hx (near++[w]);have hnl2:(near++[w]).length=n+1:=by simp[hnl]
    refine X2 (.own [] [(5,68)]) ?_;refine ⟨_,_,jb near (by omega),?_⟩;refine ⟨by rw[ac],by rw[ac,hnl]; show (n+1+768)*8≤_; omega,by rw[ac,hnl]; show n+1≤_; omega,bc,aw rfl,?_⟩;refine X2 (.own [(1000000,1000000),(1000001,1000001),(68,1000002)] [(1000000,1000000),(1000001,1000001),(1000002,68)]) ?_;refine ⟨_,_,od hx (near++[w]) _ (by simp[aI]; rfl) _ (by rw[hnl2]; show ((aI near)++_).length=_; simp[aI,hnl]) (by omega) (by omega),?_⟩;have hbd1:Bd 63 (nz ((bz Lc (near++[w])).toNat,1)):=bd1 (by omega);have hbd2:Bd 500 (nz (gAt (0,0) (dw (aq Lc[near.length] 1) (aq Lc[near.length] 2) (aq Lc[near.length] 3) (aq Lc[near.length] 4) 1) (dw (aq Lc[near.length] 1) (aq Lc[near.length] 2) (aq Lc[near.length] 3) (aq Lc[near.length] 4) 2) (dw (aq Lc[near.length] 1) (aq Lc[near.length] 2) (aq Lc[near.length] 3) (aq Lc[near.length] 4) 3) (bz Lc (near++[w])))):=by
     rw[iF (hx.lim.at' hnlt)]; exact jM (hx.lim.at' hnlt) _
    have hsub:=iZ hbd1 hbd2 (by omega) (by omega);have eow:cD ((bz Lc (near++[w])).toNat,1) (atN Lc[near.length] (bz Lc (near++[w])))=owF Lc w near:=by unfold owF; rw[hlv]
    rw[iF (hx.lim.at' hnlt),nz1,eow]at hsub;have hgr:=fp (ls:=Lc) (i:=(n:Int)) (n:=near.length) (by rw[hnl]) hnlt;refine X1 (((bz Lc (near++[w])).toNat:Nat):Int) (wU (by omega) (by omega) (by omega)) ?_;refine X1 _ (be _ (by omega)) ?_;refine .intro (by omega) (X1 _ hgr ?_);refine X1 _ (qw _ _ _ _ _) ?_;refine X1 _ hsub ?_;refine .intro rfl ?_;have hob:Bd 600 (nz (owF Lc w near)):=by rw[au (cJ hx w near)]; exact cJ hx w near
    have hby:=gP (totN (after (lvl Lc near) near)) hob (by omega) h7 (by omega);rw[au (cJ hx w near)]at hby;refine X1 _ hby ?_;have hg:=gN hx near;have hmul:=eq (p:=fk Lc near) (q:=pN Lc words w h' n) (by rw[au hg]; exact hg) (by rw[au hpb]; exact hpb) (by omega) (by omega);rw[au hg,au hpb]at hmul;refine X1 _ hmul ?_;have hb1:=lG hx w near h7;have hb2:=bf hg hpb;have hadd:=kN (p:=c9 (owF Lc w near) (totN (after (lvl Lc near) near),1)) (q:=cI (fk Lc near) (pN Lc words w h' n)) (by rw[au hb1]; exact hb1) (by rw[au hb2]; exact hb2) (by rw[au hb1]; exact iy (EU (cJ hx w near).pos h7)) (by omega) (by omega);rw[au hb1,au hb2]at hadd;refine X1 _ hadd ?_;refine .intro rfl ?_;refine X1 ((n+1:Nat):Int) (wI (by simp) (by omega) (by omega)) ?_;refine ⟨n+1,by omega,by omega,⟨rfl,rfl,rfl,rfl,rfl,rfl,HB⟩,⟨rfl,by rw[←hstep]; rfl,rfl,rfl,rfl,HB⟩⟩
  ·have en:n=h'.length+1:=by omega
   subst en;have e2:pN Lc words w h' (h'.length+1)=pF Lc words w h':=by simp[pN]
   exact ⟨(),HB,⟨rfl,rfl,HB⟩,⟨rfl,by rw[e2]; rfl,rfl,rfl,rfl,HB⟩⟩
 ·exact ⟨HB,cv (l:=[(1000002,.row 1 (aI H))]) rfl rfl rfl ⟨rfl,HB⟩,rc rfl,HB⟩
theorem ww (hx:XOk Lc words) (H:List Int) (hl:H.length≤1000000) (hl1:1≤H.length) (w:Int) :
  CtO P 115 (xX Lc words (hO H)) [.c (.ad 1000000 0),.c (.ow 1000002 1 H.length),.c (eI .i64 w)] (xX Lc words (hO H)) [qP (a9 Lc words H w)]:=by
 have h0:=hx.len0;unfold a9;by_cases hw:w<0∨words≤w∨w=1
 ·rw[if_pos hw]; exact wt w hw H
 ·rw[if_neg hw];by_cases h1:Lc.length=1
  ·exact wv hx hl hl1 hw h1
  ·exact wu hx hl hl1 hw (by omega)
end
end
section
def lH (n:Int):Bool:=n==9||n==11||n==12||n==13||n==32
theorem blE {a b:Bool} (h:a=b):(some (.c (.sc (.bool a))):Option AV)=some (.c (.sc (.bool b))):=by rw[h]
theorem sL (n:Int):Ct P 175 [.c (eI .u8 n)] [.c (.sc (.bool (lH n)))]:=by
 refine Ct.go aj aa (N:=21) Tryz.func175 rfl rfl rfl rfl ?_;refine aT (λh1=>?_) (λh1=>?_)
 ·exact ⟨HB,r1 (blE (by subst h1; rfl)),HB⟩
 ·refine aT (λh2=>?_) (λh2=>?_)
  ·exact ⟨HB,r1 (blE (by subst h2; rfl)),HB⟩
  ·refine aT (λh3=>?_) (λh3=>?_)
   ·exact ⟨HB,r1 (blE (by subst h3; rfl)),HB⟩
   ·refine aT (λh4=>?_) (λh4=>?_)
    ·exact ⟨HB,r1 (blE (by subst h4; rfl)),HB⟩
    ·exact ⟨HB,r1 (blE (show (n==32)=lH n by simp[lH,h1,h2,h3,h4])),HB⟩
abbrev sS (s:ByteArray):PC:=.sc (.string s)
def kQ (s:ByteArray):Bool:=(s.toList==(ByteArray.mk #[60,115,62]).toList)||(s.toList==(ByteArray.mk #[60,47,115,62]).toList)
theorem BD (s:ByteArray):Ct P 176 [.c (sS s)] [.c (.sc (.bool (kQ s)))]:=by
 refine Ct.go aj aa (N:=9) Tryz.func176 rfl rfl rfl rfl ?_;refine aP (λh1=>?_) (λh1=>?_)
 ·exact ⟨HB,r1 (blE (show true=kQ s by unfold kQ; rw[show (s.toList==(ByteArray.mk #[60,115,62]).toList)=true from h1]; rfl)),HB⟩
 ·exact ⟨HB,r1 (blE (show (s.toList==(ByteArray.mk #[60,47,115,62]).toList)=kQ s by unfold kQ; rw[show (s.toList==(ByteArray.mk #[60,115,62]).toList)=false from h1]; rfl)),HB⟩
def gQ (l:List ByteArray):List (List PC):=l.map λx=>[sS x]
abbrev sSl (l:List ByteArray):PC:=.sl 1 (gQ l)
theorem aM {l:List ByteArray}:(gQ l).length=l.length:=by simp[gQ]
theorem jf {l:List ByteArray} {i:Int} {n:Nat} (h0:i=n) (h:n<l.length):(gQ l)[i.toNat]? = some [sS l[n]]:=by
 subst h0;simp[gQ,h]
def cd (s:ByteArray):List ByteArray→Int
 | []=>-1
 | y::l=>if (y.toList==s.toList)=true then 0 else if cd s l<0 then -1 else cd s l+1
theorem mj (s:ByteArray):∀ (l:List ByteArray) (i:Nat) (h:i<l.length),(∀ (j:Nat) (hj:j<i),(l[j].toList==s.toList)=false)→(l[i].toList==s.toList)=true→cd s l=i
 | [],i,h,_,_=>by simp at h
 | y::l,0,_,_,h=>by simp at h; simp[cd,h]
 | y::l,i+1,hi,h1,h=>by
  have h0:=h1 0 (by omega);have:=mj s l i (by simpa using hi) (λj hj=>by simpa using h1 (j+1) (by omega)) (by simpa using h);simp only[GW]at h0;simp only[cd,this,h0];rw[if_neg (by simp),if_neg (by omega)];simp
theorem ml (s:ByteArray):∀ (l:List ByteArray),(∀ (j:Nat) (hj:j<l.length),(l[j].toList==s.toList)=false)→cd s l = -1
 | [],_=>rfl
 | y::l,h=>by
  have h0:=h 0 (by simp);have:=ml s l (λj hj=>h (j+1) (Nat.succ_lt_succ hj));simp only[GW]at h0;simp only[cd,this,h0];rw[if_neg (by simp),if_pos (by omega)]
theorem lI (l:List ByteArray) (s:ByteArray) (hl:l.length≤1000000):Ct P 137 [.c (sSl l),.c (sS s)] [.c (eI .i64 (cd s l))]:=by
 refine Ct.go aj aa (N:=19) Tryz.func137 rfl rfl rfl rfl ?_;refine ax aj aa (λi:Nat=>i≤l.length∧∀ (j:Nat) (hj:j<l.length),j<i→(l[j].toList==s.toList)=false) (λi=>[(0,.c (sSl l)),(1,.c (sS s)),(5,.c (nI .i64 i))]) (λ_=>[]) (λi=>l.length-i)
  0 ⟨by omega,λj _ hj=>by omega⟩ ⟨rfl,rfl,rfl,HB⟩ HB (λ_:Unit=>cd s l = -1) (λ_=>[]) (λ_=>[]) (λi hi=>?_) (λ_ he=>?_)
 ·obtain ⟨h1,h2⟩:=hi;refine .intro (by rw[aM]; omega) ?_;rw[aM];refine ae (λh5=>?_) (λh5=>?_)
  ·refine .intro (by omega) (X1 _ (jf rfl (by omega)) ?_);refine aP (λh6=>?_) (λh6=>?_)
   ·exact ⟨HB,r1 (iE (mj s l i (by omega) (λj hj=>h2 j (by omega) hj) h6).symm),HB⟩
   ·refine X1 ((i+1:Nat):Int) (wI1 (by omega)) ?_;refine ⟨i+1,⟨by omega,λj hj hji=>?_⟩,by omega,⟨rfl,rfl,rfl,HB⟩,HB⟩;by_cases e:j=i
    ·subst e; exact h6
    ·exact h2 j hj (by omega)
  ·exact ⟨(),ml s l (λj hj=>h2 j hj (by omega)),HB,HB⟩
 ·exact ⟨HB,r1 (iE he.symm),HB⟩
theorem wx (s:ByteArray) (l:List ByteArray):-1≤cd s l∧cd s l<l.length:=by
 induction l with
 | nil=>simp[cd]
 | cons y l ih=>
  simp only[cd,E7];split
  ·omega
  ·split<;>omega
theorem BE (l:List ByteArray) (s:ByteArray) (hl:l.length≤1000000):Ct P 179 [.c (sSl l),.c (sS s)] [.c (eI .i64 (if 0>cd s l then 0 else cd s l))]:=by
 refine Ct.go aj aa (N:=9) Tryz.func179 rfl rfl rfl rfl ?_;refine X1 _ (lI l s hl) ?_;exact ⟨HB,r1 rfl,HB⟩
def g9 (l:List ByteArray) (s:ByteArray):Int:=if 0>cd s l then 0 else cd s l
theorem Er {l:List Int} {x:Int}:aI l++[[eI .i64 x]]=aI (l++[x]):=by simp[aI]
theorem zE (l m:List ByteArray) (hl:l.length≤1000000) (hm:m.length≤1000000):Ct P 140 [.c (sSl l),.c (sSl m)] [.c (iSl (m.map (g9 l)))]:=by
 refine Ct.go aj aa (N:=23) Tryz.func140 rfl rfl rfl rfl ?_;refine jo (r:=50) (t:=5) (sz:=1) rfl rfl ?_;refine ax aj aa (λi:Nat=>i≤m.length) (λi=>[(0,.c (sSl l)),(1,.c (sSl m)),(5,.c (.ow 50 1 i)),(6,.c (nI .i64 i))]) (λi=>[(50,.row 1 (aI ((m.take i).map (g9 l))))]) (λi=>m.length-i)
  0 (by omega) ⟨rfl,rfl,rfl,rfl,HB⟩ ⟨rfl,HB⟩ (λ_:Unit=>True) (λ_=>[(5,.c (.ow 50 1 m.length))]) (λ_=>[(50,.row 1 (aI (m.map (g9 l))))]) (λi hi=>?_) (λ_ he=>?_)
 ·refine .intro (by rw[aM]; omega) ?_;rw[aM];refine ae (λh5=>?_) (λh5=>?_)
  ·refine .intro (by omega) (X1 _ (jf rfl (by omega)) ?_);refine X1 _ (BE l m[i] hl) ?_;have e0:(aI ((m.take i).map (g9 l))).length=i:=by simp[aI]; omega
   refine ⟨e0.symm,by rw[e0]; show (i+1+768)*8≤_; omega,by rw[e0]; show i+1≤_; omega,bc,iR,?_⟩;refine X1 ((i+1:Nat):Int) (wI1 (by omega)) ?_;have e1:(m.take (i+1)).map (g9 l)=(m.take i).map (g9 l)++[g9 l m[i]]:=by
    rw[EB (by omega),FG]; rfl
   exact ⟨i+1,by omega,by omega,⟨rfl,rfl,owE (by rw[Ey,e0]; rfl),rfl,HB⟩,⟨aB (by rw[e1,←Er]; rfl),HB⟩⟩
  ·have e:i=m.length:=by omega
   subst e;exact ⟨(),HB,⟨rfl,HB⟩,⟨aB (by rw[Fd]),HB⟩⟩
 ·exact ⟨HB,r1 rfl,HB⟩
def marks15:List ByteArray:=[⟨#[60,117,110,107,62]⟩,⟨#[60,115,62]⟩,⟨#[60,47,115,62]⟩]
theorem ud:Ct P 87 [] [.c (sSl marks15)]:=by
 refine Ct.go aj aa (N:=2) Tryz.func87 rfl rfl rfl rfl ?_;exact ⟨HB,r1 rfl,HB⟩
theorem dZ {l:List ByteArray}:aA (gQ l):=by
 intro el h;obtain ⟨x,_,rfl⟩:=Fb.1 h;rfl
theorem kR (l:List ByteArray) (x:ByteArray):gQ (l++[x])=gQ l++[[sS x]]:=by simp[gQ]
def lnS (s:ByteArray):Nat→List ByteArray × Nat
 | 0=>([],0)
 | i+1=>if s.data[i]? = some 10 then ((lnS s i).1++[s.extract (lnS s i).2 i],i+1) else lnS s i
theorem lJ (s:ByteArray):∀ i,(lnS s i).2≤i∧(lnS s i).1.length≤i
 | 0=>⟨Ew _,Ew _⟩
 | i+1=>by
  obtain ⟨h1,h2⟩:=lJ s i;unfold lnS;split
  ·exact ⟨Ew _,by simp; omega⟩
  ·exact ⟨by omega,by omega⟩
def dM (s:ByteArray):List ByteArray:=(lnS s s.size).1++[s.extract (lnS s s.size).2 s.size]
theorem zF (s:ByteArray) (hs:s.size≤100000):Ct P 135 [.c (sS s)] [.c (sSl (dM s))]:=by
 have e:gQ (dM s)=gQ (lnS s s.size).1++[[sS (s.extract (lnS s s.size).2 s.size)]]:=by unfold dM; rw[kR]
 rw[show sSl (dM s) = .sl 1 (gQ (lnS s s.size).1++[[sS (s.extract (lnS s s.size).2 s.size)]]) from congrArg _ e];refine Ct.go aj aa (N:=33) Tryz.func135 rfl rfl rfl rfl ?_;refine jo (r:=34) (t:=3) (sz:=1) rfl rfl ?_;refine ax aj aa (λi:Nat=>i≤s.size) (λi=>[(0,.c (sS s)),(3,.c (.ow 34 1 (lnS s i).1.length)),(4,.c (nI .i64 (lnS s i).2)),(5,.c (nI .i64 i))]) (λi=>[(34,.row 1 (gQ (lnS s i).1))]) (λi=>s.size-i)
  0 (by omega) ⟨rfl,rfl,rfl,rfl,HB⟩ ⟨rfl,HB⟩ (λ_:Unit=>True) (λ_=>[(0,.c (sS s)),(3,.c (.ow 34 1 (lnS s s.size).1.length)),(4,.c (nI .i64 (lnS s s.size).2))]) (λ_=>[(34,.row 1 (gQ (lnS s s.size).1))]) (λi hi=>?_) (λ_ _=>?_)
 ·obtain ⟨a1,a2⟩:=lJ s i;refine ae (λh1=>?_) (λh1=>?_)
  ·have hi':i<s.size:=by omega
   have hb:s.data[(i:Int).toNat]? = some s.data[i]:=by simp[hi',show i<s.data.size from hi']
   refine .intro (by omega) (X1 _ hb ?_);refine aT (λh2=>?_) (λh2=>?_)
   ·have h3:s.data[i]? = some 10:=by
     rw[Gs hi'];congr 1;have:(s.data[i]).toNat=10:=by omega
     exact UInt8.toNat_inj.1 this
    have hst:lnS s (i+1)=((lnS s i).1++[s.extract (lnS s i).2 i],i+1):=by rw[lnS,if_pos h3]
    refine ⟨(lnS s i).2,i,rfl,rfl,a1,by omega,?_⟩;refine ⟨by rw[aM],by rw[aM]; show ((lnS s i).1.length+1+768)*16≤_; omega,by rw[aM]; show (lnS s i).1.length+1≤_; omega,dZ,aw rfl,?_⟩;refine X1 ((i+1:Nat):Int) (wI1 (by omega)) ?_;refine X1 ((i+1:Nat):Int) (wI1 (by omega)) ?_;refine ⟨i+1,by omega,by omega,⟨rfl,owE (by rw[hst,Ey,Ey,aM]; rfl),by rw[hst]; rfl,rfl,HB⟩,⟨aB (by rw[hst,kR]; rfl),HB⟩⟩
   ·have h3:¬ s.data[i]? = some 10:=λh=>by
     rw[Gs hi',EM]at h;apply h2;rw[h]; rfl
    have hst:lnS s (i+1)=lnS s i:=by rw[lnS,if_neg h3]
    refine X1 ((i+1:Nat):Int) (wI1 (by omega)) ?_;refine ⟨i+1,by omega,by omega,⟨rfl,by rw[hst]; rfl,by rw[hst]; rfl,rfl,HB⟩,⟨by rw[hst]; rfl,HB⟩⟩
  ·have e:i=s.size:=by omega
   subst e;exact ⟨(),HB,⟨rfl,rfl,rfl,HB⟩,⟨rfl,HB⟩⟩
 ·obtain ⟨a1,a2⟩:=lJ s s.size;refine ⟨rfl,by rw[aM]; show (0+(lnS s s.size).1.length+768)*16≤_; omega,by rw[aM]; show 0+(lnS s s.size).1.length≤_; omega,b9,dZ,?_⟩;refine ⟨(lnS s s.size).2,s.size,rfl,rfl,a1,Ew _,?_⟩;refine ⟨rfl,by rw[Ey,aM]; show (0+(lnS s s.size).1.length+1+768)*16≤_; omega,by rw[Ey,aM]; show 0+(lnS s s.size).1.length+1≤_; omega,dZ,aw rfl,?_⟩;refine .intro rfl ?_;exact ⟨HB,r1 rfl,HB⟩
abbrev nbB (b:UInt8):Bool:=!(lH (b.toNat:Int))
def ey (s:ByteArray) (i:Nat):Nat:=((s.data.toList.drop i).takeWhile nbB).length
theorem vb {α:Type} {p:α→Bool}:∀ (l:List α),(∀ (j:Nat) x,j<(l.takeWhile p).length→l[j]? = some x→p x=true)∧(∀ x,l[(l.takeWhile p).length]? = some x→p x=false)∧(l.takeWhile p).length≤l.length
 | []=>⟨λj x h=>by simp at h,λx h=>by simp at h,by simp⟩
 | y::l=>by
  obtain ⟨h1,h2,h3⟩:=vb (p:=p) l
  cases hp:p y with
  | true=>
   rw[GK hp];refine ⟨λj x hj hx=>?_,λx hx=>?_,by simp; omega⟩
   ·cases j with
    | zero=>simp at hx; subst hx; exact hp
    | succ j=>exact h1 j x (by simpa using hj) (by simpa using hx)
   ·exact h2 x (by simpa using hx)
  | false=>
   rw[List.takeWhile_cons_of_neg (by rw[hp]; simp)];exact ⟨λj x hj=>by simp at hj,λx hx=>by simp at hx; subst hx; exact hp,by simp⟩
theorem og (s:ByteArray) (i:Nat) (hi:i≤s.size):i+ey s i≤s.size∧(∀ j,j<ey s i→∀ b,s.data[i+j]? = some b→nbB b=true)∧∀ b,s.data[i+ey s i]? = some b→nbB b=false:=by
 obtain ⟨h1,h2,h3⟩:=vb (p:=nbB) (s.data.toList.drop i);have e:∀ j,(s.data.toList.drop i)[j]? = s.data[i+j]?:=λj=>by simp[Fj]
 refine ⟨?_,λj hj b hb=>h1 j b hj (by rw[e]; exact hb),λb hb=>h2 b (by rw[e]; exact hb)⟩;have:(s.data.toList.drop i).length=s.size-i:=by rw[E8]; rfl
 unfold ey;omega
abbrev DW:ByteArray:=⟨#[60,117,110,107,62]⟩
def wdW (s:ByteArray) (i:Nat):ByteArray:=if ey s i>255 then DW else s.extract i (i+ey s i)
def wdF (s:ByteArray):Nat→Nat→List ByteArray→List ByteArray
 | 0,_,out=>out
 | f+1,i,out=>match s.data[i]? with
  | none=>out
  | some b=>if nbB b=false then wdF s f (i+1) out else wdF s f (i+ey s i) (if kQ (wdW s i)=true then out else out++[wdW s i])
def dN (s:ByteArray):List ByteArray:=wdF s (s.size+1) 0 []
theorem vc {s:ByteArray} {i:Nat} (hi:i<s.size) {b:UInt8} (hb:s.data[i]? = some b) (h:nbB b=true):1≤ey s i:=by
 obtain ⟨_,_,h3⟩:=og s i (by omega);apply Classical.byContradiction;intro hn;have e:ey s i=0:=by omega
 rw[e]at h3;have:=h3 b (by simpa using hb);rw[h]at this; cases this
def kS (out:List ByteArray):Prop:=∀ w,w∈out→w.size≤255∧kQ w=false
theorem C6 (s:ByteArray) (i:Nat):(wdW s i).size≤255:=by
 unfold wdW;split
 ·decide
 ·have:(s.extract i (i+ey s i)).size≤ey s i:=by rw[Gj]; omega
  omega
theorem ue (s:ByteArray) (hs:s.size≤100000):Ct P 136 [.c (sS s)] [.c (sSl (dN s))]:=by
 refine Ct.go aj aa (N:=53) Tryz.func136 rfl rfl rfl rfl ?_;refine jo (r:=60) (t:=3) (sz:=1) rfl rfl ?_;refine ax aj aa (G:=Nat × List ByteArray × Nat) (λ(i,out,f)=>i≤s.size∧out.length≤i∧s.size+1≤i+f∧wdF s f i out=dN s) (λ(i,out,_)=>[(0,.c (sS s)),(3,.c (.ow 60 1 out.length)),(4,.c (nI .i64 i))]) (λ(_,out,_)=>[(60,.row 1 (gQ out))]) (λ(i,_,_)=>s.size-i)
  (0,[],s.size+1) ⟨by omega,by simp,by omega,rfl⟩ ⟨rfl,rfl,rfl,HB⟩ ⟨rfl,HB⟩ (λ_:Unit=>True) (λ_=>[(3,.c (.ow 60 1 (dN s).length))]) (λ_=>[(60,.row 1 (gQ (dN s)))]) (λ(i,out,f) hi=>?_) (λ_ _=>?_)
 ·obtain ⟨i1,i2,i3,i4⟩:=hi;refine ae (λh1=>?_) (λh1=>?_)
  ·have hi':i<s.size:=by omega
   obtain ⟨f',rfl⟩:∃ f',f=f'+1:=⟨f-1,by omega⟩;have hb:s.data[i]? = some s.data[i]:=Gs hi';generalize s.data[i]=b at *
   rw[wdF,hb]at i4;simp only at i4;obtain ⟨r1',r2',r3'⟩:=og s i i1;refine .intro (by omega) (X1 b (by rw[EX]; exact hb) ?_);refine X1 _ (sL _) ?_;refine aP (λh2=>?_) (λh2=>?_)
   ·have hn:nbB b=false:=by show (!(lH (b.toNat:Int)))=false; rw[h2]; rfl
    rw[if_pos hn]at i4;refine X1 ((i+1:Nat):Int) (wI1 (by omega)) ?_;exact ⟨(i+1,out,f'),⟨by omega,by omega,by omega,i4⟩,by show s.size-(i+1)<s.size-i; omega,⟨rfl,rfl,rfl,HB⟩,⟨rfl,HB⟩⟩
   ·have hn:nbB b=true:=by show (!(lH (b.toNat:Int)))=true; rw[h2]; rfl
    rw[if_neg (by rw[hn]; simp)]at i4;have hpos:=vc hi' hb hn;refine ax aj aa (λn:Nat=>n≤ey s i) (λn=>[(0,.c (sS s)),(3,.c (.ow 60 1 out.length)),(4,.c (nI .i64 i)),(5,.c (nI .i64 n))]) (λ_=>[(60,.row 1 (gQ out))]) (λn=>ey s i-n)
     0 (by omega) ⟨rfl,rfl,rfl,rfl,HB⟩ ⟨rfl,HB⟩ (λ_:Unit=>True) (λ_=>[(0,.c (sS s)),(3,.c (.ow 60 1 out.length)),(4,.c (nI .i64 i)),(5,.c (nI .i64 (ey s i)))]) (λ_=>[(60,.row 1 (gQ out))]) (λn hn'=>?_) (λ_ _=>?_)
    ·refine X1 ((s.size-i:Nat):Int) (wI (by omega) (by omega) (by omega)) ?_;refine ae (λh3=>?_) (λh3=>?_)
     ·have hin:i+n<s.size:=by omega
      have hbn:s.data[i+n]? = some s.data[i+n]:=Gs hin
      generalize s.data[i+n]=c at *
      refine X1 ((i+n:Nat):Int) (wI (by simp) (by omega) (by omega)) ?_;refine .intro (by omega) (X1 c (by rw[EX]; exact hbn) ?_);refine X1 _ (sL _) ?_;refine aP (λh4=>?_) (λh4=>?_)
      ·have h5:nbB c=true:=h4;have hlt:n<ey s i:=by
        apply Classical.byContradiction;intro hge;have e:n=ey s i:=by omega
        subst e;have:=r3' c hbn;rw[h5]at this; cases this
       refine X1 ((n+1:Nat):Int) (wI (by simp) (by omega) (by omega)) ?_;exact ⟨n+1,by omega,by omega,⟨rfl,rfl,rfl,rfl,HB⟩,⟨rfl,HB⟩⟩
      ·have h5:nbB c=false:=h4;have e:n=ey s i:=by
        apply Classical.byContradiction;intro hne;have:=r2' n (by omega) c hbn;rw[h5]at this; cases this
       subst e;exact ⟨(),HB,⟨rfl,rfl,rfl,rfl,HB⟩,⟨rfl,HB⟩⟩
     ·have e:n=ey s i:=by omega
      subst e;exact ⟨(),HB,⟨rfl,rfl,rfl,rfl,HB⟩,⟨rfl,HB⟩⟩
    ·refine X1 ((i+ey s i:Nat):Int) (wI (by simp) (by omega) (by omega)) ?_;refine ⟨i,i+ey s i,rfl,rfl,by omega,r1',?_⟩;refine ae (λh6=>?_) (λh6=>?_);have ew:wdW s i=DW:=if_pos (by omega);rw[ew]at i4;rotate_left;have ew:wdW s i=s.extract i (i+ey s i):=if_neg (by omega);rw[ew]at i4
     all_goals
      refine X1 _ (BD _) ?_;refine aP (λh7=>?_) (λh7=>?_)
      ·rw[if_neg (by simpa using h7)]at i4;refine ⟨by rw[aM],by rw[aM]; show (out.length+1+768)*16≤_; omega,by rw[aM]; show out.length+1≤_; omega,dZ,aw rfl,?_⟩;refine X1 ((i+ey s i:Nat):Int) (wI (by simp) (by omega) (by omega)) ?_;refine ⟨(i+ey s i,_,f'),⟨r1',by rw[Ey]; show out.length+1≤_; omega,by omega,i4⟩,by show s.size-(i+ey s i)<s.size-i; omega,⟨rfl,owE (by rw[Ey,Ey,aM]; rfl),rfl,HB⟩,⟨aB (by rw[kR]; rfl),HB⟩⟩
      ·rw[if_pos (by simpa using h7)]at i4;refine X1 ((i+ey s i:Nat):Int) (wI (by simp) (by omega) (by omega)) ?_;exact ⟨(i+ey s i,out,f'),⟨r1',by omega,by omega,i4⟩,by show s.size-(i+ey s i)<s.size-i; omega,⟨rfl,rfl,rfl,HB⟩,⟨rfl,HB⟩⟩
  ·have hnone:s.data[i]? = none:=Gi (by show s.size≤i; omega);obtain ⟨f',rfl⟩:∃ f',f=f'+1:=⟨f-1,by omega⟩;rw[wdF,hnone]at i4;simp only at i4;subst i4;exact ⟨(),HB,⟨rfl,HB⟩,⟨rfl,HB⟩⟩
 ·exact ⟨HB,r1 rfl,HB⟩
theorem uf (s:ByteArray):∀ (f i:Nat) (out:List ByteArray),i≤s.size→kS out→out.length≤i→kS (wdF s f i out)∧(wdF s f i out).length≤s.size
 | 0,i,out,hi,h,hl=>⟨h,by show out.length≤_; omega⟩
 | f+1,i,out,hi,h,hl=>by
  unfold wdF
  cases hb:s.data[i]? with
  | none=>exact ⟨h,by show out.length≤_; omega⟩
  | some b=>
   have hi':i<s.size:=(EY.1 hb).1;simp only;split
   ·exact uf s f (i+1) out (by omega) h (by omega)
   ·rename_i hn;have hpos:=vc hi' hb (by simpa using hn);have hr:=(og s i hi).1;refine uf s f (i+ey s i) _ hr ?_ ?_
    ·split
     ·exact h
     ·rename_i hm;intro w hw;rcases Fe.1 hw with hw | hw
      ·exact h w hw
      ·simp at hw; subst hw;exact ⟨C6 s i,by simpa using hm⟩
    ·split
     ·omega
     ·rw[Ey]; show out.length+1≤_; omega
theorem oh (s:ByteArray):kS (dN s)∧(dN s).length≤s.size:=uf s _ 0 [] (by omega) (λw h=>by simp at h) (by simp)
def iG (L:List (List ByteArray)):List (List PC):=L.map λl=>[sSl l]
abbrev BF (L:List (List ByteArray)):PC:=.sl 1 (iG L)
theorem d5 {L:List (List ByteArray)}:(iG L).length=L.length:=by simp[iG]
theorem qM {L:List (List ByteArray)}:aA (iG L):=by
 intro el h;obtain ⟨x,_,rfl⟩:=Fb.1 h;rfl
theorem wy (L:List (List ByteArray)) (l:List ByteArray):iG (L++[l])=iG L++[[sSl l]]:=by simp[iG]
theorem py {L:List (List ByteArray)} {i:Int} {n:Nat} (h0:i=n) (h:n<L.length):(iG L)[i.toNat]? = some [sSl L[n]]:=by
 subst h0;simp[iG,h]
def jq (l:List ByteArray):List (List ByteArray):=(l.map dN).filter λw=>decide (w.length>0)
def fY (s:ByteArray):List (List ByteArray):=jq (dM s)
theorem wz (l:List ByteArray) (x:ByteArray):jq (l++[x])=if (dN x).length>0 then jq l++[dN x] else jq l:=by
 unfold jq;rw[FG,FH];by_cases h:(dN x).length>0
 ·rw[if_pos h]; simp[G8,h]
 ·rw[if_neg h]; simp[G8,h]
theorem zG {s:ByteArray}:(∀ i,∀ l,l∈(lnS s i).1→l.size≤s.size):=by
 intro i
 induction i with
 | zero=>intro l h; simp[lnS]at h
 | succ i ih=>
  intro l h;unfold lnS at h;split at h
  ·rcases Fe.1 h with h | h
   ·exact ih l h
   ·simp at h; subst h;rw[Gj]; omega
  ·exact ih l h
theorem sM (s:ByteArray):(dM s).length≤s.size+1∧∀ l,l∈dM s→l.size≤s.size:=by
 unfold dM;refine ⟨by rw[Ey]; have:=(lJ s s.size).2; show (lnS s s.size).1.length+1≤_; omega,λl h=>?_⟩;rcases Fe.1 h with h | h
 ·exact zG s.size l h
 ·simp at h; subst h;rw[Gj]; omega
theorem sN (s:ByteArray) (hs:s.size≤100000):Ct P 88 [.c (sS s)] [.c (BF (fY s))]:=by
 obtain ⟨b1,b2⟩:=sM s;refine Ct.go aj aa (N:=28) Tryz.func88 rfl rfl rfl rfl ?_;refine X1 _ (zF s hs) ?_;unfold fY;generalize dM s=l at *
 refine jo (r:=34) (t:=3) (sz:=1) rfl rfl ?_;refine ax aj aa (λi:Nat=>i≤l.length) (λi=>[(4,.c (sSl l)),(3,.c (.ow 34 1 (jq (l.take i)).length)),(5,.c (nI .i64 i))]) (λi=>[(34,.row 1 (iG (jq (l.take i))))]) (λi=>l.length-i)
  0 (by omega) ⟨rfl,rfl,rfl,HB⟩ ⟨rfl,HB⟩ (λ_:Unit=>True) (λ_=>[(3,.c (.ow 34 1 (jq l).length))]) (λ_=>[(34,.row 1 (iG (jq l)))]) (λi hi=>?_) (λ_ _=>?_)
 ·refine .intro (by rw[aM]; omega) ?_;rw[aM];refine ae (λh1=>?_) (λh1=>?_)
  ·have hi':i<l.length:=by omega
   have hget:=jf (l:=l) (i:=(i:Int)) (n:=i) rfl hi';have hs:l.take (i+1)=l.take i++[l[i]]:=EB hi';have hsn:=wz (l.take i) l[i];rw[←hs]at hsn;have hb:=b2 l[i] (EI hi');have hwl:=(oh l[i]).2;have hal:(jq (l.take i)).length≤i:=by
    have:=Ft (λw:List ByteArray=>decide (w.length>0)) ((l.take i).map dN);rw[Fl,EJ]at this;unfold jq; omega
   generalize l[i]=x at *
   refine .intro (by omega) (X1 _ hget ?_);refine X1 _ (ue x (by omega)) ?_;refine .intro (by rw[aM]; omega) ?_;rw[aM];refine ae (λh2=>?_) (λh2=>?_)
   ·rw[if_pos (by omega)]at hsn;refine ⟨by rw[d5],by rw[d5]; show ((jq (l.take i)).length+1+768)*24≤_; omega,by rw[d5]; show (jq (l.take i)).length+1≤_; omega,qM,aw rfl,?_⟩;refine X1 ((i+1:Nat):Int) (wI1 (by omega)) ?_;exact ⟨i+1,by omega,by omega,⟨rfl,owE (by rw[hsn,Ey,Ey,d5]; rfl),rfl,HB⟩,⟨aB (by rw[hsn,wy]; rfl),HB⟩⟩
   ·rw[if_neg (by omega)]at hsn;refine X1 ((i+1:Nat):Int) (wI1 (by omega)) ?_;exact ⟨i+1,by omega,by omega,⟨rfl,by rw[hsn]; rfl,rfl,HB⟩,⟨by rw[hsn]; rfl,HB⟩⟩
  ·have e:i=l.length:=by omega
   subst e;rw[Fd];exact ⟨(),HB,⟨rfl,HB⟩,⟨rfl,HB⟩⟩
 ·exact ⟨HB,r1 rfl,HB⟩
def gY (l:List ByteArray) (s:ByteArray):List ByteArray:=if cd s l≥0 then l else l++[s]
theorem zH (l:List ByteArray) (s:ByteArray) (hl:l.length≤500000):Ct P 89 [.c (sSl l),.c (sS s)] [.c (sSl (gY l s))]:=by
 unfold gY;by_cases h0:cd s l≥0
 ·rw[if_pos h0];refine Ct.go aj aa (N:=16) Tryz.func89 rfl rfl rfl rfl ?_;refine X1 _ (lI l s (by omega)) ?_;refine ae (λh1=>?_) (λh1=>?_)
  ·exact ⟨HB,r1 rfl,HB⟩
  ·exfalso; omega
 ·rw[if_neg h0,show sSl (l++[s]) = .sl 1 (gQ l++[[sS s]]) from congrArg _ (kR l s)];refine Ct.go aj aa (N:=16) Tryz.func89 rfl rfl rfl rfl ?_;refine X1 _ (lI l s (by omega)) ?_;refine ae (λh1=>?_) (λh1=>?_)
  ·exfalso; omega
  ·refine ⟨rfl,by rw[aM]; show (0+l.length+768)*16≤_; omega,by rw[aM]; show 0+l.length≤_; omega,b9,dZ,?_⟩;refine ⟨rfl,by rw[Ey,aM]; show (0+l.length+1+768)*16≤_; omega,by rw[Ey,aM]; show 0+l.length+1≤_; omega,dZ,aw rfl,?_⟩;exact ⟨HB,r1 rfl,HB⟩
theorem wA (l:List ByteArray) (s:ByteArray):(gY l s).length≤l.length+1:=by
 unfold gY; split
 ·omega
 ·simp
def cV (l:List ByteArray) (ws:List ByteArray):List ByteArray:=ws.foldl gY l
theorem sP (l ws:List ByteArray) (w:ByteArray):cV l (ws++[w])=gY (cV l ws) w:=by simp[cV,GL]
theorem gT:∀ (ws l:List ByteArray),(cV l ws).length≤l.length+ws.length
 | [],l=>by simp[cV]
 | w::ws,l=>by
  have:=gT ws (gY l w);have h2:=wA l w;show (cV (gY l w) ws).length≤_
  rw[E7]; omega
def eS (l:List ByteArray) (L:List (List ByteArray)):List ByteArray:=L.foldl cV l
theorem ug (l:List ByteArray) (L:List (List ByteArray)) (ws:List ByteArray):eS l (L++[ws])=cV (eS l L) ws:=by simp[eS,GL]
theorem lK {n:Nat}:∀ (L:List (List ByteArray)) (l:List ByteArray),(∀ ws,ws∈L→ws.length≤n)→(eS l L).length≤l.length+L.length*n
 | [],l,_=>by simp[eS]
 | ws::L,l,h=>by
  have:=lK L (cV l ws) λx hx=>h x (EV _ hx)
  have h2:=gT ws l;have h3:=h ws (by simp);show (eS (cV l ws) L).length≤_
  rw[E7,EO,Fh]; omega
def aK (s:ByteArray):List ByteArray:=eS marks15 (fY s)
theorem kT (s:ByteArray):(fY s).length≤s.size+1∧∀ ws,ws∈fY s→ws.length≤s.size∧kS ws:=by
 obtain ⟨b1,b2⟩:=sM s;unfold fY jq;refine ⟨?_,λws h=>?_⟩
 ·have:=Ft (λw:List ByteArray=>decide (w.length>0)) ((dM s).map dN);rw[Fl]at this;omega
 ·obtain ⟨h1,_⟩:=Hc.1 h;obtain ⟨l,hl,rfl⟩:=Fb.1 h1;obtain ⟨w1,w2⟩:=oh l;have:=b2 l hl;exact ⟨by omega,w1⟩
theorem uh (s:ByteArray) (hs:s.size≤500):Ct P 37 [.c (sS s)] [.c (sSl (aK s))]:=by
 obtain ⟨b1,b2⟩:=kT s;have hA:=sN s (by omega);unfold aK;generalize fY s=L at *
 have hbd:∀ i,(eS marks15 (L.take i)).length≤251000:=λi=>by
  have h1:=lK (n:=500) (L.take i) marks15 λws h=>by have:=(b2 ws (FZ h)).1; omega
  have h2:(L.take i).length≤501:=by rw[EJ]; omega
  have h3:(L.take i).length*500≤501*500:=EE _ h2;have h4:marks15.length=3:=rfl;omega
 refine Ct.go aj aa (N:=35) Tryz.func37 rfl rfl rfl rfl ?_;refine X1 _ ud ?_;refine X1 _ hA ?_;refine ax aj aa (λi:Nat=>i≤L.length) (λi=>[(4,.c (BF L)),(3,.c (sSl (eS marks15 (L.take i)))),(5,.c (nI .i64 i))]) (λ_=>[]) (λi=>L.length-i)
  0 (by omega) ⟨rfl,rfl,rfl,HB⟩ HB (λ_:Unit=>True) (λ_=>[(3,.c (sSl (eS marks15 L)))]) (λ_=>[]) (λi hi=>?_) (λ_ _=>?_)
 ·refine .intro (by rw[d5]; omega) ?_;rw[d5];refine ae (λh1=>?_) (λh1=>?_)
  ·have hi':i<L.length:=by omega
   have hget:=py (L:=L) (i:=(i:Int)) (n:=i) rfl hi';have hs:L.take (i+1)=L.take i++[L[i]]:=EB hi';have hbi:=hbd i;have hwl:=(b2 _ (EI hi')).1;have hsn:eS marks15 (L.take (i+1))=cV (eS marks15 (L.take i)) L[i]:=by rw[hs,ug]
   generalize L[i]=ws at *
   generalize eS marks15 (L.take i)=l at *
   refine b8 aj aa (λk:Nat=>k≤ws.length) (λk=>[(4,.c (BF L)),(3,.c (sSl (cV l (ws.take k)))),(5,.c (nI .i64 i)),(6,.c (nI .i64 k))]) (λ_=>[]) (λk=>ws.length-k)
    0 (by omega) ⟨rfl,rfl,rfl,rfl,HB⟩ HB (λk hk=>?_)
   refine .intro (by omega) (X1 _ hget ?_);refine .intro (by rw[aM]; omega) ?_;rw[aM];refine ae (λh2=>?_) (λh2=>?_)
   ·have hk':k<ws.length:=by omega
    have hs2:ws.take (k+1)=ws.take k++[ws[k]]:=EB hk';have hsn2:cV l (ws.take (k+1))=gY (cV l (ws.take k)) ws[k]:=by rw[hs2,sP]
    have hlen2:=gT (ws.take k) l;rw[EJ]at hlen2;refine .intro (by omega) (X1 _ hget ?_);refine .intro (by omega) (X1 _ (jf (n:=k) rfl hk') ?_);refine X1 _ (zH _ _ (by omega)) ?_;refine X1 ((k+1:Nat):Int) (wI (by simp) (by omega) (by omega)) ?_;exact ⟨k+1,by omega,by omega,⟨rfl,by rw[hsn2]; rfl,rfl,rfl,HB⟩,HB⟩
   ·have e:k=ws.length:=by omega
    subst e;rw[Fd,←hsn];refine X1 ((i+1:Nat):Int) (wI1 (by omega)) ?_;exact ⟨i+1,by omega,by omega,⟨rfl,rfl,rfl,HB⟩,HB⟩
  ·have e:i=L.length:=by omega
   subst e;rw[Fd];exact ⟨(),HB,⟨rfl,HB⟩,HB⟩
 ·exact ⟨HB,r1 rfl,HB⟩
def eD (ws l:List ByteArray):List Int:=([1]++l.map (g9 ws))++[2]
theorem zI (ws l:List ByteArray) (hw:ws.length≤1000000) (hl:l.length≤900000):Ct P 91 [.c (sSl ws),.c (sSl l)] [.c (iSl (eD ws l))]:=by
 have e:aI (eD ws l)=([[eI .i64 1]]++aI (l.map (g9 ws)))++[[eI .i64 2]]:=by simp[eD,aI]
 have hlen:(aI (l.map (g9 ws))).length=l.length:=by simp[aI]
 have hids:=zE ws l hw (by omega);rw[show iSl (eD ws l) = .sl 1 (([[eI .i64 1]]++aI (l.map (g9 ws)))++[[eI .i64 2]]) from congrArg _ e];generalize l.map (g9 ws)=ids at *
 refine Ct.go aj aa (N:=19) Tryz.func91 rfl rfl rfl rfl ?_;refine ⟨rfl,by show (0+1+768)*8≤_; omega,by show 0+1≤_; omega,b9,aw rfl,?_⟩;refine X1 _ hids ?_;refine ⟨rfl,by rw[hlen]; show (1+l.length+768)*8≤_; omega,by rw[hlen]; show 1+l.length≤_; omega,aw rfl,bc,?_⟩;have hc:aA ([[eI .i64 1]]++aI ids):=λel h=>by
  rcases Fe.1 h with h | h
  ·simp at h; subst h; rfl
  ·exact bc el h
 have hl2:([[eI .i64 1]]++aI ids).length=l.length+1:=by rw[Ey,hlen]; show 1+l.length=_; omega
 refine ⟨rfl,by show (0+([[eI .i64 1]]++aI ids).length+768)*8≤_; rw[hl2]; omega,by show 0+([[eI .i64 1]]++aI ids).length≤_; rw[hl2]; omega,b9,hc,?_⟩;refine ⟨rfl,by show (([[eI .i64 1]]++aI ids).length+1+768)*8≤_; rw[hl2]; omega,by show ([[eI .i64 1]]++aI ids).length+1≤_; rw[hl2]; omega,hc,aw rfl,?_⟩;exact ⟨HB,r1 rfl,HB⟩
def dK (L:List (List Int)):List (List PC):=L.map λl=>[iSl l]
abbrev mz (L:List (List Int)):PC:=.sl 1 (dK L)
theorem bm {L:List (List Int)}:(dK L).length=L.length:=by simp[dK]
theorem er {L:List (List Int)}:aA (dK L):=by
 intro el h;obtain ⟨x,_,rfl⟩:=Fb.1 h;rfl
theorem pz (L:List (List Int)) (l:List Int):dK (L++[l])=dK L++[[iSl l]]:=by simp[dK]
theorem pB {L:List (List Int)} {i:Int} {n:Nat} (h0:i=n) (h:n<L.length):(dK L)[i.toNat]? = some [iSl L[n]]:=by
 subst h0;simp[dK,h]
def fK (ws:List ByteArray) (s:ByteArray):List (List Int):=(fY s).map (eD ws)
theorem zJ (ws:List ByteArray) (s:ByteArray) (hw:ws.length≤1000000) (hs:s.size≤100000):Ct P 39 [.c (sSl ws),.c (sS s)] [.c (mz (fK ws s))]:=by
 obtain ⟨b1,b2⟩:=kT s;have hA:=sN s hs;unfold fK;generalize fY s=L at *
 refine Ct.go aj aa (N:=26) Tryz.func39 rfl rfl rfl rfl ?_;refine X1 _ hA ?_;refine jo (r:=34) (t:=5) (sz:=1) rfl rfl ?_;refine ax aj aa (λi:Nat=>i≤L.length) (λi=>[(0,.c (sSl ws)),(6,.c (BF L)),(5,.c (.ow 34 1 i)),(7,.c (nI .i64 i))]) (λi=>[(34,.row 1 (dK ((L.take i).map (eD ws))))]) (λi=>L.length-i)
  0 (by omega) ⟨rfl,rfl,rfl,rfl,HB⟩ ⟨rfl,HB⟩ (λ_:Unit=>True) (λ_=>[(5,.c (.ow 34 1 L.length))]) (λ_=>[(34,.row 1 (dK (L.map (eD ws))))]) (λi hi=>?_) (λ_ _=>?_)
 ·refine .intro (by rw[d5]; omega) ?_;rw[d5];refine ae (λh1=>?_) (λh1=>?_)
  ·have hi':i<L.length:=by omega
   have hget:=py (L:=L) (i:=(i:Int)) (n:=i) rfl hi';have hs:(L.take (i+1)).map (eD ws)=(L.take i).map (eD ws)++[eD ws L[i]]:=by rw[EB hi',FG]; rfl
   have hwl:=(b2 _ (EI hi')).1;have hl:((L.take i).map (eD ws)).length=i:=by simp; omega
   generalize L[i]=x at *
   refine .intro (by omega) (X1 _ hget ?_);refine X1 _ (zI ws x hw (by omega)) ?_;refine ⟨by rw[bm,hl],by rw[bm,hl]; show (i+1+768)*24≤_; omega,by rw[bm,hl]; show i+1≤_; omega,er,aw rfl,?_⟩;refine X1 ((i+1:Nat):Int) (wI1 (by omega)) ?_;exact ⟨i+1,by omega,by omega,⟨rfl,rfl,owE (by rw[Ey,bm,hl]; rfl),rfl,HB⟩,⟨aB (by rw[hs,pz]; rfl),HB⟩⟩
  ·have e:i=L.length:=by omega
   subst e;rw[Fd];exact ⟨(),HB,⟨rfl,HB⟩,⟨rfl,HB⟩⟩
 ·exact ⟨HB,r1 rfl,HB⟩
def grS (p:List Int) (n:Nat):Nat→List (List Int)
 | 0=>[]
 | i+1=>if n+i≤p.length then grS p n i++[(p.drop i).take n] else grS p n i
theorem mU (p:List Int) (n:Nat):∀ i,(grS p n i).length≤i
 | 0=>Ew _
 | i+1=>by
  have:=mU p n i;unfold grS;split
  ·simp; omega
  ·omega
def cy (p:List Int) (n:Nat):List (List Int):=grS p n p.length
theorem ui (p:List Int) (n:Nat) (h1:1≤n) (hn:n≤1000000) (hp:p.length≤900000):Ct P 177 [.c (iSl p),.c (nI .i64 n)] [.c (mz (cy p n))]:=by
 refine Ct.go aj aa (N:=32) Tryz.func177 rfl rfl rfl rfl ?_;refine ae (λh=>?_) (λ_=>?_)
 ·exfalso; omega
 refine jo (r:=34) (t:=5) (sz:=1) rfl rfl ?_;refine ax aj aa (λi:Nat=>i≤p.length) (λi=>[(0,.c (iSl p)),(1,.c (nI .i64 n)),(5,.c (.ow 34 1 (grS p n i).length)),(6,.c (nI .i64 i))]) (λi=>[(34,.row 1 (dK (grS p n i)))]) (λi=>p.length-i)
  0 (by omega) ⟨rfl,rfl,rfl,rfl,HB⟩ ⟨rfl,HB⟩ (λ_:Unit=>True) (λ_=>[(5,.c (.ow 34 1 (cy p n).length))]) (λ_=>[(34,.row 1 (dK (cy p n)))]) (λi hi=>?_) (λ_ _=>?_)
 ·refine .intro (by rw[ac]; omega) ?_;rw[ac];have hgl:=mU p n i;refine ae (λh2=>?_) (λh2=>?_)
  ·refine .intro (by rw[ac]; omega) ?_;rw[ac];refine X1 ((p.length-i:Nat):Int) (wI (by omega) (by omega) (by omega)) ?_;refine ae (λh3=>?_) (λh3=>?_)
   ·have hst:grS p n (i+1)=grS p n i++[(p.drop i).take n]:=by rw[grS,if_pos (by omega)]
    refine X1 ((i+n:Nat):Int) (wI (by simp) (by omega) (by omega)) ?_;refine ⟨i,i+n,rfl,rfl,by omega,by rw[ac]; omega,?_⟩;rw[iRow_sub,show i+n-i=n by omega];refine ⟨by rw[bm],by rw[bm]; show ((grS p n i).length+1+768)*24≤_; omega,by rw[bm]; show (grS p n i).length+1≤_; omega,er,aw rfl,?_⟩;refine X1 ((i+1:Nat):Int) (wI1 (by omega)) ?_;exact ⟨i+1,by omega,by omega,⟨rfl,rfl,owE (by rw[hst,Ey,Ey,bm]; rfl),rfl,HB⟩,⟨aB (by rw[hst,pz]; rfl),HB⟩⟩
   ·have hst:grS p n (i+1)=grS p n i:=by rw[grS,if_neg (by omega)]
    refine X1 ((i+1:Nat):Int) (wI1 (by omega)) ?_;exact ⟨i+1,by omega,by omega,⟨rfl,rfl,by rw[hst]; rfl,rfl,HB⟩,⟨by rw[hst]; rfl,HB⟩⟩
  ·have e:i=p.length:=by omega
   subst e;exact ⟨(),HB,⟨rfl,HB⟩,⟨rfl,HB⟩⟩
 ·exact ⟨HB,r1 rfl,HB⟩
def pu (x:Cnt):List Cnt→Bool→List Cnt
 | [],laid=>if laid=true then [] else [x]
 | y::l,laid=>(if aG y.1 x.1>0∧laid=false then [x] else [])++(if aG y.1 x.1=0 then (y.1,y.2+x.2) else y)::pu x l (laid||decide (aG y.1 x.1>0)||decide (aG y.1 x.1=0))
def mm (l:List Cnt) (x:Cnt):List Cnt:=pu x l false
theorem eF (l:List Cnt) (x:Cnt):cj (l++[x])=cj l++[[iSl x.1,eI .i64 x.2]]:=by simp[cj]
theorem zK (l:List Cnt) (x:Cnt) (hl:CLim l) (hx:x.1.length≤1000000) (hn:∀ y,y∈l→0≤y.2∧y.2≤1000000000) (hx2:0≤x.2∧x.2≤1000000000) :
  Ct P 139 [.c (cSl l),.ag [iSl x.1,eI .i64 x.2]] [.c (cSl (mm l x))]:=by
 have hll:=hl.len;refine Ct.go aj aa (N:=57) Tryz.func139 rfl rfl rfl rfl ?_;refine jo (r:=60) (t:=5) (sz:=2) rfl rfl ?_;refine ax aj aa (G:=Nat × List Cnt × Bool) (λ(i,out,b)=>i≤l.length∧out.length≤i+(if b=true then 1 else 0)∧out++pu x (l.drop i) b=mm l x) (λ(i,out,b)=>[(0,.c (cSl l)),(3,.c (.ad 3 0)),(5,.c (.ow 60 2 out.length)),(6,.c (.sc (.bool b))),(7,.c (nI .i64 i))])
  (λ(_,out,_)=>[(3,.var [iSl x.1,eI .i64 x.2]),(60,.row 2 (cj out))]) (λ(i,_,_)=>l.length-i)
  (0,[],false) ⟨by omega,by simp,rfl⟩ ⟨rfl,rfl,rfl,rfl,rfl,HB⟩ ⟨rfl,rfl,HB⟩ (λ(g:List Cnt × Bool)=>g.1.length≤l.length+1∧g.1++pu x [] g.2=mm l x) (λ(out,b)=>[(3,.c (.ad 3 0)),(5,.c (.ow 60 2 out.length)),(6,.c (.sc (.bool b)))]) (λ(out,_)=>[(3,.var [iSl x.1,eI .i64 x.2]),(60,.row 2 (cj out))]) (λ(i,out,b) hi=>?_) (λ(out,b) ho=>?_)
 ·obtain ⟨i1,i2,i3⟩:=hi;have hout:out.length≤i+1:=by split at i2<;>omega
  refine .intro (by rw[cRow_len]; omega) ?_;rw[cRow_len];refine ae (λh1=>?_) (λh1=>?_)
  ·have hi':i<l.length:=by omega
   have hget:=bq (l:=l) (i:=(i:Int)) (n:=i) rfl hi';have hgl:=hl.at' hi';have hnn:=hn _ (EI hi');rw[E4 hi',pu]at i3;generalize l[i]=y at *
   refine .intro (by omega) (X1 _ hget ?_);refine X1 _ (rQ y.1 x.1 hgl hx) ?_;refine .intro rfl ?_;refine ae (λh2=>?_) (λh2=>?_)
   ·have h0:¬ aG y.1 x.1=0:=by omega
    refine aP (λh3=>?_) (λh3=>?_)
    ·have hb:b=false:=by simpa using h3
     subst hb;rw[if_pos ⟨h2,rfl⟩,if_neg h0,decide_eq_true h2]at i3;have e1:(out++[x]).length=out.length+1:=by simp
     refine ⟨by rw[cRow_len],by rw[cRow_len]; show (out.length+1+768)*32≤_; omega,by rw[cRow_len]; show out.length+1≤_; omega,br,aw rfl,?_⟩;refine .intro (by omega) (X1 _ hget ?_);refine aT (λh=>absurd h h0) (λ_=>?_);have e2:cj out++[[iSl x.1,eI .i64 x.2]]=cj (out++[x]):=(eF out x).symm;refine ⟨?_,?_,?_,?_,aw rfl,?_⟩
     ·rfl
     ·show ((cj out++[[iSl x.1,eI .i64 x.2]]).length+1+768)*32≤_
      rw[e2,cRow_len,e1]; omega
     ·show (cj out++[[iSl x.1,eI .i64 x.2]]).length+1≤_
      rw[e2,cRow_len,e1]; omega
     ·show aA (cj out++[[iSl x.1,eI .i64 x.2]])
      rw[e2]; exact br
     ·refine X1 ((i+1:Nat):Int) (wI1 (by omega)) ?_;refine ⟨(i+1,out++[x]++[y],true),⟨by omega,by simp at i2 ⊢; omega,?_⟩,by show l.length-(i+1)<l.length-i; omega,⟨rfl,rfl,owE ?_,rfl,rfl,HB⟩,⟨rfl,aB ?_,HB⟩⟩
      ·rw[←i3]; simp
      ·simp[cRow_len]
      ·rw[eF,eF]; rfl
    ·have hb:b=true:=by simpa using h3
     subst hb;rw[if_neg (by simp),if_neg h0]at i3;refine .intro (by omega) (X1 _ hget ?_);refine aT (λh=>absurd h h0) (λ_=>?_);refine ⟨by rw[cRow_len],by rw[cRow_len]; show (out.length+1+768)*32≤_; omega,by rw[cRow_len]; show out.length+1≤_; omega,br,aw rfl,?_⟩;refine X1 ((i+1:Nat):Int) (wI1 (by omega)) ?_;refine ⟨(i+1,out++[y],true),⟨by omega,by simp at i2 ⊢; omega,?_⟩,by show l.length-(i+1)<l.length-i; omega,⟨rfl,rfl,owE ?_,rfl,rfl,HB⟩,⟨rfl,aB ?_,HB⟩⟩
     ·rw[←i3]; simp
     ·simp[cRow_len]
     ·rw[eF]; rfl
   ·rw[if_neg (λh=>h2 h.1),decide_eq_false h2]at i3;refine .intro (by omega) (X1 _ hget ?_);refine aT (λh3=>?_) (λh3=>?_)
    ·rw[if_pos h3,decide_eq_true h3]at i3;refine X1 (y.2+x.2) (wI rfl (by omega) (by omega)) ?_;refine ⟨by rw[cRow_len],by rw[cRow_len]; show (out.length+1+768)*32≤_; omega,by rw[cRow_len]; show out.length+1≤_; omega,br,aw rfl,?_⟩;refine X1 ((i+1:Nat):Int) (wI1 (by omega)) ?_;refine ⟨(i+1,out++[(y.1,y.2+x.2)],true),⟨by omega,by rw[Ey]; show out.length+1≤i+1+1; omega,?_⟩,by show l.length-(i+1)<l.length-i; omega,⟨rfl,rfl,owE ?_,rfl,rfl,HB⟩,⟨rfl,aB ?_,HB⟩⟩
     ·rw[←i3]; simp
     ·simp[cRow_len]
     ·rw[eF]; rfl
    ·rw[if_neg h3,decide_eq_false h3]at i3;refine ⟨by rw[cRow_len],by rw[cRow_len]; show (out.length+1+768)*32≤_; omega,by rw[cRow_len]; show out.length+1≤_; omega,br,aw rfl,?_⟩;refine X1 ((i+1:Nat):Int) (wI1 (by omega)) ?_;refine ⟨(i+1,out++[y],b),⟨by omega,by rw[Ey]; show out.length+1≤i+1+_; omega,?_⟩,by show l.length-(i+1)<l.length-i; omega,⟨rfl,rfl,owE ?_,rfl,rfl,HB⟩,⟨rfl,aB ?_,HB⟩⟩
     ·rw[←i3]; simp
     ·simp[cRow_len]
     ·rw[eF]; rfl
  ·have e:i=l.length:=by omega
   subst e;rw[F3]at i3;exact ⟨(out,b),⟨hout,i3⟩,⟨rfl,rfl,rfl,HB⟩,⟨rfl,rfl,HB⟩⟩
 ·obtain ⟨o1,o2⟩:=ho;have o1':out.length≤l.length+1:=o1;have o2':out++pu x [] b=mm l x:=o2;rw[←o2'];refine aP (λh3=>?_) (λh3=>?_)
  ·have hb:b=false:=by simpa using h3
   subst hb;rw[show pu x [] false=[x] from rfl,show cSl (out++[x]) = .sl 2 (cj out++[[iSl x.1,eI .i64 x.2]]) from congrArg _ (eF out x)];refine ⟨by rw[cRow_len],by rw[cRow_len]; show (out.length+1+768)*32≤_; omega,by rw[cRow_len]; show out.length+1≤_; omega,br,aw rfl,?_⟩;exact ⟨HB,r1 rfl,HB⟩
  ·have hb:b=true:=by simpa using h3
   subst hb;rw[show pu x [] true=[] from rfl,Gh];exact ⟨HB,r1 rfl,HB⟩
def bh (L:List (List Int)) (n:Nat):List (List Int):=(L.map λp=>cy p n).flatten
theorem sQ (L:List (List Int)) (p:List Int) (n:Nat):bh (L++[p]) n=bh L n++cy p n:=by simp[bh]
theorem gU {k n:Nat}:∀ (L:List (List Int)),(∀ p,p∈L→p.length≤k)→(bh L n).length≤L.length*k
 | [],_=>by simp[bh]
 | p::L,h=>by
  have ih:=gU (n:=n) L λx hx=>h x (EV _ hx)
  have h1:=h p (by simp);have h2:=mU p n p.length;have e:bh (p::L) n=cy p n++bh L n:=by simp[bh]
  rw[e,Ey,E7,EO,Fh];unfold cy;omega
theorem wB (L:List (List Int)) (n:Nat) (h1:1≤n) (hn:n≤1000000) (hL:L.length≤600) (hp:∀ p,p∈L→p.length≤600):Ct P 138 [.c (mz L),.c (nI .i64 n)] [.c (mz (bh L n))]:=by
 have hbd:∀ i,(bh (L.take i) n).length≤360000:=λi=>by
  have h1:=gU (n:=n) (k:=600) (L.take i) λp h=>hp p (FZ h)
  have h2:(L.take i).length≤600:=by rw[EJ]; omega
  have h3:(L.take i).length*600≤600*600:=EE _ h2;omega
 refine Ct.go aj aa (N:=24) Tryz.func138 rfl rfl rfl rfl ?_;refine Aw (t:=5) (sz:=1) rfl ?_;refine yM (λi:Nat=>i≤L.length) (λi=>[(0,.c (mz L)),(1,.c (nI .i64 n)),(5,.c (mz (bh (L.take i) n))),(6,.c (nI .i64 i))]) (λ_=>[]) (λi=>L.length-i)
  0 (by omega) ⟨rfl,rfl,rfl,rfl,HB⟩ HB (λ_:Unit=>True) (λ_=>[(5,.c (mz (bh L n)))]) (λ_=>[]) (λi hi=>?_) (λ_ _=>?_)
 ·refine vZ ?_;refine dR aj aa ?_;refine .intro (by rw[bm]; omega) ?_;rw[bm];refine yN (b:=decide ((i:Int)<(L.length:Int))) rfl (λe=>?_) (λe=>?_)
  ·have hi':i<L.length:=by have:=of_decide_eq_true e; omega
   have hget:=pB (L:=L) (i:=(i:Int)) (n:=i) rfl hi';have hs:L.take (i+1)=L.take i++[L[i]]:=EB hi';have hsn:bh (L.take (i+1)) n=bh (L.take i) n++cy L[i] n:=by rw[hs,sQ]
   have hpl:=hp _ (EI hi');have hb1:=hbd i;have hb2:=hbd (i+1);rw[hsn,Ey]at hb2;generalize L[i]=p at *
   generalize bh (L.take i) n=E0 at *
   refine yO ?_;refine vZ ?_;refine nT ?_;refine kE aj aa ?_;refine ⟨rfl,by rw[bm]; show (0+E0.length+768)*24≤_; omega,by rw[bm]; show 0+E0.length≤_; omega,b9,er,?_⟩;refine .intro (by omega) (X1 _ hget ?_);refine X1 _ (ui p n h1 hn (by omega)) ?_;refine ⟨rfl,by rw[bm]; show ((dK E0).length+(cy p n).length+768)*24≤_; rw[bm]; omega,by rw[bm]; show (dK E0).length+(cy p n).length≤_; rw[bm]; omega,er,er,?_⟩;refine .intro rfl ?_;refine DJ [13] ?_;refine kE aj aa ?_;refine X1 ((i+1:Nat):Int) (wI1 (by omega)) ?_;refine ⟨i+1,by omega,by omega,⟨rfl,rfl,?_,rfl,HB⟩,HB⟩;have e2:dK (E0++cy p n)=dK E0++dK (cy p n):=by simp[dK]
   rw[hsn,show mz (E0++cy p n) = .sl 1 (dK E0++dK (cy p n)) from congrArg _ e2];rfl
  ·have e1:i=L.length:=by have:=of_decide_eq_false e; omega
   subst e1;rw[Fd];exact kE aj aa ⟨(),HB,⟨rfl,HB⟩,HB⟩
 ·exact kE aj aa ⟨HB,r1 rfl,HB⟩
end
end Go.Proofs.YtgceikecdedfcaaGreat.Pv
