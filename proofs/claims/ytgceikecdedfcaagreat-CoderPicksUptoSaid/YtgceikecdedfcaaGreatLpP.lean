/- Parts of a proof, joined: Fs Ft Fd Fe Fa Fb Fc Ey Ez Ff Fh Fu Fv Ga Gb Ha Hb. -/
import Derived.Test.YtgceikecdedfcaaGreatLpO
namespace Go.Proofs.YtgceikecdedfcaaGreat.Pv
open Go
section
theorem qN {x:Cnt}:∀ (l:List Cnt),(∀ z,z∈l→aG x.1 z.1<0)→pu x l true=l
 | [],_=>rfl
 | y::l,h=>by
  have h1:=h y (by simp);have h2:=eR x.1 y.1;rw[pu,if_neg (by simp),if_neg (by omega),Bool.true_or,Bool.true_or,qN l λz hz=>h z (EV _ hz)];rfl
theorem C7 {x:Cnt}:∀ (l:List Cnt) (b:Bool),∀ y,y∈pu x l b→y.1=x.1∨∃ z,z∈l∧z.1=y.1
 | [],b,y,h=>by
  unfold pu at h;split at h
  ·simp at h
  ·simp at h; subst h; exact .inl rfl
 | z::l,b,y,h=>by
  rw[pu]at h;rcases Fe.1 h with h | h
  ·split at h
   ·simp at h; subst h; exact .inl rfl
   ·simp at h
  ·rcases E9.1 h with h | h
   ·right;refine ⟨z,by simp,?_⟩;rw[h]; split<;>rfl
   ·rcases C7 l _ y h with h | ⟨w,h1,h2⟩
    ·exact .inl h
    ·exact .inr ⟨w,EV _ h1,h2⟩
theorem DX {x:Cnt} {c:Int} (hx:1≤x.2∧x.2≤1) (hc:0≤c):∀ (l:List Cnt) (b:Bool),(∀ z,z∈l→1≤z.2∧z.2≤c)→∀ y,y∈pu x l b→1≤y.2∧y.2≤c+1
 | [],b,_,y,h=>by
  unfold pu at h;split at h
  ·simp at h
  ·simp at h; subst h; omega
 | z::l,b,hl,y,h=>by
  rw[pu]at h;have hz:=hl z (by simp);rcases Fe.1 h with h | h
  ·split at h
   ·simp at h; subst h; omega
   ·simp at h
  ·rcases E9.1 h with h | h
   ·rw[h]; split
    ·show 1≤z.2+x.2∧z.2+x.2≤c+1; omega
    ·omega
   ·exact DX hx hc l _ (λw hw=>hl w (EV _ hw)) y h
theorem zL {x:Cnt}:∀ (l:List Cnt) (b:Bool),(pu x l b).length≤l.length+(if b=true then 0 else 1)
 | [],b=>by unfold pu; split<;>simp
 | z::l,b=>by
  rw[pu,Ey,E7,E7];have ih:=zL (x:=x) l (b||decide (aG z.1 x.1>0)||decide (aG z.1 x.1=0));by_cases hb:b=true
  ·subst hb;simp at ih ⊢;omega
  ·have hb':b=false:=by simpa using hb
   subst hb';by_cases hg:aG z.1 x.1>0
   ·simp[hg]at ih ⊢;omega
   ·simp[hg]at ih ⊢;split at ih<;>omega
theorem sR {x:Cnt}:∀ (l:List Cnt),dY l→dY (pu x l false)
 | [],_=>by simp[pu,dY]
 | y::l,hr=>by
  obtain ⟨hy,hr'⟩:=F8.1 hr;have hneg:=eR x.1 y.1;rw[pu];by_cases hg:aG y.1 x.1>0
  ·have hall:∀ z,z∈l→aG x.1 z.1<0:=λz hz=>dj (by omega) (hy z hz)
   rw[if_pos ⟨hg,rfl⟩,if_neg (by omega),decide_eq_true hg,Bool.false_or,Bool.true_or,qN l hall];refine F8.2 ⟨λz hz=>?_,hr⟩;rcases E9.1 hz with rfl | hz
   ·omega
   ·exact hall z hz
  ·rw[if_neg (λh=>hg h.1),decide_eq_false hg,GV];by_cases h0:aG y.1 x.1=0
   ·have e:=lA h0;have hall:∀ z,z∈l→aG x.1 z.1<0:=λz hz=>by rw[←e]; exact hy z hz
    rw[if_pos h0,decide_eq_true h0,Bool.or_true,qN l hall];exact F8.2 ⟨λz hz=>hy z hz,hr'⟩
   ·rw[if_neg h0,decide_eq_false h0,Hv,Hv];refine F8.2 ⟨λz hz=>?_,sR l hr'⟩;rcases C7 l false z hz with h | ⟨w,h1,h2⟩
    ·rw[h]; omega
    ·rw[←h2]; exact hy w h1
def gu (G:List (List Int)):List Cnt:=G.foldl (λl g=>mm l (g,1)) []
theorem pC (G:List (List Int)) (g:List Int):gu (G++[g])=mm (gu G) (g,1):=by simp[gu,GL]
structure GOk (G:List (List Int)) (l:List Cnt):Prop where
 len:l.length≤G.length
 g:∀ y,y∈l→y.1∈G
 n:∀ y,y∈l→1≤y.2∧y.2≤(G.length:Int)
 rises:dY l
theorem mW:∀ (k:Nat) (G:List (List Int)),G.length=k→GOk G (gu G)
 | 0,G,h=>by
  have:G=[]:=EZ.1 h;subst this;exact ⟨by simp[gu],λy h=>by simp[gu]at h,λy h=>by simp[gu]at h,by simp[gu,dY]⟩
 | k+1,G,h=>by
  obtain ⟨G',g,rfl⟩:∃ G' g,G=G'++[g]:=⟨G.dropLast,G.getLast (by intro e; subst e; simp at h),(F5 _).symm⟩;have hk:G'.length=k:=by simpa using h
  obtain ⟨a1,a2,a3,a4⟩:=mW k G' hk;rw[pC];refine ⟨?_,λy hy=>?_,λy hy=>?_,sR _ a4⟩
  ·have:=zL (x:=(g,1)) (gu G') false;unfold mm;simp at this ⊢; omega
  ·rcases C7 _ _ y hy with e | ⟨z,h1,h2⟩
   ·rw[e]; simp
   ·rw[←h2]; exact FK _ (a2 z h1)
  ·have:=DX (x:=(g,1)) (c:=(G'.length:Int)) ⟨by show (1:Int)≤1; omega,by show (1:Int)≤1; omega⟩ (by omega) (gu G') false a3 y hy;rw[Ey];show 1≤y.2∧y.2≤((G'.length+1:Nat):Int)
   omega
theorem uj (L:List (List Int)) (n:Nat) (h1:1≤n) (hn:n≤1000000) (hL:L.length≤600) (hp:∀ p,p∈L→p.length≤600):Ct P 90 [.c (mz L),.c (nI .i64 n)] [.c (cSl (gu (bh L n)))]:=by
 have hE:=wB L n h1 hn hL hp;have hlen:(bh L n).length≤360000:=by
  have h2:=gU (n:=n) (k:=600) L hp;have h3:L.length*600≤600*600:=EE _ hL;omega
 have hg:∀ g,g∈bh L n→g.length≤1000000:=λg h=>by
  unfold bh at h;obtain ⟨l,hl,hgl⟩:=List.mem_flatten.1 h;obtain ⟨p,hpm,rfl⟩:=Fb.1 hl;have hpl:=hp p hpm;have key:∀ i,g∈grS p n i→g.length≤1000000:=by
   intro i
   induction i with
   | zero=>intro h; simp[grS]at h
   | succ i ih=>
    intro h;unfold grS at h;split at h
    ·rcases Fe.1 h with h | h
     ·exact ih h
     ·simp at h; subst h; rw[EJ]; omega
    ·exact ih h
  exact key _ hgl
 generalize bh L n=G at *
 refine Ct.go aj aa (N:=25) Tryz.func90 rfl rfl rfl rfl ?_;refine X1 _ hE ?_;refine Aw (t:=5) (sz:=2) rfl ?_;refine ax aj aa (λi:Nat=>i≤G.length) (λi=>[(6,.c (mz G)),(5,.c (cSl (gu (G.take i)))),(7,.c (nI .i64 i))]) (λ_=>[]) (λi=>G.length-i)
  0 (by omega) ⟨rfl,rfl,rfl,HB⟩ HB (λ_:Unit=>True) (λ_=>[(5,.c (cSl (gu G)))]) (λ_=>[]) (λi hi=>?_) (λ_ _=>?_)
 ·refine .intro (by rw[bm]; omega) ?_;rw[bm];refine ae (λh2=>?_) (λh2=>?_)
  ·have hi':i<G.length:=by omega
   have hget:=pB (L:=G) (i:=(i:Int)) (n:=i) rfl hi';have hs:gu (G.take (i+1))=mm (gu (G.take i)) (G[i],1):=by rw[EB hi',pC]
   obtain ⟨a1,a2,a3,a4⟩:=mW _ (G.take i) rfl;have hgl:=hg _ (EI hi');have hti:(G.take i).length≤360000:=by rw[EJ]; omega
   generalize G[i]=g at *
   refine .intro (by omega) (X1 _ hget ?_);refine X1 _ (zK (gu (G.take i)) (g,1) ⟨by omega,λy hy=>hg _ (FZ (a2 y hy))⟩ hgl (λy hy=>by have:=a3 y hy; omega) ⟨by show (0:Int)≤1; omega,by show (1:Int)≤_; omega⟩) ?_;refine X1 ((i+1:Nat):Int) (wI1 (by omega)) ?_;exact ⟨i+1,by omega,by omega,⟨rfl,by rw[hs]; rfl,rfl,HB⟩,HB⟩
  ·have e:i=G.length:=by omega
   subst e;rw[Fd];exact ⟨(),HB,⟨rfl,HB⟩,HB⟩
 ·exact ⟨HB,r1 rfl,HB⟩
def cn (L:List (List Int)) (m:Nat):List (List Cnt):=(List.range m).map λk=>gu (bh L (k+1))
theorem oQ (L:List (List Int)) (m:Nat):cn L (m+1)=cn L m++[gu (bh L (m+1))]:=by simp[cn,List.range_succ]
theorem cq (L:List (List Int)) (m:Nat):(cn L m).length=m:=by simp[cn]
theorem sT (L:List (List Int)) (m:Nat) (hm:m≤1000) (hL:L.length≤600) (hp:∀ p,p∈L→p.length≤600):Ct P 38 [.c (mz L),.c (nI .i64 m)] [.c (cK (cn L m))]:=by
 refine Ct.go aj aa (N:=19) Tryz.func38 rfl rfl rfl rfl ?_;refine jo (r:=34) (t:=5) (sz:=1) rfl rfl ?_;refine ax aj aa (λi:Nat=>i≤m) (λi=>[(0,.c (mz L)),(1,.c (nI .i64 m)),(5,.c (.ow 34 1 i)),(6,.c (eI .i64 ((i:Int)+1)))]) (λi=>[(34,.row 1 (a8 (cn L i)))]) (λi=>m-i)
  0 (by omega) ⟨rfl,rfl,rfl,rfl,HB⟩ ⟨rfl,HB⟩ (λ_:Unit=>True) (λ_=>[(5,.c (.ow 34 1 m))]) (λ_=>[(34,.row 1 (a8 (cn L m)))]) (λi hi=>?_) (λ_ _=>?_)
 ·refine ae (λh1=>?_) (λh1=>?_)
  ·have h2:(i:Int)+1≤(m:Int):=h1;have hc:=uj L (i+1) (by omega) (by omega) hL hp;have hcl:aA (a8 (cn L i)):=λel h=>by
    obtain ⟨x,_,rfl⟩:=Fb.1 h;rfl
   have hsn:a8 (cn L (i+1))=a8 (cn L i)++[[cSl (gu (bh L (i+1)))]]:=by rw[oQ]; simp[a8]
   refine X1 _ hc ?_;refine ⟨by rw[ar,cq],by rw[ar,cq]; show (i+1+768)*24≤_; omega,by rw[ar,cq]; show i+1≤_; omega,hcl,aw rfl,?_⟩;refine X1 (((i+1:Nat):Int)+1) (wI (by simp) (by omega) (by omega)) ?_;exact ⟨i+1,by omega,by omega,⟨rfl,rfl,owE (by rw[Ey,ar,cq]; rfl),rfl,HB⟩,⟨aB (by rw[hsn]; rfl),HB⟩⟩
  ·have h2:¬ (i:Int)+1≤(m:Int):=h1;have e:i=m:=by omega
   subst e;exact ⟨(),HB,⟨rfl,HB⟩,⟨rfl,HB⟩⟩
 ·exact ⟨HB,r1 rfl,HB⟩
end
section
section
variable {Lc:List (List Cnt)} {words:Int}
abbrev rM (Lc:List (List Cnt)) (words:Int):A1:=mV Lc words (gr Lc)
theorem wC (h:List Int) (w:Int) (hw:w<0∨words≤w∨w=1):Ct P 74 [rM Lc words,.c (iSl h),.c (eI .i64 w)] [rP (0,1)]:=by
 refine Ct.go aj aa (N:=97) Tryz.func74 rfl rfl rfl rfl ?_;refine ae (λh1=>?_) (λh1=>?_)
 ·refine X1 _ (aH 0 (by omega)) ?_;exact ⟨HB,rc rfl,HB⟩
 ·refine ae (λh2=>?_) (λh2=>?_)
  ·refine X1 _ (aH 0 (by omega)) ?_;exact ⟨HB,rc rfl,HB⟩
  ·refine aT (λh3=>?_) (λh3=>?_)
   ·refine X1 _ (aH 0 (by omega)) ?_;exact ⟨HB,rc rfl,HB⟩
   ·exfalso; omega
set_option maxHeartbeats 4000000 in
theorem pD (hx:XOk Lc words) (w:Int) (hw:¬ (w<0∨words≤w∨w=1)) (h:List Int) (hlt:h.length<Lc.length) {p:Nat × Nat} (hp:Bd 30000 p)
  (hz:h.length=0→p=p0F words) (hnz:h.length≠0→Ct P 74 [rM Lc words,.c (iSl (h.drop 1)),.c (eI .i64 w)] [rP p]) :
  Ct P 74 [rM Lc words,.c (iSl h),.c (eI .i64 w)] [rP (dJ Lc w h p)]:=by
 have h8:=hx.len8;have w3:=hx.w3;have w6:=hx.w6;have i1:Bd 63 (1,1):=ay (v:=1) (by omega) (by omega);have i2:Bd 63 ((words-1).toNat,1):=ay (by omega) (by omega);refine Ct.go aj aa (N:=97) Tryz.func74 rfl rfl rfl rfl ?_;refine ae (λh1=>?_) (λh1=>?_)
 ·exfalso; omega
 refine ae (λh2=>?_) (λh2=>?_)
 ·exfalso; omega
 refine aT (λh3=>?_) (λh3=>?_)
 ·exfalso; omega
 refine .intro (by rw[ac]; omega) ?_;refine .intro (by rw[ar]; omega) ?_;rw[ac,ar];refine ae (λh4=>?_) (λh4=>?_)
 ·exfalso; omega
 refine X1 _ (aH 1 (by omega)) ?_;refine X1 (((words-1).toNat:Nat):Int) (wI (by omega) (by omega) (by omega)) ?_;refine X1 _ (aH (words-1).toNat (by omega)) ?_;refine X1 _ (eK i1 i2 (by show (words-1).toNat≠0; omega) (by omega) (by omega)) ?_;refine .intro rfl ?_;refine .intro (by rw[ac]; omega) ?_;rw[ac];refine ae (λh5=>?_) (λh5=>?_);refine ⟨1,h.length,rfl,by show ((aI h).length:Int)=_; rw[ac],by omega,by rw[ac]; exact Ew _,?_⟩;rw[iRow_sub,show (h.drop 1).take (h.length-1)=h.drop 1 from E3 (by rw[E8]; omega)];refine X1 _ (hnz (by omega)) ?_;refine .intro rfl ?_;rotate_left;have hp0:=hz (by omega);unfold p0F at hp0;rw[←hp0]
 all_goals
  have hln:=hx.lim.at' hlt;have htn:=hx.tot _ (EI hlt);have hlv:lvl Lc h=Lc[h.length]:=fJ hlt;have htl:=jc hx h;have hat:tot (after Lc[h.length] h)≤4611686018427387904:=He (di _ _) htn;refine .intro (by rw[ac]; omega) ?_;rw[ac];refine .intro (by omega) (X1 _ (bK rfl hlt) ?_);have hra:=pg Lc[h.length] h hln (by omega) htn;rw[ub,←hlv]at hra;rw[←hlv];refine X1 _ hra ?_;refine ⟨by decide,by decide,.c (nI .i64 (totN (after (lvl Lc h) h))),rfl,by show (2:Nat)≤6; omega,?_⟩;refine aT (λh6=>?_) (λh6=>?_)
  ·have h7:totN (after (lvl Lc h) h)=0:=by
    have:((totN (after (lvl Lc h) h):Nat):Int)=0:=h6;omega
   unfold dJ;rw[if_pos h7];exact ⟨HB,rc rfl,HB⟩
  ·have h7:totN (after (lvl Lc h) h)≠0:=λh=>h6 (congrArg Nat.cast h)
   have hnb:=gt hx (h++[w]);have hnum:=sA Lc words (gr Lc) (h++[w]) hx.lim (by simp; omega);have how:=cJ hx w h;have hby:=lG hx w h h7;have hg:=gN hx h;unfold dJ;rw[if_neg h7];obtain ⟨aN,haN⟩:∃ aN:Nat,bz Lc (h++[w])=aN:=⟨(bz Lc (h++[w])).toNat,by omega⟩;rw[haN]at hnum hnb;have eow:owF Lc w h=cD (aN,1) (atN (lvl Lc h) aN):=by unfold owF; rw[haN]; rfl
   rw[eow]at how hby ⊢;have erow:aI (h++[w])=aI h++[[eI .i64 w]]:=by simp[aI]
   rw[show iSl (h++[w]) = .sl 1 (aI h++[[eI .i64 w]]) from congrArg _ erow]at hnum;refine ⟨rfl,by rw[ac]; show (0+h.length+768)*8≤_; omega,by rw[ac]; show 0+h.length≤_; omega,b9,bc,?_⟩;refine ⟨rfl,by rw[Ey,ac]; show (0+h.length+1+768)*8≤_; omega,by rw[Ey,ac]; show 0+h.length+1≤_; omega,bc,aw rfl,?_⟩;refine X2 .look (X1 _ hnum ?_);refine .intro rfl ?_;refine X1 _ (aH aN (by omega)) ?_;refine .intro (by rw[ac]; omega) ?_;rw[ac];refine .intro (by omega) (X1 _ (pr rfl hlt) ?_);refine X1 _ (Bt _ _ _ _ _) ?_;have ia:Bd 63 (aN,1):=ay (by omega) (by omega);have hab:=jM hln (aN:Int);have eow2:cD (aN,1) (atN Lc[h.length] aN)=cD (aN,1) (atN (lvl Lc h) aN):=by rw[hlv]
   have hown:=mR (k:=63) (m:=500) ia hab (by omega) (by omega);rw[eow2]at hown;refine X1 _ hown ?_;refine .intro rfl ?_;have it:Bd 63 (totN (after (lvl Lc h) h),1):=ay (by omega) (by omega);refine X1 _ (aH (totN (after (lvl Lc h) h)) (by omega)) ?_;refine X1 _ (eK how it h7 (by omega) (by omega)) ?_;refine X1 _ (BB Lc words h hx.lim hx.tot (by omega)) ?_;refine X1 _ (eJ hg hp (by omega) (by omega)) ?_;refine X1 _ (mQ hby (bf hg hp) (by omega) (by omega)) ?_;refine .intro rfl ?_;exact ⟨HB,rc rfl,HB⟩
theorem lL (hx:XOk Lc words) (w:Int) (hw:¬ (w<0∨words≤w∨w=1)):∀ (h:List Int),h.length<Lc.length→Ct P 74 [rM Lc words,.c (iSl h),.c (eI .i64 w)] [rP (pF Lc words w h)]
 | [],hlt=>pD hx w hw [] hlt ((qK hx).le (by omega)) (λ_=>rfl) (λh=>absurd rfl h)
 | x::t,hlt=>pD hx w hw (x::t) hlt ((sH hx w t).le (by have:=hx.len8; simp at hlt; omega)) (λh=>by simp at h) (λ_=>lL hx w hw t (by simp at hlt; omega))
end
end
section
section
variable {Lc:List (List Cnt)} {words:Int}
theorem zM (hx:XOk Lc words) (h:List Int) (hl:h.length≤1000000) (w:Int):Ct P 74 [rM Lc words,.c (iSl h),.c (eI .i64 w)] [rP (a9 Lc words h w)]:=by
 have h8:=hx.len8;have h0:=hx.len0;have hclt:=jd hx h;unfold a9;by_cases hw:w<0∨words≤w∨w=1
 ·rw[if_pos hw]; exact wC h w hw
 rw[if_neg hw];by_cases hc:Lc.length≤h.length
 ·have hrec:=lL hx w hw (cO Lc h) hclt;have e:cO Lc h=h.drop (h.length-Lc.length+1):=if_pos hc;rw[e]at hrec ⊢;refine Ct.go aj aa (N:=97) Tryz.func74 rfl rfl rfl rfl ?_;refine ae (λh1=>?_) (λh1=>?_)
  ·exfalso; omega
  refine ae (λh2=>?_) (λh2=>?_)
  ·exfalso; omega
  refine aT (λh3=>?_) (λh3=>?_)
  ·exfalso; omega
  refine .intro (by rw[ac]; omega) ?_;refine .intro (by rw[ar]; omega) ?_;rw[ac,ar];refine ae (λh4=>?_) (λh4=>?_)
  ·refine .intro (by rw[ac]; omega) ?_;refine .intro (by rw[ar]; omega) ?_;rw[ac,ar];refine X1 ((h.length-Lc.length:Nat):Int) (wI (by omega) (by omega) (by omega)) ?_;refine X1 ((h.length-Lc.length+1:Nat):Int) (wI (by omega) (by omega) (by omega)) ?_;refine ⟨h.length-Lc.length+1,h.length,rfl,by show ((aI h).length:Int)=_; rw[ac],by omega,by rw[ac]; exact Ew _,?_⟩;rw[iRow_sub,show (h.drop (h.length-Lc.length+1)).take (h.length-(h.length-Lc.length+1))=h.drop (h.length-Lc.length+1) from E3 (by rw[E8]; omega)];refine X1 _ hrec ?_;refine .intro rfl ?_;exact ⟨HB,rc rfl,HB⟩
  ·exfalso; omega
 ·have e:cO Lc h=h:=if_neg hc;rw[e]at hclt ⊢;exact lL hx w hw h hclt
end
end
section
theorem CtO.args {P:Program} {f:FuncId} {O O':Objs} {args args' res:List A1} (h:CtO P f O args O' res) (hw:∀ K ok w vs,RelAs K ok w args' vs→RelAs K ok w args vs):CtO P f O args' O' res:=
 ⟨λK ok w vs hp hr=>h.run K ok w vs hp (hw K ok w vs hr)⟩
theorem RelAs.set {K:Km} {ok:Nat→Prop} {w:World} {xs:List A1} {vs:List Value} {i:Nat} {x y:A1} (h:RelAs K ok w xs vs) (hx:xs[i]? = some x) (hw:∀ u,RelA K ok w x u→RelA K ok w y u):RelAs K ok w (xs.set i y) vs:=
 ⟨by rw[Gu]; exact h.len,λj z hj=>by
  by_cases e:i=j
  ·subst e;rw[List.getElem?_set_self (Ez.1 hx).1]at hj;cases hj;obtain ⟨u,h1,h2⟩:=h.get i x hx;exact ⟨u,h1,hw u h2⟩
  ·rw[List.getElem?_set_ne e]at hj;exact h.get j z hj⟩
theorem BG {K:Km} {ok:Nat→Prop} {w:World} {sz:Nat} (u:Value) (h:RelA K ok w (.c (.sc (.slice none 0 0))) u):RelA K ok w (.c (.sl sz [])) u:=by
 cases h with
 | c h=>
  cases h with
  | cl h=>
   cases h with
   | sc _=>exact .c (.cl .sl0)
theorem C8 {K:Km} {ok:Nat→Prop} {w:World} (u:Value) (h:RelA K ok w (.c (.sl 1 [[.sc (.slice none 0 0)]])) u):RelA K ok w (.c (cK [[]])) u:=by
 cases h with
 | c h=>
  cases h with
  | cl h=>
   cases h with
   | sl g h1 h2 h3 h4 h5 h6 h7=>
    refine .c (.cl (.sl g h1 h2 h3 h4 (λj el hj=>?_) (λj i el x hj hi=>?_) (λj i el x hj hi=>?_)))
    ·cases j with
     | zero=>simp[a8]at hj; subst hj; rfl
     | succ j=>simp[a8]at hj
    ·cases j with
     | zero=>
      simp[a8]at hj; subst hj
      cases i with
      | zero=>exact h6 0 0 _ _ rfl rfl
      | succ i=>simp at hi
     | succ j=>simp[a8]at hj
    ·cases j with
     | zero=>
      simp[a8]at hj; subst hj
      cases i with
      | zero=>
       simp at hi; subst hi;have:=h7 0 0 _ _ rfl rfl;generalize g 0 0=v at *
       cases this with
       | sc _=>exact .sl0
      | succ i=>simp at hi
     | succ j=>simp[a8]at hj
theorem C9 {words:Int} {g:List Int} (hw:words≤65536) (h:gW words g=0):dy g=true:=by
 unfold gW at h;split at h
 ·cases h
 ·rename_i hb;unfold dy;rw[Fq];intro v hv;rw[Ex,decide_eq_true_eq,decide_eq_true_eq];have:¬ my words v=true:=λhbad=>hb (FN.2 ⟨v,hv,hbad⟩)
  unfold my at this;simp at this;omega
theorem vd {words:Int}:∀ {l:List Cnt},kwL words l=0→∀ x,x∈l→gW words x.1=0
 | [],_,x,hx=>by simp at hx
 | y::l,h,x,hx=>by
  unfold kwL at h;split at h
  ·rename_i h1; exact absurd h h1
  ·rename_i h1;rcases E9.1 hx with rfl | hx
   ·omega
   ·exact vd h x hx
theorem sU {words:Int}:∀ {L:List (List Cnt)},iB words L=0→∀ l,l∈L→kwL words l=0
 | [],_,l,hl=>by simp at hl
 | m::L,h,l,hl=>by
  unfold iB at h;split at h
  ·rename_i h1; exact absurd h h1
  ·rename_i h1;rcases E9.1 hl with rfl | hl
   ·omega
   ·exact sU h l hl
theorem Da {L:List (List Cnt)} {words:Int} (hL:CCSum L) (h:gM L words=0) (hn:∀ l,l∈L→∀ x,x∈l→x.2≤4611686018427387904):XOk (ao L) words:=by
 obtain ⟨hok,w1,w2,hkw⟩:=jL h;refine ⟨jK hL.lim,hL.tot,λl hl=>qF hok hl,by rw[bx]; exact hok.len0,by rw[bx]; exact hok.len8,w1,w2,λl hl x hx=>?_,λl hl x hx=>?_⟩
 ·obtain ⟨n,hlt,rfl⟩:=dT hl;obtain ⟨y,hy,rfl⟩:=Fb.1 hx;rw[qE];exact C9 w2 (vd (sU hkw _ (EI hlt)) y hy)
 ·obtain ⟨n,hlt,rfl⟩:=dT hl;obtain ⟨y,hy,rfl⟩:=Fb.1 hx;have h1:=(hok.form n hlt y hy).2;have h2:=hn _ (EI hlt) y hy;unfold cL;split
  ·have:ahead (L.getD (n+1) []) y.1≤1000000:=by
    by_cases h3:n+1<L.length
    ·have e:L.getD (n+1) []=L[n+1]:=by simp[Ev,h3]
     rw[e];exact EA (Ft _ _) (hL.lim.at' h3).len
    ·have e:L.getD (n+1) []=[]:=by simp[Ev,ET (FD h3)]
     rw[e]; simp[ahead]
   show 0≤((ahead _ _:Nat):Int)∧((ahead _ _:Nat):Int)≤_
   omega
  ·show 0≤y.2∧y.2≤_
   omega
theorem oi {M:Int} (hM:0≤M):∀ (l:List Cnt),(∀ x,x∈l→x.2≤M)→tot l≤l.length*M
 | [],_=>by simp[tot]
 | y::l,h=>by
  have ih:=oi hM l λx hx=>h x (EV _ hx)
  have hy:=h y (by simp);have e:((y::l).length:Int)*M=l.length*M+M:=by
   rw[E7]; push_cast; rw[Int.add_mul,Int.one_mul]
  rw[e];unfold tot at ih ⊢;by_cases hl:aW y=true
  ·rw[Fi (p:=aW) hl,Fg,GI]; omega
  ·rw[Fa (p:=aW) hl]; omega
theorem wD (l:List ByteArray) (s:ByteArray):l <+: gY l s:=by
 unfold gY; split
 ·exact List.prefix_refl _
 ·exact List.prefix_append _ _
theorem ol:∀ (ws l:List ByteArray),l <+: cV l ws
 | [],l=>List.prefix_refl _
 | w::ws,l=>(wD l w).trans (ol ws (gY l w))
theorem pG:∀ (L:List (List ByteArray)) (l:List ByteArray),l <+: eS l L
 | [],l=>List.prefix_refl _
 | ws::L,l=>(ol ws l).trans (pG L (cV l ws))
theorem om (s:ByteArray):∀ (l:List ByteArray) (i:Nat),cd s l=i→∃ y,l[i]? = some y∧(y.toList==s.toList)=true
 | [],i,h=>by simp[cd]at h
 | y::l,i,h=>by
  unfold cd at h;split at h
  ·rename_i hy;have:i=0:=by omega
   subst this;exact ⟨y,rfl,hy⟩
  ·split at h
   ·omega
   ·rename_i h1 h2;obtain ⟨z,h3,h4⟩:=om s l (i-1) (by omega);refine ⟨z,?_,h4⟩;rw[show i=(i-1)+1 by omega];simpa using h3
theorem BH {ws:List ByteArray} {w:ByteArray} (hp:marks15 <+: ws) (hm:kQ w=false):0≤g9 ws w∧g9 ws w<ws.length∧g9 ws w≠1:=by
 have h3:3≤ws.length:=hp.length_le;have hl:=wx w ws;unfold g9;split
 ·omega
 ·refine ⟨by omega,by omega,λh=>?_⟩;obtain ⟨y,h1,h2⟩:=om w ws 1 h;obtain ⟨t,rfl⟩:=hp;have:y=⟨#[60,115,62]⟩:=by
   have h5:(marks15++t)[1]? = some (⟨#[60,115,62]⟩:ByteArray):=rfl;rw[h5]at h1;exact (Gc h1).symm
  subst this;unfold kQ at hm;rw[Bool.or_eq_false_iff]at hm;have h6:=beq_iff_eq.1 h2;rw[←h6]at hm;have h7:=hm.1;rw[beq_self_eq_true]at h7;cases h7
structure PadOk (words:Int) (p:List Int):Prop where
 rg:∀ v,v∈p→0≤v∧v<words
 tl:∀ v,v∈p.drop 1→v≠1
theorem zN {ws l:List ByteArray} (hp:marks15 <+: ws) (hl:kS l):PadOk ws.length (eD ws l):=by
 have h3:3≤ws.length:=hp.length_le;have key:∀ v,v∈l.map (g9 ws)++[2]→0≤v∧v<(ws.length:Int)∧v≠1:=λv hv=>by
  rcases Fe.1 hv with hv | hv
  ·obtain ⟨w,hw,rfl⟩:=Fb.1 hv;exact BH hp (hl w hw).2
  ·simp at hv; subst hv; omega
 refine ⟨λv hv=>?_,λv hv=>(key v (by simpa [eD] using hv)).2.2⟩;have:v=1∨v∈l.map (g9 ws)++[2]:=by simpa [eD] using hv
 rcases this with rfl | h
 ·omega
 ·exact ⟨(key v h).1,(key v h).2.1⟩
theorem qO {p:List Int} {n:Nat}:∀ (i:Nat) (g:List Int),g∈grS p n i→∃ j,n+j≤p.length∧g=(p.drop j).take n
 | 0,g,h=>by simp[grS]at h
 | i+1,g,h=>by
  unfold grS at h;split at h
  ·rename_i hi;rcases Fe.1 h with h | h
   ·exact qO i g h
   ·simp at h; exact ⟨i,hi,h⟩
  ·exact qO i g h
theorem uk {L:List (List Int)} {n:Nat} {g:List Int} (h:g∈bh L n):∃ p j,p∈L∧n+j≤p.length∧g=(p.drop j).take n:=by
 unfold bh at h;obtain ⟨l,hl,hgl⟩:=List.mem_flatten.1 h;obtain ⟨p,hpm,rfl⟩:=Fb.1 hl;obtain ⟨j,h1,h2⟩:=qO _ _ hgl;exact ⟨p,j,hpm,h1,h2⟩
theorem ve:∀ (l:List Int),(∀ v,v∈l→v≠1)→idx 1 l<0
 | [],_=>by simp[idx]
 | y::l,h=>by
  unfold idx;rw[if_neg (λe=>h y (by simp) e.symm),if_pos (ve l λv hv=>h v (EV _ hv))];omega
theorem DY {words:Int} {p:List Int} (hp:PadOk words p) {n j:Nat}:gW words ((p.drop j).take n)=0:=by
 have hsub:∀ v,v∈(p.drop j).take n→v∈p:=λv hv=>GO (FZ hv)
 unfold gW;rw[if_neg,if_neg]
 ·have:=ve (((p.drop j).take n).drop 1) λv hv=>hp.tl v (by
   rw[List.drop_take]at hv;have h1:v∈(p.drop j).drop 1:=FZ hv;have e:(p.drop j).drop 1=(p.drop 1).drop j:=by rw[Gf,Gf,GS]
   rw[e]at h1;exact GO h1)
  omega
 ·rw[FN]
  rintro ⟨v,hv,hb⟩
  have:=hp.rg v (hsub v hv);unfold my at hb;simp at hb;omega
theorem sV {words:Int}:∀ {l:List Cnt},(∀ x,x∈l→gW words x.1=0)→kwL words l=0
 | [],_=>rfl
 | y::l,h=>by
  unfold kwL;rw[if_neg (by rw[h y (by simp)]; simp)];exact sV λx hx=>h x (EV _ hx)
theorem pH {words:Int}:∀ {L:List (List Cnt)},(∀ l,l∈L→kwL words l=0)→iB words L=0
 | [],_=>rfl
 | y::l,h=>by
  unfold iB;rw[if_neg (by rw[h y (by simp)]; simp)];exact pH λx hx=>h x (EV _ hx)
theorem mn {n:Nat}:∀ {l:List Cnt} {p:Option (List Int)},(∀ x,x∈l→x.1.length=n+1∧1≤x.2)→dY l→(∀ q,p=some q→∀ x,x∈l→aG q x.1<0)→cU n p l=0
 | [],p,_,_,_=>nM
 | x::l,p,h,hr,hq=>by
  obtain ⟨h1,h2⟩:=F8.1 hr;obtain ⟨a1,a2⟩:=h x (by simp);rw[iu,if_neg (by omega),if_neg (by omega),if_neg]
  ·exact mn (λy hy=>h y (EV _ hy)) h2 λq hq y hy=>by cases hq; exact h1 y hy
  ·cases p with
   | none=>simp
   | some q=>
    have:=hq q rfl x (by simp);simp; omega
theorem kV:∀ {L:List (List Cnt)} {n:Nat},(∀ (k:Nat) l,L[k]? = some l→cU (n+k) none l=0)→cY n L=0
 | [],_,_=>rfl
 | l::L,n,h=>by
  have h0:cU n none l=0:=h 0 l rfl;rw[cY,if_neg (by rw[h0]; simp)];exact kV λk x hx=>by
   have:=h (k+1) x (by simpa using hx);rwa [show n+(k+1)=n+1+k by omega]at this
abbrev ofL (s:ByteArray) (m:Nat):List (List Cnt):=cn (fK (aK s) s) m
theorem oq {s:ByteArray} (hs:s.size≤120):marks15 <+: aK s∧(aK s).length≤14523:=by
 obtain ⟨b1,b2⟩:=kT s;refine ⟨pG _ _,?_⟩;have h1:=lK (n:=120) (fY s) marks15 λws h=>by have:=(b2 ws h).1; omega
 have h3:(fY s).length*120≤121*120:=EE _ (by omega);have h4:marks15.length=3:=rfl;unfold aK;omega
theorem ot {s:ByteArray} (hs:s.size≤120):(fK (aK s) s).length≤121∧∀ p,p∈fK (aK s) s→p.length≤122∧PadOk (aK s).length p:=by
 obtain ⟨b1,b2⟩:=kT s;unfold fK;refine ⟨by rw[Fl]; omega,λp hp=>?_⟩;obtain ⟨l,hl,rfl⟩:=Fb.1 hp;obtain ⟨c1,c2⟩:=b2 l hl;refine ⟨?_,zN (oq hs).1 c2⟩;simp[eD];omega
theorem kW {L:List (List Int)} {m k:Nat} {l:List Cnt} (h:(cn L m)[k]? = some l):k<m∧l=gu (bh L (k+1)):=by
 unfold cn at h;rw[EH,EC]at h;obtain ⟨j,hj,rfl⟩:=h;obtain ⟨h1,h2⟩:=Ez.1 hj;simp at h1 h2;subst h2;exact ⟨h1,rfl⟩
theorem BI {s:ByteArray} (hs:s.size≤120) (n:Nat):(bh (fK (aK s) s) n).length≤14762:=by
 obtain ⟨a1,a2⟩:=ot hs;have h1:=gU (n:=n) (k:=122) (fK (aK s) s) λp h=>(a2 p h).1
 have h3:(fK (aK s) s).length*122≤121*122:=EE _ a1;omega
theorem vf {s:ByteArray} (hs:s.size≤120) {m k:Nat} {l:List Cnt} (h:(ofL s m)[k]? = some l):k<m∧l.length≤14762∧dY l∧∀ x,x∈l→x.1.length=k+1∧1≤x.2∧x.2≤14762∧gW (aK s).length x.1=0:=by
 obtain ⟨h1,rfl⟩:=kW h;obtain ⟨g1,g2,g3,g4⟩:=mW _ (bh (fK (aK s) s) (k+1)) rfl;have hb:=BI hs (k+1);refine ⟨h1,by omega,g4,λx hx=>?_⟩;obtain ⟨p,j,hp,hj,hg⟩:=uk (g2 x hx);have hn:=g3 x hx;refine ⟨?_,hn.1,by omega,?_⟩
 ·rw[hg,EJ,E8]; omega
 ·rw[hg]; exact DY ((ot hs).2 p hp).2
theorem ou {s:ByteArray} (hs:s.size≤120) {m:Nat} {l:List Cnt} (h:l∈ofL s m) (hm:m≤4):l.length≤14762∧dY l∧∀ x,x∈l→x.1.length≤4∧1≤x.2∧x.2≤14762∧gW (aK s).length x.1=0:=by
 obtain ⟨k,hk⟩:=Gp.1 h;obtain ⟨h1,h2,h3,h4⟩:=vf hs hk;exact ⟨h2,h3,λx hx=>by obtain ⟨a1,a2⟩:=h4 x hx; exact ⟨by omega,a2⟩⟩
theorem sW {s:ByteArray} (hs:s.size≤120) {m:Nat} (h1:1≤m) (h4:m≤4):gM (ofL s m) (aK s).length=0:=by
 obtain ⟨l1,l2⟩:=oq hs;have l3:3≤(aK s).length:=l1.length_le;have hlen:(ofL s m).length=m:=cq _ _;have hw:fD (ofL s m)=0:=by
  unfold fD;rw[if_neg (by rw[hlen]; omega)];refine kV λk l hk=>?_
  obtain ⟨_,_,r,hx⟩:=vf hs hk;rw[Fn];exact mn (λx hm=>⟨(hx x hm).1,(hx x hm).2.1⟩) r λq hq=>by cases hq
 unfold gM;rw[if_neg (by rw[hw]; simp),if_neg (by omega)];refine pH λl hl=>sV λx hx=>?_
 exact ((ou hs hl h4).2.2 x hx).2.2.2
theorem ul {s:ByteArray} (hs:s.size≤120) {m:Nat} (h4:m≤4):CCSum (ofL s m)∧∀ l,l∈ofL s m→∀ x,x∈l→x.2≤4611686018427387904:=by
 have hlen:(ofL s m).length=m:=cq _ _;have hcl:CCLim (ofL s m):=⟨by rw[hlen]; omega,λl hl=>by
  obtain ⟨a1,_,a3⟩:=ou hs hl h4;exact ⟨by omega,λx hx=>by have:=(a3 x hx).1; omega⟩⟩
 refine ⟨⟨hcl,λl hl=>?_⟩,λl hl x hx=>by have:=((ou hs hl h4).2.2 x hx).2.2.1; omega⟩;obtain ⟨n,hn,rfl⟩:=dT hl;obtain ⟨a1,_,a3⟩:=ou hs (EI hn) h4;have:=oi (M:=1000000) (by omega) ((ofL s m)[n].map (cL (ofL s m) n)) λx hx'=>by
  obtain ⟨y,hy,rfl⟩:=Fb.1 hx';have h4:=(a3 y hy).2.2.1;unfold cL;split
  ·have:ahead ((ofL s m).getD (n+1) []) y.1≤1000000:=by
    by_cases h3:n+1<(ofL s m).length
    ·have e:(ofL s m).getD (n+1) []=(ofL s m)[n+1]:=by simp[Ev,h3]
     rw[e];exact EA (Ft _ _) (hcl.at' h3).len
    ·have e:(ofL s m).getD (n+1) []=[]:=by simp[Ev,ET (FD h3)]
     rw[e]; simp[ahead]
   show ((ahead _ _:Nat):Int)≤_
   omega
  ·omega
 rw[Fl]at this;have h5:((ofL s m)[n].length:Int)*1000000≤14762*1000000:=Int.mul_le_mul_of_nonneg_right (by omega) (by omega);omega
def qv (p:Nat × Nat):Rat:=(p.1:Rat)/(p.2:Rat)
theorem et {n:Nat} (h:n≠0):(n:Rat)≠0:=λe=>h (Rat.natCast_inj.1 (by rw[e]; rfl))
theorem pI {n d:Nat} (h:d≠0):qv (fR n d)=(n:Rat)/(d:Rat):=by
 have hg:Nat.gcd n d≠0:=λe=>h (Gn e)
 obtain ⟨a,ha⟩:=G7 n d;obtain ⟨b,hb⟩:=Gw n d;unfold qv fR;generalize Nat.gcd n d=g at *
 subst ha hb;have hb0:b≠0:=λe=>h (by rw[e,FQ])
 simp only;rw[FY _ (E5 hg),FY _ (E5 hg),FA,FA];have h1:=et hg;have h2:=et hb0;grind
theorem jN {p q:Nat × Nat} (hp:p.2≠0) (hq:q.2≠0):qv (cI p q)=qv p*qv q:=by
 unfold cI;rw[pI (EU hp hq),FA,FA];have h1:=et hp;have h2:=et hq;unfold qv;grind
theorem ov {p q:Nat × Nat} (hp:p.2≠0) (hq:q.2≠0) (hq1:q.1≠0):qv (c9 p q)=qv p/qv q:=by
 unfold c9;rw[pI (EU hp hq1),FA,FA];have h1:=et hp;have h2:=et hq;have h3:=et hq1;unfold qv;grind
theorem iH {p q:Nat × Nat} (hp:p.2≠0) (hq:q.2≠0):qv (bH p q)=qv p+qv q:=by
 unfold bH;rw[pI (EU hp hq),FA,Gd,FA,FA];have h1:=et hp;have h2:=et hq;unfold qv;grind
theorem zO {p q:Nat × Nat} (hp:p.2≠0) (hq:q.2≠0) (hle:q.1*p.2≤p.1*q.2):qv (cD p q)=qv p-qv q:=by
 unfold cD;obtain ⟨c,hc⟩:=Nat.exists_eq_add_of_le hle;have e:(p.1:Rat)*q.2=q.1*p.2+c:=by rw[←FA,hc,Gd,FA]
 rw[pI (EU hp hq),hc,Nat.add_sub_cancel_left,FA];have h1:=et hp;have h2:=et hq;unfold qv;grind
theorem dU (n:Nat):qv (n,1)=n:=by
 unfold qv;simp only;rw[show ((1:Nat):Rat)=1 from rfl];grind
theorem Db {n d:Nat} (hd:d≠0) (h:qv (fR n d)=1):fR n d=(1,1):=by
 rw[pI hd]at h;have h1:=et hd;have e:(n:Rat)=d:=by grind
 have:=Rat.natCast_inj.1 e;subst this;unfold fR;rw[Nat.gcd_self,Hf (E5 hd)]
theorem eT {p q:Nat × Nat} (hp:p.2≠0) (hq:q.2≠0):(cI p q).2≠0:=ix (EU hp hq)
theorem gv {p q:Nat × Nat} (hp:p.2≠0) (hq:q.2≠0):(bH p q).2≠0:=ix (EU hp hq)
theorem ox {p q:Nat × Nat} (hp:p.2≠0) (hq:q.1≠0):(c9 p q).2≠0:=ix (EU hp hq)
def dk (f:Nat→Rat):Nat→Rat
 | 0=>0
 | n+1=>dk f n+f n
def ge (f:Cnt→Rat):List Cnt→Rat
 | []=>0
 | x::l=>f x+ge f l
theorem eG {f g:Nat→Rat}:∀ {n:Nat},(∀ w,w<n→f w=g w)→dk f n=dk g n
 | 0,_=>rfl
 | n+1,h=>by rw[dk,dk,eG λw hw=>h w (by omega),h n (by omega)]
theorem oy {f g:Nat→Rat}:∀ {n:Nat},dk (λw=>f w+g w) n=dk f n+dk g n
 | 0=>by simp only[dk]; grind
 | n+1=>by simp only[dk]; rw[oy]; grind
theorem oz {f:Nat→Rat} {c:Rat}:∀ {n:Nat},dk (λw=>c*f w) n=c*dk f n
 | 0=>by simp only[dk]; grind
 | n+1=>by simp only[dk]; rw[oz]; grind
theorem lM:∀ {n:Nat},dk (λ_=>0) n=0
 | 0=>rfl
 | n+1=>by simp only[dk]; rw[lM]; grind
theorem sX {c:Rat} {v:Nat}:∀ {n:Nat},dk (λw=>if w=v then c else 0) n=if v<n then c else 0
 | 0=>by simp[dk]
 | n+1=>by
  simp only[dk]; rw[sX];by_cases h1:n=v
  ·subst h1; rw[if_neg (by omega),if_pos rfl,if_pos (by omega)]; grind
  ·rw[if_neg h1];by_cases h2:v<n
   ·rw[if_pos h2,if_pos (by omega)]; grind
   ·rw[if_neg h2,if_neg (by omega)]; grind
theorem oA {c:Rat}:∀ {n:Nat},dk (λw=>if (w:Int)=1 then 0 else c) (n+2)=((n+1:Nat):Rat)*c
 | 0=>by
  simp only[dk];rw[if_neg (by decide),if_pos (by decide),show ((0+1:Nat):Rat)=1 from rfl];grind
 | n+1=>by
  rw[dk,oA,if_neg (by omega),Gd (n+1) 1,show ((1:Nat):Rat)=1 from rfl];grind
theorem oB {f g:Cnt→Rat}:∀ {l:List Cnt},(∀ x,x∈l→f x=g x)→ge f l=ge g l
 | [],_=>rfl
 | y::l,h=>by rw[ge,ge,oB λx hx=>h x (EV _ hx),h y (by simp)]
theorem pJ:∀ l:List Cnt,ge (λ_=>0) l=0
 | []=>rfl
 | _::l=>by simp only[ge]; rw[pJ l]; grind
theorem DZ (f:Nat→Cnt→Rat):∀ (l:List Cnt) (n:Nat),dk (λw=>ge (f w) l) n=ge (λx=>dk (λw=>f w x) n) l
 | [],n=>by simp only[ge]; exact lM
 | y::l,n=>by simp only[ge]; rw[oy,DZ f l n]
theorem mo {f:Cnt→Rat} {p:Cnt→Bool}:∀ {l:List Cnt},ge (λx=>if p x=true then f x else 0) l=ge f (l.filter p)
 | []=>rfl
 | y::l=>by
  simp only[ge]; rw[mo];by_cases h:p y=true
  ·rw[if_pos h,Fi h,ge]
  ·rw[if_neg h,Fa h]; grind
def nlk (g:List Int) (l:List Cnt):Int:=if ct g l<0 then 0 else (l.getD (ct g l).toNat ([],0)).2
theorem zP {g:List Int} {x:Cnt} {l:List Cnt}:nlk g (x::l)=if x.1=g then x.2 else nlk g l:=by
 unfold nlk;by_cases h:x.1=g
 ·rw[if_pos h,show ct g (x::l)=0 by rw[ct,if_pos h]]; rfl
 ·rw[if_neg h];have:=mS g l;by_cases h2:ct g l<0
  ·rw[show ct g (x::l) = -1 by rw[ct,if_neg h,if_pos h2],if_pos h2]; rfl
  ·rw[show ct g (x::l)=ct g l+1 by rw[ct,if_neg h,if_neg h2],if_neg h2,if_neg (by omega),show (ct g l+1).toNat=(ct g l).toNat+1 by omega];simp
theorem vg {f:Int→Rat} (hf:f 0=0) (g:List Int):∀ {l:List Cnt},dY l→f (nlk g l)=ge (λx=>if x.1=g then f x.2 else 0) l
 | [],_=>by show f 0=0; exact hf
 | y::l,h=>by
  obtain ⟨h1,h2⟩:=F8.1 h;rw[zP,ge,←vg hf g h2];by_cases h3:y.1=g
  ·have h4:nlk g l=0:=by
    unfold nlk;rw[if_pos];rw[fo g l λj hj e=>?_]
    ·decide
    ·have:=h1 _ (EI hj);rw[e,h3,dX]at this;omega
   rw[if_pos h3,if_pos h3,h4,hf]; grind
  ·rw[if_neg h3,if_neg h3]; grind
theorem wF {Lc:List (List Cnt)} {h:List Int} {w:Int} (hh:h.length<Lc.length):bz Lc (h++[w])=nlk (h++[w]) (lvl Lc h):=by
 have e:(h++[w]).length-1=h.length:=by simp
 unfold bz nlk lvl;rw[e,if_neg (by simp; omega)]
def eU (words:Int) (l:List Cnt):Prop:=∀ x,x∈l→∀ (h:List Int) (v:Int),x.1=h++[v]→0≤v∧v<words∧(v=1→h=[])
theorem BJ {f:Int→Rat} (hf:f 0=0) {l:List Cnt} {words:Nat} (hr:dY l) (h0:∀ x,x∈l→0≤x.2) (he:eU words l) (h:List Int) :
  dk (λw=>if (w:Int)=1 then 0 else f (nlk (h++[(w:Int)]) l)) words=ge (λx=>if aW x=true then f x.2 else 0) (after l h):=by
 rw[eG (g:=λw=>ge (λx=>if (w:Int)=1 then 0 else if x.1=h++[(w:Int)] then f x.2 else 0) l) λw _=>?_,DZ]
 ·unfold after;rw[←mo];refine oB λx hx=>?_
  by_cases hp:cG h x=true
  ·rw[if_pos hp];unfold cG at hp;rw[Ex,decide_eq_true_eq,decide_eq_true_eq]at hp;obtain ⟨v,hv⟩:∃ v,x.1=h++[v]:=by
    refine ⟨x.1[h.length]'(by omega),?_⟩;have e:=GG h.length x.1;rw[hp.2,E4 (by omega),List.drop_of_length_le (by omega)]at e;exact e.symm
   obtain ⟨e1,e2,e3⟩:=he x hx h v hv;obtain ⟨vn,rfl⟩:∃ vn:Nat,v=(vn:Int):=⟨v.toNat,by omega⟩;rw[eG (g:=λw=>if w=vn then (if (vn:Int)=1 then 0 else f x.2) else 0) λw _=>?_,sX,if_pos (by omega)]
   ·by_cases h1:(vn:Int)=1
    ·rw[if_pos h1,if_neg];have:x.1=[1]:=by rw[hv,e3 h1,h1]; rfl
     unfold aW;rw[this]; simp
    ·rw[if_neg h1];have hne:¬ x.1=[1]:=λh2=>by
      rw[hv]at h2;have hl:=congrArg List.length h2;simp at hl;subst hl;simp at h2;omega
     by_cases h2:x.2<1
     ·have:=h0 x hx;rw[show x.2=0 by omega,hf];split<;>rfl
     ·rw[if_pos];unfold aW;rw[decide_eq_false h2,decide_eq_false hne]; rfl
   ·by_cases hw:w=vn
    ·subst hw;rw[if_pos rfl,if_pos hv]
    ·rw[if_neg hw];rw[if_neg (show ¬ x.1=h++[(w:Int)] from λe=>by
      rw[hv]at e;have:=List.append_cancel_left e;simp at this;omega)]
     split<;>rfl
  ·rw[if_neg hp,eG (g:=λ_=>0) λw _=>?_,lM];rw[if_neg (show ¬ x.1=h++[(w:Int)] from λe=>hp (by unfold cG; rw[e]; simp))];split<;>rfl
 ·by_cases hw:(w:Int)=1
  ·simp only[if_pos hw];exact (pJ l).symm
  ·simp only[if_neg hw];exact vg hf _ hr
theorem D0 {n d k:Nat} (h:n≤k*d):(fR n d).1≤k*(fR n d).2:=by
 show n/Nat.gcd n d≤k*(d/Nat.gcd n d)
 rw[←Nat.mul_div_assoc k (Gw n d)];exact Nat.div_le_div_right h
theorem BK (k:Nat) (p:Nat × Nat):(cD (k,1) p).1≤k*(cD (k,1) p).2:=D0 (by simp)
theorem qQ (l:List Cnt) (k:Nat) (h1:1≤k) (h3:k≤3):(e8 l k).1≤k*(e8 l k).2:=by
 have hk:k=1∨k=2∨k=3:=by omega
 unfold e8;rcases hk with rfl | rfl | rfl
 all_goals
  simp only[cM];split
  ·exact BK _ _
  ·exact Gt _
theorem Dc (l:List Cnt) {a:Int} (ha:0≤a):(atN l a).1*1≤a.toNat*(atN l a).2:=by
 rw[FT];unfold atN at4;split
 ·exact Gt _
 ·split
  ·rename_i h; subst h; exact qQ l 1 (by omega) (by omega)
  ·split
   ·rename_i h; subst h; exact qQ l 2 (by omega) (by omega)
   ·exact EA (qQ l 3 (by omega) (by omega)) (EE _ (by omega))
def kX (l:List Cnt) (a:Int):Rat:=qv (cD (a.toNat,1) (atN l a))
theorem BL (l:List Cnt):kX l 0=0:=by
 have:cD ((0:Int).toNat,1) (atN l 0)=(0,1):=by
  unfold atN at4;rw[if_pos (by omega)];rfl
 unfold kX;rw[this,dU];rfl
theorem zQ {l:List Cnt} (hl:CLim l) {a:Int} (ha:0≤a):kX l a=(a.toNat:Rat)-qv (atN l a):=by
 unfold kX;rw[zO (by simp) (jM hl a).pos (Dc l ha),dU]
theorem pK {x:Cnt} {l:List Cnt}:totN (x::l)=(if aW x=true then x.2.toNat else 0)+totN l:=by
 have h1:tot (x::l)=tot [x]+tot l:=iU [x] l;have h2:=cF [x];have h3:=cF l;have h4:tot [x]=if aW x=true then x.2 else 0:=by
  unfold tot;by_cases h:aW x=true
  ·rw[if_pos h,Fi h]; simp
  ·rw[if_neg h,Fa h]; simp
 unfold totN;split
 ·rename_i h; rw[if_pos h]at h4; omega
 ·rename_i h; rw[if_neg h]at h4; omega
theorem wG {x:Cnt} {l:List Cnt}:tysN (x::l)=(if aW x=true then 1 else 0)+tysN l:=by
 unfold tysN;by_cases h:aW x=true
 ·rw[if_pos h,Fi h,E7]; omega
 ·rw[if_neg h,Fa h]; omega
theorem pM {x:Cnt} {l:List Cnt} {k:Int}:aq (x::l) k=(if aW x=true∧x.2=k then 1 else 0)+aq l k:=by
 unfold aq;by_cases h:aW x=true∧x.2=k
 ·rw[if_pos h,Fi (by simp[h]),E7]; omega
 ·rw[if_neg h,Fa (by simpa using h)]; omega
def zR (l A:List Cnt):Rat:=(aq A 1:Rat)*qv (e8 l 1)+(aq A 2:Rat)*qv (e8 l 2)+((tysN A:Rat)-(aq A 1:Rat)-(aq A 2:Rat))*qv (e8 l 3)
theorem Dd {x:Cnt} (h:aW x=true):1≤x.2:=by
 unfold aW at h;rw[Ex]at h;have:=h.1;simp at this;omega
theorem sY {l:List Cnt} (hl:CLim l):∀ A:List Cnt,ge (λx=>if aW x=true then kX l x.2 else 0) A=(totN A:Rat)-zR l A
 | []=>by
  show (0:Rat)=((0:Nat):Rat)-_
  unfold zR;rw[show ((aq [] 1:Nat):Rat)=0 from rfl,show ((aq [] 2:Nat):Rat)=0 from rfl,show ((tysN []:Nat):Rat)=0 from rfl,show ((0:Nat):Rat)=0 from rfl];grind
 | x::A=>by
  have ih:=sY hl A;rw[ge,ih];unfold zR;rw[pK,wG,pM,pM];by_cases h:aW x=true
  ·have h1:=Dd h;rw[if_pos h,if_pos h,if_pos h,zQ hl (by omega)];simp only[h,true_and,Gd];rw[show ((1:Nat):Rat)=1 from rfl];have h2:x.2=1∨x.2=2∨3≤x.2:=by omega
   unfold atN at4;rw[if_neg (by omega)];rcases h2 with h2 | h2 | h2
   ·rw[if_pos h2,if_pos h2,if_neg (show ¬ x.2=2 by omega),show ((1:Nat):Rat)=1 from rfl,show ((0:Nat):Rat)=0 from rfl];grind
   ·rw[if_neg (show ¬ x.2=1 by omega),if_pos h2,if_neg (show ¬ x.2=1 by omega),if_pos h2,show ((1:Nat):Rat)=1 from rfl,show ((0:Nat):Rat)=0 from rfl];grind
   ·rw[if_neg (show ¬ x.2=1 by omega),if_neg (show ¬ x.2=2 by omega),if_neg (show ¬ x.2=1 by omega),if_neg (show ¬ x.2=2 by omega),show ((0:Nat):Rat)=0 from rfl];grind
  ·rw[if_neg h,if_neg h,if_neg h,if_neg (λe=>h e.1),if_neg (λe=>h e.1)];simp only[Fn];grind
theorem De {Lc:List (List Cnt)} {words:Int} (hx:XOk Lc words) {h:List Int} (hT:totN (after (lvl Lc h) h)≠0):qv (fk Lc h)=zR (lvl Lc h) (after (lvl Lc h) h)/(totN (after (lvl Lc h) h):Rat):=by
 have hh:h.length<Lc.length:=by
  apply Classical.byContradiction;intro hn;apply hT;have:lvl Lc h=[]:=by simp[lvl,Ev,ET (FD hn)]
  rw[this]; rfl
 have hlv:=fJ hh;have hln:=hx.lim.at' hh;have ob:=λk=>fX hln k
 unfold fk;rw[dif_pos hh,←hlv];rw[←hlv]at ob;generalize lvl Lc h=l at *
 have hs:=kO (after l h);unfold jv;rw[if_neg (by omega)];have i:=λn:Nat=>dU n
 obtain ⟨c,hc⟩:=Nat.exists_eq_add_of_le hs;have p1:=(ob 1).pos;have p2:=(ob 2).pos;have p3:=(ob 3).pos;have one:(1:Nat)≠0:=by decide
 have m1:(cI (aq (after l h) 1,1) (e8 l 1)).2≠0:=eT one p1;have m2:(cI (aq (after l h) 2,1) (e8 l 2)).2≠0:=eT one p2;have m3:(cI (tysN (after l h)-aq (after l h) 1-aq (after l h) 2,1) (e8 l 3)).2≠0:=eT one p3;have a1:(bH (cI (aq (after l h) 1,1) (e8 l 1)) (cI (aq (after l h) 2,1) (e8 l 2))).2≠0:=gv m1 m2;show qv (c9 (bH (bH (cI (aq (after l h) 1,1) (e8 l 1)) (cI (aq (after l h) 2,1) (e8 l 2))) (cI (tysN (after l h)-aq (after l h) 1-aq (after l h) 2,1) (e8 l 3))) (totN (after l h),1))=_
 rw[ov (gv a1 m3) one hT,iH a1 m3,iH m1 m2,jN one p1,jN one p2,jN one p3,i,i,i,i];unfold zR;congr 2;rw[hc,show aq (after l h) 1+aq (after l h) 2+c-aq (after l h) 1-aq (after l h) 2=c by omega,Gd,Gd];grind
def noB (f:Nat→Rat) (w:Nat):Rat:=if (w:Int)=1 then 0 else f w
theorem sZ {Lc:List (List Cnt)} {n:Nat} (hx:XOk Lc n) (he:∀ l,l∈Lc→eU n l) (h:List Int) {p:Nat→Nat × Nat} (hp:∀ w,(p w).2≠0) (hs:dk (noB λw=>qv (p w)) n=1) :
  dk (noB λw=>qv (dJ Lc w h (p w))) n=1:=by
 by_cases hT:totN (after (lvl Lc h) h)=0
 ·rw[←hs];refine eG λw _=>?_
  unfold noB dJ;simp only[if_pos hT]
 ·have hh:h.length<Lc.length:=by
   apply Classical.byContradiction;intro hn;apply hT;have:lvl Lc h=[]:=by simp[lvl,Ev,ET (FD hn)]
   rw[this]; rfl
  have hm:lvl Lc h∈Lc:=by rw[fJ hh]; exact EI hh
  have hln:=hx.lim.l _ hm;have hsn:=BJ (f:=kX (lvl Lc h)) (BL _) (words:=n) (hx.rises _ hm) (λx hxm=>(hx.num _ hm x hxm).1) (he _ hm) h;rw[sY hln]at hsn;have hg:=De hx hT;have hgb:=(gN hx h).pos;have hT':=et hT;rw[eG (g:=λw=>(1/(totN (after (lvl Lc h) h):Rat))*(if (w:Int)=1 then 0 else kX (lvl Lc h) (nlk (h++[(w:Int)]) (lvl Lc h)))+qv (fk Lc h)*noB (λw=>qv (p w)) w) λw _=>?_,oy,oz,oz,hs,hsn,hg]
  ·grind
  ·unfold noB;by_cases hw:(w:Int)=1
   ·simp only[if_pos hw]; grind
   ·simp only[if_neg hw];unfold dJ;have ob:=(cJ hx w h).pos;have one:(1:Nat)≠0:=by decide
    rw[if_neg hT,iH (ox ob hT) (eT hgb (hp w)),ov ob one hT,jN hgb (hp w),dU];have:qv (owF Lc w h)=kX (lvl Lc h) (nlk (h++[(w:Int)]) (lvl Lc h)):=by
     unfold owF kX;rw[wF hh]
    rw[this];grind
theorem Df {Lc:List (List Cnt)} {n:Nat} (hx:XOk Lc n):dk (noB λ_=>qv (p0F n)) n=1:=by
 have h3:=hx.w3;obtain ⟨k,rfl⟩:∃ k,n=k+2:=⟨n-2,by omega⟩;have e:qv (p0F ((k+2:Nat):Int))=1/((k+1:Nat):Rat):=by
  unfold p0F;rw[show (((k+2:Nat):Int)-1).toNat=k+1 by omega,ov (by decide) (show (1:Nat)≠0 by decide) (show k+1≠0 by omega),dU,dU];rfl
 unfold noB;rw[oA,e];have:=et (n:=k+1) (by omega);grind
theorem qS {Lc:List (List Cnt)} {n:Nat} (hx:XOk Lc n) (he:∀ l,l∈Lc→eU n l):∀ h:List Int,dk (noB λw=>qv (pF Lc n w h)) n=1
 | []=>sZ hx he [] (λ_=>(qK hx).pos) (Df hx)
 | x::t=>sZ hx he (x::t) (λw=>(sH hx w t).pos) (qS hx he t)
def aS (Lc:List (List Cnt)) (words:Int) (h:List Int):Nat→Nat × Nat
 | 0=>(0,1)
 | w+1=>bH (aS Lc words h w) (a9 Lc words h w)
theorem mX {Lc:List (List Cnt)} {n:Nat} (hx:XOk Lc n) (h:List Int):∀ w:Nat,w≤n→(aS Lc n h w).2≠0∧qv (aS Lc n h w)=dk (noB λw=>qv (pF Lc n w (cO Lc h))) w
 | 0,_=>⟨show (1:Nat)≠0 by decide,by show qv (0,1)=0; rw[dU]; rfl⟩
 | w+1,hw=>by
  obtain ⟨i1,i2⟩:=mX hx h w (by omega);have hp:=(sI hx h (w:Int)).pos;refine ⟨ix (EU i1 hp),?_⟩;show qv (bH _ _)=dk _ w+_
  rw[iH i1 hp,i2];congr 1;unfold a9 noB;by_cases h1:(w:Int)=1
  ·rw[if_pos (.inr (.inr h1)),if_pos h1,dU]; rfl
  ·rw[if_neg (by omega),if_neg h1]
theorem zS {Lc:List (List Cnt)} {n:Nat} (hx:XOk Lc n) (he:∀ l,l∈Lc→eU n l) (h:List Int):aS Lc n h n=(1,1):=by
 have h3:=hx.w3;obtain ⟨k,rfl⟩:∃ k,n=k+1:=⟨n-1,by omega⟩;obtain ⟨i1,i2⟩:=mX hx h (k+1) (by omega);obtain ⟨j1,_⟩:=mX hx h k (by omega);rw[qS hx he]at i2;exact Db (EU j1 (sI hx h (k:Int)).pos) i2
theorem Dg {n d N D:Nat} (hd:d≠0) (h:n*D=N*d):(fR n d).2∣D:=by
 have hg:Nat.gcd n d≠0:=λe=>hd (Gn e)
 have hco:=iy (n:=n) hd;obtain ⟨a,ha⟩:=G7 n d;obtain ⟨b,hb⟩:=Gw n d;unfold fR at hco ⊢;generalize Nat.gcd n d=g at *
 subst ha hb;simp only at hco ⊢;rw[FY _ (E5 hg)]at hco ⊢;rw[FY _ (E5 hg)]at hco;have h2:g*(a*D)=g*(N*b):=by rw[←EL,h,Fu]
 have h3:=Nat.eq_of_mul_eq_mul_left (E5 hg) h2;exact (Nat.Coprime.symm hco).dvd_of_dvd_mul_left ⟨N,by rw[h3,EQ]⟩
theorem fZ {n d:Nat}:(fR n d).2∣d:=Nat.div_dvd_of_dvd (Gw n d)
structure Dv (Q:Nat) (p:Nat × Nat):Prop where
 pos:p.2≠0
 dvd:p.2∣Q
theorem Dv.up {Q R:Nat} {p:Nat × Nat} (h:Dv Q p) (hd:Q∣R):Dv R p:=⟨h.pos,Ge h.dvd hd⟩
theorem Dv.add {Q:Nat} {p q:Nat × Nat} (h1:Dv Q p) (h2:Dv Q q):Dv Q (bH p q):=by
 refine ⟨gv h1.pos h2.pos,?_⟩;obtain ⟨a,ha⟩:=h1.dvd;obtain ⟨b,hb⟩:=h2.dvd;refine Dg (N:=p.1*a+q.1*b) (EU h1.pos h2.pos) ?_;rw[EO,EO];congr 1
 ·rw[ha]; simp only[EL,EQ,Fu]
 ·rw[hb]; simp only[EL,EQ,Fu]
theorem Dv.mul {Q R:Nat} {p q:Nat × Nat} (h1:Dv Q p) (h2:Dv R q):Dv (Q*R) (cI p q):=
 ⟨eT h1.pos h2.pos,Ge fZ (Nat.mul_dvd_mul h1.dvd h2.dvd)⟩
theorem Dv.sub1 {Q k:Nat} {q:Nat × Nat} (h:Dv Q q):Dv Q (cD (k,1) q):=
 ⟨ix (EU (show (1:Nat)≠0 by decide) h.pos),Ge fZ (by show 1*q.2∣Q; rw[Fh]; exact h.dvd)⟩
theorem Dv.div1 {Q T:Nat} {p:Nat × Nat} (h:Dv Q p) (hT:T≠0):Dv (Q*T) (c9 p (T,1)):=
 ⟨ox h.pos hT,Ge fZ (Nat.mul_dvd_mul h.dvd (Hx _))⟩
theorem Dv.int {Q n:Nat}:Dv Q (n,1):=⟨by show (1:Nat)≠0; decide,Nat.one_dvd Q⟩
theorem Dv.bd {Q k:Nat} {p:Nat × Nat} (h:Dv Q p) (hQ:Q≠0) (hk:Q<2^k) (hle:p.1≤p.2):Bd k p:=by
 have:=Nat.le_of_dvd (E5 hQ) h.dvd;exact ⟨h.pos,by omega,by omega⟩
def dD (l:List Cnt):Nat:=(e8 l 1).2*(e8 l 2).2*(e8 l 3).2
theorem mY {l:List Cnt} (hl:CLim l) (k:Nat) (h1:1≤k) (h3:k≤3):Dv (dD l) (e8 l k):=by
 refine ⟨(fX hl k).pos,?_⟩;have hk:k=1∨k=2∨k=3:=by omega
 unfold dD;rcases hk with rfl | rfl | rfl
 ·exact Ge (GY _ _) (GY _ _)
 ·exact Ge (Nat.dvd_mul_left _ _) (GY _ _)
 ·exact Nat.dvd_mul_left _ _
theorem Dh {l:List Cnt} (hl:CLim l):dD l≠0:=EU (EU (fX hl 1).pos (fX hl 2).pos) (fX hl 3).pos
theorem Di {l:List Cnt} (hl:CLim l) (a:Int):Dv (dD l) (atN l a):=by
 unfold atN at4;split
 ·exact .int
 ·split
  ·exact mY hl 1 (by omega) (by omega)
  ·split
   ·exact mY hl 2 (by omega) (by omega)
   ·exact mY hl 3 (by omega) (by omega)
def lvT (Lc:List (List Cnt)) (h:List Int):Nat:=totN (after (lvl Lc h) h)
def mq (Lc:List (List Cnt)) (h:List Int) (q:Nat):Nat:=if lvT Lc h=0 then q else dD (lvl Lc h)*lvT Lc h*q
def QF (Lc:List (List Cnt)) (words:Int):List Int→Nat
 | []=>mq Lc [] (words-1).toNat
 | x::t=>mq Lc (x::t) (QF Lc words t)
theorem zT {Lc:List (List Cnt)} {h:List Int} (hT:lvT Lc h≠0):h.length<Lc.length:=by
 apply Classical.byContradiction;intro hn;apply hT;have:lvl Lc h=[]:=by simp[lvl,Ev,ET (FD hn)]
 unfold lvT;rw[this]; rfl
theorem Dj {Lc:List (List Cnt)} {words:Int} (hx:XOk Lc words) {h:List Int} (hT:lvT Lc h≠0):Dv (dD (lvl Lc h)*lvT Lc h) (fk Lc h):=by
 have hh:=zT hT;have hlv:=fJ hh;have hln:=hx.lim.at' hh;unfold fk;rw[dif_pos hh,←hlv];rw[←hlv]at hln;unfold lvT at hT ⊢;generalize lvl Lc h=l at *
 unfold jv;rw[if_neg (by omega)];have d:=λn k h1 h3=>(Dv.mul (Q:=1) (Dv.int (n:=n)) (mY hln k h1 h3)).up (by rw[Fh]; exact Hx _)
 exact (((d _ 1 (by omega) (by omega)).add (d _ 2 (by omega) (by omega))).add (d _ 3 (by omega) (by omega))).div1 hT
theorem vh {Lc:List (List Cnt)} {words:Int} (hx:XOk Lc words) {w:Int} {h:List Int} {p:Nat × Nat} {q:Nat} (hp:Dv q p):Dv (mq Lc h q) (dJ Lc w h p):=by
 have hlm:=qJ hx.lim h;unfold mq dJ;show Dv (if lvT Lc h=0 then _ else _) (if lvT Lc h=0 then _ else _)
 by_cases hT:lvT Lc h=0
 ·rw[if_pos hT,if_pos hT]; exact hp
 ·rw[if_neg hT,if_neg hT];exact (((Di hlm _).sub1.div1 hT).up (GY _ _)).add ((Dj hx hT).mul hp)
theorem Cp {Lc:List (List Cnt)} {words:Int} (hx:XOk Lc words) (w:Int):∀ h:List Int,Dv (QF Lc words h) (pF Lc words w h)
 | []=>vh hx (by
   have h3:=hx.w3;have:=Dv.div1 (Dv.int (Q:=1) (n:=1)) (T:=(words-1).toNat) (by omega);rwa [Fh]at this)
 | x::t=>vh hx (Cp hx w t)
theorem eV {Lc:List (List Cnt)} {words:Int} (hx:XOk Lc words) (h:List Int) (w:Int):Dv (QF Lc words (cO Lc h)) (a9 Lc words h w):=by
 unfold a9;split
 ·exact .int
 ·exact Cp hx w _
theorem pP {Lc:List (List Cnt)} {words:Int} (hx:XOk Lc words) {h:List Int} {q:Nat} (hq:q≠0):mq Lc h q≠0:=by
 unfold mq;split
 ·exact hq
 ·rename_i hT;exact EU (EU (Dh (qJ hx.lim h)) hT) hq
theorem qT {Lc:List (List Cnt)} {words:Int} (hx:XOk Lc words):∀ h:List Int,QF Lc words h≠0
 | []=>pP hx (by have:=hx.w3; omega)
 | x::t=>pP hx (qT hx t)
structure Few (Lc:List (List Cnt)) (words:Int) (e t b:Nat):Prop where
 d:∀ l,l∈Lc→dD l<2^e
 t:∀ l,l∈Lc→totN l<2^t
 w:(words-1).toNat<2^b
theorem kY {a b k m:Nat} (h1:a<2^k) (h2:b<2^m):a*b<2^(k+m):=gd h1 h2
theorem s8 {Lc:List (List Cnt)} {words:Int} {e t b:Nat} (hf:Few Lc words e t b) {h:List Int} {q k:Nat} (hq:q<2^k):mq Lc h q<2^(k+(e+t)):=by
 unfold mq;split
 ·exact EG hq (EK (by omega) (by omega))
 ·rename_i hT;have hh:=zT hT;have hm:lvl Lc h∈Lc:=by rw[fJ hh]; exact EI hh
  have ht:lvT Lc h<2^t:=by
   have h1:=di (cG h) (lvl Lc h);have h2:=hf.t _ hm;have:lvT Lc h≤totN (lvl Lc h):=by unfold lvT totN after; omega
   omega
  rw[GS k];exact kY (kY (hf.d _ hm) ht) hq
theorem Cq {Lc:List (List Cnt)} {words:Int} {e t b:Nat} (hf:Few Lc words e t b):∀ h:List Int,QF Lc words h<2^(b+(e+t)*(h.length+1))
 | []=>by
  have:=s8 hf (h:=[]) hf.w;rwa [show (e+t)*(([]:List Int).length+1)=e+t by simp]
 | x::l=>by
  have:=s8 hf (h:=x::l) (Cq hf l);rwa [Fx,show (e+t)*(l.length+1)+(e+t)=(e+t)*((x::l).length+1) by rw[E7,EW (e+t) (l.length+1) 1,FT]]at this
theorem kZ {a b c:Rat} (hb:0<b):a/b≤c↔a≤c*b:=by rw[←Rat.not_lt,←Rat.not_lt,Rat.lt_div_iff hb]
theorem f7 {a b c:Rat} (hb:0<b):a≤c/b↔a*b≤c:=by rw[←Rat.not_lt,←Rat.not_lt,G4 hb]
theorem d6 (p:Nat × Nat):0≤qv p:=by
 unfold qv;by_cases h:p.2=0
 ·rw[h,show ((0:Nat):Rat)=0 from rfl]; grind
 ·rw[f7 (F6.2 (E5 h)),Rat.zero_mul];exact Rat.natCast_nonneg
theorem qU {p:Nat × Nat} (hp:p.2≠0) (h:qv p≤1):p.1≤p.2:=by
 have h1:(0:Rat)<p.2:=F6.2 (E5 hp);have h2:=(kZ h1).1 h;rw[Rat.one_mul]at h2;exact F4.1 h2
theorem jg {f:Nat→Rat} (hf:∀ w,0≤f w) {m:Nat}:∀ {n:Nat},m≤n→dk f m≤dk f n
 | 0,h=>by
   have:m=0:=by omega
   subst this; exact Hj
 | n+1,h=>by
  by_cases hm:m=n+1
  ·subst hm; exact Hj
  ·have:=jg hf (m:=m) (n:=n) (by omega);have h2:=hf n;simp only[dk];grind
theorem jO {f:Nat→Rat} (hf:∀ w,0≤f w) (w:Nat):0≤noB f w:=by
 unfold noB;split
 ·exact Hj
 ·exact hf w
theorem BN {Lc:List (List Cnt)} {n:Nat} (hx:XOk Lc n) (he:∀ l,l∈Lc→eU n l) (h:List Int) {w:Nat} (hw:w≤n):(aS Lc n h w).1≤(aS Lc n h w).2:=by
 obtain ⟨i1,i2⟩:=mX hx h w hw;refine qU i1 ?_;rw[i2,←qS hx he (cO Lc h)];exact jg (jO λw=>d6 _) hw
theorem eL {Lc:List (List Cnt)} {n:Int} (hx:XOk Lc n) (h:List Int):∀ w,Dv (QF Lc n (cO Lc h)) (aS Lc n h w)
 | 0=>.int
 | w+1=>(eL hx h w).add (eV hx h w)
theorem jh {Lc:List (List Cnt)} {n:Int} (hx:XOk Lc n) (h:List Int):∀ w,Nat.gcd (aS Lc n h w).1 (aS Lc n h w).2=1
 | 0=>GM 1
 | w+1=>iy (EU (eL hx h w).pos (eV hx h w).pos)
theorem zU {Lc:List (List Cnt)} {n:Nat} (hx:XOk Lc n) (he:∀ l,l∈Lc→eU n l) (h:List Int) (w:Int):(a9 Lc n h w).1≤(a9 Lc n h w).2:=by
 refine qU (eV hx h w).pos ?_;by_cases hw:w<0∨n≤w∨w=1
 ·unfold a9; rw[if_pos hw,dU]; exact (by decide:(((0:Nat):Rat))≤1)
 ·obtain ⟨v,rfl⟩:∃ v:Nat,w=(v:Int):=⟨w.toNat,by omega⟩;have h1:=jg (f:=noB λw=>qv (pF Lc n w (cO Lc h))) (jO λw=>d6 _) (m:=v+1) (n:=n) (by omega);have h2:=jg (f:=noB λw=>qv (pF Lc n w (cO Lc h))) (jO λw=>d6 _) (m:=0) (n:=v) (by omega);rw[qS hx he]at h1;simp only[dk]at h1 h2;have h3:noB (λw=>qv (pF Lc n w (cO Lc h))) v=qv (a9 Lc n h v):=by unfold noB a9; rw[if_neg (by omega),if_neg hw]
  rw[h3]at h1;grind
end
section
abbrev Fr2:=Nat × Nat
def qW (p q:Fr2 × Fr2):Fr2 × Fr2:=(bH p.1 (cI p.2 q.1),cI p.2 q.2)
def cP (Lc:List (List Cnt)) (n:Int) (h:List Int) (w:Int):Fr2 × Fr2:=(aS Lc n h w.toNat,a9 Lc n h w)
def fb (Lc:List (List Cnt)) (n:Int):Fr2 × Fr2→List Int→List Int→Fr2 × Fr2
 | p,_,[]=>p
 | p,h,w::r=>fb Lc n (qW p (cP Lc n h w)) (h++[w]) r
theorem oC {Lc:List (List Cnt)} {n:Int} {w:Int}:∀ (r:List Int) (p:Fr2 × Fr2) (h:List Int),fb Lc n p h (r++[w])=qW (fb Lc n p h r) (cP Lc n (h++r) w)
 | [],p,h=>by simp[fb]
 | v::r,p,h=>by
  show fb Lc n _ (h++[v]) (r++[w])=_
  rw[oC r,Hi]; rfl
def inP (Lc:List (List Cnt)) (n:Int) (h:List Int) (u:Fr2) (w:Nat):Bool:=decide ((aS Lc n h w).1*u.2≤u.1*(aS Lc n h w).2)&&decide (u.1*(aS Lc n h (w+1)).2<(aS Lc n h (w+1)).1*u.2)
def pQ (Lc:List (List Cnt)) (n:Int) (h:List Int) (u:Fr2):Nat→Nat→Int
 | 0,_=>-1
 | f+1,w=>if inP Lc n h u w=true then w else pQ Lc n h u f (w+1)
def eW (Lc:List (List Cnt)) (n:Int) (h:List Int) (u:Fr2):Int:=pQ Lc n h u n.toNat 0
theorem um {p q:Fr2} (hp:p.2≠0) (hq:q.2≠0):p.1*q.2≤q.1*p.2↔qv p≤qv q:=by
 have h1:(0:Rat)<p.2:=F6.2 (E5 hp);have h2:(0:Rat)<q.2:=F6.2 (E5 hq);unfold qv;rw[kZ h1,←F4,FA,FA];rw[show (q.1:Rat)/q.2*p.2=(q.1*p.2)/q.2 by grind,f7 h2]
theorem Dk {p q:Fr2} (hp:p.2≠0) (hq:q.2≠0):p.1*q.2<q.1*p.2↔qv p<qv q:=by
 have:=um hq hp;constructor
 ·intro h;apply Rat.not_le.1;rw[←this]; omega
 ·intro h;apply Gz;rw[this]; exact Rat.not_le.2 h
section
variable {Lc:List (List Cnt)} {n:Nat}
theorem gw (hx:XOk Lc n) (h:List Int) (w:Nat):qv (aS Lc n h (w+1))=qv (aS Lc n h w)+qv (a9 Lc n h w):=iH (eL hx h w).pos (eV hx h w).pos
theorem ji (hx:XOk Lc n) (h:List Int) {v:Nat}:∀ {w:Nat},v≤w→qv (aS Lc n h v)≤qv (aS Lc n h w)
 | 0,hv=>by
   have:v=0:=by omega
   subst this; exact Hj
 | w+1,hv=>by
  by_cases e:v=w+1
  ·subst e; exact Hj
  ·have h1:=ji hx h (v:=v) (w:=w) (by omega);have h2:=d6 (a9 Lc n h w);rw[gw hx];grind
theorem oD (hx:XOk Lc n) (he:∀ l,l∈Lc→eU n l) (h:List Int):qv (aS Lc n h n)=1:=by
 rw[zS hx he,dU]; rfl
theorem gV (hx:XOk Lc n) {h:List Int} {u:Fr2} (hu:u.2≠0) {w:Nat}:inP Lc n h u w=true↔qv (aS Lc n h w)≤qv u∧qv u<qv (aS Lc n h (w+1)):=by
 unfold inP;rw[Ex,decide_eq_true_eq,decide_eq_true_eq,um (eL hx h w).pos hu,Dk hu (eL hx h (w+1)).pos]
theorem pR {h:List Int} {u:Fr2} {w:Nat} (hw:inP Lc n h u w=true):∀ (f v:Nat),v≤w→w<v+f→(∀ k,v≤k→k<w→inP Lc n h u k=false)→pQ Lc n h u f v=w
 | 0,v,h1,h2,_=>by omega
 | f+1,v,h1,h2,h3=>by
  unfold pQ;by_cases e:v=w
  ·subst e; rw[if_pos hw]
  ·rw[if_neg (by rw[h3 v (by omega) (by omega)]; simp)];exact pR hw f (v+1) (by omega) (by omega) λk h4 h5=>h3 k (by omega) h5
theorem fu (hx:XOk Lc n) {h:List Int} {u:Fr2} (hu:u.2≠0) {w:Nat} (hw:w<n) (hi:inP Lc n h u w=true):eW Lc n h u=w:=by
 unfold eW;refine pR hi _ 0 (by omega) (by omega) λk _ hk=>?_
 cases hb:inP Lc n h u k with
 | false=>rfl
 | true=>
  exfalso;have h1:=((gV hx hu).1 hb).2;have h2:=((gV hx hu).1 hi).1;have h3:=ji hx h (v:=k+1) (w:=w) (by omega);grind
theorem vi (hx:XOk Lc n) (he:∀ l,l∈Lc→eU n l) (h:List Int) {u:Fr2} (hu:u.2≠0) (h1:qv u<1):∃ w,w<n∧inP Lc n h u w=true∧eW Lc n h u=w:=by
 have h0:=d6 u;have key:∀ k,k≤n→qv u<qv (aS Lc n h k)→∃ w,w<k∧inP Lc n h u w=true:=by
  intro k
  induction k with
  | zero=>
   intro _ hlt;have:qv (aS Lc n h 0)=0:=by show qv (0,1)=0; rw[dU]; rfl
   rw[this]at hlt;grind
  | succ k ih=>
   intro hk hlt;by_cases hb:qv (aS Lc n h k)≤qv u
   ·exact ⟨k,by omega,(gV hx hu).2 ⟨hb,hlt⟩⟩
   ·obtain ⟨w,a1,a2⟩:=ih (by omega) (Rat.not_le.1 hb);exact ⟨w,by omega,a2⟩
 obtain ⟨w,a1,a2⟩:=key n (Ew _) (by rw[oD hx he]; exact h1);exact ⟨w,a1,a2,fu hx hu a1 a2⟩
def spA (Lc:List (List Cnt)) (n:Int):List Int→List Int→Rat
 | _,[]=>0
 | h,w::r=>qv (aS Lc n h w.toNat)+qv (a9 Lc n h w)*spA Lc n (h++[w]) r
def spB (Lc:List (List Cnt)) (n:Int):List Int→List Int→Rat
 | _,[]=>1
 | h,w::r=>qv (a9 Lc n h w)*spB Lc n (h++[w]) r
theorem s9 (hx:XOk Lc n):∀ (r h:List Int) (p:Fr2 × Fr2),p.1.2≠0→p.2.2≠0→(fb Lc n p h r).1.2≠0∧(fb Lc n p h r).2.2≠0∧qv (fb Lc n p h r).1=qv p.1+qv p.2*spA Lc n h r∧qv (fb Lc n p h r).2=qv p.2*spB Lc n h r
 | [],h,p,h1,h2=>⟨h1,h2,by simp only[fb,spA]; grind,by simp only[fb,spB]; grind⟩
 | w::r,h,p,h1,h2=>by
  have d1:=(eL hx h w.toNat).pos;have d2:=(eV hx h w).pos;have m1:=eT h2 d1;obtain ⟨a1,a2,a3,a4⟩:=s9 hx r (h++[w]) (qW p (cP Lc n h w)) (gv h1 m1) (eT h2 d2);refine ⟨a1,a2,?_,?_⟩
  ·show qv (fb Lc n (qW p (cP Lc n h w)) (h++[w]) r).1=_
   rw[a3];simp only[qW,cP,spA];rw[iH h1 m1,jN h2 d1,jN h2 d2];grind
  ·show qv (fb Lc n (qW p (cP Lc n h w)) (h++[w]) r).2=_
   rw[a4];simp only[qW,cP,spB];rw[jN h2 d2];grind
def InW (n:Int) (r:List Int):Prop:=∀ w,w∈r→0≤w∧w<n
theorem BO (hx:XOk Lc n) (he:∀ l,l∈Lc→eU n l) (h:List Int) {w:Int} (h0:0≤w) (h1:w<n):qv (aS Lc n h w.toNat)+qv (a9 Lc n h w)≤1:=by
 obtain ⟨v,rfl⟩:∃ v:Nat,w=(v:Int):=⟨w.toNat,by omega⟩;have h2:=ji hx h (v:=v+1) (w:=n) (by omega);rw[oD hx he,gw hx]at h2;exact h2
theorem vj (hx:XOk Lc n) (he:∀ l,l∈Lc→eU n l):∀ (r h:List Int),InW n r→0≤spA Lc n h r∧0≤spB Lc n h r∧spA Lc n h r+spB Lc n h r≤1
 | [],h,_=>by simp only[spA,spB]; refine ⟨Hj,by decide,?_⟩; grind
 | w::r,h,hi=>by
  obtain ⟨i1,i2,i3⟩:=vj hx he r (h++[w]) λv hv=>hi v (EV _ hv)
  obtain ⟨w1,w2⟩:=hi w (by simp);have a1:=d6 (aS Lc n h w.toNat);have a2:=d6 (a9 Lc n h w);have a3:=BO hx he h w1 w2;have b1:=Rat.mul_nonneg a2 i1;have b2:=Rat.mul_nonneg a2 i2;have b3:qv (a9 Lc n h w)*(spA Lc n (h++[w]) r+spB Lc n (h++[w]) r)≤qv (a9 Lc n h w)*1:=Rat.mul_le_mul_of_nonneg_left i3 a2;simp only[spA,spB];refine ⟨?_,b2,?_⟩<;>grind
def oR (Lc:List (List Cnt)) (n:Int):Nat→List Int→Fr2→Option (List Int)
 | 0,_,_=>none
 | f+1,h,u=>if eW Lc n h u=2 then some (h.drop 1) else if f=0 then none else
   oR Lc n f (h++[eW Lc n h u]) (c9 (cD u (aS Lc n h (eW Lc n h u).toNat)) (a9 Lc n h (eW Lc n h u)))
theorem oE (hx:XOk Lc n) {h:List Int} {u:Fr2} (hu:u.2≠0) {w:Nat} (hi:inP Lc n h u w=true) :
  (a9 Lc n h w).1≠0∧(c9 (cD u (aS Lc n h w)) (a9 Lc n h w)).2≠0∧qv (c9 (cD u (aS Lc n h w)) (a9 Lc n h w))=(qv u-qv (aS Lc n h w))/qv (a9 Lc n h w)∧0<qv (a9 Lc n h w)∧qv u<qv (aS Lc n h w)+qv (a9 Lc n h w):=by
 obtain ⟨h1,h2⟩:=(gV hx hu).1 hi;rw[gw hx]at h2;have hpos:0<qv (a9 Lc n h w):=by grind
 have hd:=(eV hx h w).pos;have hs:=(eL hx h w).pos;have hn:(a9 Lc n h w).1≠0:=λe=>by
  unfold qv at hpos;rw[e,show ((0:Nat):Rat)=0 from rfl]at hpos;grind
 have hsub:(cD u (aS Lc n h w)).2≠0:=ix (EU hu hs);refine ⟨hn,ox hsub hn,?_,hpos,h2⟩;rw[ov hsub hd hn,zO hu hs ((um hs hu).2 h1)]
theorem BP (hx:XOk Lc n) {h:List Int} {u:Fr2} (hu:u.2≠0) {w:Nat} (hi:inP Lc n h u w=true):qv (c9 (cD u (aS Lc n h w)) (a9 Lc n h w))<1:=by
 obtain ⟨_,_,h3,h4,h5⟩:=oE hx hu hi;rw[h3,G4 h4];grind
theorem ta (hx:XOk Lc n) (he:∀ l,l∈Lc→eU n l):∀ (r h:List Int) (u:Fr2) (f:Nat),u.2≠0→InW n r→2<n→(∀ w,w∈r→w≠2)→spA Lc n h (r++[2])≤qv u→qv u<spA Lc n h (r++[2])+spB Lc n h (r++[2]) →
  oR Lc n f h u=if r.length<f then some ((h++r).drop 1) else none
 | r,h,u,0,_,_,_,_,_,_=>by rw[if_neg (by omega)]; rfl
 | [],h,u,f+1,hu,_,h2,_,g1,g2=>by
  have e2:(2:Int).toNat=2:=rfl;simp only[GV,spA,spB,e2]at g1 g2;have hs:=gw hx h 2;have e:((2:Nat):Int)=2:=rfl;rw[e]at hs;have hi:inP Lc n h u 2=true:=by
   refine (gV hx hu).2 ?_;rw[hs];constructor<;>grind
  have hp:=fu hx hu h2 hi;rw[e]at hp;unfold oR;rw[hp,if_pos rfl,if_pos (by simp),Gh]
 | w::r,h,u,f+1,hu,hw,h2,hn,g1,g2=>by
  obtain ⟨w0,w1⟩:=hw w (by simp);obtain ⟨v,rfl⟩:∃ v:Nat,w=(v:Int):=⟨w.toNat,by omega⟩;have hr:InW n (r++[2]):=λx hx'=>by
   rcases Fe.1 hx' with hx' | hx'
   ·exact hw x (EV _ hx')
   ·simp at hx'; subst hx'; omega
  obtain ⟨i1,i2,i3⟩:=vj hx he (r++[2]) (h++[(v:Int)]) hr;have a2:=d6 (a9 Lc n h v);simp only[F9,spA,spB,EX]at g1 g2;have b1:=Rat.mul_nonneg a2 i1;have b3:qv (a9 Lc n h v)*(spA Lc n (h++[(v:Int)]) (r++[2])+spB Lc n (h++[(v:Int)]) (r++[2]))≤qv (a9 Lc n h v)*1:=Rat.mul_le_mul_of_nonneg_left i3 a2;have hi:inP Lc n h u v=true:=by
   rw[gV hx hu,gw hx];constructor<;>grind
  obtain ⟨l1,l2,l3,l4,l5⟩:=oE hx hu hi;have hp:=fu hx hu (by omega) hi;have hne:=hn v (by simp);unfold oR;rw[hp,if_neg hne,EX];by_cases hf:f=0
  ·subst hf; rw[if_pos rfl,if_neg (by simp)]
  ·rw[if_neg hf,ta hx he r (h++[(v:Int)]) _ f l2 (λx hx'=>hw x (EV _ hx')) h2 (λx hx'=>hn x (EV _ hx'))]
   ·simp
   ·rw[l3,f7 l4]; grind
   ·rw[l3,G4 l4]; grind
end
end
end Go.Proofs.YtgceikecdedfcaaGreat.Pv
