/- Parts of a proof, joined: Ck Cl Cm Ed Cs Ee Ef Ca Cb Cr Ea. -/
import Derived.Test.YtgceikecdedfcaaGreatLpL
namespace Go.Proofs.YtgceikecdedfcaaGreat.Pv
open Go
section
theorem wa (l:List Nat) (hl:l.length≤1000000):Ct P 63 [.c (nSl .u64 l)] [.c (nSl .u64 l)]:=by
 refine Ct.go aj aa (N:=8) Tryz.func63 rfl rfl rfl rfl ?_;intro b hb
 cases b with
 | true=>
  have:l=[]:=EZ.1 (by have:=hb rfl; rwa [ai]at this);subst this;exact ⟨HB,⟨_,rfl,.inr ⟨rfl,1,rfl⟩⟩,HB⟩
 | false=>
  refine ⟨rfl,by rw[ai]; show (0+l.length+768)*8≤_; omega,by rw[ai]; show 0+l.length≤_; omega,b9,dh,?_⟩;exact ⟨HB,r1 rfl,HB⟩
section
variable {u d1 d0 x q r:Nat}
theorem y7 (h:q*d1+r=u) (ht:q*d0≤18446744073709551616*r+x) (hp:0<d1*18446744073709551616+d0) (hq:(u*18446744073709551616+x)/(d1*18446744073709551616+d0)≤q):(u*18446744073709551616+x)/(d1*18446744073709551616+d0)=q:=by
 refine Hn hq ((G3 hp).2 ?_);have e:q*(d1*18446744073709551616+d0)=q*d1*18446744073709551616+q*d0:=by rw[EW,EL]
 omega
theorem Co (h:q*d1+r=u) (ht:18446744073709551616*r+x<q*d0):(u*18446744073709551616+x)/(d1*18446744073709551616+d0)<q:=by
 apply FC;have e:(d1*18446744073709551616+d0)*q=q*d1*18446744073709551616+q*d0:=by rw[EQ,EW,EL]
 omega
theorem Em (hd:0<d1) (hx:x<18446744073709551616):(u*18446744073709551616+x)/(d1*18446744073709551616+d0)≤u/d1:=by
 have h0:=FF u d1;have hm:=Fz u hd;refine Nat.le_of_lt_succ (FC ?_);have e:(d1*18446744073709551616+d0)*(u/d1+1)=d1*(u/d1)*18446744073709551616+d1*18446744073709551616+d0*(u/d1+1):=by
  rw[EO,EL,EQ 18446744073709551616,←EL,EW,FT,EO]
 show u*18446744073709551616+x<(d1*18446744073709551616+d0)*(u/d1+1)
 omega
theorem uV {T:Nat} (hd0:d0<18446744073709551616) (hp:0<d1*18446744073709551616+d0) (hT:T=(u*18446744073709551616+x)/(d1*18446744073709551616+d0)) (h:q*d1+r=u) (hq:q<18446744073709551616) (ht:T<q) :
  (q-1)*d1+(r+d1)=u∧(18446744073709551616≤r+d1→T=q-1):=by
 obtain ⟨p,rfl⟩:∃ p,q=p+1:=⟨q-1,by omega⟩;rw[EO,Fh]at h;rw[FS];have e:p*d1+(r+d1)=u:=by omega
 refine ⟨e,λhr=>?_⟩;rw[hT];refine y7 e ?_ hp (by omega);have h1:p*d0≤18446744073709551616*d0:=EE _ (by omega);have h2:18446744073709551616*d0≤18446744073709551616*(r+d1):=Fp _ (by omega);omega
end
def gs (u2 u1 u0 top next:Nat):Nat:=if top≤u2 then 18446744073709551615 else ((u2*18446744073709551616+u1)*18446744073709551616+u0)/(top*18446744073709551616+next)
theorem y8 (u:List Nat) (top next n:Nat) (hu:Dig 18446744073709551616 u) (hn:u.length=n+3) (hb:u.length≤1000000) (h1:0<top) (h2:top<18446744073709551616) (h3:next<18446744073709551616) :
  Ct P 154 [.c (nSl .u64 u),.c (nI .u64 top),.c (nI .u64 next)] [.c (nI .u64 (gs (u.getD (n+2) 0) (u.getD (n+1) 0) (u.getD n 0) top next))]:=by
 have k2:=hu.getD (by omega) (n+2);have k1:=hu.getD (by omega) (n+1);have k0:=hu.getD (by omega) n;refine Ct.go aj aa (N:=72) Tryz.func154 rfl rfl rfl rfl ?_;refine .intro (by rw[ai]; omega) ?_;rw[ai];refine X1 ((n+2:Nat):Int) (wI (by omega) (by omega) (by omega)) ?_;refine .intro (by omega) (X1 _ (al rfl (by omega)) ?_);refine ae (λh0=>?_) (λh0=>?_)
 ·exact ⟨HB,r1 (iE (by rw[gs,if_pos (by omega)]; rfl)),HB⟩
 ·rw[gs,if_neg (by omega)];refine X1 ((n+2:Nat):Int) (wI (by omega) (by omega) (by omega)) ?_;refine .intro (by omega) (X1 _ (al rfl (by omega)) ?_);refine X1 ((n+1:Nat):Int) (wI (by omega) (by omega) (by omega)) ?_;refine .intro (by omega) (X1 _ (al rfl (by omega)) ?_);generalize u.getD (n+2) 0=u2 at *
  generalize u.getD (n+1) 0=u1 at *
  refine X1 _ (sv u2 u1 top (by omega) k1 h2) ?_;refine .intro rfl ?_;have hw:=Fz (u2*18446744073709551616+u1) h1;have hdm:=FF (u2*18446744073709551616+u1) top;rw[EQ]at hdm;have hq0:(u2*18446744073709551616+u1)/top<18446744073709551616:=by
   refine FC ?_;have:=EE 18446744073709551616 (show u2+1≤top by omega);omega
  obtain ⟨T,hT⟩:∃ T,T=((u2*18446744073709551616+u1)*18446744073709551616+u.getD n 0)/(top*18446744073709551616+next):=⟨_,rfl⟩;have hT0:T≤(u2*18446744073709551616+u1)/top:=by rw[hT]; exact Em h1 k0
  rw[←hT];obtain ⟨A,hA⟩:∃ A,A=u2*18446744073709551616+u1:=⟨_,rfl⟩;rw[←hA]at hw hdm hq0 hT hT0 ⊢;refine b8 aj aa (G:=Nat × Nat) (λ(q,r)=>q*top+r=A∧T≤q∧q<18446744073709551616∧r<18446744073709551616)
   (λ(q,r)=>[(0,.c (nSl .u64 u)),(1,.c (nI .u64 top)),(2,.c (nI .u64 next)),(7,.c (nI .i64 (n+3:Nat))),(8,.c (nI .u64 q)),(9,.c (nI .u64 r))]) (λ_=>[]) (λ(q,_)=>q)
   (A/top,A%top) ⟨hdm,hT0,hq0,by omega⟩ ⟨rfl,rfl,rfl,iE (by rw[hn]),rfl,rfl,HB⟩ HB (λ(q,r) hi=>?_)
  obtain ⟨i1,i2,i3,i4⟩:=hi;refine X1 _ (nW q next i3 h3) ?_;have hml:=FF (q*next) 18446744073709551616;have hmm:=Fz (q*next) (show 0<18446744073709551616 by decide);generalize q*next/18446744073709551616=hi at *
  generalize q*next%18446744073709551616=lo at *
  refine ae (λh4=>?_) (λh4=>?_)
  ·have e:T=q:=by rw[hT]; exact y7 i1 (by omega) (by omega) (by rw[←hT]; exact i2)
   exact ⟨HB,r1 (iE (by rw[e])),HB⟩
  ·refine aT (λh5=>?_) (λh5=>?_)
   ·have e5:hi=r:=Int.ofNat_inj.1 h5;refine X1 ((n:Nat):Int) (wI (by omega) (by omega) (by omega)) ?_;refine .intro (by omega) (X1 _ (al rfl (by omega)) ?_);refine ae (λh7=>?_) (λh7=>?_)
    ·have e7:lo≤u.getD n 0:=Int.ofNat_le.1 h7;have e:T=q:=by rw[hT]; exact y7 i1 (by rw[←hml,e5]; exact Nat.add_le_add_left e7 _) (by omega) (by rw[←hT]; exact i2)
     exact ⟨HB,r1 (iE (by rw[e])),HB⟩
    ·have e7:u.getD n 0<lo:=Hq.1 (Int.not_le.1 h7);have hlt:T<q:=by rw[hT]; exact Co i1 (by rw[←hml,e5]; exact Nat.add_lt_add_left e7 _)
     obtain ⟨m1,m2⟩:=uV h3 (by omega) hT i1 i3 hlt;refine X1 ((q-1:Nat):Int) (wU (by omega) (by omega) (by omega)) ?_;refine X1 _ (ei r top 0 i4 h2 (by omega)) ?_;refine ae (λh6=>?_) (λh6=>?_)
     ·exact ⟨HB,r1 (iE (by rw[m2 (by omega)])),HB⟩
     ·exact ⟨(q-1,r+top),⟨m1,by omega,by omega,by omega⟩,by show q-1<q; omega,⟨rfl,rfl,rfl,rfl,rfl,iE (by rw[Fc (by omega)]; rfl),HB⟩,HB⟩
   ·have hlt:T<q:=by rw[hT]; exact Co i1 (by omega)
    obtain ⟨m1,m2⟩:=uV h3 (by omega) hT i1 i3 hlt;refine X1 ((q-1:Nat):Int) (wU (by omega) (by omega) (by omega)) ?_;refine X1 _ (ei r top 0 i4 h2 (by omega)) ?_;refine ae (λh6=>?_) (λh6=>?_)
    ·exact ⟨HB,r1 (iE (by rw[m2 (by omega)])),HB⟩
    ·exact ⟨(q-1,r+top),⟨m1,by omega,by omega,by omega⟩,by show q-1<q; omega,⟨rfl,rfl,rfl,rfl,rfl,iE (by rw[Fc (by omega)]; rfl),HB⟩,HB⟩
end
section
section
variable {t d:List Nat} {x lo:Nat}
theorem qq:∀ i,(sm t d x lo i).s.take lo=t.take lo
 | 0=>rfl
 | i+1=>by simp only[sm]; rw[List.take_set_of_le (by omega)]; exact qq i
theorem qr:∀ i,(sm t d x lo i).s.drop (lo+i)=t.drop (lo+i)
 | 0=>rfl
 | i+1=>by
  simp only[sm];have h:=congrArg (List.drop 1) (qr i);rw[Gf,Gf]at h;rw[List.drop_set_of_lt (by omega)];exact h
theorem qs:∀ i,(am t d x lo i).1.take lo=t.take lo
 | 0=>rfl
 | i+1=>by simp only[am]; rw[List.take_set_of_le (by omega)]; exact qs i
theorem qt:∀ i,(am t d x lo i).1.drop (lo+i)=t.drop (lo+i)
 | 0=>rfl
 | i+1=>by
  simp only[am];have h:=congrArg (List.drop 1) (qt i);rw[Gf,Gf]at h;rw[List.drop_set_of_lt (by omega)];exact h
theorem nZ {s:List Nat} {n:Nat} (hs:Dig 18446744073709551616 s) (hz:val 18446744073709551616 (s.drop (lo+n))=0):val 18446744073709551616 (s.drop lo)<18446744073709551616^n:=by
 have h:=fB 18446744073709551616 (s.drop lo) n;rw[Gf,hz,FQ,FM]at h;rw[h];refine EG (eg (by omega) hs.drop.take) (EK (by omega) ?_);rw[EJ]; omega
theorem gc {s:List Nat} (h:lo≤s.length):val 18446744073709551616 s=val 18446744073709551616 (s.take lo)+18446744073709551616^lo*val 18446744073709551616 (s.drop lo):=by
 have:=fB 18446744073709551616 s lo;rwa [F1 h]at this
theorem Bh (ht:Dig 18446744073709551616 t) (hd:Dig 18446744073709551616 d) (hx:x<18446744073709551616) (hlen:lo+(d.length+1)≤t.length) (hz:val 18446744073709551616 (t.drop (lo+(d.length+1)))=0) :
  (sm t d x lo (d.length+1)).s.length=t.length∧Dig 18446744073709551616 (sm t d x lo (d.length+1)).s∧(sm t d x lo (d.length+1)).b≤1 ∧
  val 18446744073709551616 ((sm t d x lo (d.length+1)).s.drop lo)+x*val 18446744073709551616 d=val 18446744073709551616 (t.drop lo)+18446744073709551616^(d.length+1)*(sm t d x lo (d.length+1)).b∧val 18446744073709551616 ((sm t d x lo (d.length+1)).s.drop lo)<18446744073709551616^(d.length+1):=by
 obtain ⟨h1,h2,h3,h4,h5⟩:=kJ (lo:=lo) ht hd hx (d.length+1) hlen;have hc:(sm t d x lo (d.length+1)).c=0:=by
  obtain ⟨_,_,k3,_,_⟩:=kJ (lo:=lo) ht hd hx d.length (by omega);have hy:d.getD d.length 0=0:=by rw[Ev,ET (by omega)]; rfl
  simp only[sm,hy,FQ,Fn];exact Ga k3
 have e1:=qq (t:=t) (d:=d) (x:=x) (lo:=lo) (d.length+1);have e2:=qr (t:=t) (d:=d) (x:=x) (lo:=lo) (d.length+1);rw[hc,Fn,E3 (by omega)]at h5;generalize (sm t d x lo (d.length+1)).s=s at *
 generalize (sm t d x lo (d.length+1)).b=b at *
 refine ⟨h1,h2,h4,?_,nZ h2 (by rw[e2]; exact hz)⟩;rw[gc (lo:=lo) (s:=s) (by omega),gc (lo:=lo) (s:=t) (by omega),e1,Fw,EL,Fx,Fx,←EW,←EW]at h5;exact Nat.eq_of_mul_eq_mul_left (Nat.pow_pos (by omega)) (Nat.add_left_cancel h5)
theorem Bi (ht:Dig 18446744073709551616 t) (hd:Dig 18446744073709551616 d) (hlen:lo+(d.length+1)≤t.length) (hz:val 18446744073709551616 (t.drop (lo+(d.length+1)))=0) :
  (am t d 1 lo (d.length+1)).1.length=t.length∧Dig 18446744073709551616 (am t d 1 lo (d.length+1)).1∧(am t d 1 lo (d.length+1)).2≤1 ∧
  val 18446744073709551616 ((am t d 1 lo (d.length+1)).1.drop lo)+18446744073709551616^(d.length+1)*(am t d 1 lo (d.length+1)).2=val 18446744073709551616 (t.drop lo)+val 18446744073709551616 d∧val 18446744073709551616 ((am t d 1 lo (d.length+1)).1.drop lo)<18446744073709551616^(d.length+1):=by
 obtain ⟨h1,h2,h3,h5⟩:=gq (lo:=lo) (x:=1) ht hd (by omega) (d.length+1) hlen;have h4:=qn (lo:=lo) ht hd (d.length+1) hlen;have e1:=qs (t:=t) (d:=d) (x:=1) (lo:=lo) (d.length+1);have e2:=qt (t:=t) (d:=d) (x:=1) (lo:=lo) (d.length+1);rw[E3 (by omega),Fh]at h5;generalize (am t d 1 lo (d.length+1)).1=s at *
 generalize (am t d 1 lo (d.length+1)).2=b at *
 refine ⟨h1,h2,h4,?_,nZ h2 (by rw[e2]; exact hz)⟩;rw[gc (lo:=lo) (s:=s) (by omega),gc (lo:=lo) (s:=t) (by omega),e1,Fw,EL,Fx,Fx,←EW,←EW]at h5;exact Nat.eq_of_mul_eq_mul_left (Nat.pow_pos (by omega)) (Nat.add_left_cancel h5)
end
theorem y9 {n:Nat} (hn:n≠0) {k:Nat} (hk:(dg 18446744073709551616 n).length=k+1):(dg 18446744073709551616 n).getD k 0≠0:=by
 have h3:=mE (B:=18446744073709551616) (by omega) hn;intro h0;have h4:=aC 18446744073709551616 (dg 18446744073709551616 n) k;rw[h0,FQ,E3 (by omega),bp (by omega),FM]at h4;have h5:=eg (by omega:0<18446744073709551616) ((bw (B:=18446744073709551616) (by omega) n).take (n:=k));rw[EJ,F1 (by omega),←h4]at h5;rw[hk,FS]at h3;exact absurd h3 (Nat.not_le_of_lt h5)
theorem DS {u d:List Nat} {n:Nat} (hu:Dig 18446744073709551616 u) (hd:Dig 18446744073709551616 d) (hul:u.length=n+3) (hdl:d.length=n+2) (ht:d.getD (n+1) 0≠0) (hQ:val 18446744073709551616 u/val 18446744073709551616 d<18446744073709551616) :
  val 18446744073709551616 u/val 18446744073709551616 d≤gs (u.getD (n+2) 0) (u.getD (n+1) 0) (u.getD n 0) (d.getD (n+1) 0) (d.getD n 0)∧gs (u.getD (n+2) 0) (u.getD (n+1) 0) (u.getD n 0) (d.getD (n+1) 0) (d.getD n 0)<18446744073709551616:=by
 have k2:=hu.getD (by omega) (n+2);have k1:=hu.getD (by omega) (n+1);have k0:=hu.getD (by omega) n;have v1:=gc (lo:=n) (s:=u) (by omega);have v2:=gc (lo:=n) (s:=d) (by omega);have w1:=eg (by omega:0<18446744073709551616) (hu.take (n:=n));rw[EJ,F1 (by omega)]at w1;rw[dI 18446744073709551616 (l:=u) (by omega),dI 18446744073709551616 (l:=u) (by omega),dI 18446744073709551616 (l:=u) (by omega),FL (show u.length≤n+1+1+1 by omega)]at v1;rw[show n+1+1=n+2 by omega]at v1;rw[dI 18446744073709551616 (l:=d) (by omega),dI 18446744073709551616 (l:=d) (by omega),FL (show d.length≤n+1+1 by omega)]at v2;simp only[val,FQ,FM]at v1 v2;unfold gs;generalize u.getD (n+2) 0=u2 at *
 generalize u.getD (n+1) 0=u1 at *
 generalize u.getD n 0=u0 at *
 generalize d.getD (n+1) 0=t at *
 generalize d.getD n 0=y at *
 generalize val 18446744073709551616 (u.take n)=lu at *
 generalize val 18446744073709551616 (d.take n)=ld at *
 generalize val 18446744073709551616 u=a at *
 generalize val 18446744073709551616 d=b at *
 split
 ·exact ⟨by omega,by omega⟩
 ·rename_i hlt;have hp:0<t*18446744073709551616+y:=by omega
  refine ⟨(G3 hp).2 ?_,FC (by omega)⟩;have h1:=Nat.div_mul_le_self a b;have hb:18446744073709551616^n*(t*18446744073709551616+y)≤b:=by rw[v2,show t*18446744073709551616+y=y+18446744073709551616*t by omega]; exact Nat.le_add_left _ _
  have h2:=Fp (a/b) hb;have h3:a<18446744073709551616^n*((u2*18446744073709551616+u1)*18446744073709551616+u0+1):=by
   rw[v1,show (u2*18446744073709551616+u1)*18446744073709551616+u0+1=1+(u0+18446744073709551616*(u1+18446744073709551616*u2)) by omega,EW _ 1,FT];exact Nat.add_lt_add_right w1 _
  have h4:=Gq (EA h2 h1) h3;rw[Fu]at h4;exact Nat.le_of_lt_succ (Nat.lt_of_mul_lt_mul_left h4)
theorem blB {a b:Bool} (h:a=b):(some (.c (.sc (.bool a))):Option AV)=some (.c (.sc (.bool b))):=by rw[h]
set_option maxHeartbeats 1000000 in
theorem mN (a b:Nat) (hb:b≠0) (ha:(dg 18446744073709551616 a).length≤100000) (hbl:(dg 18446744073709551616 b).length≤100000):Ct P 111 [nV a,nV b] [nV (a/b),nV (a%b),.c (eI .i64 0)]:=by
 refine Ct.go aj aa (N:=128) Tryz.func111 rfl rfl rfl rfl ?_;refine X1 _ (fC b (by omega)) ?_;refine tx (by simpa using hb) ?_;refine X1 _ (kv a b (by omega) (by omega)) ?_;refine ae (λh1=>?_) (λh1=>?_)
 ·have h:a<b:=by unfold bC at h1; split at h1<;>(try split at h1)<;>omega
  rw[Ga h,Fc h];refine .intro rfl ?_;exact ⟨HB,⟨_,rfl,y6⟩,rc rfl,r1 rfl,HB⟩
 ·have h:b≤a:=by unfold bC at h1; split at h1<;>(try split at h1)<;>omega
  have hl0:(dg 18446744073709551616 b).length≠0:=λh0=>hb ((iq (B:=18446744073709551616) (by omega)).1 (EZ.1 h0))
  refine .intro (by rw[ai]; omega) ?_;rw[ai];refine aT (λh2=>?_) (λh2=>?_)
  ·have hw:(dg 18446744073709551616 b).getD 0 0=b:=by
    have hv:=bp (B:=18446744073709551616) (by omega) b;have hll:(dg 18446744073709551616 b).length=1:=by omega
    generalize dg 18446744073709551616 b=l at *
    match l,hll with
    | [w],_=>rw[←hv]; simp[val]
   have hb2:=(bw (B:=18446744073709551616) (by omega) b).getD (by omega) 0;refine .intro (by omega) (X1 _ (al (n:=0) rfl (by omega)) ?_);rw[hw]at hb2 ⊢;refine X1 _ (v8 a b (by omega) hb2 (by omega)) ?_;refine .intro rfl ?_;have hm:=Fz a (E5 hb);refine X1 _ (ga (a%b) (by omega)) ?_;refine .intro rfl ?_;exact ⟨HB,rc rfl,rc rfl,r1 rfl,HB⟩
  ·have hB:=bw (B:=18446744073709551616) (by omega) b;obtain ⟨lb,hlb⟩:∃ lb,(dg 18446744073709551616 b).length=lb+2:=⟨(dg 18446744073709551616 b).length-2,by omega⟩;refine .intro (by rw[ai]; omega) ?_;rw[ai];refine X1 ((lb+1:Nat):Int) (wI (by omega) (by omega) (by omega)) ?_;refine .intro (by omega) (X1 _ (al rfl (by omega)) ?_);have htop:=hB.getD (by omega) (lb+1);have htl:(dg 18446744073709551616 b).getD (lb+1) 0≠0:=y9 hb hlb;generalize htq:(dg 18446744073709551616 b).getD (lb+1) 0=tp at *
   refine X1 _ (uO tp htop) ?_;have hbt:=iV (n:=tp) (k:=64) (by omega);obtain ⟨s,hs⟩:∃ s,s=64-blen tp:=⟨_,rfl⟩;have hbb:=sa hb;rw[hlb,show lb+2-1=lb+1 by omega,htq]at hbb;rw[←hs];have hbt0:blen tp≠0:=λh=>by have:=fh tp; rw[h]at this; omega
   refine X1 _ (pp b s (by omega) (by omega)) ?_;obtain ⟨la,hla⟩:∃ la,la=(dg 18446744073709551616 a).length:=⟨_,rfl⟩;refine .intro (by rw[ai]; omega) ?_;rw[ai];refine X1 ((la+1:Nat):Int) (wI (by omega) (by omega) (by omega)) ?_;refine ⟨by omega,by omega,by omega,.inl (by decide),?_⟩;refine X1 _ (pp a s (by omega) (by omega)) ?_
   -- the numbers
   have hps:=Fo s;obtain ⟨D,hD⟩:∃ D,D=b*2^s:=⟨_,rfl⟩;obtain ⟨A2,hA2⟩:∃ D,D=a*2^s:=⟨_,rfl⟩;have hDl:(dg 18446744073709551616 D).length=lb+2:=by
    apply Hn
    ·apply cr (by omega);have h1:=FW (fh b) hps;rw[←Fw,hbb,show 64*(lb+1)+blen tp+s=64*(lb+2) by omega,←nQ,←hD]at h1;exact h1
    ·rw[←hlb]; exact bj (by omega) (by rw[hD]; exact Nat.le_mul_of_pos_right _ hps)
   have hA2l:(dg 18446744073709551616 A2).length≤la+1:=by
    apply cr (by omega);have h1:=bA (B:=18446744073709551616) (by omega) a;rw[←hla]at h1;have h2:2^s≤18446744073709551616:=by
     have:=EK (show 0<2 by omega) (show s≤64 by omega);simpa using this
    rw[hA2,Ff];exact EG (FW h1 hps) (Fp _ h2)
   have hlab:lb+2≤la:=by rw[hla,←hlb]; exact bj (by omega) h
   obtain ⟨m0,hm0⟩:∃ m0,la+1=m0+(lb+2):=⟨la+1-(lb+2),by omega⟩;have hbig:a*2^s<18446744073709551616^m0*D:=by
    have h1:=bA (B:=18446744073709551616) (by omega) a;have h2:=mE (B:=18446744073709551616) (by omega) hb;rw[←hla,show la=m0+(lb+1) by omega,Fw]at h1;rw[hlb,show lb+2-1=lb+1 by omega]at h2;have h3:=EG h1 (Fp (18446744073709551616^m0) h2);rw[hD,←EL];exact FW h3 hps
   have hD0:0<D:=by rw[hD]; exact Nat.mul_pos (by omega) hps
   rw[←hA2,←hD];refine ⟨(dg 18446744073709551616 A2).length,by rw[ai]; simp; omega,by simp; omega,dh,?_⟩;refine .intro (by rw[ai]; omega) ?_;rw[ai];refine .intro (by omega) ?_;refine X1 ((m0:Nat):Int) (wI (by omega) (by omega) (by omega)) ?_;refine ⟨by omega,by omega,by omega,.inl (by decide),?_⟩;refine .intro (by omega) ?_;refine X1 ((m0:Int)-1) (wI (by omega) (by omega) (by omega)) ?_;have hDd:=bw (B:=18446744073709551616) (by omega) D;have hDv:=bp (B:=18446744073709551616) (by omega) D;have hAd:=bw (B:=18446744073709551616) (by omega) A2;have hAv:=bp (B:=18446744073709551616) (by omega) A2;have hU0:val 18446744073709551616 (dg 18446744073709551616 A2++List.replicate (la+1-(dg 18446744073709551616 A2).length) 0)=A2:=by rw[kr,hAv,mD,FQ,FM]
   have hU1:(dg 18446744073709551616 A2++List.replicate (la+1-(dg 18446744073709551616 A2).length) 0).length=la+1:=by simp; omega
   have hU2:Dig 18446744073709551616 (dg 18446744073709551616 A2++List.replicate (la+1-(dg 18446744073709551616 A2).length) 0):=hAd.app λx hx=>by rw[Fv hx]; omega
   have hU3:val 18446744073709551616 ((dg 18446744073709551616 A2++List.replicate (la+1-(dg 18446744073709551616 A2).length) 0).drop m0)<D:=by
    have h1:=gc (lo:=m0) (s:=dg 18446744073709551616 A2++List.replicate (la+1-(dg 18446744073709551616 A2).length) 0) (by omega);rw[hU0]at h1;rw[←hA2]at hbig;exact Nat.lt_of_mul_lt_mul_left (Gq (EA (Nat.le_add_left _ _) (Nat.le_of_eq h1.symm)) hbig)
   obtain ⟨dl,hdl⟩:∃ dl,dl=dg 18446744073709551616 D:=⟨_,rfl⟩;rw[←hdl]at hDl hDd hDv ⊢;refine uI aj aa (G:=Nat × List Nat × List Nat) (λ(m,u,q)=>m≤m0∧u.length=la+1∧Dig 18446744073709551616 u∧q.length=m0∧Dig 18446744073709551616 q∧val 18446744073709551616 (u.drop m)<D∧A2=D*(18446744073709551616^m*val 18446744073709551616 (q.drop m))+val 18446744073709551616 u)
    (λ(m,u,q)=>[(4,.c (.ad 4 0)),(5,.c (.ad 5 0)),(9,.c (nI .i64 s)),(10,.c (nSl .u64 dl)),(11,.c (.ow 64 1 (la+1))),(12,.c (nI .i64 (lb+2:Nat))),(13,.c (.ow 77 1 m0)),(14,.c (eI .i64 ((m:Int)-1)))])
    (λ((m,u,q):Nat × List Nat × List Nat)=>[(4,.var [.sc (.slice none 0 0)]),(5,.var [.sc (.slice none 0 0)]),(64,.row 1 (aF .u64 u)),(77,.row 1 (aF .u64 q))]) (λ(m,_,_)=>m)
    (m0,dg 18446744073709551616 A2++List.replicate (la+1-(dg 18446744073709551616 A2).length) 0,List.replicate m0 0) ⟨by simp,hU1,hU2,by simp,λx hx=>by rw[Fv hx]; omega,hU3,by simp[hU0,val]⟩
    ⟨rfl,rfl,rfl,(by rw[hdl]; rfl),owE (by omega),iE (by rw[hDl]),owE (by omega),rfl,HB⟩ ⟨rfl,rfl,aB (by rw[List.take_zero,GV,E3 (by rw[ai]; exact Ew _),Fn,List.drop_replicate]; show _++List.replicate _ [eI .u64 0]=_; simp[aF]),aB (fg rfl),HB⟩
    (λ(u,q)=>u.length=la+1∧Dig 18446744073709551616 u∧q.length=m0∧Dig 18446744073709551616 q∧val 18446744073709551616 q=a/b∧val 18446744073709551616 u=a%b*2^s) (λ_=>[(4,.c (.ad 4 0)),(5,.c (.ad 5 0)),(9,.c (nI .i64 s)),(11,.c (.ow 64 1 (la+1))),(12,.c (nI .i64 (lb+2:Nat))),(13,.c (.ow 77 1 m0))])
    (λ((u,q):List Nat × List Nat)=>[(4,.var [.sc (.slice none 0 0)]),(5,.var [.sc (.slice none 0 0)]),(64,.row 1 (aF .u64 u)),(77,.row 1 (aF .u64 q))]) (λ(m,u,q) hg=>?_) (λ(u,q) hl=>?_)
   ·obtain ⟨i1,i2,i3,i4,i5,i6,i7⟩:=hg;refine ae (λh5=>?_) (λh5=>?_)
    ·obtain ⟨i,rfl⟩:∃ i,m=i+1:=⟨m-1,by omega⟩;have hui:=i3.getD (by omega) i;have hV:=dI 18446744073709551616 (l:=u) (i:=i) (by omega);have hDp:D<18446744073709551616^(lb+2):=by
      have:=bA (B:=18446744073709551616) (by omega) D;rw[←hdl,hDl]at this; exact this
     have hVl:val 18446744073709551616 (u.drop i)<18446744073709551616*D:=by
      have:=Fp 18446744073709551616 (Nat.succ_le_of_lt i6);rw[Nat.mul_succ]at this;omega
     have hVl2:val 18446744073709551616 (u.drop i)<18446744073709551616^(lb+3):=by
      rw[Ff,EQ];exact Nat.lt_trans hVl (Nat.mul_lt_mul_of_pos_left hDp (by omega))
     have hz:val 18446744073709551616 (u.drop (i+(lb+3)))=0:=by
      have h1:=fB 18446744073709551616 (u.drop i) (lb+3);rw[Gf,E8,F1 (by omega)]at h1;apply Classical.byContradiction;intro h0;have:=Fp (18446744073709551616^(lb+3)) (E5 h0);rw[FT]at this;omega
     have hVt:val 18446744073709551616 ((u.drop i).take (lb+3))=val 18446744073709551616 (u.drop i):=by
      have h1:=fB 18446744073709551616 (u.drop i) (lb+3);rw[Gf,hz,FQ,FM]at h1;exact h1.symm
     have hQ:val 18446744073709551616 (u.drop i)/D<18446744073709551616:=FC (by rw[EQ]; exact hVl);have htl2:=y9 (n:=D) (by omega) (k:=lb+1) (by rw[←hdl,hDl]);rw[←hdl]at htl2;obtain ⟨gq1,gq2⟩:=DS (n:=lb) (u:=(u.drop i).take (lb+3)) (d:=dl) (i3.drop.take) hDd (by rw[EJ,E8]; omega) hDl htl2 (by rw[hVt,hDv]; exact hQ);rw[hVt,hDv]at gq1;have kt:=hDd.getD (by omega) (lb+1);have kn:=hDd.getD (by omega) lb;have hg:=y8 ((u.drop i).take (lb+3)) (dl.getD (lb+1) 0) (dl.getD lb 0) lb i3.drop.take (by rw[EJ,E8]; omega) (by rw[EJ,E8]; omega) (by omega) kt kn;generalize gs (((u.drop i).take (lb+3)).getD (lb+2) 0) (((u.drop i).take (lb+3)).getD (lb+1) 0) (((u.drop i).take (lb+3)).getD lb 0) (dl.getD (lb+1) 0) (dl.getD lb 0)=x0 at *
     generalize hQe:val 18446744073709551616 (u.drop i)/D=Q at *
     have hdm:=FF (val 18446744073709551616 (u.drop i)) D;rw[hQe]at hdm;have hml:=Fz (val 18446744073709551616 (u.drop i)) hD0;obtain ⟨V,hVe⟩:∃ V,V=val 18446744073709551616 (u.drop i):=⟨_,rfl⟩;rw[←hVe]at hdm hml hVl2;refine X1 ((i+(lb+2):Nat):Int) (wI (by omega) (by omega) (by omega)) ?_;refine X1 ((i+(lb+3):Nat):Int) (wI (by omega) (by omega) (by omega)) ?_;refine .inl ⟨i,i+(lb+3),by simp,by simp,by omega,by omega,.inr ⟨by omega,?_⟩⟩;rw[Nat.add_sub_cancel_left];refine X1 ((lb+1:Nat):Int) (wI (by omega) (by omega) (by omega)) ?_;refine .intro (by omega) (X1 _ (al rfl (by omega)) ?_);refine X1 ((lb:Nat):Int) (wI (by omega) (by omega) (by omega)) ?_;refine .intro (by omega) (X1 _ (al rfl (by omega)) ?_);have hg2:Ct P 154 [A1.c (.sl 1 (((aF .u64 u).drop i).take (lb+3))),.c (nI .u64 (dl.getD (lb+1) 0)),.c (nI .u64 (dl.getD lb 0))] [.c (nI .u64 x0)]:=by rw[ip]; exact hg
     refine X2 .look (X1 _ hg2 ?_);refine .intro rfl ?_;refine X2 (.upd 64) ?_;refine ⟨_,_,v7 u dl x0 i (lb+3) i3 hDd gq2 (by omega) (by omega) (by omega),?_⟩;have hz':val 18446744073709551616 (u.drop (i+(dl.length+1)))=0:=by rw[hDl]; exact hz
     obtain ⟨s1,s2,s3,s4,s5⟩:=Bh (x:=x0) i3 hDd gq2 (by omega) hz';have s6:=qq (t:=u) (d:=dl) (x:=x0) (lo:=i) (dl.length+1);have s7:=qr (t:=u) (d:=dl) (x:=x0) (lo:=i) (dl.length+1);rw[←s7]at hz';generalize (sm u dl x0 i (dl.length+1)).s=u1 at *
     generalize (sm u dl x0 i (dl.length+1)).b=b1 at *
     rw[hDv,hDl,←hVe]at s4;rw[hDl]at s5 hz';refine ax aj aa (G:=List Nat × Nat × Nat) (λ(w,x,o)=>w.length=la+1∧Dig 18446744073709551616 w∧w.take i=u.take i∧val 18446744073709551616 (w.drop (i+(lb+3)))=0∧o≤1∧val 18446744073709551616 (w.drop i)+x*D=V+18446744073709551616^(lb+3)*o∧val 18446744073709551616 (w.drop i)<18446744073709551616^(lb+3)∧Q≤x∧x<18446744073709551616)
      (λ(w,x,o)=>[(4,.c (.ad 4 0)),(5,.c (.ad 5 0)),(9,.c (nI .i64 s)),(10,.c (nSl .u64 dl)),(11,.c (.ow 64 1 (la+1))),(12,.c (nI .i64 (lb+2:Nat))),(13,.c (.ow 77 1 m0)),(14,.c (nI .i64 i)),(15,.c (.os 64 1 i (lb+3))),(16,.c (nI .u64 x)),(17,.c (.sc (.bool (decide ((o:Int)>0)))))])
      (λ((w,x,o):List Nat × Nat × Nat)=>[(4,.var [.sc (.slice none 0 0)]),(5,.var [.sc (.slice none 0 0)]),(64,.row 1 (aF .u64 w)),(77,.row 1 (aF .u64 q))]) (λ(_,x,_)=>x)
      (u1,x0,b1) ⟨by omega,s2,s6,hz',s3,s4,s5,gq1,gq2⟩ ⟨rfl,rfl,rfl,rfl,rfl,rfl,rfl,iE (by omega),rfl,rfl,rfl,HB⟩ ⟨rfl,rfl,rfl,rfl,HB⟩
      (λw=>w.length=la+1∧Dig 18446744073709551616 w∧w.take i=u.take i∧val 18446744073709551616 (w.drop i)=V%D)
      (λ_=>[(4,.c (.ad 4 0)),(5,.c (.ad 5 0)),(9,.c (nI .i64 s)),(10,.c (nSl .u64 dl)),(11,.c (.ow 64 1 (la+1))),(12,.c (nI .i64 (lb+2:Nat))),(13,.c (.ow 77 1 m0)),(14,.c (nI .i64 i)),(16,.c (nI .u64 Q))])
      (λw=>[(4,.var [.sc (.slice none 0 0)]),(5,.var [.sc (.slice none 0 0)]),(64,.row 1 (aF .u64 w)),(77,.row 1 (aF .u64 q))]) (λ(w,x,o) hi=>?_) (λw hw=>?_)
     ·obtain ⟨j1,j2,j3,j4,j5,j6,j7,j8,j9⟩:=hi;refine ae (λh6=>?_) (λh6=>?_)
      ·have ho:o=1:=by omega
       subst ho;rw[FT]at j6;have hgt:Q<x:=by
        apply Gz;intro hle;have:=EE D hle;rw[EQ Q]at this;omega
       refine X2 (.upd 64) ?_;refine ⟨_,_,t5 w dl i (lb+3) j2 hDd (by omega) (by omega) (by omega),?_⟩;have jz:val 18446744073709551616 (w.drop (i+(dl.length+1)))=0:=by rw[hDl]; exact j4
       obtain ⟨r1',r2,r3,r4,r5⟩:=Bi j2 hDd (by omega) jz;have r6:=qs (t:=w) (d:=dl) (x:=1) (lo:=i) (dl.length+1);have r7:=qt (t:=w) (d:=dl) (x:=1) (lo:=i) (dl.length+1);rw[←r7]at jz;generalize (am w dl 1 i (dl.length+1)).1=w1 at *
       generalize (am w dl 1 i (dl.length+1)).2=c1 at *
       rw[hDv,hDl]at r4;rw[hDl]at r5 jz;obtain ⟨p,rfl⟩:∃ p,x=p+1:=⟨x-1,by omega⟩;rw[EO,Fh]at j6;rw[show lb+2+1=lb+3 from rfl]at r4;have heq:val 18446744073709551616 (w1.drop i)+p*D=V+18446744073709551616^(lb+3)*(1-c1):=by
        have hc:c1=0∨c1=1:=by omega
        rcases hc with rfl | rfl
        ·rw[FQ,FM]at r4;rw[FT];omega
        ·rw[FT]at r4;rw[FQ];omega
       refine X1 ((p:Nat):Int) (wU (by omega) (by omega) (by omega)) ?_;exact ⟨(w1,p,1-c1),⟨by omega,r2,r6.trans j3,jz,by omega,heq,r5,by omega,by omega⟩,by show p<p+1; omega,⟨rfl,rfl,rfl,rfl,rfl,rfl,rfl,rfl,rfl,rfl,blB (by
        have hc:c1=0∨c1=1:=by omega
        rcases hc with rfl | rfl<;>rfl),HB⟩,⟨rfl,rfl,rfl,rfl,HB⟩⟩
      ·have ho:o=0:=by omega
       subst ho;rw[FQ,FM]at j6;have hle:x≤Q:=by
        rw[←hQe,←hVe];exact (G3 hD0).2 (by omega)
       have hxe:x=Q:=by omega
       subst hxe;refine ⟨w,⟨j1,j2,j3,by rw[EQ]at hdm; omega⟩,⟨rfl,rfl,rfl,rfl,rfl,rfl,rfl,rfl,rfl,HB⟩,⟨rfl,rfl,rfl,rfl,HB⟩⟩
     ·obtain ⟨j1,j2,j3,j4⟩:=hw;refine .intro (by omega) (.intro (by omega) ?_);refine X1 _ (al rfl (by omega)) ?_;refine X1 ((i:Int)-1) (wI (by omega) (by omega) (by omega)) ?_;refine ⟨(i,w,q.set i Q),⟨by omega,j1,j2,by simp[i4],i5.set hQ,by rw[j4]; exact hml,?_⟩,by show i<i+1; omega,⟨rfl,rfl,rfl,rfl,rfl,rfl,rfl,rfl,HB⟩,⟨rfl,rfl,rfl,aB (by rw[←nRow_set]; rfl),HB⟩⟩;have k1:=gc (lo:=i) (s:=w) (by omega);have k2:=gc (lo:=i) (s:=u) (by omega);rw[j3,j4]at k1;rw[←hVe]at k2;have k3:=congrArg (18446744073709551616^i * ·) hdm;simp only[EW]at k3;rw[kK _ (by omega),i7,k1,k2,Ff,EW,EW D,EL,Fu D (18446744073709551616^i) Q,←k3];omega
    ·have e:m=0:=by omega
     subst e;rw[Hr,Fh,FU]at i7;rw[FU]at i6;obtain ⟨e1,e2⟩:=uU i7 i6;rw[hA2,hD]at e1 e2;rw[Nat.mul_div_mul_right _ _ hps]at e1;rw[Nat.mul_mod_mul_right]at e2;exact ⟨(u,q),⟨i2,i3,i4,i5,e1,e2⟩,⟨rfl,rfl,rfl,rfl,rfl,rfl,HB⟩,⟨rfl,rfl,rfl,rfl,HB⟩⟩
   ·obtain ⟨i2,i3,i4,i5,e1,e2⟩:=hl;refine Ax aj aa [64,77] ?_;have hDp:D<18446744073709551616^(lb+2):=by
     have:=bA (B:=18446744073709551616) (by omega) D;rw[←hdl,hDl]at this; exact this
    have hml:a%b*2^s<D:=by rw[hD]; exact FW (Fz _ (by omega)) hps
    have hut:val 18446744073709551616 (u.take (lb+2))=a%b*2^s:=by
     have h1:=gc (lo:=lb+2) (s:=u) (by omega);have h0:val 18446744073709551616 (u.drop (lb+2))=0:=by
      apply Classical.byContradiction;intro h0;have:=Fp (18446744073709551616^(lb+2)) (E5 h0);rw[FT]at this;omega
     rw[h0,FQ,FM,e2]at h1;exact h1.symm
    refine X1 _ (ej q (by omega)) ?_;rw[cE (by omega) i5,e1];refine ⟨0,lb+2,by simp,by simp,by omega,by rw[ai]; omega,?_⟩;rw[ip,FU,Gk];refine X1 _ (wa (u.take (lb+2)) (by rw[EJ]; omega)) ?_;refine X1 _ (ej (u.take (lb+2)) (by rw[EJ]; omega)) ?_;rw[cE (by omega) i3.take,hut];have hll:(dg 18446744073709551616 (a%b*2^s)).length≤1000000:=by
     have:=bj (B:=18446744073709551616) (by omega) (Nat.le_of_lt hml);rw[←hdl,hDl]at this;omega
    have hd:=qp (a%b*2^s) s hll (by omega);rw[Nat.mul_div_cancel _ hps]at hd;refine X1 _ hd ?_;refine .intro rfl ?_;exact ⟨HB,rc rfl,rc rfl,r1 rfl,HB⟩
end
section
theorem Bj (a b:Nat) (ha:(dg 18446744073709551616 a).length≤100000) (hb:(dg 18446744073709551616 b).length≤100000):Ct P 110 [nV a,nV b] [nV (Nat.gcd a b)]:=by
 refine Ct.go aj aa (N:=21) Tryz.func110 rfl rfl rfl rfl ?_;refine ax aj aa (G:=Nat × Nat) (λ(x,y)=>Nat.gcd x y=Nat.gcd a b∧(dg 18446744073709551616 x).length≤100000∧(dg 18446744073709551616 y).length≤100000) (λ_=>[(2,.c (.ad 2 0)),(3,.c (.ad 3 0)),(4,.c (.ad 4 0))])
  (λ(x,y)=>[(2,.var [nSl .u64 (dg 18446744073709551616 x)]),(3,.var [nSl .u64 (dg 18446744073709551616 y)]),(4,.var [.sc (.slice none 0 0)])]) (λ(x,y)=>y)
  (a,b) ⟨rfl,ha,hb⟩ ⟨rfl,rfl,rfl,HB⟩ ⟨rfl,rfl,rfl,HB⟩ (λ_:Unit=>True) (λ_=>[(2,.c (.ad 2 0)),(4,.c (.ad 4 0))]) (λ_=>[(2,.var [nSl .u64 (dg 18446744073709551616 (Nat.gcd a b))]),(4,.var [.sc (.slice none 0 0)])]) (λ(x,y) hg=>?_) (λ_ _=>?_)
 ·obtain ⟨h1,h2,h3⟩:=hg;refine X1 _ (fC y (by omega)) ?_;refine aP (λh=>?_) (λh=>?_)
  ·have hy:y≠0:=by simpa using h
   refine X1 _ (mN x y hy h2 h3) ?_;refine .intro rfl ?_;have hlt:=Fz x (show 0<y by omega);exact ⟨(y,x%y),⟨by rw[←h1,Hw x y,Nat.gcd_rec y x,Hw],h3,EA (bj (by omega) (by omega)) h3⟩,hlt,⟨rfl,rfl,rfl,HB⟩,⟨rfl,rfl,rfl,HB⟩⟩
  ·have hy:y=0:=by simpa using h
   subst hy;rw[Nat.gcd_zero_right]at h1;subst h1;exact ⟨(),HB,⟨rfl,rfl,HB⟩,⟨rfl,rfl,HB⟩⟩
 ·exact ⟨HB,rc rfl,HB⟩
theorem mO:Ct P 70 [] [nV 1]:=by
 refine Ct.go aj aa (N:=2) Tryz.func70 rfl rfl rfl rfl ?_;refine X1 _ (ga 1 (by omega)) ?_;exact ⟨HB,rc rfl,HB⟩
abbrev qV (n d:Nat):A1:=.ag [nSl .u64 (dg 18446744073709551616 n),nSl .u64 (dg 18446744073709551616 d)]
theorem be (v:Nat) (hv:v<18446744073709551616):Ct P 27 [.c (nI .u64 v)] [qV v 1]:=by
 refine Ct.go aj aa (N:=7) Tryz.func27 rfl rfl rfl rfl ?_;refine X1 _ (ga v hv) ?_;refine X1 _ mO ?_;exact ⟨HB,rc rfl,HB⟩
theorem c5 (n d:Nat):Ct P 67 [qV n d] [nV n]:=by
 refine Ct.go aj aa (N:=5) Tryz.func67 rfl rfl rfl rfl ?_;exact ⟨HB,rc rfl,HB⟩
def dn (d:Nat):Nat:=if d=0 then 1 else d
theorem fH (d:Nat):dn d≠0:=by unfold dn; split<;>omega
theorem fW {d:Nat} (h:d≠0):dn d=d:=if_neg h
theorem eY {d k:Nat} (hk:1≤k) (h:(dg 18446744073709551616 d).length≤k):(dg 18446744073709551616 (dn d)).length≤k:=by
 unfold dn;split
 ·exact EA (cr (k:=1) (by omega) (by decide)) hk
 ·exact h
theorem ca (n d:Nat) (hl:(dg 18446744073709551616 d).length≤1000000):Ct P 68 [qV n d] [nV (dn d)]:=by
 refine Ct.go aj aa (N:=9) Tryz.func68 rfl rfl rfl rfl ?_;refine X1 _ (fC d hl) ?_;refine aP (λh=>?_) (λh=>?_)
 ·have h0:d=0:=by simpa using h
  subst h0;refine X1 _ mO ?_;exact ⟨HB,rc rfl,HB⟩
 ·rw[fW (by simpa using h)];exact ⟨HB,rc rfl,HB⟩
theorem kL (n d:Nat) (hl:(dg 18446744073709551616 n).length≤1000000):Ct P 33 [qV n d] [.c (.sc (.bool (n==0)))]:=by
 refine Ct.go aj aa (N:=6) Tryz.func33 rfl rfl rfl rfl ?_;refine X1 _ (fC n hl) ?_;exact ⟨HB,r1 rfl,HB⟩
abbrev qR (n d:Nat):A1:=qV (n/Nat.gcd n d) (d/Nat.gcd n d)
theorem iv (n d:Nat) (hd:d≠0) (hn:(dg 18446744073709551616 n).length≤100000) (hl:(dg 18446744073709551616 d).length≤100000):Ct P 65 [nV n,nV d] [qR n d]:=by
 have hg:Nat.gcd n d≠0:=λh=>hd (Nat.gcd_eq_zero_iff.1 h).2
 have hgl:(dg 18446744073709551616 (Nat.gcd n d)).length≤100000:=EA (bj (by omega) (Nat.gcd_le_right n (by omega))) hl;have h1l:(dg 18446744073709551616 1).length≤1000000:=by have:=bj (B:=18446744073709551616) (by omega) (show 1≤d by omega); omega
 refine Ct.go aj aa (N:=34) Tryz.func65 rfl rfl rfl rfl ?_;refine X1 _ (fC n (by omega)) ?_;refine aP (λh=>?_) (λh=>?_)
 ·have h0:n=0:=by simpa using h
  subst h0;unfold qR qV;rw[GM,Hs,Hf (by omega),bE];refine X1 _ mO ?_;exact ⟨HB,⟨_,rfl,.inr ⟨rfl,1,rfl⟩,.inl rfl,HB⟩,HB⟩
 ·refine X1 _ (Bj n d hn hl) ?_;refine X1 _ mO ?_;refine X1 _ (kv _ 1 (by omega) h1l) ?_;refine .intro rfl ?_;refine ae (λh2=>?_) (λh2=>?_)
  ·refine X1 _ (mN n _ hg hn hgl) ?_;refine X1 _ (mN d _ hg hl hgl) ?_;exact ⟨HB,rc rfl,HB⟩
  ·have h3:Nat.gcd n d=1:=by
    unfold bC at h2;split at h2
    ·omega
    ·split at h2<;>omega
   unfold qR;rw[h3,Ht,Ht];exact ⟨HB,rc rfl,HB⟩
theorem cB {a b k m:Nat} (ha:(dg 18446744073709551616 a).length≤k) (hb:(dg 18446744073709551616 b).length≤m):(dg 18446744073709551616 (a*b)).length≤k+m:=by
 apply cr (by omega);have h1:=bA (B:=18446744073709551616) (by omega) a;have h2:=bA (B:=18446744073709551616) (by omega) b;have h3:a*b<18446744073709551616^(dg 18446744073709551616 a).length*18446744073709551616^(dg 18446744073709551616 b).length:=Hk h1 h2;rw[←Fw]at h3;exact EG h3 (EK (by omega) (by omega))
structure LimQ (n d:Nat):Prop where
 n:(dg 18446744073709551616 n).length≤40000
 d:(dg 18446744073709551616 d).length≤40000
theorem iY (a b c d:Nat) (h1:LimQ a b) (h2:LimQ c d):Ct P 72 [qV a b,qV c d] [.c (eI .i64 (bC (a*dn d:Nat) (c*dn b:Nat)))]:=by
 obtain ⟨n1,k1⟩:=h1;obtain ⟨n2,k2⟩:=h2;have l1:=eY (by omega) k1;have l2:=eY (by omega) k2;have p1:=fH b;have p2:=fH d;refine Ct.go aj aa (N:=16) Tryz.func72 rfl rfl rfl rfl ?_;refine X1 _ (c5 a b) (X1 _ (ca c d (by omega)) (X1 _ (cZ a (dn d) (by omega) (by omega)) ?_));refine X1 _ (c5 c d) (X1 _ (ca a b (by omega)) (X1 _ (cZ c (dn b) (by omega) (by omega)) ?_));refine X1 _ (kv _ _ (EA (cB n1 l2) (by omega)) (EA (cB n2 l1) (by omega))) ?_;refine .intro rfl ?_;exact ⟨HB,r1 rfl,HB⟩
theorem Bk (a b c d:Nat) (h1:LimQ a b) (h2:LimQ c d):Ct P 133 [qV a b,qV c d] [qR (a*c) (dn b*dn d)]:=by
 obtain ⟨n1,k1⟩:=h1;obtain ⟨n2,k2⟩:=h2;have l1:=eY (by omega) k1;have l2:=eY (by omega) k2;have p1:=fH b;have p2:=fH d;refine Ct.go aj aa (N:=16) Tryz.func133 rfl rfl rfl rfl ?_;refine X1 _ (c5 a b) (X1 _ (c5 c d) (X1 _ (cZ a c (by omega) (by omega)) ?_));refine X1 _ (ca a b (by omega)) (X1 _ (ca c d (by omega)) (X1 _ (cZ (dn b) (dn d) (by omega) (by omega)) ?_));refine X1 _ (iv _ _ (EU p1 p2) (EA (cB n1 n2) (by omega)) (EA (cB l1 l2) (by omega))) ?_;refine .intro rfl ?_;exact ⟨HB,rc rfl,HB⟩
theorem uW (a b c d:Nat) (h1:LimQ a b) (h2:LimQ c d) (hc:c≠0):Ct P 26 [qV a b,qV c d] [qR (a*dn d) (dn b*c),.c (eI .i64 0)]:=by
 obtain ⟨n1,k1⟩:=h1;obtain ⟨n2,k2⟩:=h2;have l1:=eY (by omega) k1;have l2:=eY (by omega) k2;have p1:=fH b;have p2:=fH d;refine Ct.go aj aa (N:=20) Tryz.func26 rfl rfl rfl rfl ?_;refine X1 _ (kL c d (by omega)) ?_;refine tx (by simpa using hc) ?_;refine X1 _ (c5 a b) (X1 _ (ca c d (by omega)) (X1 _ (cZ a (dn d) (by omega) (by omega)) ?_));refine X1 _ (ca a b (by omega)) (X1 _ (c5 c d) (X1 _ (cZ (dn b) c (by omega) (by omega)) ?_));refine X1 _ (iv _ _ (EU p1 hc) (EA (cB n1 l2) (by omega)) (EA (cB l1 n2) (by omega))) ?_;refine .intro rfl ?_;exact ⟨HB,rc rfl,r1 rfl,HB⟩
theorem za (a b c d:Nat) (h1:LimQ a b) (h2:LimQ c d) (hle:c*dn b≤a*dn d):Ct P 52 [qV a b,qV c d] [qR (a*dn d-c*dn b) (dn b*dn d)]:=by
 obtain ⟨n1,k1⟩:=h1;obtain ⟨n2,k2⟩:=h2;have l1:=eY (by omega) k1;have l2:=eY (by omega) k2;have p1:=fH b;have p2:=fH d;refine Ct.go aj aa (N:=31) Tryz.func52 rfl rfl rfl rfl ?_;refine X1 _ (c5 a b) (X1 _ (ca c d (by omega)) (X1 _ (cZ a (dn d) (by omega) (by omega)) ?_));refine X1 _ (c5 c d) (X1 _ (ca a b (by omega)) (X1 _ (cZ c (dn b) (by omega) (by omega)) ?_));have hl:=cB n1 l2;refine X1 _ (uM _ _ hle (by omega)) ?_;refine .intro rfl ?_;refine X1 _ (ca a b (by omega)) (X1 _ (ca c d (by omega)) (X1 _ (cZ (dn b) (dn d) (by omega) (by omega)) ?_));have hl3:=bj (B:=18446744073709551616) (by omega) (Nat.sub_le (a*dn d) (c*dn b));refine X1 _ (iv _ _ (EU p1 p2) (by omega) (EA (cB l1 l2) (by omega))) ?_;refine .intro rfl ?_;exact ⟨HB,rc rfl,HB⟩
def cx (o x:Nat × Nat):Nat × Nat:=((o.1*dn x.2+x.1*dn o.2)/Nat.gcd (o.1*dn x.2+x.1*dn o.2) (dn o.2*dn x.2),dn o.2*dn x.2/Nat.gcd (o.1*dn x.2+x.1*dn o.2) (dn o.2*dn x.2))
def qu (l:List (Nat × Nat)):List (List PC):=l.map λx=>[nSl .u64 (dg 18446744073709551616 x.1),nSl .u64 (dg 18446744073709551616 x.2)]
theorem sx {l:List (Nat × Nat)}:(qu l).length=l.length:=by simp[qu]
theorem zb {l:List (Nat × Nat)} {i:Int} {n:Nat} (h0:i=n) (h:n<l.length):(qu l)[i.toNat]? = some [nSl .u64 (dg 18446744073709551616 l[n].1),nSl .u64 (dg 18446744073709551616 l[n].2)]:=by
 subst h0;simp[qu,h]
theorem uX (l:List (Nat × Nat)) (hl:l.length≤1000000) (h1:∀ (i:Nat) (h:i<l.length),LimQ l[i].1 l[i].2) (h2:∀ i,i≤l.length→LimQ ((l.take i).foldl cx (0,1)).1 ((l.take i).foldl cx (0,1)).2) :
  Ct P 116 [.c (.sl 2 (qu l))] [qV (l.foldl cx (0,1)).1 (l.foldl cx (0,1)).2]:=by
 refine Ct.go aj aa (N:=34) Tryz.func116 rfl rfl rfl rfl ?_;refine X1 _ (be 0 (by omega)) ?_;refine .intro (by rw[sx]; omega) ?_;rw[sx];refine ax aj aa (λi:Nat=>i≤l.length) (λi=>[(2,.c (.ad 2 0)),(3,.c (.ad 3 0)),(8,.c (.sl 2 (qu l))),(9,.c (nI .i64 l.length)),(10,.c (nI .i64 i))])
  (λi=>[(2,.var [.sc (.slice none 0 0),.sc (.slice none 0 0)]),(3,.var [nSl .u64 (dg 18446744073709551616 ((l.take i).foldl cx (0,1)).1),nSl .u64 (dg 18446744073709551616 ((l.take i).foldl cx (0,1)).2)])]) (λi=>l.length-i)
  0 (by omega) ⟨rfl,rfl,rfl,rfl,rfl,HB⟩ ⟨rfl,rfl,HB⟩ (λ_:Unit=>True) (λ_=>[(2,.c (.ad 2 0)),(3,.c (.ad 3 0))])
  (λ_=>[(2,.var [.sc (.slice none 0 0),.sc (.slice none 0 0)]),(3,.var [nSl .u64 (dg 18446744073709551616 (l.foldl cx (0,1)).1),nSl .u64 (dg 18446744073709551616 (l.foldl cx (0,1)).2)])]) (λi hi=>?_) (λ_ _=>?_)
 ·refine ae (λh5=>?_) (λh5=>?_)
  ·have hs:(l.take (i+1)).foldl cx (0,1)=cx ((l.take i).foldl cx (0,1)) l[i]:=by
    rw[EB (by omega),GL]; rfl
   obtain ⟨n1,k1⟩:=h2 i hi;obtain ⟨n2,k2⟩:=h1 i (by omega);have hq:=zb (l:=l) (i:=(i:Int)) (n:=i) rfl (by omega);generalize (l.take i).foldl cx (0,1)=o at *
   generalize l[i]=x at *
   have l1:=eY (by omega) k1;have l2:=eY (by omega) k2;have p1:=fH o.2;have p2:=fH x.2;refine .intro (by omega) (X1 _ hq ?_);refine X1 _ (c5 o.1 o.2) (X1 _ (ca x.1 x.2 (by omega)) (X1 _ (cZ o.1 (dn x.2) (by omega) (by omega)) ?_));refine X1 _ (c5 x.1 x.2) (X1 _ (ca o.1 o.2 (by omega)) (X1 _ (cZ x.1 (dn o.2) (by omega) (by omega)) ?_));have m1:=cB n1 l2;have m2:=cB n2 l1;refine X1 _ (mK _ _ (by omega) (by omega)) ?_;refine .intro rfl ?_;refine X1 _ (ca o.1 o.2 (by omega)) (X1 _ (ca x.1 x.2 (by omega)) (X1 _ (cZ (dn o.2) (dn x.2) (by omega) (by omega)) ?_));have m3:=yY m1 m2;refine X1 _ (iv _ _ (EU p1 p2) (by omega) (EA (cB l1 l2) (by omega))) ?_;refine .intro rfl ?_;refine X1 ((i+1:Nat):Int) (wI1 (by omega)) ?_;exact ⟨i+1,by omega,by omega,⟨rfl,rfl,rfl,rfl,rfl,HB⟩,⟨rfl,by rw[hs]; rfl,HB⟩⟩
  ·have e:i=l.length:=by omega
   subst e;rw[Fd];exact ⟨(),HB,⟨rfl,rfl,HB⟩,⟨rfl,rfl,HB⟩⟩
 ·exact ⟨HB,rc rfl,HB⟩
theorem zc (a b:Nat) (hab:a<b) (ha:(dg 18446744073709551616 a).length≤1000000) (hb:(dg 18446744073709551616 b).length≤1000000):Ct P 104 [nV a,nV b] [nV 0,.c (eI .i64 8)]:=by
 refine Ct.go aj aa (N:=52) Tryz.func104 rfl rfl rfl rfl ?_;refine X1 _ (kv a b ha hb) ?_;refine DB (decide_eq_true (by unfold bC; rw[if_pos (by omega)]; decide)) ?_;exact ⟨HB,⟨_,rfl,y6⟩,r1 rfl,HB⟩
theorem wc (a b c d:Nat) (h1:LimQ a b) (h2:LimQ c d) (hlt:a*dn d<c*dn b):Ct P 52 [qV a b,qV c d] [qV 0 1]:=by
 obtain ⟨n1,k1⟩:=h1;obtain ⟨n2,k2⟩:=h2;have l1:=eY (by omega) k1;have l2:=eY (by omega) k2;refine Ct.go aj aa (N:=31) Tryz.func52 rfl rfl rfl rfl ?_;refine X1 _ (c5 a b) (X1 _ (ca c d (by omega)) (X1 _ (cZ a (dn d) (by omega) (by omega)) ?_));refine X1 _ (c5 c d) (X1 _ (ca a b (by omega)) (X1 _ (cZ c (dn b) (by omega) (by omega)) ?_));have m1:=cB n1 l2;have m2:=cB n2 l1;refine X1 _ (zc _ _ hlt (by omega) (by omega)) ?_;refine .intro rfl ?_;refine X1 _ (be 0 (by omega)) ?_;exact ⟨HB,rc rfl,HB⟩
def wh (n:Int):Nat:=n.toNat
theorem zd (n:Int) (hn:n<9223372036854775808):Ct P 131 [.c (eI .i64 n)] [qV (wh n) 1]:=by
 refine Ct.go aj aa (N:=7) Tryz.func131 rfl rfl rfl rfl ?_;have e:(if (0:Int)>n then 0 else n)=((wh n:Nat):Int):=by unfold wh; split<;>omega
 have hw:wh n<18446744073709551616:=by unfold wh; omega
 refine X1 ((wh n:Nat):Int) (by rw[e]; exact wU rfl (by omega) (by omega)) ?_;refine X1 _ (be (wh n) hw) ?_;exact ⟨HB,rc rfl,HB⟩
theorem CV (a b c d:Nat) (h1:LimQ a b) (h2:LimQ c d) (hc:c≠0):Ct P 132 [qV a b,qV c d] [qR (a*dn d) (dn b*c)]:=by
 refine Ct.go aj aa (N:=17) Tryz.func132 rfl rfl rfl rfl ?_;refine X1 _ (uW a b c d h1 h2 hc) ?_;exact ⟨HB,rc rfl,HB⟩
def gR (n d:Nat):Nat × Nat:=(n/Nat.gcd n d,d/Nat.gcd n d)
def Eo (p q:Nat × Nat):Nat × Nat:=gR (p.1*q.1) (dn p.2*dn q.2)
def CW (p q:Nat × Nat):Nat × Nat:=gR (p.1*dn q.2) (dn p.2*q.1)
def Bl (p q:Nat × Nat):Nat × Nat:=if p.1*dn q.2<q.1*dn p.2 then (0,1) else gR (p.1*dn q.2-q.1*dn p.2) (dn p.2*dn q.2)
abbrev qP (p:Nat × Nat):A1:=qV p.1 p.2
structure Bg (k:Nat) (p:Nat × Nat):Prop where
 n:p.1<2^k
 d:p.2<2^k
theorem ze {k n:Nat} (h:k≤64*n):2^k≤18446744073709551616^n:=by
 rw[nQ];exact EK (by omega) h
theorem Bg.lim {k:Nat} {p:Nat × Nat} (h:Bg k p) (hk:k≤2000000):LimQ p.1 p.2:=by
 obtain ⟨N,hN⟩:∃ N,N=40000:=⟨_,rfl⟩;have e:2^k≤18446744073709551616^N:=ze (by omega);have a1:=cr (by omega) (EG h.n e);have a2:=cr (by omega) (EG h.d e);rw[hN]at a1 a2;exact ⟨a1,a2⟩
theorem Bg.dn {k:Nat} {p:Nat × Nat} (h:Bg k p) (hk:1≤k):dn p.2<2^k:=by
 unfold Pv.dn;split
 ·have:=EK (show 0<2 by omega) hk;omega
 ·exact h.d
theorem Bm {k m:Nat} {p q:Nat × Nat} (h1:Bg k p) (h2:Bg m q) (hk:k≤2000000) (hm:m≤2000000):Ct P 133 [qP p,qP q] [qP (Eo p q)]:=Bk _ _ _ _ (h1.lim hk) (h2.lim hm)
theorem uY {k m:Nat} {p q:Nat × Nat} (h1:Bg k p) (h2:Bg m q) (hq:q.1≠0) (hk:k≤2000000) (hm:m≤2000000):Ct P 26 [qP p,qP q] [qP (CW p q),.c (eI .i64 0)]:=uW _ _ _ _ (h1.lim hk) (h2.lim hm) hq
theorem CX {k m:Nat} {p q:Nat × Nat} (h1:Bg k p) (h2:Bg m q) (hq:q.1≠0) (hk:k≤2000000) (hm:m≤2000000):Ct P 132 [qP p,qP q] [qP (CW p q)]:=CV _ _ _ _ (h1.lim hk) (h2.lim hm) hq
theorem Bn {k m:Nat} {p q:Nat × Nat} (h1:Bg k p) (h2:Bg m q) (hk:k≤2000000) (hm:m≤2000000):Ct P 52 [qP p,qP q] [qP (Bl p q)]:=by
 unfold Bl;split
 ·rename_i h;exact wc _ _ _ _ (h1.lim hk) (h2.lim hm) h
 ·rename_i h;exact za _ _ _ _ (h1.lim hk) (h2.lim hm) (FD h)
abbrev gS (p0 p1 p2 p3:Nat × Nat):A1:=.ag [nSl .u64 (dg 18446744073709551616 p0.1),nSl .u64 (dg 18446744073709551616 p0.2),nSl .u64 (dg 18446744073709551616 p1.1),nSl .u64 (dg 18446744073709551616 p1.2),nSl .u64 (dg 18446744073709551616 p2.1),nSl .u64 (dg 18446744073709551616 p2.2),nSl .u64 (dg 18446744073709551616 p3.1),nSl .u64 (dg 18446744073709551616 p3.2)]
def gAt (p0 p1 p2 p3:Nat × Nat) (n:Int):Nat × Nat:=if n<1 then p0 else if n=1 then p1 else if n=2 then p2 else p3
theorem qw (p0 p1 p2 p3:Nat × Nat) (n:Int):Ct P 161 [gS p0 p1 p2 p3,.c (eI .i64 n)] [qP (gAt p0 p1 p2 p3 n)]:=by
 have key:∀ v:Int,(if 3<(if (0:Int)>n then 0 else n) then 3 else (if (0:Int)>n then 0 else n))=v→(v=0∧gAt p0 p1 p2 p3 n=p0)∨(v=1∧gAt p0 p1 p2 p3 n=p1)∨(v=2∧gAt p0 p1 p2 p3 n=p2)∨(v=3∧gAt p0 p1 p2 p3 n=p3):=by
  intro v hv;by_cases h0:n<1
  ·refine .inl ⟨by split at hv<;>split at hv<;>omega,by rw[gAt,if_pos h0]⟩
  ·by_cases h1:n=1
   ·exact .inr (.inl ⟨by split at hv<;>split at hv<;>omega,by rw[gAt,if_neg h0,if_pos h1]⟩)
   ·by_cases h2:n=2
    ·exact .inr (.inr (.inl ⟨by split at hv<;>split at hv<;>omega,by rw[gAt,if_neg h0,if_neg h1,if_pos h2]⟩))
    ·exact .inr (.inr (.inr ⟨by split at hv<;>split at hv<;>omega,by rw[gAt,if_neg h0,if_neg h1,if_neg h2]⟩))
 refine Ct.go aj aa (N:=11) Tryz.func161 rfl rfl rfl rfl ?_;obtain ⟨v,hv⟩:∃ v,(if 3<(if (0:Int)>n then 0 else n) then 3 else (if (0:Int)>n then 0 else n))=v:=⟨_,rfl⟩;have hk:=key v hv;rcases hk with ⟨rfl,e⟩ | ⟨rfl,e⟩ | ⟨rfl,e⟩ | ⟨rfl,e⟩<;>rw[e] <;>
 ·refine .intro (by rw[hv]; decide) (.intro (by rw[hv]; decide) ?_);rw[hv];exact ⟨HB,rc rfl,HB⟩
theorem kM (l:List Nat) (hl:l.length≤1000000):Ct P 106 [.c (nSl .i64 l)] [.c (nSl .i64 (cu l))]:=by
 refine Ct.go aj aa (N:=23) Tryz.func106 rfl rfl rfl rfl ?_;refine .intro (by rw[ai]; omega) ?_;refine ax aj aa (λn:Nat=>n≤l.length∧cu l=cu (l.take n)) (λn=>[(0,.c (nSl .i64 l)),(3,.c (nI .i64 n))]) (λ_=>[]) (λn=>n) l.length ⟨Ew _,by simp⟩ ⟨rfl,by rw[ai]; rfl,HB⟩ trivial
  (λn:Nat=>n≤l.length∧l.take n=cu l) (λn=>[(0,.c (nSl .i64 l)),(3,.c (nI .i64 n))]) (λ_=>[]) (λn hn=>?_) (λn hn=>?_)
 ·obtain ⟨hn,ht⟩:=hn;refine ae (λh1=>?_) (λh1=>?_)
  ·obtain ⟨m,rfl⟩:∃ m,n=m+1:=⟨n-1,by omega⟩;refine X1 (m:Int) (wI (by omega) (by omega) (by omega)) ?_;refine .intro (by omega) (X1 _ (al rfl (by omega)) ?_);refine aT (λh2=>?_) (λh2=>?_)
   ·refine X1 (m:Int) (wI (by omega) (by omega) (by omega)) ?_;exact ⟨m,⟨by omega,ht.trans (nJ l hn (by omega))⟩,by omega,⟨rfl,rfl,HB⟩,HB⟩
   ·exact ⟨m+1,⟨hn,jI l hn ht (.inr (by simpa using h2))⟩,⟨rfl,rfl,HB⟩,HB⟩
  ·exact ⟨n,⟨hn,jI l hn ht (.inl (by omega))⟩,⟨rfl,rfl,HB⟩,HB⟩
 ·obtain ⟨hn,ht⟩:=hn;refine ⟨0,n,rfl,rfl,by omega,by rw[ai]; omega,?_⟩;have e:[]++((aF .i64 l).drop 0).take (n-0)=aF .i64 (cu l):=by rw[GV,ip,FU,Gk,ht]
  have hle:(((aF .i64 l).drop 0).take (n-0)).length≤1000000:=by simp[ai]; omega
  refine ⟨rfl,?_,?_,b9,?_,?_⟩
  ·show (0+(((aF .i64 l).drop 0).take (n-0)).length+768)*8≤_
   omega
  ·show 0+(((aF .i64 l).drop 0).take (n-0)).length≤_
   omega
  ·rw[ip]; exact dh
  ·exact ⟨HB,r1 (qh e),HB⟩
theorem DT (l:List Nat) (i:Int) (hl:l.length≤1000000):Ct P 107 [.c (nSl .i64 l),.c (eI .i64 i)] [.c (nI .i64 (if 0≤i then l.getD i.toNat 0 else 0))]:=by
 refine Ct.go aj aa (N:=17) Tryz.func107 rfl rfl rfl rfl ?_;refine ae (λh1=>?_) (λh1=>?_)
 ·rw[if_neg (by omega)];exact ⟨HB,r1 rfl,HB⟩
 ·refine .intro (by rw[ai]; omega) ?_;rw[ai];refine ae (λh2=>?_) (λh2=>?_)
  ·have:l.getD i.toNat 0=0:=by
    rw[Ev,ET (by omega)]; rfl
   rw[if_pos (by omega),this];exact ⟨HB,r1 rfl,HB⟩
  ·rw[if_pos (by omega)];refine .intro (by omega) (X1 _ (xA (by omega) (by omega)) ?_);exact ⟨HB,r1 rfl,HB⟩
theorem n6 (l:List Nat) (i:Nat) (hl:l.length≤1000000):Ct P 107 [.c (nSl .i64 l),.c (nI .i64 i)] [.c (nI .i64 (l.getD i 0))]:=by
 have:=DT l i hl;rwa [if_pos (GU i),EX]at this
abbrev dV (n:Nat):PC:=nSl .i64 (dg 256 n)
theorem zf (a b:Nat) (hab:b≤a) (hl:(dg 256 a).length≤1000000):Ct P 151 [.c (dV a),.c (dV b)] [.c (dV (a-b))]:=by
 have hlb:(dg 256 b).length≤(dg 256 a).length:=bj (by omega) hab;refine Ct.go aj aa (N:=35) Tryz.func151 rfl rfl rfl rfl ?_;refine jo (r:=50) (t:=5) (sz:=1) rfl rfl ?_;refine ax aj aa (λg:List Nat × Nat=>g.1.length≤(dg 256 a).length∧Dig 256 g.1∧g.2≤1∧val 256 ((dg 256 a).take g.1.length)+256^g.1.length*g.2=val 256 ((dg 256 b).take g.1.length)+val 256 g.1)
  (λg=>[(0,.c (dV a)),(1,.c (dV b)),(5,.c (.ow 50 1 g.1.length)),(6,.c (nI .i64 g.2)),(7,.c (nI .i64 g.1.length))]) (λg=>[(50,.row 1 (aF .i64 g.1))]) (λg=>(dg 256 a).length-g.1.length)
  ([],0) ⟨by simp,.nil,by simp,by simp[val]⟩ ⟨rfl,rfl,rfl,rfl,rfl,HB⟩ ⟨rfl,HB⟩
  (λl:List Nat=>Dig 256 l∧val 256 l=a-b∧l.length≤1000000) (λl=>[(5,.c (.ow 50 1 l.length))]) (λl=>[(50,.row 1 (aF .i64 l))]) (λg hg=>?_) (λl hl=>?_)
 ·obtain ⟨l,c⟩:=g;obtain ⟨h1,h2,h3,h4⟩:=hg;simp only at h1 h2 h3 h4;refine .intro (by rw[ai]; omega) ?_;rw[ai];refine ae (λh5=>?_) (λh5=>?_)
  ·replace h5:(l.length:Int)<(dg 256 a).length:=h5;refine X1 _ (n6 (dg 256 a) l.length hl) ?_;have hx:=(bw (B:=256) (by omega) a).getD (by omega) l.length;have hy:=(bw (B:=256) (by omega) b).getD (by omega) l.length;have hA:=aC 256 (dg 256 a) l.length;have hB:=aC 256 (dg 256 b) l.length;generalize (dg 256 a).getD l.length 0=x at hx hA ⊢;generalize hyy:(dg 256 b).getD l.length 0=y at hy hB;refine X1 ((256+x:Nat):Int) (wI (by omega) (by omega) (by omega)) ?_;refine X1 _ (n6 (dg 256 b) l.length (by omega)) ?_;rw[hyy];refine X1 ((256+x-y:Nat):Int) (wI (by omega) (by omega) (by omega)) ?_;refine X1 ((256+x-y-c:Nat):Int) (wI (by omega) (by omega) (by omega)) ?_;obtain ⟨v,hv⟩:∃ v,v=256+x-y-c:=⟨_,rfl⟩;rw[←hv];refine .intro (by omega) (X1 ((v%256:Nat):Int) (by rw[Gl (by omega)]; omega) (.intro ⟨by omega,by omega⟩ ?_));refine mC rfl (by simp; omega) iR ?_;refine .intro (by omega) (X1 ((v/256:Nat):Int) (by rw[FB (by omega)]; omega) (.intro ⟨by omega,by omega⟩ ?_));refine X1 ((1-v/256:Nat):Int) (wI (by omega) (by omega) (by omega)) ?_;refine X1 ((l.length+1:Nat):Int) (wI (by simp) (by omega) (by omega)) ?_;refine ⟨(l++[v%256],1-v/256),⟨by simp<;>omega,h2.snoc (by omega),by simp<;>omega,?_⟩,by simp<;>omega,⟨rfl,rfl,owE (by simp[ai]),rfl,iE (by simp),HB⟩,⟨aB (im (m:=[v%256])),HB⟩⟩;simp only[Ey,E7,Gv,hA,hB,nK];have key:x+256*(1-v/256)=v%256+y+c:=by omega
   have k2:256^l.length*(x+256*(1-v/256))=256^l.length*(v%256+y+c):=by rw[key]
   rw[Ff,EL];simp only[EW]at k2;omega
  ·replace h5:¬ (l.length:Int)<(dg 256 a).length:=h5;have e:l.length=(dg 256 a).length:=by omega
   refine ⟨l,⟨h2,?_,by omega⟩,⟨rfl,HB⟩,⟨rfl,HB⟩⟩;rw[e,aU (Ew _),aU hlb,bp (by omega),bp (by omega)]at h4;have h6:=eg (by omega:0<256) h2;rw[e]at h6;have h7:c=0:=by
    rcases F7 c with h | h
    ·exact h
    ·have:c=1:=by omega
     subst this;omega
   subst h7;omega
 ·obtain ⟨h1,h2,h3⟩:=hl;refine X2 .frz ?_;refine X1 _ (kM l h3) ?_;rw[cE (by omega) h1,h2];exact ⟨HB,r1 rfl,HB⟩
theorem zg (v:Nat) (hv:v<18446744073709551616):Ct P 77 [.c (nI .u64 v)] [.c (dV v)]:=by
 refine Ct.go aj aa (N:=15) Tryz.func77 rfl rfl rfl rfl ?_;refine jo (r:=50) (t:=3) (sz:=1) rfl rfl ?_;refine ax aj aa (λg:List Nat × Nat=>g.2≤v∧g.1++dg 256 g.2=dg 256 v)
  (λg=>[(0,.c (nI .u64 g.2)),(3,.c (.ow 50 1 g.1.length))]) (λg=>[(50,.row 1 (aF .i64 g.1))]) (λg=>g.2)
  ([],v) ⟨Ew _,rfl⟩ ⟨rfl,rfl,HB⟩ ⟨rfl,HB⟩
  (λ_:Unit=>True) (λ_=>[(3,.c (.ow 50 1 (dg 256 v).length))]) (λ_=>[(50,.row 1 (aF .i64 (dg 256 v)))]) (λg hg=>?_) (λl _=>?_)
 ·obtain ⟨l,c⟩:=g;obtain ⟨h1,h2⟩:=hg;simp only at h1 h2;refine ae (λh5=>?_) (λh5=>?_)
  ·replace h5:(c:Int)>0:=h5;refine .intro (by omega) (X1 ((c%256:Nat):Int) (by show (c:Int).tmod 256=_; rw[Gl (by omega)]; omega) (.intro ⟨by omega,by omega⟩ ?_));refine X1 ((c%256:Nat):Int) (wI rfl (by omega) (by omega)) ?_;have hlen:(dg 256 v).length≤8:=cr (by omega) hv;have hl2:l.length≤8:=by rw[←h2,Ey]at hlen; omega
   refine mC rfl (by simp; omega) iR ?_;refine .intro (by omega) (X1 ((c/256:Nat):Int) (by show (c:Int).tdiv 256=_; rw[FB (by omega)]; omega) (.intro ⟨by omega,by omega⟩ ?_));refine ⟨(l++[c%256],c/256),⟨by show c/256≤v; omega,?_⟩,by show c/256<c; omega,⟨rfl,owE (by simp[ai]),HB⟩,⟨aB (im (m:=[c%256])),HB⟩⟩;rw[←h2,gJ (n:=c) (by omega) (by omega)];simp
  ·replace h5:¬ (c:Int)>0:=h5;have hc:c=0:=by omega
   subst hc;rw[bE,Gh]at h2;subst h2;exact ⟨(),HB,⟨rfl,HB⟩,⟨rfl,HB⟩⟩
 ·exact ⟨HB,r1 rfl,HB⟩
def iw (a b:Nat):Int:=if a<b then -1 else if b<a then 1 else 0
theorem zh (a b:Nat) (ha:(dg 256 a).length≤1000000) (hb:(dg 256 b).length≤1000000):Ct P 59 [.c (dV a),.c (dV b)] [.c (eI .i64 (iw a b))]:=by
 refine Ct.go aj aa (N:=41) Tryz.func59 rfl rfl rfl rfl ?_;refine .intro (by rw[ai]; omega) ?_;refine .intro (by rw[ai]; omega) ?_;rw[ai,ai];refine ez (λh=>?_) (λh=>?_)
 ·refine .intro (by rw[ai]; omega) ?_;refine .intro (by rw[ai]; omega) ?_;rw[ai,ai];refine ae (λh2=>?_) (λh2=>?_)
  ·have:a<b:=iS (B:=256) (by omega) (by omega);exact ⟨HB,r1 (iE (by rw[iw,if_pos this])),HB⟩
  ·have:b<a:=iS (B:=256) (by omega) (by omega:(dg 256 b).length<(dg 256 a).length);exact ⟨HB,r1 (iE (by rw[iw,if_neg (by omega),if_pos this])),HB⟩
 ·have hlen:(dg 256 a).length=(dg 256 b).length:=by omega
  refine .intro (by rw[ai]; omega) ?_;rw[ai];refine X1 (((dg 256 a).length:Int)-1) (wi (by omega) (by omega)) ?_;refine ax aj aa (λn:Nat=>n≤(dg 256 a).length∧(dg 256 a).drop n=(dg 256 b).drop n)
   (λn=>[(0,.c (dV a)),(1,.c (dV b)),(5,.c (eI .i64 ((n:Int)-1)))]) (λ_=>[]) (λn=>n)
   (dg 256 a).length ⟨Ew _,by rw[F3,FL (by omega)]⟩ ⟨rfl,rfl,rfl,HB⟩ trivial
   (λ_:Unit=>a=b) (λ_=>[]) (λ_=>[]) (λn hn=>?_) (λ_ he=>?_)
  ·obtain ⟨h1,h2⟩:=hn;refine ae (λh5=>?_) (λh5=>?_)
   ·obtain ⟨m,rfl⟩:∃ m,n=m+1:=⟨n-1,by omega⟩;have hA:=bw (B:=256) (by omega) a;have hB:=bw (B:=256) (by omega) b;have vA:=bp (B:=256) (by omega) a;have vB:=bp (B:=256) (by omega) b;refine .intro (by omega) (X1 _ (al (n:=m) (by omega) (by omega)) ?_);refine .intro (by omega) (X1 _ (al (n:=m) (by omega) (by omega)) ?_);refine .intro rfl ?_;refine ae (λh6=>?_) (λh6=>?_)
    ·have:=iT (B:=256) (by omega) hA hlen (by omega) h2 (by omega);exact ⟨HB,r1 (iE (by rw[iw,if_pos (by omega)])),HB⟩
    ·refine .intro (by omega) (X1 _ (al (n:=m) (by omega) (by omega)) ?_);refine .intro (by omega) (X1 _ (al (n:=m) (by omega) (by omega)) ?_);refine .intro rfl ?_;refine ae (λh7=>?_) (λh7=>?_)
     ·have:=iT (B:=256) (by omega) hB hlen.symm (by omega) h2.symm (by omega);exact ⟨HB,r1 (iE (by rw[iw,if_neg (by omega),if_pos (by omega)])),HB⟩
     ·refine X1 ((m:Int)-1) (wI (by omega) (by omega) (by omega)) ?_;refine ⟨m,⟨by omega,?_⟩,by omega,⟨rfl,rfl,rfl,HB⟩,HB⟩;have e1:(dg 256 a).getD m 0=(dg 256 b).getD m 0:=by omega
      rw[Ev,Ev,ES (by omega:m<(dg 256 a).length),ES (by omega:m<(dg 256 b).length)]at e1;rw[E4 (by omega:m<(dg 256 a).length),E4 (by omega:m<(dg 256 b).length),h2];simp only[F2]at e1;rw[e1]
   ·have hn:n=0:=by omega
    subst hn;refine ⟨(),?_,HB,HB⟩;rw[FU,FU]at h2;rw[←bp (B:=256) (by omega) a,h2,bp (by omega)]
  ·exact ⟨HB,r1 (iE (by rw[iw,if_neg (by omega),if_neg (by omega)])),HB⟩
theorem Bo (la lb:List Nat) (ha:la.length≤400000) (hb:lb.length≤400000) (hA:Dig 256 la) (hB:Dig 256 lb):Ct P 60 [.c (nSl .i64 la),.c (nSl .i64 lb)] [.c (dV (val 256 la*val 256 lb))]:=by
 obtain ⟨b,hb0⟩:∃ b,b=val 256 lb:=⟨_,rfl⟩;have bB:b<256^lb.length:=hb0▸eg (by omega) hB;rw[←hb0];refine Ct.go aj aa (N:=57) Tryz.func60 rfl rfl rfl rfl ?_;refine .intro (by rw[ai]; omega) ?_;refine .intro (by rw[ai]; omega) ?_;rw[ai,ai];refine X1 ((la.length+lb.length:Nat):Int) (wI (by omega) (by omega) (by omega)) ?_;refine X1 ((la.length+lb.length+1:Nat):Int) (wI (by omega) (by omega) (by omega)) ?_;refine ⟨by omega,by omega,by omega,.inl (by decide),?_⟩;refine ax aj aa (λg:Nat × List Nat=>g.1≤la.length∧g.2.length=la.length+lb.length+1∧Dig 256 g.2∧val 256 g.2=val 256 (la.take g.1)*b)
  (λ(i,out)=>[(0,.c (nSl .i64 la)),(1,.c (nSl .i64 lb)),(5,.c (.ow 16 1 (la.length+lb.length+1))),(6,.c (nI .i64 i))]) (λ(i,out)=>[(16,.row 1 (aF .i64 out))]) (λ(i,out)=>la.length-i)
  (0,List.replicate (la.length+lb.length+1) 0) ⟨by simp,by simp,λx hx=>by rw[Fv hx]; omega,by simp[val,mD]⟩ ⟨rfl,rfl,owE (by omega),rfl,HB⟩ ⟨aB (fg rfl),HB⟩
  (λl:List Nat=>l.length≤1000000∧Dig 256 l∧val 256 l=val 256 la*b) (λl=>[(5,.c (.ow 16 1 (la.length+lb.length+1)))]) (λl=>[(16,.row 1 (aF .i64 l))]) (λg hg=>?_) (λl hl=>?_)
 ·obtain ⟨i,out⟩:=g;obtain ⟨h1,h2,h3,h4⟩:=hg;simp only at h1 h2 h3 h4;refine .intro (by rw[ai]; omega) ?_;rw[ai];refine ae (λh5=>?_) (λh5=>?_)
  ·replace h5:(i:Int)<la.length:=h5;have hx:=hA.getD (by omega) i;have hT:=aC 256 la i;generalize hxx:la.getD i 0=x at hx hT;have bT:val 256 (la.take (i+1))<256^(i+1):=by
    have:=eg (by omega:0<256) (hA.take (n:=i+1));rwa [EJ,F1 (by omega)]at this
   refine b8 aj aa (λg:Nat × List Nat × Nat=>g.1≤lb.length+1∧g.2.1.length=la.length+lb.length+1∧Dig 256 g.2.1∧g.2.2<256∧val 256 g.2.1+256^(i+g.1)*g.2.2=val 256 (la.take i)*b+256^i*(x*val 256 (lb.take g.1)))
    (λ(k,o2,c)=>[(0,.c (nSl .i64 la)),(1,.c (nSl .i64 lb)),(5,.c (.ow 16 1 (la.length+lb.length+1))),(6,.c (nI .i64 i)),(7,.c (nI .i64 c)),(8,.c (nI .i64 k))]) (λ(k,o2,c)=>[(16,.row 1 (aF .i64 o2))]) (λ(k,o2,c)=>lb.length+1-k)
    (0,out,0) ⟨by simp,h2,h3,by simp,by simp[val,h4]⟩ ⟨rfl,rfl,rfl,rfl,rfl,rfl,HB⟩ ⟨rfl,HB⟩ (λg hg=>?_)
   obtain ⟨k,o2,c⟩:=g;obtain ⟨g1,g2,g3,g4,g5⟩:=hg;simp only at g1 g2 g3 g4 g5;refine .intro (by rw[ai]; omega) ?_;rw[ai];refine ae (λh6=>?_) (λh6=>?_)
   ·replace h6:(k:Int)≤lb.length:=h6;have hy:=hB.getD (by omega) k;have hz:=g3.getD (by omega) (i+k);have hTB:=aC 256 lb k;have hset:=λv:Nat=>fT (B:=256) (l:=o2) (i:=i+k) (x:=v) (by omega)
    generalize hzz:o2.getD (i+k) 0=z at hz hset;refine X1 ((i+k:Nat):Int) (wI (by simp) (by omega) (by omega)) ?_;refine .intro (by omega) (.intro (by simp<;>omega) ?_);refine X1 _ (al rfl (by omega)) ?_;refine .intro (by omega) (X1 _ (al rfl (by omega)) ?_);refine X1 _ (n6 lb k (by omega)) ?_;rw[hzz,hxx];generalize hyy:lb.getD k 0=y at hy hTB;have hxy:x*y≤255*255:=FE (by omega) (by omega);refine X1 ((x*y:Nat):Int) (wI (by simp) (by omega) (by omega)) ?_;refine X1 ((z+x*y:Nat):Int) (wI (by simp) (by omega) (by omega)) ?_;refine X1 ((z+x*y+c:Nat):Int) (wI (by simp) (by omega) (by omega)) ?_;refine .intro rfl ?_;obtain ⟨v,hv⟩:∃ v,v=z+x*y+c:=⟨_,rfl⟩;rw[←hv];refine X1 ((i+k:Nat):Int) (wI (by simp) (by omega) (by omega)) ?_;refine .intro (by omega) (X1 ((v%256:Nat):Int) (mh rfl) (.intro ⟨by omega,by omega⟩ ?_));refine .intro (by omega) (.intro (by simp<;>omega) ?_);refine X1 _ (al rfl (by omega)) ?_;refine .intro (by omega) (X1 ((v/256:Nat):Int) (ko rfl) (.intro ⟨by omega,by omega⟩ ?_));refine X1 ((k+1:Nat):Int) (wI (by simp) (by omega) (by omega)) ?_;refine ⟨(k+1,o2.set (i+k) (v%256),v/256),⟨by show k+1≤_; omega,by simp[g2],g3.set (by omega),by show v/256<256; omega,?_⟩,by show lb.length+1-(k+1)<lb.length+1-k; omega,⟨rfl,rfl,rfl,rfl,rfl,rfl,HB⟩,⟨aB nRow_set,HB⟩⟩;show val 256 (o2.set (i+k) (v%256))+256^(i+(k+1))*(v/256)=val 256 (la.take i)*b+256^i*(x*val 256 (lb.take (k+1)))
    have hs:=hset (v%256);have e1:256^(i+(k+1))*(v/256)+256^(i+k)*(v%256)=256^(i+k)*v:=by
     rw[←Fx,Ff,EL,←EW];congr 1; omega
    have e2:256^(i+k)*v=256^(i+k)*z+256^(i+k)*(x*y)+256^(i+k)*c:=by rw[hv,EW,EW]
    have e3:256^i*(x*val 256 (lb.take (k+1)))=256^i*(x*val 256 (lb.take k))+256^(i+k)*(x*y):=by
     rw[hTB,EW,EW,Fw,EL,Fu x]
    omega
   ·replace h6:¬ (k:Int)≤lb.length:=h6;have hk:k=lb.length+1:=by omega
    subst hk;rw[aU (l:=lb) (by omega),←hb0]at g5;have e4:val 256 (la.take (i+1))*b=val 256 (la.take i)*b+256^i*(x*b):=by rw[hT,EO,EL]
    have e5:val 256 (la.take (i+1))*b<256^(i+1)*256^lb.length:=Hk bT bB;rw[←Fw,show i+1+lb.length=i+(lb.length+1) by omega]at e5;have hc:c=0:=by
     rcases F7 c with h | h
     ·exact h
     ·have:=Fp (256^(i+(lb.length+1))) h;omega
    subst hc;refine X1 ((i+1:Nat):Int) (wI1 (by omega)) ?_;exact ⟨(i+1,o2),⟨by show i+1≤_; omega,g2,g3,by show val 256 o2=val 256 (la.take (i+1))*b; omega⟩,by show la.length-(i+1)<la.length-i; omega,⟨rfl,rfl,rfl,rfl,HB⟩,⟨rfl,HB⟩⟩
  ·replace h5:¬ (i:Int)<la.length:=h5;refine ⟨out,⟨by omega,h3,?_⟩,⟨rfl,HB⟩,⟨rfl,HB⟩⟩;rw[h4,aU (by omega)]
 ·obtain ⟨h1,h2,h3⟩:=hl;refine X2 .frz ?_;refine X1 _ (kM l h1) ?_;rw[cE (by omega) h2,h3];exact ⟨HB,r1 rfl,HB⟩
theorem eZ (a b:Nat) (ha:(dg 256 a).length≤400000) (hb:(dg 256 b).length≤400000):Ct P 60 [.c (dV a),.c (dV b)] [.c (dV (a*b))]:=by
 have:=Bo (dg 256 a) (dg 256 b) ha hb (bw (by omega) a) (bw (by omega) b);rwa [bp (by omega),bp (by omega)]at this
theorem zi {l:List Nat} {i:Nat} (h:l.getD i 0=0):l.set i 0=l:=by
 apply GX;intro j;rw[FJ];by_cases hij:i=j
 ·subst hij;by_cases hl:i<l.length
  ·rw[Ev,ES hl]at h;simp only[F2]at h;simp[hl,h]
  ·simp[hl]
 ·simp[hij]
theorem t7 (a b:Nat) (hb0:b≠0) (ha:(dg 256 a).length≤400000) (hb:(dg 256 b).length≤400000):Ct P 105 [.c (dV a),.c (dV b)] [.c (dV (a/b)),.c (dV (a%b))]:=by
 have hA:=bw (B:=256) (by omega) a;have vA:=bp (B:=256) (by omega) a;refine Ct.go aj aa (N:=45) Tryz.func105 rfl rfl rfl rfl ?_;refine .intro (by rw[ai]; omega) ?_;rw[ai];refine ⟨by omega,by omega,by omega,.inl (by decide),?_⟩;refine .intro (by rw[ai]; omega) ?_;rw[ai];refine X1 (((dg 256 a).length:Int)-1) (wi (by omega) (by omega)) ?_;refine Aw (t:=7) (sz:=1) rfl ?_;refine ax aj aa (G:=Nat × List Nat × Nat) (λ(n,q,r)=>n≤(dg 256 a).length∧q.length=(dg 256 a).length∧Dig 256 q∧(∀ j,j<n→q.getD j 0=0)∧r<b∧val 256 ((dg 256 a).drop n)=b*val 256 (q.drop n)+r)
  (λ(n,q,r)=>[(0,.c (dV a)),(1,.c (dV b)),(6,.c (.ow 11 1 (dg 256 a).length)),(7,.c (dV r)),(8,.c (eI .i64 ((n:Int)-1)))]) (λ((n,q,r):Nat × List Nat × Nat)=>[(11,.row 1 (aF .i64 q))]) (λ(n,q,r)=>n)
  ((dg 256 a).length,List.replicate (dg 256 a).length 0,0) ⟨Ew _,by simp,λx hx=>by rw[Fv hx]; omega,λj hj=>by simp[Ev,FX,hj],by omega,by simp[val]⟩
  ⟨rfl,rfl,owE (by omega),qh (l:=dg 256 0) (by rw[bE]; rfl),rfl,HB⟩ ⟨aB (fg rfl),HB⟩
  (λl:List Nat=>l.length≤1000000∧Dig 256 l∧val 256 l=a/b) (λl=>[(6,.c (.ow 11 1 (dg 256 a).length)),(7,.c (dV (a%b)))]) (λl=>[(11,.row 1 (aF .i64 l))]) (λg hg=>?_) (λl hl=>?_)
 ·obtain ⟨n,q,r⟩:=g;obtain ⟨h1,h2,h3,h4,h5,h6⟩:=hg;have hlr:(dg 256 r).length≤400000:=EA (bj (by omega) (by omega)) hb;refine ae (λh7=>?_) (λh7=>?_)
  ·obtain ⟨m,rfl⟩:∃ m,n=m+1:=⟨n-1,by omega⟩;have hx:=hA.getD (by omega) m;have hdrop:val 256 ((dg 256 a).drop m)=(dg 256 a).getD m 0+256*val 256 ((dg 256 a).drop (m+1)):=by
    rw[E4 (by omega),val];simp[Ev,(by omega:m<(dg 256 a).length)]
   have hq0:=h4 m (by omega);have hdq:∀ t,val 256 ((q.set m t).drop m)=t+256*val 256 (q.drop (m+1)):=λt=>by
    rw[E4 (by simp; omega),val];simp[List.drop_set]
   refine .intro (by omega) (X1 _ (al (n:=m) (by omega) (by omega)) ?_);generalize (dg 256 a).getD m 0=x at hx hdrop ⊢;refine mC (l:=[x]) rfl (by simp[ai]; omega) dh ?_;refine X2 .frz ?_;have htr:=kM ([x]++dg 256 r) (by simp; omega);rw[cE (by omega) (Dig.app (.cons hx .nil) (bw (by omega) r)),kr,bp (by omega)]at htr;have hL:val 256 [x]+256^[x].length*r=x+256*r:=by simp[val]
   rw[hL]at htr;refine X1 _ (show Ct P 106 [.c (.sl 1 (aF .i64 [x]++aF .i64 (dg 256 r)))] [.c (dV (x+256*r))] by rw[im]; exact htr) ?_;have hLb:x+256*r<256*b:=by omega
   refine b8 aj aa (λt:Nat=>t*b≤x+256*r)
    (λt=>[(0,.c (dV a)),(1,.c (dV b)),(6,.c (.ow 11 1 (dg 256 a).length)),(7,.c (dV (x+256*r-t*b))),(8,.c (nI .i64 m))]) (λt=>[(11,.row 1 (aF .i64 (q.set m t)))]) (λt=>256-t)
    0 (by simp) ⟨rfl,rfl,rfl,qh (by rw[Hm,Gk]),iE (by omega),HB⟩ ⟨aB (by rw[zi hq0]),HB⟩ (λt ht=>?_)
   have ht256:t<256:=by
    apply Gz;intro hge;have:=EE b hge;omega
   have hll:(dg 256 (x+256*r-t*b)).length≤400001:=by
    have h8:=bA (B:=256) (by omega) b;have:x+256*r-t*b<256^((dg 256 b).length+1):=by rw[Ff]; omega
    have:=cr (B:=256) (by omega) this;omega
   refine X1 _ (zh (x+256*r-t*b) b (by omega) (by omega)) ?_;refine ae (λh8=>?_) (λh8=>?_)
   ·have hge:b≤x+256*r-t*b:=by
     apply FD;intro hlt;rw[iw,if_pos hlt]at h8;omega
    refine X1 _ (zf (x+256*r-t*b) b hge (by omega)) ?_;refine .intro (by omega) (.intro (by omega) ?_);refine X1 _ (al rfl (by simp; omega)) ?_;have hgt:(q.set m t).getD m 0=t:=by simp[Ev,h2,(by omega:m<(dg 256 a).length)]
    rw[hgt];refine X1 ((t+1:Nat):Int) (wI (by simp) (by omega) (by omega)) ?_;refine .intro (by omega) (.intro (by omega) ?_);refine X1 _ (al rfl (by simp; omega)) ?_;have hmul:(t+1)*b=t*b+b:=by rw[EO,Fh]
    refine ⟨t+1,by show (t+1)*b≤_; omega,by show 256-(t+1)<256-t; omega,⟨rfl,rfl,rfl,qh (congrArg _ (congrArg _ (by omega))),rfl,HB⟩,⟨aB (nRow_set.trans (congrArg _ (Ho ..))),HB⟩⟩
   ·have hlt:x+256*r-t*b<b:=by
     apply Gz;intro hge;apply h8;rw[iw,if_neg (by omega)];split<;>omega
    refine X1 ((m:Int)-1) (wI rfl (by omega) (by omega)) ?_;refine ⟨(m,q.set m t,x+256*r-t*b),⟨by omega,by simp[h2],h3.set (by omega),λj hj=>?_,hlt,?_⟩,by show m<m+1; omega,⟨rfl,rfl,rfl,rfl,rfl,HB⟩,⟨rfl,HB⟩⟩
    ·have:=h4 j (by omega);rw[Ev]at this ⊢;rw[List.getElem?_set_ne (by omega)]; exact this
    ·rw[hdrop,hdq,h6];simp only[EW];have:t*b=b*t:=EQ _ _;have:b*(256*val 256 (q.drop (m+1)))=256*(b*val 256 (q.drop (m+1))):=Fu _ _ _;omega
  ·have hn:n=0:=by omega
   subst hn;rw[FU,FU,vA]at h6;have e1:val 256 q=a/b:=by
    rw[h6,Nat.mul_add_div (by omega),Ga h5]; rfl
   have e2:r=a%b:=by
    rw[h6,Hl,Fc h5]
   refine ⟨q,⟨by omega,h3,e1⟩,⟨rfl,qh (by rw[e2]),HB⟩,⟨rfl,HB⟩⟩
 ·obtain ⟨h1,h2,h3⟩:=hl;refine X2 .frz ?_;refine X1 _ (kM l h1) ?_;rw[cE (by omega) h2,h3];exact ⟨HB,r1 rfl,r1 rfl,HB⟩
theorem CY (a b:Nat) (ha:(dg 256 a).length≤400000) (hb:(dg 256 b).length≤400000):Ct P 122 [.c (dV a),.c (dV b)] [.c (dV (Nat.gcd a b))]:=by
 refine Ct.go aj aa (N:=19) Tryz.func122 rfl rfl rfl rfl ?_;refine ax aj aa (G:=Nat × Nat) (λ(x,y)=>Nat.gcd x y=Nat.gcd a b∧(dg 256 x).length≤400000∧(dg 256 y).length≤400000) (λ(x,y)=>[(0,.c (dV x)),(1,.c (dV y))]) (λ_=>[]) (λ(x,y)=>y)
  (a,b) ⟨rfl,ha,hb⟩ ⟨rfl,rfl,HB⟩ HB (λ_:Unit=>True) (λ_=>[(0,.c (dV (Nat.gcd a b)))]) (λ_=>[]) (λg hg=>?_) (λ_ _=>?_)
 ·obtain ⟨x,y⟩:=g;obtain ⟨h1,h2,h3⟩:=hg;refine .intro (by rw[ai]; omega) ?_;rw[ai];refine ae (λh4=>?_) (λh4=>?_)
  ·have hy:y≠0:=by
    rintro rfl
    rw[bE]at h4;simp at h4
   refine X1 _ (t7 x y hy h2 h3) ?_;have hlt:x%y<y:=Fz _ (by omega);exact ⟨(y,x%y),⟨by rw[←h1,Hw x y,Nat.gcd_rec y x,Hw],h3,EA (bj (by omega) (by omega)) h3⟩,hlt,⟨rfl,rfl,HB⟩,HB⟩
  ·have hy:y=0:=(iq (B:=256) (by omega)).1 (EZ.1 (by omega));subst hy;rw[Nat.gcd_zero_right]at h1;exact ⟨(),HB,⟨qh (by rw[h1]),HB⟩,HB⟩
 ·exact ⟨HB,r1 rfl,HB⟩
abbrev rV (n d:Nat):A1:=.ag [dV n,dV d]
theorem DU:dg 256 1=[1]:=by rw[gJ (by omega) (by omega)]; simp[bE]
theorem qx (n d:Nat) (hd:d≠0) (hn:(dg 256 n).length≤400000) (hl:(dg 256 d).length≤400000):Ct P 76 [.c (dV n),.c (dV d)] [rV (n/Nat.gcd n d) (d/Nat.gcd n d)]:=by
 refine Ct.go aj aa (N:=33) Tryz.func76 rfl rfl rfl rfl ?_;refine X1 _ (CY n d hn hl) ?_;refine .intro (by rw[ai]; omega) ?_;rw[ai];have hg:Nat.gcd n d≠0:=λh=>hd (Nat.gcd_eq_zero_iff.1 h).2
 have hgl:(dg 256 (Nat.gcd n d)).length≤400000:=EA (bj (by omega) (Nat.gcd_le_right n (by omega))) hl;refine aT (λh=>?_) (λh=>?_)
 ·have h0:n=0:=(iq (B:=256) (by omega)).1 (EZ.1 (by omega));subst h0;rw[GM,Hs,Hf (by omega)];have e:dV 1=nSl .i64 [1]:=by rw[dV,DU]
  have e0:dV 0=nSl .i64 []:=by rw[dV,bE]
  rw[rV,e,e0];exact ⟨HB,⟨_,rfl,.inr ⟨rfl,1,rfl⟩,.inl rfl,HB⟩,HB⟩
 ·refine X1 _ (t7 n _ hg hn hgl) ?_;refine X1 _ (t7 d _ hg hl hgl) ?_;exact ⟨HB,rc rfl,HB⟩
theorem aH (v:Nat) (hv:v<9223372036854775808):Ct P 32 [.c (nI .i64 v)] [rV v 1]:=by
 refine Ct.go aj aa (N:=8) Tryz.func32 rfl rfl rfl rfl ?_;refine X1 (v:Int) (wU rfl (by omega) (by omega)) ?_;refine X1 _ (zg v (by omega)) ?_;have e:dV 1=nSl .i64 [1]:=by rw[dV,DU]
 rw[rV,e];exact ⟨HB,rc rfl,HB⟩
theorem eo {a b:Nat} {k m:Nat} (ha:(dg 256 a).length≤k) (hb:(dg 256 b).length≤m):(dg 256 (a*b)).length≤k+m:=by
 apply cr (by omega);have h1:=bA (B:=256) (by omega) a;have h2:=bA (B:=256) (by omega) b;have h3:a*b<256^(dg 256 a).length*256^(dg 256 b).length:=Hk h1 h2;rw[←Fw]at h3;exact EG h3 (EK (by omega) (by omega))
abbrev rR (n d:Nat):A1:=rV (n/Nat.gcd n d) (d/Nat.gcd n d)
structure Lim (n d:Nat):Prop where
 pos:d≠0
 n:(dg 256 n).length≤100000
 d:(dg 256 d).length≤100000
theorem Bp (a b c d:Nat) (h1:Lim a b) (h2:Lim c d):Ct P 56 [rV a b,rV c d] [rR (a*c) (b*d)]:=by
 refine Ct.go aj aa (N:=16) Tryz.func56 rfl rfl rfl rfl ?_;refine X1 _ (eZ a c (by have:=h1.n; omega) (by have:=h2.n; omega)) ?_;refine X1 _ (eZ b d (by have:=h1.d; omega) (by have:=h2.d; omega)) ?_;refine X1 _ (qx (a*c) (b*d) (EU h1.pos h2.pos) (EA (eo h1.n h2.n) (by omega)) (EA (eo h1.d h2.d) (by omega))) ?_;refine .intro rfl ?_;exact ⟨HB,rc rfl,HB⟩
theorem Bq (a b c d:Nat) (h1:Lim a b) (h2:Lim c d) (hc:c≠0):Ct P 31 [rV a b,rV c d] [rR (a*d) (b*c)]:=by
 refine Ct.go aj aa (N:=16) Tryz.func31 rfl rfl rfl rfl ?_;refine X1 _ (eZ a d (by have:=h1.n; omega) (by have:=h2.d; omega)) ?_;refine X1 _ (eZ b c (by have:=h1.d; omega) (by have:=h2.n; omega)) ?_;refine X1 _ (qx (a*d) (b*c) (EU h1.pos hc) (EA (eo h1.n h2.d) (by omega)) (EA (eo h1.d h2.n) (by omega))) ?_;refine .intro rfl ?_;exact ⟨HB,rc rfl,HB⟩
theorem qy (a b c d:Nat) (h1:Lim a b) (h2:Lim c d):Ct P 75 [rV a b,rV c d] [.c (eI .i64 (iw (a*d) (c*b)))]:=by
 refine Ct.go aj aa (N:=16) Tryz.func75 rfl rfl rfl rfl ?_;refine X1 _ (eZ a d (by have:=h1.n; omega) (by have:=h2.d; omega)) ?_;refine X1 _ (eZ c b (by have:=h2.n; omega) (by have:=h1.d; omega)) ?_;refine X1 _ (zh (a*d) (c*b) (EA (eo h1.n h2.d) (by omega)) (EA (eo h2.n h1.d) (by omega))) ?_;refine .intro rfl ?_;exact ⟨HB,r1 rfl,HB⟩
theorem zj (a b c d:Nat) (h1:Lim a b) (h2:Lim c d):Ct P 119 [rV a b,rV c d] [rR (a*d-c*b) (b*d)]:=by
 refine Ct.go aj aa (N:=27) Tryz.func119 rfl rfl rfl rfl ?_;refine X1 _ (qy a b c d h1 h2) ?_;refine ae (λh=>?_) (λh=>?_)
 ·have hlt:a*d<c*b:=by
   unfold iw at h;split at h
   ·assumption
   ·split at h<;>omega
  refine X1 _ (aH 0 (by omega)) ?_;have hbd:=EU h1.pos h2.pos;rw[rR,show a*d-c*b=0 by omega,GM,Hs,Hf (by omega)];exact ⟨HB,rc rfl,HB⟩
 ·have hge:c*b≤a*d:=by
   apply FD;intro hlt;rw[iw,if_pos hlt]at h;omega
  have l1:=eo h1.n h2.d;have l2:=eo h1.d h2.d;refine X1 _ (eZ a d (by have:=h1.n; omega) (by have:=h2.d; omega)) ?_;refine X1 _ (eZ c b (by have:=h2.n; omega) (by have:=h1.d; omega)) ?_;refine X1 _ (zf (a*d) (c*b) hge (by omega)) ?_;refine X1 _ (eZ b d (by have:=h1.d; omega) (by have:=h2.d; omega)) ?_;refine X1 _ (qx (a*d-c*b) (b*d) (EU h1.pos h2.pos) (EA (bj (by omega) (Nat.sub_le _ _)) (by omega)) (by omega)) ?_;refine .intro rfl ?_;exact ⟨HB,rc rfl,HB⟩
theorem wd (la lb:List Nat) (dA:Dig 256 la) (dB:Dig 256 lb) (ha:la.length≤900000) (hb:lb.length≤900000):Ct P 61 [.c (nSl .i64 la),.c (nSl .i64 lb)] [.c (dV (val 256 la+val 256 lb))]:=by
 obtain ⟨m,hm⟩:∃ m,m=max la.length lb.length:=⟨_,rfl⟩;have hma:la.length≤m:=by rw[hm]; exact Nat.le_max_left _ _
 have hmb:lb.length≤m:=by rw[hm]; exact Nat.le_max_right _ _
 have hml:m≤900000:=by rw[hm]; exact Nat.max_le.2 ⟨ha,hb⟩
 have hmx:(if (lb.length:Int)>(la.length:Int) then (lb.length:Int) else (la.length:Int))=(m:Int):=by
  rw[hm]; split<;>omega
 have hab:val 256 la+val 256 lb<256^(m+1):=by
  have h1:=eg (B:=256) (by omega) dA;have h2:=eg (B:=256) (by omega) dB;have h3:=EK (show 0<256 by omega) hma;have h4:=EK (show 0<256 by omega) hmb;rw[Ff]; omega
 refine Ct.go aj aa (N:=36) Tryz.func61 rfl rfl rfl rfl ?_;refine jo (r:=50) (t:=5) (sz:=1) rfl rfl ?_;refine ax aj aa (G:=List Nat × Nat) (λ(l,c)=>l.length≤m+1∧Dig 256 l∧c≤1∧val 256 l+256^l.length*c=val 256 (la.take l.length)+val 256 (lb.take l.length))
  (λ(l,c)=>[(0,.c (nSl .i64 la)),(1,.c (nSl .i64 lb)),(5,.c (.ow 50 1 l.length)),(6,.c (nI .i64 c)),(7,.c (nI .i64 l.length))]) (λ((l,_):List Nat × Nat)=>[(50,.row 1 (aF .i64 l))]) (λ(l,_)=>m+1-l.length)
  ([],0) ⟨by simp,.nil,by simp,by simp[val]⟩ ⟨rfl,rfl,rfl,rfl,rfl,HB⟩ ⟨rfl,HB⟩
  (λl:List Nat=>Dig 256 l∧val 256 l=val 256 la+val 256 lb∧l.length≤1000000) (λl=>[(5,.c (.ow 50 1 l.length))]) (λl=>[(50,.row 1 (aF .i64 l))]) (λ(l,c) hg=>?_) (λl hl=>?_)
 ·obtain ⟨h1,h2,h3,h4⟩:=hg;refine .intro (by rw[ai]; omega) ?_;refine .intro (by rw[ai]; omega) ?_;rw[ai,ai];refine ae (λh5=>?_) (λh5=>?_)
  ·rw[hmx]at h5;refine X1 _ (n6 la l.length (by omega)) ?_;refine X1 _ (n6 lb l.length (by omega)) ?_;have hx:=dA.getD (by omega) l.length;have hy:=dB.getD (by omega) l.length;have hA:=aC 256 la l.length;have hB:=aC 256 lb l.length;generalize la.getD l.length 0=x at hx hA ⊢;generalize lb.getD l.length 0=y at hy hB ⊢;refine X1 ((x+y:Nat):Int) (wI (by omega) (by omega) (by omega)) ?_;refine X1 ((x+y+c:Nat):Int) (wI (by omega) (by omega) (by omega)) ?_;obtain ⟨v,hv⟩:∃ v,v=x+y+c:=⟨_,rfl⟩;rw[←hv];refine .intro (by omega) (X1 ((v%256:Nat):Int) (by rw[Gl (by omega)]; omega) (.intro ⟨by omega,by omega⟩ ?_));refine mC rfl (by simp; omega) iR ?_;refine .intro (by omega) (X1 ((v/256:Nat):Int) (by rw[FB (by omega)]; omega) (.intro ⟨by omega,by omega⟩ ?_));refine X1 ((l.length+1:Nat):Int) (wI (by simp) (by omega) (by omega)) ?_;refine ⟨(l++[v%256],v/256),⟨by simp<;>omega,h2.snoc (by omega),by omega,?_⟩,by simp<;>omega,⟨rfl,rfl,owE (by simp[ai]),rfl,iE (by simp),HB⟩,⟨aB (im (m:=[v%256])),HB⟩⟩;simp only[Ey,E7,Gv,hA,hB,nK];have key:v%256+256*(v/256)=x+y+c:=by omega
   have k2:256^l.length*(v%256+256*(v/256))=256^l.length*(x+y+c):=by rw[key]
   rw[Fn,Ff,EL];simp only[EW]at k2;omega
  ·rw[hmx]at h5;have e:l.length=m+1:=by omega
   refine ⟨l,⟨h2,?_,by omega⟩,⟨rfl,HB⟩,⟨rfl,HB⟩⟩;rw[e,aU (by omega),aU (by omega)]at h4;have h7:c=0:=by
    rcases F7 c with h | h
    ·exact h
    ·have:c=1:=by omega
     subst this;omega
   subst h7;omega
 ·obtain ⟨h1,h2,h3⟩:=hl;refine X2 .frz ?_;refine X1 _ (kM l h3) ?_;rw[cE (by omega) h1,h2];exact ⟨HB,r1 rfl,HB⟩
theorem zk (a b:Nat) (ha:(dg 256 a).length≤900000) (hb:(dg 256 b).length≤900000):Ct P 61 [.c (dV a),.c (dV b)] [.c (dV (a+b))]:=by
 have h:=wd (dg 256 a) (dg 256 b) (bw (by omega) a) (bw (by omega) b) ha hb;rwa [bp (by omega),bp (by omega)]at h
theorem Br {a b k:Nat} (ha:(dg 256 a).length≤k) (hb:(dg 256 b).length≤k):(dg 256 (a+b)).length≤k+1:=by
 apply cr (by omega);have h1:=bA (B:=256) (by omega) a;have h2:=bA (B:=256) (by omega) b;have h3:=EK (show 0<256 by omega) ha;have h4:=EK (show 0<256 by omega) hb;rw[Ff]; omega
theorem Bs (a b c d:Nat) (h1:Lim a b) (h2:Lim c d):Ct P 55 [rV a b,rV c d] [rR (a*d+c*b) (b*d)]:=by
 obtain ⟨p1,n1,l1⟩:=h1;obtain ⟨p2,n2,l2⟩:=h2;have m1:=eo n1 l2;have m2:=eo n2 l1;have m3:=eo l1 l2;have m4:=Br m1 m2;refine Ct.go aj aa (N:=22) Tryz.func55 rfl rfl rfl rfl ?_;refine X1 _ (eZ a d (by omega) (by omega)) ?_;refine X1 _ (eZ c b (by omega) (by omega)) ?_;refine X1 _ (zk _ _ (by omega) (by omega)) ?_;refine X1 _ (eZ b d (by omega) (by omega)) ?_;refine X1 _ (qx _ _ (EU p1 p2) (by omega) (by omega)) ?_;refine .intro rfl ?_;exact ⟨HB,rc rfl,HB⟩
def fR (n d:Nat):Nat × Nat:=(n/Nat.gcd n d,d/Nat.gcd n d)
def cI (p q:Nat × Nat):Nat × Nat:=fR (p.1*q.1) (p.2*q.2)
def c9 (p q:Nat × Nat):Nat × Nat:=fR (p.1*q.2) (p.2*q.1)
def bH (p q:Nat × Nat):Nat × Nat:=fR (p.1*q.2+q.1*p.2) (p.2*q.2)
def cD (p q:Nat × Nat):Nat × Nat:=fR (p.1*q.2-q.1*p.2) (p.2*q.2)
structure Bd (k:Nat) (p:Nat × Nat):Prop where
 pos:p.2≠0
 n:p.1<2^k
 d:p.2<2^k
theorem ix {n d:Nat} (h:d≠0):(fR n d).2≠0:=by
 have hg:0<Nat.gcd n d:=Nat.gcd_pos_of_pos_right n (E5 h);have:=Nat.div_pos (Nat.gcd_le_right n (E5 h)) hg;show d/Nat.gcd n d≠0
 omega
theorem pq {n d k:Nat} (h:d≠0) (hn:n<2^k) (hd:d<2^k):Bd k (fR n d):=
 ⟨ix h,Gq (FV _ _) hn,Gq (FV _ _) hd⟩
theorem gd {a b k m:Nat} (ha:a<2^k) (hb:b<2^m):a*b<2^(k+m):=by
 rw[Fw]; exact Hk ha hb
theorem Bd.le {k m:Nat} {p:Nat × Nat} (h:Bd k p) (hk:k≤m):Bd m p:=
 ⟨h.pos,EG h.n (EK (by omega) hk),EG h.d (EK (by omega) hk)⟩
theorem bf {k m:Nat} {p q:Nat × Nat} (h1:Bd k p) (h2:Bd m q):Bd (k+m) (cI p q):=pq (EU h1.pos h2.pos) (gd h1.n h2.n) (gd h1.d h2.d)
theorem ck {k m:Nat} {p q:Nat × Nat} (h1:Bd k p) (h2:Bd m q) (hq:q.1≠0):Bd (k+m) (c9 p q):=pq (EU h1.pos hq) (gd h1.n h2.d) (gd h1.d h2.n)
theorem ep {k m:Nat} {p q:Nat × Nat} (h1:Bd k p) (h2:Bd m q):Bd (k+m+1) (bH p q):=by
 have a1:=gd h1.n h2.d;have a2:=gd h2.n h1.d;have a3:=gd h1.d h2.d;rw[GS m k]at a2;refine pq (EU h1.pos h2.pos) ?_ ?_<;>rw[Ff]<;>omega
theorem mP {k m:Nat} {p q:Nat × Nat} (h1:Bd k p) (h2:Bd m q):Bd (k+m) (cD p q):=by
 have a1:=gd h1.n h2.d;exact pq (EU h1.pos h2.pos) (by omega) (gd h1.d h2.d)
theorem ay {v k:Nat} (h:v<2^k) (hk:1≤k):Bd k (v,1):=
 ⟨by simp,h,by show 1<2^k; have:=EK (show 0<2 by omega) hk; omega⟩
theorem t8 {k n:Nat} (h:k≤8*n):2^k≤256^n:=by
 rw[show (256:Nat)=2^8 from rfl,←Nat.pow_mul];exact EK (by omega) h
theorem Bd.lim {k:Nat} {p:Nat × Nat} (h:Bd k p) (hk:k≤800000):Lim p.1 p.2:=by
 obtain ⟨N,hN⟩:∃ N,N=100000:=⟨_,rfl⟩;have e:2^k≤256^N:=t8 (by omega);have a1:=cr (by omega) (EG h.n e);have a2:=cr (by omega) (EG h.d e);rw[hN]at a1 a2;exact ⟨h.pos,a1,a2⟩
abbrev rP (p:Nat × Nat):A1:=rV p.1 p.2
theorem eJ {k m:Nat} {p q:Nat × Nat} (h1:Bd k p) (h2:Bd m q) (hk:k≤400000) (hm:m≤400000):Ct P 56 [rP p,rP q] [rP (cI p q)]:=Bp _ _ _ _ (h1.lim (by omega)) (h2.lim (by omega))
theorem eK {k m:Nat} {p q:Nat × Nat} (h1:Bd k p) (h2:Bd m q) (hq:q.1≠0) (hk:k≤400000) (hm:m≤400000):Ct P 31 [rP p,rP q] [rP (c9 p q)]:=Bq _ _ _ _ (h1.lim (by omega)) (h2.lim (by omega)) hq
theorem mQ {k m:Nat} {p q:Nat × Nat} (h1:Bd k p) (h2:Bd m q) (hk:k≤400000) (hm:m≤400000):Ct P 55 [rP p,rP q] [rP (bH p q)]:=Bs _ _ _ _ (h1.lim (by omega)) (h2.lim (by omega))
theorem mR {k m:Nat} {p q:Nat × Nat} (h1:Bd k p) (h2:Bd m q) (hk:k≤400000) (hm:m≤400000):Ct P 119 [rP p,rP q] [rP (cD p q)]:=zj _ _ _ _ (h1.lim (by omega)) (h2.lim (by omega))
end
end Go.Proofs.YtgceikecdedfcaaGreat.Pv
