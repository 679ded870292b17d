/- Parts of a proof, joined: Cl Cm Ed Cs Ee Ef Ca Cb Cr Ea Eb. -/
import Derived.Test.YtgceikecdedfcaaGreatLeM
namespace Go.Proofs.YtgceikecdedfcaaGreat.Pv
open Go
section
section
variable {t d:List Nat} {x lo:Nat}
theorem qB:∀ i,(sm t d x lo i).s.take lo=t.take lo
 | 0=>rfl
 | i+1=>by simp only[sm]; rw[List.take_set_of_le (by omega)]; exact qB i
theorem qC:∀ i,(sm t d x lo i).s.drop (lo+i)=t.drop (lo+i)
 | 0=>rfl
 | i+1=>by
  simp only[sm];have h:=congrArg (List.drop 1) (qC i);rw[Gr,Gr]at h;rw[List.drop_set_of_lt (by omega)];exact h
theorem qD:∀ i,(am t d x lo i).1.take lo=t.take lo
 | 0=>rfl
 | i+1=>by simp only[am]; rw[List.take_set_of_le (by omega)]; exact qD i
theorem qE:∀ i,(am t d x lo i).1.drop (lo+i)=t.drop (lo+i)
 | 0=>rfl
 | i+1=>by
  simp only[am];have h:=congrArg (List.drop 1) (qE i);rw[Gr,Gr]at h;rw[List.drop_set_of_lt (by omega)];exact h
theorem ol {s:List Nat} {n:Nat} (hs:Dig 18446744073709551616 s) (hz:val 18446744073709551616 (s.drop (lo+n))=0):val 18446744073709551616 (s.drop lo)<18446744073709551616^n:=by
 have h:=fA 18446744073709551616 (s.drop lo) n;rw[Gr,hz,Gb,F7]at h;rw[h];refine EW (ek (by omega) hs.drop.take) (EX (by omega) ?_);rw[E3]; omega
theorem f7 {s:List Nat} (h:lo≤s.length):val 18446744073709551616 s=val 18446744073709551616 (s.take lo)+18446744073709551616^lo*val 18446744073709551616 (s.drop lo):=by
 have:=fA 18446744073709551616 s lo;rwa [Gj h]at this
theorem Bt (ht:Dig 18446744073709551616 t) (hd:Dig 18446744073709551616 d) (hx:x<18446744073709551616) (hlen:lo+(d.length+1)≤t.length) (hz:val 18446744073709551616 (t.drop (lo+(d.length+1)))=0) :
  (sm t d x lo (d.length+1)).s.length=t.length∧Dig 18446744073709551616 (sm t d x lo (d.length+1)).s∧(sm t d x lo (d.length+1)).b≤1 ∧
  val 18446744073709551616 ((sm t d x lo (d.length+1)).s.drop lo)+x*val 18446744073709551616 d=val 18446744073709551616 (t.drop lo)+18446744073709551616^(d.length+1)*(sm t d x lo (d.length+1)).b∧val 18446744073709551616 ((sm t d x lo (d.length+1)).s.drop lo)<18446744073709551616^(d.length+1):=by
 obtain ⟨h1,h2,h3,h4,h5⟩:=kM (lo:=lo) ht hd hx (d.length+1) hlen;have hc:(sm t d x lo (d.length+1)).c=0:=by
  obtain ⟨_,_,k3,_,_⟩:=kM (lo:=lo) ht hd hx d.length (by omega);have hy:d.getD d.length 0=0:=by rw[EK,E7 (by omega)]; rfl
  simp only[sm,hy,Gb,FC];exact Ge k3
 have e1:=qB (t:=t) (d:=d) (x:=x) (lo:=lo) (d.length+1);have e2:=qC (t:=t) (d:=d) (x:=x) (lo:=lo) (d.length+1);rw[hc,FC,Fs (by omega)]at h5;generalize (sm t d x lo (d.length+1)).s=s at *
 generalize (sm t d x lo (d.length+1)).b=b at *
 refine ⟨h1,h2,h4,?_,ol h2 (by rw[e2]; exact hz)⟩;rw[f7 (lo:=lo) (s:=s) (by omega),f7 (lo:=lo) (s:=t) (by omega),e1,FH,E4,FN,FN,←Fe,←Fe]at h5;exact Nat.eq_of_mul_eq_mul_left (HL (by omega)) (Nat.add_left_cancel h5)
theorem Bu (ht:Dig 18446744073709551616 t) (hd:Dig 18446744073709551616 d) (hlen:lo+(d.length+1)≤t.length) (hz:val 18446744073709551616 (t.drop (lo+(d.length+1)))=0) :
  (am t d 1 lo (d.length+1)).1.length=t.length∧Dig 18446744073709551616 (am t d 1 lo (d.length+1)).1∧(am t d 1 lo (d.length+1)).2≤1 ∧
  val 18446744073709551616 ((am t d 1 lo (d.length+1)).1.drop lo)+18446744073709551616^(d.length+1)*(am t d 1 lo (d.length+1)).2=val 18446744073709551616 (t.drop lo)+val 18446744073709551616 d∧val 18446744073709551616 ((am t d 1 lo (d.length+1)).1.drop lo)<18446744073709551616^(d.length+1):=by
 obtain ⟨h1,h2,h3,h5⟩:=gm (lo:=lo) (x:=1) ht hd (by omega) (d.length+1) hlen;have h4:=qy (lo:=lo) ht hd (d.length+1) hlen;have e1:=qD (t:=t) (d:=d) (x:=1) (lo:=lo) (d.length+1);have e2:=qE (t:=t) (d:=d) (x:=1) (lo:=lo) (d.length+1);rw[Fs (by omega),Fx]at h5;generalize (am t d 1 lo (d.length+1)).1=s at *
 generalize (am t d 1 lo (d.length+1)).2=b at *
 refine ⟨h1,h2,h4,?_,ol h2 (by rw[e2]; exact hz)⟩;rw[f7 (lo:=lo) (s:=s) (by omega),f7 (lo:=lo) (s:=t) (by omega),e1,FH,E4,FN,FN,←Fe,←Fe]at h5;exact Nat.eq_of_mul_eq_mul_left (HL (by omega)) (Nat.add_left_cancel h5)
end
theorem zq {n:Nat} (hn:n≠0) {k:Nat} (hk:(dg 18446744073709551616 n).length=k+1):(dg 18446744073709551616 n).getD k 0≠0:=by
 have h3:=mO (B:=18446744073709551616) (by omega) hn;intro h0;have h4:=aD 18446744073709551616 (dg 18446744073709551616 n) k;rw[h0,Gb,Fs (by omega),bf (by omega),F7]at h4;have h5:=ek (by omega:0<18446744073709551616) ((bq (B:=18446744073709551616) (by omega) n).take (n:=k));rw[E3,Gj (by omega),←h4]at h5;rw[hk,Gc]at h3;exact absurd h3 (Nat.not_le_of_lt h5)
theorem D5 {u d:List Nat} {n:Nat} (hu:Dig 18446744073709551616 u) (hd:Dig 18446744073709551616 d) (hul:u.length=n+3) (hdl:d.length=n+2) (ht:d.getD (n+1) 0≠0) (hQ:val 18446744073709551616 u/val 18446744073709551616 d<18446744073709551616) :
  val 18446744073709551616 u/val 18446744073709551616 d≤gs (u.getD (n+2) 0) (u.getD (n+1) 0) (u.getD n 0) (d.getD (n+1) 0) (d.getD n 0)∧gs (u.getD (n+2) 0) (u.getD (n+1) 0) (u.getD n 0) (d.getD (n+1) 0) (d.getD n 0)<18446744073709551616:=by
 have k2:=hu.getD (by omega) (n+2);have k1:=hu.getD (by omega) (n+1);have k0:=hu.getD (by omega) n;have v1:=f7 (lo:=n) (s:=u) (by omega);have v2:=f7 (lo:=n) (s:=d) (by omega);have w1:=ek (by omega:0<18446744073709551616) (hu.take (n:=n));rw[E3,Gj (by omega)]at w1;rw[dJ 18446744073709551616 (l:=u) (by omega),dJ 18446744073709551616 (l:=u) (by omega),dJ 18446744073709551616 (l:=u) (by omega),F6 (show u.length≤n+1+1+1 by omega)]at v1;rw[show n+1+1=n+2 by omega]at v1;rw[dJ 18446744073709551616 (l:=d) (by omega),dJ 18446744073709551616 (l:=d) (by omega),F6 (show d.length≤n+1+1 by omega)]at v2;simp only[val,Gb,F7]at v1 v2;unfold gs;generalize u.getD (n+2) 0=u2 at *
 generalize u.getD (n+1) 0=u1 at *
 generalize u.getD n 0=u0 at *
 generalize d.getD (n+1) 0=t at *
 generalize d.getD n 0=y at *
 generalize val 18446744073709551616 (u.take n)=lu at *
 generalize val 18446744073709551616 (d.take n)=ld at *
 generalize val 18446744073709551616 u=a at *
 generalize val 18446744073709551616 d=b at *
 split
 ·exact ⟨by omega,by omega⟩
 ·rename_i hlt;have hp:0<t*18446744073709551616+y:=by omega
  refine ⟨(Hk hp).2 ?_,FT (by omega)⟩;have h1:=Nat.div_mul_le_self a b;have hb:18446744073709551616^n*(t*18446744073709551616+y)≤b:=by rw[v2,show t*18446744073709551616+y=y+18446744073709551616*t by omega]; exact Nat.le_add_left _ _
  have h2:=FF (a/b) hb;have h3:a<18446744073709551616^n*((u2*18446744073709551616+u1)*18446744073709551616+u0+1):=by
   rw[v1,show (u2*18446744073709551616+u1)*18446744073709551616+u0+1=1+(u0+18446744073709551616*(u1+18446744073709551616*u2)) by omega,Fe _ 1,F5];exact Nat.add_lt_add_right w1 _
  have h4:=Gx (EQ h2 h1) h3;rw[FL]at h4;exact Nat.le_of_lt_succ (Nat.lt_of_mul_lt_mul_left h4)
theorem blB {a b:Bool} (h:a=b):(some (.c (.sc (.bool a))):Option AV)=some (.c (.sc (.bool b))):=by rw[h]
set_option maxHeartbeats 1000000 in
theorem mY (a b:Nat) (hb:b≠0) (ha:(dg 18446744073709551616 a).length≤100000) (hbl:(dg 18446744073709551616 b).length≤100000):Ct P 111 [nV a,nV b] [nV (a/b),nV (a%b),.c (eI .i64 0)]:=by
 refine Ct.go aj aa (N:=128) Tryz.func111 rfl rfl rfl rfl ?_;refine X1 _ (fC b (by omega)) ?_;refine tM (by simpa using hb) ?_;refine X1 _ (kv a b (by omega) (by omega)) ?_;refine ah (λh1=>?_) (λh1=>?_)
 ·have h:a<b:=by unfold bI at h1; split at h1<;>(try split at h1)<;>omega
  rw[Ge h,Fg h];refine .intro rfl ?_;exact ⟨HT,⟨_,rfl,zn⟩,rc rfl,r1 rfl,HT⟩
 ·have h:b≤a:=by unfold bI at h1; split at h1<;>(try split at h1)<;>omega
  have hl0:(dg 18446744073709551616 b).length≠0:=λh0=>hb ((fB (B:=18446744073709551616) (by omega)).1 (Fd.1 h0))
  refine .intro (by rw[ae]; omega) ?_;rw[ae];refine aT (λh2=>?_) (λh2=>?_)
  ·have hw:(dg 18446744073709551616 b).getD 0 0=b:=by
    have hv:=bf (B:=18446744073709551616) (by omega) b;have hll:(dg 18446744073709551616 b).length=1:=by omega
    generalize dg 18446744073709551616 b=l at *
    match l,hll with
    | [w],_=>rw[←hv]; simp[val]
   have hb2:=(bq (B:=18446744073709551616) (by omega) b).getD (by omega) 0;refine .intro (by omega) (X1 _ (al (n:=0) rfl (by omega)) ?_);rw[hw]at hb2 ⊢;refine X1 _ (ww a b (by omega) hb2 (by omega)) ?_;refine .intro rfl ?_;have hm:=FM a (Fl hb);refine X1 _ (f0 (a%b) (by omega)) ?_;refine .intro rfl ?_;exact ⟨HT,rc rfl,rc rfl,r1 rfl,HT⟩
  ·have hB:=bq (B:=18446744073709551616) (by omega) b;obtain ⟨lb,hlb⟩:∃ lb,(dg 18446744073709551616 b).length=lb+2:=⟨(dg 18446744073709551616 b).length-2,by omega⟩;refine .intro (by rw[ae]; omega) ?_;rw[ae];refine X1 ((lb+1:Nat):Int) (wI (by omega) (by omega) (by omega)) ?_;refine .intro (by omega) (X1 _ (al rfl (by omega)) ?_);have htop:=hB.getD (by omega) (lb+1);have htl:(dg 18446744073709551616 b).getD (lb+1) 0≠0:=zq hb hlb;generalize htq:(dg 18446744073709551616 b).getD (lb+1) 0=tp at *
   refine X1 _ (va tp htop) ?_;have hbt:=iW (n:=tp) (k:=64) (by omega);obtain ⟨s,hs⟩:∃ s,s=64-blen tp:=⟨_,rfl⟩;have hbb:=sq hb;rw[hlb,show lb+2-1=lb+1 by omega,htq]at hbb;rw[←hs];have hbt0:blen tp≠0:=λh=>by have:=fi tp; rw[h]at this; omega
   refine X1 _ (pI b s (by omega) (by omega)) ?_;obtain ⟨la,hla⟩:∃ la,la=(dg 18446744073709551616 a).length:=⟨_,rfl⟩;refine .intro (by rw[ae]; omega) ?_;rw[ae];refine X1 ((la+1:Nat):Int) (wI (by omega) (by omega) (by omega)) ?_;refine ⟨by omega,by omega,by omega,.inl (by decide),?_⟩;refine X1 _ (pI a s (by omega) (by omega)) ?_
   -- the numbers
   have hps:=FE s;obtain ⟨D,hD⟩:∃ D,D=b*2^s:=⟨_,rfl⟩;obtain ⟨A2,hA2⟩:∃ D,D=a*2^s:=⟨_,rfl⟩;have hDl:(dg 18446744073709551616 D).length=lb+2:=by
    apply HH
    ·apply b9 (by omega);have h1:=FX (fi b) hps;rw[←FH,hbb,show 64*(lb+1)+blen tp+s=64*(lb+2) by omega,←oa,←hD]at h1;exact h1
    ·rw[←hlb]; exact aU (by omega) (by rw[hD]; exact Nat.le_mul_of_pos_right _ hps)
   have hA2l:(dg 18446744073709551616 A2).length≤la+1:=by
    apply b9 (by omega);have h1:=bl (B:=18446744073709551616) (by omega) a;rw[←hla]at h1;have h2:2^s≤18446744073709551616:=by
     have:=EX (show 0<2 by omega) (show s≤64 by omega);simpa using this
    rw[hA2,Fj];exact EW (FX h1 hps) (FF _ h2)
   have hlab:lb+2≤la:=by rw[hla,←hlb]; exact aU (by omega) h
   obtain ⟨m0,hm0⟩:∃ m0,la+1=m0+(lb+2):=⟨la+1-(lb+2),by omega⟩;have hbig:a*2^s<18446744073709551616^m0*D:=by
    have h1:=bl (B:=18446744073709551616) (by omega) a;have h2:=mO (B:=18446744073709551616) (by omega) hb;rw[←hla,show la=m0+(lb+1) by omega,FH]at h1;rw[hlb,show lb+2-1=lb+1 by omega]at h2;have h3:=EW h1 (FF (18446744073709551616^m0) h2);rw[hD,←E4];exact FX h3 hps
   have hD0:0<D:=by rw[hD]; exact Nat.mul_pos (by omega) hps
   rw[←hA2,←hD];refine ⟨(dg 18446744073709551616 A2).length,by rw[ae]; simp; omega,by simp; omega,bU,?_⟩;refine .intro (by rw[ae]; omega) ?_;rw[ae];refine .intro (by omega) ?_;refine X1 ((m0:Nat):Int) (wI (by omega) (by omega) (by omega)) ?_;refine ⟨by omega,by omega,by omega,.inl (by decide),?_⟩;refine .intro (by omega) ?_;refine X1 ((m0:Int)-1) (wI (by omega) (by omega) (by omega)) ?_;have hDd:=bq (B:=18446744073709551616) (by omega) D;have hDv:=bf (B:=18446744073709551616) (by omega) D;have hAd:=bq (B:=18446744073709551616) (by omega) A2;have hAv:=bf (B:=18446744073709551616) (by omega) A2;have hU0:val 18446744073709551616 (dg 18446744073709551616 A2++List.replicate (la+1-(dg 18446744073709551616 A2).length) 0)=A2:=by rw[iR,hAv,kr,Gb,F7]
   have hU1:(dg 18446744073709551616 A2++List.replicate (la+1-(dg 18446744073709551616 A2).length) 0).length=la+1:=by simp; omega
   have hU2:Dig 18446744073709551616 (dg 18446744073709551616 A2++List.replicate (la+1-(dg 18446744073709551616 A2).length) 0):=hAd.app λx hx=>by rw[FG hx]; omega
   have hU3:val 18446744073709551616 ((dg 18446744073709551616 A2++List.replicate (la+1-(dg 18446744073709551616 A2).length) 0).drop m0)<D:=by
    have h1:=f7 (lo:=m0) (s:=dg 18446744073709551616 A2++List.replicate (la+1-(dg 18446744073709551616 A2).length) 0) (by omega);rw[hU0]at h1;rw[←hA2]at hbig;exact Nat.lt_of_mul_lt_mul_left (Gx (EQ (Nat.le_add_left _ _) (Nat.le_of_eq h1.symm)) hbig)
   obtain ⟨dl,hdl⟩:∃ dl,dl=dg 18446744073709551616 D:=⟨_,rfl⟩;rw[←hdl]at hDl hDd hDv ⊢;refine uX aj aa (G:=Nat × List Nat × List Nat) (λ(m,u,q)=>m≤m0∧u.length=la+1∧Dig 18446744073709551616 u∧q.length=m0∧Dig 18446744073709551616 q∧val 18446744073709551616 (u.drop m)<D∧A2=D*(18446744073709551616^m*val 18446744073709551616 (q.drop m))+val 18446744073709551616 u)
    (λ(m,u,q)=>[(4,.c (.ad 4 0)),(5,.c (.ad 5 0)),(9,.c (nI .i64 s)),(10,.c (nSl .u64 dl)),(11,.c (.ow 64 1 (la+1))),(12,.c (nI .i64 (lb+2:Nat))),(13,.c (.ow 77 1 m0)),(14,.c (eI .i64 ((m:Int)-1)))])
    (λ((m,u,q):Nat × List Nat × List Nat)=>[(4,.var [.sc (.slice none 0 0)]),(5,.var [.sc (.slice none 0 0)]),(64,.row 1 (aF .u64 u)),(77,.row 1 (aF .u64 q))]) (λ(m,_,_)=>m)
    (m0,dg 18446744073709551616 A2++List.replicate (la+1-(dg 18446744073709551616 A2).length) 0,List.replicate m0 0) ⟨by simp,hU1,hU2,by simp,λx hx=>by rw[FG hx]; omega,hU3,by simp[hU0,val]⟩
    ⟨rfl,rfl,rfl,(by rw[hdl]; rfl),owE (by omega),iE (by rw[hDl]),owE (by omega),rfl,HT⟩ ⟨rfl,rfl,aB (by rw[List.take_zero,Hd,Fs (by rw[ae]; exact EM _),FC,List.drop_replicate]; show _++List.replicate _ [eI .u64 0]=_; simp[aF]),aB (fh rfl),HT⟩
    (λ(u,q)=>u.length=la+1∧Dig 18446744073709551616 u∧q.length=m0∧Dig 18446744073709551616 q∧val 18446744073709551616 q=a/b∧val 18446744073709551616 u=a%b*2^s) (λ_=>[(4,.c (.ad 4 0)),(5,.c (.ad 5 0)),(9,.c (nI .i64 s)),(11,.c (.ow 64 1 (la+1))),(12,.c (nI .i64 (lb+2:Nat))),(13,.c (.ow 77 1 m0))])
    (λ((u,q):List Nat × List Nat)=>[(4,.var [.sc (.slice none 0 0)]),(5,.var [.sc (.slice none 0 0)]),(64,.row 1 (aF .u64 u)),(77,.row 1 (aF .u64 q))]) (λ(m,u,q) hg=>?_) (λ(u,q) hl=>?_)
   ·obtain ⟨i1,i2,i3,i4,i5,i6,i7⟩:=hg;refine ah (λh5=>?_) (λh5=>?_)
    ·obtain ⟨i,rfl⟩:∃ i,m=i+1:=⟨m-1,by omega⟩;have hui:=i3.getD (by omega) i;have hV:=dJ 18446744073709551616 (l:=u) (i:=i) (by omega);have hDp:D<18446744073709551616^(lb+2):=by
      have:=bl (B:=18446744073709551616) (by omega) D;rw[←hdl,hDl]at this; exact this
     have hVl:val 18446744073709551616 (u.drop i)<18446744073709551616*D:=by
      have:=FF 18446744073709551616 (Nat.succ_le_of_lt i6);rw[Nat.mul_succ]at this;omega
     have hVl2:val 18446744073709551616 (u.drop i)<18446744073709551616^(lb+3):=by
      rw[Fj,E5];exact Nat.lt_trans hVl (Nat.mul_lt_mul_of_pos_left hDp (by omega))
     have hz:val 18446744073709551616 (u.drop (i+(lb+3)))=0:=by
      have h1:=fA 18446744073709551616 (u.drop i) (lb+3);rw[Gr,Fv,Gj (by omega)]at h1;apply Classical.byContradiction;intro h0;have:=FF (18446744073709551616^(lb+3)) (Fl h0);rw[F5]at this;omega
     have hVt:val 18446744073709551616 ((u.drop i).take (lb+3))=val 18446744073709551616 (u.drop i):=by
      have h1:=fA 18446744073709551616 (u.drop i) (lb+3);rw[Gr,hz,Gb,F7]at h1;exact h1.symm
     have hQ:val 18446744073709551616 (u.drop i)/D<18446744073709551616:=FT (by rw[E5]; exact hVl);have htl2:=zq (n:=D) (by omega) (k:=lb+1) (by rw[←hdl,hDl]);rw[←hdl]at htl2;obtain ⟨gq1,gq2⟩:=D5 (n:=lb) (u:=(u.drop i).take (lb+3)) (d:=dl) (i3.drop.take) hDd (by rw[E3,Fv]; omega) hDl htl2 (by rw[hVt,hDv]; exact hQ);rw[hVt,hDv]at gq1;have kt:=hDd.getD (by omega) (lb+1);have kn:=hDd.getD (by omega) lb;have hg:=zp ((u.drop i).take (lb+3)) (dl.getD (lb+1) 0) (dl.getD lb 0) lb i3.drop.take (by rw[E3,Fv]; omega) (by rw[E3,Fv]; omega) (by omega) kt kn;generalize gs (((u.drop i).take (lb+3)).getD (lb+2) 0) (((u.drop i).take (lb+3)).getD (lb+1) 0) (((u.drop i).take (lb+3)).getD lb 0) (dl.getD (lb+1) 0) (dl.getD lb 0)=x0 at *
     generalize hQe:val 18446744073709551616 (u.drop i)/D=Q at *
     have hdm:=FV (val 18446744073709551616 (u.drop i)) D;rw[hQe]at hdm;have hml:=FM (val 18446744073709551616 (u.drop i)) hD0;obtain ⟨V,hVe⟩:∃ V,V=val 18446744073709551616 (u.drop i):=⟨_,rfl⟩;rw[←hVe]at hdm hml hVl2;refine X1 ((i+(lb+2):Nat):Int) (wI (by omega) (by omega) (by omega)) ?_;refine X1 ((i+(lb+3):Nat):Int) (wI (by omega) (by omega) (by omega)) ?_;refine .inl ⟨i,i+(lb+3),by simp,by simp,by omega,by omega,.inr ⟨by omega,?_⟩⟩;rw[Nat.add_sub_cancel_left];refine X1 ((lb+1:Nat):Int) (wI (by omega) (by omega) (by omega)) ?_;refine .intro (by omega) (X1 _ (al rfl (by omega)) ?_);refine X1 ((lb:Nat):Int) (wI (by omega) (by omega) (by omega)) ?_;refine .intro (by omega) (X1 _ (al rfl (by omega)) ?_);have hg2:Ct P 154 [A1.c (.sl 1 (((aF .u64 u).drop i).take (lb+3))),.c (nI .u64 (dl.getD (lb+1) 0)),.c (nI .u64 (dl.getD lb 0))] [.c (nI .u64 x0)]:=by rw[gl]; exact hg
     refine X2 .look (X1 _ hg2 ?_);refine .intro rfl ?_;refine X2 (.upd 64) ?_;refine ⟨_,_,wv u dl x0 i (lb+3) i3 hDd gq2 (by omega) (by omega) (by omega),?_⟩;have hz':val 18446744073709551616 (u.drop (i+(dl.length+1)))=0:=by rw[hDl]; exact hz
     obtain ⟨s1,s2,s3,s4,s5⟩:=Bt (x:=x0) i3 hDd gq2 (by omega) hz';have s6:=qB (t:=u) (d:=dl) (x:=x0) (lo:=i) (dl.length+1);have s7:=qC (t:=u) (d:=dl) (x:=x0) (lo:=i) (dl.length+1);rw[←s7]at hz';generalize (sm u dl x0 i (dl.length+1)).s=u1 at *
     generalize (sm u dl x0 i (dl.length+1)).b=b1 at *
     rw[hDv,hDl,←hVe]at s4;rw[hDl]at s5 hz';refine aw aj aa (G:=List Nat × Nat × Nat) (λ(w,x,o)=>w.length=la+1∧Dig 18446744073709551616 w∧w.take i=u.take i∧val 18446744073709551616 (w.drop (i+(lb+3)))=0∧o≤1∧val 18446744073709551616 (w.drop i)+x*D=V+18446744073709551616^(lb+3)*o∧val 18446744073709551616 (w.drop i)<18446744073709551616^(lb+3)∧Q≤x∧x<18446744073709551616)
      (λ(w,x,o)=>[(4,.c (.ad 4 0)),(5,.c (.ad 5 0)),(9,.c (nI .i64 s)),(10,.c (nSl .u64 dl)),(11,.c (.ow 64 1 (la+1))),(12,.c (nI .i64 (lb+2:Nat))),(13,.c (.ow 77 1 m0)),(14,.c (nI .i64 i)),(15,.c (.os 64 1 i (lb+3))),(16,.c (nI .u64 x)),(17,.c (.sc (.bool (decide ((o:Int)>0)))))])
      (λ((w,x,o):List Nat × Nat × Nat)=>[(4,.var [.sc (.slice none 0 0)]),(5,.var [.sc (.slice none 0 0)]),(64,.row 1 (aF .u64 w)),(77,.row 1 (aF .u64 q))]) (λ(_,x,_)=>x)
      (u1,x0,b1) ⟨by omega,s2,s6,hz',s3,s4,s5,gq1,gq2⟩ ⟨rfl,rfl,rfl,rfl,rfl,rfl,rfl,iE (by omega),rfl,rfl,rfl,HT⟩ ⟨rfl,rfl,rfl,rfl,HT⟩
      (λw=>w.length=la+1∧Dig 18446744073709551616 w∧w.take i=u.take i∧val 18446744073709551616 (w.drop i)=V%D)
      (λ_=>[(4,.c (.ad 4 0)),(5,.c (.ad 5 0)),(9,.c (nI .i64 s)),(10,.c (nSl .u64 dl)),(11,.c (.ow 64 1 (la+1))),(12,.c (nI .i64 (lb+2:Nat))),(13,.c (.ow 77 1 m0)),(14,.c (nI .i64 i)),(16,.c (nI .u64 Q))])
      (λw=>[(4,.var [.sc (.slice none 0 0)]),(5,.var [.sc (.slice none 0 0)]),(64,.row 1 (aF .u64 w)),(77,.row 1 (aF .u64 q))]) (λ(w,x,o) hi=>?_) (λw hw=>?_)
     ·obtain ⟨j1,j2,j3,j4,j5,j6,j7,j8,j9⟩:=hi;refine ah (λh6=>?_) (λh6=>?_)
      ·have ho:o=1:=by omega
       subst ho;rw[F5]at j6;have hgt:Q<x:=by
        apply GR;intro hle;have:=EU D hle;rw[E5 Q]at this;omega
       refine X2 (.upd 64) ?_;refine ⟨_,_,ur w dl i (lb+3) j2 hDd (by omega) (by omega) (by omega),?_⟩;have jz:val 18446744073709551616 (w.drop (i+(dl.length+1)))=0:=by rw[hDl]; exact j4
       obtain ⟨r1',r2,r3,r4,r5⟩:=Bu j2 hDd (by omega) jz;have r6:=qD (t:=w) (d:=dl) (x:=1) (lo:=i) (dl.length+1);have r7:=qE (t:=w) (d:=dl) (x:=1) (lo:=i) (dl.length+1);rw[←r7]at jz;generalize (am w dl 1 i (dl.length+1)).1=w1 at *
       generalize (am w dl 1 i (dl.length+1)).2=c1 at *
       rw[hDv,hDl]at r4;rw[hDl]at r5 jz;obtain ⟨p,rfl⟩:∃ p,x=p+1:=⟨x-1,by omega⟩;rw[E8,Fx]at j6;rw[show lb+2+1=lb+3 from rfl]at r4;have heq:val 18446744073709551616 (w1.drop i)+p*D=V+18446744073709551616^(lb+3)*(1-c1):=by
        have hc:c1=0∨c1=1:=by omega
        rcases hc with rfl | rfl
        ·rw[Gb,F7]at r4;rw[F5];omega
        ·rw[F5]at r4;rw[Gb];omega
       refine X1 ((p:Nat):Int) (wU (by omega) (by omega) (by omega)) ?_;exact ⟨(w1,p,1-c1),⟨by omega,r2,r6.trans j3,jz,by omega,heq,r5,by omega,by omega⟩,by show p<p+1; omega,⟨rfl,rfl,rfl,rfl,rfl,rfl,rfl,rfl,rfl,rfl,blB (by
        have hc:c1=0∨c1=1:=by omega
        rcases hc with rfl | rfl<;>rfl),HT⟩,⟨rfl,rfl,rfl,rfl,HT⟩⟩
      ·have ho:o=0:=by omega
       subst ho;rw[Gb,F7]at j6;have hle:x≤Q:=by
        rw[←hQe,←hVe];exact (Hk hD0).2 (by omega)
       have hxe:x=Q:=by omega
       subst hxe;refine ⟨w,⟨j1,j2,j3,by rw[E5]at hdm; omega⟩,⟨rfl,rfl,rfl,rfl,rfl,rfl,rfl,rfl,rfl,HT⟩,⟨rfl,rfl,rfl,rfl,HT⟩⟩
     ·obtain ⟨j1,j2,j3,j4⟩:=hw;refine .intro (by omega) (.intro (by omega) ?_);refine X1 _ (al rfl (by omega)) ?_;refine X1 ((i:Int)-1) (wI (by omega) (by omega) (by omega)) ?_;refine ⟨(i,w,q.set i Q),⟨by omega,j1,j2,by simp[i4],i5.set hQ,by rw[j4]; exact hml,?_⟩,by show i<i+1; omega,⟨rfl,rfl,rfl,rfl,rfl,rfl,rfl,rfl,HT⟩,⟨rfl,rfl,rfl,aB (by rw[←nRow_set]; rfl),HT⟩⟩;have k1:=f7 (lo:=i) (s:=w) (by omega);have k2:=f7 (lo:=i) (s:=u) (by omega);rw[j3,j4]at k1;rw[←hVe]at k2;have k3:=congrArg (18446744073709551616^i * ·) hdm;simp only[Fe]at k3;rw[kN _ (by omega),i7,k1,k2,Fj,Fe,Fe D,E4,FL D (18446744073709551616^i) Q,←k3];omega
    ·have e:m=0:=by omega
     subst e;rw[GE,Fx,Gd]at i7;rw[Gd]at i6;obtain ⟨e1,e2⟩:=vg i7 i6;rw[hA2,hD]at e1 e2;rw[Nat.mul_div_mul_right _ _ hps]at e1;rw[Nat.mul_mod_mul_right]at e2;exact ⟨(u,q),⟨i2,i3,i4,i5,e1,e2⟩,⟨rfl,rfl,rfl,rfl,rfl,rfl,HT⟩,⟨rfl,rfl,rfl,rfl,HT⟩⟩
   ·obtain ⟨i2,i3,i4,i5,e1,e2⟩:=hl;refine AE aj aa [64,77] ?_;have hDp:D<18446744073709551616^(lb+2):=by
     have:=bl (B:=18446744073709551616) (by omega) D;rw[←hdl,hDl]at this; exact this
    have hml:a%b*2^s<D:=by rw[hD]; exact FX (FM _ (by omega)) hps
    have hut:val 18446744073709551616 (u.take (lb+2))=a%b*2^s:=by
     have h1:=f7 (lo:=lb+2) (s:=u) (by omega);have h0:val 18446744073709551616 (u.drop (lb+2))=0:=by
      apply Classical.byContradiction;intro h0;have:=FF (18446744073709551616^(lb+2)) (Fl h0);rw[F5]at this;omega
     rw[h0,Gb,F7,e2]at h1;exact h1.symm
    refine X1 _ (ep q (by omega)) ?_;rw[cq (by omega) i5,e1];refine ⟨0,lb+2,by simp,by simp,by omega,by rw[ae]; omega,?_⟩;rw[gl,Gd,Gy];refine X1 _ (pJ (u.take (lb+2)) (by rw[E3]; omega)) ?_;refine X1 _ (ep (u.take (lb+2)) (by rw[E3]; omega)) ?_;rw[cq (by omega) i3.take,hut];have hll:(dg 18446744073709551616 (a%b*2^s)).length≤1000000:=by
     have:=aU (B:=18446744073709551616) (by omega) (Nat.le_of_lt hml);rw[←hdl,hDl]at this;omega
    have hd:=qA (a%b*2^s) s hll (by omega);rw[Nat.mul_div_cancel _ hps]at hd;refine X1 _ hd ?_;refine .intro rfl ?_;exact ⟨HT,rc rfl,rc rfl,r1 rfl,HT⟩
end
section
theorem Bv (a b:Nat) (ha:(dg 18446744073709551616 a).length≤100000) (hb:(dg 18446744073709551616 b).length≤100000):Ct P 110 [nV a,nV b] [nV (Nat.gcd a b)]:=by
 refine Ct.go aj aa (N:=21) Tryz.func110 rfl rfl rfl rfl ?_;refine aw aj aa (G:=Nat × Nat) (λ(x,y)=>Nat.gcd x y=Nat.gcd a b∧(dg 18446744073709551616 x).length≤100000∧(dg 18446744073709551616 y).length≤100000) (λ_=>[(2,.c (.ad 2 0)),(3,.c (.ad 3 0)),(4,.c (.ad 4 0))])
  (λ(x,y)=>[(2,.var [nSl .u64 (dg 18446744073709551616 x)]),(3,.var [nSl .u64 (dg 18446744073709551616 y)]),(4,.var [.sc (.slice none 0 0)])]) (λ(x,y)=>y)
  (a,b) ⟨rfl,ha,hb⟩ ⟨rfl,rfl,rfl,HT⟩ ⟨rfl,rfl,rfl,HT⟩ (λ_:Unit=>True) (λ_=>[(2,.c (.ad 2 0)),(4,.c (.ad 4 0))]) (λ_=>[(2,.var [nSl .u64 (dg 18446744073709551616 (Nat.gcd a b))]),(4,.var [.sc (.slice none 0 0)])]) (λ(x,y) hg=>?_) (λ_ _=>?_)
 ·obtain ⟨h1,h2,h3⟩:=hg;refine X1 _ (fC y (by omega)) ?_;refine aP (λh=>?_) (λh=>?_)
  ·have hy:y≠0:=by simpa using h
   refine X1 _ (mY x y hy h2 h3) ?_;refine .intro rfl ?_;have hlt:=FM x (show 0<y by omega);exact ⟨(y,x%y),⟨by rw[←h1,HP x y,Nat.gcd_rec y x,HP],h3,EQ (aU (by omega) (by omega)) h3⟩,hlt,⟨rfl,rfl,rfl,HT⟩,⟨rfl,rfl,rfl,HT⟩⟩
  ·have hy:y=0:=by simpa using h
   subst hy;rw[Nat.gcd_zero_right]at h1;subst h1;exact ⟨(),HT,⟨rfl,rfl,HT⟩,⟨rfl,rfl,HT⟩⟩
 ·exact ⟨HT,rc rfl,HT⟩
theorem mZ:Ct P 70 [] [nV 1]:=by
 refine Ct.go aj aa (N:=2) Tryz.func70 rfl rfl rfl rfl ?_;refine X1 _ (f0 1 (by omega)) ?_;exact ⟨HT,rc rfl,HT⟩
abbrev qV (n d:Nat):A1:=.ag [nSl .u64 (dg 18446744073709551616 n),nSl .u64 (dg 18446744073709551616 d)]
theorem cc (v:Nat) (hv:v<18446744073709551616):Ct P 27 [.c (nI .u64 v)] [qV v 1]:=by
 refine Ct.go aj aa (N:=7) Tryz.func27 rfl rfl rfl rfl ?_;refine X1 _ (f0 v hv) ?_;refine X1 _ mZ ?_;exact ⟨HT,rc rfl,HT⟩
theorem cZ (n d:Nat):Ct P 67 [qV n d] [nV n]:=by
 refine Ct.go aj aa (N:=5) Tryz.func67 rfl rfl rfl rfl ?_;exact ⟨HT,rc rfl,HT⟩
def dn (d:Nat):Nat:=if d=0 then 1 else d
theorem fI (d:Nat):dn d≠0:=by unfold dn; split<;>omega
theorem jq {d:Nat} (h:d≠0):dn d=d:=if_neg h
theorem eZ {d k:Nat} (hk:1≤k) (h:(dg 18446744073709551616 d).length≤k):(dg 18446744073709551616 (dn d)).length≤k:=by
 unfold dn;split
 ·exact EQ (b9 (k:=1) (by omega) (by decide)) hk
 ·exact h
theorem cd (n d:Nat) (hl:(dg 18446744073709551616 d).length≤1000000):Ct P 68 [qV n d] [nV (dn d)]:=by
 refine Ct.go aj aa (N:=9) Tryz.func68 rfl rfl rfl rfl ?_;refine X1 _ (fC d hl) ?_;refine aP (λh=>?_) (λh=>?_)
 ·have h0:d=0:=by simpa using h
  subst h0;refine X1 _ mZ ?_;exact ⟨HT,rc rfl,HT⟩
 ·rw[jq (by simpa using h)];exact ⟨HT,rc rfl,HT⟩
theorem kO (n d:Nat) (hl:(dg 18446744073709551616 n).length≤1000000):Ct P 33 [qV n d] [.c (.sc (.bool (n==0)))]:=by
 refine Ct.go aj aa (N:=6) Tryz.func33 rfl rfl rfl rfl ?_;refine X1 _ (fC n hl) ?_;exact ⟨HT,r1 rfl,HT⟩
abbrev qR (n d:Nat):A1:=qV (n/Nat.gcd n d) (d/Nat.gcd n d)
theorem iB (n d:Nat) (hd:d≠0) (hn:(dg 18446744073709551616 n).length≤100000) (hl:(dg 18446744073709551616 d).length≤100000):Ct P 65 [nV n,nV d] [qR n d]:=by
 have hg:Nat.gcd n d≠0:=λh=>hd (Nat.gcd_eq_zero_iff.1 h).2
 have hgl:(dg 18446744073709551616 (Nat.gcd n d)).length≤100000:=EQ (aU (by omega) (Nat.gcd_le_right n (by omega))) hl;have h1l:(dg 18446744073709551616 1).length≤1000000:=by have:=aU (B:=18446744073709551616) (by omega) (show 1≤d by omega); omega
 refine Ct.go aj aa (N:=34) Tryz.func65 rfl rfl rfl rfl ?_;refine X1 _ (fC n (by omega)) ?_;refine aP (λh=>?_) (λh=>?_)
 ·have h0:n=0:=by simpa using h
  subst h0;unfold qR qV;rw[G3,Hw,Hx (by omega),ba];refine X1 _ mZ ?_;exact ⟨HT,⟨_,rfl,.inr ⟨rfl,1,rfl⟩,.inl rfl,HT⟩,HT⟩
 ·refine X1 _ (Bv n d hn hl) ?_;refine X1 _ mZ ?_;refine X1 _ (kv _ 1 (by omega) h1l) ?_;refine .intro rfl ?_;refine ah (λh2=>?_) (λh2=>?_)
  ·refine X1 _ (mY n _ hg hn hgl) ?_;refine X1 _ (mY d _ hg hl hgl) ?_;exact ⟨HT,rc rfl,HT⟩
  ·have h3:Nat.gcd n d=1:=by
    unfold bI at h2;split at h2
    ·omega
    ·split at h2<;>omega
   unfold qR;rw[h3,G7,G7];exact ⟨HT,rc rfl,HT⟩
theorem cE {a b k m:Nat} (ha:(dg 18446744073709551616 a).length≤k) (hb:(dg 18446744073709551616 b).length≤m):(dg 18446744073709551616 (a*b)).length≤k+m:=by
 apply b9 (by omega);have h1:=bl (B:=18446744073709551616) (by omega) a;have h2:=bl (B:=18446744073709551616) (by omega) b;have h3:a*b<18446744073709551616^(dg 18446744073709551616 a).length*18446744073709551616^(dg 18446744073709551616 b).length:=HC h1 h2;rw[←FH]at h3;exact EW h3 (EX (by omega) (by omega))
structure LimQ (n d:Nat):Prop where
 n:(dg 18446744073709551616 n).length≤40000
 d:(dg 18446744073709551616 d).length≤40000
theorem m8 (a b c d:Nat) (h1:LimQ a b) (h2:LimQ c d):Ct P 72 [qV a b,qV c d] [.c (eI .i64 (bI (a*dn d:Nat) (c*dn b:Nat)))]:=by
 obtain ⟨n1,k1⟩:=h1;obtain ⟨n2,k2⟩:=h2;have l1:=eZ (by omega) k1;have l2:=eZ (by omega) k2;have p1:=fI b;have p2:=fI d;refine Ct.go aj aa (N:=16) Tryz.func72 rfl rfl rfl rfl ?_;refine X1 _ (cZ a b) (X1 _ (cd c d (by omega)) (X1 _ (cY a (dn d) (by omega) (by omega)) ?_));refine X1 _ (cZ c d) (X1 _ (cd a b (by omega)) (X1 _ (cY c (dn b) (by omega) (by omega)) ?_));refine X1 _ (kv _ _ (EQ (cE n1 l2) (by omega)) (EQ (cE n2 l1) (by omega))) ?_;refine .intro rfl ?_;exact ⟨HT,r1 rfl,HT⟩
theorem Bw (a b c d:Nat) (h1:LimQ a b) (h2:LimQ c d):Ct P 133 [qV a b,qV c d] [qR (a*c) (dn b*dn d)]:=by
 obtain ⟨n1,k1⟩:=h1;obtain ⟨n2,k2⟩:=h2;have l1:=eZ (by omega) k1;have l2:=eZ (by omega) k2;have p1:=fI b;have p2:=fI d;refine Ct.go aj aa (N:=16) Tryz.func133 rfl rfl rfl rfl ?_;refine X1 _ (cZ a b) (X1 _ (cZ c d) (X1 _ (cY a c (by omega) (by omega)) ?_));refine X1 _ (cd a b (by omega)) (X1 _ (cd c d (by omega)) (X1 _ (cY (dn b) (dn d) (by omega) (by omega)) ?_));refine X1 _ (iB _ _ (Ff p1 p2) (EQ (cE n1 n2) (by omega)) (EQ (cE l1 l2) (by omega))) ?_;refine .intro rfl ?_;exact ⟨HT,rc rfl,HT⟩
theorem vi (a b c d:Nat) (h1:LimQ a b) (h2:LimQ c d) (hc:c≠0):Ct P 26 [qV a b,qV c d] [qR (a*dn d) (dn b*c),.c (eI .i64 0)]:=by
 obtain ⟨n1,k1⟩:=h1;obtain ⟨n2,k2⟩:=h2;have l1:=eZ (by omega) k1;have l2:=eZ (by omega) k2;have p1:=fI b;have p2:=fI d;refine Ct.go aj aa (N:=20) Tryz.func26 rfl rfl rfl rfl ?_;refine X1 _ (kO c d (by omega)) ?_;refine tM (by simpa using hc) ?_;refine X1 _ (cZ a b) (X1 _ (cd c d (by omega)) (X1 _ (cY a (dn d) (by omega) (by omega)) ?_));refine X1 _ (cd a b (by omega)) (X1 _ (cZ c d) (X1 _ (cY (dn b) c (by omega) (by omega)) ?_));refine X1 _ (iB _ _ (Ff p1 hc) (EQ (cE n1 l2) (by omega)) (EQ (cE l1 n2) (by omega))) ?_;refine .intro rfl ?_;exact ⟨HT,rc rfl,r1 rfl,HT⟩
theorem zr (a b c d:Nat) (h1:LimQ a b) (h2:LimQ c d) (hle:c*dn b≤a*dn d):Ct P 52 [qV a b,qV c d] [qR (a*dn d-c*dn b) (dn b*dn d)]:=by
 obtain ⟨n1,k1⟩:=h1;obtain ⟨n2,k2⟩:=h2;have l1:=eZ (by omega) k1;have l2:=eZ (by omega) k2;have p1:=fI b;have p2:=fI d;refine Ct.go aj aa (N:=31) Tryz.func52 rfl rfl rfl rfl ?_;refine X1 _ (cZ a b) (X1 _ (cd c d (by omega)) (X1 _ (cY a (dn d) (by omega) (by omega)) ?_));refine X1 _ (cZ c d) (X1 _ (cd a b (by omega)) (X1 _ (cY c (dn b) (by omega) (by omega)) ?_));have hl:=cE n1 l2;refine X1 _ (u5 _ _ hle (by omega)) ?_;refine .intro rfl ?_;refine X1 _ (cd a b (by omega)) (X1 _ (cd c d (by omega)) (X1 _ (cY (dn b) (dn d) (by omega) (by omega)) ?_));have hl3:=aU (B:=18446744073709551616) (by omega) (Nat.sub_le (a*dn d) (c*dn b));refine X1 _ (iB _ _ (Ff p1 p2) (by omega) (EQ (cE l1 l2) (by omega))) ?_;refine .intro rfl ?_;exact ⟨HT,rc rfl,HT⟩
def cy (o x:Nat × Nat):Nat × Nat:=((o.1*dn x.2+x.1*dn o.2)/Nat.gcd (o.1*dn x.2+x.1*dn o.2) (dn o.2*dn x.2),dn o.2*dn x.2/Nat.gcd (o.1*dn x.2+x.1*dn o.2) (dn o.2*dn x.2))
def qF (l:List (Nat × Nat)):List (List PC):=l.map λx=>[nSl .u64 (dg 18446744073709551616 x.1),nSl .u64 (dg 18446744073709551616 x.2)]
theorem sK {l:List (Nat × Nat)}:(qF l).length=l.length:=by simp[qF]
theorem zs {l:List (Nat × Nat)} {i:Int} {n:Nat} (h0:i=n) (h:n<l.length):(qF l)[i.toNat]? = some [nSl .u64 (dg 18446744073709551616 l[n].1),nSl .u64 (dg 18446744073709551616 l[n].2)]:=by
 subst h0;simp[qF,h]
theorem vj (l:List (Nat × Nat)) (hl:l.length≤1000000) (h1:∀ (i:Nat) (h:i<l.length),LimQ l[i].1 l[i].2) (h2:∀ i,i≤l.length→LimQ ((l.take i).foldl cy (0,1)).1 ((l.take i).foldl cy (0,1)).2) :
  Ct P 116 [.c (.sl 2 (qF l))] [qV (l.foldl cy (0,1)).1 (l.foldl cy (0,1)).2]:=by
 refine Ct.go aj aa (N:=34) Tryz.func116 rfl rfl rfl rfl ?_;refine X1 _ (cc 0 (by omega)) ?_;refine .intro (by rw[sK]; omega) ?_;rw[sK];refine aw aj aa (λi:Nat=>i≤l.length) (λi=>[(2,.c (.ad 2 0)),(3,.c (.ad 3 0)),(8,.c (.sl 2 (qF l))),(9,.c (nI .i64 l.length)),(10,.c (nI .i64 i))])
  (λi=>[(2,.var [.sc (.slice none 0 0),.sc (.slice none 0 0)]),(3,.var [nSl .u64 (dg 18446744073709551616 ((l.take i).foldl cy (0,1)).1),nSl .u64 (dg 18446744073709551616 ((l.take i).foldl cy (0,1)).2)])]) (λi=>l.length-i)
  0 (by omega) ⟨rfl,rfl,rfl,rfl,rfl,HT⟩ ⟨rfl,rfl,HT⟩ (λ_:Unit=>True) (λ_=>[(2,.c (.ad 2 0)),(3,.c (.ad 3 0))])
  (λ_=>[(2,.var [.sc (.slice none 0 0),.sc (.slice none 0 0)]),(3,.var [nSl .u64 (dg 18446744073709551616 (l.foldl cy (0,1)).1),nSl .u64 (dg 18446744073709551616 (l.foldl cy (0,1)).2)])]) (λi hi=>?_) (λ_ _=>?_)
 ·refine ah (λh5=>?_) (λh5=>?_)
  ·have hs:(l.take (i+1)).foldl cy (0,1)=cy ((l.take i).foldl cy (0,1)) l[i]:=by
    rw[ER (by omega),G1]; rfl
   obtain ⟨n1,k1⟩:=h2 i hi;obtain ⟨n2,k2⟩:=h1 i (by omega);have hq:=zs (l:=l) (i:=(i:Int)) (n:=i) rfl (by omega);generalize (l.take i).foldl cy (0,1)=o at *
   generalize l[i]=x at *
   have l1:=eZ (by omega) k1;have l2:=eZ (by omega) k2;have p1:=fI o.2;have p2:=fI x.2;refine .intro (by omega) (X1 _ hq ?_);refine X1 _ (cZ o.1 o.2) (X1 _ (cd x.1 x.2 (by omega)) (X1 _ (cY o.1 (dn x.2) (by omega) (by omega)) ?_));refine X1 _ (cZ x.1 x.2) (X1 _ (cd o.1 o.2 (by omega)) (X1 _ (cY x.1 (dn o.2) (by omega) (by omega)) ?_));have m1:=cE n1 l2;have m2:=cE n2 l1;refine X1 _ (mW _ _ (by omega) (by omega)) ?_;refine .intro rfl ?_;refine X1 _ (cd o.1 o.2 (by omega)) (X1 _ (cd x.1 x.2 (by omega)) (X1 _ (cY (dn o.2) (dn x.2) (by omega) (by omega)) ?_));have m3:=zi m1 m2;refine X1 _ (iB _ _ (Ff p1 p2) (by omega) (EQ (cE l1 l2) (by omega))) ?_;refine .intro rfl ?_;refine X1 ((i+1:Nat):Int) (wI1 (by omega)) ?_;exact ⟨i+1,by omega,by omega,⟨rfl,rfl,rfl,rfl,rfl,HT⟩,⟨rfl,by rw[hs]; rfl,HT⟩⟩
  ·have e:i=l.length:=by omega
   subst e;rw[Fp];exact ⟨(),HT,⟨rfl,rfl,HT⟩,⟨rfl,rfl,HT⟩⟩
 ·exact ⟨HT,rc rfl,HT⟩
theorem zt (a b:Nat) (hab:a<b) (ha:(dg 18446744073709551616 a).length≤1000000) (hb:(dg 18446744073709551616 b).length≤1000000):Ct P 104 [nV a,nV b] [nV 0,.c (eI .i64 8)]:=by
 refine Ct.go aj aa (N:=52) Tryz.func104 rfl rfl rfl rfl ?_;refine X1 _ (kv a b ha hb) ?_;refine DO (decide_eq_true (by unfold bI; rw[if_pos (by omega)]; decide)) ?_;exact ⟨HT,⟨_,rfl,zn⟩,r1 rfl,HT⟩
theorem wy (a b c d:Nat) (h1:LimQ a b) (h2:LimQ c d) (hlt:a*dn d<c*dn b):Ct P 52 [qV a b,qV c d] [qV 0 1]:=by
 obtain ⟨n1,k1⟩:=h1;obtain ⟨n2,k2⟩:=h2;have l1:=eZ (by omega) k1;have l2:=eZ (by omega) k2;refine Ct.go aj aa (N:=31) Tryz.func52 rfl rfl rfl rfl ?_;refine X1 _ (cZ a b) (X1 _ (cd c d (by omega)) (X1 _ (cY a (dn d) (by omega) (by omega)) ?_));refine X1 _ (cZ c d) (X1 _ (cd a b (by omega)) (X1 _ (cY c (dn b) (by omega) (by omega)) ?_));have m1:=cE n1 l2;have m2:=cE n2 l1;refine X1 _ (zt _ _ hlt (by omega) (by omega)) ?_;refine .intro rfl ?_;refine X1 _ (cc 0 (by omega)) ?_;exact ⟨HT,rc rfl,HT⟩
def wh (n:Int):Nat:=n.toNat
theorem zu (n:Int) (hn:n<9223372036854775808):Ct P 131 [.c (eI .i64 n)] [qV (wh n) 1]:=by
 refine Ct.go aj aa (N:=7) Tryz.func131 rfl rfl rfl rfl ?_;have e:(if (0:Int)>n then 0 else n)=((wh n:Nat):Int):=by unfold wh; split<;>omega
 have hw:wh n<18446744073709551616:=by unfold wh; omega
 refine X1 ((wh n:Nat):Int) (by rw[e]; exact wU rfl (by omega) (by omega)) ?_;refine X1 _ (cc (wh n) hw) ?_;exact ⟨HT,rc rfl,HT⟩
theorem Da (a b c d:Nat) (h1:LimQ a b) (h2:LimQ c d) (hc:c≠0):Ct P 132 [qV a b,qV c d] [qR (a*dn d) (dn b*c)]:=by
 refine Ct.go aj aa (N:=17) Tryz.func132 rfl rfl rfl rfl ?_;refine X1 _ (vi a b c d h1 h2 hc) ?_;exact ⟨HT,rc rfl,HT⟩
def gR (n d:Nat):Nat × Nat:=(n/Nat.gcd n d,d/Nat.gcd n d)
def EF (p q:Nat × Nat):Nat × Nat:=gR (p.1*q.1) (dn p.2*dn q.2)
def Db (p q:Nat × Nat):Nat × Nat:=gR (p.1*dn q.2) (dn p.2*q.1)
def Bx (p q:Nat × Nat):Nat × Nat:=if p.1*dn q.2<q.1*dn p.2 then (0,1) else gR (p.1*dn q.2-q.1*dn p.2) (dn p.2*dn q.2)
abbrev qP (p:Nat × Nat):A1:=qV p.1 p.2
structure Bg (k:Nat) (p:Nat × Nat):Prop where
 n:p.1<2^k
 d:p.2<2^k
theorem zw {k n:Nat} (h:k≤64*n):2^k≤18446744073709551616^n:=by
 rw[oa];exact EX (by omega) h
theorem Bg.lim {k:Nat} {p:Nat × Nat} (h:Bg k p) (hk:k≤2000000):LimQ p.1 p.2:=by
 obtain ⟨N,hN⟩:∃ N,N=40000:=⟨_,rfl⟩;have e:2^k≤18446744073709551616^N:=zw (by omega);have a1:=b9 (by omega) (EW h.n e);have a2:=b9 (by omega) (EW h.d e);rw[hN]at a1 a2;exact ⟨a1,a2⟩
theorem Bg.dn {k:Nat} {p:Nat × Nat} (h:Bg k p) (hk:1≤k):dn p.2<2^k:=by
 unfold Pv.dn;split
 ·have:=EX (show 0<2 by omega) hk;omega
 ·exact h.d
theorem By {k m:Nat} {p q:Nat × Nat} (h1:Bg k p) (h2:Bg m q) (hk:k≤2000000) (hm:m≤2000000):Ct P 133 [qP p,qP q] [qP (EF p q)]:=Bw _ _ _ _ (h1.lim hk) (h2.lim hm)
theorem vk {k m:Nat} {p q:Nat × Nat} (h1:Bg k p) (h2:Bg m q) (hq:q.1≠0) (hk:k≤2000000) (hm:m≤2000000):Ct P 26 [qP p,qP q] [qP (Db p q),.c (eI .i64 0)]:=vi _ _ _ _ (h1.lim hk) (h2.lim hm) hq
theorem Dc {k m:Nat} {p q:Nat × Nat} (h1:Bg k p) (h2:Bg m q) (hq:q.1≠0) (hk:k≤2000000) (hm:m≤2000000):Ct P 132 [qP p,qP q] [qP (Db p q)]:=Da _ _ _ _ (h1.lim hk) (h2.lim hm) hq
theorem Bz {k m:Nat} {p q:Nat × Nat} (h1:Bg k p) (h2:Bg m q) (hk:k≤2000000) (hm:m≤2000000):Ct P 52 [qP p,qP q] [qP (Bx p q)]:=by
 unfold Bx;split
 ·rename_i h;exact wy _ _ _ _ (h1.lim hk) (h2.lim hm) h
 ·rename_i h;exact zr _ _ _ _ (h1.lim hk) (h2.lim hm) (FU h)
abbrev gS (p0 p1 p2 p3:Nat × Nat):A1:=.ag [nSl .u64 (dg 18446744073709551616 p0.1),nSl .u64 (dg 18446744073709551616 p0.2),nSl .u64 (dg 18446744073709551616 p1.1),nSl .u64 (dg 18446744073709551616 p1.2),nSl .u64 (dg 18446744073709551616 p2.1),nSl .u64 (dg 18446744073709551616 p2.2),nSl .u64 (dg 18446744073709551616 p3.1),nSl .u64 (dg 18446744073709551616 p3.2)]
def gAt (p0 p1 p2 p3:Nat × Nat) (n:Int):Nat × Nat:=if n<1 then p0 else if n=1 then p1 else if n=2 then p2 else p3
theorem uu (p0 p1 p2 p3:Nat × Nat) (n:Int):Ct P 161 [gS p0 p1 p2 p3,.c (eI .i64 n)] [qP (gAt p0 p1 p2 p3 n)]:=by
 have key:∀ v:Int,(if 3<(if (0:Int)>n then 0 else n) then 3 else (if (0:Int)>n then 0 else n))=v→(v=0∧gAt p0 p1 p2 p3 n=p0)∨(v=1∧gAt p0 p1 p2 p3 n=p1)∨(v=2∧gAt p0 p1 p2 p3 n=p2)∨(v=3∧gAt p0 p1 p2 p3 n=p3):=by
  intro v hv;by_cases h0:n<1
  ·refine .inl ⟨by split at hv<;>split at hv<;>omega,by rw[gAt,if_pos h0]⟩
  ·by_cases h1:n=1
   ·exact .inr (.inl ⟨by split at hv<;>split at hv<;>omega,by rw[gAt,if_neg h0,if_pos h1]⟩)
   ·by_cases h2:n=2
    ·exact .inr (.inr (.inl ⟨by split at hv<;>split at hv<;>omega,by rw[gAt,if_neg h0,if_neg h1,if_pos h2]⟩))
    ·exact .inr (.inr (.inr ⟨by split at hv<;>split at hv<;>omega,by rw[gAt,if_neg h0,if_neg h1,if_neg h2]⟩))
 refine Ct.go aj aa (N:=11) Tryz.func161 rfl rfl rfl rfl ?_;obtain ⟨v,hv⟩:∃ v,(if 3<(if (0:Int)>n then 0 else n) then 3 else (if (0:Int)>n then 0 else n))=v:=⟨_,rfl⟩;have hk:=key v hv;rcases hk with ⟨rfl,e⟩ | ⟨rfl,e⟩ | ⟨rfl,e⟩ | ⟨rfl,e⟩<;>rw[e] <;>
 ·refine .intro (by rw[hv]; decide) (.intro (by rw[hv]; decide) ?_);rw[hv];exact ⟨HT,rc rfl,HT⟩
theorem gV (l:List Nat) (hl:l.length≤1000000):Ct P 106 [.c (nSl .i64 l)] [.c (nSl .i64 (cw l))]:=by
 refine Ct.go aj aa (N:=23) Tryz.func106 rfl rfl rfl rfl ?_;refine .intro (by rw[ae]; omega) ?_;refine aw aj aa (λn:Nat=>n≤l.length∧cw l=cw (l.take n)) (λn=>[(0,.c (nSl .i64 l)),(3,.c (nI .i64 n))]) (λ_=>[]) (λn=>n) l.length ⟨EM _,by simp⟩ ⟨rfl,by rw[ae]; rfl,HT⟩ trivial
  (λn:Nat=>n≤l.length∧l.take n=cw l) (λn=>[(0,.c (nSl .i64 l)),(3,.c (nI .i64 n))]) (λ_=>[]) (λn hn=>?_) (λn hn=>?_)
 ·obtain ⟨hn,ht⟩:=hn;refine ah (λh1=>?_) (λh1=>?_)
  ·obtain ⟨m,rfl⟩:∃ m,n=m+1:=⟨n-1,by omega⟩;refine X1 (m:Int) (wI (by omega) (by omega) (by omega)) ?_;refine .intro (by omega) (X1 _ (al rfl (by omega)) ?_);refine aT (λh2=>?_) (λh2=>?_)
   ·refine X1 (m:Int) (wI (by omega) (by omega) (by omega)) ?_;exact ⟨m,⟨by omega,ht.trans (nU l hn (by omega))⟩,by omega,⟨rfl,rfl,HT⟩,HT⟩
   ·exact ⟨m+1,⟨hn,jF l hn ht (.inr (by simpa using h2))⟩,⟨rfl,rfl,HT⟩,HT⟩
  ·exact ⟨n,⟨hn,jF l hn ht (.inl (by omega))⟩,⟨rfl,rfl,HT⟩,HT⟩
 ·obtain ⟨hn,ht⟩:=hn;refine ⟨0,n,rfl,rfl,by omega,by rw[ae]; omega,?_⟩;have e:[]++((aF .i64 l).drop 0).take (n-0)=aF .i64 (cw l):=by rw[Hd,gl,Gd,Gy,ht]
  have hle:(((aF .i64 l).drop 0).take (n-0)).length≤1000000:=by simp[ae]; omega
  refine ⟨rfl,?_,?_,bj,?_,?_⟩
  ·show (0+(((aF .i64 l).drop 0).take (n-0)).length+768)*8≤_
   omega
  ·show 0+(((aF .i64 l).drop 0).take (n-0)).length≤_
   omega
  ·rw[gl]; exact bU
  ·exact ⟨HT,r1 (mE e),HT⟩
theorem D6 (l:List Nat) (i:Int) (hl:l.length≤1000000):Ct P 107 [.c (nSl .i64 l),.c (eI .i64 i)] [.c (nI .i64 (if 0≤i then l.getD i.toNat 0 else 0))]:=by
 refine Ct.go aj aa (N:=17) Tryz.func107 rfl rfl rfl rfl ?_;refine ah (λh1=>?_) (λh1=>?_)
 ·rw[if_neg (by omega)];exact ⟨HT,r1 rfl,HT⟩
 ·refine .intro (by rw[ae]; omega) ?_;rw[ae];refine ah (λh2=>?_) (λh2=>?_)
  ·have:l.getD i.toNat 0=0:=by
    rw[EK,E7 (by omega)]; rfl
   rw[if_pos (by omega),this];exact ⟨HT,r1 rfl,HT⟩
  ·rw[if_pos (by omega)];refine .intro (by omega) (X1 _ (xR (by omega) (by omega)) ?_);exact ⟨HT,r1 rfl,HT⟩
theorem om (l:List Nat) (i:Nat) (hl:l.length≤1000000):Ct P 107 [.c (nSl .i64 l),.c (nI .i64 i)] [.c (nI .i64 (l.getD i 0))]:=by
 have:=D6 l i hl;rwa [if_pos (Hc i),Fi]at this
abbrev dV (n:Nat):PC:=nSl .i64 (dg 256 n)
theorem zx (a b:Nat) (hab:b≤a) (hl:(dg 256 a).length≤1000000):Ct P 151 [.c (dV a),.c (dV b)] [.c (dV (a-b))]:=by
 have hlb:(dg 256 b).length≤(dg 256 a).length:=aU (by omega) hab;refine Ct.go aj aa (N:=35) Tryz.func151 rfl rfl rfl rfl ?_;refine ii (r:=50) (t:=5) (sz:=1) rfl rfl ?_;refine aw aj aa (λg:List Nat × Nat=>g.1.length≤(dg 256 a).length∧Dig 256 g.1∧g.2≤1∧val 256 ((dg 256 a).take g.1.length)+256^g.1.length*g.2=val 256 ((dg 256 b).take g.1.length)+val 256 g.1)
  (λg=>[(0,.c (dV a)),(1,.c (dV b)),(5,.c (.ow 50 1 g.1.length)),(6,.c (nI .i64 g.2)),(7,.c (nI .i64 g.1.length))]) (λg=>[(50,.row 1 (aF .i64 g.1))]) (λg=>(dg 256 a).length-g.1.length)
  ([],0) ⟨by simp,.nil,by simp,by simp[val]⟩ ⟨rfl,rfl,rfl,rfl,rfl,HT⟩ ⟨rfl,HT⟩
  (λl:List Nat=>Dig 256 l∧val 256 l=a-b∧l.length≤1000000) (λl=>[(5,.c (.ow 50 1 l.length))]) (λl=>[(50,.row 1 (aF .i64 l))]) (λg hg=>?_) (λl hl=>?_)
 ·obtain ⟨l,c⟩:=g;obtain ⟨h1,h2,h3,h4⟩:=hg;simp only at h1 h2 h3 h4;refine .intro (by rw[ae]; omega) ?_;rw[ae];refine ah (λh5=>?_) (λh5=>?_)
  ·replace h5:(l.length:Int)<(dg 256 a).length:=h5;refine X1 _ (om (dg 256 a) l.length hl) ?_;have hx:=(bq (B:=256) (by omega) a).getD (by omega) l.length;have hy:=(bq (B:=256) (by omega) b).getD (by omega) l.length;have hA:=aD 256 (dg 256 a) l.length;have hB:=aD 256 (dg 256 b) l.length;generalize (dg 256 a).getD l.length 0=x at hx hA ⊢;generalize hyy:(dg 256 b).getD l.length 0=y at hy hB;refine X1 ((256+x:Nat):Int) (wI (by omega) (by omega) (by omega)) ?_;refine X1 _ (om (dg 256 b) l.length (by omega)) ?_;rw[hyy];refine X1 ((256+x-y:Nat):Int) (wI (by omega) (by omega) (by omega)) ?_;refine X1 ((256+x-y-c:Nat):Int) (wI (by omega) (by omega) (by omega)) ?_;obtain ⟨v,hv⟩:∃ v,v=256+x-y-c:=⟨_,rfl⟩;rw[←hv];refine .intro (by omega) (X1 ((v%256:Nat):Int) (by rw[GF (by omega)]; omega) (.intro ⟨by omega,by omega⟩ ?_));refine ko rfl (by simp; omega) fo ?_;refine .intro (by omega) (X1 ((v/256:Nat):Int) (by rw[FS (by omega)]; omega) (.intro ⟨by omega,by omega⟩ ?_));refine X1 ((1-v/256:Nat):Int) (wI (by omega) (by omega) (by omega)) ?_;refine X1 ((l.length+1:Nat):Int) (wI (by simp) (by omega) (by omega)) ?_;refine ⟨(l++[v%256],1-v/256),⟨by simp<;>omega,h2.snoc (by omega),by simp<;>omega,?_⟩,by simp<;>omega,⟨rfl,rfl,owE (by simp[ae]),rfl,iE (by simp),HT⟩,⟨aB (gk (m:=[v%256])),HT⟩⟩;simp only[EL,Fo,GN,hA,hB,nW];have key:x+256*(1-v/256)=v%256+y+c:=by omega
   have k2:256^l.length*(x+256*(1-v/256))=256^l.length*(v%256+y+c):=by rw[key]
   rw[Fj,E4];simp only[Fe]at k2;omega
  ·replace h5:¬ (l.length:Int)<(dg 256 a).length:=h5;have e:l.length=(dg 256 a).length:=by omega
   refine ⟨l,⟨h2,?_,by omega⟩,⟨rfl,HT⟩,⟨rfl,HT⟩⟩;rw[e,aV (EM _),aV hlb,bf (by omega),bf (by omega)]at h4;have h6:=ek (by omega:0<256) h2;rw[e]at h6;have h7:c=0:=by
    rcases Gn c with h | h
    ·exact h
    ·have:c=1:=by omega
     subst this;omega
   subst h7;omega
 ·obtain ⟨h1,h2,h3⟩:=hl;refine X2 .frz ?_;refine X1 _ (gV l h3) ?_;rw[cq (by omega) h1,h2];exact ⟨HT,r1 rfl,HT⟩
theorem zy (v:Nat) (hv:v<18446744073709551616):Ct P 77 [.c (nI .u64 v)] [.c (dV v)]:=by
 refine Ct.go aj aa (N:=15) Tryz.func77 rfl rfl rfl rfl ?_;refine ii (r:=50) (t:=3) (sz:=1) rfl rfl ?_;refine aw aj aa (λg:List Nat × Nat=>g.2≤v∧g.1++dg 256 g.2=dg 256 v)
  (λg=>[(0,.c (nI .u64 g.2)),(3,.c (.ow 50 1 g.1.length))]) (λg=>[(50,.row 1 (aF .i64 g.1))]) (λg=>g.2)
  ([],v) ⟨EM _,rfl⟩ ⟨rfl,rfl,HT⟩ ⟨rfl,HT⟩
  (λ_:Unit=>True) (λ_=>[(3,.c (.ow 50 1 (dg 256 v).length))]) (λ_=>[(50,.row 1 (aF .i64 (dg 256 v)))]) (λg hg=>?_) (λl _=>?_)
 ·obtain ⟨l,c⟩:=g;obtain ⟨h1,h2⟩:=hg;simp only at h1 h2;refine ah (λh5=>?_) (λh5=>?_)
  ·replace h5:(c:Int)>0:=h5;refine .intro (by omega) (X1 ((c%256:Nat):Int) (by show (c:Int).tmod 256=_; rw[GF (by omega)]; omega) (.intro ⟨by omega,by omega⟩ ?_));refine X1 ((c%256:Nat):Int) (wI rfl (by omega) (by omega)) ?_;have hlen:(dg 256 v).length≤8:=b9 (by omega) hv;have hl2:l.length≤8:=by rw[←h2,EL]at hlen; omega
   refine ko rfl (by simp; omega) fo ?_;refine .intro (by omega) (X1 ((c/256:Nat):Int) (by show (c:Int).tdiv 256=_; rw[FS (by omega)]; omega) (.intro ⟨by omega,by omega⟩ ?_));refine ⟨(l++[c%256],c/256),⟨by show c/256≤v; omega,?_⟩,by show c/256<c; omega,⟨rfl,owE (by simp[ae]),HT⟩,⟨aB (gk (m:=[c%256])),HT⟩⟩;rw[←h2,eY (n:=c) (by omega) (by omega)];simp
  ·replace h5:¬ (c:Int)>0:=h5;have hc:c=0:=by omega
   subst hc;rw[ba,GB]at h2;subst h2;exact ⟨(),HT,⟨rfl,HT⟩,⟨rfl,HT⟩⟩
 ·exact ⟨HT,r1 rfl,HT⟩
def kP (a b:Nat):Int:=if a<b then -1 else if b<a then 1 else 0
theorem uv (a b:Nat) (ha:(dg 256 a).length≤1000000) (hb:(dg 256 b).length≤1000000):Ct P 59 [.c (dV a),.c (dV b)] [.c (eI .i64 (kP a b))]:=by
 refine Ct.go aj aa (N:=41) Tryz.func59 rfl rfl rfl rfl ?_;refine .intro (by rw[ae]; omega) ?_;refine .intro (by rw[ae]; omega) ?_;rw[ae,ae];refine dE (λh=>?_) (λh=>?_)
 ·refine .intro (by rw[ae]; omega) ?_;refine .intro (by rw[ae]; omega) ?_;rw[ae,ae];refine ah (λh2=>?_) (λh2=>?_)
  ·have:a<b:=iS (B:=256) (by omega) (by omega);exact ⟨HT,r1 (iE (by rw[kP,if_pos this])),HT⟩
  ·have:b<a:=iS (B:=256) (by omega) (by omega:(dg 256 b).length<(dg 256 a).length);exact ⟨HT,r1 (iE (by rw[kP,if_neg (by omega),if_pos this])),HT⟩
 ·have hlen:(dg 256 a).length=(dg 256 b).length:=by omega
  refine .intro (by rw[ae]; omega) ?_;rw[ae];refine X1 (((dg 256 a).length:Int)-1) (wi (by omega) (by omega)) ?_;refine aw aj aa (λn:Nat=>n≤(dg 256 a).length∧(dg 256 a).drop n=(dg 256 b).drop n)
   (λn=>[(0,.c (dV a)),(1,.c (dV b)),(5,.c (eI .i64 ((n:Int)-1)))]) (λ_=>[]) (λn=>n)
   (dg 256 a).length ⟨EM _,by rw[Gl,F6 (by omega)]⟩ ⟨rfl,rfl,rfl,HT⟩ trivial
   (λ_:Unit=>a=b) (λ_=>[]) (λ_=>[]) (λn hn=>?_) (λ_ he=>?_)
  ·obtain ⟨h1,h2⟩:=hn;refine ah (λh5=>?_) (λh5=>?_)
   ·obtain ⟨m,rfl⟩:∃ m,n=m+1:=⟨n-1,by omega⟩;have hA:=bq (B:=256) (by omega) a;have hB:=bq (B:=256) (by omega) b;have vA:=bf (B:=256) (by omega) a;have vB:=bf (B:=256) (by omega) b;refine .intro (by omega) (X1 _ (al (n:=m) (by omega) (by omega)) ?_);refine .intro (by omega) (X1 _ (al (n:=m) (by omega) (by omega)) ?_);refine .intro rfl ?_;refine ah (λh6=>?_) (λh6=>?_)
    ·have:=iT (B:=256) (by omega) hA hlen (by omega) h2 (by omega);exact ⟨HT,r1 (iE (by rw[kP,if_pos (by omega)])),HT⟩
    ·refine .intro (by omega) (X1 _ (al (n:=m) (by omega) (by omega)) ?_);refine .intro (by omega) (X1 _ (al (n:=m) (by omega) (by omega)) ?_);refine .intro rfl ?_;refine ah (λh7=>?_) (λh7=>?_)
     ·have:=iT (B:=256) (by omega) hB hlen.symm (by omega) h2.symm (by omega);exact ⟨HT,r1 (iE (by rw[kP,if_neg (by omega),if_pos (by omega)])),HT⟩
     ·refine X1 ((m:Int)-1) (wI (by omega) (by omega) (by omega)) ?_;refine ⟨m,⟨by omega,?_⟩,by omega,⟨rfl,rfl,rfl,HT⟩,HT⟩;have e1:(dg 256 a).getD m 0=(dg 256 b).getD m 0:=by omega
      rw[EK,EK,Fc (by omega:m<(dg 256 a).length),Fc (by omega:m<(dg 256 b).length)]at e1;rw[Fk (by omega:m<(dg 256 a).length),Fk (by omega:m<(dg 256 b).length),h2];simp only[Gk]at e1;rw[e1]
   ·have hn:n=0:=by omega
    subst hn;refine ⟨(),?_,HT,HT⟩;rw[Gd,Gd]at h2;rw[←bf (B:=256) (by omega) a,h2,bf (by omega)]
  ·exact ⟨HT,r1 (iE (by rw[kP,if_neg (by omega),if_neg (by omega)])),HT⟩
theorem BA (la lb:List Nat) (ha:la.length≤400000) (hb:lb.length≤400000) (hA:Dig 256 la) (hB:Dig 256 lb):Ct P 60 [.c (nSl .i64 la),.c (nSl .i64 lb)] [.c (dV (val 256 la*val 256 lb))]:=by
 obtain ⟨b,hb0⟩:∃ b,b=val 256 lb:=⟨_,rfl⟩;have bB:b<256^lb.length:=hb0▸ek (by omega) hB;rw[←hb0];refine Ct.go aj aa (N:=57) Tryz.func60 rfl rfl rfl rfl ?_;refine .intro (by rw[ae]; omega) ?_;refine .intro (by rw[ae]; omega) ?_;rw[ae,ae];refine X1 ((la.length+lb.length:Nat):Int) (wI (by omega) (by omega) (by omega)) ?_;refine X1 ((la.length+lb.length+1:Nat):Int) (wI (by omega) (by omega) (by omega)) ?_;refine ⟨by omega,by omega,by omega,.inl (by decide),?_⟩;refine aw aj aa (λg:Nat × List Nat=>g.1≤la.length∧g.2.length=la.length+lb.length+1∧Dig 256 g.2∧val 256 g.2=val 256 (la.take g.1)*b)
  (λ(i,out)=>[(0,.c (nSl .i64 la)),(1,.c (nSl .i64 lb)),(5,.c (.ow 16 1 (la.length+lb.length+1))),(6,.c (nI .i64 i))]) (λ(i,out)=>[(16,.row 1 (aF .i64 out))]) (λ(i,out)=>la.length-i)
  (0,List.replicate (la.length+lb.length+1) 0) ⟨by simp,by simp,λx hx=>by rw[FG hx]; omega,by simp[val,kr]⟩ ⟨rfl,rfl,owE (by omega),rfl,HT⟩ ⟨aB (fh rfl),HT⟩
  (λl:List Nat=>l.length≤1000000∧Dig 256 l∧val 256 l=val 256 la*b) (λl=>[(5,.c (.ow 16 1 (la.length+lb.length+1)))]) (λl=>[(16,.row 1 (aF .i64 l))]) (λg hg=>?_) (λl hl=>?_)
 ·obtain ⟨i,out⟩:=g;obtain ⟨h1,h2,h3,h4⟩:=hg;simp only at h1 h2 h3 h4;refine .intro (by rw[ae]; omega) ?_;rw[ae];refine ah (λh5=>?_) (λh5=>?_)
  ·replace h5:(i:Int)<la.length:=h5;have hx:=hA.getD (by omega) i;have hT:=aD 256 la i;generalize hxx:la.getD i 0=x at hx hT;have bT:val 256 (la.take (i+1))<256^(i+1):=by
    have:=ek (by omega:0<256) (hA.take (n:=i+1));rwa [E3,Gj (by omega)]at this
   refine cn aj aa (λg:Nat × List Nat × Nat=>g.1≤lb.length+1∧g.2.1.length=la.length+lb.length+1∧Dig 256 g.2.1∧g.2.2<256∧val 256 g.2.1+256^(i+g.1)*g.2.2=val 256 (la.take i)*b+256^i*(x*val 256 (lb.take g.1)))
    (λ(k,o2,c)=>[(0,.c (nSl .i64 la)),(1,.c (nSl .i64 lb)),(5,.c (.ow 16 1 (la.length+lb.length+1))),(6,.c (nI .i64 i)),(7,.c (nI .i64 c)),(8,.c (nI .i64 k))]) (λ(k,o2,c)=>[(16,.row 1 (aF .i64 o2))]) (λ(k,o2,c)=>lb.length+1-k)
    (0,out,0) ⟨by simp,h2,h3,by simp,by simp[val,h4]⟩ ⟨rfl,rfl,rfl,rfl,rfl,rfl,HT⟩ ⟨rfl,HT⟩ (λg hg=>?_)
   obtain ⟨k,o2,c⟩:=g;obtain ⟨g1,g2,g3,g4,g5⟩:=hg;simp only at g1 g2 g3 g4 g5;refine .intro (by rw[ae]; omega) ?_;rw[ae];refine ah (λh6=>?_) (λh6=>?_)
   ·replace h6:(k:Int)≤lb.length:=h6;have hy:=hB.getD (by omega) k;have hz:=g3.getD (by omega) (i+k);have hTB:=aD 256 lb k;have hset:=λv:Nat=>fS (B:=256) (l:=o2) (i:=i+k) (x:=v) (by omega)
    generalize hzz:o2.getD (i+k) 0=z at hz hset;refine X1 ((i+k:Nat):Int) (wI (by simp) (by omega) (by omega)) ?_;refine .intro (by omega) (.intro (by simp<;>omega) ?_);refine X1 _ (al rfl (by omega)) ?_;refine .intro (by omega) (X1 _ (al rfl (by omega)) ?_);refine X1 _ (om lb k (by omega)) ?_;rw[hzz,hxx];generalize hyy:lb.getD k 0=y at hy hTB;have hxy:x*y≤255*255:=FQ (by omega) (by omega);refine X1 ((x*y:Nat):Int) (wI (by simp) (by omega) (by omega)) ?_;refine X1 ((z+x*y:Nat):Int) (wI (by simp) (by omega) (by omega)) ?_;refine X1 ((z+x*y+c:Nat):Int) (wI (by simp) (by omega) (by omega)) ?_;refine .intro rfl ?_;obtain ⟨v,hv⟩:∃ v,v=z+x*y+c:=⟨_,rfl⟩;rw[←hv];refine X1 ((i+k:Nat):Int) (wI (by simp) (by omega) (by omega)) ?_;refine .intro (by omega) (X1 ((v%256:Nat):Int) (ix rfl) (.intro ⟨by omega,by omega⟩ ?_));refine .intro (by omega) (.intro (by simp<;>omega) ?_);refine X1 _ (al rfl (by omega)) ?_;refine .intro (by omega) (X1 ((v/256:Nat):Int) (ic rfl) (.intro ⟨by omega,by omega⟩ ?_));refine X1 ((k+1:Nat):Int) (wI (by simp) (by omega) (by omega)) ?_;refine ⟨(k+1,o2.set (i+k) (v%256),v/256),⟨by show k+1≤_; omega,by simp[g2],g3.set (by omega),by show v/256<256; omega,?_⟩,by show lb.length+1-(k+1)<lb.length+1-k; omega,⟨rfl,rfl,rfl,rfl,rfl,rfl,HT⟩,⟨aB nRow_set,HT⟩⟩;show val 256 (o2.set (i+k) (v%256))+256^(i+(k+1))*(v/256)=val 256 (la.take i)*b+256^i*(x*val 256 (lb.take (k+1)))
    have hs:=hset (v%256);have e1:256^(i+(k+1))*(v/256)+256^(i+k)*(v%256)=256^(i+k)*v:=by
     rw[←FN,Fj,E4,←Fe];congr 1; omega
    have e2:256^(i+k)*v=256^(i+k)*z+256^(i+k)*(x*y)+256^(i+k)*c:=by rw[hv,Fe,Fe]
    have e3:256^i*(x*val 256 (lb.take (k+1)))=256^i*(x*val 256 (lb.take k))+256^(i+k)*(x*y):=by
     rw[hTB,Fe,Fe,FH,E4,FL x]
    omega
   ·replace h6:¬ (k:Int)≤lb.length:=h6;have hk:k=lb.length+1:=by omega
    subst hk;rw[aV (l:=lb) (by omega),←hb0]at g5;have e4:val 256 (la.take (i+1))*b=val 256 (la.take i)*b+256^i*(x*b):=by rw[hT,E8,E4]
    have e5:val 256 (la.take (i+1))*b<256^(i+1)*256^lb.length:=HC bT bB;rw[←FH,show i+1+lb.length=i+(lb.length+1) by omega]at e5;have hc:c=0:=by
     rcases Gn c with h | h
     ·exact h
     ·have:=FF (256^(i+(lb.length+1))) h;omega
    subst hc;refine X1 ((i+1:Nat):Int) (wI1 (by omega)) ?_;exact ⟨(i+1,o2),⟨by show i+1≤_; omega,g2,g3,by show val 256 o2=val 256 (la.take (i+1))*b; omega⟩,by show la.length-(i+1)<la.length-i; omega,⟨rfl,rfl,rfl,rfl,HT⟩,⟨rfl,HT⟩⟩
  ·replace h5:¬ (i:Int)<la.length:=h5;refine ⟨out,⟨by omega,h3,?_⟩,⟨rfl,HT⟩,⟨rfl,HT⟩⟩;rw[h4,aV (by omega)]
 ·obtain ⟨h1,h2,h3⟩:=hl;refine X2 .frz ?_;refine X1 _ (gV l h1) ?_;rw[cq (by omega) h2,h3];exact ⟨HT,r1 rfl,HT⟩
theorem eG (a b:Nat) (ha:(dg 256 a).length≤400000) (hb:(dg 256 b).length≤400000):Ct P 60 [.c (dV a),.c (dV b)] [.c (dV (a*b))]:=by
 have:=BA (dg 256 a) (dg 256 b) ha hb (bq (by omega) a) (bq (by omega) b);rwa [bf (by omega),bf (by omega)]at this
theorem zz {l:List Nat} {i:Nat} (h:l.getD i 0=0):l.set i 0=l:=by
 apply Hf;intro j;rw[F3];by_cases hij:i=j
 ·subst hij;by_cases hl:i<l.length
  ·rw[EK,Fc hl]at h;simp only[Gk]at h;simp[hl,h]
  ·simp[hl]
 ·simp[hij]
theorem oq (a b:Nat) (hb0:b≠0) (ha:(dg 256 a).length≤400000) (hb:(dg 256 b).length≤400000):Ct P 105 [.c (dV a),.c (dV b)] [.c (dV (a/b)),.c (dV (a%b))]:=by
 have hA:=bq (B:=256) (by omega) a;have vA:=bf (B:=256) (by omega) a;refine Ct.go aj aa (N:=45) Tryz.func105 rfl rfl rfl rfl ?_;refine .intro (by rw[ae]; omega) ?_;rw[ae];refine ⟨by omega,by omega,by omega,.inl (by decide),?_⟩;refine .intro (by rw[ae]; omega) ?_;rw[ae];refine X1 (((dg 256 a).length:Int)-1) (wi (by omega) (by omega)) ?_;refine AD (t:=7) (sz:=1) rfl ?_;refine aw aj aa (G:=Nat × List Nat × Nat) (λ(n,q,r)=>n≤(dg 256 a).length∧q.length=(dg 256 a).length∧Dig 256 q∧(∀ j,j<n→q.getD j 0=0)∧r<b∧val 256 ((dg 256 a).drop n)=b*val 256 (q.drop n)+r)
  (λ(n,q,r)=>[(0,.c (dV a)),(1,.c (dV b)),(6,.c (.ow 11 1 (dg 256 a).length)),(7,.c (dV r)),(8,.c (eI .i64 ((n:Int)-1)))]) (λ((n,q,r):Nat × List Nat × Nat)=>[(11,.row 1 (aF .i64 q))]) (λ(n,q,r)=>n)
  ((dg 256 a).length,List.replicate (dg 256 a).length 0,0) ⟨EM _,by simp,λx hx=>by rw[FG hx]; omega,λj hj=>by simp[EK,Gg,hj],by omega,by simp[val]⟩
  ⟨rfl,rfl,owE (by omega),mE (l:=dg 256 0) (by rw[ba]; rfl),rfl,HT⟩ ⟨aB (fh rfl),HT⟩
  (λl:List Nat=>l.length≤1000000∧Dig 256 l∧val 256 l=a/b) (λl=>[(6,.c (.ow 11 1 (dg 256 a).length)),(7,.c (dV (a%b)))]) (λl=>[(11,.row 1 (aF .i64 l))]) (λg hg=>?_) (λl hl=>?_)
 ·obtain ⟨n,q,r⟩:=g;obtain ⟨h1,h2,h3,h4,h5,h6⟩:=hg;have hlr:(dg 256 r).length≤400000:=EQ (aU (by omega) (by omega)) hb;refine ah (λh7=>?_) (λh7=>?_)
  ·obtain ⟨m,rfl⟩:∃ m,n=m+1:=⟨n-1,by omega⟩;have hx:=hA.getD (by omega) m;have hdrop:val 256 ((dg 256 a).drop m)=(dg 256 a).getD m 0+256*val 256 ((dg 256 a).drop (m+1)):=by
    rw[Fk (by omega),val];simp[EK,(by omega:m<(dg 256 a).length)]
   have hq0:=h4 m (by omega);have hdq:∀ t,val 256 ((q.set m t).drop m)=t+256*val 256 (q.drop (m+1)):=λt=>by
    rw[Fk (by simp; omega),val];simp[List.drop_set]
   refine .intro (by omega) (X1 _ (al (n:=m) (by omega) (by omega)) ?_);generalize (dg 256 a).getD m 0=x at hx hdrop ⊢;refine ko (l:=[x]) rfl (by simp[ae]; omega) bU ?_;refine X2 .frz ?_;have htr:=gV ([x]++dg 256 r) (by simp; omega);rw[cq (by omega) (Dig.app (.cons hx .nil) (bq (by omega) r)),iR,bf (by omega)]at htr;have hL:val 256 [x]+256^[x].length*r=x+256*r:=by simp[val]
   rw[hL]at htr;refine X1 _ (show Ct P 106 [.c (.sl 1 (aF .i64 [x]++aF .i64 (dg 256 r)))] [.c (dV (x+256*r))] by rw[gk]; exact htr) ?_;have hLb:x+256*r<256*b:=by omega
   refine cn aj aa (λt:Nat=>t*b≤x+256*r)
    (λt=>[(0,.c (dV a)),(1,.c (dV b)),(6,.c (.ow 11 1 (dg 256 a).length)),(7,.c (dV (x+256*r-t*b))),(8,.c (nI .i64 m))]) (λt=>[(11,.row 1 (aF .i64 (q.set m t)))]) (λt=>256-t)
    0 (by simp) ⟨rfl,rfl,rfl,mE (by rw[HF,Gy]),iE (by omega),HT⟩ ⟨aB (by rw[zz hq0]),HT⟩ (λt ht=>?_)
   have ht256:t<256:=by
    apply GR;intro hge;have:=EU b hge;omega
   have hll:(dg 256 (x+256*r-t*b)).length≤400001:=by
    have h8:=bl (B:=256) (by omega) b;have:x+256*r-t*b<256^((dg 256 b).length+1):=by rw[Fj]; omega
    have:=b9 (B:=256) (by omega) this;omega
   refine X1 _ (uv (x+256*r-t*b) b (by omega) (by omega)) ?_;refine ah (λh8=>?_) (λh8=>?_)
   ·have hge:b≤x+256*r-t*b:=by
     apply FU;intro hlt;rw[kP,if_pos hlt]at h8;omega
    refine X1 _ (zx (x+256*r-t*b) b hge (by omega)) ?_;refine .intro (by omega) (.intro (by omega) ?_);refine X1 _ (al rfl (by simp; omega)) ?_;have hgt:(q.set m t).getD m 0=t:=by simp[EK,h2,(by omega:m<(dg 256 a).length)]
    rw[hgt];refine X1 ((t+1:Nat):Int) (wI (by simp) (by omega) (by omega)) ?_;refine .intro (by omega) (.intro (by omega) ?_);refine X1 _ (al rfl (by simp; omega)) ?_;have hmul:(t+1)*b=t*b+b:=by rw[E8,Fx]
    refine ⟨t+1,by show (t+1)*b≤_; omega,by show 256-(t+1)<256-t; omega,⟨rfl,rfl,rfl,mE (congrArg _ (congrArg _ (by omega))),rfl,HT⟩,⟨aB (nRow_set.trans (congrArg _ (HI ..))),HT⟩⟩
   ·have hlt:x+256*r-t*b<b:=by
     apply GR;intro hge;apply h8;rw[kP,if_neg (by omega)];split<;>omega
    refine X1 ((m:Int)-1) (wI rfl (by omega) (by omega)) ?_;refine ⟨(m,q.set m t,x+256*r-t*b),⟨by omega,by simp[h2],h3.set (by omega),λj hj=>?_,hlt,?_⟩,by show m<m+1; omega,⟨rfl,rfl,rfl,rfl,rfl,HT⟩,⟨rfl,HT⟩⟩
    ·have:=h4 j (by omega);rw[EK]at this ⊢;rw[List.getElem?_set_ne (by omega)]; exact this
    ·rw[hdrop,hdq,h6];simp only[Fe];have:t*b=b*t:=E5 _ _;have:b*(256*val 256 (q.drop (m+1)))=256*(b*val 256 (q.drop (m+1))):=FL _ _ _;omega
  ·have hn:n=0:=by omega
   subst hn;rw[Gd,Gd,vA]at h6;have e1:val 256 q=a/b:=by
    rw[h6,Nat.mul_add_div (by omega),Ge h5]; rfl
   have e2:r=a%b:=by
    rw[h6,HD,Fg h5]
   refine ⟨q,⟨by omega,h3,e1⟩,⟨rfl,mE (by rw[e2]),HT⟩,⟨rfl,HT⟩⟩
 ·obtain ⟨h1,h2,h3⟩:=hl;refine X2 .frz ?_;refine X1 _ (gV l h1) ?_;rw[cq (by omega) h2,h3];exact ⟨HT,r1 rfl,r1 rfl,HT⟩
theorem Dd (a b:Nat) (ha:(dg 256 a).length≤400000) (hb:(dg 256 b).length≤400000):Ct P 122 [.c (dV a),.c (dV b)] [.c (dV (Nat.gcd a b))]:=by
 refine Ct.go aj aa (N:=19) Tryz.func122 rfl rfl rfl rfl ?_;refine aw aj aa (G:=Nat × Nat) (λ(x,y)=>Nat.gcd x y=Nat.gcd a b∧(dg 256 x).length≤400000∧(dg 256 y).length≤400000) (λ(x,y)=>[(0,.c (dV x)),(1,.c (dV y))]) (λ_=>[]) (λ(x,y)=>y)
  (a,b) ⟨rfl,ha,hb⟩ ⟨rfl,rfl,HT⟩ HT (λ_:Unit=>True) (λ_=>[(0,.c (dV (Nat.gcd a b)))]) (λ_=>[]) (λg hg=>?_) (λ_ _=>?_)
 ·obtain ⟨x,y⟩:=g;obtain ⟨h1,h2,h3⟩:=hg;refine .intro (by rw[ae]; omega) ?_;rw[ae];refine ah (λh4=>?_) (λh4=>?_)
  ·have hy:y≠0:=by
    rintro rfl
    rw[ba]at h4;simp at h4
   refine X1 _ (oq x y hy h2 h3) ?_;have hlt:x%y<y:=FM _ (by omega);exact ⟨(y,x%y),⟨by rw[←h1,HP x y,Nat.gcd_rec y x,HP],h3,EQ (aU (by omega) (by omega)) h3⟩,hlt,⟨rfl,rfl,HT⟩,HT⟩
  ·have hy:y=0:=(fB (B:=256) (by omega)).1 (Fd.1 (by omega));subst hy;rw[Nat.gcd_zero_right]at h1;exact ⟨(),HT,⟨mE (by rw[h1]),HT⟩,HT⟩
 ·exact ⟨HT,r1 rfl,HT⟩
abbrev rV (n d:Nat):A1:=.ag [dV n,dV d]
theorem wz:dg 256 1=[1]:=by rw[eY (by omega) (by omega)]; simp[ba]
theorem qG (n d:Nat) (hd:d≠0) (hn:(dg 256 n).length≤400000) (hl:(dg 256 d).length≤400000):Ct P 76 [.c (dV n),.c (dV d)] [rV (n/Nat.gcd n d) (d/Nat.gcd n d)]:=by
 refine Ct.go aj aa (N:=33) Tryz.func76 rfl rfl rfl rfl ?_;refine X1 _ (Dd n d hn hl) ?_;refine .intro (by rw[ae]; omega) ?_;rw[ae];have hg:Nat.gcd n d≠0:=λh=>hd (Nat.gcd_eq_zero_iff.1 h).2
 have hgl:(dg 256 (Nat.gcd n d)).length≤400000:=EQ (aU (by omega) (Nat.gcd_le_right n (by omega))) hl;refine aT (λh=>?_) (λh=>?_)
 ·have h0:n=0:=(fB (B:=256) (by omega)).1 (Fd.1 (by omega));subst h0;rw[G3,Hw,Hx (by omega)];have e:dV 1=nSl .i64 [1]:=by rw[dV,wz]
  have e0:dV 0=nSl .i64 []:=by rw[dV,ba]
  rw[rV,e,e0];exact ⟨HT,⟨_,rfl,.inr ⟨rfl,1,rfl⟩,.inl rfl,HT⟩,HT⟩
 ·refine X1 _ (oq n _ hg hn hgl) ?_;refine X1 _ (oq d _ hg hl hgl) ?_;exact ⟨HT,rc rfl,HT⟩
theorem aI (v:Nat) (hv:v<9223372036854775808):Ct P 32 [.c (nI .i64 v)] [rV v 1]:=by
 refine Ct.go aj aa (N:=8) Tryz.func32 rfl rfl rfl rfl ?_;refine X1 (v:Int) (wU rfl (by omega) (by omega)) ?_;refine X1 _ (zy v (by omega)) ?_;have e:dV 1=nSl .i64 [1]:=by rw[dV,wz]
 rw[rV,e];exact ⟨HT,rc rfl,HT⟩
theorem et {a b:Nat} {k m:Nat} (ha:(dg 256 a).length≤k) (hb:(dg 256 b).length≤m):(dg 256 (a*b)).length≤k+m:=by
 apply b9 (by omega);have h1:=bl (B:=256) (by omega) a;have h2:=bl (B:=256) (by omega) b;have h3:a*b<256^(dg 256 a).length*256^(dg 256 b).length:=HC h1 h2;rw[←FH]at h3;exact EW h3 (EX (by omega) (by omega))
abbrev rR (n d:Nat):A1:=rV (n/Nat.gcd n d) (d/Nat.gcd n d)
structure Lim (n d:Nat):Prop where
 pos:d≠0
 n:(dg 256 n).length≤100000
 d:(dg 256 d).length≤100000
theorem BB (a b c d:Nat) (h1:Lim a b) (h2:Lim c d):Ct P 56 [rV a b,rV c d] [rR (a*c) (b*d)]:=by
 refine Ct.go aj aa (N:=16) Tryz.func56 rfl rfl rfl rfl ?_;refine X1 _ (eG a c (by have:=h1.n; omega) (by have:=h2.n; omega)) ?_;refine X1 _ (eG b d (by have:=h1.d; omega) (by have:=h2.d; omega)) ?_;refine X1 _ (qG (a*c) (b*d) (Ff h1.pos h2.pos) (EQ (et h1.n h2.n) (by omega)) (EQ (et h1.d h2.d) (by omega))) ?_;refine .intro rfl ?_;exact ⟨HT,rc rfl,HT⟩
theorem BC (a b c d:Nat) (h1:Lim a b) (h2:Lim c d) (hc:c≠0):Ct P 31 [rV a b,rV c d] [rR (a*d) (b*c)]:=by
 refine Ct.go aj aa (N:=16) Tryz.func31 rfl rfl rfl rfl ?_;refine X1 _ (eG a d (by have:=h1.n; omega) (by have:=h2.d; omega)) ?_;refine X1 _ (eG b c (by have:=h1.d; omega) (by have:=h2.n; omega)) ?_;refine X1 _ (qG (a*d) (b*c) (Ff h1.pos hc) (EQ (et h1.n h2.d) (by omega)) (EQ (et h1.d h2.n) (by omega))) ?_;refine .intro rfl ?_;exact ⟨HT,rc rfl,HT⟩
theorem BD (a b c d:Nat) (h1:Lim a b) (h2:Lim c d):Ct P 75 [rV a b,rV c d] [.c (eI .i64 (kP (a*d) (c*b)))]:=by
 refine Ct.go aj aa (N:=16) Tryz.func75 rfl rfl rfl rfl ?_;refine X1 _ (eG a d (by have:=h1.n; omega) (by have:=h2.d; omega)) ?_;refine X1 _ (eG c b (by have:=h2.n; omega) (by have:=h1.d; omega)) ?_;refine X1 _ (uv (a*d) (c*b) (EQ (et h1.n h2.d) (by omega)) (EQ (et h2.n h1.d) (by omega))) ?_;refine .intro rfl ?_;exact ⟨HT,r1 rfl,HT⟩
theorem zA (a b c d:Nat) (h1:Lim a b) (h2:Lim c d):Ct P 119 [rV a b,rV c d] [rR (a*d-c*b) (b*d)]:=by
 refine Ct.go aj aa (N:=27) Tryz.func119 rfl rfl rfl rfl ?_;refine X1 _ (BD a b c d h1 h2) ?_;refine ah (λh=>?_) (λh=>?_)
 ·have hlt:a*d<c*b:=by
   unfold kP at h;split at h
   ·assumption
   ·split at h<;>omega
  refine X1 _ (aI 0 (by omega)) ?_;have hbd:=Ff h1.pos h2.pos;rw[rR,show a*d-c*b=0 by omega,G3,Hw,Hx (by omega)];exact ⟨HT,rc rfl,HT⟩
 ·have hge:c*b≤a*d:=by
   apply FU;intro hlt;rw[kP,if_pos hlt]at h;omega
  have l1:=et h1.n h2.d;have l2:=et h1.d h2.d;refine X1 _ (eG a d (by have:=h1.n; omega) (by have:=h2.d; omega)) ?_;refine X1 _ (eG c b (by have:=h2.n; omega) (by have:=h1.d; omega)) ?_;refine X1 _ (zx (a*d) (c*b) hge (by omega)) ?_;refine X1 _ (eG b d (by have:=h1.d; omega) (by have:=h2.d; omega)) ?_;refine X1 _ (qG (a*d-c*b) (b*d) (Ff h1.pos h2.pos) (EQ (aU (by omega) (Nat.sub_le _ _)) (by omega)) (by omega)) ?_;refine .intro rfl ?_;exact ⟨HT,rc rfl,HT⟩
theorem pK (la lb:List Nat) (dA:Dig 256 la) (dB:Dig 256 lb) (ha:la.length≤900000) (hb:lb.length≤900000):Ct P 61 [.c (nSl .i64 la),.c (nSl .i64 lb)] [.c (dV (val 256 la+val 256 lb))]:=by
 obtain ⟨m,hm⟩:∃ m,m=max la.length lb.length:=⟨_,rfl⟩;have hma:la.length≤m:=by rw[hm]; exact Nat.le_max_left _ _
 have hmb:lb.length≤m:=by rw[hm]; exact Nat.le_max_right _ _
 have hml:m≤900000:=by rw[hm]; exact Nat.max_le.2 ⟨ha,hb⟩
 have hmx:(if (lb.length:Int)>(la.length:Int) then (lb.length:Int) else (la.length:Int))=(m:Int):=by
  rw[hm]; split<;>omega
 have hab:val 256 la+val 256 lb<256^(m+1):=by
  have h1:=ek (B:=256) (by omega) dA;have h2:=ek (B:=256) (by omega) dB;have h3:=EX (show 0<256 by omega) hma;have h4:=EX (show 0<256 by omega) hmb;rw[Fj]; omega
 refine Ct.go aj aa (N:=36) Tryz.func61 rfl rfl rfl rfl ?_;refine ii (r:=50) (t:=5) (sz:=1) rfl rfl ?_;refine aw aj aa (G:=List Nat × Nat) (λ(l,c)=>l.length≤m+1∧Dig 256 l∧c≤1∧val 256 l+256^l.length*c=val 256 (la.take l.length)+val 256 (lb.take l.length))
  (λ(l,c)=>[(0,.c (nSl .i64 la)),(1,.c (nSl .i64 lb)),(5,.c (.ow 50 1 l.length)),(6,.c (nI .i64 c)),(7,.c (nI .i64 l.length))]) (λ((l,_):List Nat × Nat)=>[(50,.row 1 (aF .i64 l))]) (λ(l,_)=>m+1-l.length)
  ([],0) ⟨by simp,.nil,by simp,by simp[val]⟩ ⟨rfl,rfl,rfl,rfl,rfl,HT⟩ ⟨rfl,HT⟩
  (λl:List Nat=>Dig 256 l∧val 256 l=val 256 la+val 256 lb∧l.length≤1000000) (λl=>[(5,.c (.ow 50 1 l.length))]) (λl=>[(50,.row 1 (aF .i64 l))]) (λ(l,c) hg=>?_) (λl hl=>?_)
 ·obtain ⟨h1,h2,h3,h4⟩:=hg;refine .intro (by rw[ae]; omega) ?_;refine .intro (by rw[ae]; omega) ?_;rw[ae,ae];refine ah (λh5=>?_) (λh5=>?_)
  ·rw[hmx]at h5;refine X1 _ (om la l.length (by omega)) ?_;refine X1 _ (om lb l.length (by omega)) ?_;have hx:=dA.getD (by omega) l.length;have hy:=dB.getD (by omega) l.length;have hA:=aD 256 la l.length;have hB:=aD 256 lb l.length;generalize la.getD l.length 0=x at hx hA ⊢;generalize lb.getD l.length 0=y at hy hB ⊢;refine X1 ((x+y:Nat):Int) (wI (by omega) (by omega) (by omega)) ?_;refine X1 ((x+y+c:Nat):Int) (wI (by omega) (by omega) (by omega)) ?_;obtain ⟨v,hv⟩:∃ v,v=x+y+c:=⟨_,rfl⟩;rw[←hv];refine .intro (by omega) (X1 ((v%256:Nat):Int) (by rw[GF (by omega)]; omega) (.intro ⟨by omega,by omega⟩ ?_));refine ko rfl (by simp; omega) fo ?_;refine .intro (by omega) (X1 ((v/256:Nat):Int) (by rw[FS (by omega)]; omega) (.intro ⟨by omega,by omega⟩ ?_));refine X1 ((l.length+1:Nat):Int) (wI (by simp) (by omega) (by omega)) ?_;refine ⟨(l++[v%256],v/256),⟨by simp<;>omega,h2.snoc (by omega),by omega,?_⟩,by simp<;>omega,⟨rfl,rfl,owE (by simp[ae]),rfl,iE (by simp),HT⟩,⟨aB (gk (m:=[v%256])),HT⟩⟩;simp only[EL,Fo,GN,hA,hB,nW];have key:v%256+256*(v/256)=x+y+c:=by omega
   have k2:256^l.length*(v%256+256*(v/256))=256^l.length*(x+y+c):=by rw[key]
   rw[FC,Fj,E4];simp only[Fe]at k2;omega
  ·rw[hmx]at h5;have e:l.length=m+1:=by omega
   refine ⟨l,⟨h2,?_,by omega⟩,⟨rfl,HT⟩,⟨rfl,HT⟩⟩;rw[e,aV (by omega),aV (by omega)]at h4;have h7:c=0:=by
    rcases Gn c with h | h
    ·exact h
    ·have:c=1:=by omega
     subst this;omega
   subst h7;omega
 ·obtain ⟨h1,h2,h3⟩:=hl;refine X2 .frz ?_;refine X1 _ (gV l h3) ?_;rw[cq (by omega) h1,h2];exact ⟨HT,r1 rfl,HT⟩
theorem ot (a b:Nat) (ha:(dg 256 a).length≤900000) (hb:(dg 256 b).length≤900000):Ct P 61 [.c (dV a),.c (dV b)] [.c (dV (a+b))]:=by
 have h:=pK (dg 256 a) (dg 256 b) (bq (by omega) a) (bq (by omega) b) ha hb;rwa [bf (by omega),bf (by omega)]at h
theorem BE {a b k:Nat} (ha:(dg 256 a).length≤k) (hb:(dg 256 b).length≤k):(dg 256 (a+b)).length≤k+1:=by
 apply b9 (by omega);have h1:=bl (B:=256) (by omega) a;have h2:=bl (B:=256) (by omega) b;have h3:=EX (show 0<256 by omega) ha;have h4:=EX (show 0<256 by omega) hb;rw[Fj]; omega
theorem BF (a b c d:Nat) (h1:Lim a b) (h2:Lim c d):Ct P 55 [rV a b,rV c d] [rR (a*d+c*b) (b*d)]:=by
 obtain ⟨p1,n1,l1⟩:=h1;obtain ⟨p2,n2,l2⟩:=h2;have m1:=et n1 l2;have m2:=et n2 l1;have m3:=et l1 l2;have m4:=BE m1 m2;refine Ct.go aj aa (N:=22) Tryz.func55 rfl rfl rfl rfl ?_;refine X1 _ (eG a d (by omega) (by omega)) ?_;refine X1 _ (eG c b (by omega) (by omega)) ?_;refine X1 _ (ot _ _ (by omega) (by omega)) ?_;refine X1 _ (eG b d (by omega) (by omega)) ?_;refine X1 _ (qG _ _ (Ff p1 p2) (by omega) (by omega)) ?_;refine .intro rfl ?_;exact ⟨HT,rc rfl,HT⟩
def fR (n d:Nat):Nat × Nat:=(n/Nat.gcd n d,d/Nat.gcd n d)
def cM (p q:Nat × Nat):Nat × Nat:=fR (p.1*q.1) (p.2*q.2)
def eb (p q:Nat × Nat):Nat × Nat:=fR (p.1*q.2) (p.2*q.1)
def bA (p q:Nat × Nat):Nat × Nat:=fR (p.1*q.2+q.1*p.2) (p.2*q.2)
def cJ (p q:Nat × Nat):Nat × Nat:=fR (p.1*q.2-q.1*p.2) (p.2*q.2)
structure Bd (k:Nat) (p:Nat × Nat):Prop where
 pos:p.2≠0
 n:p.1<2^k
 d:p.2<2^k
theorem iC {n d:Nat} (h:d≠0):(fR n d).2≠0:=by
 have hg:0<Nat.gcd n d:=Nat.gcd_pos_of_pos_right n (Fl h);have:=Nat.div_pos (Nat.gcd_le_right n (Fl h)) hg;show d/Nat.gcd n d≠0
 omega
theorem pM {n d k:Nat} (h:d≠0) (hn:n<2^k) (hd:d<2^k):Bd k (fR n d):=
 ⟨iC h,Gx (FZ _ _) hn,Gx (FZ _ _) hd⟩
theorem fJ {a b k m:Nat} (ha:a<2^k) (hb:b<2^m):a*b<2^(k+m):=by
 rw[FH]; exact HC ha hb
theorem Bd.le {k m:Nat} {p:Nat × Nat} (h:Bd k p) (hk:k≤m):Bd m p:=
 ⟨h.pos,EW h.n (EX (by omega) hk),EW h.d (EX (by omega) hk)⟩
theorem bh {k m:Nat} {p q:Nat × Nat} (h1:Bd k p) (h2:Bd m q):Bd (k+m) (cM p q):=pM (Ff h1.pos h2.pos) (fJ h1.n h2.n) (fJ h1.d h2.d)
theorem cB {k m:Nat} {p q:Nat × Nat} (h1:Bd k p) (h2:Bd m q) (hq:q.1≠0):Bd (k+m) (eb p q):=pM (Ff h1.pos hq) (fJ h1.n h2.d) (fJ h1.d h2.n)
theorem dM {k m:Nat} {p q:Nat × Nat} (h1:Bd k p) (h2:Bd m q):Bd (k+m+1) (bA p q):=by
 have a1:=fJ h1.n h2.d;have a2:=fJ h2.n h1.d;have a3:=fJ h1.d h2.d;rw[G9 m k]at a2;refine pM (Ff h1.pos h2.pos) ?_ ?_<;>rw[Fj]<;>omega
theorem m9 {k m:Nat} {p q:Nat × Nat} (h1:Bd k p) (h2:Bd m q):Bd (k+m) (cJ p q):=by
 have a1:=fJ h1.n h2.d;exact pM (Ff h1.pos h2.pos) (by omega) (fJ h1.d h2.d)
theorem az {v k:Nat} (h:v<2^k) (hk:1≤k):Bd k (v,1):=
 ⟨by simp,h,by show 1<2^k; have:=EX (show 0<2 by omega) hk; omega⟩
theorem ou {k n:Nat} (h:k≤8*n):2^k≤256^n:=by
 rw[show (256:Nat)=2^8 from rfl,←Nat.pow_mul];exact EX (by omega) h
theorem Bd.lim {k:Nat} {p:Nat × Nat} (h:Bd k p) (hk:k≤800000):Lim p.1 p.2:=by
 obtain ⟨N,hN⟩:∃ N,N=100000:=⟨_,rfl⟩;have e:2^k≤256^N:=ou (by omega);have a1:=b9 (by omega) (EW h.n e);have a2:=b9 (by omega) (EW h.d e);rw[hN]at a1 a2;exact ⟨h.pos,a1,a2⟩
abbrev rP (p:Nat × Nat):A1:=rV p.1 p.2
theorem dN {k m:Nat} {p q:Nat × Nat} (h1:Bd k p) (h2:Bd m q) (hk:k≤400000) (hm:m≤400000):Ct P 56 [rP p,rP q] [rP (cM p q)]:=BB _ _ _ _ (h1.lim (by omega)) (h2.lim (by omega))
theorem fl {k m:Nat} {p q:Nat × Nat} (h1:Bd k p) (h2:Bd m q) (hq:q.1≠0) (hk:k≤400000) (hm:m≤400000):Ct P 31 [rP p,rP q] [rP (eb p q)]:=BC _ _ _ _ (h1.lim (by omega)) (h2.lim (by omega)) hq
theorem iZ {k m:Nat} {p q:Nat × Nat} (h1:Bd k p) (h2:Bd m q) (hk:k≤400000) (hm:m≤400000):Ct P 55 [rP p,rP q] [rP (bA p q)]:=BF _ _ _ _ (h1.lim (by omega)) (h2.lim (by omega))
theorem nb {k m:Nat} {p q:Nat × Nat} (h1:Bd k p) (h2:Bd m q) (hk:k≤400000) (hm:m≤400000):Ct P 119 [rP p,rP q] [rP (cJ p q)]:=zA _ _ _ _ (h1.lim (by omega)) (h2.lim (by omega))
abbrev dS (p0 p1 p2 p3:Nat × Nat):A1:=.ag [dV p0.1,dV p0.2,dV p1.1,dV p1.2,dV p2.1,dV p2.2,dV p3.1,dV p3.2]
def at4 (p1 p2 p3:Nat × Nat) (n:Int):Nat × Nat:=if n<1 then (0,1) else if n=1 then p1 else if n=2 then p2 else p3
theorem BG (p0 p1 p2 p3:Nat × Nat) (n:Int):Ct P 120 [dS p0 p1 p2 p3,.c (eI .i64 n)] [rP (at4 p1 p2 p3 n)]:=by
 refine Ct.go aj aa (N:=12) Tryz.func120 rfl rfl rfl rfl ?_;refine ah (λh0=>?_) (λh0=>?_)
 ·rw[at4,if_pos h0];refine X1 _ (aI 0 (by omega)) ?_;exact ⟨HT,rc rfl,HT⟩
 ·by_cases h1:n=1
  ·subst h1;refine .intro (by decide) (.intro (by decide) ?_);exact ⟨HT,rc rfl,HT⟩
  ·by_cases h2:n=2
   ·subst h2;refine .intro (by decide) (.intro (by decide) ?_);exact ⟨HT,rc rfl,HT⟩
   ·have e:at4 p1 p2 p3 n=p3:=by rw[at4,if_neg h0,if_neg h1,if_neg h2]
    have e3:(if 3<n then 3 else n)=3:=by split<;>omega
    rw[e];refine .intro (by rw[e3]; decide) (.intro (by rw[e3]; decide) ?_);rw[e3];exact ⟨HT,rc rfl,HT⟩
abbrev c6 (n0 n1 n2 n3 n4 n5:Nat):A1:=.ag [nI .i64 n0,nI .i64 n1,nI .i64 n2,nI .i64 n3,nI .i64 n4,nI .i64 n5]
def jr (p1 p2 p3:Nat × Nat) (n0 n1 n2 n3:Nat):Nat × Nat:=
 if n1<1 then (1,1) else eb (bA (bA (cM (n2,1) p1) (cM (n3,1) p2)) (cM (n0-n2-n3,1) p3)) (n1,1)
theorem uw {k:Nat} (p0 p1 p2 p3:Nat × Nat) (n0 n1 n2 n3 n4 n5:Nat) (b1:Bd k p1) (b2:Bd k p2) (b3:Bd k p3) (hk:k≤100000) (m0:n0<4611686018427387904) (m1:n1≤4611686018427387904) (m2:n2+n3≤n0) :
  Ct P 163 [dS p0 p1 p2 p3,c6 n0 n1 n2 n3 n4 n5] [rP (jr p1 p2 p3 n0 n1 n2 n3)]:=by
 have i0:Bd 63 (n0-n2-n3,1):=az (by omega) (by omega);have i1:Bd 63 (n1,1):=az (by omega) (by omega);have i2:Bd 63 (n2,1):=az (by omega) (by omega);have i3:Bd 63 (n3,1):=az (by omega) (by omega);have f1:=bh i2 b1;have f2:=bh i3 b2;have f3:=dM f1 f2;have f4:=bh i0 b3;have f5:=dM f3 f4;refine Ct.go aj aa (N:=41) Tryz.func163 rfl rfl rfl rfl ?_;refine .intro (by decide) (.intro (by decide) ?_);refine ah (λh0=>?_) (λh0=>?_)
 ·rw[jr,if_pos (by omega)];refine X1 _ (aI 1 (by omega)) ?_;exact ⟨HT,rc rfl,HT⟩
 ·rw[jr,if_neg (by omega)];refine .intro (by decide) (.intro (by decide) ?_);refine X1 _ (aI n2 (by omega)) ?_;refine .intro (by decide) (.intro (by decide) ?_);refine X1 _ (dN i2 b1 (by omega) (by omega)) ?_;refine .intro (by decide) (.intro (by decide) ?_);refine X1 _ (aI n3 (by omega)) ?_;refine .intro (by decide) (.intro (by decide) ?_);refine X1 _ (dN i3 b2 (by omega) (by omega)) ?_;refine X1 _ (iZ f1 f2 (by omega) (by omega)) ?_;refine .intro rfl ?_;refine .intro (by decide) (.intro (by decide) ?_);refine .intro (by decide) (.intro (by decide) ?_);refine X1 ((n0-n2:Nat):Int) (wI (by omega) (by omega) (by omega)) ?_;refine .intro (by decide) (.intro (by decide) ?_);refine X1 ((n0-n2-n3:Nat):Int) (wI (by omega) (by omega) (by omega)) ?_;refine X1 _ (aI (n0-n2-n3) (by omega)) ?_;refine .intro (by decide) (.intro (by decide) ?_);refine X1 _ (dN i0 b3 (by omega) (by omega)) ?_;refine X1 _ (iZ f3 f4 (by omega) (by omega)) ?_;refine .intro (by decide) (.intro (by decide) ?_);refine X1 _ (aI n1 (by omega)) ?_;refine X1 _ (fl f5 i1 (by show n1≠0; omega) (by omega) (by omega)) ?_;refine .intro rfl ?_;exact ⟨HT,rc rfl,HT⟩
def cf (k n2 n3 a b:Nat):Nat × Nat:=cM (cM (k+1,1) (eb (n2,1) (n2+2*n3,1))) (eb (a,1) (b,1))
theorem zB (n0 n1 n2 n3 n4 n5:Nat) (h2:n2≠0) (hb:n2≠0) (m2:n2≤1000000) (m3:n3≤1000000) (m4:n4≤1000000) (m5:n5≤1000000) :
  Ct P 142 [.c (nI .i64 1),c6 n0 n1 n2 n3 n4 n5] [rP (cf 1 n2 n3 n3 n2)]:=by
 have j1:Bd 63 (n2,1):=az (by omega) (by omega);have j2:Bd 63 (n2+2*n3,1):=az (by omega) (by omega);have y:=cB j1 j2 (by show n2+2*n3≠0; omega);refine Ct.go aj aa (N:=34) Tryz.func142 rfl rfl rfl rfl ?_
 ·refine .intro (by decide) (.intro (by decide) ?_);refine X1 _ (aI n2 (by omega)) ?_;refine .intro (by decide) (.intro (by decide) ?_);refine .intro (by decide) (.intro (by decide) ?_);refine X1 ((2*n3:Nat):Int) (wI (by simp) (by omega) (by omega)) ?_;refine X1 ((n2+2*n3:Nat):Int) (wI (by simp) (by omega) (by omega)) ?_;refine X1 _ (aI (n2+2*n3) (by omega)) ?_;refine X1 _ (fl j1 j2 (by show n2+2*n3≠0; omega) (by omega) (by omega)) ?_;refine .intro rfl ?_;refine X1 ((2:Nat):Int) (wI (by simp) (by omega) (by omega)) ?_;refine X1 _ (aI 2 (by omega)) ?_;refine X1 _ (dN (az (v:=2) (k:=63) (by decide) (by omega)) y (by omega) (by omega)) ?_;refine X1 ((3:Nat):Int) (wI (by simp) (by omega) (by omega)) ?_;refine .intro (by decide) (.intro (by decide) ?_);refine X1 _ (aI n3 (by omega)) ?_;refine X1 ((2:Nat):Int) (wI (by simp) (by omega) (by omega)) ?_;refine .intro (by decide) (.intro (by decide) ?_);refine X1 _ (aI n2 (by omega)) ?_;refine X1 _ (fl (az (v:=n3) (k:=63) (by omega) (by omega)) (az (v:=n2) (k:=63) (by omega) (by omega)) (by show n2≠0; omega) (by omega) (by omega)) ?_;refine X1 _ (dN (bh (az (v:=2) (k:=63) (by decide) (by omega)) y) (cB (az (v:=n3) (k:=63) (by omega) (by omega)) (az (v:=n2) (k:=63) (by omega) (by omega)) (by show n2≠0; omega)) (by omega) (by omega)) ?_;refine .intro rfl ?_;exact ⟨HT,rc rfl,HT⟩
theorem zC (n0 n1 n2 n3 n4 n5:Nat) (h2:n2≠0) (hb:n3≠0) (m2:n2≤1000000) (m3:n3≤1000000) (m4:n4≤1000000) (m5:n5≤1000000) :
  Ct P 142 [.c (nI .i64 2),c6 n0 n1 n2 n3 n4 n5] [rP (cf 2 n2 n3 n4 n3)]:=by
 have j1:Bd 63 (n2,1):=az (by omega) (by omega);have j2:Bd 63 (n2+2*n3,1):=az (by omega) (by omega);have y:=cB j1 j2 (by show n2+2*n3≠0; omega);refine Ct.go aj aa (N:=34) Tryz.func142 rfl rfl rfl rfl ?_
 ·refine .intro (by decide) (.intro (by decide) ?_);refine X1 _ (aI n2 (by omega)) ?_;refine .intro (by decide) (.intro (by decide) ?_);refine .intro (by decide) (.intro (by decide) ?_);refine X1 ((2*n3:Nat):Int) (wI (by simp) (by omega) (by omega)) ?_;refine X1 ((n2+2*n3:Nat):Int) (wI (by simp) (by omega) (by omega)) ?_;refine X1 _ (aI (n2+2*n3) (by omega)) ?_;refine X1 _ (fl j1 j2 (by show n2+2*n3≠0; omega) (by omega) (by omega)) ?_;refine .intro rfl ?_;refine X1 ((3:Nat):Int) (wI (by simp) (by omega) (by omega)) ?_;refine X1 _ (aI 3 (by omega)) ?_;refine X1 _ (dN (az (v:=3) (k:=63) (by decide) (by omega)) y (by omega) (by omega)) ?_;refine X1 ((4:Nat):Int) (wI (by simp) (by omega) (by omega)) ?_;refine .intro (by decide) (.intro (by decide) ?_);refine X1 _ (aI n4 (by omega)) ?_;refine X1 ((3:Nat):Int) (wI (by simp) (by omega) (by omega)) ?_;refine .intro (by decide) (.intro (by decide) ?_);refine X1 _ (aI n3 (by omega)) ?_;refine X1 _ (fl (az (v:=n4) (k:=63) (by omega) (by omega)) (az (v:=n3) (k:=63) (by omega) (by omega)) (by show n3≠0; omega) (by omega) (by omega)) ?_;refine X1 _ (dN (bh (az (v:=3) (k:=63) (by decide) (by omega)) y) (cB (az (v:=n4) (k:=63) (by omega) (by omega)) (az (v:=n3) (k:=63) (by omega) (by omega)) (by show n3≠0; omega)) (by omega) (by omega)) ?_;refine .intro rfl ?_;exact ⟨HT,rc rfl,HT⟩
theorem zD (n0 n1 n2 n3 n4 n5:Nat) (h2:n2≠0) (hb:n4≠0) (m2:n2≤1000000) (m3:n3≤1000000) (m4:n4≤1000000) (m5:n5≤1000000) :
  Ct P 142 [.c (nI .i64 3),c6 n0 n1 n2 n3 n4 n5] [rP (cf 3 n2 n3 n5 n4)]:=by
 have j1:Bd 63 (n2,1):=az (by omega) (by omega);have j2:Bd 63 (n2+2*n3,1):=az (by omega) (by omega);have y:=cB j1 j2 (by show n2+2*n3≠0; omega);refine Ct.go aj aa (N:=34) Tryz.func142 rfl rfl rfl rfl ?_
 ·refine .intro (by decide) (.intro (by decide) ?_);refine X1 _ (aI n2 (by omega)) ?_;refine .intro (by decide) (.intro (by decide) ?_);refine .intro (by decide) (.intro (by decide) ?_);refine X1 ((2*n3:Nat):Int) (wI (by simp) (by omega) (by omega)) ?_;refine X1 ((n2+2*n3:Nat):Int) (wI (by simp) (by omega) (by omega)) ?_;refine X1 _ (aI (n2+2*n3) (by omega)) ?_;refine X1 _ (fl j1 j2 (by show n2+2*n3≠0; omega) (by omega) (by omega)) ?_;refine .intro rfl ?_;refine X1 ((4:Nat):Int) (wI (by simp) (by omega) (by omega)) ?_;refine X1 _ (aI 4 (by omega)) ?_;refine X1 _ (dN (az (v:=4) (k:=63) (by decide) (by omega)) y (by omega) (by omega)) ?_;refine X1 ((5:Nat):Int) (wI (by simp) (by omega) (by omega)) ?_;refine .intro (by decide) (.intro (by decide) ?_);refine X1 _ (aI n5 (by omega)) ?_;refine X1 ((4:Nat):Int) (wI (by simp) (by omega) (by omega)) ?_;refine .intro (by decide) (.intro (by decide) ?_);refine X1 _ (aI n4 (by omega)) ?_;refine X1 _ (fl (az (v:=n5) (k:=63) (by omega) (by omega)) (az (v:=n4) (k:=63) (by omega) (by omega)) (by show n4≠0; omega) (by omega) (by omega)) ?_;refine X1 _ (dN (bh (az (v:=4) (k:=63) (by decide) (by omega)) y) (cB (az (v:=n5) (k:=63) (by omega) (by omega)) (az (v:=n4) (k:=63) (by omega) (by omega)) (by show n4≠0; omega)) (by omega) (by omega)) ?_;refine .intro rfl ?_;exact ⟨HT,rc rfl,HT⟩
end
end Go.Proofs.YtgceikecdedfcaaGreat.Pv
