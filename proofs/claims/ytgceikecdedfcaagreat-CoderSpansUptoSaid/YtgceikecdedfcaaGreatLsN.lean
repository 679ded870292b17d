/- Parts of a proof, joined: Cl Cm Ed Cs Ee Ef Ca Cb Cr Ea Eb. -/
import Derived.Test.YtgceikecdedfcaaGreatLsM
namespace Go.Proofs.YtgceikecdedfcaaGreat.Pv
open Go
section
section
variable {t d:List Nat} {x lo:Nat}
theorem qo:∀ i,(sm t d x lo i).s.take lo=t.take lo
 | 0=>rfl
 | i+1=>by simp only[sm]; rw[List.take_set_of_le (by omega)]; exact qo i
theorem qp:∀ i,(sm t d x lo i).s.drop (lo+i)=t.drop (lo+i)
 | 0=>rfl
 | i+1=>by
  simp only[sm];have h:=congrArg (List.drop 1) (qp i);rw[Gq,Gq]at h;rw[List.drop_set_of_lt (by omega)];exact h
theorem qq:∀ i,(am t d x lo i).1.take lo=t.take lo
 | 0=>rfl
 | i+1=>by simp only[am]; rw[List.take_set_of_le (by omega)]; exact qq i
theorem qr:∀ i,(am t d x lo i).1.drop (lo+i)=t.drop (lo+i)
 | 0=>rfl
 | i+1=>by
  simp only[am];have h:=congrArg (List.drop 1) (qr i);rw[Gq,Gq]at h;rw[List.drop_set_of_lt (by omega)];exact h
theorem nW {s:List Nat} {n:Nat} (hs:Dig 18446744073709551616 s) (hz:val 18446744073709551616 (s.drop (lo+n))=0):val 18446744073709551616 (s.drop lo)<18446744073709551616^n:=by
 have h:=fv 18446744073709551616 (s.drop lo) n;rw[Gq,hz,FZ,FT]at h;rw[h];refine EM (ee (by omega) hs.drop.take) (ER (by omega) ?_);rw[EQ]; omega
theorem fY {s:List Nat} (h:lo≤s.length):val 18446744073709551616 s=val 18446744073709551616 (s.take lo)+18446744073709551616^lo*val 18446744073709551616 (s.drop lo):=by
 have:=fv 18446744073709551616 s lo;rwa [F7 h]at this
theorem Bj (ht:Dig 18446744073709551616 t) (hd:Dig 18446744073709551616 d) (hx:x<18446744073709551616) (hlen:lo+(d.length+1)≤t.length) (hz:val 18446744073709551616 (t.drop (lo+(d.length+1)))=0) :
  (sm t d x lo (d.length+1)).s.length=t.length∧Dig 18446744073709551616 (sm t d x lo (d.length+1)).s∧(sm t d x lo (d.length+1)).b≤1 ∧
  val 18446744073709551616 ((sm t d x lo (d.length+1)).s.drop lo)+x*val 18446744073709551616 d=val 18446744073709551616 (t.drop lo)+18446744073709551616^(d.length+1)*(sm t d x lo (d.length+1)).b∧val 18446744073709551616 ((sm t d x lo (d.length+1)).s.drop lo)<18446744073709551616^(d.length+1):=by
 obtain ⟨h1,h2,h3,h4,h5⟩:=kC (lo:=lo) ht hd hx (d.length+1) hlen;have hc:(sm t d x lo (d.length+1)).c=0:=by
  obtain ⟨_,_,k3,_,_⟩:=kC (lo:=lo) ht hd hx d.length (by omega);have hy:d.getD d.length 0=0:=by rw[EB,EZ (by omega)]; rfl
  simp only[sm,hy,FZ,Fu];exact Gf k3
 have e1:=qo (t:=t) (d:=d) (x:=x) (lo:=lo) (d.length+1);have e2:=qp (t:=t) (d:=d) (x:=x) (lo:=lo) (d.length+1);rw[hc,Fu,Fj (by omega)]at h5;generalize (sm t d x lo (d.length+1)).s=s at *
 generalize (sm t d x lo (d.length+1)).b=b at *
 refine ⟨h1,h2,h4,?_,nW h2 (by rw[e2]; exact hz)⟩;rw[fY (lo:=lo) (s:=s) (by omega),fY (lo:=lo) (s:=t) (by omega),e1,Fy,ES,FG,FG,←E5,←E5]at h5;exact Nat.eq_of_mul_eq_mul_left (Nat.pow_pos (by omega)) (Nat.add_left_cancel h5)
theorem Bk (ht:Dig 18446744073709551616 t) (hd:Dig 18446744073709551616 d) (hlen:lo+(d.length+1)≤t.length) (hz:val 18446744073709551616 (t.drop (lo+(d.length+1)))=0) :
  (am t d 1 lo (d.length+1)).1.length=t.length∧Dig 18446744073709551616 (am t d 1 lo (d.length+1)).1∧(am t d 1 lo (d.length+1)).2≤1 ∧
  val 18446744073709551616 ((am t d 1 lo (d.length+1)).1.drop lo)+18446744073709551616^(d.length+1)*(am t d 1 lo (d.length+1)).2=val 18446744073709551616 (t.drop lo)+val 18446744073709551616 d∧val 18446744073709551616 ((am t d 1 lo (d.length+1)).1.drop lo)<18446744073709551616^(d.length+1):=by
 obtain ⟨h1,h2,h3,h5⟩:=gi (lo:=lo) (x:=1) ht hd (by omega) (d.length+1) hlen;have h4:=ql (lo:=lo) ht hd (d.length+1) hlen;have e1:=qq (t:=t) (d:=d) (x:=1) (lo:=lo) (d.length+1);have e2:=qr (t:=t) (d:=d) (x:=1) (lo:=lo) (d.length+1);rw[Fj (by omega),Fn]at h5;generalize (am t d 1 lo (d.length+1)).1=s at *
 generalize (am t d 1 lo (d.length+1)).2=b at *
 refine ⟨h1,h2,h4,?_,nW h2 (by rw[e2]; exact hz)⟩;rw[fY (lo:=lo) (s:=s) (by omega),fY (lo:=lo) (s:=t) (by omega),e1,Fy,ES,FG,FG,←E5,←E5]at h5;exact Nat.eq_of_mul_eq_mul_left (Nat.pow_pos (by omega)) (Nat.add_left_cancel h5)
end
theorem zf {n:Nat} (hn:n≠0) {k:Nat} (hk:(dg 18446744073709551616 n).length=k+1):(dg 18446744073709551616 n).getD k 0≠0:=by
 have h3:=mA (B:=18446744073709551616) (by omega) hn;intro h0;have h4:=aC 18446744073709551616 (dg 18446744073709551616 n) k;rw[h0,FZ,Fj (by omega),bq (by omega),FT]at h4;have h5:=ee (by omega:0<18446744073709551616) ((br (B:=18446744073709551616) (by omega) n).take (n:=k));rw[EQ,F7 (by omega),←h4]at h5;rw[hk,F1]at h3;exact absurd h3 (Nat.not_le_of_lt h5)
theorem DW {u d:List Nat} {n:Nat} (hu:Dig 18446744073709551616 u) (hd:Dig 18446744073709551616 d) (hul:u.length=n+3) (hdl:d.length=n+2) (ht:d.getD (n+1) 0≠0) (hQ:val 18446744073709551616 u/val 18446744073709551616 d<18446744073709551616) :
  val 18446744073709551616 u/val 18446744073709551616 d≤gs (u.getD (n+2) 0) (u.getD (n+1) 0) (u.getD n 0) (d.getD (n+1) 0) (d.getD n 0)∧gs (u.getD (n+2) 0) (u.getD (n+1) 0) (u.getD n 0) (d.getD (n+1) 0) (d.getD n 0)<18446744073709551616:=by
 have k2:=hu.getD (by omega) (n+2);have k1:=hu.getD (by omega) (n+1);have k0:=hu.getD (by omega) n;have v1:=fY (lo:=n) (s:=u) (by omega);have v2:=fY (lo:=n) (s:=d) (by omega);have w1:=ee (by omega:0<18446744073709551616) (hu.take (n:=n));rw[EQ,F7 (by omega)]at w1;rw[dH 18446744073709551616 (l:=u) (by omega),dH 18446744073709551616 (l:=u) (by omega),dH 18446744073709551616 (l:=u) (by omega),FS (show u.length≤n+1+1+1 by omega)]at v1;rw[show n+1+1=n+2 by omega]at v1;rw[dH 18446744073709551616 (l:=d) (by omega),dH 18446744073709551616 (l:=d) (by omega),FS (show d.length≤n+1+1 by omega)]at v2;simp only[val,FZ,FT]at v1 v2;unfold gs;generalize u.getD (n+2) 0=u2 at *
 generalize u.getD (n+1) 0=u1 at *
 generalize u.getD n 0=u0 at *
 generalize d.getD (n+1) 0=t at *
 generalize d.getD n 0=y at *
 generalize val 18446744073709551616 (u.take n)=lu at *
 generalize val 18446744073709551616 (d.take n)=ld at *
 generalize val 18446744073709551616 u=a at *
 generalize val 18446744073709551616 d=b at *
 split
 ·exact ⟨by omega,by omega⟩
 ·rename_i hlt;have hp:0<t*18446744073709551616+y:=by omega
  refine ⟨(Hb hp).2 ?_,FJ (by omega)⟩;have h1:=Nat.div_mul_le_self a b;have hb:18446744073709551616^n*(t*18446744073709551616+y)≤b:=by rw[v2,show t*18446744073709551616+y=y+18446744073709551616*t by omega]; exact Nat.le_add_left _ _
  have h2:=Fw (a/b) hb;have h3:a<18446744073709551616^n*((u2*18446744073709551616+u1)*18446744073709551616+u0+1):=by
   rw[v1,show (u2*18446744073709551616+u1)*18446744073709551616+u0+1=1+(u0+18446744073709551616*(u1+18446744073709551616*u2)) by omega,E5 _ 1,F2];exact Nat.add_lt_add_right w1 _
  have h4:=Gn (EG h2 h1) h3;rw[FC]at h4;exact Nat.le_of_lt_succ (Nat.lt_of_mul_lt_mul_left h4)
theorem blB {a b:Bool} (h:a=b):(some (.c (.sc (.bool a))):Option AV)=some (.c (.sc (.bool b))):=by rw[h]
set_option maxHeartbeats 1000000 in
theorem mJ (a b:Nat) (hb:b≠0) (ha:(dg 18446744073709551616 a).length≤100000) (hbl:(dg 18446744073709551616 b).length≤100000):Ct P 111 [nV a,nV b] [nV (a/b),nV (a%b),.c (eI .i64 0)]:=by
 refine Ct.go aj aa (N:=128) Tryz.func111 rfl rfl rfl rfl ?_;refine X1 _ (fw b (by omega)) ?_;refine tB (by simpa using hb) ?_;refine X1 _ (kc a b (by omega) (by omega)) ?_;refine ah (λh1=>?_) (λh1=>?_)
 ·have h:a<b:=by unfold bF at h1; split at h1<;>(try split at h1)<;>omega
  rw[Gf h,Fi h];refine .intro rfl ?_;exact ⟨HJ,⟨_,rfl,zc⟩,rc rfl,r1 rfl,HJ⟩
 ·have h:b≤a:=by unfold bF at h1; split at h1<;>(try split at h1)<;>omega
  have hl0:(dg 18446744073709551616 b).length≠0:=λh0=>hb ((ij (B:=18446744073709551616) (by omega)).1 (Fa.1 h0))
  refine .intro (by rw[ai]; omega) ?_;rw[ai];refine aU (λh2=>?_) (λh2=>?_)
  ·have hw:(dg 18446744073709551616 b).getD 0 0=b:=by
    have hv:=bq (B:=18446744073709551616) (by omega) b;have hll:(dg 18446744073709551616 b).length=1:=by omega
    generalize dg 18446744073709551616 b=l at *
    match l,hll with
    | [w],_=>rw[←hv]; simp[val]
   have hb2:=(br (B:=18446744073709551616) (by omega) b).getD (by omega) 0;refine .intro (by omega) (X1 _ (al (n:=0) rfl (by omega)) ?_);rw[hw]at hb2 ⊢;refine X1 _ (wj a b (by omega) hb2 (by omega)) ?_;refine .intro rfl ?_;have hm:=FE a (Fb hb);refine X1 _ (fX (a%b) (by omega)) ?_;refine .intro rfl ?_;exact ⟨HJ,rc rfl,rc rfl,r1 rfl,HJ⟩
  ·have hB:=br (B:=18446744073709551616) (by omega) b;obtain ⟨lb,hlb⟩:∃ lb,(dg 18446744073709551616 b).length=lb+2:=⟨(dg 18446744073709551616 b).length-2,by omega⟩;refine .intro (by rw[ai]; omega) ?_;rw[ai];refine X1 ((lb+1:Nat):Int) (wI (by omega) (by omega) (by omega)) ?_;refine .intro (by omega) (X1 _ (al rfl (by omega)) ?_);have htop:=hB.getD (by omega) (lb+1);have htl:(dg 18446744073709551616 b).getD (lb+1) 0≠0:=zf hb hlb;generalize htq:(dg 18446744073709551616 b).getD (lb+1) 0=tp at *
   refine X1 _ (uU tp htop) ?_;have hbt:=gJ (n:=tp) (k:=64) (by omega);obtain ⟨s,hs⟩:∃ s,s=64-blen tp:=⟨_,rfl⟩;have hbb:=r9 hb;rw[hlb,show lb+2-1=lb+1 by omega,htq]at hbb;rw[←hs];have hbt0:blen tp≠0:=λh=>by have:=eH tp; rw[h]at this; omega
   refine X1 _ (pn b s (by omega) (by omega)) ?_;obtain ⟨la,hla⟩:∃ la,la=(dg 18446744073709551616 a).length:=⟨_,rfl⟩;refine .intro (by rw[ai]; omega) ?_;rw[ai];refine X1 ((la+1:Nat):Int) (wI (by omega) (by omega) (by omega)) ?_;refine ⟨by omega,by omega,by omega,.inl (by decide),?_⟩;refine X1 _ (pn a s (by omega) (by omega)) ?_
   -- the numbers
   have hps:=Fv s;obtain ⟨D,hD⟩:∃ D,D=b*2^s:=⟨_,rfl⟩;obtain ⟨A2,hA2⟩:∃ D,D=a*2^s:=⟨_,rfl⟩;have hDl:(dg 18446744073709551616 D).length=lb+2:=by
    apply Hv
    ·apply bQ (by omega);have h1:=F4 (eH b) hps;rw[←Fy,hbb,show 64*(lb+1)+blen tp+s=64*(lb+2) by omega,←nP,←hD]at h1;exact h1
    ·rw[←hlb]; exact bi (by omega) (by rw[hD]; exact Nat.le_mul_of_pos_right _ hps)
   have hA2l:(dg 18446744073709551616 A2).length≤la+1:=by
    apply bQ (by omega);have h1:=bj (B:=18446744073709551616) (by omega) a;rw[←hla]at h1;have h2:2^s≤18446744073709551616:=by
     have:=ER (show 0<2 by omega) (show s≤64 by omega);simpa using this
    rw[hA2,Fk];exact EM (F4 h1 hps) (Fw _ h2)
   have hlab:lb+2≤la:=by rw[hla,←hlb]; exact bi (by omega) h
   obtain ⟨m0,hm0⟩:∃ m0,la+1=m0+(lb+2):=⟨la+1-(lb+2),by omega⟩;have hbig:a*2^s<18446744073709551616^m0*D:=by
    have h1:=bj (B:=18446744073709551616) (by omega) a;have h2:=mA (B:=18446744073709551616) (by omega) hb;rw[←hla,show la=m0+(lb+1) by omega,Fy]at h1;rw[hlb,show lb+2-1=lb+1 by omega]at h2;have h3:=EM h1 (Fw (18446744073709551616^m0) h2);rw[hD,←ES];exact F4 h3 hps
   have hD0:0<D:=by rw[hD]; exact Nat.mul_pos (by omega) hps
   rw[←hA2,←hD];refine ⟨(dg 18446744073709551616 A2).length,by rw[ai]; simp; omega,by simp; omega,dc,?_⟩;refine .intro (by rw[ai]; omega) ?_;rw[ai];refine .intro (by omega) ?_;refine X1 ((m0:Nat):Int) (wI (by omega) (by omega) (by omega)) ?_;refine ⟨by omega,by omega,by omega,.inl (by decide),?_⟩;refine .intro (by omega) ?_;refine X1 ((m0:Int)-1) (wI (by omega) (by omega) (by omega)) ?_;have hDd:=br (B:=18446744073709551616) (by omega) D;have hDv:=bq (B:=18446744073709551616) (by omega) D;have hAd:=br (B:=18446744073709551616) (by omega) A2;have hAv:=bq (B:=18446744073709551616) (by omega) A2;have hU0:val 18446744073709551616 (dg 18446744073709551616 A2++List.replicate (la+1-(dg 18446744073709551616 A2).length) 0)=A2:=by rw[ka,hAv,mz,FZ,FT]
   have hU1:(dg 18446744073709551616 A2++List.replicate (la+1-(dg 18446744073709551616 A2).length) 0).length=la+1:=by simp; omega
   have hU2:Dig 18446744073709551616 (dg 18446744073709551616 A2++List.replicate (la+1-(dg 18446744073709551616 A2).length) 0):=hAd.app λx hx=>by rw[FD hx]; omega
   have hU3:val 18446744073709551616 ((dg 18446744073709551616 A2++List.replicate (la+1-(dg 18446744073709551616 A2).length) 0).drop m0)<D:=by
    have h1:=fY (lo:=m0) (s:=dg 18446744073709551616 A2++List.replicate (la+1-(dg 18446744073709551616 A2).length) 0) (by omega);rw[hU0]at h1;rw[←hA2]at hbig;exact Nat.lt_of_mul_lt_mul_left (Gn (EG (Nat.le_add_left _ _) (Nat.le_of_eq h1.symm)) hbig)
   obtain ⟨dl,hdl⟩:∃ dl,dl=dg 18446744073709551616 D:=⟨_,rfl⟩;rw[←hdl]at hDl hDd hDv ⊢;refine uM aj aa (G:=Nat × List Nat × List Nat) (λ(m,u,q)=>m≤m0∧u.length=la+1∧Dig 18446744073709551616 u∧q.length=m0∧Dig 18446744073709551616 q∧val 18446744073709551616 (u.drop m)<D∧A2=D*(18446744073709551616^m*val 18446744073709551616 (q.drop m))+val 18446744073709551616 u)
    (λ(m,u,q)=>[(4,.c (.ad 4 0)),(5,.c (.ad 5 0)),(9,.c (nI .i64 s)),(10,.c (nSl .u64 dl)),(11,.c (.ow 64 1 (la+1))),(12,.c (nI .i64 (lb+2:Nat))),(13,.c (.ow 77 1 m0)),(14,.c (eI .i64 ((m:Int)-1)))])
    (λ((m,u,q):Nat × List Nat × List Nat)=>[(4,.var [.sc (.slice none 0 0)]),(5,.var [.sc (.slice none 0 0)]),(64,.row 1 (aE .u64 u)),(77,.row 1 (aE .u64 q))]) (λ(m,_,_)=>m)
    (m0,dg 18446744073709551616 A2++List.replicate (la+1-(dg 18446744073709551616 A2).length) 0,List.replicate m0 0) ⟨by simp,hU1,hU2,by simp,λx hx=>by rw[FD hx]; omega,hU3,by simp[hU0,val]⟩
    ⟨rfl,rfl,rfl,(by rw[hdl]; rfl),owE (by omega),iE (by rw[hDl]),owE (by omega),rfl,HJ⟩ ⟨rfl,rfl,aB (by rw[List.take_zero,G5,Fj (by rw[ai]; exact EE _),Fu,List.drop_replicate]; show _++List.replicate _ [eI .u64 0]=_; simp[aE]),aB (ff rfl),HJ⟩
    (λ(u,q)=>u.length=la+1∧Dig 18446744073709551616 u∧q.length=m0∧Dig 18446744073709551616 q∧val 18446744073709551616 q=a/b∧val 18446744073709551616 u=a%b*2^s) (λ_=>[(4,.c (.ad 4 0)),(5,.c (.ad 5 0)),(9,.c (nI .i64 s)),(11,.c (.ow 64 1 (la+1))),(12,.c (nI .i64 (lb+2:Nat))),(13,.c (.ow 77 1 m0))])
    (λ((u,q):List Nat × List Nat)=>[(4,.var [.sc (.slice none 0 0)]),(5,.var [.sc (.slice none 0 0)]),(64,.row 1 (aE .u64 u)),(77,.row 1 (aE .u64 q))]) (λ(m,u,q) hg=>?_) (λ(u,q) hl=>?_)
   ·obtain ⟨i1,i2,i3,i4,i5,i6,i7⟩:=hg;refine ah (λh5=>?_) (λh5=>?_)
    ·obtain ⟨i,rfl⟩:∃ i,m=i+1:=⟨m-1,by omega⟩;have hui:=i3.getD (by omega) i;have hV:=dH 18446744073709551616 (l:=u) (i:=i) (by omega);have hDp:D<18446744073709551616^(lb+2):=by
      have:=bj (B:=18446744073709551616) (by omega) D;rw[←hdl,hDl]at this; exact this
     have hVl:val 18446744073709551616 (u.drop i)<18446744073709551616*D:=by
      have:=Fw 18446744073709551616 (Nat.succ_le_of_lt i6);rw[Nat.mul_succ]at this;omega
     have hVl2:val 18446744073709551616 (u.drop i)<18446744073709551616^(lb+3):=by
      rw[Fk,EV];exact Nat.lt_trans hVl (Nat.mul_lt_mul_of_pos_left hDp (by omega))
     have hz:val 18446744073709551616 (u.drop (i+(lb+3)))=0:=by
      have h1:=fv 18446744073709551616 (u.drop i) (lb+3);rw[Gq,Ff,F7 (by omega)]at h1;apply Classical.byContradiction;intro h0;have:=Fw (18446744073709551616^(lb+3)) (Fb h0);rw[F2]at this;omega
     have hVt:val 18446744073709551616 ((u.drop i).take (lb+3))=val 18446744073709551616 (u.drop i):=by
      have h1:=fv 18446744073709551616 (u.drop i) (lb+3);rw[Gq,hz,FZ,FT]at h1;exact h1.symm
     have hQ:val 18446744073709551616 (u.drop i)/D<18446744073709551616:=FJ (by rw[EV]; exact hVl);have htl2:=zf (n:=D) (by omega) (k:=lb+1) (by rw[←hdl,hDl]);rw[←hdl]at htl2;obtain ⟨gq1,gq2⟩:=DW (n:=lb) (u:=(u.drop i).take (lb+3)) (d:=dl) (i3.drop.take) hDd (by rw[EQ,Ff]; omega) hDl htl2 (by rw[hVt,hDv]; exact hQ);rw[hVt,hDv]at gq1;have kt:=hDd.getD (by omega) (lb+1);have kn:=hDd.getD (by omega) lb;have hg:=ze ((u.drop i).take (lb+3)) (dl.getD (lb+1) 0) (dl.getD lb 0) lb i3.drop.take (by rw[EQ,Ff]; omega) (by rw[EQ,Ff]; omega) (by omega) kt kn;generalize gs (((u.drop i).take (lb+3)).getD (lb+2) 0) (((u.drop i).take (lb+3)).getD (lb+1) 0) (((u.drop i).take (lb+3)).getD lb 0) (dl.getD (lb+1) 0) (dl.getD lb 0)=x0 at *
     generalize hQe:val 18446744073709551616 (u.drop i)/D=Q at *
     have hdm:=FL (val 18446744073709551616 (u.drop i)) D;rw[hQe]at hdm;have hml:=FE (val 18446744073709551616 (u.drop i)) hD0;obtain ⟨V,hVe⟩:∃ V,V=val 18446744073709551616 (u.drop i):=⟨_,rfl⟩;rw[←hVe]at hdm hml hVl2;refine X1 ((i+(lb+2):Nat):Int) (wI (by omega) (by omega) (by omega)) ?_;refine X1 ((i+(lb+3):Nat):Int) (wI (by omega) (by omega) (by omega)) ?_;refine .inl ⟨i,i+(lb+3),by simp,by simp,by omega,by omega,.inr ⟨by omega,?_⟩⟩;rw[Nat.add_sub_cancel_left];refine X1 ((lb+1:Nat):Int) (wI (by omega) (by omega) (by omega)) ?_;refine .intro (by omega) (X1 _ (al rfl (by omega)) ?_);refine X1 ((lb:Nat):Int) (wI (by omega) (by omega) (by omega)) ?_;refine .intro (by omega) (X1 _ (al rfl (by omega)) ?_);have hg2:Ct P 154 [A1.c (.sl 1 (((aE .u64 u).drop i).take (lb+3))),.c (nI .u64 (dl.getD (lb+1) 0)),.c (nI .u64 (dl.getD lb 0))] [.c (nI .u64 x0)]:=by rw[ii]; exact hg
     refine X2 .look (X1 _ hg2 ?_);refine .intro rfl ?_;refine X2 (.upd 64) ?_;refine ⟨_,_,wg u dl x0 i (lb+3) i3 hDd gq2 (by omega) (by omega) (by omega),?_⟩;have hz':val 18446744073709551616 (u.drop (i+(dl.length+1)))=0:=by rw[hDl]; exact hz
     obtain ⟨s1,s2,s3,s4,s5⟩:=Bj (x:=x0) i3 hDd gq2 (by omega) hz';have s6:=qo (t:=u) (d:=dl) (x:=x0) (lo:=i) (dl.length+1);have s7:=qp (t:=u) (d:=dl) (x:=x0) (lo:=i) (dl.length+1);rw[←s7]at hz';generalize (sm u dl x0 i (dl.length+1)).s=u1 at *
     generalize (sm u dl x0 i (dl.length+1)).b=b1 at *
     rw[hDv,hDl,←hVe]at s4;rw[hDl]at s5 hz';refine aw aj aa (G:=List Nat × Nat × Nat) (λ(w,x,o)=>w.length=la+1∧Dig 18446744073709551616 w∧w.take i=u.take i∧val 18446744073709551616 (w.drop (i+(lb+3)))=0∧o≤1∧val 18446744073709551616 (w.drop i)+x*D=V+18446744073709551616^(lb+3)*o∧val 18446744073709551616 (w.drop i)<18446744073709551616^(lb+3)∧Q≤x∧x<18446744073709551616)
      (λ(w,x,o)=>[(4,.c (.ad 4 0)),(5,.c (.ad 5 0)),(9,.c (nI .i64 s)),(10,.c (nSl .u64 dl)),(11,.c (.ow 64 1 (la+1))),(12,.c (nI .i64 (lb+2:Nat))),(13,.c (.ow 77 1 m0)),(14,.c (nI .i64 i)),(15,.c (.os 64 1 i (lb+3))),(16,.c (nI .u64 x)),(17,.c (.sc (.bool (decide ((o:Int)>0)))))])
      (λ((w,x,o):List Nat × Nat × Nat)=>[(4,.var [.sc (.slice none 0 0)]),(5,.var [.sc (.slice none 0 0)]),(64,.row 1 (aE .u64 w)),(77,.row 1 (aE .u64 q))]) (λ(_,x,_)=>x)
      (u1,x0,b1) ⟨by omega,s2,s6,hz',s3,s4,s5,gq1,gq2⟩ ⟨rfl,rfl,rfl,rfl,rfl,rfl,rfl,iE (by omega),rfl,rfl,rfl,HJ⟩ ⟨rfl,rfl,rfl,rfl,HJ⟩
      (λw=>w.length=la+1∧Dig 18446744073709551616 w∧w.take i=u.take i∧val 18446744073709551616 (w.drop i)=V%D)
      (λ_=>[(4,.c (.ad 4 0)),(5,.c (.ad 5 0)),(9,.c (nI .i64 s)),(10,.c (nSl .u64 dl)),(11,.c (.ow 64 1 (la+1))),(12,.c (nI .i64 (lb+2:Nat))),(13,.c (.ow 77 1 m0)),(14,.c (nI .i64 i)),(16,.c (nI .u64 Q))])
      (λw=>[(4,.var [.sc (.slice none 0 0)]),(5,.var [.sc (.slice none 0 0)]),(64,.row 1 (aE .u64 w)),(77,.row 1 (aE .u64 q))]) (λ(w,x,o) hi=>?_) (λw hw=>?_)
     ·obtain ⟨j1,j2,j3,j4,j5,j6,j7,j8,j9⟩:=hi;refine ah (λh6=>?_) (λh6=>?_)
      ·have ho:o=1:=by omega
       subst ho;rw[F2]at j6;have hgt:Q<x:=by
        apply GI;intro hle;have:=EL D hle;rw[EV Q]at this;omega
       refine X2 (.upd 64) ?_;refine ⟨_,_,ue w dl i (lb+3) j2 hDd (by omega) (by omega) (by omega),?_⟩;have jz:val 18446744073709551616 (w.drop (i+(dl.length+1)))=0:=by rw[hDl]; exact j4
       obtain ⟨r1',r2,r3,r4,r5⟩:=Bk j2 hDd (by omega) jz;have r6:=qq (t:=w) (d:=dl) (x:=1) (lo:=i) (dl.length+1);have r7:=qr (t:=w) (d:=dl) (x:=1) (lo:=i) (dl.length+1);rw[←r7]at jz;generalize (am w dl 1 i (dl.length+1)).1=w1 at *
       generalize (am w dl 1 i (dl.length+1)).2=c1 at *
       rw[hDv,hDl]at r4;rw[hDl]at r5 jz;obtain ⟨p,rfl⟩:∃ p,x=p+1:=⟨x-1,by omega⟩;rw[EU,Fn]at j6;rw[show lb+2+1=lb+3 from rfl]at r4;have heq:val 18446744073709551616 (w1.drop i)+p*D=V+18446744073709551616^(lb+3)*(1-c1):=by
        have hc:c1=0∨c1=1:=by omega
        rcases hc with rfl | rfl
        ·rw[FZ,FT]at r4;rw[F2];omega
        ·rw[F2]at r4;rw[FZ];omega
       refine X1 ((p:Nat):Int) (wU (by omega) (by omega) (by omega)) ?_;exact ⟨(w1,p,1-c1),⟨by omega,r2,r6.trans j3,jz,by omega,heq,r5,by omega,by omega⟩,by show p<p+1; omega,⟨rfl,rfl,rfl,rfl,rfl,rfl,rfl,rfl,rfl,rfl,blB (by
        have hc:c1=0∨c1=1:=by omega
        rcases hc with rfl | rfl<;>rfl),HJ⟩,⟨rfl,rfl,rfl,rfl,HJ⟩⟩
      ·have ho:o=0:=by omega
       subst ho;rw[FZ,FT]at j6;have hle:x≤Q:=by
        rw[←hQe,←hVe];exact (Hb hD0).2 (by omega)
       have hxe:x=Q:=by omega
       subst hxe;refine ⟨w,⟨j1,j2,j3,by rw[EV]at hdm; omega⟩,⟨rfl,rfl,rfl,rfl,rfl,rfl,rfl,rfl,rfl,HJ⟩,⟨rfl,rfl,rfl,rfl,HJ⟩⟩
     ·obtain ⟨j1,j2,j3,j4⟩:=hw;refine .intro (by omega) (.intro (by omega) ?_);refine X1 _ (al rfl (by omega)) ?_;refine X1 ((i:Int)-1) (wI (by omega) (by omega) (by omega)) ?_;refine ⟨(i,w,q.set i Q),⟨by omega,j1,j2,by simp[i4],i5.set hQ,by rw[j4]; exact hml,?_⟩,by show i<i+1; omega,⟨rfl,rfl,rfl,rfl,rfl,rfl,rfl,rfl,HJ⟩,⟨rfl,rfl,rfl,aB (by rw[←nRow_set]; rfl),HJ⟩⟩;have k1:=fY (lo:=i) (s:=w) (by omega);have k2:=fY (lo:=i) (s:=u) (by omega);rw[j3,j4]at k1;rw[←hVe]at k2;have k3:=congrArg (18446744073709551616^i * ·) hdm;simp only[E5]at k3;rw[kD _ (by omega),i7,k1,k2,Fk,E5,E5 D,ES,FC D (18446744073709551616^i) Q,←k3];omega
    ·have e:m=0:=by omega
     subst e;rw[Hy,Fn,F3]at i7;rw[F3]at i6;obtain ⟨e1,e2⟩:=u4 i7 i6;rw[hA2,hD]at e1 e2;rw[Nat.mul_div_mul_right _ _ hps]at e1;rw[Nat.mul_mod_mul_right]at e2;exact ⟨(u,q),⟨i2,i3,i4,i5,e1,e2⟩,⟨rfl,rfl,rfl,rfl,rfl,rfl,HJ⟩,⟨rfl,rfl,rfl,rfl,HJ⟩⟩
   ·obtain ⟨i2,i3,i4,i5,e1,e2⟩:=hl;refine Au aj aa [64,77] ?_;have hDp:D<18446744073709551616^(lb+2):=by
     have:=bj (B:=18446744073709551616) (by omega) D;rw[←hdl,hDl]at this; exact this
    have hml:a%b*2^s<D:=by rw[hD]; exact F4 (FE _ (by omega)) hps
    have hut:val 18446744073709551616 (u.take (lb+2))=a%b*2^s:=by
     have h1:=fY (lo:=lb+2) (s:=u) (by omega);have h0:val 18446744073709551616 (u.drop (lb+2))=0:=by
      apply Classical.byContradiction;intro h0;have:=Fw (18446744073709551616^(lb+2)) (Fb h0);rw[F2]at this;omega
     rw[h0,FZ,FT,e2]at h1;exact h1.symm
    refine X1 _ (eg q (by omega)) ?_;rw[cE (by omega) i5,e1];refine ⟨0,lb+2,by simp,by simp,by omega,by rw[ai]; omega,?_⟩;rw[ii,F3,Gv];refine X1 _ (wl (u.take (lb+2)) (by rw[EQ]; omega)) ?_;refine X1 _ (eg (u.take (lb+2)) (by rw[EQ]; omega)) ?_;rw[cE (by omega) i3.take,hut];have hll:(dg 18446744073709551616 (a%b*2^s)).length≤1000000:=by
     have:=bi (B:=18446744073709551616) (by omega) (Nat.le_of_lt hml);rw[←hdl,hDl]at this;omega
    have hd:=qn (a%b*2^s) s hll (by omega);rw[Nat.mul_div_cancel _ hps]at hd;refine X1 _ hd ?_;refine .intro rfl ?_;exact ⟨HJ,rc rfl,rc rfl,r1 rfl,HJ⟩
end
section
theorem Bl (a b:Nat) (ha:(dg 18446744073709551616 a).length≤100000) (hb:(dg 18446744073709551616 b).length≤100000):Ct P 110 [nV a,nV b] [nV (Nat.gcd a b)]:=by
 refine Ct.go aj aa (N:=21) Tryz.func110 rfl rfl rfl rfl ?_;refine aw aj aa (G:=Nat × Nat) (λ(x,y)=>Nat.gcd x y=Nat.gcd a b∧(dg 18446744073709551616 x).length≤100000∧(dg 18446744073709551616 y).length≤100000) (λ_=>[(2,.c (.ad 2 0)),(3,.c (.ad 3 0)),(4,.c (.ad 4 0))])
  (λ(x,y)=>[(2,.var [nSl .u64 (dg 18446744073709551616 x)]),(3,.var [nSl .u64 (dg 18446744073709551616 y)]),(4,.var [.sc (.slice none 0 0)])]) (λ(x,y)=>y)
  (a,b) ⟨rfl,ha,hb⟩ ⟨rfl,rfl,rfl,HJ⟩ ⟨rfl,rfl,rfl,HJ⟩ (λ_:Unit=>True) (λ_=>[(2,.c (.ad 2 0)),(4,.c (.ad 4 0))]) (λ_=>[(2,.var [nSl .u64 (dg 18446744073709551616 (Nat.gcd a b))]),(4,.var [.sc (.slice none 0 0)])]) (λ(x,y) hg=>?_) (λ_ _=>?_)
 ·obtain ⟨h1,h2,h3⟩:=hg;refine X1 _ (fw y (by omega)) ?_;refine aP (λh=>?_) (λh=>?_)
  ·have hy:y≠0:=by simpa using h
   refine X1 _ (mJ x y hy h2 h3) ?_;refine .intro rfl ?_;have hlt:=FE x (show 0<y by omega);exact ⟨(y,x%y),⟨by rw[←h1,HF x y,Nat.gcd_rec y x,HF],h3,EG (bi (by omega) (by omega)) h3⟩,hlt,⟨rfl,rfl,rfl,HJ⟩,⟨rfl,rfl,rfl,HJ⟩⟩
  ·have hy:y=0:=by simpa using h
   subst hy;rw[Nat.gcd_zero_right]at h1;subst h1;exact ⟨(),HJ,⟨rfl,rfl,HJ⟩,⟨rfl,rfl,HJ⟩⟩
 ·exact ⟨HJ,rc rfl,HJ⟩
theorem mK:Ct P 70 [] [nV 1]:=by
 refine Ct.go aj aa (N:=2) Tryz.func70 rfl rfl rfl rfl ?_;refine X1 _ (fX 1 (by omega)) ?_;exact ⟨HJ,rc rfl,HJ⟩
abbrev qV (n d:Nat):A1:=.ag [nSl .u64 (dg 18446744073709551616 n),nSl .u64 (dg 18446744073709551616 d)]
theorem bI (v:Nat) (hv:v<18446744073709551616):Ct P 27 [.c (nI .u64 v)] [qV v 1]:=by
 refine Ct.go aj aa (N:=7) Tryz.func27 rfl rfl rfl rfl ?_;refine X1 _ (fX v hv) ?_;refine X1 _ mK ?_;exact ⟨HJ,rc rfl,HJ⟩
theorem cI (n d:Nat):Ct P 67 [qV n d] [nV n]:=by
 refine Ct.go aj aa (N:=5) Tryz.func67 rfl rfl rfl rfl ?_;exact ⟨HJ,rc rfl,HJ⟩
def dn (d:Nat):Nat:=if d=0 then 1 else d
theorem fD (d:Nat):dn d≠0:=by unfold dn; split<;>omega
theorem gQ {d:Nat} (h:d≠0):dn d=d:=if_neg h
theorem eW {d k:Nat} (hk:1≤k) (h:(dg 18446744073709551616 d).length≤k):(dg 18446744073709551616 (dn d)).length≤k:=by
 unfold dn;split
 ·exact EG (bQ (k:=1) (by omega) (by decide)) hk
 ·exact h
theorem bS (n d:Nat) (hl:(dg 18446744073709551616 d).length≤1000000):Ct P 68 [qV n d] [nV (dn d)]:=by
 refine Ct.go aj aa (N:=9) Tryz.func68 rfl rfl rfl rfl ?_;refine X1 _ (fw d hl) ?_;refine aP (λh=>?_) (λh=>?_)
 ·have h0:d=0:=by simpa using h
  subst h0;refine X1 _ mK ?_;exact ⟨HJ,rc rfl,HJ⟩
 ·rw[gQ (by simpa using h)];exact ⟨HJ,rc rfl,HJ⟩
theorem iq (n d:Nat) (hl:(dg 18446744073709551616 n).length≤1000000):Ct P 33 [qV n d] [.c (.sc (.bool (n==0)))]:=by
 refine Ct.go aj aa (N:=6) Tryz.func33 rfl rfl rfl rfl ?_;refine X1 _ (fw n hl) ?_;exact ⟨HJ,r1 rfl,HJ⟩
abbrev qR (n d:Nat):A1:=qV (n/Nat.gcd n d) (d/Nat.gcd n d)
theorem ir (n d:Nat) (hd:d≠0) (hn:(dg 18446744073709551616 n).length≤100000) (hl:(dg 18446744073709551616 d).length≤100000):Ct P 65 [nV n,nV d] [qR n d]:=by
 have hg:Nat.gcd n d≠0:=λh=>hd (Nat.gcd_eq_zero_iff.1 h).2
 have hgl:(dg 18446744073709551616 (Nat.gcd n d)).length≤100000:=EG (bi (by omega) (Nat.gcd_le_right n (by omega))) hl;have h1l:(dg 18446744073709551616 1).length≤1000000:=by have:=bi (B:=18446744073709551616) (by omega) (show 1≤d by omega); omega
 refine Ct.go aj aa (N:=34) Tryz.func65 rfl rfl rfl rfl ?_;refine X1 _ (fw n (by omega)) ?_;refine aP (λh=>?_) (λh=>?_)
 ·have h0:n=0:=by simpa using h
  subst h0;unfold qR qV;rw[GT,Hz,Hm (by omega),a9];refine X1 _ mK ?_;exact ⟨HJ,⟨_,rfl,.inr ⟨rfl,1,rfl⟩,.inl rfl,HJ⟩,HJ⟩
 ·refine X1 _ (Bl n d hn hl) ?_;refine X1 _ mK ?_;refine X1 _ (kc _ 1 (by omega) h1l) ?_;refine .intro rfl ?_;refine ah (λh2=>?_) (λh2=>?_)
  ·refine X1 _ (mJ n _ hg hn hgl) ?_;refine X1 _ (mJ d _ hg hl hgl) ?_;exact ⟨HJ,rc rfl,HJ⟩
  ·have h3:Nat.gcd n d=1:=by
    unfold bF at h2;split at h2
    ·omega
    ·split at h2<;>omega
   unfold qR;rw[h3,HB,HB];exact ⟨HJ,rc rfl,HJ⟩
theorem cz {a b k m:Nat} (ha:(dg 18446744073709551616 a).length≤k) (hb:(dg 18446744073709551616 b).length≤m):(dg 18446744073709551616 (a*b)).length≤k+m:=by
 apply bQ (by omega);have h1:=bj (B:=18446744073709551616) (by omega) a;have h2:=bj (B:=18446744073709551616) (by omega) b;have h3:a*b<18446744073709551616^(dg 18446744073709551616 a).length*18446744073709551616^(dg 18446744073709551616 b).length:=Hs h1 h2;rw[←Fy]at h3;exact EM h3 (ER (by omega) (by omega))
structure LimQ (n d:Nat):Prop where
 n:(dg 18446744073709551616 n).length≤40000
 d:(dg 18446744073709551616 d).length≤40000
theorem mL (a b c d:Nat) (h1:LimQ a b) (h2:LimQ c d):Ct P 72 [qV a b,qV c d] [.c (eI .i64 (bF (a*dn d:Nat) (c*dn b:Nat)))]:=by
 obtain ⟨n1,k1⟩:=h1;obtain ⟨n2,k2⟩:=h2;have l1:=eW (by omega) k1;have l2:=eW (by omega) k2;have p1:=fD b;have p2:=fD d;refine Ct.go aj aa (N:=16) Tryz.func72 rfl rfl rfl rfl ?_;refine X1 _ (cI a b) (X1 _ (bS c d (by omega)) (X1 _ (cY a (dn d) (by omega) (by omega)) ?_));refine X1 _ (cI c d) (X1 _ (bS a b (by omega)) (X1 _ (cY c (dn b) (by omega) (by omega)) ?_));refine X1 _ (kc _ _ (EG (cz n1 l2) (by omega)) (EG (cz n2 l1) (by omega))) ?_;refine .intro rfl ?_;exact ⟨HJ,r1 rfl,HJ⟩
theorem Bm (a b c d:Nat) (h1:LimQ a b) (h2:LimQ c d):Ct P 133 [qV a b,qV c d] [qR (a*c) (dn b*dn d)]:=by
 obtain ⟨n1,k1⟩:=h1;obtain ⟨n2,k2⟩:=h2;have l1:=eW (by omega) k1;have l2:=eW (by omega) k2;have p1:=fD b;have p2:=fD d;refine Ct.go aj aa (N:=16) Tryz.func133 rfl rfl rfl rfl ?_;refine X1 _ (cI a b) (X1 _ (cI c d) (X1 _ (cY a c (by omega) (by omega)) ?_));refine X1 _ (bS a b (by omega)) (X1 _ (bS c d (by omega)) (X1 _ (cY (dn b) (dn d) (by omega) (by omega)) ?_));refine X1 _ (ir _ _ (E6 p1 p2) (EG (cz n1 n2) (by omega)) (EG (cz l1 l2) (by omega))) ?_;refine .intro rfl ?_;exact ⟨HJ,rc rfl,HJ⟩
theorem u6 (a b c d:Nat) (h1:LimQ a b) (h2:LimQ c d) (hc:c≠0):Ct P 26 [qV a b,qV c d] [qR (a*dn d) (dn b*c),.c (eI .i64 0)]:=by
 obtain ⟨n1,k1⟩:=h1;obtain ⟨n2,k2⟩:=h2;have l1:=eW (by omega) k1;have l2:=eW (by omega) k2;have p1:=fD b;have p2:=fD d;refine Ct.go aj aa (N:=20) Tryz.func26 rfl rfl rfl rfl ?_;refine X1 _ (iq c d (by omega)) ?_;refine tB (by simpa using hc) ?_;refine X1 _ (cI a b) (X1 _ (bS c d (by omega)) (X1 _ (cY a (dn d) (by omega) (by omega)) ?_));refine X1 _ (bS a b (by omega)) (X1 _ (cI c d) (X1 _ (cY (dn b) c (by omega) (by omega)) ?_));refine X1 _ (ir _ _ (E6 p1 hc) (EG (cz n1 l2) (by omega)) (EG (cz l1 n2) (by omega))) ?_;refine .intro rfl ?_;exact ⟨HJ,rc rfl,r1 rfl,HJ⟩
theorem zg (a b c d:Nat) (h1:LimQ a b) (h2:LimQ c d) (hle:c*dn b≤a*dn d):Ct P 52 [qV a b,qV c d] [qR (a*dn d-c*dn b) (dn b*dn d)]:=by
 obtain ⟨n1,k1⟩:=h1;obtain ⟨n2,k2⟩:=h2;have l1:=eW (by omega) k1;have l2:=eW (by omega) k2;have p1:=fD b;have p2:=fD d;refine Ct.go aj aa (N:=31) Tryz.func52 rfl rfl rfl rfl ?_;refine X1 _ (cI a b) (X1 _ (bS c d (by omega)) (X1 _ (cY a (dn d) (by omega) (by omega)) ?_));refine X1 _ (cI c d) (X1 _ (bS a b (by omega)) (X1 _ (cY c (dn b) (by omega) (by omega)) ?_));have hl:=cz n1 l2;refine X1 _ (uQ _ _ hle (by omega)) ?_;refine .intro rfl ?_;refine X1 _ (bS a b (by omega)) (X1 _ (bS c d (by omega)) (X1 _ (cY (dn b) (dn d) (by omega) (by omega)) ?_));have hl3:=bi (B:=18446744073709551616) (by omega) (Nat.sub_le (a*dn d) (c*dn b));refine X1 _ (ir _ _ (E6 p1 p2) (by omega) (EG (cz l1 l2) (by omega))) ?_;refine .intro rfl ?_;exact ⟨HJ,rc rfl,HJ⟩
def cu (o x:Nat × Nat):Nat × Nat:=((o.1*dn x.2+x.1*dn o.2)/Nat.gcd (o.1*dn x.2+x.1*dn o.2) (dn o.2*dn x.2),dn o.2*dn x.2/Nat.gcd (o.1*dn x.2+x.1*dn o.2) (dn o.2*dn x.2))
def qs (l:List (Nat × Nat)):List (List PC):=l.map λx=>[nSl .u64 (dg 18446744073709551616 x.1),nSl .u64 (dg 18446744073709551616 x.2)]
theorem sy {l:List (Nat × Nat)}:(qs l).length=l.length:=by simp[qs]
theorem zh {l:List (Nat × Nat)} {i:Int} {n:Nat} (h0:i=n) (h:n<l.length):(qs l)[i.toNat]? = some [nSl .u64 (dg 18446744073709551616 l[n].1),nSl .u64 (dg 18446744073709551616 l[n].2)]:=by
 subst h0;simp[qs,h]
theorem u7 (l:List (Nat × Nat)) (hl:l.length≤1000000) (h1:∀ (i:Nat) (h:i<l.length),LimQ l[i].1 l[i].2) (h2:∀ i,i≤l.length→LimQ ((l.take i).foldl cu (0,1)).1 ((l.take i).foldl cu (0,1)).2) :
  Ct P 116 [.c (.sl 2 (qs l))] [qV (l.foldl cu (0,1)).1 (l.foldl cu (0,1)).2]:=by
 refine Ct.go aj aa (N:=34) Tryz.func116 rfl rfl rfl rfl ?_;refine X1 _ (bI 0 (by omega)) ?_;refine .intro (by rw[sy]; omega) ?_;rw[sy];refine aw aj aa (λi:Nat=>i≤l.length) (λi=>[(2,.c (.ad 2 0)),(3,.c (.ad 3 0)),(8,.c (.sl 2 (qs l))),(9,.c (nI .i64 l.length)),(10,.c (nI .i64 i))])
  (λi=>[(2,.var [.sc (.slice none 0 0),.sc (.slice none 0 0)]),(3,.var [nSl .u64 (dg 18446744073709551616 ((l.take i).foldl cu (0,1)).1),nSl .u64 (dg 18446744073709551616 ((l.take i).foldl cu (0,1)).2)])]) (λi=>l.length-i)
  0 (by omega) ⟨rfl,rfl,rfl,rfl,rfl,HJ⟩ ⟨rfl,rfl,HJ⟩ (λ_:Unit=>True) (λ_=>[(2,.c (.ad 2 0)),(3,.c (.ad 3 0))])
  (λ_=>[(2,.var [.sc (.slice none 0 0),.sc (.slice none 0 0)]),(3,.var [nSl .u64 (dg 18446744073709551616 (l.foldl cu (0,1)).1),nSl .u64 (dg 18446744073709551616 (l.foldl cu (0,1)).2)])]) (λi hi=>?_) (λ_ _=>?_)
 ·refine ah (λh5=>?_) (λh5=>?_)
  ·have hs:(l.take (i+1)).foldl cu (0,1)=cu ((l.take i).foldl cu (0,1)) l[i]:=by
    rw[EH (by omega),GS]; rfl
   obtain ⟨n1,k1⟩:=h2 i hi;obtain ⟨n2,k2⟩:=h1 i (by omega);have hq:=zh (l:=l) (i:=(i:Int)) (n:=i) rfl (by omega);generalize (l.take i).foldl cu (0,1)=o at *
   generalize l[i]=x at *
   have l1:=eW (by omega) k1;have l2:=eW (by omega) k2;have p1:=fD o.2;have p2:=fD x.2;refine .intro (by omega) (X1 _ hq ?_);refine X1 _ (cI o.1 o.2) (X1 _ (bS x.1 x.2 (by omega)) (X1 _ (cY o.1 (dn x.2) (by omega) (by omega)) ?_));refine X1 _ (cI x.1 x.2) (X1 _ (bS o.1 o.2 (by omega)) (X1 _ (cY x.1 (dn o.2) (by omega) (by omega)) ?_));have m1:=cz n1 l2;have m2:=cz n2 l1;refine X1 _ (mH _ _ (by omega) (by omega)) ?_;refine .intro rfl ?_;refine X1 _ (bS o.1 o.2 (by omega)) (X1 _ (bS x.1 x.2 (by omega)) (X1 _ (cY (dn o.2) (dn x.2) (by omega) (by omega)) ?_));have m3:=y7 m1 m2;refine X1 _ (ir _ _ (E6 p1 p2) (by omega) (EG (cz l1 l2) (by omega))) ?_;refine .intro rfl ?_;refine X1 ((i+1:Nat):Int) (wI1 (by omega)) ?_;exact ⟨i+1,by omega,by omega,⟨rfl,rfl,rfl,rfl,rfl,HJ⟩,⟨rfl,by rw[hs]; rfl,HJ⟩⟩
  ·have e:i=l.length:=by omega
   subst e;rw[E7];exact ⟨(),HJ,⟨rfl,rfl,HJ⟩,⟨rfl,rfl,HJ⟩⟩
 ·exact ⟨HJ,rc rfl,HJ⟩
theorem zi (a b:Nat) (hab:a<b) (ha:(dg 18446744073709551616 a).length≤1000000) (hb:(dg 18446744073709551616 b).length≤1000000):Ct P 104 [nV a,nV b] [nV 0,.c (eI .i64 8)]:=by
 refine Ct.go aj aa (N:=52) Tryz.func104 rfl rfl rfl rfl ?_;refine X1 _ (kc a b ha hb) ?_;refine DF (decide_eq_true (by unfold bF; rw[if_pos (by omega)]; decide)) ?_;exact ⟨HJ,⟨_,rfl,zc⟩,r1 rfl,HJ⟩
theorem wm (a b c d:Nat) (h1:LimQ a b) (h2:LimQ c d) (hlt:a*dn d<c*dn b):Ct P 52 [qV a b,qV c d] [qV 0 1]:=by
 obtain ⟨n1,k1⟩:=h1;obtain ⟨n2,k2⟩:=h2;have l1:=eW (by omega) k1;have l2:=eW (by omega) k2;refine Ct.go aj aa (N:=31) Tryz.func52 rfl rfl rfl rfl ?_;refine X1 _ (cI a b) (X1 _ (bS c d (by omega)) (X1 _ (cY a (dn d) (by omega) (by omega)) ?_));refine X1 _ (cI c d) (X1 _ (bS a b (by omega)) (X1 _ (cY c (dn b) (by omega) (by omega)) ?_));have m1:=cz n1 l2;have m2:=cz n2 l1;refine X1 _ (zi _ _ hlt (by omega) (by omega)) ?_;refine .intro rfl ?_;refine X1 _ (bI 0 (by omega)) ?_;exact ⟨HJ,rc rfl,HJ⟩
def wh (n:Int):Nat:=n.toNat
theorem zj (n:Int) (hn:n<9223372036854775808):Ct P 131 [.c (eI .i64 n)] [qV (wh n) 1]:=by
 refine Ct.go aj aa (N:=7) Tryz.func131 rfl rfl rfl rfl ?_;have e:(if (0:Int)>n then 0 else n)=((wh n:Nat):Int):=by unfold wh; split<;>omega
 have hw:wh n<18446744073709551616:=by unfold wh; omega
 refine X1 ((wh n:Nat):Int) (by rw[e]; exact wU rfl (by omega) (by omega)) ?_;refine X1 _ (bI (wh n) hw) ?_;exact ⟨HJ,rc rfl,HJ⟩
theorem C0 (a b c d:Nat) (h1:LimQ a b) (h2:LimQ c d) (hc:c≠0):Ct P 132 [qV a b,qV c d] [qR (a*dn d) (dn b*c)]:=by
 refine Ct.go aj aa (N:=17) Tryz.func132 rfl rfl rfl rfl ?_;refine X1 _ (u6 a b c d h1 h2 hc) ?_;exact ⟨HJ,rc rfl,HJ⟩
def gR (n d:Nat):Nat × Nat:=(n/Nat.gcd n d,d/Nat.gcd n d)
def Eu (p q:Nat × Nat):Nat × Nat:=gR (p.1*q.1) (dn p.2*dn q.2)
def C1 (p q:Nat × Nat):Nat × Nat:=gR (p.1*dn q.2) (dn p.2*q.1)
def Bn (p q:Nat × Nat):Nat × Nat:=if p.1*dn q.2<q.1*dn p.2 then (0,1) else gR (p.1*dn q.2-q.1*dn p.2) (dn p.2*dn q.2)
abbrev qP (p:Nat × Nat):A1:=qV p.1 p.2
structure Bg (k:Nat) (p:Nat × Nat):Prop where
 n:p.1<2^k
 d:p.2<2^k
theorem zk {k n:Nat} (h:k≤64*n):2^k≤18446744073709551616^n:=by
 rw[nP];exact ER (by omega) h
theorem Bg.lim {k:Nat} {p:Nat × Nat} (h:Bg k p) (hk:k≤2000000):LimQ p.1 p.2:=by
 obtain ⟨N,hN⟩:∃ N,N=40000:=⟨_,rfl⟩;have e:2^k≤18446744073709551616^N:=zk (by omega);have a1:=bQ (by omega) (EM h.n e);have a2:=bQ (by omega) (EM h.d e);rw[hN]at a1 a2;exact ⟨a1,a2⟩
theorem Bg.dn {k:Nat} {p:Nat × Nat} (h:Bg k p) (hk:1≤k):dn p.2<2^k:=by
 unfold Pv.dn;split
 ·have:=ER (show 0<2 by omega) hk;omega
 ·exact h.d
theorem Bo {k m:Nat} {p q:Nat × Nat} (h1:Bg k p) (h2:Bg m q) (hk:k≤2000000) (hm:m≤2000000):Ct P 133 [qP p,qP q] [qP (Eu p q)]:=Bm _ _ _ _ (h1.lim hk) (h2.lim hm)
theorem u9 {k m:Nat} {p q:Nat × Nat} (h1:Bg k p) (h2:Bg m q) (hq:q.1≠0) (hk:k≤2000000) (hm:m≤2000000):Ct P 26 [qP p,qP q] [qP (C1 p q),.c (eI .i64 0)]:=u6 _ _ _ _ (h1.lim hk) (h2.lim hm) hq
theorem C2 {k m:Nat} {p q:Nat × Nat} (h1:Bg k p) (h2:Bg m q) (hq:q.1≠0) (hk:k≤2000000) (hm:m≤2000000):Ct P 132 [qP p,qP q] [qP (C1 p q)]:=C0 _ _ _ _ (h1.lim hk) (h2.lim hm) hq
theorem Bp {k m:Nat} {p q:Nat × Nat} (h1:Bg k p) (h2:Bg m q) (hk:k≤2000000) (hm:m≤2000000):Ct P 52 [qP p,qP q] [qP (Bn p q)]:=by
 unfold Bn;split
 ·rename_i h;exact wm _ _ _ _ (h1.lim hk) (h2.lim hm) h
 ·rename_i h;exact zg _ _ _ _ (h1.lim hk) (h2.lim hm) (FK h)
abbrev gS (p0 p1 p2 p3:Nat × Nat):A1:=.ag [nSl .u64 (dg 18446744073709551616 p0.1),nSl .u64 (dg 18446744073709551616 p0.2),nSl .u64 (dg 18446744073709551616 p1.1),nSl .u64 (dg 18446744073709551616 p1.2),nSl .u64 (dg 18446744073709551616 p2.1),nSl .u64 (dg 18446744073709551616 p2.2),nSl .u64 (dg 18446744073709551616 p3.1),nSl .u64 (dg 18446744073709551616 p3.2)]
def gAt (p0 p1 p2 p3:Nat × Nat) (n:Int):Nat × Nat:=if n<1 then p0 else if n=1 then p1 else if n=2 then p2 else p3
theorem ug (p0 p1 p2 p3:Nat × Nat) (n:Int):Ct P 161 [gS p0 p1 p2 p3,.c (eI .i64 n)] [qP (gAt p0 p1 p2 p3 n)]:=by
 have key:∀ v:Int,(if 3<(if (0:Int)>n then 0 else n) then 3 else (if (0:Int)>n then 0 else n))=v→(v=0∧gAt p0 p1 p2 p3 n=p0)∨(v=1∧gAt p0 p1 p2 p3 n=p1)∨(v=2∧gAt p0 p1 p2 p3 n=p2)∨(v=3∧gAt p0 p1 p2 p3 n=p3):=by
  intro v hv;by_cases h0:n<1
  ·refine .inl ⟨by split at hv<;>split at hv<;>omega,by rw[gAt,if_pos h0]⟩
  ·by_cases h1:n=1
   ·exact .inr (.inl ⟨by split at hv<;>split at hv<;>omega,by rw[gAt,if_neg h0,if_pos h1]⟩)
   ·by_cases h2:n=2
    ·exact .inr (.inr (.inl ⟨by split at hv<;>split at hv<;>omega,by rw[gAt,if_neg h0,if_neg h1,if_pos h2]⟩))
    ·exact .inr (.inr (.inr ⟨by split at hv<;>split at hv<;>omega,by rw[gAt,if_neg h0,if_neg h1,if_neg h2]⟩))
 refine Ct.go aj aa (N:=11) Tryz.func161 rfl rfl rfl rfl ?_;obtain ⟨v,hv⟩:∃ v,(if 3<(if (0:Int)>n then 0 else n) then 3 else (if (0:Int)>n then 0 else n))=v:=⟨_,rfl⟩;have hk:=key v hv;rcases hk with ⟨rfl,e⟩ | ⟨rfl,e⟩ | ⟨rfl,e⟩ | ⟨rfl,e⟩<;>rw[e] <;>
 ·refine .intro (by rw[hv]; decide) (.intro (by rw[hv]; decide) ?_);rw[hv];exact ⟨HJ,rc rfl,HJ⟩
theorem kE (l:List Nat) (hl:l.length≤1000000):Ct P 106 [.c (nSl .i64 l)] [.c (nSl .i64 (cr l))]:=by
 refine Ct.go aj aa (N:=23) Tryz.func106 rfl rfl rfl rfl ?_;refine .intro (by rw[ai]; omega) ?_;refine aw aj aa (λn:Nat=>n≤l.length∧cr l=cr (l.take n)) (λn=>[(0,.c (nSl .i64 l)),(3,.c (nI .i64 n))]) (λ_=>[]) (λn=>n) l.length ⟨EE _,by simp⟩ ⟨rfl,by rw[ai]; rfl,HJ⟩ trivial
  (λn:Nat=>n≤l.length∧l.take n=cr l) (λn=>[(0,.c (nSl .i64 l)),(3,.c (nI .i64 n))]) (λ_=>[]) (λn hn=>?_) (λn hn=>?_)
 ·obtain ⟨hn,ht⟩:=hn;refine ah (λh1=>?_) (λh1=>?_)
  ·obtain ⟨m,rfl⟩:∃ m,n=m+1:=⟨n-1,by omega⟩;refine X1 (m:Int) (wI (by omega) (by omega) (by omega)) ?_;refine .intro (by omega) (X1 _ (al rfl (by omega)) ?_);refine aU (λh2=>?_) (λh2=>?_)
   ·refine X1 (m:Int) (wI (by omega) (by omega) (by omega)) ?_;exact ⟨m,⟨by omega,ht.trans (nE l hn (by omega))⟩,by omega,⟨rfl,rfl,HJ⟩,HJ⟩
   ·exact ⟨m+1,⟨hn,jv l hn ht (.inr (by simpa using h2))⟩,⟨rfl,rfl,HJ⟩,HJ⟩
  ·exact ⟨n,⟨hn,jv l hn ht (.inl (by omega))⟩,⟨rfl,rfl,HJ⟩,HJ⟩
 ·obtain ⟨hn,ht⟩:=hn;refine ⟨0,n,rfl,rfl,by omega,by rw[ai]; omega,?_⟩;have e:[]++((aE .i64 l).drop 0).take (n-0)=aE .i64 (cr l):=by rw[G5,ii,F3,Gv,ht]
  have hle:(((aE .i64 l).drop 0).take (n-0)).length≤1000000:=by simp[ai]; omega
  refine ⟨rfl,?_,?_,bM,?_,?_⟩
  ·show (0+(((aE .i64 l).drop 0).take (n-0)).length+768)*8≤_
   omega
  ·show 0+(((aE .i64 l).drop 0).take (n-0)).length≤_
   omega
  ·rw[ii]; exact dc
  ·exact ⟨HJ,r1 (qe e),HJ⟩
theorem DX (l:List Nat) (i:Int) (hl:l.length≤1000000):Ct P 107 [.c (nSl .i64 l),.c (eI .i64 i)] [.c (nI .i64 (if 0≤i then l.getD i.toNat 0 else 0))]:=by
 refine Ct.go aj aa (N:=17) Tryz.func107 rfl rfl rfl rfl ?_;refine ah (λh1=>?_) (λh1=>?_)
 ·rw[if_neg (by omega)];exact ⟨HJ,r1 rfl,HJ⟩
 ·refine .intro (by rw[ai]; omega) ?_;rw[ai];refine ah (λh2=>?_) (λh2=>?_)
  ·have:l.getD i.toNat 0=0:=by
    rw[EB,EZ (by omega)]; rfl
   rw[if_pos (by omega),this];exact ⟨HJ,r1 rfl,HJ⟩
  ·rw[if_pos (by omega)];refine .intro (by omega) (X1 _ (xD (by omega) (by omega)) ?_);exact ⟨HJ,r1 rfl,HJ⟩
theorem nX (l:List Nat) (i:Nat) (hl:l.length≤1000000):Ct P 107 [.c (nSl .i64 l),.c (nI .i64 i)] [.c (nI .i64 (l.getD i 0))]:=by
 have:=DX l i hl;rwa [if_pos (G4 i),E4]at this
abbrev dV (n:Nat):PC:=nSl .i64 (dg 256 n)
theorem zl (a b:Nat) (hab:b≤a) (hl:(dg 256 a).length≤1000000):Ct P 151 [.c (dV a),.c (dV b)] [.c (dV (a-b))]:=by
 have hlb:(dg 256 b).length≤(dg 256 a).length:=bi (by omega) hab;refine Ct.go aj aa (N:=35) Tryz.func151 rfl rfl rfl rfl ?_;refine ie (r:=50) (t:=5) (sz:=1) rfl rfl ?_;refine aw aj aa (λg:List Nat × Nat=>g.1.length≤(dg 256 a).length∧Dig 256 g.1∧g.2≤1∧val 256 ((dg 256 a).take g.1.length)+256^g.1.length*g.2=val 256 ((dg 256 b).take g.1.length)+val 256 g.1)
  (λg=>[(0,.c (dV a)),(1,.c (dV b)),(5,.c (.ow 50 1 g.1.length)),(6,.c (nI .i64 g.2)),(7,.c (nI .i64 g.1.length))]) (λg=>[(50,.row 1 (aE .i64 g.1))]) (λg=>(dg 256 a).length-g.1.length)
  ([],0) ⟨by simp,.nil,by simp,by simp[val]⟩ ⟨rfl,rfl,rfl,rfl,rfl,HJ⟩ ⟨rfl,HJ⟩
  (λl:List Nat=>Dig 256 l∧val 256 l=a-b∧l.length≤1000000) (λl=>[(5,.c (.ow 50 1 l.length))]) (λl=>[(50,.row 1 (aE .i64 l))]) (λg hg=>?_) (λl hl=>?_)
 ·obtain ⟨l,c⟩:=g;obtain ⟨h1,h2,h3,h4⟩:=hg;simp only at h1 h2 h3 h4;refine .intro (by rw[ai]; omega) ?_;rw[ai];refine ah (λh5=>?_) (λh5=>?_)
  ·replace h5:(l.length:Int)<(dg 256 a).length:=h5;refine X1 _ (nX (dg 256 a) l.length hl) ?_;have hx:=(br (B:=256) (by omega) a).getD (by omega) l.length;have hy:=(br (B:=256) (by omega) b).getD (by omega) l.length;have hA:=aC 256 (dg 256 a) l.length;have hB:=aC 256 (dg 256 b) l.length;generalize (dg 256 a).getD l.length 0=x at hx hA ⊢;generalize hyy:(dg 256 b).getD l.length 0=y at hy hB;refine X1 ((256+x:Nat):Int) (wI (by omega) (by omega) (by omega)) ?_;refine X1 _ (nX (dg 256 b) l.length (by omega)) ?_;rw[hyy];refine X1 ((256+x-y:Nat):Int) (wI (by omega) (by omega) (by omega)) ?_;refine X1 ((256+x-y-c:Nat):Int) (wI (by omega) (by omega) (by omega)) ?_;obtain ⟨v,hv⟩:∃ v,v=256+x-y-c:=⟨_,rfl⟩;rw[←hv];refine .intro (by omega) (X1 ((v%256:Nat):Int) (by rw[Gg (by omega)]; omega) (.intro ⟨by omega,by omega⟩ ?_));refine my rfl (by simp; omega) iL ?_;refine .intro (by omega) (X1 ((v/256:Nat):Int) (by rw[Fx (by omega)]; omega) (.intro ⟨by omega,by omega⟩ ?_));refine X1 ((1-v/256:Nat):Int) (wI (by omega) (by omega) (by omega)) ?_;refine X1 ((l.length+1:Nat):Int) (wI (by simp) (by omega) (by omega)) ?_;refine ⟨(l++[v%256],1-v/256),⟨by simp<;>omega,h2.snoc (by omega),by simp<;>omega,?_⟩,by simp<;>omega,⟨rfl,rfl,owE (by simp[ai]),rfl,iE (by simp),HJ⟩,⟨aB (ig (m:=[v%256])),HJ⟩⟩;simp only[EC,Fe,GD,hA,hB,nG];have key:x+256*(1-v/256)=v%256+y+c:=by omega
   have k2:256^l.length*(x+256*(1-v/256))=256^l.length*(v%256+y+c):=by rw[key]
   rw[Fk,ES];simp only[E5]at k2;omega
  ·replace h5:¬ (l.length:Int)<(dg 256 a).length:=h5;have e:l.length=(dg 256 a).length:=by omega
   refine ⟨l,⟨h2,?_,by omega⟩,⟨rfl,HJ⟩,⟨rfl,HJ⟩⟩;rw[e,aS (EE _),aS hlb,bq (by omega),bq (by omega)]at h4;have h6:=ee (by omega:0<256) h2;rw[e]at h6;have h7:c=0:=by
    rcases Gc c with h | h
    ·exact h
    ·have:c=1:=by omega
     subst this;omega
   subst h7;omega
 ·obtain ⟨h1,h2,h3⟩:=hl;refine X2 .frz ?_;refine X1 _ (kE l h3) ?_;rw[cE (by omega) h1,h2];exact ⟨HJ,r1 rfl,HJ⟩
theorem zm (v:Nat) (hv:v<18446744073709551616):Ct P 77 [.c (nI .u64 v)] [.c (dV v)]:=by
 refine Ct.go aj aa (N:=15) Tryz.func77 rfl rfl rfl rfl ?_;refine ie (r:=50) (t:=3) (sz:=1) rfl rfl ?_;refine aw aj aa (λg:List Nat × Nat=>g.2≤v∧g.1++dg 256 g.2=dg 256 v)
  (λg=>[(0,.c (nI .u64 g.2)),(3,.c (.ow 50 1 g.1.length))]) (λg=>[(50,.row 1 (aE .i64 g.1))]) (λg=>g.2)
  ([],v) ⟨EE _,rfl⟩ ⟨rfl,rfl,HJ⟩ ⟨rfl,HJ⟩
  (λ_:Unit=>True) (λ_=>[(3,.c (.ow 50 1 (dg 256 v).length))]) (λ_=>[(50,.row 1 (aE .i64 (dg 256 v)))]) (λg hg=>?_) (λl _=>?_)
 ·obtain ⟨l,c⟩:=g;obtain ⟨h1,h2⟩:=hg;simp only at h1 h2;refine ah (λh5=>?_) (λh5=>?_)
  ·replace h5:(c:Int)>0:=h5;refine .intro (by omega) (X1 ((c%256:Nat):Int) (by show (c:Int).tmod 256=_; rw[Gg (by omega)]; omega) (.intro ⟨by omega,by omega⟩ ?_));refine X1 ((c%256:Nat):Int) (wI rfl (by omega) (by omega)) ?_;have hlen:(dg 256 v).length≤8:=bQ (by omega) hv;have hl2:l.length≤8:=by rw[←h2,EC]at hlen; omega
   refine my rfl (by simp; omega) iL ?_;refine .intro (by omega) (X1 ((c/256:Nat):Int) (by show (c:Int).tdiv 256=_; rw[Fx (by omega)]; omega) (.intro ⟨by omega,by omega⟩ ?_));refine ⟨(l++[c%256],c/256),⟨by show c/256≤v; omega,?_⟩,by show c/256<c; omega,⟨rfl,owE (by simp[ai]),HJ⟩,⟨aB (ig (m:=[c%256])),HJ⟩⟩;rw[←h2,fW (n:=c) (by omega) (by omega)];simp
  ·replace h5:¬ (c:Int)>0:=h5;have hc:c=0:=by omega
   subst hc;rw[a9,Gs]at h2;subst h2;exact ⟨(),HJ,⟨rfl,HJ⟩,⟨rfl,HJ⟩⟩
 ·exact ⟨HJ,r1 rfl,HJ⟩
def nY (a b:Nat):Int:=if a<b then -1 else if b<a then 1 else 0
theorem zn (a b:Nat) (ha:(dg 256 a).length≤1000000) (hb:(dg 256 b).length≤1000000):Ct P 59 [.c (dV a),.c (dV b)] [.c (eI .i64 (nY a b))]:=by
 refine Ct.go aj aa (N:=41) Tryz.func59 rfl rfl rfl rfl ?_;refine .intro (by rw[ai]; omega) ?_;refine .intro (by rw[ai]; omega) ?_;rw[ai,ai];refine dq (λh=>?_) (λh=>?_)
 ·refine .intro (by rw[ai]; omega) ?_;refine .intro (by rw[ai]; omega) ?_;rw[ai,ai];refine ah (λh2=>?_) (λh2=>?_)
  ·have:a<b:=iM (B:=256) (by omega) (by omega);exact ⟨HJ,r1 (iE (by rw[nY,if_pos this])),HJ⟩
  ·have:b<a:=iM (B:=256) (by omega) (by omega:(dg 256 b).length<(dg 256 a).length);exact ⟨HJ,r1 (iE (by rw[nY,if_neg (by omega),if_pos this])),HJ⟩
 ·have hlen:(dg 256 a).length=(dg 256 b).length:=by omega
  refine .intro (by rw[ai]; omega) ?_;rw[ai];refine X1 (((dg 256 a).length:Int)-1) (wi (by omega) (by omega)) ?_;refine aw aj aa (λn:Nat=>n≤(dg 256 a).length∧(dg 256 a).drop n=(dg 256 b).drop n)
   (λn=>[(0,.c (dV a)),(1,.c (dV b)),(5,.c (eI .i64 ((n:Int)-1)))]) (λ_=>[]) (λn=>n)
   (dg 256 a).length ⟨EE _,by rw[F9,FS (by omega)]⟩ ⟨rfl,rfl,rfl,HJ⟩ trivial
   (λ_:Unit=>a=b) (λ_=>[]) (λ_=>[]) (λn hn=>?_) (λ_ he=>?_)
  ·obtain ⟨h1,h2⟩:=hn;refine ah (λh5=>?_) (λh5=>?_)
   ·obtain ⟨m,rfl⟩:∃ m,n=m+1:=⟨n-1,by omega⟩;have hA:=br (B:=256) (by omega) a;have hB:=br (B:=256) (by omega) b;have vA:=bq (B:=256) (by omega) a;have vB:=bq (B:=256) (by omega) b;refine .intro (by omega) (X1 _ (al (n:=m) (by omega) (by omega)) ?_);refine .intro (by omega) (X1 _ (al (n:=m) (by omega) (by omega)) ?_);refine .intro rfl ?_;refine ah (λh6=>?_) (λh6=>?_)
    ·have:=iN (B:=256) (by omega) hA hlen (by omega) h2 (by omega);exact ⟨HJ,r1 (iE (by rw[nY,if_pos (by omega)])),HJ⟩
    ·refine .intro (by omega) (X1 _ (al (n:=m) (by omega) (by omega)) ?_);refine .intro (by omega) (X1 _ (al (n:=m) (by omega) (by omega)) ?_);refine .intro rfl ?_;refine ah (λh7=>?_) (λh7=>?_)
     ·have:=iN (B:=256) (by omega) hB hlen.symm (by omega) h2.symm (by omega);exact ⟨HJ,r1 (iE (by rw[nY,if_neg (by omega),if_pos (by omega)])),HJ⟩
     ·refine X1 ((m:Int)-1) (wI (by omega) (by omega) (by omega)) ?_;refine ⟨m,⟨by omega,?_⟩,by omega,⟨rfl,rfl,rfl,HJ⟩,HJ⟩;have e1:(dg 256 a).getD m 0=(dg 256 b).getD m 0:=by omega
      rw[EB,EB,EY (by omega:m<(dg 256 a).length),EY (by omega:m<(dg 256 b).length)]at e1;rw[E8 (by omega:m<(dg 256 a).length),E8 (by omega:m<(dg 256 b).length),h2];simp only[F8]at e1;rw[e1]
   ·have hn:n=0:=by omega
    subst hn;refine ⟨(),?_,HJ,HJ⟩;rw[F3,F3]at h2;rw[←bq (B:=256) (by omega) a,h2,bq (by omega)]
  ·exact ⟨HJ,r1 (iE (by rw[nY,if_neg (by omega),if_neg (by omega)])),HJ⟩
theorem Bq (la lb:List Nat) (ha:la.length≤400000) (hb:lb.length≤400000) (hA:Dig 256 la) (hB:Dig 256 lb):Ct P 60 [.c (nSl .i64 la),.c (nSl .i64 lb)] [.c (dV (val 256 la*val 256 lb))]:=by
 obtain ⟨b,hb0⟩:∃ b,b=val 256 lb:=⟨_,rfl⟩;have bB:b<256^lb.length:=hb0▸ee (by omega) hB;rw[←hb0];refine Ct.go aj aa (N:=57) Tryz.func60 rfl rfl rfl rfl ?_;refine .intro (by rw[ai]; omega) ?_;refine .intro (by rw[ai]; omega) ?_;rw[ai,ai];refine X1 ((la.length+lb.length:Nat):Int) (wI (by omega) (by omega) (by omega)) ?_;refine X1 ((la.length+lb.length+1:Nat):Int) (wI (by omega) (by omega) (by omega)) ?_;refine ⟨by omega,by omega,by omega,.inl (by decide),?_⟩;refine aw aj aa (λg:Nat × List Nat=>g.1≤la.length∧g.2.length=la.length+lb.length+1∧Dig 256 g.2∧val 256 g.2=val 256 (la.take g.1)*b)
  (λ(i,out)=>[(0,.c (nSl .i64 la)),(1,.c (nSl .i64 lb)),(5,.c (.ow 16 1 (la.length+lb.length+1))),(6,.c (nI .i64 i))]) (λ(i,out)=>[(16,.row 1 (aE .i64 out))]) (λ(i,out)=>la.length-i)
  (0,List.replicate (la.length+lb.length+1) 0) ⟨by simp,by simp,λx hx=>by rw[FD hx]; omega,by simp[val,mz]⟩ ⟨rfl,rfl,owE (by omega),rfl,HJ⟩ ⟨aB (ff rfl),HJ⟩
  (λl:List Nat=>l.length≤1000000∧Dig 256 l∧val 256 l=val 256 la*b) (λl=>[(5,.c (.ow 16 1 (la.length+lb.length+1)))]) (λl=>[(16,.row 1 (aE .i64 l))]) (λg hg=>?_) (λl hl=>?_)
 ·obtain ⟨i,out⟩:=g;obtain ⟨h1,h2,h3,h4⟩:=hg;simp only at h1 h2 h3 h4;refine .intro (by rw[ai]; omega) ?_;rw[ai];refine ah (λh5=>?_) (λh5=>?_)
  ·replace h5:(i:Int)<la.length:=h5;have hx:=hA.getD (by omega) i;have hT:=aC 256 la i;generalize hxx:la.getD i 0=x at hx hT;have bT:val 256 (la.take (i+1))<256^(i+1):=by
    have:=ee (by omega:0<256) (hA.take (n:=i+1));rwa [EQ,F7 (by omega)]at this
   refine ci aj aa (λg:Nat × List Nat × Nat=>g.1≤lb.length+1∧g.2.1.length=la.length+lb.length+1∧Dig 256 g.2.1∧g.2.2<256∧val 256 g.2.1+256^(i+g.1)*g.2.2=val 256 (la.take i)*b+256^i*(x*val 256 (lb.take g.1)))
    (λ(k,o2,c)=>[(0,.c (nSl .i64 la)),(1,.c (nSl .i64 lb)),(5,.c (.ow 16 1 (la.length+lb.length+1))),(6,.c (nI .i64 i)),(7,.c (nI .i64 c)),(8,.c (nI .i64 k))]) (λ(k,o2,c)=>[(16,.row 1 (aE .i64 o2))]) (λ(k,o2,c)=>lb.length+1-k)
    (0,out,0) ⟨by simp,h2,h3,by simp,by simp[val,h4]⟩ ⟨rfl,rfl,rfl,rfl,rfl,rfl,HJ⟩ ⟨rfl,HJ⟩ (λg hg=>?_)
   obtain ⟨k,o2,c⟩:=g;obtain ⟨g1,g2,g3,g4,g5⟩:=hg;simp only at g1 g2 g3 g4 g5;refine .intro (by rw[ai]; omega) ?_;rw[ai];refine ah (λh6=>?_) (λh6=>?_)
   ·replace h6:(k:Int)≤lb.length:=h6;have hy:=hB.getD (by omega) k;have hz:=g3.getD (by omega) (i+k);have hTB:=aC 256 lb k;have hset:=λv:Nat=>fN (B:=256) (l:=o2) (i:=i+k) (x:=v) (by omega)
    generalize hzz:o2.getD (i+k) 0=z at hz hset;refine X1 ((i+k:Nat):Int) (wI (by simp) (by omega) (by omega)) ?_;refine .intro (by omega) (.intro (by simp<;>omega) ?_);refine X1 _ (al rfl (by omega)) ?_;refine .intro (by omega) (X1 _ (al rfl (by omega)) ?_);refine X1 _ (nX lb k (by omega)) ?_;rw[hzz,hxx];generalize hyy:lb.getD k 0=y at hy hTB;have hxy:x*y≤255*255:=FF (by omega) (by omega);refine X1 ((x*y:Nat):Int) (wI (by simp) (by omega) (by omega)) ?_;refine X1 ((z+x*y:Nat):Int) (wI (by simp) (by omega) (by omega)) ?_;refine X1 ((z+x*y+c:Nat):Int) (wI (by simp) (by omega) (by omega)) ?_;refine .intro rfl ?_;obtain ⟨v,hv⟩:∃ v,v=z+x*y+c:=⟨_,rfl⟩;rw[←hv];refine X1 ((i+k:Nat):Int) (wI (by simp) (by omega) (by omega)) ?_;refine .intro (by omega) (X1 ((v%256:Nat):Int) (mb rfl) (.intro ⟨by omega,by omega⟩ ?_));refine .intro (by omega) (.intro (by simp<;>omega) ?_);refine X1 _ (al rfl (by omega)) ?_;refine .intro (by omega) (X1 ((v/256:Nat):Int) (j0 rfl) (.intro ⟨by omega,by omega⟩ ?_));refine X1 ((k+1:Nat):Int) (wI (by simp) (by omega) (by omega)) ?_;refine ⟨(k+1,o2.set (i+k) (v%256),v/256),⟨by show k+1≤_; omega,by simp[g2],g3.set (by omega),by show v/256<256; omega,?_⟩,by show lb.length+1-(k+1)<lb.length+1-k; omega,⟨rfl,rfl,rfl,rfl,rfl,rfl,HJ⟩,⟨aB nRow_set,HJ⟩⟩;show val 256 (o2.set (i+k) (v%256))+256^(i+(k+1))*(v/256)=val 256 (la.take i)*b+256^i*(x*val 256 (lb.take (k+1)))
    have hs:=hset (v%256);have e1:256^(i+(k+1))*(v/256)+256^(i+k)*(v%256)=256^(i+k)*v:=by
     rw[←FG,Fk,ES,←E5];congr 1; omega
    have e2:256^(i+k)*v=256^(i+k)*z+256^(i+k)*(x*y)+256^(i+k)*c:=by rw[hv,E5,E5]
    have e3:256^i*(x*val 256 (lb.take (k+1)))=256^i*(x*val 256 (lb.take k))+256^(i+k)*(x*y):=by
     rw[hTB,E5,E5,Fy,ES,FC x]
    omega
   ·replace h6:¬ (k:Int)≤lb.length:=h6;have hk:k=lb.length+1:=by omega
    subst hk;rw[aS (l:=lb) (by omega),←hb0]at g5;have e4:val 256 (la.take (i+1))*b=val 256 (la.take i)*b+256^i*(x*b):=by rw[hT,EU,ES]
    have e5:val 256 (la.take (i+1))*b<256^(i+1)*256^lb.length:=Hs bT bB;rw[←Fy,show i+1+lb.length=i+(lb.length+1) by omega]at e5;have hc:c=0:=by
     rcases Gc c with h | h
     ·exact h
     ·have:=Fw (256^(i+(lb.length+1))) h;omega
    subst hc;refine X1 ((i+1:Nat):Int) (wI1 (by omega)) ?_;exact ⟨(i+1,o2),⟨by show i+1≤_; omega,g2,g3,by show val 256 o2=val 256 (la.take (i+1))*b; omega⟩,by show la.length-(i+1)<la.length-i; omega,⟨rfl,rfl,rfl,rfl,HJ⟩,⟨rfl,HJ⟩⟩
  ·replace h5:¬ (i:Int)<la.length:=h5;refine ⟨out,⟨by omega,h3,?_⟩,⟨rfl,HJ⟩,⟨rfl,HJ⟩⟩;rw[h4,aS (by omega)]
 ·obtain ⟨h1,h2,h3⟩:=hl;refine X2 .frz ?_;refine X1 _ (kE l h1) ?_;rw[cE (by omega) h2,h3];exact ⟨HJ,r1 rfl,HJ⟩
theorem eX (a b:Nat) (ha:(dg 256 a).length≤400000) (hb:(dg 256 b).length≤400000):Ct P 60 [.c (dV a),.c (dV b)] [.c (dV (a*b))]:=by
 have:=Bq (dg 256 a) (dg 256 b) ha hb (br (by omega) a) (br (by omega) b);rwa [bq (by omega),bq (by omega)]at this
theorem zo {l:List Nat} {i:Nat} (h:l.getD i 0=0):l.set i 0=l:=by
 apply G7;intro j;rw[FP];by_cases hij:i=j
 ·subst hij;by_cases hl:i<l.length
  ·rw[EB,EY hl]at h;simp only[F8]at h;simp[hl,h]
  ·simp[hl]
 ·simp[hij]
theorem uh (a b:Nat) (hb0:b≠0) (ha:(dg 256 a).length≤400000) (hb:(dg 256 b).length≤400000):Ct P 105 [.c (dV a),.c (dV b)] [.c (dV (a/b)),.c (dV (a%b))]:=by
 have hA:=br (B:=256) (by omega) a;have vA:=bq (B:=256) (by omega) a;refine Ct.go aj aa (N:=45) Tryz.func105 rfl rfl rfl rfl ?_;refine .intro (by rw[ai]; omega) ?_;rw[ai];refine ⟨by omega,by omega,by omega,.inl (by decide),?_⟩;refine .intro (by rw[ai]; omega) ?_;rw[ai];refine X1 (((dg 256 a).length:Int)-1) (wi (by omega) (by omega)) ?_;refine At (t:=7) (sz:=1) rfl ?_;refine aw aj aa (G:=Nat × List Nat × Nat) (λ(n,q,r)=>n≤(dg 256 a).length∧q.length=(dg 256 a).length∧Dig 256 q∧(∀ j,j<n→q.getD j 0=0)∧r<b∧val 256 ((dg 256 a).drop n)=b*val 256 (q.drop n)+r)
  (λ(n,q,r)=>[(0,.c (dV a)),(1,.c (dV b)),(6,.c (.ow 11 1 (dg 256 a).length)),(7,.c (dV r)),(8,.c (eI .i64 ((n:Int)-1)))]) (λ((n,q,r):Nat × List Nat × Nat)=>[(11,.row 1 (aE .i64 q))]) (λ(n,q,r)=>n)
  ((dg 256 a).length,List.replicate (dg 256 a).length 0,0) ⟨EE _,by simp,λx hx=>by rw[FD hx]; omega,λj hj=>by simp[EB,FW,hj],by omega,by simp[val]⟩
  ⟨rfl,rfl,owE (by omega),qe (l:=dg 256 0) (by rw[a9]; rfl),rfl,HJ⟩ ⟨aB (ff rfl),HJ⟩
  (λl:List Nat=>l.length≤1000000∧Dig 256 l∧val 256 l=a/b) (λl=>[(6,.c (.ow 11 1 (dg 256 a).length)),(7,.c (dV (a%b)))]) (λl=>[(11,.row 1 (aE .i64 l))]) (λg hg=>?_) (λl hl=>?_)
 ·obtain ⟨n,q,r⟩:=g;obtain ⟨h1,h2,h3,h4,h5,h6⟩:=hg;have hlr:(dg 256 r).length≤400000:=EG (bi (by omega) (by omega)) hb;refine ah (λh7=>?_) (λh7=>?_)
  ·obtain ⟨m,rfl⟩:∃ m,n=m+1:=⟨n-1,by omega⟩;have hx:=hA.getD (by omega) m;have hdrop:val 256 ((dg 256 a).drop m)=(dg 256 a).getD m 0+256*val 256 ((dg 256 a).drop (m+1)):=by
    rw[E8 (by omega),val];simp[EB,(by omega:m<(dg 256 a).length)]
   have hq0:=h4 m (by omega);have hdq:∀ t,val 256 ((q.set m t).drop m)=t+256*val 256 (q.drop (m+1)):=λt=>by
    rw[E8 (by simp; omega),val];simp[List.drop_set]
   refine .intro (by omega) (X1 _ (al (n:=m) (by omega) (by omega)) ?_);generalize (dg 256 a).getD m 0=x at hx hdrop ⊢;refine my (l:=[x]) rfl (by simp[ai]; omega) dc ?_;refine X2 .frz ?_;have htr:=kE ([x]++dg 256 r) (by simp; omega);rw[cE (by omega) (Dig.app (.cons hx .nil) (br (by omega) r)),ka,bq (by omega)]at htr;have hL:val 256 [x]+256^[x].length*r=x+256*r:=by simp[val]
   rw[hL]at htr;refine X1 _ (show Ct P 106 [.c (.sl 1 (aE .i64 [x]++aE .i64 (dg 256 r)))] [.c (dV (x+256*r))] by rw[ig]; exact htr) ?_;have hLb:x+256*r<256*b:=by omega
   refine ci aj aa (λt:Nat=>t*b≤x+256*r)
    (λt=>[(0,.c (dV a)),(1,.c (dV b)),(6,.c (.ow 11 1 (dg 256 a).length)),(7,.c (dV (x+256*r-t*b))),(8,.c (nI .i64 m))]) (λt=>[(11,.row 1 (aE .i64 (q.set m t)))]) (λt=>256-t)
    0 (by simp) ⟨rfl,rfl,rfl,qe (by rw[Hu,Gv]),iE (by omega),HJ⟩ ⟨aB (by rw[zo hq0]),HJ⟩ (λt ht=>?_)
   have ht256:t<256:=by
    apply GI;intro hge;have:=EL b hge;omega
   have hll:(dg 256 (x+256*r-t*b)).length≤400001:=by
    have h8:=bj (B:=256) (by omega) b;have:x+256*r-t*b<256^((dg 256 b).length+1):=by rw[Fk]; omega
    have:=bQ (B:=256) (by omega) this;omega
   refine X1 _ (zn (x+256*r-t*b) b (by omega) (by omega)) ?_;refine ah (λh8=>?_) (λh8=>?_)
   ·have hge:b≤x+256*r-t*b:=by
     apply FK;intro hlt;rw[nY,if_pos hlt]at h8;omega
    refine X1 _ (zl (x+256*r-t*b) b hge (by omega)) ?_;refine .intro (by omega) (.intro (by omega) ?_);refine X1 _ (al rfl (by simp; omega)) ?_;have hgt:(q.set m t).getD m 0=t:=by simp[EB,h2,(by omega:m<(dg 256 a).length)]
    rw[hgt];refine X1 ((t+1:Nat):Int) (wI (by simp) (by omega) (by omega)) ?_;refine .intro (by omega) (.intro (by omega) ?_);refine X1 _ (al rfl (by simp; omega)) ?_;have hmul:(t+1)*b=t*b+b:=by rw[EU,Fn]
    refine ⟨t+1,by show (t+1)*b≤_; omega,by show 256-(t+1)<256-t; omega,⟨rfl,rfl,rfl,qe (congrArg _ (congrArg _ (by omega))),rfl,HJ⟩,⟨aB (nRow_set.trans (congrArg _ (Hw ..))),HJ⟩⟩
   ·have hlt:x+256*r-t*b<b:=by
     apply GI;intro hge;apply h8;rw[nY,if_neg (by omega)];split<;>omega
    refine X1 ((m:Int)-1) (wI rfl (by omega) (by omega)) ?_;refine ⟨(m,q.set m t,x+256*r-t*b),⟨by omega,by simp[h2],h3.set (by omega),λj hj=>?_,hlt,?_⟩,by show m<m+1; omega,⟨rfl,rfl,rfl,rfl,rfl,HJ⟩,⟨rfl,HJ⟩⟩
    ·have:=h4 j (by omega);rw[EB]at this ⊢;rw[List.getElem?_set_ne (by omega)]; exact this
    ·rw[hdrop,hdq,h6];simp only[E5];have:t*b=b*t:=EV _ _;have:b*(256*val 256 (q.drop (m+1)))=256*(b*val 256 (q.drop (m+1))):=FC _ _ _;omega
  ·have hn:n=0:=by omega
   subst hn;rw[F3,F3,vA]at h6;have e1:val 256 q=a/b:=by
    rw[h6,Nat.mul_add_div (by omega),Gf h5]; rfl
   have e2:r=a%b:=by
    rw[h6,Ht,Fi h5]
   refine ⟨q,⟨by omega,h3,e1⟩,⟨rfl,qe (by rw[e2]),HJ⟩,⟨rfl,HJ⟩⟩
 ·obtain ⟨h1,h2,h3⟩:=hl;refine X2 .frz ?_;refine X1 _ (kE l h1) ?_;rw[cE (by omega) h2,h3];exact ⟨HJ,r1 rfl,r1 rfl,HJ⟩
theorem C3 (a b:Nat) (ha:(dg 256 a).length≤400000) (hb:(dg 256 b).length≤400000):Ct P 122 [.c (dV a),.c (dV b)] [.c (dV (Nat.gcd a b))]:=by
 refine Ct.go aj aa (N:=19) Tryz.func122 rfl rfl rfl rfl ?_;refine aw aj aa (G:=Nat × Nat) (λ(x,y)=>Nat.gcd x y=Nat.gcd a b∧(dg 256 x).length≤400000∧(dg 256 y).length≤400000) (λ(x,y)=>[(0,.c (dV x)),(1,.c (dV y))]) (λ_=>[]) (λ(x,y)=>y)
  (a,b) ⟨rfl,ha,hb⟩ ⟨rfl,rfl,HJ⟩ HJ (λ_:Unit=>True) (λ_=>[(0,.c (dV (Nat.gcd a b)))]) (λ_=>[]) (λg hg=>?_) (λ_ _=>?_)
 ·obtain ⟨x,y⟩:=g;obtain ⟨h1,h2,h3⟩:=hg;refine .intro (by rw[ai]; omega) ?_;rw[ai];refine ah (λh4=>?_) (λh4=>?_)
  ·have hy:y≠0:=by
    rintro rfl
    rw[a9]at h4;simp at h4
   refine X1 _ (uh x y hy h2 h3) ?_;have hlt:x%y<y:=FE _ (by omega);exact ⟨(y,x%y),⟨by rw[←h1,HF x y,Nat.gcd_rec y x,HF],h3,EG (bi (by omega) (by omega)) h3⟩,hlt,⟨rfl,rfl,HJ⟩,HJ⟩
  ·have hy:y=0:=(ij (B:=256) (by omega)).1 (Fa.1 (by omega));subst hy;rw[Nat.gcd_zero_right]at h1;exact ⟨(),HJ,⟨qe (by rw[h1]),HJ⟩,HJ⟩
 ·exact ⟨HJ,r1 rfl,HJ⟩
abbrev rV (n d:Nat):A1:=.ag [dV n,dV d]
theorem DY:dg 256 1=[1]:=by rw[fW (by omega) (by omega)]; simp[a9]
theorem qt (n d:Nat) (hd:d≠0) (hn:(dg 256 n).length≤400000) (hl:(dg 256 d).length≤400000):Ct P 76 [.c (dV n),.c (dV d)] [rV (n/Nat.gcd n d) (d/Nat.gcd n d)]:=by
 refine Ct.go aj aa (N:=33) Tryz.func76 rfl rfl rfl rfl ?_;refine X1 _ (C3 n d hn hl) ?_;refine .intro (by rw[ai]; omega) ?_;rw[ai];have hg:Nat.gcd n d≠0:=λh=>hd (Nat.gcd_eq_zero_iff.1 h).2
 have hgl:(dg 256 (Nat.gcd n d)).length≤400000:=EG (bi (by omega) (Nat.gcd_le_right n (by omega))) hl;refine aU (λh=>?_) (λh=>?_)
 ·have h0:n=0:=(ij (B:=256) (by omega)).1 (Fa.1 (by omega));subst h0;rw[GT,Hz,Hm (by omega)];have e:dV 1=nSl .i64 [1]:=by rw[dV,DY]
  have e0:dV 0=nSl .i64 []:=by rw[dV,a9]
  rw[rV,e,e0];exact ⟨HJ,⟨_,rfl,.inr ⟨rfl,1,rfl⟩,.inl rfl,HJ⟩,HJ⟩
 ·refine X1 _ (uh n _ hg hn hgl) ?_;refine X1 _ (uh d _ hg hl hgl) ?_;exact ⟨HJ,rc rfl,HJ⟩
theorem aI (v:Nat) (hv:v<9223372036854775808):Ct P 32 [.c (nI .i64 v)] [rV v 1]:=by
 refine Ct.go aj aa (N:=8) Tryz.func32 rfl rfl rfl rfl ?_;refine X1 (v:Int) (wU rfl (by omega) (by omega)) ?_;refine X1 _ (zm v (by omega)) ?_;have e:dV 1=nSl .i64 [1]:=by rw[dV,DY]
 rw[rV,e];exact ⟨HJ,rc rfl,HJ⟩
theorem eo {a b:Nat} {k m:Nat} (ha:(dg 256 a).length≤k) (hb:(dg 256 b).length≤m):(dg 256 (a*b)).length≤k+m:=by
 apply bQ (by omega);have h1:=bj (B:=256) (by omega) a;have h2:=bj (B:=256) (by omega) b;have h3:a*b<256^(dg 256 a).length*256^(dg 256 b).length:=Hs h1 h2;rw[←Fy]at h3;exact EM h3 (ER (by omega) (by omega))
abbrev rR (n d:Nat):A1:=rV (n/Nat.gcd n d) (d/Nat.gcd n d)
structure Lim (n d:Nat):Prop where
 pos:d≠0
 n:(dg 256 n).length≤100000
 d:(dg 256 d).length≤100000
theorem Br (a b c d:Nat) (h1:Lim a b) (h2:Lim c d):Ct P 56 [rV a b,rV c d] [rR (a*c) (b*d)]:=by
 refine Ct.go aj aa (N:=16) Tryz.func56 rfl rfl rfl rfl ?_;refine X1 _ (eX a c (by have:=h1.n; omega) (by have:=h2.n; omega)) ?_;refine X1 _ (eX b d (by have:=h1.d; omega) (by have:=h2.d; omega)) ?_;refine X1 _ (qt (a*c) (b*d) (E6 h1.pos h2.pos) (EG (eo h1.n h2.n) (by omega)) (EG (eo h1.d h2.d) (by omega))) ?_;refine .intro rfl ?_;exact ⟨HJ,rc rfl,HJ⟩
theorem Bs (a b c d:Nat) (h1:Lim a b) (h2:Lim c d) (hc:c≠0):Ct P 31 [rV a b,rV c d] [rR (a*d) (b*c)]:=by
 refine Ct.go aj aa (N:=16) Tryz.func31 rfl rfl rfl rfl ?_;refine X1 _ (eX a d (by have:=h1.n; omega) (by have:=h2.d; omega)) ?_;refine X1 _ (eX b c (by have:=h1.d; omega) (by have:=h2.n; omega)) ?_;refine X1 _ (qt (a*d) (b*c) (E6 h1.pos hc) (EG (eo h1.n h2.d) (by omega)) (EG (eo h1.d h2.n) (by omega))) ?_;refine .intro rfl ?_;exact ⟨HJ,rc rfl,HJ⟩
theorem Bt (a b c d:Nat) (h1:Lim a b) (h2:Lim c d):Ct P 75 [rV a b,rV c d] [.c (eI .i64 (nY (a*d) (c*b)))]:=by
 refine Ct.go aj aa (N:=16) Tryz.func75 rfl rfl rfl rfl ?_;refine X1 _ (eX a d (by have:=h1.n; omega) (by have:=h2.d; omega)) ?_;refine X1 _ (eX c b (by have:=h2.n; omega) (by have:=h1.d; omega)) ?_;refine X1 _ (zn (a*d) (c*b) (EG (eo h1.n h2.d) (by omega)) (EG (eo h2.n h1.d) (by omega))) ?_;refine .intro rfl ?_;exact ⟨HJ,r1 rfl,HJ⟩
theorem zp (a b c d:Nat) (h1:Lim a b) (h2:Lim c d):Ct P 119 [rV a b,rV c d] [rR (a*d-c*b) (b*d)]:=by
 refine Ct.go aj aa (N:=27) Tryz.func119 rfl rfl rfl rfl ?_;refine X1 _ (Bt a b c d h1 h2) ?_;refine ah (λh=>?_) (λh=>?_)
 ·have hlt:a*d<c*b:=by
   unfold nY at h;split at h
   ·assumption
   ·split at h<;>omega
  refine X1 _ (aI 0 (by omega)) ?_;have hbd:=E6 h1.pos h2.pos;rw[rR,show a*d-c*b=0 by omega,GT,Hz,Hm (by omega)];exact ⟨HJ,rc rfl,HJ⟩
 ·have hge:c*b≤a*d:=by
   apply FK;intro hlt;rw[nY,if_pos hlt]at h;omega
  have l1:=eo h1.n h2.d;have l2:=eo h1.d h2.d;refine X1 _ (eX a d (by have:=h1.n; omega) (by have:=h2.d; omega)) ?_;refine X1 _ (eX c b (by have:=h2.n; omega) (by have:=h1.d; omega)) ?_;refine X1 _ (zl (a*d) (c*b) hge (by omega)) ?_;refine X1 _ (eX b d (by have:=h1.d; omega) (by have:=h2.d; omega)) ?_;refine X1 _ (qt (a*d-c*b) (b*d) (E6 h1.pos h2.pos) (EG (bi (by omega) (Nat.sub_le _ _)) (by omega)) (by omega)) ?_;refine .intro rfl ?_;exact ⟨HJ,rc rfl,HJ⟩
theorem wn (la lb:List Nat) (dA:Dig 256 la) (dB:Dig 256 lb) (ha:la.length≤900000) (hb:lb.length≤900000):Ct P 61 [.c (nSl .i64 la),.c (nSl .i64 lb)] [.c (dV (val 256 la+val 256 lb))]:=by
 obtain ⟨m,hm⟩:∃ m,m=max la.length lb.length:=⟨_,rfl⟩;have hma:la.length≤m:=by rw[hm]; exact Nat.le_max_left _ _
 have hmb:lb.length≤m:=by rw[hm]; exact Nat.le_max_right _ _
 have hml:m≤900000:=by rw[hm]; exact Nat.max_le.2 ⟨ha,hb⟩
 have hmx:(if (lb.length:Int)>(la.length:Int) then (lb.length:Int) else (la.length:Int))=(m:Int):=by
  rw[hm]; split<;>omega
 have hab:val 256 la+val 256 lb<256^(m+1):=by
  have h1:=ee (B:=256) (by omega) dA;have h2:=ee (B:=256) (by omega) dB;have h3:=ER (show 0<256 by omega) hma;have h4:=ER (show 0<256 by omega) hmb;rw[Fk]; omega
 refine Ct.go aj aa (N:=36) Tryz.func61 rfl rfl rfl rfl ?_;refine ie (r:=50) (t:=5) (sz:=1) rfl rfl ?_;refine aw aj aa (G:=List Nat × Nat) (λ(l,c)=>l.length≤m+1∧Dig 256 l∧c≤1∧val 256 l+256^l.length*c=val 256 (la.take l.length)+val 256 (lb.take l.length))
  (λ(l,c)=>[(0,.c (nSl .i64 la)),(1,.c (nSl .i64 lb)),(5,.c (.ow 50 1 l.length)),(6,.c (nI .i64 c)),(7,.c (nI .i64 l.length))]) (λ((l,_):List Nat × Nat)=>[(50,.row 1 (aE .i64 l))]) (λ(l,_)=>m+1-l.length)
  ([],0) ⟨by simp,.nil,by simp,by simp[val]⟩ ⟨rfl,rfl,rfl,rfl,rfl,HJ⟩ ⟨rfl,HJ⟩
  (λl:List Nat=>Dig 256 l∧val 256 l=val 256 la+val 256 lb∧l.length≤1000000) (λl=>[(5,.c (.ow 50 1 l.length))]) (λl=>[(50,.row 1 (aE .i64 l))]) (λ(l,c) hg=>?_) (λl hl=>?_)
 ·obtain ⟨h1,h2,h3,h4⟩:=hg;refine .intro (by rw[ai]; omega) ?_;refine .intro (by rw[ai]; omega) ?_;rw[ai,ai];refine ah (λh5=>?_) (λh5=>?_)
  ·rw[hmx]at h5;refine X1 _ (nX la l.length (by omega)) ?_;refine X1 _ (nX lb l.length (by omega)) ?_;have hx:=dA.getD (by omega) l.length;have hy:=dB.getD (by omega) l.length;have hA:=aC 256 la l.length;have hB:=aC 256 lb l.length;generalize la.getD l.length 0=x at hx hA ⊢;generalize lb.getD l.length 0=y at hy hB ⊢;refine X1 ((x+y:Nat):Int) (wI (by omega) (by omega) (by omega)) ?_;refine X1 ((x+y+c:Nat):Int) (wI (by omega) (by omega) (by omega)) ?_;obtain ⟨v,hv⟩:∃ v,v=x+y+c:=⟨_,rfl⟩;rw[←hv];refine .intro (by omega) (X1 ((v%256:Nat):Int) (by rw[Gg (by omega)]; omega) (.intro ⟨by omega,by omega⟩ ?_));refine my rfl (by simp; omega) iL ?_;refine .intro (by omega) (X1 ((v/256:Nat):Int) (by rw[Fx (by omega)]; omega) (.intro ⟨by omega,by omega⟩ ?_));refine X1 ((l.length+1:Nat):Int) (wI (by simp) (by omega) (by omega)) ?_;refine ⟨(l++[v%256],v/256),⟨by simp<;>omega,h2.snoc (by omega),by omega,?_⟩,by simp<;>omega,⟨rfl,rfl,owE (by simp[ai]),rfl,iE (by simp),HJ⟩,⟨aB (ig (m:=[v%256])),HJ⟩⟩;simp only[EC,Fe,GD,hA,hB,nG];have key:v%256+256*(v/256)=x+y+c:=by omega
   have k2:256^l.length*(v%256+256*(v/256))=256^l.length*(x+y+c):=by rw[key]
   rw[Fu,Fk,ES];simp only[E5]at k2;omega
  ·rw[hmx]at h5;have e:l.length=m+1:=by omega
   refine ⟨l,⟨h2,?_,by omega⟩,⟨rfl,HJ⟩,⟨rfl,HJ⟩⟩;rw[e,aS (by omega),aS (by omega)]at h4;have h7:c=0:=by
    rcases Gc c with h | h
    ·exact h
    ·have:c=1:=by omega
     subst this;omega
   subst h7;omega
 ·obtain ⟨h1,h2,h3⟩:=hl;refine X2 .frz ?_;refine X1 _ (kE l h3) ?_;rw[cE (by omega) h1,h2];exact ⟨HJ,r1 rfl,HJ⟩
theorem zq (a b:Nat) (ha:(dg 256 a).length≤900000) (hb:(dg 256 b).length≤900000):Ct P 61 [.c (dV a),.c (dV b)] [.c (dV (a+b))]:=by
 have h:=wn (dg 256 a) (dg 256 b) (br (by omega) a) (br (by omega) b) ha hb;rwa [bq (by omega),bq (by omega)]at h
theorem Bu {a b k:Nat} (ha:(dg 256 a).length≤k) (hb:(dg 256 b).length≤k):(dg 256 (a+b)).length≤k+1:=by
 apply bQ (by omega);have h1:=bj (B:=256) (by omega) a;have h2:=bj (B:=256) (by omega) b;have h3:=ER (show 0<256 by omega) ha;have h4:=ER (show 0<256 by omega) hb;rw[Fk]; omega
theorem Bv (a b c d:Nat) (h1:Lim a b) (h2:Lim c d):Ct P 55 [rV a b,rV c d] [rR (a*d+c*b) (b*d)]:=by
 obtain ⟨p1,n1,l1⟩:=h1;obtain ⟨p2,n2,l2⟩:=h2;have m1:=eo n1 l2;have m2:=eo n2 l1;have m3:=eo l1 l2;have m4:=Bu m1 m2;refine Ct.go aj aa (N:=22) Tryz.func55 rfl rfl rfl rfl ?_;refine X1 _ (eX a d (by omega) (by omega)) ?_;refine X1 _ (eX c b (by omega) (by omega)) ?_;refine X1 _ (zq _ _ (by omega) (by omega)) ?_;refine X1 _ (eX b d (by omega) (by omega)) ?_;refine X1 _ (qt _ _ (E6 p1 p2) (by omega) (by omega)) ?_;refine .intro rfl ?_;exact ⟨HJ,rc rfl,HJ⟩
def fR (n d:Nat):Nat × Nat:=(n/Nat.gcd n d,d/Nat.gcd n d)
def cM (p q:Nat × Nat):Nat × Nat:=fR (p.1*q.1) (p.2*q.2)
def d5 (p q:Nat × Nat):Nat × Nat:=fR (p.1*q.2) (p.2*q.1)
def bG (p q:Nat × Nat):Nat × Nat:=fR (p.1*q.2+q.1*p.2) (p.2*q.2)
def cJ (p q:Nat × Nat):Nat × Nat:=fR (p.1*q.2-q.1*p.2) (p.2*q.2)
structure Bd (k:Nat) (p:Nat × Nat):Prop where
 pos:p.2≠0
 n:p.1<2^k
 d:p.2<2^k
theorem iu {n d:Nat} (h:d≠0):(fR n d).2≠0:=by
 have hg:0<Nat.gcd n d:=Nat.gcd_pos_of_pos_right n (Fb h);have:=Nat.div_pos (Nat.gcd_le_right n (Fb h)) hg;show d/Nat.gcd n d≠0
 omega
theorem po {n d k:Nat} (h:d≠0) (hn:n<2^k) (hd:d<2^k):Bd k (fR n d):=
 ⟨iu h,Gn (FU _ _) hn,Gn (FU _ _) hd⟩
theorem fZ {a b k m:Nat} (ha:a<2^k) (hb:b<2^m):a*b<2^(k+m):=by
 rw[Fy]; exact Hs ha hb
theorem Bd.le {k m:Nat} {p:Nat × Nat} (h:Bd k p) (hk:k≤m):Bd m p:=
 ⟨h.pos,EM h.n (ER (by omega) hk),EM h.d (ER (by omega) hk)⟩
theorem bc {k m:Nat} {p q:Nat × Nat} (h1:Bd k p) (h2:Bd m q):Bd (k+m) (cM p q):=po (E6 h1.pos h2.pos) (fZ h1.n h2.n) (fZ h1.d h2.d)
theorem cw {k m:Nat} {p q:Nat × Nat} (h1:Bd k p) (h2:Bd m q) (hq:q.1≠0):Bd (k+m) (d5 p q):=po (E6 h1.pos hq) (fZ h1.n h2.d) (fZ h1.d h2.n)
theorem ep {k m:Nat} {p q:Nat × Nat} (h1:Bd k p) (h2:Bd m q):Bd (k+m+1) (bG p q):=by
 have a1:=fZ h1.n h2.d;have a2:=fZ h2.n h1.d;have a3:=fZ h1.d h2.d;rw[G0 m k]at a2;refine po (E6 h1.pos h2.pos) ?_ ?_<;>rw[Fk]<;>omega
theorem mN {k m:Nat} {p q:Nat × Nat} (h1:Bd k p) (h2:Bd m q):Bd (k+m) (cJ p q):=by
 have a1:=fZ h1.n h2.d;exact po (E6 h1.pos h2.pos) (by omega) (fZ h1.d h2.d)
theorem az {v k:Nat} (h:v<2^k) (hk:1≤k):Bd k (v,1):=
 ⟨by simp,h,by show 1<2^k; have:=ER (show 0<2 by omega) hk; omega⟩
theorem ui {k n:Nat} (h:k≤8*n):2^k≤256^n:=by
 rw[show (256:Nat)=2^8 from rfl,←GY];exact ER (by omega) h
theorem Bd.lim {k:Nat} {p:Nat × Nat} (h:Bd k p) (hk:k≤800000):Lim p.1 p.2:=by
 obtain ⟨N,hN⟩:∃ N,N=100000:=⟨_,rfl⟩;have e:2^k≤256^N:=ui (by omega);have a1:=bQ (by omega) (EM h.n e);have a2:=bQ (by omega) (EM h.d e);rw[hN]at a1 a2;exact ⟨h.pos,a1,a2⟩
abbrev rP (p:Nat × Nat):A1:=rV p.1 p.2
theorem dK {k m:Nat} {p q:Nat × Nat} (h1:Bd k p) (h2:Bd m q) (hk:k≤400000) (hm:m≤400000):Ct P 56 [rP p,rP q] [rP (cM p q)]:=Br _ _ _ _ (h1.lim (by omega)) (h2.lim (by omega))
theorem fi {k m:Nat} {p q:Nat × Nat} (h1:Bd k p) (h2:Bd m q) (hq:q.1≠0) (hk:k≤400000) (hm:m≤400000):Ct P 31 [rP p,rP q] [rP (d5 p q)]:=Bs _ _ _ _ (h1.lim (by omega)) (h2.lim (by omega)) hq
theorem kF {k m:Nat} {p q:Nat × Nat} (h1:Bd k p) (h2:Bd m q) (hk:k≤400000) (hm:m≤400000):Ct P 55 [rP p,rP q] [rP (bG p q)]:=Bv _ _ _ _ (h1.lim (by omega)) (h2.lim (by omega))
theorem mO {k m:Nat} {p q:Nat × Nat} (h1:Bd k p) (h2:Bd m q) (hk:k≤400000) (hm:m≤400000):Ct P 119 [rP p,rP q] [rP (cJ p q)]:=zp _ _ _ _ (h1.lim (by omega)) (h2.lim (by omega))
abbrev dS (p0 p1 p2 p3:Nat × Nat):A1:=.ag [dV p0.1,dV p0.2,dV p1.1,dV p1.2,dV p2.1,dV p2.2,dV p3.1,dV p3.2]
def at4 (p1 p2 p3:Nat × Nat) (n:Int):Nat × Nat:=if n<1 then (0,1) else if n=1 then p1 else if n=2 then p2 else p3
theorem Bw (p0 p1 p2 p3:Nat × Nat) (n:Int):Ct P 120 [dS p0 p1 p2 p3,.c (eI .i64 n)] [rP (at4 p1 p2 p3 n)]:=by
 refine Ct.go aj aa (N:=12) Tryz.func120 rfl rfl rfl rfl ?_;refine ah (λh0=>?_) (λh0=>?_)
 ·rw[at4,if_pos h0];refine X1 _ (aI 0 (by omega)) ?_;exact ⟨HJ,rc rfl,HJ⟩
 ·by_cases h1:n=1
  ·subst h1;refine .intro (by decide) (.intro (by decide) ?_);exact ⟨HJ,rc rfl,HJ⟩
  ·by_cases h2:n=2
   ·subst h2;refine .intro (by decide) (.intro (by decide) ?_);exact ⟨HJ,rc rfl,HJ⟩
   ·have e:at4 p1 p2 p3 n=p3:=by rw[at4,if_neg h0,if_neg h1,if_neg h2]
    have e3:(if 3<n then 3 else n)=3:=by split<;>omega
    rw[e];refine .intro (by rw[e3]; decide) (.intro (by rw[e3]; decide) ?_);rw[e3];exact ⟨HJ,rc rfl,HJ⟩
abbrev c6 (n0 n1 n2 n3 n4 n5:Nat):A1:=.ag [nI .i64 n0,nI .i64 n1,nI .i64 n2,nI .i64 n3,nI .i64 n4,nI .i64 n5]
def ji (p1 p2 p3:Nat × Nat) (n0 n1 n2 n3:Nat):Nat × Nat:=
 if n1<1 then (1,1) else d5 (bG (bG (cM (n2,1) p1) (cM (n3,1) p2)) (cM (n0-n2-n3,1) p3)) (n1,1)
theorem uj {k:Nat} (p0 p1 p2 p3:Nat × Nat) (n0 n1 n2 n3 n4 n5:Nat) (b1:Bd k p1) (b2:Bd k p2) (b3:Bd k p3) (hk:k≤100000) (m0:n0<4611686018427387904) (m1:n1≤4611686018427387904) (m2:n2+n3≤n0) :
  Ct P 163 [dS p0 p1 p2 p3,c6 n0 n1 n2 n3 n4 n5] [rP (ji p1 p2 p3 n0 n1 n2 n3)]:=by
 have i0:Bd 63 (n0-n2-n3,1):=az (by omega) (by omega);have i1:Bd 63 (n1,1):=az (by omega) (by omega);have i2:Bd 63 (n2,1):=az (by omega) (by omega);have i3:Bd 63 (n3,1):=az (by omega) (by omega);have f1:=bc i2 b1;have f2:=bc i3 b2;have f3:=ep f1 f2;have f4:=bc i0 b3;have f5:=ep f3 f4;refine Ct.go aj aa (N:=41) Tryz.func163 rfl rfl rfl rfl ?_;refine .intro (by decide) (.intro (by decide) ?_);refine ah (λh0=>?_) (λh0=>?_)
 ·rw[ji,if_pos (by omega)];refine X1 _ (aI 1 (by omega)) ?_;exact ⟨HJ,rc rfl,HJ⟩
 ·rw[ji,if_neg (by omega)];refine .intro (by decide) (.intro (by decide) ?_);refine X1 _ (aI n2 (by omega)) ?_;refine .intro (by decide) (.intro (by decide) ?_);refine X1 _ (dK i2 b1 (by omega) (by omega)) ?_;refine .intro (by decide) (.intro (by decide) ?_);refine X1 _ (aI n3 (by omega)) ?_;refine .intro (by decide) (.intro (by decide) ?_);refine X1 _ (dK i3 b2 (by omega) (by omega)) ?_;refine X1 _ (kF f1 f2 (by omega) (by omega)) ?_;refine .intro rfl ?_;refine .intro (by decide) (.intro (by decide) ?_);refine .intro (by decide) (.intro (by decide) ?_);refine X1 ((n0-n2:Nat):Int) (wI (by omega) (by omega) (by omega)) ?_;refine .intro (by decide) (.intro (by decide) ?_);refine X1 ((n0-n2-n3:Nat):Int) (wI (by omega) (by omega) (by omega)) ?_;refine X1 _ (aI (n0-n2-n3) (by omega)) ?_;refine .intro (by decide) (.intro (by decide) ?_);refine X1 _ (dK i0 b3 (by omega) (by omega)) ?_;refine X1 _ (kF f3 f4 (by omega) (by omega)) ?_;refine .intro (by decide) (.intro (by decide) ?_);refine X1 _ (aI n1 (by omega)) ?_;refine X1 _ (fi f5 i1 (by show n1≠0; omega) (by omega) (by omega)) ?_;refine .intro rfl ?_;exact ⟨HJ,rc rfl,HJ⟩
def cc (k n2 n3 a b:Nat):Nat × Nat:=cM (cM (k+1,1) (d5 (n2,1) (n2+2*n3,1))) (d5 (a,1) (b,1))
theorem zr (n0 n1 n2 n3 n4 n5:Nat) (h2:n2≠0) (hb:n2≠0) (m2:n2≤1000000) (m3:n3≤1000000) (m4:n4≤1000000) (m5:n5≤1000000) :
  Ct P 142 [.c (nI .i64 1),c6 n0 n1 n2 n3 n4 n5] [rP (cc 1 n2 n3 n3 n2)]:=by
 have j1:Bd 63 (n2,1):=az (by omega) (by omega);have j2:Bd 63 (n2+2*n3,1):=az (by omega) (by omega);have y:=cw j1 j2 (by show n2+2*n3≠0; omega);refine Ct.go aj aa (N:=34) Tryz.func142 rfl rfl rfl rfl ?_
 ·refine .intro (by decide) (.intro (by decide) ?_);refine X1 _ (aI n2 (by omega)) ?_;refine .intro (by decide) (.intro (by decide) ?_);refine .intro (by decide) (.intro (by decide) ?_);refine X1 ((2*n3:Nat):Int) (wI (by simp) (by omega) (by omega)) ?_;refine X1 ((n2+2*n3:Nat):Int) (wI (by simp) (by omega) (by omega)) ?_;refine X1 _ (aI (n2+2*n3) (by omega)) ?_;refine X1 _ (fi j1 j2 (by show n2+2*n3≠0; omega) (by omega) (by omega)) ?_;refine .intro rfl ?_;refine X1 ((2:Nat):Int) (wI (by simp) (by omega) (by omega)) ?_;refine X1 _ (aI 2 (by omega)) ?_;refine X1 _ (dK (az (v:=2) (k:=63) (by decide) (by omega)) y (by omega) (by omega)) ?_;refine X1 ((3:Nat):Int) (wI (by simp) (by omega) (by omega)) ?_;refine .intro (by decide) (.intro (by decide) ?_);refine X1 _ (aI n3 (by omega)) ?_;refine X1 ((2:Nat):Int) (wI (by simp) (by omega) (by omega)) ?_;refine .intro (by decide) (.intro (by decide) ?_);refine X1 _ (aI n2 (by omega)) ?_;refine X1 _ (fi (az (v:=n3) (k:=63) (by omega) (by omega)) (az (v:=n2) (k:=63) (by omega) (by omega)) (by show n2≠0; omega) (by omega) (by omega)) ?_;refine X1 _ (dK (bc (az (v:=2) (k:=63) (by decide) (by omega)) y) (cw (az (v:=n3) (k:=63) (by omega) (by omega)) (az (v:=n2) (k:=63) (by omega) (by omega)) (by show n2≠0; omega)) (by omega) (by omega)) ?_;refine .intro rfl ?_;exact ⟨HJ,rc rfl,HJ⟩
theorem zs (n0 n1 n2 n3 n4 n5:Nat) (h2:n2≠0) (hb:n3≠0) (m2:n2≤1000000) (m3:n3≤1000000) (m4:n4≤1000000) (m5:n5≤1000000) :
  Ct P 142 [.c (nI .i64 2),c6 n0 n1 n2 n3 n4 n5] [rP (cc 2 n2 n3 n4 n3)]:=by
 have j1:Bd 63 (n2,1):=az (by omega) (by omega);have j2:Bd 63 (n2+2*n3,1):=az (by omega) (by omega);have y:=cw j1 j2 (by show n2+2*n3≠0; omega);refine Ct.go aj aa (N:=34) Tryz.func142 rfl rfl rfl rfl ?_
 ·refine .intro (by decide) (.intro (by decide) ?_);refine X1 _ (aI n2 (by omega)) ?_;refine .intro (by decide) (.intro (by decide) ?_);refine .intro (by decide) (.intro (by decide) ?_);refine X1 ((2*n3:Nat):Int) (wI (by simp) (by omega) (by omega)) ?_;refine X1 ((n2+2*n3:Nat):Int) (wI (by simp) (by omega) (by omega)) ?_;refine X1 _ (aI (n2+2*n3) (by omega)) ?_;refine X1 _ (fi j1 j2 (by show n2+2*n3≠0; omega) (by omega) (by omega)) ?_;refine .intro rfl ?_;refine X1 ((3:Nat):Int) (wI (by simp) (by omega) (by omega)) ?_;refine X1 _ (aI 3 (by omega)) ?_;refine X1 _ (dK (az (v:=3) (k:=63) (by decide) (by omega)) y (by omega) (by omega)) ?_;refine X1 ((4:Nat):Int) (wI (by simp) (by omega) (by omega)) ?_;refine .intro (by decide) (.intro (by decide) ?_);refine X1 _ (aI n4 (by omega)) ?_;refine X1 ((3:Nat):Int) (wI (by simp) (by omega) (by omega)) ?_;refine .intro (by decide) (.intro (by decide) ?_);refine X1 _ (aI n3 (by omega)) ?_;refine X1 _ (fi (az (v:=n4) (k:=63) (by omega) (by omega)) (az (v:=n3) (k:=63) (by omega) (by omega)) (by show n3≠0; omega) (by omega) (by omega)) ?_;refine X1 _ (dK (bc (az (v:=3) (k:=63) (by decide) (by omega)) y) (cw (az (v:=n4) (k:=63) (by omega) (by omega)) (az (v:=n3) (k:=63) (by omega) (by omega)) (by show n3≠0; omega)) (by omega) (by omega)) ?_;refine .intro rfl ?_;exact ⟨HJ,rc rfl,HJ⟩
theorem zt (n0 n1 n2 n3 n4 n5:Nat) (h2:n2≠0) (hb:n4≠0) (m2:n2≤1000000) (m3:n3≤1000000) (m4:n4≤1000000) (m5:n5≤1000000) :
  Ct P 142 [.c (nI .i64 3),c6 n0 n1 n2 n3 n4 n5] [rP (cc 3 n2 n3 n5 n4)]:=by
 have j1:Bd 63 (n2,1):=az (by omega) (by omega);have j2:Bd 63 (n2+2*n3,1):=az (by omega) (by omega);have y:=cw j1 j2 (by show n2+2*n3≠0; omega);refine Ct.go aj aa (N:=34) Tryz.func142 rfl rfl rfl rfl ?_
 ·refine .intro (by decide) (.intro (by decide) ?_);refine X1 _ (aI n2 (by omega)) ?_;refine .intro (by decide) (.intro (by decide) ?_);refine .intro (by decide) (.intro (by decide) ?_);refine X1 ((2*n3:Nat):Int) (wI (by simp) (by omega) (by omega)) ?_;refine X1 ((n2+2*n3:Nat):Int) (wI (by simp) (by omega) (by omega)) ?_;refine X1 _ (aI (n2+2*n3) (by omega)) ?_;refine X1 _ (fi j1 j2 (by show n2+2*n3≠0; omega) (by omega) (by omega)) ?_;refine .intro rfl ?_;refine X1 ((4:Nat):Int) (wI (by simp) (by omega) (by omega)) ?_;refine X1 _ (aI 4 (by omega)) ?_;refine X1 _ (dK (az (v:=4) (k:=63) (by decide) (by omega)) y (by omega) (by omega)) ?_;refine X1 ((5:Nat):Int) (wI (by simp) (by omega) (by omega)) ?_;refine .intro (by decide) (.intro (by decide) ?_);refine X1 _ (aI n5 (by omega)) ?_;refine X1 ((4:Nat):Int) (wI (by simp) (by omega) (by omega)) ?_;refine .intro (by decide) (.intro (by decide) ?_);refine X1 _ (aI n4 (by omega)) ?_;refine X1 _ (fi (az (v:=n5) (k:=63) (by omega) (by omega)) (az (v:=n4) (k:=63) (by omega) (by omega)) (by show n4≠0; omega) (by omega) (by omega)) ?_;refine X1 _ (dK (bc (az (v:=4) (k:=63) (by decide) (by omega)) y) (cw (az (v:=n5) (k:=63) (by omega) (by omega)) (az (v:=n4) (k:=63) (by omega) (by omega)) (by show n4≠0; omega)) (by omega) (by omega)) ?_;refine .intro rfl ?_;exact ⟨HJ,rc rfl,HJ⟩
end
end Go.Proofs.YtgceikecdedfcaaGreat.Pv
