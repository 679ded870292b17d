/- Parts of a proof, joined: Ce Cg Ci Cj Ck. -/
import Derived.Test.YtgceikecdedfcaaGreatLsL
namespace Go.Proofs.YtgceikecdedfcaaGreat.Pv
open Go
section
theorem sv {x:Nat} (hx:x<18446744073709551616):IntKind.u64.wrap ((BitVec.ofInt IntKind.u64.bits (x:Int)&&&BitVec.ofInt IntKind.u64.bits 4294967295).toNat:Int)=((x%4294967296:Nat):Int):=by
 have e:(BitVec.ofInt IntKind.u64.bits (x:Int)&&&BitVec.ofInt IntKind.u64.bits 4294967295).toNat=x%4294967296:=by
  show (BitVec.ofInt 64 (x:Int)&&&BitVec.ofInt 64 ((4294967295:Nat):Int)).toNat=_
  rw[BitVec.ofInt_natCast,BitVec.ofInt_natCast,BitVec.toNat_and,BitVec.toNat_ofNat,BitVec.toNat_ofNat,Fi (by omega:x<2^64),Fi (by omega:4294967295<2^64)];exact Nat.and_two_pow_sub_one_eq_mod x 32
 rw[e];exact wU rfl (by omega) (by omega)
theorem ud {n:Nat}:IntKind.u64.wrap (n:Int)=((n%18446744073709551616:Nat):Int):=by
 simp[IntKind.wrap,IntKind.bits,IntKind.signed]
theorem nS (x y:Nat) (hx:x<18446744073709551616) (hy:y<18446744073709551616):Ct P 157 [.c (nI .u64 x),.c (nI .u64 y)] [.c (nI .u64 (x*y/18446744073709551616)),.c (nI .u64 (x*y%18446744073709551616))]:=by
 have q:x*y=(x/4294967296)*(y/4294967296)*18446744073709551616+(x/4294967296)*(y%4294967296)*4294967296+(x%4294967296)*(y/4294967296)*4294967296+(x%4294967296)*(y%4294967296):=by
  conv=>lhs; rw[←FL x 4294967296,←FL y 4294967296]
  simp only[E5,EU];have e1:4294967296*(x/4294967296)*(4294967296*(y/4294967296))=(x/4294967296)*(y/4294967296)*18446744073709551616:=by
   rw[Nat.mul_mul_mul_comm,EV (4294967296*4294967296)]
  have e2:x%4294967296*(4294967296*(y/4294967296))=(x%4294967296)*(y/4294967296)*4294967296:=by rw[FC,EV 4294967296]
  have e3:4294967296*(x/4294967296)*(y%4294967296)=(x/4294967296)*(y%4294967296)*4294967296:=by rw[ES,EV 4294967296]
  omega
 refine Ct.go aj aa (N:=51) Tryz.func157 rfl rfl rfl rfl ?_;refine X1 _ (sv hx) ?_;refine .intro (by omega) (X1 ((x/4294967296:Nat):Int) (fH (k:=32) (by decide)) (.intro ⟨by omega,by omega⟩ ?_));refine X1 _ (sv hy) ?_;refine .intro (by omega) (X1 ((y/4294967296:Nat):Int) (fH (k:=32) (by decide)) (.intro ⟨by omega,by omega⟩ ?_));have hx0:x%4294967296<4294967296:=by omega
 have hx1:x/4294967296<4294967296:=by omega
 have hy0:y%4294967296<4294967296:=by omega
 have hy1:y/4294967296<4294967296:=by omega
 generalize x%4294967296=x0 at *
 generalize x/4294967296=x1 at *
 generalize y%4294967296=y0 at *
 generalize y/4294967296=y1 at *
 have l00:x0*y0≤4294967295*4294967295:=FF (by omega) (by omega);have l01:x0*y1≤4294967295*4294967295:=FF (by omega) (by omega);have l10:x1*y0≤4294967295*4294967295:=FF (by omega) (by omega);have l11:x1*y1≤4294967295*4294967295:=FF (by omega) (by omega);refine X1 ((x0*y0:Nat):Int) (wU (by simp) (by omega) (by omega)) ?_;refine X1 ((x1*y0:Nat):Int) (wU (by simp) (by omega) (by omega)) ?_;refine .intro (by omega) (X1 ((x0*y0/4294967296:Nat):Int) (fH (k:=32) (by decide)) (.intro ⟨by omega,by omega⟩ ?_));obtain ⟨t,ht⟩:∃ t,t=x1*y0+x0*y0/4294967296:=⟨_,rfl⟩;refine X1 ((t:Nat):Int) (wU (by rw[ht]; simp) (by omega) (by omega)) ?_;refine X1 _ (sv (by omega)) ?_;refine .intro (by omega) (X1 ((t/4294967296:Nat):Int) (fH (k:=32) (by decide)) (.intro ⟨by omega,by omega⟩ ?_));refine X1 ((x0*y1:Nat):Int) (wU (by simp) (by omega) (by omega)) ?_;obtain ⟨u,hu⟩:∃ u,u=t%4294967296+x0*y1:=⟨_,rfl⟩;refine X1 ((u:Nat):Int) (wU (by rw[hu]; simp) (by omega) (by omega)) ?_;refine X1 ((x1*y1:Nat):Int) (wU (by simp) (by omega) (by omega)) ?_;refine X1 ((x1*y1+t/4294967296:Nat):Int) (wU (by simp) (by omega) (by omega)) ?_;refine .intro (by omega) (X1 ((u/4294967296:Nat):Int) (fH (k:=32) (by decide)) (.intro ⟨by omega,by omega⟩ ?_));refine X1 ((x1*y1+t/4294967296+u/4294967296:Nat):Int) (wU (by simp) (by omega) (by omega)) ?_;refine X1 ((x*y%18446744073709551616:Nat):Int) (by rw[←ud]; simp) ?_;exact ⟨HJ,r1 (iE (by rw[show x*y/18446744073709551616=x1*y1+t/4294967296+u/4294967296 by omega])),r1 rfl,HJ⟩
theorem y7 {a b k:Nat} (ha:(dg 18446744073709551616 a).length≤k) (hb:(dg 18446744073709551616 b).length≤k):(dg 18446744073709551616 (a+b)).length≤k+1:=by
 apply bQ (by omega);have h1:=EM (bj (B:=18446744073709551616) (by omega) a) (ER (by omega) ha);have h2:=EM (bj (B:=18446744073709551616) (by omega) b) (ER (by omega) hb);rw[Fk];omega
theorem mH (a0 b0:Nat) (ha:(dg 18446744073709551616 a0).length≤400000) (hb:(dg 18446744073709551616 b0).length≤400000):Ct P 100 [nV a0,nV b0] [nV (a0+b0)]:=by
 refine Ct.go aj aa (N:=59) Tryz.func100 rfl rfl rfl rfl ?_;refine X1 _ (t8 a0 b0 (by omega) (by omega)) ?_;obtain ⟨a,hae⟩:∃ a,a=if blen a0<blen b0 then b0 else a0:=⟨_,rfl⟩
 obtain ⟨b,hbe⟩:∃ b,b=if blen a0<blen b0 then a0 else b0:=⟨_,rfl⟩
 rw[←hae,←hbe];have hsum:a0+b0=a+b:=by rw[hae,hbe]; split<;>omega
 have hla:(dg 18446744073709551616 a).length≤400000:=by rw[hae]; split<;>assumption
 have hlb:(dg 18446744073709551616 b).length≤(dg 18446744073709551616 a).length:=by
  apply bQ (by omega);have h1:blen b≤blen a:=by rw[hae,hbe]; split<;>omega
  have h2:=nQ a;rw[nP];exact EM (eH b) (ER (by omega) (by omega))
 rw[hsum];clear hae hbe hsum ha hb;refine .intro (by rw[ai]; omega) ?_;rw[ai];refine X1 (((dg 18446744073709551616 a).length+1:Nat):Int) (wI (by simp) (by omega) (by omega)) ?_;refine ⟨by omega,by omega,by omega,.inl (by decide),?_⟩;refine .intro (by rw[ai]; omega) ?_;rw[ai];refine aw aj aa (G:=Nat × List Nat × Nat) (λ(i,out,c)=>i≤(dg 18446744073709551616 a).length∧out.length=(dg 18446744073709551616 a).length+1∧Dig 18446744073709551616 out∧c≤1∧val 18446744073709551616 ((dg 18446744073709551616 a).take i)+val 18446744073709551616 ((dg 18446744073709551616 b).take i)=val 18446744073709551616 (out.take i)+18446744073709551616^i*c)
  (λ(i,out,c)=>[(2,.c (.ad 2 0)),(3,.c (.ad 3 0)),(4,.c (.ad 4 0)),(5,.c (.ow 19 1 ((dg 18446744073709551616 a).length+1))),(6,.c (nI .u64 c)),(22,.c (nI .i64 (dg 18446744073709551616 a).length)),(23,.c (nI .i64 i))])
  (λ((i,out,c):Nat × List Nat × Nat)=>[(2,.var [nSl .u64 (dg 18446744073709551616 a)]),(3,.var [nSl .u64 (dg 18446744073709551616 b)]),(4,.var [.sc (.slice none 0 0)]),(19,.row 1 (aE .u64 out))]) (λ(i,out,c)=>(dg 18446744073709551616 a).length-i)
  (0,List.replicate ((dg 18446744073709551616 a).length+1) 0,0) ⟨by simp,by simp,λx hx=>by rw[FD hx]; omega,by simp,by simp[val]⟩
  ⟨rfl,rfl,rfl,owE (by omega),rfl,rfl,rfl,HJ⟩ ⟨rfl,rfl,rfl,aB (ff rfl),HJ⟩
  (G2:=List Nat × Nat) (λ(l,c)=>Dig 18446744073709551616 l∧c≤1∧val 18446744073709551616 (l.take (dg 18446744073709551616 a).length)+18446744073709551616^(dg 18446744073709551616 a).length*c=a+b∧l.length=(dg 18446744073709551616 a).length+1) (λ(l,c)=>[(2,.c (.ad 2 0)),(4,.c (.ad 4 0)),(5,.c (.ow 19 1 ((dg 18446744073709551616 a).length+1))),(6,.c (nI .u64 c))])
  (λ((l,c):List Nat × Nat)=>[(2,.var [nSl .u64 (dg 18446744073709551616 a)]),(4,.var [.sc (.slice none 0 0)]),(19,.row 1 (aE .u64 l))]) (λg hg=>?_) (λg hg=>?_)
 ·obtain ⟨i,out,c⟩:=g;obtain ⟨h1,h2,h6,h3,h4⟩:=hg;refine ah (λh5=>?_) (λh5=>?_)
  ·have hx:=(br (B:=18446744073709551616) (by omega) a).getD (by omega) i;have hy:=(br (B:=18446744073709551616) (by omega) b).getD (by omega) i;have hA:=aC 18446744073709551616 (dg 18446744073709551616 a) i;have hB:=aC 18446744073709551616 (dg 18446744073709551616 b) i;generalize hxx:(dg 18446744073709551616 a).getD i 0=x at hx hA;refine .intro (by rw[ai]; omega) ?_;rw[ai];refine ah (λh7=>And.intro (by omega) (X1 _ (al rfl (by omega)) ?_)) (λh7=>?_)
   ·generalize hyy:(dg 18446744073709551616 b).getD i 0=y at hy hB ⊢;refine .intro (by omega) (X1 _ (al rfl (by omega)) ?_);rw[hxx];refine X1 _ (ef x y c hx (by omega) h3) ?_;refine .intro (by omega) (.intro (by simp<;>omega) ?_);refine X1 _ (al rfl (by omega)) ?_;refine X1 ((i+1:Nat):Int) (wI1 (by omega)) ?_;refine ⟨(i+1,out.set i ((x+y+c)%18446744073709551616),(x+y+c)/18446744073709551616),⟨by omega,by simp[h2],h6.set (by omega),by omega,?_⟩,by show _-(i+1)<_-i; omega,⟨rfl,rfl,rfl,rfl,rfl,rfl,rfl,HJ⟩,⟨rfl,rfl,rfl,aB nRow_set,HJ⟩⟩;have hst:=dp 18446744073709551616 out (i:=i) (v:=(x+y+c)%18446744073709551616) (by omega);rw[hst,hA,hB];have key:x+y+c=(x+y+c)%18446744073709551616+18446744073709551616*((x+y+c)/18446744073709551616):=by omega
    have k2:=congrArg (18446744073709551616^i * ·) key;simp only[E5]at k2;rw[Fk,ES];omega
   ·have hyy:(dg 18446744073709551616 b).getD i 0=0:=by rw[EB,EZ (by omega)]; rfl
    rw[hyy]at hB;refine .intro (by omega) (X1 _ (al rfl (by omega)) ?_);rw[hxx];refine X1 _ (ef x 0 c hx (by omega) h3) ?_;refine .intro (by omega) (.intro (by simp<;>omega) ?_);refine X1 _ (al rfl (by omega)) ?_;refine X1 ((i+1:Nat):Int) (wI1 (by omega)) ?_;refine ⟨(i+1,out.set i ((x+0+c)%18446744073709551616),(x+0+c)/18446744073709551616),⟨by omega,by simp[h2],h6.set (by omega),by omega,?_⟩,by show _-(i+1)<_-i; omega,⟨rfl,rfl,rfl,rfl,rfl,rfl,rfl,HJ⟩,⟨rfl,rfl,rfl,aB nRow_set,HJ⟩⟩;have hst:=dp 18446744073709551616 out (i:=i) (v:=(x+0+c)%18446744073709551616) (by omega);rw[hst,hA,hB];have key:x+0+c=(x+0+c)%18446744073709551616+18446744073709551616*((x+0+c)/18446744073709551616):=by omega
    have k2:=congrArg (18446744073709551616^i * ·) key;simp only[E5]at k2;rw[Fk,ES];omega
  ·have e:i=(dg 18446744073709551616 a).length:=by omega
   subst e;refine ⟨(out,c),⟨h6,h3,?_,h2⟩,⟨rfl,rfl,rfl,rfl,HJ⟩,⟨rfl,rfl,rfl,HJ⟩⟩;rw[aS (EE _),aS hlb,bq (by omega),bq (by omega)]at h4;exact h4.symm
 ·obtain ⟨l,c⟩:=g;obtain ⟨h1,h2,h3,h4⟩:=hg;refine .intro (by rw[ai]; omega) ?_;rw[ai];refine .intro (by omega) (.intro (by omega) ?_);refine X1 _ (al rfl (by omega)) ?_;refine X2 .frz ?_;have hv:=dp 18446744073709551616 l (i:=(dg 18446744073709551616 a).length) (v:=c) (by omega);rw[aS (by simp; omega),h3]at hv;have ht:=eg (l.set (dg 18446744073709551616 a).length c) (by simp; omega);rw[cE (by omega) (h1.set (by omega)),hv]at ht;refine X1 _ (show Ct P 113 [.c (.sl 1 ((aE .u64 l).set (dg 18446744073709551616 a).length [nI .u64 c]))] [nV (a+b)] by rw[nRow_set]; exact ht) ?_;exact ⟨HJ,rc rfl,HJ⟩
theorem cR {k:IntKind} {l:List Nat} {a n:Nat} (h0:a=n) (h:n<l.length):(aE k l)[a]? = some [nI k (l.getD n 0)]:=by
 subst h0;simp[aE,h]
def am (t l:List Nat) (x lo:Nat):Nat→List Nat × Nat
 | 0=>(t,0)
 | i+1=>((am t l x lo i).1.set (lo+i) (((am t l x lo i).1.getD (lo+i) 0+x*l.getD i 0+(am t l x lo i).2)%18446744073709551616),((am t l x lo i).1.getD (lo+i) 0+x*l.getD i 0+(am t l x lo i).2)/18446744073709551616)
theorem gi {t l:List Nat} {x lo:Nat} (ht:Dig 18446744073709551616 t) (hl:Dig 18446744073709551616 l) (hx:x<18446744073709551616):∀ i,lo+i≤t.length →
  (am t l x lo i).1.length=t.length∧Dig 18446744073709551616 (am t l x lo i).1∧(am t l x lo i).2<18446744073709551616∧val 18446744073709551616 (am t l x lo i).1+18446744073709551616^(lo+i)*(am t l x lo i).2=val 18446744073709551616 t+18446744073709551616^lo*(x*val 18446744073709551616 (l.take i))
 | 0,_=>⟨rfl,ht,by show 0<18446744073709551616; omega,by simp[am,val]⟩
 | i+1,hi=>by
  obtain ⟨h1,h2,h3,h4⟩:=gi (lo:=lo) ht hl hx i (by omega);simp only[am];generalize (am t l x lo i).1=s at *
  generalize (am t l x lo i).2=c at *
  have hz:=h2.getD (by omega) (lo+i);have hy:=hl.getD (by omega) i;have hT:=aC 18446744073709551616 l i;have hset:=λv:Nat=>fN (B:=18446744073709551616) (l:=s) (i:=lo+i) (x:=v) (by omega)
  generalize s.getD (lo+i) 0=z at *
  generalize l.getD i 0=y at *
  have hxy:x*y≤18446744073709551615*18446744073709551615:=FF (by omega) (by omega);obtain ⟨v,hv⟩:∃ v,v=z+x*y+c:=⟨_,rfl⟩;rw[←hv];refine ⟨by simp[h1],h2.set (by omega),by omega,?_⟩;have hs:=hset (v%18446744073709551616);have e1:18446744073709551616^(lo+(i+1))*(v/18446744073709551616)+18446744073709551616^(lo+i)*(v%18446744073709551616)=18446744073709551616^(lo+i)*v:=by
   rw[←FG,Fk,ES,←E5];congr 1; omega
  have e2:18446744073709551616^(lo+i)*v=18446744073709551616^(lo+i)*z+18446744073709551616^(lo+i)*(x*y)+18446744073709551616^(lo+i)*c:=by rw[hv,E5,E5]
  have e3:18446744073709551616^lo*(x*val 18446744073709551616 (l.take (i+1)))=18446744073709551616^lo*(x*val 18446744073709551616 (l.take i))+18446744073709551616^(lo+i)*(x*y):=by
   rw[hT,E5,E5,Fy,ES,FC x]
  omega
theorem uZ {t l:List Nat} {x lo:Nat} (ht:Dig 18446744073709551616 t) (hl:Dig 18446744073709551616 l) (hx:x<18446744073709551616) (hlen:lo+l.length≤t.length) (i:Nat) (hi:i≤l.length) :
  (am t l x lo i).1.length=t.length∧Dig 18446744073709551616 (am t l x lo i).1∧(am t l x lo i).2<18446744073709551616∧val 18446744073709551616 (am t l x lo i).1+18446744073709551616^(lo+i)*(am t l x lo i).2=val 18446744073709551616 t+18446744073709551616^lo*(x*val 18446744073709551616 (l.take i)):=gi (lo:=lo) ht hl hx i (by omega)
theorem ql {t l:List Nat} {lo:Nat} (ht:Dig 18446744073709551616 t) (hl:Dig 18446744073709551616 l):∀ i,lo+i≤t.length→(am t l 1 lo i).2≤1
 | 0,_=>GB _
 | i+1,hi=>by
  have h1:=ql (lo:=lo) ht hl i (by omega);obtain ⟨_,h2,_,_⟩:=gi (lo:=lo) (x:=1) ht hl (by omega) i (by omega);have hz:=h2.getD (by omega) (lo+i);have hy:=hl.getD (by omega) i;simp only[am];omega
theorem we (t l:List Nat) (x lo n:Nat) (ht:Dig 18446744073709551616 t) (hl:Dig 18446744073709551616 l) (hx:x<18446744073709551616) (hlen:lo+n≤t.length) (hn:l.length≤n) (hb:t.length≤1000000) :
  CtO P 112 [(1000000,some (.row 1 (aE .u64 t)))] [.c (.os 1000000 1 lo n),.c (nSl .u64 l),.c (nI .u64 x)] [(1000000,some (.row 1 (aE .u64 (am t l x lo l.length).1)))] [.c (nI .u64 (am t l x lo l.length).2)]:=by
 refine Ct.io aj aa (N:=52) Tryz.func112 rfl rfl rfl rfl ?_;refine .intro (by rw[ai]; omega) ?_;rw[ai];refine aw aj aa (λi:Nat=>i≤l.length) (λi=>[(0,.c (.os 1000000 1 lo n)),(2,.c (nI .u64 x)),(7,.c (nI .u64 (am t l x lo i).2)),(13,.c (nSl .u64 l)),(14,.c (nI .i64 l.length)),(15,.c (nI .i64 i))])
  (λi=>[(1000000,.row 1 (aE .u64 (am t l x lo i).1))]) (λi=>l.length-i) 0 (by omega) ⟨rfl,rfl,rfl,rfl,rfl,rfl,HJ⟩ ⟨rfl,HJ⟩
  (λ_:Unit=>True) (λ_=>[(7,.c (nI .u64 (am t l x lo l.length).2))]) (λ_=>[(1000000,.row 1 (aE .u64 (am t l x lo l.length).1))]) (λi hi=>?_) (λ_ _=>?_)
 ·refine ah (λh5=>?_) (λh5=>?_)
  ·obtain ⟨h1,h2,h3,h4⟩:=uZ (lo:=lo) ht hl hx (by omega) i hi;have hz:=h2.getD (by omega) (lo+i);have hy:=hl.getD (by omega) i;have hxy:x*l.getD i 0≤18446744073709551615*18446744073709551615:=FF (by omega) (by omega);refine .intro (by omega) (X1 _ (al rfl (by omega)) ?_);refine X1 _ (nS x (l.getD i 0) hx hy) ?_;refine X1 _ (ef _ _ 0 (by omega) h3 (by omega)) ?_;refine X1 ((x*l.getD i 0/18446744073709551616+(x*l.getD i 0%18446744073709551616+(am t l x lo i).2+0)/18446744073709551616:Nat):Int) (wU (by simp) (by omega) (by omega)) ?_;refine .intro (by omega) (.intro (by omega) ?_);refine X1 _ (cR (n:=lo+i) (by omega) (by omega)) ?_;refine X1 _ (ef _ _ 0 hz (by omega) (by omega)) ?_;refine .intro (by omega) (.intro (by omega) ?_);refine X1 _ (cR (n:=lo+i) (by omega) (by omega)) ?_;have hs:am t l x lo (i+1)=((am t l x lo i).1.set (lo+i) (((am t l x lo i).1.getD (lo+i) 0+x*l.getD i 0+(am t l x lo i).2)%18446744073709551616),((am t l x lo i).1.getD (lo+i) 0+x*l.getD i 0+(am t l x lo i).2)/18446744073709551616):=rfl;have e1:(am t l x lo (i+1)).1=(am t l x lo i).1.set (lo+i) (((am t l x lo i).1.getD (lo+i) 0+(x*l.getD i 0%18446744073709551616+(am t l x lo i).2+0)%18446744073709551616+0)%18446744073709551616):=by
    rw[hs]; show List.set _ _ _=_; congr 1; omega
   have e2:(am t l x lo (i+1)).2=x*l.getD i 0/18446744073709551616+(x*l.getD i 0%18446744073709551616+(am t l x lo i).2+0)/18446744073709551616+((am t l x lo i).1.getD (lo+i) 0+(x*l.getD i 0%18446744073709551616+(am t l x lo i).2+0)%18446744073709551616+0)/18446744073709551616:=by
    rw[hs]; show (_:Nat)/_=_; omega
   refine X1 (((am t l x lo (i+1)).2:Nat):Int) (wU (by rw[e2]; simp) (by omega) (by omega)) ?_;refine X1 ((i+1:Nat):Int) (wI1 (by omega)) ?_;refine ⟨i+1,by omega,by omega,⟨rfl,rfl,rfl,rfl,rfl,rfl,HJ⟩,⟨aB ?_,HJ⟩⟩;rw[e1,←nRow_set];rfl
  ·have e:i=l.length:=by omega
   subst e;exact ⟨(),HJ,⟨rfl,HJ⟩,⟨rfl,HJ⟩⟩
 ·exact ⟨HJ,SubO.of (l:=[(1000000,.row 1 (aE .u64 (am t l x lo l.length).1))]) ⟨rfl,HJ⟩,r1 rfl,HJ⟩
theorem getD_set_ne {l:List Nat} {i j v:Nat} (h:i≠j):(l.set i v).getD j 0=l.getD j 0:=by
 rw[EB,EB,List.getElem?_set_ne h]
theorem qm {t l:List Nat} {x lo:Nat}:∀ {i j:Nat},lo+i≤j→(am t l x lo i).1.getD j 0=t.getD j 0
 | 0,j,_=>rfl
 | i+1,j,h=>by
  simp only[am];rw[getD_set_ne (by omega)];exact qm (by omega)
theorem cY (a b:Nat) (ha:(dg 18446744073709551616 a).length≤400000) (hb:(dg 18446744073709551616 b).length≤400000):Ct P 66 [nV a,nV b] [nV (a*b)]:=by
 refine Ct.go aj aa (N:=41) Tryz.func66 rfl rfl rfl rfl ?_;refine .intro (by rw[ai]; omega) ?_;refine .intro (by rw[ai]; omega) ?_;rw[ai,ai];refine X1 (((dg 18446744073709551616 a).length+(dg 18446744073709551616 b).length:Nat):Int) (wI (by simp) (by omega) (by omega)) ?_;refine ⟨by omega,by omega,by omega,.inl (by decide),?_⟩;refine .intro (by rw[ai]; omega) ?_;rw[ai];have hA:=br (B:=18446744073709551616) (by omega) a;have hB:=br (B:=18446744073709551616) (by omega) b;have vA:=bq (B:=18446744073709551616) (by omega) a;have vB:=bq (B:=18446744073709551616) (by omega) b;refine aw aj aa (G:=Nat × List Nat) (λ(i,out)=>i≤(dg 18446744073709551616 a).length∧out.length=(dg 18446744073709551616 a).length+(dg 18446744073709551616 b).length∧Dig 18446744073709551616 out∧(∀ j,i+(dg 18446744073709551616 b).length≤j→out.getD j 0=0)∧val 18446744073709551616 out=val 18446744073709551616 ((dg 18446744073709551616 a).take i)*b)
  (λ(i,out)=>[(2,.c (.ad 2 0)),(3,.c (.ad 3 0)),(4,.c (.ad 4 0)),(5,.c (.ow 15 1 ((dg 18446744073709551616 a).length+(dg 18446744073709551616 b).length))),(17,.c (nSl .u64 (dg 18446744073709551616 a))),(18,.c (nI .i64 (dg 18446744073709551616 a).length)),(19,.c (nI .i64 i))])
  (λ((i,out):Nat × List Nat)=>[(2,.var [nSl .u64 (dg 18446744073709551616 a)]),(3,.var [nSl .u64 (dg 18446744073709551616 b)]),(4,.var [.sc (.slice none 0 0)]),(15,.row 1 (aE .u64 out))]) (λ(i,out)=>(dg 18446744073709551616 a).length-i)
  (0,List.replicate ((dg 18446744073709551616 a).length+(dg 18446744073709551616 b).length) 0) ⟨by simp,by simp,λx hx=>by rw[FD hx]; omega,λj _=>by simp[EB,FW]; split<;>rfl,by simp[val,mz]⟩
  ⟨rfl,rfl,rfl,owE (by omega),rfl,rfl,rfl,HJ⟩ ⟨rfl,rfl,rfl,aB (ff rfl),HJ⟩
  (λl:List Nat=>Dig 18446744073709551616 l∧val 18446744073709551616 l=a*b∧l.length≤1000000) (λl=>[(4,.c (.ad 4 0)),(5,.c (.ow 15 1 ((dg 18446744073709551616 a).length+(dg 18446744073709551616 b).length)))])
  (λl=>[(4,.var [.sc (.slice none 0 0)]),(15,.row 1 (aE .u64 l))]) (λg hg=>?_) (λl hl=>?_)
 ·obtain ⟨i,out⟩:=g;obtain ⟨h1,h2,h3,h4,h6⟩:=hg;refine ah (λh5=>?_) (λh5=>?_)
  ·have hx:=hA.getD (by omega) i;have hT:=aC 18446744073709551616 (dg 18446744073709551616 a) i;refine .intro (by omega) (X1 _ (al rfl (by omega)) ?_);generalize (dg 18446744073709551616 a).getD i 0=x at hx hT ⊢;refine .intro (by rw[ai]; omega) ?_;rw[ai];refine X1 ((i+(dg 18446744073709551616 b).length:Nat):Int) (wI (by simp) (by omega) (by omega)) ?_;refine ⟨i,(dg 18446744073709551616 a).length+(dg 18446744073709551616 b).length,rfl,rfl,by omega,by omega,.inr ⟨by omega,?_⟩⟩;refine X2 (.upd 15) ?_;refine ⟨_,_,we out (dg 18446744073709551616 b) x i ((dg 18446744073709551616 a).length+(dg 18446744073709551616 b).length-i) h3 hB hx (by omega) (by omega) (by omega),?_⟩;obtain ⟨g1,g2,g3,g4⟩:=uZ (t:=out) (l:=dg 18446744073709551616 b) (x:=x) (lo:=i) h3 hB hx (by omega) (dg 18446744073709551616 b).length (by omega);have g5:(am out (dg 18446744073709551616 b) x i (dg 18446744073709551616 b).length).1.getD (i+(dg 18446744073709551616 b).length) 0=0:=(qm (by omega)).trans (h4 _ (by omega));have g6:∀ j,i+1+(dg 18446744073709551616 b).length≤j→(am out (dg 18446744073709551616 b) x i (dg 18446744073709551616 b).length).1.getD j 0=0:=λj hj=>(qm (by omega)).trans (h4 _ (by omega))
   rw[aS (l:=dg 18446744073709551616 b) (by omega),vB]at g4;generalize (am out (dg 18446744073709551616 b) x i (dg 18446744073709551616 b).length).1=o2 at *
   generalize (am out (dg 18446744073709551616 b) x i (dg 18446744073709551616 b).length).2=c at *
   refine .intro (by omega) (.intro (by omega) ?_);refine X1 _ (al rfl (by omega)) ?_;refine .intro rfl ?_;refine X1 ((i+1:Nat):Int) (wI1 (by omega)) ?_;have hs:=fN (B:=18446744073709551616) (l:=o2) (i:=i+(dg 18446744073709551616 b).length) (x:=c) (by omega);rw[g5]at hs;refine ⟨(i+1,o2.set (i+(dg 18446744073709551616 b).length) c),⟨by omega,by simp[g1,h2],g2.set g3,λj hj=>by rw[getD_set_ne (by omega)]; exact g6 j (by omega),?_⟩,by show _-(i+1)<_-i; omega,⟨rfl,rfl,rfl,rfl,rfl,rfl,rfl,HJ⟩,⟨rfl,rfl,rfl,aB nRow_set,HJ⟩⟩;rw[hT,EU,ES,←h6];omega
  ·have e:i=(dg 18446744073709551616 a).length:=by omega
   subst e;rw[aS (EE _),vA]at h6;exact ⟨out,⟨h3,h6,by omega⟩,⟨rfl,rfl,HJ⟩,⟨rfl,rfl,HJ⟩⟩
 ·obtain ⟨h1,h2,h3⟩:=hl;refine X2 .frz ?_;refine X1 _ (eg l h3) ?_;rw[cE (by omega) h1,h2];exact ⟨HJ,rc rfl,HJ⟩
theorem ue (t l:List Nat) (lo n:Nat) (ht:Dig 18446744073709551616 t) (hl:Dig 18446744073709551616 l) (hlen:lo+n≤t.length) (hn:l.length<n) (hb:t.length≤1000000) :
  CtO P 156 [(1000000,some (.row 1 (aE .u64 t)))] [.c (.os 1000000 1 lo n),.c (nSl .u64 l)] [(1000000,some (.row 1 (aE .u64 (am t l 1 lo (l.length+1)).1)))] [.c (.sc (.bool (decide (((am t l 1 lo (l.length+1)).2:Int)>0))))]:=by
 have stepE:∀ i,(am t l 1 lo (i+1)).1=(am t l 1 lo i).1.set (lo+i) (((am t l 1 lo i).1.getD (lo+i) 0+l.getD i 0+(am t l 1 lo i).2)%18446744073709551616):=λi=>by simp only[am,Fn]
 have stepC:∀ i,(am t l 1 lo (i+1)).2=((am t l 1 lo i).1.getD (lo+i) 0+l.getD i 0+(am t l 1 lo i).2)/18446744073709551616:=λi=>by simp only[am,Fn]
 refine Ct.io aj aa (N:=45) Tryz.func156 rfl rfl rfl rfl ?_;refine .intro (by rw[ai]; omega) ?_;rw[ai];refine aw aj aa (λi:Nat=>i≤l.length) (λi=>[(0,.c (.os 1000000 1 lo n)),(1,.c (nSl .u64 l)),(5,.c (nI .u64 (am t l 1 lo i).2)),(8,.c (nSl .u64 l)),(9,.c (nI .i64 l.length)),(10,.c (nI .i64 i))])
  (λi=>[(1000000,.row 1 (aE .u64 (am t l 1 lo i).1))]) (λi=>l.length-i) 0 (by omega) ⟨rfl,rfl,rfl,rfl,rfl,rfl,HJ⟩ ⟨rfl,HJ⟩
  (λ_:Unit=>True) (λ_=>[(0,.c (.os 1000000 1 lo n)),(1,.c (nSl .u64 l)),(5,.c (nI .u64 (am t l 1 lo l.length).2))]) (λ_=>[(1000000,.row 1 (aE .u64 (am t l 1 lo l.length).1))]) (λi hi=>?_) (λ_ _=>?_)
 ·refine ah (λh5=>?_) (λh5=>?_)
  ·obtain ⟨h1,h2,h3,h4⟩:=gi (lo:=lo) (x:=1) ht hl (by omega) i (by omega);have h6:=ql (lo:=lo) ht hl i (by omega);have hz:=h2.getD (by omega) (lo+i);have hy:=hl.getD (by omega) i;refine .intro (by omega) (X1 _ (al rfl (by omega)) ?_);refine .intro (by omega) (.intro (by omega) ?_);refine X1 _ (cR (n:=lo+i) (by omega) (by omega)) ?_;refine X1 _ (ef _ _ _ hz hy h6) ?_;refine .intro (by omega) (.intro (by omega) ?_);refine X1 _ (cR (n:=lo+i) (by omega) (by omega)) ?_;refine X1 ((i+1:Nat):Int) (wI1 (by omega)) ?_;refine ⟨i+1,by omega,by omega,⟨rfl,rfl,iE (by rw[stepC]),rfl,rfl,rfl,HJ⟩,⟨aB ?_,HJ⟩⟩;rw[stepE,←nRow_set];rfl
  ·have e:i=l.length:=by omega
   subst e;exact ⟨(),HJ,⟨rfl,rfl,rfl,HJ⟩,⟨rfl,HJ⟩⟩
 ·obtain ⟨h1,h2,h3,h4⟩:=gi (lo:=lo) (x:=1) ht hl (by omega) l.length (by omega);have h6:=ql (lo:=lo) ht hl l.length (by omega);have hz:=h2.getD (by omega) (lo+l.length);have hy:l.getD l.length 0=0:=by rw[EB,EZ (by omega)]; rfl
  refine .intro (by rw[ai]; omega) ?_;refine .intro (by rw[ai]; omega) ?_;rw[ai];refine .intro (by omega) (.intro (by omega) ?_);refine X1 _ (cR (n:=lo+l.length) (by omega) (by omega)) ?_;refine X1 _ (ef _ 0 _ hz (by omega) h6) ?_;refine .intro (by omega) (.intro (by omega) ?_);refine X1 _ (cR (n:=lo+l.length) (by omega) (by omega)) ?_;have e1:(aE .u64 (am t l 1 lo l.length).1).set (lo+l.length) [nI .u64 (((am t l 1 lo l.length).1.getD (lo+l.length) 0+0+(am t l 1 lo l.length).2)%18446744073709551616)]=aE .u64 (am t l 1 lo (l.length+1)).1:=by
   rw[nRow_set,stepE,hy]
  have e2:(am t l 1 lo (l.length+1)).2=((am t l 1 lo l.length).1.getD (lo+l.length) 0+0+(am t l 1 lo l.length).2)/18446744073709551616:=by rw[stepC,hy]
  rw[e2,←e1];exact ⟨HJ,SubO.of (l:=[(1000000,.row 1 _)]) ⟨rfl,HJ⟩,r1 rfl,HJ⟩
structure SM where
 s:List Nat
 c:Nat
 b:Nat
def sm (t l:List Nat) (x lo:Nat):Nat→SM
 | 0=>⟨t,0,0⟩
 | i+1=>⟨(sm t l x lo i).s.set (lo+i) (((sm t l x lo i).s.getD (lo+i) 0+18446744073709551616-(x*l.getD i 0+(sm t l x lo i).c)%18446744073709551616-(sm t l x lo i).b)%18446744073709551616),
   (x*l.getD i 0+(sm t l x lo i).c)/18446744073709551616,if (sm t l x lo i).s.getD (lo+i) 0<(x*l.getD i 0+(sm t l x lo i).c)%18446744073709551616+(sm t l x lo i).b then 1 else 0⟩
theorem kC {t l:List Nat} {x lo:Nat} (ht:Dig 18446744073709551616 t) (hl:Dig 18446744073709551616 l) (hx:x<18446744073709551616):∀ i,lo+i≤t.length →
  (sm t l x lo i).s.length=t.length∧Dig 18446744073709551616 (sm t l x lo i).s∧(sm t l x lo i).c<18446744073709551616∧(sm t l x lo i).b≤1∧val 18446744073709551616 (sm t l x lo i).s+18446744073709551616^lo*(x*val 18446744073709551616 (l.take i))=val 18446744073709551616 t+18446744073709551616^(lo+i)*((sm t l x lo i).c+(sm t l x lo i).b)
 | 0,_=>⟨rfl,ht,by show 0<18446744073709551616; omega,GB _,by simp[sm,val]⟩
 | i+1,hi=>by
  obtain ⟨h1,h2,h3,h5,h4⟩:=kC (lo:=lo) ht hl hx i (by omega);simp only[sm];generalize (sm t l x lo i).s=s at *
  generalize (sm t l x lo i).c=c at *
  generalize (sm t l x lo i).b=b at *
  have hz:=h2.getD (by omega) (lo+i);have hy:=hl.getD (by omega) i;have hT:=aC 18446744073709551616 l i;have hset:=λv:Nat=>fN (B:=18446744073709551616) (l:=s) (i:=lo+i) (x:=v) (by omega)
  generalize s.getD (lo+i) 0=z at *
  generalize l.getD i 0=y at *
  have hxy:x*y≤18446744073709551615*18446744073709551615:=FF (by omega) (by omega);obtain ⟨p,hp⟩:∃ p,p=x*y+c:=⟨_,rfl⟩;rw[←hp];refine ⟨by simp[h1],h2.set (by omega),by omega,by split<;>omega,?_⟩;obtain ⟨r,hr⟩:∃ r,r=(z+18446744073709551616-p%18446744073709551616-b)%18446744073709551616:=⟨_,rfl⟩;obtain ⟨b',hb'⟩:∃ b',b'=if z<p%18446744073709551616+b then 1 else 0:=⟨_,rfl⟩
  rw[←hr,←hb'];have k1:r+p+b=z+18446744073709551616*(p/18446744073709551616+b'):=by
   rw[hr,hb']; split<;>omega
  have k2:=congrArg (18446744073709551616^(lo+i) * ·) k1;simp only[E5]at k2;have hs:=hset r;have e3:18446744073709551616^lo*(x*val 18446744073709551616 (l.take (i+1)))=18446744073709551616^lo*(x*val 18446744073709551616 (l.take i))+18446744073709551616^(lo+i)*(x*y):=by
   rw[hT,E5,E5,Fy,ES,FC x]
  have e4:18446744073709551616^(lo+i)*p=18446744073709551616^(lo+i)*(x*y)+18446744073709551616^(lo+i)*c:=by rw[hp,E5]
  rw[←FG lo i 1,Fk,ES,e3];simp only[E5]at h4 ⊢;omega
theorem wg (t l:List Nat) (x lo n:Nat) (ht:Dig 18446744073709551616 t) (hl:Dig 18446744073709551616 l) (hx:x<18446744073709551616) (hlen:lo+n≤t.length) (hn:l.length<n) (hb:t.length≤1000000) :
  CtO P 155 [(1000000,some (.row 1 (aE .u64 t)))] [.c (.os 1000000 1 lo n),.c (nSl .u64 l),.c (nI .u64 x)] [(1000000,some (.row 1 (aE .u64 (sm t l x lo (l.length+1)).s)))] [.c (.sc (.bool (decide (((sm t l x lo (l.length+1)).b:Int)>0))))]:=by
 refine Ct.io aj aa (N:=68) Tryz.func155 rfl rfl rfl rfl ?_;refine .intro (by rw[ai]; omega) ?_;rw[ai];refine aw aj aa (λi:Nat=>i≤l.length) (λi=>[(0,.c (.os 1000000 1 lo n)),(1,.c (nSl .u64 l)),(2,.c (nI .u64 x)),(7,.c (nI .u64 (sm t l x lo i).c)),(8,.c (nI .u64 (sm t l x lo i).b)),(15,.c (nSl .u64 l)),(16,.c (nI .i64 l.length)),(17,.c (nI .i64 i))])
  (λi=>[(1000000,.row 1 (aE .u64 (sm t l x lo i).s))]) (λi=>l.length-i) 0 (by omega) ⟨rfl,rfl,rfl,rfl,rfl,rfl,rfl,rfl,HJ⟩ ⟨rfl,HJ⟩
  (λ_:Unit=>True) (λ_=>[(0,.c (.os 1000000 1 lo n)),(1,.c (nSl .u64 l)),(7,.c (nI .u64 (sm t l x lo l.length).c)),(8,.c (nI .u64 (sm t l x lo l.length).b))]) (λ_=>[(1000000,.row 1 (aE .u64 (sm t l x lo l.length).s))]) (λi hi=>?_) (λ_ _=>?_)
 ·refine ah (λh5=>?_) (λh5=>?_)
  ·obtain ⟨h1,h2,h3,h6,h4⟩:=kC (lo:=lo) ht hl hx i (by omega);have hz:=h2.getD (by omega) (lo+i);have hy:=hl.getD (by omega) i;have hxy:x*l.getD i 0≤18446744073709551615*18446744073709551615:=FF (by omega) (by omega);have hs:sm t l x lo (i+1)=⟨(sm t l x lo i).s.set (lo+i) (((sm t l x lo i).s.getD (lo+i) 0+18446744073709551616-(x*l.getD i 0+(sm t l x lo i).c)%18446744073709551616-(sm t l x lo i).b)%18446744073709551616),
    (x*l.getD i 0+(sm t l x lo i).c)/18446744073709551616,if (sm t l x lo i).s.getD (lo+i) 0<(x*l.getD i 0+(sm t l x lo i).c)%18446744073709551616+(sm t l x lo i).b then 1 else 0⟩:=rfl
   have em:(x*l.getD i 0%18446744073709551616+(sm t l x lo i).c+0)%18446744073709551616=(x*l.getD i 0+(sm t l x lo i).c)%18446744073709551616:=by omega
   refine .intro (by omega) (X1 _ (al rfl (by omega)) ?_);refine X1 _ (nS x (l.getD i 0) hx hy) ?_;refine X1 _ (ef _ _ 0 (by omega) h3 (by omega)) ?_;rw[em];refine X1 (((sm t l x lo (i+1)).c:Nat):Int) (wU (by rw[hs]; show _=(((x*l.getD i 0+(sm t l x lo i).c)/18446744073709551616:Nat):Int); omega) (by omega) (by rw[hs]; show (((x*l.getD i 0+(sm t l x lo i).c)/18446744073709551616:Nat):Int)≤_; omega)) ?_;refine .intro (by omega) (.intro (by omega) ?_);refine X1 _ (cR (n:=lo+i) (by omega) (by omega)) ?_;refine X1 _ (kb _ _ _ hz (by omega) h6) ?_;refine .intro (by omega) (.intro (by omega) ?_);refine X1 _ (cR (n:=lo+i) (by omega) (by omega)) ?_;refine X1 ((i+1:Nat):Int) (wI1 (by omega)) ?_;refine ⟨i+1,by omega,by omega,⟨rfl,rfl,rfl,rfl,rfl,rfl,rfl,rfl,HJ⟩,⟨aB ?_,HJ⟩⟩;rw[hs,←nRow_set];rfl
  ·have e:i=l.length:=by omega
   subst e;exact ⟨(),HJ,⟨rfl,rfl,rfl,rfl,HJ⟩,⟨rfl,HJ⟩⟩
 ·obtain ⟨h1,h2,h3,h6,h4⟩:=kC (lo:=lo) ht hl hx l.length (by omega);have hz:=h2.getD (by omega) (lo+l.length);have hy:l.getD l.length 0=0:=by rw[EB,EZ (by omega)]; rfl
  refine .intro (by rw[ai]; omega) ?_;rw[ai];refine .intro (by omega) (.intro (by omega) ?_);refine X1 _ (cR (n:=lo+l.length) (by omega) (by omega)) ?_;refine X1 _ (kb _ _ _ hz h3 h6) ?_;refine .intro (by omega) (.intro (by omega) ?_);refine X1 _ (cR (n:=lo+l.length) (by omega) (by omega)) ?_;have ec:(x*l.getD l.length 0+(sm t l x lo l.length).c)%18446744073709551616=(sm t l x lo l.length).c:=by rw[hy,FZ,Fu,Fi h3]
  have e1:aE .u64 (sm t l x lo (l.length+1)).s=(aE .u64 (sm t l x lo l.length).s).set (lo+l.length) [nI .u64 (((sm t l x lo l.length).s.getD (lo+l.length) 0+18446744073709551616-(sm t l x lo l.length).c-(sm t l x lo l.length).b)%18446744073709551616)]:=by
   rw[nRow_set]; simp only[sm,ec]
  have e2:(sm t l x lo (l.length+1)).b=if (sm t l x lo l.length).s.getD (lo+l.length) 0<(sm t l x lo l.length).c+(sm t l x lo l.length).b then 1 else 0:=by simp only[sm,ec]
  rw[e1,e2];exact ⟨HJ,SubO.of (l:=[(1000000,.row 1 _)]) ⟨rfl,HJ⟩,r1 rfl,HJ⟩
end
section
section
variable {u d1 d0 x q r:Nat}
theorem y8 (h:q*d1+r=u) (ht:q*d0≤4294967296*r+x) (hp:0<d1*4294967296+d0) (hq:(u*4294967296+x)/(d1*4294967296+d0)≤q):(u*4294967296+x)/(d1*4294967296+d0)=q:=by
 refine Hv hq ((Hb hp).2 ?_);have e:q*(d1*4294967296+d0)=q*d1*4294967296+q*d0:=by rw[E5,ES]
 omega
theorem Cq (h:q*d1+r=u) (ht:4294967296*r+x<q*d0):(u*4294967296+x)/(d1*4294967296+d0)<q:=by
 apply FJ;have e:(d1*4294967296+d0)*q=q*d1*4294967296+q*d0:=by rw[EV,E5,ES]
 omega
theorem Cr (hu:u<d1*4294967296+d0) (hx:x<4294967296):(u*4294967296+x)/(d1*4294967296+d0)<4294967296:=by
 apply FJ;have:(u+1)*4294967296≤(d1*4294967296+d0)*4294967296:=EL _ hu;omega
theorem DU (hd:2147483648≤d1) (hd0:d0<4294967296) (hu:u<d1*4294967296+d0) (hx:x<4294967296) :
  u/d1*d1+u%d1=u∧(u*4294967296+x)/(d1*4294967296+d0)≤u/d1∧u/d1≤4294967297∧u%d1<d1:=by
 have h0:=FL u d1;have hm:=FE u (show 0<d1 by omega);refine ⟨by rw[EV]; exact h0,?_,?_,hm⟩
 ·refine Nat.le_of_lt_succ (FJ ?_);have e:(d1*4294967296+d0)*(u/d1+1)=d1*(u/d1)*4294967296+d1*4294967296+d0*(u/d1+1):=by
   rw[EU,ES,EV 4294967296,←ES,E5,F2,EU]
  show u*4294967296+x<(d1*4294967296+d0)*(u/d1+1)
  omega
 ·have h1:d0<d1*2:=by omega
  have e:d1*(4294967296+2)=d1*4294967296+d1*2:=E5 _ _ _;have h2:u<d1*(4294967296+2):=by rw[e]; exact Nat.lt_trans hu (Nat.add_lt_add_left h1 _)
  have h3:u/d1<4294967296+2:=FJ h2;clear h2 e;omega
end
theorem mI {u d1 d0 x q r T:Nat} (hd0:d0<4294967296) (hp:0<d1*4294967296+d0) (hT:T=(u*4294967296+x)/(d1*4294967296+d0)) (h:q*d1+r=u) (hq:q≤4294967297) (ht:T<q) :
  (q-1)*d1+(r+d1)=u∧(4294967296≤r+d1→T=q-1):=by
 obtain ⟨p,rfl⟩:∃ p,q=p+1:=⟨q-1,by omega⟩;rw[EU,Fn]at h;rw[F1];have e:p*d1+(r+d1)=u:=by omega
 refine ⟨e,λhr=>?_⟩;rw[hT];refine y8 e ?_ hp (by omega);have h1:p*d0≤4294967296*d0:=EL _ (by omega);have h2:4294967296*d0≤4294967296*(r+d1):=Fw _ (by omega);omega
theorem wE (n:Int):IntKind.u64.wrap n=n%18446744073709551616:=by simp[IntKind.wrap,IntKind.bits,IntKind.signed]
theorem y9 {u x q y r:Nat} (h:u*4294967296+x=q*y+r) (hr:r<18446744073709551616):IntKind.u64.wrap (IntKind.u64.wrap (IntKind.u64.wrap ((u:Int)*4294967296)+(x:Int))-IntKind.u64.wrap ((q:Int)*(y:Int)))=(r:Int):=by
 rw[←Hk q y,wE,wE,wE,wE];omega
theorem orU {x y:Nat} (hx:x<18446744073709551616) (hy:y<18446744073709551616):IntKind.u64.wrap ((BitVec.ofInt IntKind.u64.bits (x:Int)|||BitVec.ofInt IntKind.u64.bits (y:Int)).toNat:Int)=((x|||y:Nat):Int):=by
 have e:(BitVec.ofInt IntKind.u64.bits (x:Int)|||BitVec.ofInt IntKind.u64.bits (y:Int)).toNat=x|||y:=by
  show (BitVec.ofInt 64 (x:Int)|||BitVec.ofInt 64 (y:Int)).toNat=_
  rw[BitVec.ofInt_natCast,BitVec.ofInt_natCast,BitVec.toNat_or,BitVec.toNat_ofNat,BitVec.toNat_ofNat,Fi (by omega:x<2^64),Fi (by omega:y<2^64)]
 have h:=Nat.or_lt_two_pow (x:=x) (y:=y) (n:=64) (by omega) (by omega);rw[e,ud,Fi];simpa using h
theorem inU {n:Nat} (h:n≤18446744073709551615):inR .u64 (n:Int):=⟨G4 n,Int.ofNat_le.2 h⟩
theorem uf {x k:Nat} (h:k≤64):IntKind.u64.wrap ((x:Int)*2^min ((k:Nat):Int).toNat IntKind.u64.bits)=((x*2^k%18446744073709551616:Nat):Int):=by
 show IntKind.u64.wrap ((x:Int)*2^min ((k:Nat):Int).toNat 64)=_
 rw[E4,F7 h,←ud];simp
theorem CY {u x1 x0 y a b c d:Nat} (hy:0<y) (e1:y*a+b=u*4294967296+x1) (hc:(b*4294967296+x0)/y=c) (hd:(b*4294967296+x0)%y=d):(u*18446744073709551616+(x1*4294967296+x0))/y=a*4294967296+c ∧
  (u*18446744073709551616+(x1*4294967296+x0))%y=d:=by
 have e:u*18446744073709551616+(x1*4294967296+x0)=b*4294967296+x0+y*(a*4294967296):=by rw[←ES]; omega
 rw[e,GX _ _ hy,Gz,hc,hd];exact ⟨G0 _ _,rfl⟩
theorem DV {hi lo y s:Nat} (hlo:lo<18446744073709551616) (hhi:hi<y) (hy:y<2^(64-s)) (hs:s≤64) :
  hi*2^s<18446744073709551616∧(hi*2^s|||lo/2^(64-s))=hi*2^s+lo/2^(64-s)∧(hi*2^s+lo/2^(64-s))*18446744073709551616+lo*2^s%18446744073709551616=(hi*18446744073709551616+lo)*2^s∧hi*2^s+lo/2^(64-s)<y*2^s∧y*2^s<18446744073709551616:=by
 have e64:2^s*2^(64-s)=18446744073709551616:=by rw[←Fy,show s+(64-s)=64 by omega]
 have hp:0<2^s:=Fv s;have hp2:0<2^(64-s):=Fv _;generalize 2^(64-s)=b at *
 have hq:lo/b<2^s:=FJ (by rw[EV,e64]; exact hlo);have hor:(hi*2^s|||lo/b)=hi*2^s+lo/b:=by
  rw[EV]; exact (Nat.two_pow_add_eq_or_of_lt hq hi).symm
 rw[hor];generalize 2^s=a at *
 have h1:(hi+1)*a≤y*a:=EL _ hhi;rw[EU,Fn]at h1;have h2:(y+1)*a≤b*a:=EL _ hy;rw[EV b,e64,EU,Fn]at h2;have h3:lo*a%18446744073709551616=lo%b*a:=by
  have hlt:lo%b*a<18446744073709551616:=by
   rw[←e64,EV a]; exact F4 (FE _ hp2) hp
  have:lo*a=lo%b*a+18446744073709551616*(lo/b):=by
   conv=>lhs; rw[←FL lo b]
   rw[EU,←e64,EV b,ES,EV b,EV (lo/b)];omega
  rw[this,Gz,Fi hlt]
 have h4:lo*a=lo%b*a+18446744073709551616*(lo/b):=by
  conv=>lhs; rw[←FL lo b]
  rw[EU,←e64,EV b,ES,EV b,EV (lo/b)];omega
 refine ⟨by omega,rfl,?_,by omega,by omega⟩;rw[h3,EU (hi*18446744073709551616),Nat.mul_right_comm];omega
theorem sw (hi lo y:Nat) (hhi:hi<y) (hlo:lo<18446744073709551616) (hy:y<18446744073709551616):Ct P 181 [.c (nI .u64 hi),.c (nI .u64 lo),.c (nI .u64 y)] [.c (nI .u64 ((hi*18446744073709551616+lo)/y)),.c (nI .u64 ((hi*18446744073709551616+lo)%y))]:=by
 refine Ct.go aj aa (N:=135) Tryz.func181 rfl rfl rfl rfl ?_;refine aU (λh=>?_) (λ_=>?_)
 ·omega
 refine ah (λh=>?_) (λ_=>?_)
 ·omega
 refine aU (λh0=>?_) (λh0=>?_)
 ·have e0:hi=0:=by omega
  subst e0;rw[Hu,Fu];have hl:=FU lo y;have hm:=FE lo hhi;refine .intro (by omega) (X1 ((lo/y:Nat):Int) (j0 rfl) (.intro (inU (by omega)) ?_));refine .intro (by omega) (X1 ((lo%y:Nat):Int) (mb rfl) (.intro (inU (by omega)) ?_));refine .intro rfl ?_;exact ⟨HJ,r1 rfl,r1 rfl,HJ⟩
 ·have hbl:=gJ (n:=y) (k:=64) (by omega);obtain ⟨s,hs⟩:∃ s,s=64-blen y:=⟨_,rfl⟩;have hy2:y<2^(64-s):=by rw[hs,show 64-(64-blen y)=blen y by omega]; exact eH y
  obtain ⟨hs1,hs2,hs3,hs4,hs5⟩:=DV hlo hhi hy2 (by omega);have htop:9223372036854775808≤y*2^s:=by
   have h1:=qi (n:=y) (by omega);have h2:blen y≠0:=λh=>by have:=eH y; rw[h]at this; omega
   have h3:=EL (2^s) h1;rw[←Fy,show blen y-1+s=63 by omega]at h3;omega
  have hps:=Fv s;have hq:(hi*18446744073709551616+lo)/y=(hi*18446744073709551616+lo)*2^s/(y*2^s):=(Nat.mul_div_mul_right _ _ hps).symm;have hr:(hi*18446744073709551616+lo)%y=(hi*18446744073709551616+lo)*2^s%(y*2^s)/2^s:=by rw[Nat.mul_mod_mul_right,Nat.mul_div_cancel _ hps]
  rw[hq,hr,←hs3];clear hq hr hs3;obtain ⟨Y,hY⟩:∃ Y,Y=y*2^s:=⟨_,rfl⟩;obtain ⟨U,hU⟩:∃ U,U=hi*2^s+lo/2^(64-s):=⟨_,rfl⟩;obtain ⟨L,hL⟩:∃ L,L=lo*2^s%18446744073709551616:=⟨_,rfl⟩;have hLl:L<18446744073709551616:=by rw[hL]; exact FE _ (by decide)
  rw[←hY,←hU,←hL];rw[←hY,←hU]at hs4;rw[←hY]at hs5 htop;refine X1 _ (uU y hy) ?_;refine X1 ((s:Nat):Int) (wU (by omega) (by omega) (by omega)) ?_;refine .intro (by omega) (X1 ((Y:Nat):Int) (by rw[uf (by omega),←hY,Fi hs5]) ?_);obtain ⟨d1,hd1⟩:∃ d,d=Y/4294967296:=⟨_,rfl⟩;obtain ⟨d0,hd0⟩:∃ d,d=Y%4294967296:=⟨_,rfl⟩;obtain ⟨x1,hx1⟩:∃ d,d=L/4294967296:=⟨_,rfl⟩;obtain ⟨x0,hx0⟩:∃ d,d=L%4294967296:=⟨_,rfl⟩;have hYd:Y=d1*4294967296+d0:=by omega
  have hLx:L=x1*4294967296+x0:=by omega
  refine .intro (by omega) (X1 ((d1:Nat):Int) (by rw[hd1]; exact fH (k:=32) (by decide)) (.intro (inU (by omega)) ?_));refine X1 ((d0:Nat):Int) (by rw[hd0]; exact sv hs5) ?_;have hle:lo/2^(64-s)≤lo:=FU _ _;refine .intro (by omega) (X1 ((hi*2^s:Nat):Int) (by rw[uf (by omega),Fi hs1]) ?_);refine X1 ((64-s:Nat):Int) (wU (by omega) (by omega) (by omega)) ?_;refine .intro (by omega) (X1 ((lo/2^(64-s):Nat):Int) (fH (k:=64-s) (by omega)) (.intro (inU (by omega)) ?_));refine X1 ((U:Nat):Int) (by rw[orU hs1 (by omega),hs2,hU]) ?_;refine .intro (by omega) (X1 ((L:Nat):Int) (by rw[uf (by omega),hL]) ?_);refine .intro (by omega) (X1 ((x1:Nat):Int) (by rw[hx1]; exact fH (k:=32) (by decide)) (.intro (inU (by omega)) ?_));refine X1 ((x0:Nat):Int) (by rw[hx0]; exact sv hLl) ?_;have hd1':2147483648≤d1:=by omega
  have hd0':d0<4294967296:=by omega
  have hx1':x1<4294967296:=by omega
  have hx0':x0<4294967296:=by omega
  rw[hYd]at hs4;obtain ⟨g1,g2,g3,g4⟩:=DU hd1' hd0' hs4 hx1';have hT:=Cr hs4 hx1';have hUl:U/d1*d1≤U:=by omega
  refine .intro (by omega) (X1 ((U/d1:Nat):Int) (j0 rfl) (.intro (inU (by omega)) ?_));refine X1 ((U/d1*d1:Nat):Int) (by rw[←Hk,ud,Fi (by omega)]) ?_;refine X1 ((U%d1:Nat):Int) (wU (by omega) (G4 _) (by omega)) ?_;have hY0:0<Y:=by omega
  obtain ⟨T,hT'⟩:∃ T,T=(U*4294967296+x1)/Y:=⟨_,rfl⟩;obtain ⟨R,hR⟩:∃ R,R=(U*4294967296+x1)%Y:=⟨_,rfl⟩;rw[←hYd,←hT']at g2 hT;have hTd:T=(U*4294967296+x1)/(d1*4294967296+d0):=by rw[hT',hYd]
  have hRl:R<Y:=by rw[hR]; exact FE _ hY0
  refine aw aj aa (G:=Nat × Nat) (λ(q,r)=>q*d1+r=U∧T≤q∧q≤4294967297∧r<4294967296)
   (λ(q,r)=>[(2,.c (nI .u64 Y)),(8,.c (nI .u64 s)),(9,.c (nI .u64 d1)),(10,.c (nI .u64 d0)),(11,.c (nI .u64 U)),(13,.c (nI .u64 x1)),(14,.c (nI .u64 x0)),(15,.c (nI .u64 q)),(16,.c (nI .u64 r))]) (λ_=>[]) (λ(q,_)=>q)
   (U/d1,U%d1) ⟨g1,g2,g3,by omega⟩ ⟨rfl,rfl,rfl,rfl,rfl,rfl,rfl,rfl,rfl,HJ⟩ trivial
   (λ_:Unit=>True) (λ_=>[(2,.c (nI .u64 Y)),(8,.c (nI .u64 s)),(9,.c (nI .u64 d1)),(10,.c (nI .u64 d0)),(11,.c (nI .u64 U)),(13,.c (nI .u64 x1)),(14,.c (nI .u64 x0)),(15,.c (nI .u64 T))]) (λ_=>[]) (λ(q,r) hi=>?_) (λ_ _=>?_)
  ·obtain ⟨k1,k2,k3,k4⟩:=hi;refine ah (λh1=>?_) (λh1=>?_)
   ·have hlt:T<q:=by omega
    obtain ⟨m1,m2⟩:=mI hd0' (by omega) hTd k1 k3 hlt;refine X1 ((q-1:Nat):Int) (wU (by omega) (by omega) (by omega)) ?_;refine X1 ((r+d1:Nat):Int) (wU (by omega) (by omega) (by omega)) ?_;refine ah (λh2=>?_) (λh2=>?_)
    ·exact ⟨(),HJ,⟨rfl,rfl,rfl,rfl,rfl,rfl,rfl,iE (by rw[m2 (by omega)]),HJ⟩,HJ⟩
    ·exact ⟨(q-1,r+d1),⟨m1,by omega,by omega,by omega⟩,by show q-1<q; omega,⟨rfl,rfl,rfl,rfl,rfl,rfl,rfl,rfl,rfl,HJ⟩,HJ⟩
   ·have hqd:q*d0≤4294967295*4294967295:=FF (by omega) (by omega);refine X1 ((q*d0:Nat):Int) (by rw[←Hk,ud,Fi (by omega)]) ?_;refine X1 ((4294967296*r:Nat):Int) (wU (by omega) (by omega) (by omega)) ?_;refine X1 ((4294967296*r+x1:Nat):Int) (wU (by omega) (by omega) (by omega)) ?_;refine ah (λh3=>?_) (λh3=>?_)
    ·have hlt:T<q:=by rw[hTd]; exact Cq k1 (Hx.1 h3)
     obtain ⟨m1,m2⟩:=mI hd0' (by omega) hTd k1 k3 hlt;refine X1 ((q-1:Nat):Int) (wU (by omega) (by omega) (by omega)) ?_;refine X1 ((r+d1:Nat):Int) (wU (by omega) (by omega) (by omega)) ?_;refine ah (λh2=>?_) (λh2=>?_)
     ·exact ⟨(),HJ,⟨rfl,rfl,rfl,rfl,rfl,rfl,rfl,iE (by rw[m2 (by omega)]),HJ⟩,HJ⟩
     ·exact ⟨(q-1,r+d1),⟨m1,by omega,by omega,by omega⟩,by show q-1<q; omega,⟨rfl,rfl,rfl,rfl,rfl,rfl,rfl,rfl,rfl,HJ⟩,HJ⟩
    ·have he:T=q:=by rw[hTd]; exact y8 k1 (by have:=λh=>h3 (Hx.2 h); omega) (by omega) (by rw[←hTd]; exact k2)
     exact ⟨(),HJ,⟨rfl,rfl,rfl,rfl,rfl,rfl,rfl,iE (by rw[he]),HJ⟩,HJ⟩
  ·have hUm:U*4294967296+x1=T*Y+R:=by
    have:=FL (U*4294967296+x1) Y;rw[←hT',←hR,EV]at this;exact this.symm
   refine X1 _ rfl ?_;refine X1 _ rfl ?_;refine X1 _ rfl ?_;refine X1 ((R:Nat):Int) (y9 hUm (by omega)) ?_;have hs4':=hRl;rw[hYd]at hs4';obtain ⟨f1,f2,f3,f4⟩:=DU hd1' hd0' hs4' hx0';have hT2:=Cr hs4' hx0';have hUl2:R/d1*d1≤R:=by omega
   refine .intro (by omega) (X1 ((R/d1:Nat):Int) (j0 rfl) (.intro (inU (by omega)) ?_));refine X1 ((R/d1*d1:Nat):Int) (by rw[←Hk,ud,Fi (by omega)]) ?_;refine X1 ((R%d1:Nat):Int) (wU (by omega) (G4 _) (by omega)) ?_;obtain ⟨T2,hT2'⟩:∃ T,T=(R*4294967296+x0)/Y:=⟨_,rfl⟩;obtain ⟨R2,hR2⟩:∃ T,T=(R*4294967296+x0)%Y:=⟨_,rfl⟩;rw[←hYd,←hT2']at f2 hT2;have hT2d:T2=(R*4294967296+x0)/(d1*4294967296+d0):=by rw[hT2',hYd]
   have hR2l:R2<Y:=by rw[hR2]; exact FE _ hY0
   refine aw aj aa (G:=Nat × Nat) (λ(q,r)=>q*d1+r=R∧T2≤q∧q≤4294967297∧r<4294967296)
    (λ(q,r)=>[(2,.c (nI .u64 Y)),(8,.c (nI .u64 s)),(9,.c (nI .u64 d1)),(10,.c (nI .u64 d0)),(14,.c (nI .u64 x0)),(15,.c (nI .u64 T)),(17,.c (nI .u64 R)),(18,.c (nI .u64 q)),(16,.c (nI .u64 r))]) (λ_=>[]) (λ(q,_)=>q)
    (R/d1,R%d1) ⟨f1,f2,f3,by omega⟩ ⟨rfl,rfl,rfl,rfl,rfl,rfl,rfl,rfl,rfl,HJ⟩ trivial
    (λ_:Unit=>True) (λ_=>[(2,.c (nI .u64 Y)),(8,.c (nI .u64 s)),(14,.c (nI .u64 x0)),(15,.c (nI .u64 T)),(17,.c (nI .u64 R)),(18,.c (nI .u64 T2))]) (λ_=>[]) (λ(q,r) hi=>?_) (λ_ _=>?_)
   ·obtain ⟨k1,k2,k3,k4⟩:=hi;refine ah (λh1=>?_) (λh1=>?_)
    ·have hlt:T2<q:=by omega
     obtain ⟨m1,m2⟩:=mI hd0' (by omega) hT2d k1 k3 hlt;refine X1 ((q-1:Nat):Int) (wU (by omega) (by omega) (by omega)) ?_;refine X1 ((r+d1:Nat):Int) (wU (by omega) (by omega) (by omega)) ?_;refine ah (λh2=>?_) (λh2=>?_)
     ·exact ⟨(),HJ,⟨rfl,rfl,rfl,rfl,rfl,iE (by rw[m2 (by omega)]),HJ⟩,HJ⟩
     ·exact ⟨(q-1,r+d1),⟨m1,by omega,by omega,by omega⟩,by show q-1<q; omega,⟨rfl,rfl,rfl,rfl,rfl,rfl,rfl,rfl,rfl,HJ⟩,HJ⟩
    ·have hqd:q*d0≤4294967295*4294967295:=FF (by omega) (by omega);refine X1 ((q*d0:Nat):Int) (by rw[←Hk,ud,Fi (by omega)]) ?_;refine X1 ((4294967296*r:Nat):Int) (wU (by omega) (by omega) (by omega)) ?_;refine X1 ((4294967296*r+x0:Nat):Int) (wU (by omega) (by omega) (by omega)) ?_;refine ah (λh3=>?_) (λh3=>?_)
     ·have hlt:T2<q:=by rw[hT2d]; exact Cq k1 (Hx.1 h3)
      obtain ⟨m1,m2⟩:=mI hd0' (by omega) hT2d k1 k3 hlt;refine X1 ((q-1:Nat):Int) (wU (by omega) (by omega) (by omega)) ?_;refine X1 ((r+d1:Nat):Int) (wU (by omega) (by omega) (by omega)) ?_;refine ah (λh2=>?_) (λh2=>?_)
      ·exact ⟨(),HJ,⟨rfl,rfl,rfl,rfl,rfl,iE (by rw[m2 (by omega)]),HJ⟩,HJ⟩
      ·exact ⟨(q-1,r+d1),⟨m1,by omega,by omega,by omega⟩,by show q-1<q; omega,⟨rfl,rfl,rfl,rfl,rfl,rfl,rfl,rfl,rfl,HJ⟩,HJ⟩
     ·have he:T2=q:=by rw[hT2d]; exact y8 k1 (by have:=λh=>h3 (Hx.2 h); omega) (by omega) (by rw[←hT2d]; exact k2)
      exact ⟨(),HJ,⟨rfl,rfl,rfl,rfl,rfl,iE (by rw[he]),HJ⟩,HJ⟩
   ·have hRm:R*4294967296+x0=T2*Y+R2:=by
     have:=FL (R*4294967296+x0) Y;rw[←hT2',←hR2,EV]at this;exact this.symm
    obtain ⟨z1,z2⟩:=CY (u:=U) (x1:=x1) (x0:=x0) hY0 (by rw[EV,←hUm]) hT2'.symm hR2.symm;refine X1 ((T*4294967296:Nat):Int) (wU (by omega) (by omega) (by omega)) ?_;refine X1 ((T*4294967296+T2:Nat):Int) (wU (by omega) (by omega) (by omega)) ?_;refine X1 _ rfl ?_;refine X1 _ rfl ?_;refine X1 _ rfl ?_;refine X1 ((R2:Nat):Int) (y9 hRm (by omega)) ?_;have hle2:R2/2^s≤R2:=FU _ _;refine .intro (by omega) (X1 ((R2/2^s:Nat):Int) (fH (k:=s) (by omega)) (.intro (inU (by omega)) ?_));rw[hLx];exact ⟨HJ,r1 (iE (by rw[z1])),r1 (iE (by rw[z2])),HJ⟩
end
section
theorem dH (B:Nat) {l:List Nat} {i:Nat} (h:i<l.length):val B (l.drop i)=l.getD i 0+B*val B (l.drop (i+1)):=by
 rw[E8 h,val,EB,EY h];rfl
theorem kD (B:Nat) {l:List Nat} {i x:Nat} (h:i<l.length):val B ((l.set i x).drop i)=x+B*val B (l.drop (i+1)):=by
 rw[dH B (by simpa using h)];congr 1
 ·simp[EB,h]
 ·rw[List.drop_set_of_lt (by omega)]
theorem u4 {a d q r:Nat} (h:a=d*q+r) (hr:r<d):q=a/d∧r=a%d:=by
 subst h;rw[Nat.mul_add_div (by omega),Ht,Gf hr,Fi hr];exact ⟨rfl,rfl⟩
theorem wj (a d:Nat) (hd:0<d) (hd2:d<18446744073709551616) (ha:(dg 18446744073709551616 a).length≤1000000):Ct P 152 [nV a,.c (nI .u64 d)] [nV (a/d),.c (nI .u64 (a%d))]:=by
 have hA:=br (B:=18446744073709551616) (by omega) a;have vA:=bq (B:=18446744073709551616) (by omega) a;refine Ct.go aj aa (N:=38) Tryz.func152 rfl rfl rfl rfl ?_;refine .intro (by rw[ai]; omega) ?_;rw[ai];refine ⟨by omega,by omega,by omega,.inl (by decide),?_⟩;refine .intro (by rw[ai]; omega) ?_;rw[ai];refine X1 (((dg 18446744073709551616 a).length:Int)-1) (wI rfl (by omega) (by omega)) ?_;refine aw aj aa (G:=Nat × List Nat × Nat) (λ(n,out,c)=>n≤(dg 18446744073709551616 a).length∧out.length=(dg 18446744073709551616 a).length∧Dig 18446744073709551616 out∧c<d∧val 18446744073709551616 ((dg 18446744073709551616 a).drop n)=d*val 18446744073709551616 (out.drop n)+c)
  (λ(n,out,c)=>[(1,.c (nI .u64 d)),(2,.c (.ad 2 0)),(4,.c (.ad 4 0)),(6,.c (.ow 12 1 (dg 18446744073709551616 a).length)),(7,.c (nI .u64 c)),(8,.c (eI .i64 ((n:Int)-1)))])
  (λ((n,out,c):Nat × List Nat × Nat)=>[(2,.var [nSl .u64 (dg 18446744073709551616 a)]),(4,.var [.sc (.slice none 0 0)]),(12,.row 1 (aE .u64 out))]) (λ(n,out,c)=>n)
  ((dg 18446744073709551616 a).length,List.replicate (dg 18446744073709551616 a).length 0,0) ⟨by simp,by simp,λx hx=>by rw[FD hx]; omega,hd,by simp[val]⟩
  ⟨rfl,rfl,rfl,owE (by omega),rfl,rfl,HJ⟩ ⟨rfl,rfl,aB (ff rfl),HJ⟩
  (λl:List Nat=>Dig 18446744073709551616 l∧val 18446744073709551616 l=a/d∧l.length≤1000000) (λl=>[(4,.c (.ad 4 0)),(6,.c (.ow 12 1 (dg 18446744073709551616 a).length)),(7,.c (nI .u64 (a%d)))]) (λl=>[(4,.var [.sc (.slice none 0 0)]),(12,.row 1 (aE .u64 l))]) (λg hg=>?_) (λl hl=>?_)
 ·obtain ⟨n,out,c⟩:=g;obtain ⟨h1,h2,h3,h4,h6⟩:=hg;refine ah (λh5=>?_) (λh5=>?_)
  ·obtain ⟨i,rfl⟩:∃ i,n=i+1:=⟨n-1,by omega⟩;have hx:=hA.getD (by omega) i;have hD:=dH 18446744073709551616 (l:=dg 18446744073709551616 a) (i:=i) (by omega);refine .intro (by omega) (X1 _ (al (n:=i) (by omega) (by omega)) ?_);generalize (dg 18446744073709551616 a).getD i 0=x at hx hD ⊢;refine X1 _ (sw c x d h4 hx hd2) ?_;have hm:=FE (c*18446744073709551616+x) hd;have hdm:=FL (c*18446744073709551616+x) d;have hq:(c*18446744073709551616+x)/d<18446744073709551616:=by
    refine FJ ?_;have:=EL 18446744073709551616 (Nat.succ_le_of_lt h4);omega
   generalize (c*18446744073709551616+x)/d=q at *
   generalize (c*18446744073709551616+x)%d=r at *
   refine .intro (by omega) (.intro (by omega) ?_);refine X1 _ (al (n:=i) (by omega) (by omega)) ?_;refine X1 ((i:Int)-1) (wI (by omega) (by omega) (by omega)) ?_;refine ⟨(i,out.set i q,r),⟨by omega,by simp[h2],h3.set hq,hm,?_⟩,by show i<i+1; omega,⟨rfl,rfl,rfl,rfl,rfl,rfl,HJ⟩,⟨rfl,rfl,aB (by rw[←nRow_set,show (((i+1:Nat):Int)-1).toNat=i by omega]; rfl),HJ⟩⟩;have hs:=kD 18446744073709551616 (l:=out) (i:=i) (x:=q) (by omega);rw[hD,h6,hs,E5,E5,FC d];omega
  ·have e:n=0:=by omega
   subst e;rw[F3,F3,vA]at h6;obtain ⟨e1,e2⟩:=u4 h6 h4;exact ⟨out,⟨h3,e1,by omega⟩,⟨rfl,rfl,iE (by rw[e2]),HJ⟩,⟨rfl,rfl,HJ⟩⟩
 ·obtain ⟨h1,h2,h3⟩:=hl;refine X2 .frz ?_;refine X1 _ (eg l h3) ?_;rw[cE (by omega) h1,h2];exact ⟨HJ,rc rfl,r1 rfl,HJ⟩
theorem nT {x s:Nat} (hx:x<18446744073709551616) (hs:s≤64):x*2^s%18446744073709551616=x%2^(64-s)*2^s∧x*2^s=x%2^(64-s)*2^s+18446744073709551616*(x/2^(64-s))∧x/2^(64-s)<2^s:=by
 have e64:2^s*2^(64-s)=18446744073709551616:=by rw[←Fy,show s+(64-s)=64 by omega]
 have hp:0<2^s:=Fv s;have hp2:0<2^(64-s):=Fv _;generalize 2^(64-s)=b at *
 generalize 2^s=a at *
 have h4:x*a=x%b*a+18446744073709551616*(x/b):=by
  conv=>lhs; rw[←FL x b]
  rw[EU,←e64,EV b,ES,EV b,EV (x/b)];omega
 have hlt:x%b*a<18446744073709551616:=by
  rw[←e64,EV a]; exact F4 (FE _ hp2) hp
 refine ⟨by rw[h4,Gz,Fi hlt],h4,FJ (by rw[EV,e64]; exact hx)⟩
theorem za {v m s:Nat} (hv:v<2^s):(v|||m*2^s)=v+m*2^s:=by
 rw[Nat.or_comm,EV,←Nat.two_pow_add_eq_or_of_lt hv,G0]
theorem CZ {out:List Nat} {j s x v:Nat} (hx:x<18446744073709551616) (hs:s≤64) (hj:j+1<out.length) (hv:v=out.getD j 0) (h0:out.getD (j+1) 0=0) (hl:v<2^s) :
  val 18446744073709551616 ((out.set j (v|||x*2^s%18446744073709551616)).set (j+1) (x/2^(64-s)))=val 18446744073709551616 out+18446744073709551616^j*(x*2^s):=by
 obtain ⟨g1,g2,g3⟩:=nT hx hs;rw[g1,za hl,g2];have e1:=fN (B:=18446744073709551616) (l:=out) (i:=j) (x:=v+x%2^(64-s)*2^s) (by omega);have e2:=fN (B:=18446744073709551616) (l:=out.set j (v+x%2^(64-s)*2^s)) (i:=j+1) (x:=x/2^(64-s)) (by simpa using hj);rw[getD_set_ne (by omega),h0,FZ,FT]at e2;rw[←hv]at e1;rw[e2,Fk,ES];simp only[E5]at e1 ⊢;omega
theorem zb {v m:Nat} (hv:v<18446744073709551616) (hm:m<18446744073709551616):(v|||m)<18446744073709551616:=Nat.or_lt_two_pow (n:=64) (by omega) (by omega)
theorem sx {l:List Nat} {i v:Nat} (h:i<l.length):(l.set i v).getD i 0=v:=by simp[EB,h]
theorem mg {k:IntKind} {l:List Nat} {i x n:Nat} {j:Int} (h0:j=n) (h:n<l.length):((aE k l).set i [nI k x])[j.toNat]? = some [nI k ((l.set i x).getD n 0)]:=by
 rw[nRow_set]; exact al h0 (by simpa using h)
theorem wk {k:IntKind} {l:List Nat} {i x n:Nat} {j:Int} (h0:j=n) (h1:i=n) (h:n<l.length):((aE k l).set i [nI k x])[j.toNat]? = some [nI k x]:=by
 subst h0; subst h1;simp[ai,h]
theorem pn (a n:Nat) (ha:(dg 18446744073709551616 a).length≤400000) (hn:n≤1000000):Ct P 82 [nV a,.c (nI .i64 n)] [nV (a*2^n)]:=by
 have hA:=br (B:=18446744073709551616) (by omega) a;have vA:=bq (B:=18446744073709551616) (by omega) a;refine Ct.go aj aa (N:=63) Tryz.func82 rfl rfl rfl rfl ?_;refine ah (λh0=>?_) (λh0=>?_)
 ·have:n=0:=by omega
  subst this;rw[Hy,F2];exact ⟨HJ,rc rfl,HJ⟩
 ·refine X1 _ (fw a (by omega)) ?_;refine aP (λh1=>?_) (λh1=>?_)
  ·have:a=0:=by simpa using h1
   subst this;rw[Hu];exact ⟨HJ,rc rfl,HJ⟩
  ·obtain ⟨k,hk⟩:∃ k,k=n/64:=⟨_,rfl⟩;obtain ⟨s,hs⟩:∃ s,s=n%64:=⟨_,rfl⟩;refine .intro (by omega) (X1 ((k:Nat):Int) (by rw[hk]; exact j0 rfl) (.intro ⟨by omega,by omega⟩ ?_));refine .intro (by omega) (X1 ((s:Nat):Int) (by rw[hs]; exact mb rfl) (.intro ⟨by omega,by omega⟩ ?_));refine X1 ((s:Nat):Int) (wU rfl (by omega) (by omega)) ?_;refine .intro (by rw[ai]; omega) ?_;rw[ai];refine X1 (((dg 18446744073709551616 a).length+k:Nat):Int) (wI (by simp) (by omega) (by omega)) ?_;refine X1 (((dg 18446744073709551616 a).length+k+1:Nat):Int) (wI (by simp) (by omega) (by omega)) ?_;refine ⟨by omega,by omega,by omega,.inl (by decide),?_⟩;refine .intro (by rw[ai]; omega) ?_;rw[ai];have e2n:2^n=18446744073709551616^k*2^s:=by rw[nP,←Fy,show 64*k+s=n by omega]
   obtain ⟨A,eA⟩:∃ A,A=dg 18446744073709551616 a:=⟨_,rfl⟩;rw[←eA]at hA vA ha;rw[←eA];refine aw aj aa (G:=Nat × List Nat) (λ(i,out)=>i≤A.length∧out.length=A.length+k+1∧Dig 18446744073709551616 out∧(∀ j,i+k<j→out.getD j 0=0)∧out.getD (i+k) 0<2^s∧val 18446744073709551616 out=val 18446744073709551616 (A.take i)*2^n)
    (λ(i,out)=>[(2,.c (.ad 2 0)),(4,.c (.ad 4 0)),(5,.c (nI .i64 k)),(6,.c (nI .u64 s)),(7,.c (.ow 28 1 (A.length+k+1))),(30,.c (nSl .u64 A)),(31,.c (nI .i64 A.length)),(32,.c (nI .i64 i))])
    (λ((i,out):Nat × List Nat)=>[(2,.var [nSl .u64 A]),(4,.var [.sc (.slice none 0 0)]),(28,.row 1 (aE .u64 out))]) (λ(i,_)=>A.length-i)
    (0,List.replicate (A.length+k+1) 0) ⟨by simp,by simp,λx hx=>by rw[FD hx]; omega,λj _=>by simp[EB,FW]; split<;>rfl,by
     have:(List.replicate (A.length+k+1) 0).getD (0+k) 0=0:=by simp[EB,FW]; split<;>rfl
     rw[this]; exact Fv s,by simp[val,mz]⟩
    ⟨rfl,rfl,rfl,rfl,owE (by omega),(by rw[eA]; rfl),(by rw[eA]; rfl),rfl,HJ⟩ ⟨(by rw[eA]; rfl),rfl,aB (ff rfl),HJ⟩
    (λl:List Nat=>Dig 18446744073709551616 l∧val 18446744073709551616 l=a*2^n∧l.length≤1000000) (λl=>[(4,.c (.ad 4 0)),(7,.c (.ow 28 1 (A.length+k+1)))]) (λl=>[(4,.var [.sc (.slice none 0 0)]),(28,.row 1 (aE .u64 l))]) (λg hg=>?_) (λl hl=>?_)
   ·obtain ⟨i,out⟩:=g;obtain ⟨h1,h2,h3,h4,h5,h6⟩:=hg;refine ah (λh7=>?_) (λh7=>?_)
    ·have hx:=hA.getD (by omega) i;have hT:=aC 18446744073709551616 A i;refine .intro (by omega) (X1 _ (al rfl (by omega)) ?_);generalize A.getD i 0=x at hx hT ⊢;have hv:=h3.getD (by omega) (i+k);refine X1 ((i+k:Nat):Int) (wI (by simp) (by omega) (by omega)) ?_;refine .intro (by omega) (.intro (by omega) ?_);refine X1 _ (al rfl (by omega)) ?_;have hvu:=CZ (out:=out) (j:=i+k) (s:=s) (x:=x) hx (by omega) (by omega) rfl (h4 _ (by omega)) h5;have hor:(out.getD (i+k) 0|||x*2^s%18446744073709551616)<18446744073709551616:=zb hv (FE _ (by decide));have hsp:=nT hx (s:=s) (by omega);generalize out.getD (i+k) 0=v at *
     refine .intro (by omega) (X1 _ (uf (by omega)) ?_);refine X1 _ (orU hv (FE _ (by decide))) ?_;refine .intro (by omega) (.intro (by omega) ?_);refine X1 _ (al rfl (by omega)) ?_;have hlow:x/2^(64-s)≤x:=FU _ _;refine ah (λh8=>?_) (λh8=>?_)
     ·refine X1 ((i+k:Nat):Int) (wI (by simp) (by omega) (by omega)) ?_;refine X1 ((i+k+1:Nat):Int) (wI (by simp) (by omega) (by omega)) ?_;refine X1 ((64-s:Nat):Int) (wU (by omega) (by omega) (by omega)) ?_;refine .intro (by omega) (X1 ((x/2^(64-s):Nat):Int) (fH (k:=64-s) (by omega)) (.intro (inU (by omega)) ?_));refine .intro (by omega) (.intro (by omega) ?_);refine X1 _ (mg rfl (by omega)) ?_;refine X1 ((i+1:Nat):Int) (wI1 (by omega)) ?_;refine ⟨(i+1,(out.set (i+k) (v|||x*2^s%18446744073709551616)).set (i+k+1) (x/2^(64-s))),⟨by omega,by simp[h2],(h3.set hor).set (by omega),λj hj=>by rw[getD_set_ne (by omega),getD_set_ne (by omega)]; exact h4 j (by omega),by rw[show i+1+k=i+k+1 by omega,sx (by simp; omega)]; exact hsp.2.2,?_⟩,by show _-(i+1)<_-i; omega,⟨rfl,rfl,rfl,rfl,rfl,rfl,rfl,rfl,HJ⟩,⟨rfl,rfl,aB (by rw[←nRow_set,←nRow_set]; rfl),HJ⟩⟩;rw[hvu,h6,hT,EU,e2n,Fy];congr 1;simp only[ES,FC,EV]
     ·have e0:s=0:=by omega
      have hz:x/2^(64-s)=0:=by rw[e0]; exact Gf (by omega)
      rw[hz]at hvu;have hs2:=fN (B:=18446744073709551616) (l:=out.set (i+k) (v|||x*2^s%18446744073709551616)) (i:=i+k+1) (x:=0) (by simp; omega);rw[getD_set_ne (by omega),h4 _ (by omega),FZ,FT,FT,hvu]at hs2;refine X1 ((i+1:Nat):Int) (wI1 (by omega)) ?_;refine ⟨(i+1,out.set (i+k) (v|||x*2^s%18446744073709551616)),⟨by omega,by simp[h2],h3.set hor,λj hj=>by rw[getD_set_ne (by omega)]; exact h4 j (by omega),by rw[getD_set_ne (by omega),h4 _ (by omega)]; exact Fv s,?_⟩,by show _-(i+1)<_-i; omega,⟨rfl,rfl,rfl,rfl,rfl,rfl,rfl,rfl,HJ⟩,⟨rfl,rfl,aB (by rw[←nRow_set]; rfl),HJ⟩⟩;rw[FT]at hs2;rw[←hs2,h6,hT,EU,e2n,Fy];congr 1;simp only[ES,FC,EV]
    ·have e:i=A.length:=by omega
     subst e;rw[aS (EE _),vA]at h6;exact ⟨out,⟨h3,h6,by omega⟩,⟨rfl,rfl,HJ⟩,⟨rfl,rfl,HJ⟩⟩
   ·obtain ⟨h1,h2,h3⟩:=hl;refine X2 .frz ?_;refine X1 _ (eg l h3) ?_;rw[cE (by omega) h1,h2];exact ⟨HJ,rc rfl,HJ⟩
theorem nU {x y s v w:Nat} (hx:x<18446744073709551616) (hy:y<18446744073709551616) (hs:s<64) (hv:v=y+18446744073709551616*w) :
  (x+18446744073709551616*v)/2^s=(x/2^s|||y*2^(64-s)%18446744073709551616)+18446744073709551616*(v/2^s)∧x/2^s<2^(64-s):=by
 have e64:2^s*2^(64-s)=18446744073709551616:=by rw[←Fy,show s+(64-s)=64 by omega]
 have hp:0<2^s:=Fv s;obtain ⟨g1,_,_⟩:=nT hy (s:=64-s) (by omega);have hxl:x/2^s<2^(64-s):=FJ (by rw[e64]; exact hx);rw[g1,za hxl,show 64-(64-s)=s by omega];refine ⟨?_,hxl⟩;generalize 2^(64-s)=b at *
 generalize 2^s=a at *
 have h1:v%a=y%a:=by
  rw[hv,←e64,ES,Gz]
 have h2:=FL v a;have h3:x+18446744073709551616*v=x+a*(y%a*b+18446744073709551616*(v/a)):=by
  conv=>lhs; rw[←h2,h1]
  rw[E5,E5,←e64,EV (y%a) b,←ES a b,←ES (a*b) a,EV (a*b) a,ES a (a*b)];omega
 rw[h3,GX _ _ hp,FG]
theorem zc:leA (.ag [.sc (.slice none 0 0)]) (nV 0):=by
 unfold nV;rw[a9];exact ⟨.inr ⟨rfl,1,rfl⟩,HJ⟩
theorem qn (a n:Nat) (ha:(dg 18446744073709551616 a).length≤1000000) (hn:n≤100000000):Ct P 146 [nV a,.c (nI .i64 n)] [nV (a/2^n)]:=by
 have hA:=br (B:=18446744073709551616) (by omega) a;have vA:=bq (B:=18446744073709551616) (by omega) a;refine Ct.go aj aa (N:=76) Tryz.func146 rfl rfl rfl rfl ?_;have e:(if (0:Int)>((n:Nat):Int) then 0 else ((n:Nat):Int))=n:=if_neg (by omega);refine X1 _ (kx a ha) ?_;refine ah (λh0=>?_) (λh0=>?_)
 ·rw[e]at h0;have:a/2^n=0:=Gf (EM (eH a) (ER (by omega) (by omega)));rw[this];exact ⟨HJ,⟨_,rfl,zc⟩,HJ⟩
 ·rw[e]at h0 ⊢;have hb:=nQ a;obtain ⟨k,hk⟩:∃ k,k=n/64:=⟨_,rfl⟩;obtain ⟨s,hs⟩:∃ s,s=n%64:=⟨_,rfl⟩;refine .intro (by omega) (X1 ((k:Nat):Int) (by rw[hk]; exact j0 rfl) (.intro ⟨by omega,by omega⟩ ?_));refine .intro (by omega) (X1 ((s:Nat):Int) (by rw[hs]; exact mb rfl) (.intro ⟨by omega,by omega⟩ ?_));refine X1 ((s:Nat):Int) (wU rfl (by omega) (by omega)) ?_;have hkl:k<(dg 18446744073709551616 a).length:=by omega
  refine .intro (by rw[ai]; omega) ?_;rw[ai];refine X1 (((dg 18446744073709551616 a).length-k:Nat):Int) (wI (by omega) (by omega) (by omega)) ?_;refine ⟨by omega,by omega,by omega,.inl (by decide),?_⟩;refine .intro (by omega) ?_;obtain ⟨A,eA⟩:∃ A,A=dg 18446744073709551616 a:=⟨_,rfl⟩;rw[←eA]at hA vA ha hkl;rw[←eA];have hV:∀ i,k+i<A.length→(val 18446744073709551616 (A.drop (k+i)))/2^s=(A.getD (k+i) 0/2^s|||A.getD (k+i+1) 0*2^(64-s)%18446744073709551616)+18446744073709551616*(val 18446744073709551616 (A.drop (k+i+1))/2^s)∧(A.getD (k+i) 0/2^s|||A.getD (k+i+1) 0*2^(64-s)%18446744073709551616)<18446744073709551616:=λi hi=>by
   have hx:=hA.getD (by omega) (k+i);have hy:=hA.getD (by omega) (k+i+1);have hle:=FU (A.getD (k+i) 0) (2^s);refine ⟨?_,zb (by omega) (FE _ (by decide))⟩;rw[dH _ hi];rcases Ft (k+i+1) A.length with h | h
   ·exact (nU hx hy (by omega) (dH _ h)).1
   ·have e1:A.getD (k+i+1) 0=0:=by rw[EB,EZ h]; rfl
    exact (nU (w:=0) hx hy (by omega) (by rw[e1,FS h]; rfl)).1
  have hfin:a/2^n=val 18446744073709551616 (A.drop k)/2^s:=by
   have h1:=fv 18446744073709551616 A k;have h2:=ee (by omega:0<18446744073709551616) (hA.take (n:=k));rw[EQ,F7 (by omega)]at h2;rw[F7 (by omega),vA]at h1;rw[show n=64*k+s by omega,Fy,←nP,←Gh,h1,GX _ _ (Nat.pow_pos (by omega)),Gf h2,Fu]
  rw[hfin];refine aw aj aa (G:=Nat × List Nat) (λ(i,out)=>i≤A.length-k∧out.length=A.length-k∧Dig 18446744073709551616 out∧val 18446744073709551616 (out.take i)+18446744073709551616^i*(val 18446744073709551616 (A.drop (k+i))/2^s)=val 18446744073709551616 (A.drop k)/2^s)
   (λ(i,out)=>[(2,.c (.ad 2 0)),(4,.c (.ad 4 0)),(5,.c (nI .i64 k)),(6,.c (nI .u64 s)),(7,.c (.ow 26 1 (A.length-k))),(28,.c (nI .i64 (A.length-k:Nat))),(29,.c (nI .i64 i))])
   (λ((i,out):Nat × List Nat)=>[(2,.var [nSl .u64 A]),(4,.var [.sc (.slice none 0 0)]),(26,.row 1 (aE .u64 out))]) (λ(i,_)=>A.length-i)
   (0,List.replicate (A.length-k) 0) ⟨by simp,by simp,λx hx=>by rw[FD hx]; omega,by simp[val]⟩
   ⟨rfl,rfl,rfl,rfl,owE (by omega),rfl,rfl,HJ⟩ ⟨(by rw[eA]; rfl),rfl,aB (ff rfl),HJ⟩
   (λl:List Nat=>Dig 18446744073709551616 l∧val 18446744073709551616 l=val 18446744073709551616 (A.drop k)/2^s∧l.length≤1000000) (λl=>[(4,.c (.ad 4 0)),(7,.c (.ow 26 1 (A.length-k)))]) (λl=>[(4,.var [.sc (.slice none 0 0)]),(26,.row 1 (aE .u64 l))]) (λg hg=>?_) (λl hl=>?_)
  ·obtain ⟨i,out⟩:=g;obtain ⟨h1,h2,h3,h4⟩:=hg;refine ah (λh7=>?_) (λh7=>?_)
   ·obtain ⟨v1,v2⟩:=hV i (by omega);have hx:=hA.getD (by omega) (k+i);have hlow:A.getD (k+i) 0/2^s≤A.getD (k+i) 0:=FU _ _;refine X1 ((k+i:Nat):Int) (wI (by omega) (by omega) (by omega)) ?_;refine .intro (by omega) (X1 _ (al rfl (by omega)) ?_);refine .intro (by omega) (X1 ((A.getD (k+i) 0/2^s:Nat):Int) (fH (k:=s) (by omega)) (.intro (inU (by omega)) ?_));refine .intro (by omega) (.intro (by omega) ?_);refine X1 _ (al rfl (by omega)) ?_;have hset:∀ w,w<18446744073709551616→w=(A.getD (k+i) 0/2^s|||A.getD (k+i+1) 0*2^(64-s)%18446744073709551616)→val 18446744073709551616 ((out.set i w).take (i+1))+18446744073709551616^(i+1)*(val 18446744073709551616 (A.drop (k+(i+1)))/2^s)=val 18446744073709551616 (A.drop k)/2^s:=λw _ hw=>by
     rw[dp _ _ (by omega),←h4,v1,←hw,Fk,E5,ES,←FG k i 1];omega
    refine ah (λh8=>?_) (λh8=>?_)
    ·refine X1 ((k+i:Nat):Int) (wI (by omega) (by omega) (by omega)) ?_;refine X1 ((k+i+1:Nat):Int) (wI (by omega) (by omega) (by omega)) ?_;refine .intro (by rw[ai]; omega) ?_;rw[ai];refine ah (λh9=>?_) (λh9=>?_)
     ·refine .intro (by omega) (.intro (by omega) ?_);refine X1 _ (wk rfl rfl (by omega)) ?_;refine X1 ((k+i:Nat):Int) (wI (by omega) (by omega) (by omega)) ?_;refine X1 ((k+i+1:Nat):Int) (wI (by omega) (by omega) (by omega)) ?_;refine .intro (by omega) (X1 _ (al rfl (by omega)) ?_);refine X1 ((64-s:Nat):Int) (wU (by omega) (by omega) (by omega)) ?_;refine .intro (by omega) (X1 _ (uf (k:=64-s) (by omega)) ?_);refine X1 _ (orU (by omega) (FE _ (by decide))) ?_;refine .intro (by omega) (.intro (by omega) ?_);refine X1 _ (mg rfl (by omega)) ?_;refine .intro rfl ?_;refine X1 ((i+1:Nat):Int) (wI1 (by omega)) ?_;refine ⟨(i+1,out.set i (A.getD (k+i) 0/2^s|||A.getD (k+i+1) 0*2^(64-s)%18446744073709551616)),⟨by omega,by simp[h2],h3.set v2,hset _ v2 rfl⟩,by show _-(i+1)<_-i; omega,⟨rfl,rfl,rfl,rfl,rfl,rfl,rfl,HJ⟩,⟨rfl,rfl,aB ?_,HJ⟩⟩;have e1:out.set i (A.getD (k+i) 0/2^s|||A.getD (k+i+1) 0*2^(64-s)%18446744073709551616)=(out.set i (A.getD (k+i) 0/2^s)).set i (A.getD (k+i) 0/2^s|||A.getD (k+i+1) 0*2^(64-s)%18446744073709551616):=by rw[Hw]
      rw[e1,←nRow_set,←nRow_set];rfl
     ·have e0:A.getD (k+i+1) 0=0:=by rw[EB,EZ (by omega)]; rfl
      have e1:(A.getD (k+i) 0/2^s|||A.getD (k+i+1) 0*2^(64-s)%18446744073709551616)=A.getD (k+i) 0/2^s:=by rw[e0]; simp
      refine X1 ((i+1:Nat):Int) (wI1 (by omega)) ?_;refine ⟨(i+1,out.set i (A.getD (k+i) 0/2^s)),⟨by omega,by simp[h2],h3.set (by omega),hset _ (by omega) e1.symm⟩,by show _-(i+1)<_-i; omega,⟨rfl,rfl,rfl,rfl,rfl,rfl,rfl,HJ⟩,⟨rfl,rfl,aB ?_,HJ⟩⟩;rw[←nRow_set];rfl
    ·have e0:s=0:=by omega
     have e1:(A.getD (k+i) 0/2^s|||A.getD (k+i+1) 0*2^(64-s)%18446744073709551616)=A.getD (k+i) 0/2^s:=by
      rw[e0,show 2^(64-0)=18446744073709551616 from rfl,Nat.mul_mod_left]; simp
     refine X1 ((i+1:Nat):Int) (wI1 (by omega)) ?_;refine ⟨(i+1,out.set i (A.getD (k+i) 0/2^s)),⟨by omega,by simp[h2],h3.set (by omega),hset _ (by omega) e1.symm⟩,by show _-(i+1)<_-i; omega,⟨rfl,rfl,rfl,rfl,rfl,rfl,rfl,HJ⟩,⟨rfl,rfl,aB ?_,HJ⟩⟩;rw[←nRow_set];rfl
   ·have e:i=A.length-k:=by omega
    subst e;rw[Fj (by omega),FS (by omega)]at h4;simp only[val,Hz,FZ,FT]at h4;exact ⟨out,⟨h3,h4,by omega⟩,⟨rfl,rfl,HJ⟩,⟨rfl,rfl,HJ⟩⟩
  ·obtain ⟨h1,h2,h3⟩:=hl;refine X2 .frz ?_;refine X1 _ (eg l h3) ?_;rw[cE (by omega) h1,h2];exact ⟨HJ,rc rfl,HJ⟩
end
section
theorem wl (l:List Nat) (hl:l.length≤1000000):Ct P 63 [.c (nSl .u64 l)] [.c (nSl .u64 l)]:=by
 refine Ct.go aj aa (N:=8) Tryz.func63 rfl rfl rfl rfl ?_;intro b hb
 cases b with
 | true=>
  have:l=[]:=Fa.1 (by have:=hb rfl; rwa [ai]at this);subst this;exact ⟨HJ,⟨_,rfl,.inr ⟨rfl,1,rfl⟩⟩,HJ⟩
 | false=>
  refine ⟨rfl,by rw[ai]; show (0+l.length+768)*8≤_; omega,by rw[ai]; show 0+l.length≤_; omega,bM,dc,?_⟩;exact ⟨HJ,r1 rfl,HJ⟩
section
variable {u d1 d0 x q r:Nat}
theorem zd (h:q*d1+r=u) (ht:q*d0≤18446744073709551616*r+x) (hp:0<d1*18446744073709551616+d0) (hq:(u*18446744073709551616+x)/(d1*18446744073709551616+d0)≤q):(u*18446744073709551616+x)/(d1*18446744073709551616+d0)=q:=by
 refine Hv hq ((Hb hp).2 ?_);have e:q*(d1*18446744073709551616+d0)=q*d1*18446744073709551616+q*d0:=by rw[E5,ES]
 omega
theorem Cs (h:q*d1+r=u) (ht:18446744073709551616*r+x<q*d0):(u*18446744073709551616+x)/(d1*18446744073709551616+d0)<q:=by
 apply FJ;have e:(d1*18446744073709551616+d0)*q=q*d1*18446744073709551616+q*d0:=by rw[EV,E5,ES]
 omega
theorem Et (hd:0<d1) (hx:x<18446744073709551616):(u*18446744073709551616+x)/(d1*18446744073709551616+d0)≤u/d1:=by
 have h0:=FL u d1;have hm:=FE u hd;refine Nat.le_of_lt_succ (FJ ?_);have e:(d1*18446744073709551616+d0)*(u/d1+1)=d1*(u/d1)*18446744073709551616+d1*18446744073709551616+d0*(u/d1+1):=by
  rw[EU,ES,EV 18446744073709551616,←ES,E5,F2,EU]
 show u*18446744073709551616+x<(d1*18446744073709551616+d0)*(u/d1+1)
 omega
theorem u5 {T:Nat} (hd0:d0<18446744073709551616) (hp:0<d1*18446744073709551616+d0) (hT:T=(u*18446744073709551616+x)/(d1*18446744073709551616+d0)) (h:q*d1+r=u) (hq:q<18446744073709551616) (ht:T<q) :
  (q-1)*d1+(r+d1)=u∧(18446744073709551616≤r+d1→T=q-1):=by
 obtain ⟨p,rfl⟩:∃ p,q=p+1:=⟨q-1,by omega⟩;rw[EU,Fn]at h;rw[F1];have e:p*d1+(r+d1)=u:=by omega
 refine ⟨e,λhr=>?_⟩;rw[hT];refine zd e ?_ hp (by omega);have h1:p*d0≤18446744073709551616*d0:=EL _ (by omega);have h2:18446744073709551616*d0≤18446744073709551616*(r+d1):=Fw _ (by omega);omega
end
def gs (u2 u1 u0 top next:Nat):Nat:=if top≤u2 then 18446744073709551615 else ((u2*18446744073709551616+u1)*18446744073709551616+u0)/(top*18446744073709551616+next)
theorem ze (u:List Nat) (top next n:Nat) (hu:Dig 18446744073709551616 u) (hn:u.length=n+3) (hb:u.length≤1000000) (h1:0<top) (h2:top<18446744073709551616) (h3:next<18446744073709551616) :
  Ct P 154 [.c (nSl .u64 u),.c (nI .u64 top),.c (nI .u64 next)] [.c (nI .u64 (gs (u.getD (n+2) 0) (u.getD (n+1) 0) (u.getD n 0) top next))]:=by
 have k2:=hu.getD (by omega) (n+2);have k1:=hu.getD (by omega) (n+1);have k0:=hu.getD (by omega) n;refine Ct.go aj aa (N:=72) Tryz.func154 rfl rfl rfl rfl ?_;refine .intro (by rw[ai]; omega) ?_;rw[ai];refine X1 ((n+2:Nat):Int) (wI (by omega) (by omega) (by omega)) ?_;refine .intro (by omega) (X1 _ (al rfl (by omega)) ?_);refine ah (λh0=>?_) (λh0=>?_)
 ·exact ⟨HJ,r1 (iE (by rw[gs,if_pos (by omega)]; rfl)),HJ⟩
 ·rw[gs,if_neg (by omega)];refine X1 ((n+2:Nat):Int) (wI (by omega) (by omega) (by omega)) ?_;refine .intro (by omega) (X1 _ (al rfl (by omega)) ?_);refine X1 ((n+1:Nat):Int) (wI (by omega) (by omega) (by omega)) ?_;refine .intro (by omega) (X1 _ (al rfl (by omega)) ?_);generalize u.getD (n+2) 0=u2 at *
  generalize u.getD (n+1) 0=u1 at *
  refine X1 _ (sw u2 u1 top (by omega) k1 h2) ?_;refine .intro rfl ?_;have hw:=FE (u2*18446744073709551616+u1) h1;have hdm:=FL (u2*18446744073709551616+u1) top;rw[EV]at hdm;have hq0:(u2*18446744073709551616+u1)/top<18446744073709551616:=by
   refine FJ ?_;have:=EL 18446744073709551616 (show u2+1≤top by omega);omega
  obtain ⟨T,hT⟩:∃ T,T=((u2*18446744073709551616+u1)*18446744073709551616+u.getD n 0)/(top*18446744073709551616+next):=⟨_,rfl⟩;have hT0:T≤(u2*18446744073709551616+u1)/top:=by rw[hT]; exact Et h1 k0
  rw[←hT];obtain ⟨A,hA⟩:∃ A,A=u2*18446744073709551616+u1:=⟨_,rfl⟩;rw[←hA]at hw hdm hq0 hT hT0 ⊢;refine ci aj aa (G:=Nat × Nat) (λ(q,r)=>q*top+r=A∧T≤q∧q<18446744073709551616∧r<18446744073709551616)
   (λ(q,r)=>[(0,.c (nSl .u64 u)),(1,.c (nI .u64 top)),(2,.c (nI .u64 next)),(7,.c (nI .i64 (n+3:Nat))),(8,.c (nI .u64 q)),(9,.c (nI .u64 r))]) (λ_=>[]) (λ(q,_)=>q)
   (A/top,A%top) ⟨hdm,hT0,hq0,by omega⟩ ⟨rfl,rfl,rfl,iE (by rw[hn]),rfl,rfl,HJ⟩ HJ (λ(q,r) hi=>?_)
  obtain ⟨i1,i2,i3,i4⟩:=hi;refine X1 _ (nS q next i3 h3) ?_;have hml:=FL (q*next) 18446744073709551616;have hmm:=FE (q*next) (show 0<18446744073709551616 by decide);generalize q*next/18446744073709551616=hi at *
  generalize q*next%18446744073709551616=lo at *
  refine ah (λh4=>?_) (λh4=>?_)
  ·have e:T=q:=by rw[hT]; exact zd i1 (by omega) (by omega) (by rw[←hT]; exact i2)
   exact ⟨HJ,r1 (iE (by rw[e])),HJ⟩
  ·refine aU (λh5=>?_) (λh5=>?_)
   ·have e5:hi=r:=Int.ofNat_inj.1 h5;refine X1 ((n:Nat):Int) (wI (by omega) (by omega) (by omega)) ?_;refine .intro (by omega) (X1 _ (al rfl (by omega)) ?_);refine ah (λh7=>?_) (λh7=>?_)
    ·have e7:lo≤u.getD n 0:=Int.ofNat_le.1 h7;have e:T=q:=by rw[hT]; exact zd i1 (by rw[←hml,e5]; exact Nat.add_le_add_left e7 _) (by omega) (by rw[←hT]; exact i2)
     exact ⟨HJ,r1 (iE (by rw[e])),HJ⟩
    ·have e7:u.getD n 0<lo:=Hx.1 (Int.not_le.1 h7);have hlt:T<q:=by rw[hT]; exact Cs i1 (by rw[←hml,e5]; exact Nat.add_lt_add_left e7 _)
     obtain ⟨m1,m2⟩:=u5 h3 (by omega) hT i1 i3 hlt;refine X1 ((q-1:Nat):Int) (wU (by omega) (by omega) (by omega)) ?_;refine X1 _ (ef r top 0 i4 h2 (by omega)) ?_;refine ah (λh6=>?_) (λh6=>?_)
     ·exact ⟨HJ,r1 (iE (by rw[m2 (by omega)])),HJ⟩
     ·exact ⟨(q-1,r+top),⟨m1,by omega,by omega,by omega⟩,by show q-1<q; omega,⟨rfl,rfl,rfl,rfl,rfl,iE (by rw[Fi (by omega)]; rfl),HJ⟩,HJ⟩
   ·have hlt:T<q:=by rw[hT]; exact Cs i1 (by omega)
    obtain ⟨m1,m2⟩:=u5 h3 (by omega) hT i1 i3 hlt;refine X1 ((q-1:Nat):Int) (wU (by omega) (by omega) (by omega)) ?_;refine X1 _ (ef r top 0 i4 h2 (by omega)) ?_;refine ah (λh6=>?_) (λh6=>?_)
    ·exact ⟨HJ,r1 (iE (by rw[m2 (by omega)])),HJ⟩
    ·exact ⟨(q-1,r+top),⟨m1,by omega,by omega,by omega⟩,by show q-1<q; omega,⟨rfl,rfl,rfl,rfl,rfl,iE (by rw[Fi (by omega)]; rfl),HJ⟩,HJ⟩
end
end Go.Proofs.YtgceikecdedfcaaGreat.Pv
