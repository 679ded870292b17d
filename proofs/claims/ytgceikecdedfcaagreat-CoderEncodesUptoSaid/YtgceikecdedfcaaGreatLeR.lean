/- Parts of a proof, joined: Hj Hk Hw Ic Hm Ia Hn Ho Fy Fz Ge He Hp. -/
import Derived.Test.YtgceikecdedfcaaGreatLeQ
namespace Go.Proofs.YtgceikecdedfcaaGreat.Pv
open Go
section
abbrev nB (b:Bool):PC:=nI .u64 b.toNat
abbrev bP (l:List Bool):PC:=.rd [nSl .u64 (a9 l),nI .i64 l.length]
abbrev oU:A1:=.c (.sc (.pointer none))
theorem eX (n:Nat):needW n≤n:=by unfold needW; omega
theorem rf (n:Nat) (hn:n≤1000000000):Ct P 49 [.c (nI .i64 n)] [.c (nI .i64 (needW n))]:=by
 refine Ct.go aj aa (N:=9) Tryz.func49 rfl rfl rfl rfl ?_;refine .intro (by decide) (X1 ((n/64:Nat):Int) (ic rfl) (.intro ⟨by omega,by omega⟩ ?_));refine .intro (by decide) (X1 ((n%64:Nat):Int) (ix rfl) (.intro ⟨by omega,by omega⟩ ?_));have e:(if (1:Int)<((n%64:Nat):Int) then (1:Int) else ((n%64:Nat):Int))=((min (n%64) 1:Nat):Int):=by split<;>omega
 refine X1 ((needW n:Nat):Int) ?_ ?_
 ·rw[e]; exact wI (by unfold needW; omega) (by omega) (by unfold needW; omega)
 ·exact ⟨HT,r1 rfl,HT⟩
theorem wY (b:Bool):Ct P 48 [.c (nB b)] [.c (nI .i64 b.toNat)]:=by
 have h:=kG b.toNat (by cases b<;>decide);rw[show blen b.toNat=b.toNat by
  cases b
  ·exact blen_zero
  ·exact (sn (by decide)).trans (by rw[show (true.toNat/2)=0 from rfl,blen_zero]; rfl)]at h
 refine Ct.go aj aa (N:=5) Tryz.func48 rfl rfl rfl rfl ?_;refine X1 _ h ?_;exact ⟨HT,r1 rfl,HT⟩
theorem B5:CtO P 16 [] [] [(2,some (.var [.sc (.slice none 0 0),eI .i64 0]))] [.c (.ad 2 0)]:=by
 refine Ct.keep aj aa [] (N:=3) Tryz.func16 rfl rfl rfl rfl ?_;exact ⟨HT,SubO.of (l:=[(2,.var [.sc (.slice none 0 0),eI .i64 0])]) ⟨rfl,HT⟩,r1 rfl,HT⟩
abbrev bO (r:Nat) (l:List Bool):Objs:=[(1000000,some (.var [.ow r 1 (needW l.length),nI .i64 l.length])),(r,some (.row 1 (aF .u64 (a9 l))))]
theorem Eh {l:List Bool} {O:Objs} (h1:O.get 1000000=some (.var [.ow 200 1 (needW l.length),nI .i64 l.length])) (h2:O.get 200=some (.row 1 (aF .u64 (a9 l)))):SubO (bO 200 l) O:=
 SubO.of (l:=[(1000000,.var [.ow 200 1 (needW l.length),nI .i64 l.length]),(200,.row 1 (aF .u64 (a9 l)))]) ⟨h1,h2,HT⟩
theorem nm {k:IntKind} {l:List Nat} {i x:Nat} (h:l[i]? = some x):(aF k l)[i]? = some [nI k x]:=by simp[aF,h]
theorem Ei {a i:Nat} {b:Bool} (h:a<2^i) (hi:i<64):a|||b.toNat*2^i%18446744073709551616=a+b.toNat*2^i:=by
 have h1:(2:Nat)^i≤2^63:=EX (by omega) (by omega);have h2:(2:Nat)^63=9223372036854775808:=rfl;have h3:b.toNat*2^i≤2^i:=by cases b<;>simp
 rw[Fg (by omega),←G8,DH h,G8]
theorem B6 (l:List Bool) (b:Bool) (hl:l.length≤100000000):CtO P 17 (bO 1000001 l) [.c (.ad 1000000 0),.c (nB b),.c (eI .i64 1)] (bO 200 (l++[b])) [.c (eI .i64 0)]:=by
 have hb:b.toNat≤1:=by cases b<;>decide
 have hlen:(l++[b]).length=l.length+1:=by simp
 have hnw:=eX l.length;have hnw2:=eX (l++[b]).length;refine Ct.keepI (Ty.own_ok [1000001] aj) [] (N:=93) Tryz.func17 rfl rfl rfl rfl ?_;refine D0 (r:=1000001) (q:=200) (k:=1000000) (i:=0) rfl (by decide) (by decide) (by decide) rfl rfl rfl ?_;refine bK (Ty.own_ok [1000001] aj) aa ?_;refine X1 _ (wY b) ?_;refine ah (λh=>?_) (λ_=>?_)
 ·exfalso; omega
 refine .intro (by decide) (X1 ((l.length%64:Nat):Int) (ix rfl) (.intro ⟨by omega,by omega⟩ ?_));refine X1 ((l.length+1:Nat):Int) (wI (by simp) (by omega) (by omega)) ?_;refine ah (λh=>?_) (λh=>?_)
 ·have h64:l.length%64≠0:=by omega
  obtain ⟨w1,w2⟩:=re (b:=b) h64;have w3:=vJ h64;have w4:=dX l;have w5:=fL (l:=l) (k:=l.length/64) (by omega);have w6:=jO (l:=l) (k:=l.length/64) (by omega) (by omega);have w7:=k8 l (l.length/64);refine .intro (by omega) ?_;refine X1 ((l.length/64:Nat):Int) (wI (by omega) (by omega) (by omega)) ?_;refine .intro (by omega) (.intro (by omega) ?_);refine X1 _ (by rw[Fi]; exact nm w5) ?_;refine X1 ((l.length%64:Nat):Int) (wU rfl (by omega) (by omega)) ?_;refine .intro (by omega) (X1 _ (ut (by omega)) ?_);refine X1 _ (orU w7 (FM _ (by decide))) ?_;refine .intro (by omega) (.intro (by omega) ?_);refine X1 _ (by rw[Fi]; exact nm w5) ?_;refine .intro rfl ?_;refine aw (Ty.own_ok [1000001] aj) aa (λ_:Unit=>True) (λ_=>[(0,.c (.ad 1000000 0)),(1,.c (nB b)),(7,.c (nI .i64 (l.length%64)))])
   (λ_=>[(1000000,.var [.ow 200 1 (needW (l++[b]).length),nI .i64 (l++[b]).length]),(200,.row 1 (aF .u64 (a9 (l++[b]))))]) (λ_=>0)
   () trivial ⟨rfl,rfl,rfl,HT⟩ ⟨by rw[w2,hlen]; rfl,aB (by rw[Fi,w1,←nRow_set,Ei (by rw[show l.length%64=l.length-64*(l.length/64) by omega]; exact w6) (by omega)]; rfl),HT⟩ (λ_:Unit=>True) (λ_=>[]) (λ_=>[(1000000,.var [.ow 200 1 (needW (l++[b]).length),nI .i64 (l++[b]).length]),(200,.row 1 (aF .u64 (a9 (l++[b]))))]) (λ_ _=>?_) (λ_ _=>?_)
  ·refine .intro (by omega) ?_;refine X1 _ (rf (l++[b]).length (by omega)) ?_;refine .intro rfl ?_;refine ah (λh=>?_) (λ_=>?_)
   ·exfalso; omega
   ·exact ⟨(),HT,HT,⟨rfl,rfl,HT⟩⟩
  ·exact ⟨HT,Eh rfl rfl,r1 rfl,HT⟩
 ·have h64:l.length%64=0:=by omega
  have w1:=rb (b:=b) h64;have w2:needW (l++[b]).length=needW l.length+1:=by rw[hlen]; unfold needW; omega
  have w4:=dX l;refine aw (Ty.own_ok [1000001] aj) aa (λ_:Bool=>True) (λ_=>[(0,.c (.ad 1000000 0)),(1,.c (nB b)),(7,.c (nI .i64 (l.length%64)))])
   (λg=>[(1000000,.var [.ow 200 1 (bif g then needW (l++[b]).length else needW l.length),nI .i64 (l++[b]).length]),(200,.row 1 (aF .u64 (bif g then a9 (l++[b]) else a9 l)))]) (λg=>bif g then 0 else 1)
   false trivial ⟨rfl,rfl,rfl,HT⟩ ⟨by rw[hlen]; rfl,rfl,HT⟩ (λ_:Unit=>True) (λ_=>[]) (λ_=>[(1000000,.var [.ow 200 1 (needW (l++[b]).length),nI .i64 (l++[b]).length]),(200,.row 1 (aF .u64 (a9 (l++[b]))))]) (λg _=>?_) (λ_ _=>?_)
  ·cases g with
   | false=>
    refine .intro (by show needW l.length≤_; omega) ?_;refine X1 _ (rf (l++[b]).length (by omega)) ?_;refine .intro rfl ?_;refine ah (λ_=>?_) (λh=>?_)
    ·refine ah (λh=>?_) (λ_=>?_)
     ·exfalso; omega
     ·refine ⟨by rw[ae]; show needW l.length=(a9 l).length; rw[w4],by rw[ae]; show ((a9 l).length+1+768)*8≤_; omega,by rw[ae]; show (a9 l).length+1≤_; omega,bU,bU (l:=[b.toNat]),?_⟩;refine ⟨true,HT,by decide,⟨rfl,rfl,rfl,HT⟩,⟨?_,?_,HT⟩⟩
      ·show some (Ob.var [.ow 200 1 (aF .u64 (a9 l)++[[nB b]]).length,_])=some (Ob.var [.ow 200 1 (needW (l++[b]).length),_])
       rw[EL,ae,w4,w2]; rfl
      ·refine aB ?_;show aF .u64 (a9 l)++aF .u64 [b.toNat]=aF .u64 (a9 (l++[b]))
       rw[w1,gk]
    ·exfalso;apply h;show ((needW l.length:Nat):Int)<_
     omega
   | true=>
    refine .intro (by show needW (l++[b]).length≤_; omega) ?_;refine X1 _ (rf (l++[b]).length (by omega)) ?_;refine .intro rfl ?_;refine ah (λh=>?_) (λ_=>?_)
    ·exfalso;have:((needW (l++[b]).length:Nat):Int)<((needW (l++[b]).length:Nat):Int):=h;omega
    ·exact ⟨(),HT,HT,⟨rfl,rfl,HT⟩⟩
  ·exact ⟨HT,Eh rfl rfl,r1 rfl,HT⟩
theorem boE {a b:Bool} (h:a=b):(some (.c (.sc (.bool a))):Option AV)=some (.c (.sc (.bool b))):=by rw[h]
theorem DI {x:Nat} (hx:x<18446744073709551616):IntKind.u64.wrap ((BitVec.ofInt IntKind.u64.bits (x:Int)&&&BitVec.ofInt IntKind.u64.bits (1:Int)).toNat:Int)=((x%2:Nat):Int):=by
 have e:(BitVec.ofInt IntKind.u64.bits (x:Int)&&&BitVec.ofInt IntKind.u64.bits (1:Int)).toNat=x%2:=by
  show (BitVec.ofInt 64 (x:Int)&&&BitVec.ofInt 64 ((1:Nat):Int)).toNat=_
  rw[BitVec.ofInt_natCast,BitVec.ofInt_natCast,BitVec.toNat_and,BitVec.toNat_ofNat,BitVec.toNat_ofNat,Fg (by omega:x<2^64),Fg (by decide:1<2^64),GT]
 rw[e];exact wU rfl (by omega) (by omega)
theorem dP (l:List Bool) (hl:l.length≤100000000):Ct P 14 [.c (bP l)] [.c (nI .i64 l.length)]:=by
 refine Ct.go aj aa (N:=9) Tryz.func14 rfl rfl rfl rfl ?_;exact ⟨HT,r1 rfl,HT⟩
theorem B7 (l:List Bool) (i:Nat) (hl:l.length≤100000000) (hi:i<l.length):Ct P 15 [.c (bP l),.c (nI .i64 i)] [.c (.sc (.bool (l.getD i false)))]:=by
 have hw:=fL (l:=l) (k:=i/64) (by unfold needW; omega);have hb:=gC hi;have hg:l.getD i false=decide (bD l (i/64)/2^(i%64)%2=1):=by rw[EK,hb]; rfl
 refine Ct.go aj aa (N:=33) Tryz.func15 rfl rfl rfl rfl ?_;refine ah (λh=>?_) (λ_=>?_)
 ·exfalso; omega
 refine .intro (by decide) (X1 ((i/64:Nat):Int) (ic rfl) (.intro ⟨by omega,by omega⟩ ?_));refine .intro (by omega) (X1 _ (by rw[Fi]; exact nm hw) ?_);refine .intro (by decide) (X1 ((i%64:Nat):Int) (ix rfl) (.intro ⟨by omega,by omega⟩ ?_));refine X1 ((i%64:Nat):Int) (wU rfl (by omega) (by omega)) ?_;have hwl:=k8 l (i/64);have hdl:bD l (i/64)/2^(i%64)≤bD l (i/64):=FZ _ _;refine .intro (by omega) (X1 ((bD l (i/64)/2^(i%64):Nat):Int) (f6 (by omega)) (.intro (inU (by omega)) ?_));refine X1 _ (DI (by omega)) ?_;refine ⟨HT,r1 (boE ?_),HT⟩;rw[hg];by_cases h:bD l (i/64)/2^(i%64)%2=1
 ·rw[decide_eq_true h,h]; rfl
 ·rw[decide_eq_false h,show bD l (i/64)/2^(i%64)%2=0 by omega]; rfl
def ig (l:List Bool) (k:Nat):Nat:=if k<needW l.length then bD l k else 0
theorem tx (l:List Bool) (k:Nat):ig l k<18446744073709551616:=by
 have:=k8 l k;unfold ig; split<;>omega
theorem tz (l:List Bool) (k:Nat) (hl:l.length≤100000000) (hk:k≤100000000):Ct P 148 [.c (bP l),.c (nI .i64 k)] [.c (nI .u64 (ig l k))]:=by
 have h1:=eX l.length;have h2:=dX l;refine Ct.go aj aa (N:=23) Tryz.func148 rfl rfl rfl rfl ?_;refine .intro (by rw[ae]; omega) ?_;rw[ae];refine ah (λh=>?_) (λh=>?_)
 ·exact ⟨HT,r1 (iE (by rw[ig,if_neg (by omega)]; rfl)),HT⟩
 ·refine .intro (by omega) (X1 _ (by rw[Fi]; exact nm (fL (by omega))) ?_);exact ⟨HT,r1 (iE (by rw[ig,if_pos (by omega)])),HT⟩
theorem tA:Ct P 180 [.c (eI .i64 1)] [.c (eI .i64 1)]:=by
 refine Ct.go aj aa (N:=6) Tryz.func180 rfl rfl rfl rfl ?_;exact ⟨HT,r1 rfl,HT⟩
theorem tB:Ct P 149 [.c (eI .i64 1)] [.c (eI .u64 1)]:=by
 refine Ct.go aj aa (N:=11) Tryz.func149 rfl rfl rfl rfl ?_;refine X1 _ tA ?_;refine X1 (1:Int) (by decide) ?_;refine .intro (by decide) (X1 (2:Int) (by decide) ?_);refine X1 (1:Int) (by decide) ?_;exact ⟨HT,r1 rfl,HT⟩
theorem DJ {a c s:Nat} (hs:s<64):(a|||c*2^(64-s)%18446744073709551616)%2=a%2:=by
 have h1:c*2^(64-s)%18446744073709551616%2=0:=by
  have e:18446744073709551616=2*9223372036854775808:=rfl;rw[e,Nat.mod_mul_right_mod,show 64-s=(63-s)+1 by omega,Fj,←E4];exact Nat.mul_mod_left _ _
 rw[←GT,Nat.and_or_distrib_right,GT,GT,h1,Nat.or_zero]
theorem B8 (l:List Bool) (i:Nat) (hl:l.length≤100000000) (hi:i<l.length):Ct P 103 [.c (bP l),.c (nI .i64 i),.c (eI .i64 1)] [.c (nB (l.getD i false))]:=by
 have hb:=gC hi;have hg:l.getD i false=decide (bD l (i/64)/2^(i%64)%2=1):=by rw[EK,hb]; rfl
 have hz:ig l (i/64)=bD l (i/64):=if_pos (by unfold needW; omega);have hwl:=tx l (i/64);have hw2:=tx l (i/64+1);have hdl:ig l (i/64)/2^(i%64)≤ig l (i/64):=FZ _ _;have fin:∀ v,v%2=ig l (i/64)/2^(i%64)%2→v%2=(l.getD i false).toNat:=λv hv=>by
  rw[hg,hv,hz];by_cases h:bD l (i/64)/2^(i%64)%2=1
  ·rw[decide_eq_true h,h]; rfl
  ·rw[decide_eq_false h,show bD l (i/64)/2^(i%64)%2=0 by omega]; rfl
 refine Ct.go aj aa (N:=67) Tryz.func103 rfl rfl rfl rfl ?_;refine ah (λh=>?_) (λ_=>?_)
 ·exfalso; omega
 refine ah (λh=>?_) (λ_=>?_)
 ·exfalso; omega
 refine .intro (by decide) (X1 ((i/64:Nat):Int) (ic rfl) (.intro ⟨by omega,by omega⟩ ?_));refine .intro (by decide) (X1 ((i%64:Nat):Int) (ix rfl) (.intro ⟨by omega,by omega⟩ ?_));refine X1 _ (tz l (i/64) hl (by omega)) ?_;refine X1 ((i%64:Nat):Int) (wU rfl (by omega) (by omega)) ?_;refine .intro (by omega) (X1 ((ig l (i/64)/2^(i%64):Nat):Int) (f6 (by omega)) (.intro (inU (by omega)) ?_));refine ah (λh5=>?_) (λh5=>?_)
 ·refine X1 ((i/64+1:Nat):Int) (wI (by simp) (by omega) (by omega)) ?_;refine X1 _ (tz l (i/64+1) hl (by omega)) ?_;refine X1 ((64-i%64:Nat):Int) (wI (by omega) (by omega) (by omega)) ?_;refine X1 ((64-i%64:Nat):Int) (wU rfl (by omega) (by omega)) ?_;refine .intro (by omega) (X1 _ (ut (by omega)) ?_);have hor:=zm (v:=ig l (i/64)/2^(i%64)) (m:=ig l (i/64+1)*2^(64-i%64)%18446744073709551616) (by omega) (FM _ (by decide));refine X1 _ (orU (by omega) (FM _ (by decide))) ?_;refine X1 _ tB ?_;refine X1 _ (DI hor) ?_;exact ⟨HT,r1 (iE (by rw[fin _ (DJ (by omega))])),HT⟩
 ·refine X1 _ tB ?_;refine X1 _ (DI (by omega)) ?_;exact ⟨HT,r1 (iE (by rw[fin _ rfl])),HT⟩
theorem uI (l m:List Nat) (hl:l.length≤1000000) (hm:m.length≤1000000):Ct P 53 [.c (nSl .u64 l),.c (nSl .u64 m)] [.c (.sc (.bool (decide (l=m))))]:=by
 refine Ct.go aj aa (N:=26) Tryz.func53 rfl rfl rfl rfl ?_;refine .intro (by rw[ae]; omega) ?_;rw[ae];refine .intro (by rw[ae]; omega) ?_;rw[ae];refine dE (λh=>?_) (λh=>?_)
 ·exact ⟨HT,r1 (boE (decide_eq_false λe=>h (by rw[e])).symm),HT⟩
 have hlm:l.length=m.length:=by omega
 refine .intro (by rw[ae]; omega) ?_;rw[ae];refine aw aj aa (λi:Nat=>i≤l.length∧l.take i=m.take i) (λi=>[(0,.c (nSl .u64 l)),(1,.c (nSl .u64 m)),(12,.c (nI .i64 l.length)),(13,.c (nI .i64 i))]) (λ_=>[]) (λi=>l.length-i)
  0 ⟨by omega,rfl⟩ ⟨rfl,rfl,rfl,rfl,HT⟩ HT (λ_:Unit=>l=m) (λ_=>[]) (λ_=>[]) (λi hi=>?_) (λ_ hp=>?_)
 ·obtain ⟨i1,i2⟩:=hi;refine ah (λh1=>?_) (λh1=>?_)
  ·have hi':i<l.length:=by omega
   refine .intro (by omega) (X1 _ (al rfl hi') ?_);refine .intro (by omega) (X1 _ (al rfl (by omega)) ?_);refine .intro rfl ?_;have e1:l.getD i 0=l[i]:=by simp[EK,hi']
   have e2:m.getD i 0=m[i]:=by simp[EK,show i<m.length by omega]
   refine dE (λh2=>?_) (λh2=>?_)
   ·exact ⟨HT,r1 (boE (decide_eq_false λe=>h2 (by rw[e])).symm),HT⟩
   ·refine X1 ((i+1:Nat):Int) (wI1 (by omega)) ?_;refine ⟨i+1,⟨by omega,?_⟩,by omega,⟨rfl,rfl,rfl,rfl,HT⟩,HT⟩;rw[ER hi',ER (by omega:i<m.length),i2];congr 2;omega
  ·have e:i=l.length:=by omega
   subst e;rw[Fp,hlm,Fp]at i2;exact ⟨(),i2,HT,HT⟩
 ·exact ⟨HT,r1 (boE (decide_eq_true hp).symm),HT⟩
theorem Ac (l m:List Bool) (hl:l.length≤1000000) (hm:m.length≤1000000):Ct P 19 [.c (bP l),.c (bP m)] [.c (.sc (.bool (decide (l=m))))]:=by
 have a1:=eX l.length;have a2:=eX m.length;have a3:=dX l;have a4:=dX m;refine Ct.go aj aa (N:=29) Tryz.func19 rfl rfl rfl rfl ?_;refine X1 _ (dP l (by omega)) ?_;refine X1 _ (dP m (by omega)) ?_;refine dE (λh=>?_) (λh=>?_)
 ·refine X1 _ (dP l (by omega)) ?_;refine X1 _ (dP m (by omega)) ?_;refine ⟨HT,r1 (boE ?_),HT⟩;rw[decide_eq_false λe=>h (by rw[e])];simpa using h
 ·refine X1 _ (dP l (by omega)) ?_;refine aT (λh2=>?_) (λh2=>?_)
  ·refine X1 _ (dP l (by omega)) ?_;refine X1 _ (dP m (by omega)) ?_;refine ⟨HT,r1 (boE ?_),HT⟩;have e1:l=[]:=Fd.1 (by omega);have e2:m=[]:=Fd.1 (by omega);subst e1 e2;rfl
  ·refine X1 _ (uI (a9 l) (a9 m) (by omega) (by omega)) ?_;refine .intro rfl ?_;refine ⟨HT,r1 (boE ?_),HT⟩;by_cases e:l=m
   ·subst e; simp
   ·rw[decide_eq_false e,decide_eq_false λhw=>e (uH (by omega) hw)]
theorem wZ (l:List Bool) (hl:l.length≤1000000):Ct P 24 [.c (bP l)] [.c (nSl .u64 (a9 l))]:=by
 have a1:=eX l.length;have a3:=dX l;refine Ct.go aj aa (N:=10) Tryz.func24 rfl rfl rfl rfl ?_;refine X1 _ (pJ (a9 l) (by omega)) ?_;exact ⟨HT,r1 rfl,HT⟩
theorem B9 (v:Nat) (hv:v≤1):Ct P 147 [nV v] [.c (nI .u64 v),.c (.sc (.bool true))]:=by
 have hc:v=0∨v=1:=by omega
 rcases hc with rfl | rfl
 ·rw[show nV 0 = .ag [nSl .u64 []] from by rw[←ba 18446744073709551616]];refine Ct.go aj aa (N:=15) Tryz.func147 rfl rfl rfl rfl ?_;refine .intro (by decide) ?_;exact ⟨HT,r1 rfl,r1 rfl,HT⟩
 ·have e:dg 18446744073709551616 1=[1]:=by rw[eY (by omega) (by omega),show 1/18446744073709551616=0 from rfl,ba]
  rw[show nV 1 = .ag [nSl .u64 [1]] from by rw[←e]];refine Ct.go aj aa (N:=15) Tryz.func147 rfl rfl rfl rfl ?_;refine .intro (by decide) ?_;refine .intro (by decide) (X1 _ rfl ?_);exact ⟨HT,r1 rfl,r1 rfl,HT⟩
theorem uJ:a9 []=[]:=by unfold a9; rw[show needW ([]:List Bool).length=0 from rfl]; rfl
theorem DK (v k j:Nat) (hv:v<2^j) (hj:j≤900000) (hk:k≤900000):Ct P 101 [nV v,.c (nI .i64 k)] [.c (bP (ca v k))]:=by
 have l1:=gx hv (by omega);refine Ct.go (Ty.own_ok [16] aj) aa (N:=39) Tryz.func101 rfl rfl rfl rfl ?_;refine X2 (.own [] [(2,60)]) ?_;refine ⟨_,_,B5,?_⟩;refine X1 ((k:Int)-1) (wI rfl (by omega) (by omega)) ?_;refine tZ (r:=61) (k:=60) (i:=0) (sz:=1) rfl rfl rfl ?_;refine aw (Ty.own_ok [16] aj) aa (λi:Nat=>i≤k) (λi=>[(2,.c (.ad 2 0)),(5,.c (.ad 60 0)),(6,.c (eI .i64 ((i:Int)-1)))])
  (λi=>[(2,.var (nV v).cells),(60,.var [.ow 61 1 (needW (ca (v/2^i) (k-i)).length),nI .i64 (ca (v/2^i) (k-i)).length]),(61,.row 1 (aF .u64 (a9 (ca (v/2^i) (k-i)))))]) (λi=>i)
  k (by omega) ⟨rfl,rfl,rfl,HT⟩ ⟨rfl,by rw[Ha,show ca (v/2^k) 0=[] from rfl,show needW ([]:List Bool).length=0 from rfl]; rfl,by rw[Ha,show ca (v/2^k) 0=[] from rfl,uJ]; rfl,HT⟩ (λ_:Unit=>True) (λ_=>[(5,.c (.ad 60 0))]) (λ_=>[(60,.var [.ow 61 1 (needW (ca v k).length),nI .i64 (ca v k).length]),(61,.row 1 (aF .u64 (a9 (ca v k))))]) (λi hi=>?_) (λ_ _=>?_)
 ·refine ah (λh1=>?_) (λh1=>?_)
  ·obtain ⟨i,rfl⟩:∃ n,i=n+1:=⟨i-1,by omega⟩;have hb:v/2^i≤v:=FZ _ _;have hb2:v/2^i/2^1≤v/2^i:=FZ _ _;have lb:=gx (v:=v/2^i) (by omega) (by omega:j≤2000000);have lb2:=gx (v:=v/2^i/2^1) (by omega) (by omega:j≤2000000);have lb3:v/2^i/2^1*2^1≤v/2^i:=Nat.div_mul_le_self _ _;have lb4:v/2^i-v/2^i/2^1*2^1=v/2^i%2:=by rw[Nat.pow_one]; omega
   have hbits:ca (v/2^i) (k-i)=ca (v/2^(i+1)) (k-(i+1))++[decide (v/2^i%2=1)]:=by
    rw[show k-i=k-(i+1)+1 by omega,ca,FY,←Fj]
   have hbl:=gw (k-(i+1)) (v/2^(i+1));have hbt:(decide (v/2^i%2=1)).toNat=v/2^i%2:=by
    by_cases h:v/2^i%2=1
    ·rw[decide_eq_true h,h]; rfl
    ·rw[decide_eq_false h]; show 0=_; omega
   have hadd:=B6 (ca (v/2^(i+1)) (k-(i+1))) (decide (v/2^i%2=1)) (by omega);refine X1 _ (show Ct P 146 [nV v,.c (eI .i64 (((i+1:Nat):Int)-1))] [nV (v/2^i)] by rw[show ((i+1:Nat):Int)-1=(i:Int) by omega]; exact qA v i (by omega) (by omega)) ?_;refine X1 _ (qA (v/2^i) 1 (by omega) (by omega)) ?_;refine X1 _ (pI (v/2^i/2^1) 1 (by omega) (by omega)) ?_;refine X1 _ (u5 _ _ lb3 (by omega)) ?_;rw[lb4];refine .intro rfl ?_;refine X1 _ (B9 _ (by omega)) ?_;rw[←hbt];refine X2 (.own [(60,1000000),(61,1000001)] [(1000000,60),(200,61)]) ?_;refine ⟨_,_,hadd,?_⟩;refine X1 ((i:Int)-1) (wI (by omega) (by omega) (by omega)) ?_;rw[←hbits];exact ⟨i,by omega,by omega,⟨rfl,rfl,rfl,HT⟩,⟨rfl,rfl,rfl,HT⟩⟩
  ·have e:i=0:=by omega
   subst e;exact ⟨(),HT,⟨rfl,HT⟩,⟨by rw[GE,G7,Gy]; rfl,by rw[GE,G7,Gy]; rfl,HT⟩⟩
 ·exact ⟨HT,r1 rfl,HT⟩
theorem w8 (l:List Bool) (i:Nat) (hi:i<l.length):valB (l.take (i+1))=2*valB (l.take i)+(l.getD i false).toNat:=by
 rw[ER hi,p8,EK,Fc hi,Gk]
theorem uK (l:List Bool) (hl:l.length≤900000):Ct P 50 [.c (bP l)] [qP (o6 l)]:=by
 have hlt:=λi=>EW (nk (l.take i)) (EX (n:=2) (by omega) (show (l.take i).length≤l.length by rw[E3]; omega))
 refine Ct.go aj aa (N:=31) Tryz.func50 rfl rfl rfl rfl ?_;refine X1 _ (f0 0 (by omega)) ?_;refine X1 _ (dP l (by omega)) ?_;refine aw aj aa (λi:Nat=>i≤l.length) (λi=>[(0,.c (bP l)),(2,.c (.ad 2 0)),(3,.c (.ad 3 0)),(9,.c (nI .i64 l.length)),(10,.c (nI .i64 i))])
  (λi=>[(2,.var [.sc (.slice none 0 0),.sc (.slice none 0 0)]),(3,.var (nV (valB (l.take i))).cells)]) (λi=>l.length-i)
  0 (by omega) ⟨rfl,rfl,rfl,rfl,rfl,HT⟩ ⟨rfl,rfl,HT⟩ (λ_:Unit=>True) (λ_=>[(0,.c (bP l)),(2,.c (.ad 2 0)),(3,.c (.ad 3 0))]) (λ_=>[(2,.var [.sc (.slice none 0 0),.sc (.slice none 0 0)]),(3,.var (nV (valB l)).cells)]) (λi hi=>?_) (λ_ _=>?_)
 ·refine ah (λh1=>?_) (λh1=>?_)
  ·have hi':i<l.length:=by omega
   have hlen:=gx (hlt i) (by omega);have hb:(l.getD i false).toNat≤1:=by cases l.getD i false<;>decide
   have l2:=gx (v:=valB (l.take i)*2^1) (k:=l.length+1) (gy (hlt i)) (by omega);have l3:=gx (v:=(l.getD i false).toNat) (k:=1) (by omega) (by omega);have hv:valB (l.take i)*2^1+(l.getD i false).toNat=valB (l.take (i+1)):=by rw[w8 l i hi',Nat.pow_one]; omega
   refine X1 _ (pI _ 1 (by omega) (by omega)) ?_;refine X1 _ (B8 l i (by omega) hi') ?_;refine X1 _ (f0 _ (by omega)) ?_;refine X1 _ (mW _ _ (by omega) (by omega)) ?_;rw[hv];refine X1 ((i+1:Nat):Int) (wI1 (by omega)) ?_;exact ⟨i+1,by omega,by omega,⟨rfl,rfl,rfl,rfl,rfl,HT⟩,⟨rfl,rfl,HT⟩⟩
  ·have e:i=l.length:=by omega
   subst e;exact ⟨(),HT,⟨rfl,rfl,rfl,HT⟩,⟨rfl,by rw[Fp]; rfl,HT⟩⟩
 ·have h1:(1:Nat)<2^(l.length+1):=EW (by decide) (EX (n:=2) (by omega) (show 1≤l.length+1 by omega));have l1:=gx h1 (by omega);refine X1 _ (f0 1 (by omega)) ?_;refine X1 _ (dP l (by omega)) ?_;refine X1 _ (pI 1 l.length (by omega) (by omega)) ?_;rw[Fx];refine X1 _ (k6 (k:=l.length+1) (Nat.pos_iff_ne_zero.1 (FE _)) (EW (nk l) (EX (by omega) (by omega))) (Nat.pow_lt_pow_right (by omega) (by omega)) (by omega)) ?_;refine .intro rfl ?_;exact ⟨HT,rc rfl,HT⟩
theorem Ad {p:Fr2 × Fr2} {j k:Nat} (h:Bd j p.1):vK p k<2^(j+k+1):=by
 have h1:Bd (j+k) (p.1.1*2^k,p.1.2):=⟨h.pos,gy h.n,EW h.d (EX (by omega) (by omega))⟩;exact DE h1
theorem Ca {p:Fr2 × Fr2} {j k0:Nat} (h1:Bd j p.1) (h2:Bd j p.2) (hr:Nat.gcd p.1.1 p.1.2=1) (hc:IsCode p k0) (hj:j≤120000) (hk:k0≤300000):Ct P 47 [pA p] [.c (bP (ca (vK p k0) k0))]:=by
 have he:=dM h1 h2;refine Ct.go aj aa (N:=32) Tryz.func47 rfl rfl rfl rfl ?_;refine cn aj aa (λk:Nat=>k≤k0) (λk=>[(1,.c (.ad 1 0)),(3,.c (nI .i64 k))]) (λ_=>[(1,.var (pA p).cells)]) (λk=>k0-k)
  0 (by omega) ⟨rfl,rfl,HT⟩ ⟨rfl,HT⟩ (λk hk'=>?_)
 have ht:=tm (j:=k) h1;have hup:upF (fR (p.1.1*2^k) p.1.2)=vK p k:=DB h1.pos;have hv:=Ad (k:=k) h1;have hv1:vK p k+1<2^(j+k+2):=by rw[Fj]; omega
 have ho:(1:Nat)<2^(j+k+2):=EW (by decide) (EX (n:=2) (by omega) (show 1≤j+k+2 by omega));have lo:=gx ho (by omega);have lv:=gx hv (by omega);have hte:=tm (j:=k) he;have hw:fR (vK p k+1) 1=(vK p k+1,1):=vl (HA _);have hof:=k6 (k:=j+k+2) (n:=vK p k+1) (d:=1) (by omega) hv1 ho (by omega);rw[hw]at hof;have hcmp:=m8 (vK p k+1) 1 (fR ((bA p.1 p.2).1*2^k) (bA p.1 p.2).2).1 (fR ((bA p.1 p.2).1*2^k) (bA p.1 p.2).2).2 (cC (az hv1 (by omega)) (by omega)) (cC hte (by omega));rw[jq hte.pos,show dn 1=1 from rfl,F5]at hcmp;have hup2:=DF ht (by omega);rw[hup]at hup2;refine X1 _ (tn h1 (by omega)) ?_;refine X1 _ hup2 ?_;refine X1 _ (f0 1 (by omega)) ?_;refine X1 _ (mW _ _ (by omega) (by omega)) ?_;refine X1 _ (f0 1 (by omega)) ?_;refine X1 _ hof ?_;refine .intro rfl ?_;refine X1 _ (vG h1 h2 hr (by omega)) ?_;refine X1 _ (tn he (by omega)) ?_;refine X1 _ hcmp ?_;refine .intro rfl ?_;have hgood:good p k=true↔bI (((vK p k+1)*(fR ((bA p.1 p.2).1*2^k) (bA p.1 p.2).2).2:Nat):Int) (((fR ((bA p.1 p.2).1*2^k) (bA p.1 p.2).2).1:Nat):Int)≤0:=by
  unfold good gu;rw[decide_eq_true_eq,←Ec he.pos];unfold bI;split
  ·exact ⟨λ_=>by omega,λ_=>by omega⟩
  ·split
   ·exact ⟨λ_=>by omega,λ_=>by omega⟩
   ·exact ⟨λ_=>by omega,λ_=>by omega⟩
 refine ah (λh5=>?_) (λh5=>?_)
 ·have hg:=hgood.2 h5;have e:k=k0:=by
   rcases FB k k0 with h | h
   ·have:=hc.least k h; rw[hg]at this; cases this
   ·omega
  subst e;refine X1 _ (DK (vK p k) k (j+k+1) hv (by omega) (by omega)) ?_;exact ⟨HT,r1 rfl,HT⟩
 ·have hne:k≠k0:=λe=>h5 (hgood.1 (by rw[e]; exact hc.good))
  refine X1 ((k+1:Nat):Int) (wI (by simp) (by omega) (by omega)) ?_;exact ⟨k+1,by omega,by omega,⟨rfl,rfl,HT⟩,⟨rfl,HT⟩⟩
end
section
abbrev zP:Ob:=.var [.sc (.slice none 0 0),.sc (.slice none 0 0),.sc (.slice none 0 0),.sc (.slice none 0 0)]
abbrev rA (p:Fr2 × Fr2):A1:=.ag [dV p.1.1,dV p.1.2,dV p.2.1,dV p.2.2]
theorem Cb {a b:Nat}:kP a b≤0↔a≤b:=by
 unfold kP;split
 ·exact ⟨λ_=>by omega,λ_=>by omega⟩
 ·split<;>exact ⟨λ_=>by omega,λ_=>by omega⟩
theorem w9 {p:Fr2 × Fr2} {j k0:Nat} (h1:Bd j p.1) (h2:Bd j p.2) (hc:IsCode p k0) (hj:j≤120000) (hk:k0<4096):Ct P 22 [rA p] [.c (bSl (ca (vK p k0) k0))]:=by
 have he:=dM h1 h2;refine Ct.go (Ty.own_ok [1000001] aj) aa (N:=39) Tryz.func22 rfl rfl rfl rfl ?_;refine X1 _ (iZ h1 h2 (by omega) (by omega)) ?_;refine jH (λk:Nat=>k≤k0) (λk=>[(1,.c (.ad 1 0)),(3,.c (.ad 3 0)),(4,.c (nI .i64 k))]) (λ_=>[(1,.var (rA p).cells),(3,.var (rP (gu p)).cells)]) (λk=>k0-k)
  0 (by omega) ⟨rfl,rfl,rfl,HT⟩ ⟨rfl,rfl,HT⟩ (λ_:Unit=>False) (λ_=>[]) (λ_=>[]) (λk hk'=>?_) (λ_ h=>h.elim)
 have hv:=Ad (k:=k) h1;have l1:=o7 (v:=p.1.1*2^k) (k:=j+k) (gy h1.n) (by omega);have l2:=o7 h1.d (by omega);have l3:=o7 hv (by omega);have l4:=o7 he.d (by omega);have l5:=o7 he.n (by omega);have l6:=o7 (v:=(bA p.1 p.2).1*2^k) (k:=j+j+1+k) (gy he.n) (by omega);have l7:=o7 h1.n (by omega);have hv1:vK p k+1<2^(j+k+2):=by rw[Fj]; omega
 have l8:=o7 hv1 (by omega);have l9:=o7 (fJ hv1 he.d) (by omega);have hadd:=ot (vK p k) 1 (by omega) (by rw[wz]; decide);rw[show dV 1 = .sl 1 [[eI .i64 1]] by rw[dV,wz]; rfl]at hadd;have hup:Ct P 57 [.c (dV (p.1.1*2^k)),.c (dV p.1.2)] [.c (dV (vK p k))]:=B2 h1.pos (by omega) (by omega);refine jG ?_;refine dI (Ty.own_ok [1000001] aj) aa ?_;refine kH (b:=decide ((k:Int)<4096)) rfl (λ_=>?_) (λe=>?_)
 ·refine mw ?_;refine bK (Ty.own_ok [1000001] aj) aa ?_;refine X1 _ (vH p.1.1 k (by omega) (by omega)) ?_;refine X1 _ hup ?_;refine .intro rfl ?_;refine X1 _ hadd ?_;refine X1 _ (eG (vK p k+1) (gu p).2 (by omega) (by show (dg 256 (bA p.1 p.2).2).length≤_; omega)) ?_;refine X1 _ (vH (gu p).1 k (by show (dg 256 (bA p.1 p.2).1).length≤_; omega) (by omega)) ?_;refine X1 _ (uv _ _ (by show (dg 256 ((vK p k+1)*(bA p.1 p.2).2)).length≤_; omega) (by show (dg 256 ((bA p.1 p.2).1*2^k)).length≤_; omega)) ?_;refine .intro rfl ?_;have hgood:good p k=true↔kP ((vK p k+1)*(gu p).2) ((gu p).1*2^k)≤0:=by
   unfold good;rw[decide_eq_true_eq,Cb]
  refine ah (λh5=>?_) (λh5=>?_)
  ·have hg:=hgood.2 h5;have e:k=k0:=by
    rcases FB k k0 with h | h
    ·have:=hc.least k h; rw[hg]at this; cases this
    ·omega
   subst e;refine X1 _ (wQ (vK p k) k (by omega) (by omega)) ?_;exact ⟨HT,r1 rfl,HT⟩
  ·have hne:k≠k0:=λe=>h5 (hgood.1 (by rw[e]; exact hc.good))
   refine X1 ((k+1:Nat):Int) (wI (by simp) (by omega) (by omega)) ?_;exact ⟨k+1,by omega,by omega,⟨rfl,rfl,rfl,HT⟩,⟨rfl,rfl,HT⟩⟩
 ·exfalso;have:=of_decide_eq_false e;omega
section
variable {Lc:List (List Cnt)} {n B:Nat}
theorem Ae (hB:SB Lc n B) (H:List Int) (hl:H.length≤1000000) (w:Nat) (hw:w≤n):Ct P 54 [rM Lc n,.c (iSl H),.c (nI .i64 w)] [rA (cF Lc n H w)]:=by
 have h6:=hB.x.w6;have hb:=hB.b;have h0:dV 0=nSl .i64 []:=by rw[dV,ba]
 refine Ct.go aj aa (N:=29) Tryz.func54 rfl rfl rfl rfl ?_;refine X1 _ (aI 0 (by omega)) ?_;refine X1 _ (s8 hB.x H hl w) ?_;refine .intro rfl ?_;refine aw aj aa (λv:Nat=>v≤w) (λv=>[(1,.c (iSl H)),(2,.c (nI .i64 w)),(3,.c (.ad 3 0)),(6,.c (.ad 6 0)),(7,.c (.ad 7 0)),(8,.c (nI .i64 v))])
  (λv=>[(6,zP),(3,.var (rM Lc n).cells),(7,.var (rA (bC Lc n H v,br Lc n H w)).cells)]) (λv=>w-v)
  0 (by omega) ⟨rfl,rfl,rfl,rfl,rfl,rfl,HT⟩ ⟨rfl,rfl,rfl,HT⟩ (λ_:Unit=>True) (λ_=>[(6,.c (.ad 6 0)),(7,.c (.ad 7 0))]) (λ_=>[(6,zP),(7,.var (rA (cF Lc n H w)).cells)]) (λv hv=>?_) (λ_ _=>?_)
 ·refine ah (λh1=>?_) (λh1=>?_)
  ·refine X1 _ (s8 hB.x H hl v) ?_;refine X1 _ (iZ (hB.sum H (w:=v) (by omega)) (hB.prob H (v:Int)) (by omega) (by omega)) ?_;refine .intro rfl ?_;refine X1 ((v+1:Nat):Int) (wI (by simp) (by omega) (by omega)) ?_;exact ⟨v+1,by omega,by omega,⟨rfl,rfl,rfl,rfl,rfl,rfl,HT⟩,⟨rfl,rfl,rfl,HT⟩⟩
  ·have e:v=w:=by omega
   subst e;exact ⟨(),HT,⟨rfl,rfl,HT⟩,⟨rfl,by unfold cF; rw[Fi]; rfl,HT⟩⟩
 ·exact ⟨HT,rc rfl,HT⟩
end
end
section
section
variable {Lc:List (List Cnt)} {n B:Nat}
set_option maxHeartbeats 2000000 in
theorem uL (hB:SB Lc n B) (ids:List Int) (hw:InW n ids) (hl:ids.length≤25) (els:List (List PC)) (hels:els=aC ids) (m:Nat) (hm:m=ids.length) :
  CtO P 21 [(1000002,some (.row 1 els))] [rM Lc n,.c (.ow 1000002 1 m)] [(1000002,some (.row 1 els))] [rA (bv Lc n ids)]:=by
 subst hels hm;have hb:=hB.b;refine Ct.io aj aa (N:=50) Tryz.func21 rfl rfl rfl rfl ?_;refine X1 _ (aI 0 (by omega)) ?_;refine X1 _ (aI 1 (by omega)) ?_;refine ul [12] ?_;refine bK aj aa ?_;refine jH (λi:Nat=>i≤ids.length) (λi=>[(1,.c (.ow 1000002 1 ids.length)),(2,.c (.ad 2 0)),(4,.c (.ad 4 0)),(5,.c (.ad 5 0)),(6,.c (iSl ([1]++ids.take i))),(7,.c (nI .i64 i))])
  (λi=>[(1000002,.row 1 (aC ids)),(4,zP),(2,.var (rM Lc n).cells),(5,.var (rA (bv Lc n (ids.take i))).cells)]) (λi=>ids.length-i)
  0 (by omega) ⟨rfl,rfl,rfl,rfl,rfl,rfl,HT⟩ ⟨rfl,rfl,rfl,rfl,HT⟩ (λ_:Unit=>True) (λ_=>[(4,.c (.ad 4 0)),(5,.c (.ad 5 0))]) (λ_=>[(1000002,.row 1 (aC ids)),(4,zP),(5,.var (rA (bv Lc n ids)).cells)]) (λi hi=>?_) (λ_ _=>?_)
 ·refine jG ?_;refine dI aj aa ?_;refine .intro (by omega) ?_;refine kH (b:=decide ((i:Int)<(ids.length:Int))) rfl (λe=>?_) (λe=>?_)
  ·have hi':i<ids.length:=by have:=of_decide_eq_true e; omega
   have hst:=jh (Lc:=Lc) (n:=n) ids i hi';have htk:ids.take (i+1)=ids.take i++[ids[i]]:=ER hi';obtain ⟨w0,w1⟩:=hw ids[i] (EY hi');have hsi:(aC ids)[(i:Int).toNat]? = some [eI .i64 ids[i]]:=by rw[Fi]; simp[aC,hi']
   obtain ⟨w,hwe⟩:∃ w:Nat,ids[i]=(w:Int):=⟨ids[i].toNat,by omega⟩;rw[hwe]at hst htk hsi w1;obtain ⟨b1,b2,_⟩:=ra hB hw i (by omega);have hpa:Bd B (cF Lc n ([1]++ids.take i) (w:Int)).1:=by unfold cF; rw[Fi]; exact hB.sum _ (by omega)
   have hpb:Bd B (cF Lc n ([1]++ids.take i) (w:Int)).2:=hB.prob _ _;have hBi:B*i≤4000*25:=FQ hb (by omega);have hlen:([1]++ids.take i).length=i+1:=by rw[EL,E3]; show 1+_=_; omega
   refine mw ?_;refine jG ?_;refine gU ?_;refine bK aj aa ?_;refine .intro (by omega) (.intro (by omega) (X1 _ hsi ?_));refine X1 _ (Ae hB ([1]++ids.take i) (by omega) w (by omega)) ?_;refine .intro rfl ?_;refine X1 _ (dN b2 hpa (by omega) (by omega)) ?_;refine X1 _ (iZ b1 (bh b2 hpa) (by omega) (by omega)) ?_;refine X1 _ (dN b2 hpb (by omega) (by omega)) ?_;refine .intro rfl ?_;refine ⟨rfl,by rw[ac,hlen]; show (0+(i+1)+768)*8≤_; omega,by rw[ac,hlen]; show 0+(i+1)≤_; omega,bj,aQ,?_⟩;refine .intro (by omega) (.intro (by omega) (X1 _ hsi ?_));refine g9 (by rfl) (by show (aC ([1]++ids.take i)).length+1≤_; rw[ac,hlen]; omega) (by decide) aQ (aq rfl) ?_;refine .intro rfl ?_;refine ul [40] ?_;refine bK aj aa ?_;refine X1 ((i+1:Nat):Int) (wI1 (by omega)) ?_;refine ⟨i+1,by omega,by omega,⟨rfl,rfl,rfl,rfl,?_,rfl,HT⟩,⟨rfl,rfl,rfl,?_,HT⟩⟩
   ·rw[htk,←Hh,show iSl ([1]++ids.take i++[(w:Int)]) = .sl 1 (aC ([1]++ids.take i)++[[eI .i64 w]]) by simp[aC]];rfl
   ·rw[hst]; rfl
  ·have e1:i=ids.length:=by have:=of_decide_eq_false e; omega
   subst e1;rw[Fp];exact bK aj aa ⟨(),HT,⟨rfl,rfl,HT⟩,⟨rfl,rfl,rfl,HT⟩⟩
 ·exact bK aj aa ⟨HT,SubO.of (l:=[(1000002,.row 1 (aC ids))]) ⟨rfl,HT⟩,rc rfl,HT⟩
end
end
section
def inB (n:Nat) (w:Int):Bool:=decide (0≤w)&&decide (w<n)
theorem inB_iff {n:Nat} {ids:List Int}:ids.all (inB n)=true↔InW n ids:=by
 unfold inB InW;rw[FI];simp
def mK (n:Nat) (ids:List Int):Int:=if ids.length>64 then 5 else if ids.all (inB n)=true then 0 else 8
theorem Af {n:Nat} {ids:List Int} (h:mK n ids=0):ids.length≤64∧InW n ids:=by
 unfold mK at h;split at h
 ·omega
 ·split at h
  ·rename_i h1 h2; exact ⟨by omega,inB_iff.1 h2⟩
  ·omega
section
variable {Lc:List (List Cnt)} {n B:Nat}
theorem uM (hx:XOk Lc n) (ids:List Int) (hl:ids.length≤1000000):CtO P 43 (xE Lc n) [.c (.ad 1000000 0),.c (iSl ids)] (xE Lc n) [.c (eI .i64 (mK n ids))]:=by
 have h6:=hx.w6;refine Ct.io aj aa (N:=29) Tryz.func43 rfl rfl rfl rfl ?_;refine .intro (by rw[ac]; omega) ?_;rw[ac];refine ah (λh1=>?_) (λh1=>?_)
 ·exact ⟨HT,c8 (l:=[]) rfl rfl rfl trivial,r1 (iE (by rw[mK,if_pos (by omega)])),HT⟩
 refine .intro (by rw[ac]; omega) ?_;rw[ac];refine aw aj aa (λi:Nat=>i≤ids.length∧(ids.take i).all (inB n)=true) (λi=>[(0,.c (.ad 1000000 0)),(14,.c (iSl ids)),(15,.c (nI .i64 ids.length)),(16,.c (nI .i64 i))]) (λ_=>[(1000000,xC Lc n 1000001),(1000001,.me false (MOk Lc))]) (λi=>ids.length-i)
  0 ⟨by omega,rfl⟩ ⟨rfl,rfl,rfl,rfl,HT⟩ ⟨rfl,rfl,HT⟩ (λ_:Unit=>ids.all (inB n)=true) (λ_=>[]) (λ_=>[(1000000,xC Lc n 1000001),(1000001,.me false (MOk Lc))]) (λi hi=>?_) (λ_ hp=>?_)
 ·obtain ⟨i1,i2⟩:=hi;refine ah (λh2=>?_) (λh2=>?_)
  ·have hi':i<ids.length:=by omega
   have hget:(aC ids)[((i:Nat):Int).toNat]? = some [eI .i64 ids[i]]:=by rw[Fi]; simp[aC,hi']
   have hts:ids.take (i+1)=ids.take i++[ids[i]]:=ER hi';have hbad:inB n ids[i]=false→mK n ids=8:=λhb=>by
    rw[mK,if_neg (by omega),if_neg];intro ha;rw[FI]at ha;rw[ha _ (EY hi')]at hb; cases hb
   refine .intro (by omega) (X1 _ hget ?_);generalize ids[i]=w at *
   refine ah (λh3=>?_) (λh3=>?_)
   ·exact ⟨HT,c8 (l:=[]) rfl rfl rfl trivial,r1 (iE (by rw[hbad (by unfold inB; rw[decide_eq_false (by omega)]; rfl)])),HT⟩
   ·refine X2 (.own σx σx) ?_;refine ⟨_,_,gA,?_⟩;refine ah (λh4=>?_) (λh4=>?_)
    ·exact ⟨HT,c8 (l:=[]) rfl rfl rfl trivial,r1 (iE (by rw[hbad (by unfold inB; rw[decide_eq_false (show ¬ w<(n:Int) by omega),Hy])])),HT⟩
    ·refine X1 ((i+1:Nat):Int) (wI1 (by omega)) ?_;refine ⟨i+1,⟨by omega,?_⟩,by omega,⟨rfl,rfl,rfl,rfl,HT⟩,⟨rfl,rfl,HT⟩⟩;rw[hts,List.all_append,i2];simp[inB]; omega
  ·have e:i=ids.length:=by omega
   subst e;rw[Fp]at i2;exact ⟨(),i2,HT,⟨rfl,rfl,HT⟩⟩
 ·exact ⟨HT,c8 (l:=[]) rfl rfl rfl trivial,r1 (iE (by rw[mK,if_neg (by omega),if_pos hp])),HT⟩
noncomputable def kOf (p:Fr2 × Fr2):Nat:=by classical exact if h:∃ k,IsCode p k then h.choose else 0
theorem Ag {p:Fr2 × Fr2} {k:Nat} (h:IsCode p k):kOf p=k:=by
 have hx:∃ k,IsCode p k:=⟨k,h⟩;unfold kOf;rw[dif_pos hx];exact hx.choose_spec.uniq h
theorem np {p:Fr2 × Fr2} {j:Nat} (h1:Bd j p.1) (h2:Bd j p.2) (h0:p.2.1≠0):IsCode p (kOf p)∧kOf p≤j+1:=by
 have b2:(0:Rat)<p.2.2:=Gw.2 (Fl h2.pos);have hg:good p (j+1)=true:=by
  refine B1 h1.pos h2.pos ?_;have e:((2^(j+1):Nat):Rat)*qv p.2=(((2^(j+1):Nat):Rat)*p.2.1)/p.2.2:=by unfold qv; grind
  rw[e,gZ b2];have h3:2*p.2.2≤2^(j+1)*p.2.1:=by
   have:=h2.d;have h4:2^(j+1)*1≤2^(j+1)*p.2.1:=FF _ (by omega);rw[Fj]at h4 ⊢;omega
  have:=Gs.2 h3;simp only[FP]at this;exact this
 obtain ⟨k,hk,hc⟩:=z0 hg;rw[Ag hc];exact ⟨hc,hk⟩
def dx (Lc:List (List Cnt)) (n:Nat) (ids:List Int):Fr2 × Fr2:=bv Lc n (ids++[2])
noncomputable def encB (Lc:List (List Cnt)) (n:Nat) (ids:List Int):List Bool:=ca (vK (dx Lc n ids) (kOf (dx Lc n ids))) (kOf (dx Lc n ids))
def hG (Lc:List (List Cnt)) (n:Nat) (ids:List Int):Int:=if mK n ids≠0 then mK n ids else if idx 1 ids≥0∨idx 2 ids≥0 then 1 else if (dx Lc n ids).2.1=0 then 7 else 0
noncomputable def encR (Lc:List (List Cnt)) (n:Nat) (ids:List Int):A1:=if hG Lc n ids=0 then .c (bP (encB Lc n ids)) else oU
theorem Ah {ids:List Int} (h:hG Lc n ids=0):ids.length≤64∧InW n ids∧idx 1 ids<0∧idx 2 ids<0∧(dx Lc n ids).2.1≠0:=by
 unfold hG at h;split at h
 ·rename_i h1; exact absurd h h1
 ·rename_i h1;obtain ⟨a1,a2⟩:=Af (by omega:mK n ids=0);split at h
  ·omega
  ·split at h
   ·omega
   ·rename_i h2 h3;exact ⟨a1,a2,by omega,by omega,h3⟩
theorem k9 (hB:SB Lc n B) (h2:2<n) {ids:List Int} (hw:InW n ids):Bd (1+B*(ids.length+1)) (dx Lc n ids).1∧Bd (1+B*(ids.length+1)) (dx Lc n ids).2∧Nat.gcd (dx Lc n ids).1.1 (dx Lc n ids).1.2=1:=by
 have hw2:InW n (ids++[2]):=λx hx=>by
  rcases Fu.1 hx with hx | hx
  ·exact hw x hx
  ·simp at hx; subst hx; omega
 have:=ra hB hw2 (ids.length+1) (by simp);rw[Fs (by simp)]at this;exact this
theorem tC (ids:List Int):(encB Lc n ids).length=kOf (dx Lc n ids):=gw _ _
theorem jj (hB:SB Lc n B) (h2:2<n) (ids:List Int) (hl:ids.length≤24):CtO P 13 (xE Lc n) [.c (.ad 1000000 0),.c (iSl ids)] (xE Lc n) [encR Lc n ids,.c (eI .i64 (hG Lc n ids))]:=by
 have hb:=hB.b;refine Ct.keep (Ty.own_ok [46] aj) aa [] (N:=31) Tryz.func13 rfl rfl rfl rfl ?_;refine X2 (.own σx σx) ?_;refine ⟨_,_,uM hB.x ids (by omega),?_⟩;refine dE (λh1=>?_) (λh1=>?_)
 ·have e:hG Lc n ids=mK n ids:=if_pos h1;have e2:encR Lc n ids=oU:=if_neg (by rw[e]; exact h1);rw[e,e2];exact ⟨HT,c8 (l:=[]) rfl rfl rfl trivial,r1 rfl,r1 rfl,HT⟩
 obtain ⟨_,hw⟩:=Af h1;have e0:hG Lc n ids=if idx 1 ids≥0∨idx 2 ids≥0 then 1 else if (dx Lc n ids).2.1=0 then 7 else 0:=if_neg (by omega)
 refine X1 _ (iy ids 1 (by omega)) ?_;refine ah (λh3=>?_) (λh3=>?_)
 ·rw[if_pos (.inl h3)]at e0;have e2:encR Lc n ids=oU:=if_neg (by rw[e0]; decide);rw[e0,e2];exact ⟨HT,c8 (l:=[]) rfl rfl rfl trivial,r1 rfl,r1 rfl,HT⟩
 refine X1 _ (iy ids 2 (by omega)) ?_;refine ah (λh4=>?_) (λh4=>?_)
 ·rw[if_pos (.inr h4)]at e0;have e2:encR Lc n ids=oU:=if_neg (by rw[e0]; decide);rw[e0,e2];exact ⟨HT,c8 (l:=[]) rfl rfl rfl trivial,r1 rfl,r1 rfl,HT⟩
 rw[if_neg (by omega)]at e0;have hw2:InW n (ids++[2]):=λx hx=>by
  rcases Fu.1 hx with hx | hx
  ·exact hw x hx
  ·simp at hx; subst hx; omega
 obtain ⟨b1,b2,b3⟩:=k9 hB h2 hw;have hBl:B*(ids.length+1)≤4000*25:=FQ hb (by omega);refine X2 (.own [] [(5,68)]) ?_;refine ⟨_,_,lP ids (by omega),?_⟩;refine ⟨by rw[ac],by rw[ac]; show (ids.length+1+768)*8≤_; omega,by rw[ac]; show ids.length+1≤_; omega,aQ,aq rfl,?_⟩;refine X2 (.own [(1000000,1000000),(1000001,1000001),(68,1000002)] [(1000000,1000000),(1000001,1000001),(1000002,68)]) ?_;refine ⟨_,_,Ab hB (ids++[2]) hw2 (by simp; omega) _ (by simp[aC]; rfl) _ (by show ((aC ids)++_).length=_; simp[aC]),?_⟩;refine X1 _ (kO _ _ (EQ (gx b2.n (by omega)) (by omega))) ?_;refine aP (λh5=>?_) (λh5=>?_)
 ·have h6:(bv Lc n (ids++[2])).2.1=0:=by simpa using h5
  rw[if_pos (show (dx Lc n ids).2.1=0 from h6)]at e0;have e2:encR Lc n ids=oU:=if_neg (by rw[e0]; decide);rw[e0,e2];exact ⟨HT,c8 (l:=[]) rfl rfl rfl trivial,r1 rfl,r1 rfl,HT⟩
 ·have h6:(dx Lc n ids).2.1≠0:=λh=>by
   have:(bv Lc n (ids++[2])).2.1=0:=h;rw[this]at h5; simp at h5
  rw[if_neg h6]at e0;have e2:encR Lc n ids = .c (bP (encB Lc n ids)):=if_pos e0;obtain ⟨c1,c2⟩:=np b1 b2 h6;rw[e0,e2];refine X1 _ (Ca b1 b2 b3 c1 (by omega) (by omega)) ?_;exact ⟨HT,c8 (l:=[]) rfl rfl rfl trivial,r1 rfl,r1 rfl,HT⟩
end
end
section
def plB (w:Int):Bool:=w != 1&&w != 2
theorem tD {f:Int→Bool} (l:List Int) (i:Nat) (h:i<l.length):(l.take (i+1)).all f=((l.take i).all f&&f l[i]):=by
 rw[ER h,List.all_append]; simp
theorem Cc {l:List Int} {i:Nat} (h:i<l.length):(aC l)[(i:Int).toNat]? = some [eI .i64 l[i]]:=by rw[Fi]; simp[aC,h]
theorem uN (ids:List Int) (n:Nat) (hl:ids.length≤1000000):Ct P 20 [.c (iSl ids),.c (nI .i64 n)] [.c (.sc (.bool (ids.all (inB n)))),.c (.sc (.bool (ids.all plB)))]:=by
 refine Ct.go aj aa (N:=48) Tryz.func20 rfl rfl rfl rfl ?_;refine jH (λi:Nat=>i≤ids.length) (λi=>[(0,.c (iSl ids)),(1,.c (nI .i64 n)),(6,.c (.sc (.bool ((ids.take i).all (inB n))))),(7,.c (.sc (.bool ((ids.take i).all plB)))),(8,.c (nI .i64 i))]) (λ_=>[]) (λi=>ids.length-i)
  0 (by omega) ⟨rfl,rfl,rfl,rfl,rfl,HT⟩ HT (λ_:Unit=>True) (λ_=>[(6,.c (.sc (.bool (ids.all (inB n))))),(7,.c (.sc (.bool (ids.all plB))))]) (λ_=>[]) (λi hi=>?_) (λ_ _=>?_)
 ·refine jG ?_;refine dI aj aa ?_;refine .intro (by rw[ac]; omega) ?_;rw[ac];refine kH (b:=decide ((i:Int)<(ids.length:Int))) rfl (λe=>?_) (λe=>?_)
  ·have hi':i<ids.length:=by have:=of_decide_eq_true e; omega
   have a1:=tD (f:=inB n) ids i hi';have a2:=tD (f:=plB) ids i hi';have hg:=Cc hi';generalize ids[i]=w at *
   generalize (ids.take i).all (inB n)=r at *
   generalize (ids.take i).all plB=q at *
   refine mw ?_;refine jG ?_;refine gU ?_;refine mH aj aa (G2:=Unit) (λ_=>True) (λ_=>[(0,.c (iSl ids)),(1,.c (nI .i64 n)),(6,.c (.sc (.bool (r&&inB n w)))),(7,.c (.sc (.bool q))),(8,.c (nI .i64 i))]) (λ_=>[]) ?_ (λ_ _=>?_)
   ·refine aP (λh1=>?_) (λh1=>?_)
    ·refine .intro (by omega) (X1 _ hg ?_);refine ah (λh2=>?_) (λh2=>?_)
     ·refine .intro (by omega) (X1 _ hg ?_);exact ⟨(),HT,⟨rfl,rfl,boE (by rw[h1,Hq,inB,decide_eq_true (show 0≤w from h2),Hq]),rfl,rfl,HT⟩,HT⟩
     ·exact ⟨(),HT,⟨rfl,rfl,boE (by rw[h1,inB,decide_eq_false (show ¬ 0≤w from h2)]; rfl),rfl,rfl,HT⟩,HT⟩
    ·exact ⟨(),HT,⟨rfl,rfl,boE (by rw[h1]; rfl),rfl,rfl,HT⟩,HT⟩
   ·refine bK aj aa ?_;refine aP (λh1=>?_) (λh1=>?_)
    ·rw[h1,Hq]at a2;refine .intro (by omega) (X1 _ hg ?_);refine dE (λh2=>?_) (λh2=>?_)
     ·refine .intro (by omega) (X1 _ hg ?_);refine bK aj aa ?_;refine X1 ((i+1:Nat):Int) (wI1 (by omega)) ?_;exact ⟨i+1,by omega,by omega,⟨rfl,rfl,boE a1.symm,boE (by rw[a2,plB,bne_iff_ne.2 h2,Hq]),rfl,HT⟩,HT⟩
     ·refine bK aj aa ?_;refine X1 ((i+1:Nat):Int) (wI1 (by omega)) ?_;exact ⟨i+1,by omega,by omega,⟨rfl,rfl,boE a1.symm,boE (by rw[a2,h2]; rfl),rfl,HT⟩,HT⟩
    ·rw[h1,HK]at a2;refine bK aj aa ?_;refine X1 ((i+1:Nat):Int) (wI1 (by omega)) ?_;exact ⟨i+1,by omega,by omega,⟨rfl,rfl,boE a1.symm,boE a2.symm,rfl,HT⟩,HT⟩
  ·have e1:i=ids.length:=by have:=of_decide_eq_false e; omega
   subst e1;rw[Fp];exact bK aj aa ⟨(),HT,⟨rfl,rfl,HT⟩,HT⟩
 ·exact bK aj aa ⟨HT,r1 rfl,r1 rfl,HT⟩
theorem Cd {l:List Bool} {i:Nat} (h:i<l.length):(bRw l)[(i:Int).toNat]? = some [.sc (.bool (l.getD i false))]:=by rw[Fi]; simp[bRw,h]
theorem Ai (l:List Bool) (i:Nat) (hl:l.length≤1000000):Ct P 109 [.c (bSl l),.c (nI .i64 i)] [.c (.sc (.bool (l.getD i false)))]:=by
 refine Ct.go aj aa (N:=19) Tryz.func109 rfl rfl rfl rfl ?_;refine .intro (by rw[c5]; omega) ?_;rw[c5];refine ah (λh=>?_) (λh=>?_)
 ·refine .intro (by omega) (X1 _ (Cd (by omega)) ?_);exact ⟨HT,r1 rfl,HT⟩
 ·exact ⟨HT,r1 (boE (by rw[EK,E7 (by omega)]; rfl)),HT⟩
theorem Aj (l:List Bool) (k i:Nat) (hi:i<64) (h0:64*k≤l.length):l.getD (64*k+i) false=decide (bD l k/2^i%2=1):=by
 rw[EK];by_cases h:64*k+i<l.length
 ·rw[gC h,show (64*k+i)/64=k by omega,show (64*k+i)%64=i by omega]; rfl
 ·have h1:=jO h0 (by omega);have h2:2^(l.length-64*k)≤2^i:=EX (by omega) (by omega);rw[E7 (by omega),Ge (by omega)]; rfl
theorem Ej {i:Nat} (h:i<64):IntKind.u64.wrap (((2^i%18446744073709551616:Nat):Int)*2)=((2^(i+1)%18446744073709551616:Nat):Int):=by
 by_cases e:i=63
 ·subst e; rfl
 ·have h1:2^(i+1)≤2^63:=EX (by omega) (by omega);have h2:(2:Nat)^63=9223372036854775808:=rfl;have h3:(2:Nat)^(i+1)=2^i*2:=Fj ..;rw[Fg (by omega),Fg (by omega)];exact wU (by omega) (by omega) (by omega)
theorem Ak (l:List Bool) (k:Nat) (hl:l.length≤1000000) (hk:64*k<l.length):Ct P 64 [.c (bSl l),.c (nI .i64 (64*k)),.c (eI .i64 64)] [.c (nI .u64 (bD l k))]:=by
 have hwl:=k8 l k;refine Ct.go aj aa (N:=40) Tryz.func64 rfl rfl rfl rfl ?_;refine jH (λi:Nat=>i≤64) (λi=>[(0,.c (bSl l)),(1,.c (nI .i64 (64*k))),(2,.c (eI .i64 64)),(7,.c (nI .u64 (bD l k%2^i))),(8,.c (nI .u64 (2^i%18446744073709551616))),(9,.c (nI .i64 i))]) (λ_=>[]) (λi=>64-i)
  0 (by omega) ⟨rfl,rfl,rfl,iE (by rw[GE,Nat.mod_one]; rfl),rfl,rfl,HT⟩ HT (λ_:Unit=>True) (λ_=>[(7,.c (nI .u64 (bD l k)))]) (λ_=>[]) (λi hi=>?_) (λ_ _=>?_)
 ·refine jG ?_;refine dI aj aa ?_;refine ah (λh1=>?_) (λh1=>?_)
  ·refine kH (b:=decide ((i:Int)<64)) rfl (λ_=>?_) (λe=>absurd h1 (of_decide_eq_false e));have hi':i<64:=by omega
   have hw:=Aj l k i hi' (by omega);have hms:bD l k%2^(i+1)=bD l k%2^i+2^i*(bD l k/2^i%2):=Nat.mod_pow_succ;have hp1:2^i≤2^63:=EX (by omega) (by omega);have hp2:(2:Nat)^63=9223372036854775808:=rfl;have hp3:(2:Nat)^(i+1)=2^i*2:=Fj ..;have hml:bD l k%2^i<2^i:=FM _ (FE _);refine mw ?_;refine jG ?_;refine gU ?_;refine bK aj aa ?_;refine .intro (by rw[c5]; omega) ?_;rw[c5];refine ah (λh2=>?_) (λh2=>absurd (by omega) h2);refine X1 ((64*k+i:Nat):Int) (wI (by omega) (by omega) (by omega)) ?_;refine X1 _ (Ai l (64*k+i) hl) ?_;rw[hw];refine ah (λhb=>?_) (λhb=>?_)
   ·refine X1 ((bD l k%2^(i+1):Nat):Int) (wU (by rw[hms,hb,F5,Fg (show 2^i<18446744073709551616 by omega)]; rfl) (by omega) (by omega)) ?_;refine X1 ((2^(i+1)%18446744073709551616:Nat):Int) (Ej hi') ?_;refine bK aj aa ?_;refine X1 ((i+1:Nat):Int) (wI1 (by omega)) ?_;exact ⟨i+1,by omega,by omega,⟨rfl,rfl,rfl,rfl,rfl,rfl,HT⟩,HT⟩
   ·refine X1 ((2^(i+1)%18446744073709551616:Nat):Int) (Ej hi') ?_;refine bK aj aa ?_;refine X1 ((i+1:Nat):Int) (wI1 (by omega)) ?_;exact ⟨i+1,by omega,by omega,⟨rfl,rfl,rfl,iE (by rw[hms,show bD l k/2^i%2=0 by omega]; rfl),rfl,rfl,HT⟩,HT⟩
  ·refine kH (b:=false) rfl (λe=>by cases e) (λ_=>?_);have e:i=64:=by omega
   subst e;exact bK aj aa ⟨(),HT,⟨iE (by rw[Fg hwl]),HT⟩,HT⟩
 ·exact bK aj aa ⟨HT,r1 rfl,HT⟩
theorem uO (l:List Bool) (hl:l.length≤1000000):Ct P 25 [.c (bSl l)] [.c (nSl .u64 (a9 l))]:=by
 have hnl:=eX l.length;refine Ct.go aj aa (N:=18) Tryz.func25 rfl rfl rfl rfl ?_;refine ii (r:=50) (t:=3) (sz:=1) rfl rfl ?_;refine aw aj aa (λk:Nat=>k≤needW l.length) (λk=>[(0,.c (bSl l)),(3,.c (.ow 50 1 k)),(4,.c (nI .i64 (64*k)))]) (λk=>[(50,.row 1 (aF .u64 ((List.range k).map (bD l))))]) (λk=>needW l.length-k)
  0 (by omega) ⟨rfl,rfl,rfl,HT⟩ ⟨rfl,HT⟩ (λ_:Unit=>True) (λ_=>[(3,.c (.ow 50 1 (needW l.length)))]) (λ_=>[(50,.row 1 (aF .u64 (a9 l)))]) (λk hk=>?_) (λ_ _=>?_)
 ·have hnw:needW l.length=l.length/64+min (l.length%64) 1:=rfl;refine .intro (by rw[c5]; omega) ?_;rw[c5];refine ah (λh=>?_) (λh=>?_)
  ·refine X1 _ (Ak l k hl (by omega)) ?_;refine ko (by simp) (by simp; omega) fo ?_;refine X1 ((64*(k+1):Nat):Int) (wI (by omega) (by omega) (by omega)) ?_;refine ⟨k+1,by omega,by omega,⟨rfl,owE (by simp[aF]),rfl,HT⟩,⟨aB (by rw[HG,FW,←gk]; rfl),HT⟩⟩
  ·have e:k=needW l.length:=by omega
   subst e;exact ⟨(),HT,⟨rfl,HT⟩,⟨rfl,HT⟩⟩
 ·exact ⟨HT,r1 rfl,HT⟩
theorem xa (l:List Nat) (hl:l.length≤1000000):Ct P 23 [.c (nSl .u64 l),.c (nSl .u64 l)] [.c (.sc (.bool true))]:=by
 refine Ct.go aj aa (N:=26) Tryz.func23 rfl rfl rfl rfl ?_;refine .intro (by rw[ae]; omega) ?_;refine .intro (by rw[ae]; omega) ?_;refine dE (λh=>absurd rfl h) (λ_=>?_);refine aw aj aa (λi:Nat=>i≤l.length) (λi=>[(0,.c (nSl .u64 l)),(1,.c (nSl .u64 l)),(5,.c (nI .i64 i))]) (λ_=>[]) (λi=>l.length-i)
  0 (by omega) ⟨rfl,rfl,rfl,HT⟩ HT (λ_:Unit=>True) (λ_=>[]) (λ_=>[]) (λi hi=>?_) (λ_ _=>?_)
 ·refine .intro (by rw[ae]; omega) ?_;rw[ae];refine ah (λh=>?_) (λh=>?_)
  ·refine .intro (by omega) (X1 _ (al rfl (by omega)) ?_);refine .intro (by omega) (X1 _ (al rfl (by omega)) ?_);refine .intro rfl ?_;refine dE (λh=>absurd rfl h) (λ_=>?_);refine X1 ((i+1:Nat):Int) (wI1 (by omega)) ?_;exact ⟨i+1,by omega,by omega,⟨rfl,rfl,rfl,HT⟩,HT⟩
  ·exact ⟨(),HT,HT,HT⟩
 ·exact ⟨HT,r1 rfl,HT⟩
end
section
section
variable {Lc:List (List Cnt)} {n B:Nat}
theorem oV {h:List Int} {u:Fr2}:∀ (f v:Nat),(∀ k,v≤k→k<v+f→inP Lc n h u k=false)→p6 Lc n h u f v = -1
 | 0,v,_=>rfl
 | f+1,v,hm=>by
  unfold p6;rw[if_neg (by rw[hm v (by omega) (by omega)]; simp)];exact oV f (v+1) λk h1 h2=>hm k (by omega) (by omega)
theorem Al (hB:SB Lc n B) (H:List Int) (hP:vI Lc n H) (u:Fr2) {j:Nat} (hu:Bd j u) (hj:j≤900000):CtO P 29 (xX Lc n (hO H)) [.c (.ad 1000000 0),.c (.ow 1000002 1 H.length),qP u] (xX Lc n (hO H)) [.c (eI .i64 (js Lc n H u))]:=by
 have h6:=hB.x.w6;have hb:=hB.b;refine Ct.io aj aa (N:=27) Tryz.func29 rfl rfl rfl rfl ?_;refine X2 (.own σ3 νP) ?_;refine ⟨_,_,tu H,?_⟩;refine y4 aj aa σP [1000000,1000001,1000002] (qb hB H hP) Tryz.func114 rfl rfl rfl rfl rfl rfl rfl tv [5,6] rfl (G:=Unit) (λi _=>i≤n∧∀ k,k<i→inP Lc n H u k=false) (λ_ _=>[(5,.c (.ad 5 0)),(6,.c (.ad 6 0))])
  (λ_ _=>[(5,.var (qP u).cells),(6,.var [eI .i64 0])]) () ⟨by omega,λk hk=>by omega⟩ ⟨rfl,rfl,HT⟩ ⟨rfl,rfl,HT⟩ (λ_ _=>rfl) (λi _ args hg hi=>?_) (λ_ hi=>?_)
 ·obtain ⟨hin,rfl⟩:=qc hg;obtain ⟨i1,i2⟩:=hi;have hsb:=hB.sum H (w:=i) (by omega);have hpb:=hB.prob H (i:Int);have hend:=vG (p:=cF Lc n H i) (j:=B) (k:=B) (show Bd B (bC Lc n H (i:Int).toNat) by rw[Fi]; exact hsb) hpb (show Nat.gcd (bC Lc n H (i:Int).toNat).1 (bC Lc n H (i:Int).toNat).2=1 by rw[Fi]; exact p5 hB.x H i) (by omega);have hsb2:Bd B (bC Lc n H (i+1)):=hB.sum H (w:=i+1) (by omega);have e1:bA (cF Lc n H i).1 (cF Lc n H i).2=bC Lc n H (i+1):=by show bA (bC Lc n H (i:Int).toNat) _=_; rw[Fi]; rfl
  rw[e1]at hend;have e2:(cF Lc n H i).1=bC Lc n H i:=by show bC Lc n H (i:Int).toNat=_; rw[Fi]
  have hc1:=m8 u.1 u.2 (bC Lc n H i).1 (bC Lc n H i).2 (cC hu (by omega)) (cC hsb (by omega));have hc2:=m8 u.1 u.2 (bC Lc n H (i+1)).1 (bC Lc n H (i+1)).2 (cC hu (by omega)) (cC hsb2 (by omega));rw[jq hsb.pos,jq hu.pos]at hc1;rw[jq hsb2.pos,jq hu.pos]at hc2;rw[←e2]at hc1;have hin1:inP Lc n H u i=(decide (bI ((u.1*(bC Lc n H i).2:Nat):Int) (((bC Lc n H i).1*u.2:Nat):Int)≥0)&&decide (bI ((u.1*(bC Lc n H (i+1)).2:Nat):Int) (((bC Lc n H (i+1)).1*u.2:Nat):Int)<0)):=by
   unfold inP;congr 1
   ·refine decide_eq_decide.2 ?_;unfold bI;split
    ·constructor<;>intro h<;>omega
    ·split<;>constructor<;>intro h<;>omega
   ·refine decide_eq_decide.2 ?_;rw[cmpI_lt];omega
  rw[←e2]at hin1;have next:inP Lc n H u i=false→∃ g':Unit,(i+1≤n∧∀ k,k<i+1→inP Lc n H u k=false):=λhf=>⟨(),by omega,λk hk=>by
   by_cases e:k=i
   ·rw[e]; exact hf
   ·exact i2 k (by omega)⟩
  refine X1 _ hc1 ?_;refine ah (λh1=>?_) (λh1=>?_)
  ·refine X1 _ hend ?_;refine X1 _ hc2 ?_;refine .intro rfl ?_;refine ah (λh2=>?_) (λh2=>?_)
   ·rw[decide_eq_true h1,decide_eq_true h2]at hin1;have e:js Lc n H u=i:=je hB.x hu.pos hin hin1;refine ⟨[(6,.c (.ad 6 0))],[(6,.var [nI .i64 i])],⟨rfl,HT⟩,⟨rfl,HT⟩,(λp hp=>by simp at hp; subst hp; rfl),?_⟩;rw[e];exact ⟨HT,c8 (l:=[(1000002,.row 1 (aC H))]) rfl rfl rfl ⟨rfl,HT⟩,rc rfl,HT⟩
   ·rw[decide_eq_false h2,Hy]at hin1;obtain ⟨_,g1,g2⟩:=next hin1;exact ⟨(),⟨g1,g2⟩,⟨rfl,rfl,HT⟩,⟨rfl,rfl,HT⟩⟩
  ·rw[decide_eq_false h1,HK]at hin1;obtain ⟨_,g1,g2⟩:=next hin1;refine .intro rfl ?_;exact ⟨(),⟨g1,g2⟩,⟨rfl,rfl,HT⟩,⟨rfl,rfl,HT⟩⟩
 ·obtain ⟨i1,i2⟩:=hi;have hlen:(gB Lc n H).length=n:=by simp[gB]
  have e:js Lc n H u = -1:=oV _ 0 λk _ hk=>i2 k (by rw[hlen]; omega)
  rw[e];exact ⟨HT,c8 (l:=[(1000002,.row 1 (aC H))]) rfl rfl rfl ⟨rfl,HT⟩,rc rfl,HT⟩
end
end
section
section
variable {Lc:List (List Cnt)} {n B:Nat}
noncomputable def decV (Lc:List (List Cnt)) (n:Nat) (l:List Bool) (M:Nat):Option (List Int):=o5 Lc n (M+1) [1] (o6 l)
def lV (Lc:List (List Cnt)) (n:Nat) (l:List Bool) (ids:List Int):Prop:=hG Lc n ids=0∧encB Lc n ids=l
def Am (Lc:List (List Cnt)) (n:Nat) (l:List Bool) (M:Nat) (r:A1) (e:Int):Prop:=match decV Lc n l M with
 | none=>r = .c (.sc (.slice none 0 0))∧e=5
 | some ids=>(lV Lc n l ids∧r = .c (iSl ids)∧e=0)∨(¬ lV Lc n l ids∧r = .c (.sc (.slice none 0 0))∧e=3)
theorem An (l:List Bool):qv (o6 l)<1:=by
 rw[(oQ l).2,Hz (gv _),Rat.one_mul];exact Rat.natCast_lt_natCast.2 (nk l)
theorem Ce (l:List Bool) {k:Nat} (hl:l.length≤k):Bd (k+1) (o6 l):=
 pM (Nat.pos_iff_ne_zero.1 (FE _)) (EW (nk l) (EX (by omega) (by omega))) (Nat.pow_lt_pow_right (by omega) (by omega))
theorem Ek (m:Int):min (max m 0) 64=if 64<(if 0>m then 0 else m) then 64 else (if 0>m then 0 else m):=by
 repeat' split
 all_goals omega
set_option maxHeartbeats 1000000 in
theorem xb (hB:SB Lc n B) (h2:2<n) (l:List Bool) (hl:l.length≤4096) (most:Int) (M:Nat) (hM:((M:Nat):Int)=min (max most 0) 64) (hM2:M≤24) (hmo:-1000≤most) (hmo2:most≤1000) :
  ∃ r e,Am Lc n l M r e∧CtO P 18 (xE Lc n) [.c (.ad 1000000 0),.c (bP l),.c (eI .i64 most)] (xE Lc n) [r,.c (eI .i64 e)]:=by
 have hb:=hB.b;have hx:=hB.x;generalize hdv:decV Lc n l M=dv;have hfin:∃ r e,Am Lc n l M r e:=by
  unfold Am;rw[hdv]
  cases dv with
  | none=>exact ⟨_,_,rfl,rfl⟩
  | some ids=>
   by_cases hc:lV Lc n l ids
   ·exact ⟨_,_,.inl ⟨hc,rfl,rfl⟩⟩
   ·exact ⟨_,_,.inr ⟨hc,rfl,rfl⟩⟩
 obtain ⟨r,e,hR⟩:=hfin
 refine ⟨r,e,hR,?_⟩;unfold Am at hR;rw[hdv]at hR;refine Ct.keep aj aa [] (N:=73) Tryz.func18 rfl rfl rfl rfl ?_;refine X1 _ (dP l (by omega)) ?_;refine ah (λh1=>absurd h1 (by omega)) (λ_=>?_);refine X1 _ (uK l (by omega)) ?_;refine uX (G:=List Int × Fr2) aj aa (λ(ids,u)=>ids.length≤M∧qv u<1∧Bd (4097+2*B*ids.length) u∧o5 Lc n (M+1-ids.length) ([1]++ids) u=dv)
  (λ(ids,u)=>[(0,.c (.ad 1000000 0)),(1,.c (bP l)),(2,.c (eI .i64 most)),(8,.c (.ad 8 0)),(9,.c (.ow 24 1 (ids.length+1)))])
  (λ(ids,u)=>[(1000000,xC Lc n 1000001),(1000001,.me false (MOk Lc)),(8,.var (qP u).cells),(24,.row 1 (aC ([1]++ids)))]) (λ(ids,u)=>M+1-ids.length)
  ([],o6 l) ⟨by simp,An l,Ce l hl,hdv⟩ ⟨rfl,rfl,rfl,rfl,rfl,HT⟩ ⟨rfl,rfl,rfl,rfl,HT⟩ (λids:List Int=>ids.length≤M∧dv=some ids) (λids=>[(0,.c (.ad 1000000 0)),(1,.c (bP l)),(9,.c (.ow 24 1 (ids.length+1)))])
  (λids=>[(1000000,xC Lc n 1000001),(1000001,.me false (MOk Lc)),(24,.row 1 (aC ([1]++ids)))]) (λ(ids,u) hi=>?_) (λids hp=>?_)
 ·obtain ⟨i1,i2,i3,i4⟩:=hi;have hBi:2*B*ids.length≤2*4000*24:=FQ (by omega) (by omega);have hlen:([1]++ids).length=ids.length+1:=by simp
  have hP:=hB.probO ([1]++ids) (by omega) (by omega);obtain ⟨w,hw,hin,hpk⟩:=BY hx hB.e ([1]++ids) i3.pos i2;have hpi:=Al hB ([1]++ids) hP u i3 (by omega);rw[hpk,hlen]at hpi;refine X2 (.own [(1000000,1000000),(1000001,1000001),(24,1000002)] [(1000000,1000000),(1000001,1000001),(1000002,24)]) ?_;refine ⟨_,_,hpi,?_⟩;refine aT (λh3=>?_) (λh3=>?_)
  ·refine ⟨ids,⟨i1,?_⟩,⟨rfl,rfl,rfl,HT⟩,⟨rfl,rfl,rfl,HT⟩⟩;obtain ⟨f,hf⟩:∃ f,M+1-ids.length=f+1:=⟨M-ids.length,by omega⟩;rw[hf]at i4;unfold o5 at i4;rw[hpk,if_pos h3]at i4;exact i4.symm
  ·have hw2:¬ ((w:Int)=2):=h3;obtain ⟨f,hf⟩:∃ f,M+1-ids.length=f+1:=⟨M-ids.length,by omega⟩;rw[hf]at i4;unfold o5 at i4;rw[hpk,if_neg hw2]at i4;refine .intro (by omega) ?_;refine ah (λh4=>?_) (λh4=>?_)
   ·have hf0:f=0:=by
     rw[←Ek most,←hM]at h4;omega
    rw[if_pos hf0]at i4;subst i4;obtain ⟨rfl,rfl⟩:=hR;exact ⟨HT,c8 (l:=[]) rfl rfl rfl trivial,r1 rfl,r1 rfl,HT⟩
   ·have hf0:¬ f=0:=by
     rw[←Ek most,←hM]at h4;omega
    rw[if_neg hf0,Fi]at i4;obtain ⟨l1,l2,l3,l4,l5⟩:=oO hx i3.pos hin
    have l6:=B0 hx i3.pos hin
    have hof:=z9 hB ([1]++ids) hP w hw;rw[hlen]at hof;have hsb:=hB.sum ([1]++ids) (w:=w) (by omega);have hpb:=hB.prob ([1]++ids) (w:Int);have hs:=m9 i3 hsb;have hd:=cB hs hpb l1;have hless:=kQ (p:=u) (q:=bC Lc n ([1]++ids) w) (by rw[ay i3]; exact i3) (by rw[ay hsb]; exact hsb) (by omega) (by omega);have hdiv:=BI (p:=cJ u (bC Lc n ([1]++ids) w)) (q:=br Lc n ([1]++ids) w) (by rw[ay hs]; exact hs) (by rw[ay hpb]; exact hpb) l1 (by omega) (by omega);rw[ay i3,ay hsb]at hless;rw[ay hs,ay hpb]at hdiv;refine X2 (.own [(1000000,1000000),(1000001,1000001),(24,1000002)] [(1000000,1000000),(1000001,1000001),(1000002,24)]) ?_;refine ⟨_,_,hof,?_⟩;have e2:cF Lc n ([1]++ids) (w:Int)=(bC Lc n ([1]++ids) w,br Lc n ([1]++ids) w):=by unfold cF; rw[Fi]
    rw[e2];refine X1 _ hless ?_;refine X1 _ hdiv ?_;refine .intro rfl ?_;refine ⟨by rw[ac,hlen],by rw[ac,hlen]; show (ids.length+1+1+768)*8≤_; omega,by rw[ac,hlen]; show ids.length+1+1≤_; omega,aQ,aq rfl,?_⟩;refine ⟨(ids++[(w:Int)],_),⟨?_,l6,?_,?_⟩,?_,⟨rfl,rfl,rfl,rfl,owE (by rw[EL,ac,hlen,EL]; rfl),HT⟩,⟨rfl,rfl,rfl,aB (by rw[←Hh]; simp[aC]; rfl),HT⟩⟩
    ·rw[EL]; show ids.length+1≤M; omega
    ·refine hd.le ?_;rw[EL,show 2*B*(ids.length+[(w:Int)].length)=2*B*ids.length+2*B by show 2*B*(ids.length+1)=_; rw[Fe,F5]];omega
    ·rw[EL,←Hh];rw[show M+1-(ids.length+[(w:Int)].length)=f by show M+1-(ids.length+1)=f; omega];exact i4
    ·show M+1-(ids++[(w:Int)]).length<_
     rw[EL];show M+1-(ids.length+1)<M+1-ids.length
     omega
 ·obtain ⟨i1,hdv2⟩:=hp;subst hdv2;have hlen:([1]++ids).length=ids.length+1:=by simp
  refine AE aj aa [24] ?_;refine ⟨1,ids.length+1,rfl,by rw[ac,hlen]; rfl,by omega,by rw[ac,hlen]; omega,?_⟩;rw[iRow_sub,show ([1]++ids:List Int).drop 1=ids from rfl,show ids.length+1-1=ids.length from rfl,Fp];have henc:=jj hB h2 ids (by omega);refine X2 (.own σx σx) ?_;refine ⟨_,_,henc,?_⟩;simp only at hR;refine dE (λh3=>?_) (λh3=>?_)
  ·have hc:¬ lV Lc n l ids:=λhc=>h3 hc.1
   rcases hR with ⟨hc2,_⟩ | ⟨_,rfl,rfl⟩
   ·exact absurd hc2 hc
   exact ⟨HT,c8 (l:=[]) rfl rfl rfl trivial,r1 rfl,r1 rfl,HT⟩
  ·have e2:encR Lc n ids = .c (bP (encB Lc n ids)):=if_pos h3;rw[h3,e2];obtain ⟨_,c2,_,_,c3⟩:=Ah h3;obtain ⟨b1,b2,_⟩:=k9 hB h2 c2;obtain ⟨_,c4⟩:=np b1 b2 c3;have hBl:B*(ids.length+1)≤4000*25:=FQ hb (by omega);refine X1 _ (Ac _ l (by rw[tC]; omega) (by omega)) ?_;refine aP (λh5=>?_) (λh5=>?_)
   ·have hc:¬ lV Lc n l ids:=λhc=>by
     rw[decide_eq_true hc.2]at h5; cases h5
    rcases hR with ⟨hc2,_⟩ | ⟨_,rfl,rfl⟩
    ·exact absurd hc2 hc
    exact ⟨HT,c8 (l:=[]) rfl rfl rfl trivial,r1 rfl,r1 rfl,HT⟩
   ·have hc:lV Lc n l ids:=⟨h3,by simpa using h5⟩;rcases hR with ⟨_,rfl,rfl⟩ | ⟨hc2,_⟩
    ·refine X1 _ (iY ids (by omega)) ?_;exact ⟨HT,c8 (l:=[]) rfl rfl rfl trivial,r1 rfl,r1 rfl,HT⟩
    ·exact absurd hc hc2
end
end
section
abbrev σK:List (Nat × Nat):=[(200,1000000),(201,1000001)]
abbrev νK:List (Nat × Nat):=[(1000000,200),(1000001,201)]
theorem rh {s:ByteArray} (hs:s.size≤120) {m:Nat} (h1:1≤m) (h4:m≤4):XOk (ao (ofL s m)) (aK s).length:=Do (uE hs h4).1 (tb hs h1 h4) (uE hs h4).2
theorem Cf (s:ByteArray) (hs:s.size≤120) (o m:Nat) (ho:o<256) (hm:m=1+o%4) :
  CtO P 12 [] [.c (sS s),.c (nI .u8 o)] [(200,some (xC (ao (ofL s m)) (aK s).length 201)),(201,some (.mp false [] []))] [.c (.ad 200 0),mM (ofL s m) (aK s).length,.c (.sc (.bool true))]:=by
 have h1:1≤m:=by omega
 have h4:m≤4:=by omega
 have hx:=rh hs h1 h4;have hw:=tb hs h1 h4;obtain ⟨hsum,_⟩:=uE (m:=m) hs h4;obtain ⟨l1,l2⟩:=oF hs;obtain ⟨a1,a2⟩:=oG hs;have hok:=(jL hw).1;have hlen:(ofL s m).length=m:=cu _ _;have hcl:=bz (ofL s m);have hord:=sW (fE (aK s) s) m (by omega) (by omega) (λp hp=>by have:=(a2 p hp).1; omega);have hnew:=zL (ofL s m) (aK s).length hsum hw;have hrnew:=BP (ofL s m) (aK s).length hsum (hok.ccform hsum.lim) (by omega);have hword:=ox (ks:=[]) (vs:=[]) hx;refine Ct.keep (Ty.own_ok [36] aj) aa [] (N:=50) Tryz.func12 rfl rfl rfl rfl ?_;refine X1 _ (ue s (by omega)) ?_;refine X1 (o:Int) (wI rfl (by omega) (by omega)) ?_;refine .intro (by omega) (X1 ((o%4:Nat):Int) ?_ (.intro ⟨by show (-9223372036854775808:Int)≤_; omega,by show _≤(9223372036854775807:Int); omega⟩ ?_))
 ·show Int.tmod (o:Int) 4=_
  rw[GF (by omega)]; omega
 refine X1 (m:Int) (wI (by omega) (by omega) (by omega)) ?_;refine X1 _ (yV (aK s) s (by omega) (by omega)) ?_;refine X1 _ hord ?_;refine .intro (by rw[aM]; omega) ?_;rw[aM];refine X2 (.own [] [(36,200),(34,201)]) ?_;refine ⟨_,_,hnew,?_⟩;refine .intro (by rw[aM]; omega) ?_;rw[aM];refine X1 _ hrnew ?_;refine X2 (.own σK νK) ?_;refine ⟨_,_,hword,?_⟩;refine aT (λ_=>?_) (λh=>?_)
 ·refine X2 (.own σK νK) ?_;refine ⟨_,_,sN,?_⟩;refine .intro (by rw[aM]; omega) ?_;rw[aM];exact ⟨HT,SubO.of (l:=[(200,xC (ao (ofL s m)) (aK s).length 201),(201,.mp false [] [])]) ⟨rfl,rfl,HT⟩,r1 rfl,rc rfl,r1 (blE (beq_self_eq_true _)),HT⟩
 ·exfalso; omega
theorem lc:∀ {l:List Int} {v:Int},v∈l→0≤idx v l
 | y::l,v,h=>by
  unfold idx;split
  ·omega
  ·rename_i hn;have:v∈l:=by
    rcases Fq.1 h with rfl | h
    ·exact absurd rfl hn
    ·exact h
   have:=lc this;rw[if_neg (by omega)]; omega
theorem Cg {words:Int} {g:List Int} (h:gW words g=0):∀ (a:List Int) (v:Int),g=a++[v]→0≤v∧v<words∧(v=1→a=[]):=by
 intro a v e;subst e;unfold gW at h;split at h
 ·omega
 ·rename_i h1;split at h
  ·omega
  ·rename_i h2;have hb:¬ mJ words v=true:=λhb=>h1 (F8.2 ⟨v,by simp,hb⟩)
   unfold mJ at hb;simp at hb;refine ⟨by omega,by omega,λhv=>?_⟩
   cases a with
   | nil=>rfl
   | cons y a=>
    exfalso;apply h2;subst hv;exact lc (by simp)
theorem Ch {s:ByteArray} (hs:s.size≤120) {m:Nat} (h4:m≤4):∀ l,l∈ao (ofL s m)→eV (aK s).length l:=by
 intro l hl x hx;obtain ⟨n,hn,rfl⟩:=dU hl;obtain ⟨y,hy,rfl⟩:=Fn.1 hx;have h1:=((oH hs (EY hn) h4).2.2 y hy).2.2.2;have e:(cL (ofL s m) n y).1=y.1:=by unfold cL; split<;>rfl
 rw[e];exact Cg h1
theorem vL (s:ByteArray):∀ i,((lnS s i).1.map ByteArray.size).sum≤(lnS s i).2
 | 0=>EM _
 | i+1=>by
  have ih:=vL s i;have hl:=(lG s i).1;unfold lnS;split
  ·simp only[FW,List.sum_append,Fw,Hj,GZ,List.sum_nil,GD];omega
  ·exact ih
theorem qe (s:ByteArray):((fU s).map List.length).sum≤s.size:=by
 have key:∀ l:List ByteArray,((jl l).map List.length).sum≤(l.map ByteArray.size).sum:=λl=>by
  induction l with
  | nil=>exact EM _
  | cons x l ih=>
   have hw:=(n7 x).2;unfold jl at ih ⊢;rw[Fw];rw[Hm];split<;>simp only[Fw,GZ]<;>omega
 refine EQ (key (dK s)) ?_;have h1:=vL s s.size;have h2:=(lG s s.size).1;unfold dK;simp only[FW,List.sum_append,Fw,Hj,GZ,List.sum_nil,GD];omega
theorem qf:∀ (L:List (List ByteArray)) (l:List ByteArray),(eR l L).length≤l.length+(L.map List.length).sum
 | [],l=>by simp[eR]
 | ws::L,l=>by
  have:=qf L (cU l ws);have h2:=gP ws l;show (eR (cU l ws) L).length≤_
  rw[Fw,GZ]; omega
theorem xc (s:ByteArray):(aK s).length≤s.size+3:=by
 have h1:=qf (fU s) marks15;have h2:=qe s;have h3:marks15.length=3:=rfl;unfold aK;omega
theorem oW {n:Nat}:∀ (L:List (List Int)),(bi L n).length≤(L.map List.length).sum
 | []=>by simp[bi]
 | p::L=>by
  have ih:=oW (n:=n) L;have h2:(cz p n).length≤p.length:=mR p n p.length;have e:bi (p::L) n=cz p n++bi L n:=by simp[bi]
  rw[e,EL,Fw,GZ];omega
theorem xd (ws:List ByteArray) (s:ByteArray):((fE ws s).map List.length).sum≤3*s.size:=by
 have key:∀ L:List (List ByteArray),(∀ l,l∈L→1≤l.length)→((L.map (eC ws)).map List.length).sum≤3*(L.map List.length).sum:=by
  intro L
  induction L with
  | nil=>intro _; simp
  | cons l L ih=>
   intro h;have h1:=ih λx hx=>h x (Fb _ hx)
   have h2:=h l (by simp);have h3:(eC ws l).length=l.length+2:=by simp[eC]
   simp only[Fw,GZ,h3];omega
 have h1:=key (fU s) λl hl=>by
  have:=(Ht.1 hl).2;simp at this;omega
 have h2:=qe s;unfold fE;omega
theorem tE {s:ByteArray} (hs:s.size≤60) {m k:Nat} {l:List Cnt} (h:(ofL s m)[k]? = some l):l.length≤180∧∀ x,x∈l→0≤x.2∧x.2≤180:=by
 obtain ⟨_,rfl⟩:=kX h;have h1:=oW (n:=k+1) (fE (aK s) s);have h2:=xd (aK s) s;obtain ⟨g1,_,g3,_⟩:=ng _ (bi (fE (aK s) s) (k+1)) rfl;exact ⟨by omega,λx hx=>by have:=g3 x hx; omega⟩
theorem oX {s:ByteArray} (hs:s.size≤60) {m:Nat}:∀ l,l∈ao (ofL s m)→l.length≤180∧∀ x,x∈l→0≤x.2∧x.2≤180:=by
 intro l hl;obtain ⟨n,hn,rfl⟩:=dU hl;obtain ⟨a1,a2⟩:=tE hs (Fc hn);refine ⟨by rw[FD]; exact a1,λx hx=>?_⟩;obtain ⟨y,hy,rfl⟩:=Fn.1 hx;have:=a2 y hy;unfold cL;split
 ·have:ahead ((ofL s m).getD (n+1) []) y.1≤180:=by
   refine EQ (FK _ _) ?_;by_cases h3:n+1<(ofL s m).length
   ·have e:(ofL s m).getD (n+1) []=(ofL s m)[n+1]:=by simp[EK,h3]
    rw[e];exact (tE hs (Fc h3)).1
   ·have e:(ofL s m).getD (n+1) []=[]:=by simp[EK,E7 (FU h3)]
    rw[e]; simp
  show (0:Int)≤((ahead _ _:Nat):Int)∧((ahead _ _:Nat):Int)≤180
  omega
 ·exact this
theorem vM:∀ {l:List Cnt},(∀ x,x∈l→0≤x.2∧x.2≤180)→totN l≤180*l.length
 | [],_=>by show totN []≤_; exact GL _
 | x::l,h=>by
  have ih:=vM (l:=l) λy hy=>h y (Fb _ hy)
  have h1:=h x (by simp);rw[pX,Fo];split<;>omega
theorem Ao (k n2 n3 a b:Nat):(cf k n2 n3 a b).2∣(n2+2*n3)*b:=by
 unfold cf cM eb;refine Gz fX (Nat.mul_dvd_mul ?_ ?_)
 ·refine Gz fX ?_;rw[Fx];refine Gz fX ?_;rw[Fx];exact HQ _
 ·refine Gz fX ?_;rw[Fx];exact HQ _
theorem Ap {l:List Cnt} (hl:l.length≤180) (k:Nat) (h1:1≤k) (h3:k≤3):(e8 l k).2<2^16:=by
 have m:=λk=>EQ (bL l k) hl
 have hs:=EQ (kS l) (EQ (FK aX l) hl);have key:∀ j a b,au l 1≠0→b≠0→b≤180→(cJ (j,1) (cf j (au l 1) (au l 2) a b)).2<2^16:=λj a b e1 e2 e3=>by
  have hd:(cJ (j,1) (cf j (au l 1) (au l 2) a b)).2∣(au l 1+2*au l 2)*b:=
   Gz fX (by show 1*_∣_; rw[Fx]; exact Ao _ _ _ _ _)
  have h4:=Nat.le_of_dvd (Nat.mul_pos (by omega) (by omega)) hd;have h5:(au l 1+2*au l 2)*b≤360*180:=FQ (by omega) e3;omega
 have hk:k=1∨k=2∨k=3:=by omega
 unfold e8;rcases hk with rfl | rfl | rfl
 all_goals
  simp only[cO];split
  ·exact key _ _ _ (by omega) (by omega) (m _)
  ·decide
theorem DL {s:ByteArray} (hs:s.size≤60) {m:Nat} (h4:m≤4):Few (ao (ofL s m)) (aK s).length 48 15 6:=by
 refine ⟨λl hl=>?_,λl hl=>?_,?_⟩
 ·obtain ⟨a1,_⟩:=oX hs l hl;have d:=λk h1 h3=>Ap a1 k h1 h3
  unfold dD;exact kZ (k:=32) (m:=16) (kZ (k:=16) (m:=16) (d 1 (by omega) (by omega)) (d 2 (by omega) (by omega))) (d 3 (by omega) (by omega))
 ·obtain ⟨a1,a2⟩:=oX hs l hl;have:=vM a2;omega
 ·have:=xc s;omega
theorem EH {s:ByteArray} (hs:s.size≤60) {m:Nat} (h1:1≤m) (h4:m≤4) (h:List Int):QF (ao (ofL s m)) (aK s).length (e9 (ao (ofL s m)) h)<2^258:=by
 have key:∀ K:Nat,K=258→QF (ao (ofL s m)) (aK s).length (e9 (ao (ofL s m)) h)<2^K:=by
  intro K hK;have h2:=CH (DL hs h4) (e9 (ao (ofL s m)) h);have h3:=nh (rh (s:=s) (by omega) h1 h4) h;rw[bz,cu]at h3;refine EW h2 (EX (by omega) ?_);have:(48+15)*((e9 (ao (ofL s m)) h).length+1)≤63*4:=FF _ (by omega);omega
 exact key 258 rfl
theorem CI {s:ByteArray} (hs:s.size≤60) {m:Nat} (h1:1≤m) (h4:m≤4):SB (ao (ofL s m)) (aK s).length 258:=
 ⟨rh (by omega) h1 h4,Ch (by omega) h4,EH hs h1 h4,by omega⟩
theorem Em {s:ByteArray} (hs:s.size≤60) {m:Nat} (h1:1≤m) (h4:m≤4):2<(aK s).length:=by
 have:=(rh (s:=s) (by omega) h1 h4).w3;omega
theorem Eo {f:FuncId} {O:Objs} {args res:List A1} {Lc:List (List Cnt)} {o:Ob} {i j:Nat} (hij:Nat.beq i j=false) (h:CtO P f O args [(i,some o),(j,some (.mp false [] []))] res):CtO P f O args [(i,some o),(j,some (.me false (MOk Lc)))] res:=
 h.less λK ok w k o2 g=>by
  simp only[Objs.get]at g ⊢
  cases h1:Nat.beq i k with
  | true=>rw[h1]at g; exact ⟨_,rfl,λh=>by cases g; exact h⟩
  | false=>
   rw[h1]at g
   cases h2:Nat.beq j k with
   | true=>rw[h2]at g; cases g; exact ⟨_,rfl,λh=>⟨[],[],MOk.nil,h⟩⟩
   | false=>rw[h2]at g; cases g
theorem Ci (s:ByteArray) (hs:s.size≤60) (o m:Nat) (ho:o<256) (hm:m=1+o%4) :
  CtO P 12 [] [.c (sS s),.c (nI .u8 o)] [(200,some (xC (ao (ofL s m)) (aK s).length 201)),(201,some (.me false (MOk (ao (ofL s m)))))] [.c (.ad 200 0),mM (ofL s m) (aK s).length,.c (.sc (.bool true))]:=
 Eo rfl (Cf s (by omega) o m ho hm)
theorem Aq:SB [[]] 3 258:=by
 have h:=CI (s:=⟨#[]⟩) (m:=1) (by decide) (by decide) (by decide);rw[show ao (ofL ⟨#[]⟩ 1)=[[]] by decide,show (aK ⟨#[]⟩).length=3 by decide]at h;exact h
theorem DM:CCSum [[]]:=by
 refine ⟨⟨by decide,λl hl=>?_⟩,λl hl=>?_⟩
 ·simp at hl; subst hl; exact ⟨by simp,λx hx=>by simp at hx⟩
 ·have:l=[]:=by simpa [ao] using hl
  subst this; decide
theorem Ep:CtO P 36 [] [.c (.sl 1 [[.sc (.slice none 0 0)]]),.c (eI .i64 3)] [(36,some (xC [[]] 3 34)),(34,some (.me false (MOk [[]])))] [.c (.ad 36 0),.c (eI .i64 0)]:=
 Eo rfl ((zL [[]] 3 DM (by decide)).args λK ok w vs h=>h.set (i:=0) rfl Dm)
theorem Ar {Lc:List (List Cnt)} {n B:Nat} (hB:SB Lc n B) (h2:2<n) {ids:List Int} (he:hG Lc n ids=0) (M:Nat):decV Lc n (encB Lc n ids) M=if ids.length≤M then some ids else none:=by
 obtain ⟨_,c1,c2,c3,c4⟩:=Ah he;obtain ⟨b1,b2,_⟩:=k9 hB h2 c1;obtain ⟨g1,_⟩:=np b1 b2 c4;have:=z6 hB.x hB.e (ids:=ids) ⟨c1,λw hw e=>?_⟩ h2 g1.good (M+1)
 ·unfold decV encB dx;unfold dx at this;rw[this];by_cases h:ids.length≤M
  ·rw[if_pos h,if_pos (by omega)]
  ·rw[if_neg h,if_neg (by omega)]
 ·subst e;have:=lc hw;omega
theorem Cj:hG [[]] 3 []=0:=by decide
theorem As:encB [[]] 3 []=[true]:=by
 have hs:dx [[]] 3 []=((1,2),(1,2)):=by decide
 have hk:kOf (dx [[]] 3 [])=1:=by
  rw[hs];refine Ag ⟨by decide,λj hj=>?_⟩;have:j=0:=by omega
  subst this;decide
 unfold encB;rw[hk,hs];decide
abbrev σ45:List (Nat × Nat):=[(50,1000000),(51,1000001)]
abbrev ν45:List (Nat × Nat):=[(1000000,50),(1000001,51)]
theorem gD:Ct P 11 [] [.c (.sc (.bool true))]:=by
 have henc:CtO P 13 (xE [[]] 3) [.c (.ad 1000000 0),.c (.sc (.slice none 0 0))] (xE [[]] 3) [encR [[]] 3 [],.c (eI .i64 (hG [[]] 3 []))]:=
  (jj Aq (by decide) [] (by decide)).args λK ok w vs h=>h.set (i:=1) rfl BR
 rw[show encR [[]] 3 [] = .c (bP (encB [[]] 3 [])) from if_pos Cj,Cj,As]at henc;obtain ⟨r,e,hR,hdec⟩:=xb Aq (by decide) [true] (by decide) 5 5 (by decide) (by decide) (by decide) (by decide);have hv:=Ar Aq (by decide) Cj 5;rw[As,if_pos (by decide)]at hv;have hre:r = .c (iSl [])∧e=0:=by
  unfold Am at hR;rw[hv]at hR;rcases hR with ⟨_,a,b⟩ | ⟨h,_⟩
  ·exact ⟨a,b⟩
  ·exact absurd ⟨Cj,As⟩ h
 obtain ⟨rfl,rfl⟩:=hre;refine Ct.go (Ty.own_ok [36,1000001,1000003] aj) aa (N:=47) Tryz.func11 rfl rfl rfl rfl ?_;refine X2 (.own [] [(36,50),(34,51)]) ?_;refine ⟨_,_,Ep,?_⟩;refine X2 (.own σ45 ν45) ?_;refine ⟨_,_,henc,?_⟩;refine X2 (.own σ45 ν45) ?_;refine ⟨_,_,hdec,?_⟩;refine X1 _ (dP [true] (by decide)) ?_;refine X1 _ (B7 [true] 0 (by decide) (by decide)) ?_;refine .intro (by decide) ?_;exact ⟨HT,r1 rfl,HT⟩
end
end Go.Proofs.YtgceikecdedfcaaGreat.Pv
