/- Parts of a proof, joined: Hj Hk Hw Hm Ia Hn Ho Fy Fz Ge He Hp Hq Ie. -/
import Derived.Test.YtgceikecdedfcaaGreatLsQ
namespace Go.Proofs.YtgceikecdedfcaaGreat.Pv
open Go
section
abbrev nB (b:Bool):PC:=nI .u64 b.toNat
abbrev bP (l:List Bool):PC:=.rd [nSl .u64 (bh l),nI .i64 l.length]
abbrev tj:A1:=.c (.sc (.pointer none))
theorem iB (n:Nat):needW n≤n:=by unfold needW; omega
theorem qU (n:Nat) (hn:n≤1000000000):Ct P 49 [.c (nI .i64 n)] [.c (nI .i64 (needW n))]:=by
 refine Ct.go aj aa (N:=9) Tryz.func49 rfl rfl rfl rfl ?_;refine .intro (by decide) (X1 ((n/64:Nat):Int) (j0 rfl) (.intro ⟨by omega,by omega⟩ ?_));refine .intro (by decide) (X1 ((n%64:Nat):Int) (mb rfl) (.intro ⟨by omega,by omega⟩ ?_));have e:(if (1:Int)<((n%64:Nat):Int) then (1:Int) else ((n%64:Nat):Int))=((min (n%64) 1:Nat):Int):=by split<;>omega
 refine X1 ((needW n:Nat):Int) ?_ ?_
 ·rw[e]; exact wI (by unfold needW; omega) (by omega) (by unfold needW; omega)
 ·exact ⟨HJ,r1 rfl,HJ⟩
theorem wO (b:Bool):Ct P 48 [.c (nB b)] [.c (nI .i64 b.toNat)]:=by
 have h:=kw b.toNat (by cases b<;>decide);rw[show blen b.toNat=b.toNat by
  cases b
  ·exact blen_zero
  ·exact (rY (by decide)).trans (by rw[show (true.toNat/2)=0 from rfl,blen_zero]; rfl)]at h
 refine Ct.go aj aa (N:=5) Tryz.func48 rfl rfl rfl rfl ?_;refine X1 _ h ?_;exact ⟨HJ,r1 rfl,HJ⟩
theorem BX:CtO P 16 [] [] [(2,some (.var [.sc (.slice none 0 0),eI .i64 0]))] [.c (.ad 2 0)]:=by
 refine Ct.keep aj aa [] (N:=3) Tryz.func16 rfl rfl rfl rfl ?_;exact ⟨HJ,SubO.of (l:=[(2,.var [.sc (.slice none 0 0),eI .i64 0])]) ⟨rfl,HJ⟩,r1 rfl,HJ⟩
abbrev bO (r:Nat) (l:List Bool):Objs:=[(1000000,some (.var [.ow r 1 (needW l.length),nI .i64 l.length])),(r,some (.row 1 (aE .u64 (bh l))))]
theorem D7 {l:List Bool} {O:Objs} (h1:O.get 1000000=some (.var [.ow 200 1 (needW l.length),nI .i64 l.length])) (h2:O.get 200=some (.row 1 (aE .u64 (bh l)))):SubO (bO 200 l) O:=
 SubO.of (l:=[(1000000,.var [.ow 200 1 (needW l.length),nI .i64 l.length]),(200,.row 1 (aE .u64 (bh l)))]) ⟨h1,h2,HJ⟩
theorem mY {k:IntKind} {l:List Nat} {i x:Nat} (h:l[i]? = some x):(aE k l)[i]? = some [nI k x]:=by simp[aE,h]
theorem D8 {a i:Nat} {b:Bool} (h:a<2^i) (hi:i<64):a|||b.toNat*2^i%18446744073709551616=a+b.toNat*2^i:=by
 have h1:(2:Nat)^i≤2^63:=ER (by omega) (by omega);have h2:(2:Nat)^63=9223372036854775808:=rfl;have h3:b.toNat*2^i≤2^i:=by cases b<;>simp
 rw[Fi (by omega),←GZ,Dx h,GZ]
theorem BY (l:List Bool) (b:Bool) (hl:l.length≤100000000):CtO P 17 (bO 1000001 l) [.c (.ad 1000000 0),.c (nB b),.c (eI .i64 1)] (bO 200 (l++[b])) [.c (eI .i64 0)]:=by
 have hb:b.toNat≤1:=by cases b<;>decide
 have hlen:(l++[b]).length=l.length+1:=by simp
 have hnw:=iB l.length;have hnw2:=iB (l++[b]).length;refine Ct.keepI (Ty.own_ok [1000001] aj) [] (N:=93) Tryz.func17 rfl rfl rfl rfl ?_;refine DQ (r:=1000001) (q:=200) (k:=1000000) (i:=0) rfl (by decide) (by decide) (by decide) rfl rfl rfl ?_;refine dG (Ty.own_ok [1000001] aj) aa ?_;refine X1 _ (wO b) ?_;refine ah (λh=>?_) (λ_=>?_)
 ·exfalso; omega
 refine .intro (by decide) (X1 ((l.length%64:Nat):Int) (mb rfl) (.intro ⟨by omega,by omega⟩ ?_));refine X1 ((l.length+1:Nat):Int) (wI (by simp) (by omega) (by omega)) ?_;refine ah (λh=>?_) (λh=>?_)
 ·have h64:l.length%64≠0:=by omega
  obtain ⟨w1,w2⟩:=qT (b:=b) h64;have w3:=vt h64;have w4:=fF l;have w5:=fG (l:=l) (k:=l.length/64) (by omega);have w6:=oD (l:=l) (k:=l.length/64) (by omega) (by omega);have w7:=oC l (l.length/64);refine .intro (by omega) ?_;refine X1 ((l.length/64:Nat):Int) (wI (by omega) (by omega) (by omega)) ?_;refine .intro (by omega) (.intro (by omega) ?_);refine X1 _ (by rw[E4]; exact mY w5) ?_;refine X1 ((l.length%64:Nat):Int) (wU rfl (by omega) (by omega)) ?_;refine .intro (by omega) (X1 _ (uf (by omega)) ?_);refine X1 _ (orU w7 (FE _ (by decide))) ?_;refine .intro (by omega) (.intro (by omega) ?_);refine X1 _ (by rw[E4]; exact mY w5) ?_;refine .intro rfl ?_;refine aw (Ty.own_ok [1000001] aj) aa (λ_:Unit=>True) (λ_=>[(0,.c (.ad 1000000 0)),(1,.c (nB b)),(7,.c (nI .i64 (l.length%64)))])
   (λ_=>[(1000000,.var [.ow 200 1 (needW (l++[b]).length),nI .i64 (l++[b]).length]),(200,.row 1 (aE .u64 (bh (l++[b]))))]) (λ_=>0)
   () trivial ⟨rfl,rfl,rfl,HJ⟩ ⟨by rw[w2,hlen]; rfl,aB (by rw[E4,w1,←nRow_set,D8 (by rw[show l.length%64=l.length-64*(l.length/64) by omega]; exact w6) (by omega)]; rfl),HJ⟩ (λ_:Unit=>True) (λ_=>[]) (λ_=>[(1000000,.var [.ow 200 1 (needW (l++[b]).length),nI .i64 (l++[b]).length]),(200,.row 1 (aE .u64 (bh (l++[b]))))]) (λ_ _=>?_) (λ_ _=>?_)
  ·refine .intro (by omega) ?_;refine X1 _ (qU (l++[b]).length (by omega)) ?_;refine .intro rfl ?_;refine ah (λh=>?_) (λ_=>?_)
   ·exfalso; omega
   ·exact ⟨(),HJ,HJ,⟨rfl,rfl,HJ⟩⟩
  ·exact ⟨HJ,D7 rfl rfl,r1 rfl,HJ⟩
 ·have h64:l.length%64=0:=by omega
  have w1:=qS (b:=b) h64;have w2:needW (l++[b]).length=needW l.length+1:=by rw[hlen]; unfold needW; omega
  have w4:=fF l;refine aw (Ty.own_ok [1000001] aj) aa (λ_:Bool=>True) (λ_=>[(0,.c (.ad 1000000 0)),(1,.c (nB b)),(7,.c (nI .i64 (l.length%64)))])
   (λg=>[(1000000,.var [.ow 200 1 (bif g then needW (l++[b]).length else needW l.length),nI .i64 (l++[b]).length]),(200,.row 1 (aE .u64 (bif g then bh (l++[b]) else bh l)))]) (λg=>bif g then 0 else 1)
   false trivial ⟨rfl,rfl,rfl,HJ⟩ ⟨by rw[hlen]; rfl,rfl,HJ⟩ (λ_:Unit=>True) (λ_=>[]) (λ_=>[(1000000,.var [.ow 200 1 (needW (l++[b]).length),nI .i64 (l++[b]).length]),(200,.row 1 (aE .u64 (bh (l++[b]))))]) (λg _=>?_) (λ_ _=>?_)
  ·cases g with
   | false=>
    refine .intro (by show needW l.length≤_; omega) ?_;refine X1 _ (qU (l++[b]).length (by omega)) ?_;refine .intro rfl ?_;refine ah (λ_=>?_) (λh=>?_)
    ·refine ah (λh=>?_) (λ_=>?_)
     ·exfalso; omega
     ·refine ⟨by rw[ai]; show needW l.length=(bh l).length; rw[w4],by rw[ai]; show ((bh l).length+1+768)*8≤_; omega,by rw[ai]; show (bh l).length+1≤_; omega,dc,dc (l:=[b.toNat]),?_⟩;refine ⟨true,HJ,by decide,⟨rfl,rfl,rfl,HJ⟩,⟨?_,?_,HJ⟩⟩
      ·show some (Ob.var [.ow 200 1 (aE .u64 (bh l)++[[nB b]]).length,_])=some (Ob.var [.ow 200 1 (needW (l++[b]).length),_])
       rw[EC,ai,w4,w2]; rfl
      ·refine aB ?_;show aE .u64 (bh l)++aE .u64 [b.toNat]=aE .u64 (bh (l++[b]))
       rw[w1,ig]
    ·exfalso;apply h;show ((needW l.length:Nat):Int)<_
     omega
   | true=>
    refine .intro (by show needW (l++[b]).length≤_; omega) ?_;refine X1 _ (qU (l++[b]).length (by omega)) ?_;refine .intro rfl ?_;refine ah (λh=>?_) (λ_=>?_)
    ·exfalso;have:((needW (l++[b]).length:Nat):Int)<((needW (l++[b]).length:Nat):Int):=h;omega
    ·exact ⟨(),HJ,HJ,⟨rfl,rfl,HJ⟩⟩
  ·exact ⟨HJ,D7 rfl rfl,r1 rfl,HJ⟩
theorem boE {a b:Bool} (h:a=b):(some (.c (.sc (.bool a))):Option AV)=some (.c (.sc (.bool b))):=by rw[h]
theorem Dy {x:Nat} (hx:x<18446744073709551616):IntKind.u64.wrap ((BitVec.ofInt IntKind.u64.bits (x:Int)&&&BitVec.ofInt IntKind.u64.bits (1:Int)).toNat:Int)=((x%2:Nat):Int):=by
 have e:(BitVec.ofInt IntKind.u64.bits (x:Int)&&&BitVec.ofInt IntKind.u64.bits (1:Int)).toNat=x%2:=by
  show (BitVec.ofInt 64 (x:Int)&&&BitVec.ofInt 64 ((1:Nat):Int)).toNat=_
  rw[BitVec.ofInt_natCast,BitVec.ofInt_natCast,BitVec.toNat_and,BitVec.toNat_ofNat,BitVec.toNat_ofNat,Fi (by omega:x<2^64),Fi (by decide:1<2^64),GK]
 rw[e];exact wU rfl (by omega) (by omega)
theorem et (l:List Bool) (hl:l.length≤100000000):Ct P 14 [.c (bP l)] [.c (nI .i64 l.length)]:=by
 refine Ct.go aj aa (N:=9) Tryz.func14 rfl rfl rfl rfl ?_;exact ⟨HJ,r1 rfl,HJ⟩
theorem BZ (l:List Bool) (i:Nat) (hl:l.length≤100000000) (hi:i<l.length):Ct P 15 [.c (bP l),.c (nI .i64 i)] [.c (.sc (.bool (l.getD i false)))]:=by
 have hw:=fG (l:=l) (k:=i/64) (by unfold needW; omega);have hb:=jb hi;have hg:l.getD i false=decide (cD l (i/64)/2^(i%64)%2=1):=by rw[EB,hb]; rfl
 refine Ct.go aj aa (N:=33) Tryz.func15 rfl rfl rfl rfl ?_;refine ah (λh=>?_) (λ_=>?_)
 ·exfalso; omega
 refine .intro (by decide) (X1 ((i/64:Nat):Int) (j0 rfl) (.intro ⟨by omega,by omega⟩ ?_));refine .intro (by omega) (X1 _ (by rw[E4]; exact mY hw) ?_);refine .intro (by decide) (X1 ((i%64:Nat):Int) (mb rfl) (.intro ⟨by omega,by omega⟩ ?_));refine X1 ((i%64:Nat):Int) (wU rfl (by omega) (by omega)) ?_;have hwl:=oC l (i/64);have hdl:cD l (i/64)/2^(i%64)≤cD l (i/64):=FU _ _;refine .intro (by omega) (X1 ((cD l (i/64)/2^(i%64):Nat):Int) (fH (by omega)) (.intro (inU (by omega)) ?_));refine X1 _ (Dy (by omega)) ?_;refine ⟨HJ,r1 (boE ?_),HJ⟩;rw[hg];by_cases h:cD l (i/64)/2^(i%64)%2=1
 ·rw[decide_eq_true h,h]; rfl
 ·rw[decide_eq_false h,show cD l (i/64)/2^(i%64)%2=0 by omega]; rfl
def gT (l:List Bool) (k:Nat):Nat:=if k<needW l.length then cD l k else 0
theorem tk (l:List Bool) (k:Nat):gT l k<18446744073709551616:=by
 have:=oC l k;unfold gT; split<;>omega
theorem tm (l:List Bool) (k:Nat) (hl:l.length≤100000000) (hk:k≤100000000):Ct P 148 [.c (bP l),.c (nI .i64 k)] [.c (nI .u64 (gT l k))]:=by
 have h1:=iB l.length;have h2:=fF l;refine Ct.go aj aa (N:=23) Tryz.func148 rfl rfl rfl rfl ?_;refine .intro (by rw[ai]; omega) ?_;rw[ai];refine ah (λh=>?_) (λh=>?_)
 ·exact ⟨HJ,r1 (iE (by rw[gT,if_neg (by omega)]; rfl)),HJ⟩
 ·refine .intro (by omega) (X1 _ (by rw[E4]; exact mY (fG (by omega))) ?_);exact ⟨HJ,r1 (iE (by rw[gT,if_pos (by omega)])),HJ⟩
theorem tn:Ct P 180 [.c (eI .i64 1)] [.c (eI .i64 1)]:=by
 refine Ct.go aj aa (N:=6) Tryz.func180 rfl rfl rfl rfl ?_;exact ⟨HJ,r1 rfl,HJ⟩
theorem tq:Ct P 149 [.c (eI .i64 1)] [.c (eI .u64 1)]:=by
 refine Ct.go aj aa (N:=11) Tryz.func149 rfl rfl rfl rfl ?_;refine X1 _ tn ?_;refine X1 (1:Int) (by decide) ?_;refine .intro (by decide) (X1 (2:Int) (by decide) ?_);refine X1 (1:Int) (by decide) ?_;exact ⟨HJ,r1 rfl,HJ⟩
theorem Dz {a c s:Nat} (hs:s<64):(a|||c*2^(64-s)%18446744073709551616)%2=a%2:=by
 have h1:c*2^(64-s)%18446744073709551616%2=0:=by
  have e:18446744073709551616=2*9223372036854775808:=rfl;rw[e,Nat.mod_mul_right_mod,show 64-s=(63-s)+1 by omega,Fk,←ES];exact Nat.mul_mod_left _ _
 rw[←GK,Nat.and_or_distrib_right,GK,GK,h1,Nat.or_zero]
theorem B0 (l:List Bool) (i:Nat) (hl:l.length≤100000000) (hi:i<l.length):Ct P 103 [.c (bP l),.c (nI .i64 i),.c (eI .i64 1)] [.c (nB (l.getD i false))]:=by
 have hb:=jb hi;have hg:l.getD i false=decide (cD l (i/64)/2^(i%64)%2=1):=by rw[EB,hb]; rfl
 have hz:gT l (i/64)=cD l (i/64):=if_pos (by unfold needW; omega);have hwl:=tk l (i/64);have hw2:=tk l (i/64+1);have hdl:gT l (i/64)/2^(i%64)≤gT l (i/64):=FU _ _;have fin:∀ v,v%2=gT l (i/64)/2^(i%64)%2→v%2=(l.getD i false).toNat:=λv hv=>by
  rw[hg,hv,hz];by_cases h:cD l (i/64)/2^(i%64)%2=1
  ·rw[decide_eq_true h,h]; rfl
  ·rw[decide_eq_false h,show cD l (i/64)/2^(i%64)%2=0 by omega]; rfl
 refine Ct.go aj aa (N:=67) Tryz.func103 rfl rfl rfl rfl ?_;refine ah (λh=>?_) (λ_=>?_)
 ·exfalso; omega
 refine ah (λh=>?_) (λ_=>?_)
 ·exfalso; omega
 refine .intro (by decide) (X1 ((i/64:Nat):Int) (j0 rfl) (.intro ⟨by omega,by omega⟩ ?_));refine .intro (by decide) (X1 ((i%64:Nat):Int) (mb rfl) (.intro ⟨by omega,by omega⟩ ?_));refine X1 _ (tm l (i/64) hl (by omega)) ?_;refine X1 ((i%64:Nat):Int) (wU rfl (by omega) (by omega)) ?_;refine .intro (by omega) (X1 ((gT l (i/64)/2^(i%64):Nat):Int) (fH (by omega)) (.intro (inU (by omega)) ?_));refine ah (λh5=>?_) (λh5=>?_)
 ·refine X1 ((i/64+1:Nat):Int) (wI (by simp) (by omega) (by omega)) ?_;refine X1 _ (tm l (i/64+1) hl (by omega)) ?_;refine X1 ((64-i%64:Nat):Int) (wI (by omega) (by omega) (by omega)) ?_;refine X1 ((64-i%64:Nat):Int) (wU rfl (by omega) (by omega)) ?_;refine .intro (by omega) (X1 _ (uf (by omega)) ?_);have hor:=zb (v:=gT l (i/64)/2^(i%64)) (m:=gT l (i/64+1)*2^(64-i%64)%18446744073709551616) (by omega) (FE _ (by decide));refine X1 _ (orU (by omega) (FE _ (by decide))) ?_;refine X1 _ tq ?_;refine X1 _ (Dy hor) ?_;exact ⟨HJ,r1 (iE (by rw[fin _ (Dz (by omega))])),HJ⟩
 ·refine X1 _ tq ?_;refine X1 _ (Dy (by omega)) ?_;exact ⟨HJ,r1 (iE (by rw[fin _ rfl])),HJ⟩
theorem uy (l m:List Nat) (hl:l.length≤1000000) (hm:m.length≤1000000):Ct P 53 [.c (nSl .u64 l),.c (nSl .u64 m)] [.c (.sc (.bool (decide (l=m))))]:=by
 refine Ct.go aj aa (N:=26) Tryz.func53 rfl rfl rfl rfl ?_;refine .intro (by rw[ai]; omega) ?_;rw[ai];refine .intro (by rw[ai]; omega) ?_;rw[ai];refine dq (λh=>?_) (λh=>?_)
 ·exact ⟨HJ,r1 (boE (decide_eq_false λe=>h (by rw[e])).symm),HJ⟩
 have hlm:l.length=m.length:=by omega
 refine .intro (by rw[ai]; omega) ?_;rw[ai];refine aw aj aa (λi:Nat=>i≤l.length∧l.take i=m.take i) (λi=>[(0,.c (nSl .u64 l)),(1,.c (nSl .u64 m)),(12,.c (nI .i64 l.length)),(13,.c (nI .i64 i))]) (λ_=>[]) (λi=>l.length-i)
  0 ⟨by omega,rfl⟩ ⟨rfl,rfl,rfl,rfl,HJ⟩ HJ (λ_:Unit=>l=m) (λ_=>[]) (λ_=>[]) (λi hi=>?_) (λ_ hp=>?_)
 ·obtain ⟨i1,i2⟩:=hi;refine ah (λh1=>?_) (λh1=>?_)
  ·have hi':i<l.length:=by omega
   refine .intro (by omega) (X1 _ (al rfl hi') ?_);refine .intro (by omega) (X1 _ (al rfl (by omega)) ?_);refine .intro rfl ?_;have e1:l.getD i 0=l[i]:=by simp[EB,hi']
   have e2:m.getD i 0=m[i]:=by simp[EB,show i<m.length by omega]
   refine dq (λh2=>?_) (λh2=>?_)
   ·exact ⟨HJ,r1 (boE (decide_eq_false λe=>h2 (by rw[e])).symm),HJ⟩
   ·refine X1 ((i+1:Nat):Int) (wI1 (by omega)) ?_;refine ⟨i+1,⟨by omega,?_⟩,by omega,⟨rfl,rfl,rfl,rfl,HJ⟩,HJ⟩;rw[EH hi',EH (by omega:i<m.length),i2];congr 2;omega
  ·have e:i=l.length:=by omega
   subst e;rw[E7,hlm,E7]at i2;exact ⟨(),i2,HJ,HJ⟩
 ·exact ⟨HJ,r1 (boE (decide_eq_true hp).symm),HJ⟩
theorem z0 (l m:List Bool) (hl:l.length≤1000000) (hm:m.length≤1000000):Ct P 19 [.c (bP l),.c (bP m)] [.c (.sc (.bool (decide (l=m))))]:=by
 have a1:=iB l.length;have a2:=iB m.length;have a3:=fF l;have a4:=fF m;refine Ct.go aj aa (N:=29) Tryz.func19 rfl rfl rfl rfl ?_;refine X1 _ (et l (by omega)) ?_;refine X1 _ (et m (by omega)) ?_;refine dq (λh=>?_) (λh=>?_)
 ·refine X1 _ (et l (by omega)) ?_;refine X1 _ (et m (by omega)) ?_;refine ⟨HJ,r1 (boE ?_),HJ⟩;rw[decide_eq_false λe=>h (by rw[e])];simpa using h
 ·refine X1 _ (et l (by omega)) ?_;refine aU (λh2=>?_) (λh2=>?_)
  ·refine X1 _ (et l (by omega)) ?_;refine X1 _ (et m (by omega)) ?_;refine ⟨HJ,r1 (boE ?_),HJ⟩;have e1:l=[]:=Fa.1 (by omega);have e2:m=[]:=Fa.1 (by omega);subst e1 e2;rfl
  ·refine X1 _ (uy (bh l) (bh m) (by omega) (by omega)) ?_;refine .intro rfl ?_;refine ⟨HJ,r1 (boE ?_),HJ⟩;by_cases e:l=m
   ·subst e; simp
   ·rw[decide_eq_false e,decide_eq_false λhw=>e (ux (by omega) hw)]
theorem B1 (v:Nat) (hv:v≤1):Ct P 147 [nV v] [.c (nI .u64 v),.c (.sc (.bool true))]:=by
 have hc:v=0∨v=1:=by omega
 rcases hc with rfl | rfl
 ·rw[show nV 0 = .ag [nSl .u64 []] from by rw[←a9 18446744073709551616]];refine Ct.go aj aa (N:=15) Tryz.func147 rfl rfl rfl rfl ?_;refine .intro (by decide) ?_;exact ⟨HJ,r1 rfl,r1 rfl,HJ⟩
 ·have e:dg 18446744073709551616 1=[1]:=by rw[fW (by omega) (by omega),show 1/18446744073709551616=0 from rfl,a9]
  rw[show nV 1 = .ag [nSl .u64 [1]] from by rw[←e]];refine Ct.go aj aa (N:=15) Tryz.func147 rfl rfl rfl rfl ?_;refine .intro (by decide) ?_;refine .intro (by decide) (X1 _ rfl ?_);exact ⟨HJ,r1 rfl,r1 rfl,HJ⟩
theorem uz:bh []=[]:=by unfold bh; rw[show needW ([]:List Bool).length=0 from rfl]; rfl
theorem DA (v k j:Nat) (hv:v<2^j) (hj:j≤900000) (hk:k≤900000):Ct P 101 [nV v,.c (nI .i64 k)] [.c (bP (di v k))]:=by
 have l1:=gq hv (by omega);refine Ct.go (Ty.own_ok [16] aj) aa (N:=39) Tryz.func101 rfl rfl rfl rfl ?_;refine X2 (.own [] [(2,60)]) ?_;refine ⟨_,_,BX,?_⟩;refine X1 ((k:Int)-1) (wI rfl (by omega) (by omega)) ?_;refine tO (r:=61) (k:=60) (i:=0) (sz:=1) rfl rfl rfl ?_;refine aw (Ty.own_ok [16] aj) aa (λi:Nat=>i≤k) (λi=>[(2,.c (.ad 2 0)),(5,.c (.ad 60 0)),(6,.c (eI .i64 ((i:Int)-1)))])
  (λi=>[(2,.var (nV v).cells),(60,.var [.ow 61 1 (needW (di (v/2^i) (k-i)).length),nI .i64 (di (v/2^i) (k-i)).length]),(61,.row 1 (aE .u64 (bh (di (v/2^i) (k-i)))))]) (λi=>i)
  k (by omega) ⟨rfl,rfl,rfl,HJ⟩ ⟨rfl,by rw[G1,show di (v/2^k) 0=[] from rfl,show needW ([]:List Bool).length=0 from rfl]; rfl,by rw[G1,show di (v/2^k) 0=[] from rfl,uz]; rfl,HJ⟩ (λ_:Unit=>True) (λ_=>[(5,.c (.ad 60 0))]) (λ_=>[(60,.var [.ow 61 1 (needW (di v k).length),nI .i64 (di v k).length]),(61,.row 1 (aE .u64 (bh (di v k))))]) (λi hi=>?_) (λ_ _=>?_)
 ·refine ah (λh1=>?_) (λh1=>?_)
  ·obtain ⟨i,rfl⟩:∃ n,i=n+1:=⟨i-1,by omega⟩;have hb:v/2^i≤v:=FU _ _;have hb2:v/2^i/2^1≤v/2^i:=FU _ _;have lb:=gq (v:=v/2^i) (by omega) (by omega:j≤2000000);have lb2:=gq (v:=v/2^i/2^1) (by omega) (by omega:j≤2000000);have lb3:v/2^i/2^1*2^1≤v/2^i:=Nat.div_mul_le_self _ _;have lb4:v/2^i-v/2^i/2^1*2^1=v/2^i%2:=by rw[Nat.pow_one]; omega
   have hbits:di (v/2^i) (k-i)=di (v/2^(i+1)) (k-(i+1))++[decide (v/2^i%2=1)]:=by
    rw[show k-i=k-(i+1)+1 by omega,di,Gh,←Fk]
   have hbl:=iY (k-(i+1)) (v/2^(i+1));have hbt:(decide (v/2^i%2=1)).toNat=v/2^i%2:=by
    by_cases h:v/2^i%2=1
    ·rw[decide_eq_true h,h]; rfl
    ·rw[decide_eq_false h]; show 0=_; omega
   have hadd:=BY (di (v/2^(i+1)) (k-(i+1))) (decide (v/2^i%2=1)) (by omega);refine X1 _ (show Ct P 146 [nV v,.c (eI .i64 (((i+1:Nat):Int)-1))] [nV (v/2^i)] by rw[show ((i+1:Nat):Int)-1=(i:Int) by omega]; exact qn v i (by omega) (by omega)) ?_;refine X1 _ (qn (v/2^i) 1 (by omega) (by omega)) ?_;refine X1 _ (pn (v/2^i/2^1) 1 (by omega) (by omega)) ?_;refine X1 _ (uQ _ _ lb3 (by omega)) ?_;rw[lb4];refine .intro rfl ?_;refine X1 _ (B1 _ (by omega)) ?_;rw[←hbt];refine X2 (.own [(60,1000000),(61,1000001)] [(1000000,60),(200,61)]) ?_;refine ⟨_,_,hadd,?_⟩;refine X1 ((i:Int)-1) (wI (by omega) (by omega) (by omega)) ?_;rw[←hbits];exact ⟨i,by omega,by omega,⟨rfl,rfl,rfl,HJ⟩,⟨rfl,rfl,rfl,HJ⟩⟩
  ·have e:i=0:=by omega
   subst e;exact ⟨(),HJ,⟨rfl,HJ⟩,⟨by rw[Hy,HB,Gv]; rfl,by rw[Hy,HB,Gv]; rfl,HJ⟩⟩
 ·exact ⟨HJ,r1 rfl,HJ⟩
theorem wP (l:List Bool) (i:Nat) (hi:i<l.length):valB (l.take (i+1))=2*valB (l.take i)+(l.getD i false).toNat:=by
 rw[EH hi,pK,EB,EY hi,F8]
theorem uA (l:List Bool) (hl:l.length≤900000):Ct P 50 [.c (bP l)] [qP (oN l)]:=by
 have hlt:=λi=>EM (mW (l.take i)) (ER (n:=2) (by omega) (show (l.take i).length≤l.length by rw[EQ]; omega))
 refine Ct.go aj aa (N:=31) Tryz.func50 rfl rfl rfl rfl ?_;refine X1 _ (fX 0 (by omega)) ?_;refine X1 _ (et l (by omega)) ?_;refine aw aj aa (λi:Nat=>i≤l.length) (λi=>[(0,.c (bP l)),(2,.c (.ad 2 0)),(3,.c (.ad 3 0)),(9,.c (nI .i64 l.length)),(10,.c (nI .i64 i))])
  (λi=>[(2,.var [.sc (.slice none 0 0),.sc (.slice none 0 0)]),(3,.var (nV (valB (l.take i))).cells)]) (λi=>l.length-i)
  0 (by omega) ⟨rfl,rfl,rfl,rfl,rfl,HJ⟩ ⟨rfl,rfl,HJ⟩ (λ_:Unit=>True) (λ_=>[(0,.c (bP l)),(2,.c (.ad 2 0)),(3,.c (.ad 3 0))]) (λ_=>[(2,.var [.sc (.slice none 0 0),.sc (.slice none 0 0)]),(3,.var (nV (valB l)).cells)]) (λi hi=>?_) (λ_ _=>?_)
 ·refine ah (λh1=>?_) (λh1=>?_)
  ·have hi':i<l.length:=by omega
   have hlen:=gq (hlt i) (by omega);have hb:(l.getD i false).toNat≤1:=by cases l.getD i false<;>decide
   have l2:=gq (v:=valB (l.take i)*2^1) (k:=l.length+1) (kR (hlt i)) (by omega);have l3:=gq (v:=(l.getD i false).toNat) (k:=1) (by omega) (by omega);have hv:valB (l.take i)*2^1+(l.getD i false).toNat=valB (l.take (i+1)):=by rw[wP l i hi',Nat.pow_one]; omega
   refine X1 _ (pn _ 1 (by omega) (by omega)) ?_;refine X1 _ (B0 l i (by omega) hi') ?_;refine X1 _ (fX _ (by omega)) ?_;refine X1 _ (mH _ _ (by omega) (by omega)) ?_;rw[hv];refine X1 ((i+1:Nat):Int) (wI1 (by omega)) ?_;exact ⟨i+1,by omega,by omega,⟨rfl,rfl,rfl,rfl,rfl,HJ⟩,⟨rfl,rfl,HJ⟩⟩
  ·have e:i=l.length:=by omega
   subst e;exact ⟨(),HJ,⟨rfl,rfl,rfl,HJ⟩,⟨rfl,by rw[E7]; rfl,HJ⟩⟩
 ·have h1:(1:Nat)<2^(l.length+1):=EM (by decide) (ER (n:=2) (by omega) (show 1≤l.length+1 by omega));have l1:=gq h1 (by omega);refine X1 _ (fX 1 (by omega)) ?_;refine X1 _ (et l (by omega)) ?_;refine X1 _ (pn 1 l.length (by omega) (by omega)) ?_;rw[Fn];refine X1 _ (kQ (k:=l.length+1) (Nat.pos_iff_ne_zero.1 (Fv _)) (EM (mW l) (ER (by omega) (by omega))) (Nat.pow_lt_pow_right (by omega) (by omega)) (by omega)) ?_;refine .intro rfl ?_;exact ⟨HJ,rc rfl,HJ⟩
theorem DB {p:Fr2 × Fr2} {j k:Nat} (h:Bd j p.1):vK p k<2^(j+k+1):=by
 have h1:Bd (j+k) (p.1.1*2^k,p.1.2):=⟨h.pos,kR h.n,EM h.d (ER (by omega) (by omega))⟩;exact Du h1
theorem B2 {p:Fr2 × Fr2} {j k0:Nat} (h1:Bd j p.1) (h2:Bd j p.2) (hr:Nat.gcd p.1.1 p.1.2=1) (hc:IsCode p k0) (hj:j≤120000) (hk:k0≤300000):Ct P 47 [pA p] [.c (bP (di (vK p k0) k0))]:=by
 have he:=ep h1 h2;refine Ct.go aj aa (N:=32) Tryz.func47 rfl rfl rfl rfl ?_;refine ci aj aa (λk:Nat=>k≤k0) (λk=>[(1,.c (.ad 1 0)),(3,.c (nI .i64 k))]) (λ_=>[(1,.var (pA p).cells)]) (λk=>k0-k)
  0 (by omega) ⟨rfl,rfl,HJ⟩ ⟨rfl,HJ⟩ (λk hk'=>?_)
 have ht:=ta (j:=k) h1;have hup:upF (fR (p.1.1*2^k) p.1.2)=vK p k:=Dq h1.pos;have hv:=DB (k:=k) h1;have hv1:vK p k+1<2^(j+k+2):=by rw[Fk]; omega
 have ho:(1:Nat)<2^(j+k+2):=EM (by decide) (ER (n:=2) (by omega) (show 1≤j+k+2 by omega));have lo:=gq ho (by omega);have lv:=gq hv (by omega);have hte:=ta (j:=k) he;have hw:fR (vK p k+1) 1=(vK p k+1,1):=va (Hq _);have hof:=kQ (k:=j+k+2) (n:=vK p k+1) (d:=1) (by omega) hv1 ho (by omega);rw[hw]at hof;have hcmp:=mL (vK p k+1) 1 (fR ((bG p.1 p.2).1*2^k) (bG p.1 p.2).2).1 (fR ((bG p.1 p.2).1*2^k) (bG p.1 p.2).2).2 (cx (az hv1 (by omega)) (by omega)) (cx hte (by omega));rw[gQ hte.pos,show dn 1=1 from rfl,F2]at hcmp;have hup2:=Dw ht (by omega);rw[hup]at hup2;refine X1 _ (tb h1 (by omega)) ?_;refine X1 _ hup2 ?_;refine X1 _ (fX 1 (by omega)) ?_;refine X1 _ (mH _ _ (by omega) (by omega)) ?_;refine X1 _ (fX 1 (by omega)) ?_;refine X1 _ hof ?_;refine .intro rfl ?_;refine X1 _ (vq h1 h2 hr (by omega)) ?_;refine X1 _ (tb he (by omega)) ?_;refine X1 _ hcmp ?_;refine .intro rfl ?_;have hgood:good p k=true↔bF (((vK p k+1)*(fR ((bG p.1 p.2).1*2^k) (bG p.1 p.2).2).2:Nat):Int) (((fR ((bG p.1 p.2).1*2^k) (bG p.1 p.2).2).1:Nat):Int)≤0:=by
  unfold good jE;rw[decide_eq_true_eq,←D4 he.pos];unfold bF;split
  ·exact ⟨λ_=>by omega,λ_=>by omega⟩
  ·split
   ·exact ⟨λ_=>by omega,λ_=>by omega⟩
   ·exact ⟨λ_=>by omega,λ_=>by omega⟩
 refine ah (λh5=>?_) (λh5=>?_)
 ·have hg:=hgood.2 h5;have e:k=k0:=by
   rcases Ft k k0 with h | h
   ·have:=hc.least k h; rw[hg]at this; cases this
   ·omega
  subst e;refine X1 _ (DA (vK p k) k (j+k+1) hv (by omega) (by omega)) ?_;exact ⟨HJ,r1 rfl,HJ⟩
 ·have hne:k≠k0:=λe=>h5 (hgood.1 (by rw[e]; exact hc.good))
  refine X1 ((k+1:Nat):Int) (wI (by simp) (by omega) (by omega)) ?_;exact ⟨k+1,by omega,by omega,⟨rfl,rfl,HJ⟩,⟨rfl,HJ⟩⟩
end
section
abbrev zP:Ob:=.var [.sc (.slice none 0 0),.sc (.slice none 0 0),.sc (.slice none 0 0),.sc (.slice none 0 0)]
abbrev rA (p:Fr2 × Fr2):A1:=.ag [dV p.1.1,dV p.1.2,dV p.2.1,dV p.2.2]
section
variable {Lc:List (List Cnt)} {n B:Nat}
theorem z6 (hB:SB Lc n B) (H:List Int) (hl:H.length≤1000000) (w:Nat) (hw:w≤n):Ct P 54 [rM Lc n,.c (iSl H),.c (nI .i64 w)] [rA (cB Lc n H w)]:=by
 have h6:=hB.x.w6;have hb:=hB.b;have h0:dV 0=nSl .i64 []:=by rw[dV,a9]
 refine Ct.go aj aa (N:=29) Tryz.func54 rfl rfl rfl rfl ?_;refine X1 _ (aI 0 (by omega)) ?_;refine X1 _ (sQ hB.x H hl w) ?_;refine .intro rfl ?_;refine aw aj aa (λv:Nat=>v≤w) (λv=>[(1,.c (iSl H)),(2,.c (nI .i64 w)),(3,.c (.ad 3 0)),(6,.c (.ad 6 0)),(7,.c (.ad 7 0)),(8,.c (nI .i64 v))])
  (λv=>[(6,zP),(3,.var (rM Lc n).cells),(7,.var (rA (bz Lc n H v,bp Lc n H w)).cells)]) (λv=>w-v)
  0 (by omega) ⟨rfl,rfl,rfl,rfl,rfl,rfl,HJ⟩ ⟨rfl,rfl,rfl,HJ⟩ (λ_:Unit=>True) (λ_=>[(6,.c (.ad 6 0)),(7,.c (.ad 7 0))]) (λ_=>[(6,zP),(7,.var (rA (cB Lc n H w)).cells)]) (λv hv=>?_) (λ_ _=>?_)
 ·refine ah (λh1=>?_) (λh1=>?_)
  ·refine X1 _ (sQ hB.x H hl v) ?_;refine X1 _ (kF (hB.sum H (w:=v) (by omega)) (hB.prob H (v:Int)) (by omega) (by omega)) ?_;refine .intro rfl ?_;refine X1 ((v+1:Nat):Int) (wI (by simp) (by omega) (by omega)) ?_;exact ⟨v+1,by omega,by omega,⟨rfl,rfl,rfl,rfl,rfl,rfl,HJ⟩,⟨rfl,rfl,rfl,HJ⟩⟩
  ·have e:v=w:=by omega
   subst e;exact ⟨(),HJ,⟨rfl,rfl,HJ⟩,⟨rfl,by unfold cB; rw[E4]; rfl,HJ⟩⟩
 ·exact ⟨HJ,rc rfl,HJ⟩
set_option maxHeartbeats 2000000 in
theorem uB (hB:SB Lc n B) (ids:List Int) (hw:InW n ids) (hl:ids.length≤25):Ct P 21 [rM Lc n,.c (iSl ids)] [rA (bf Lc n ids)]:=by
 have hb:=hB.b;refine Ct.go aj aa (N:=50) Tryz.func21 rfl rfl rfl rfl ?_;refine X1 _ (aI 0 (by omega)) ?_;refine X1 _ (aI 1 (by omega)) ?_;refine Bf [12] ?_;refine dG aj aa ?_;refine qj (λi:Nat=>i≤ids.length) (λi=>[(1,.c (iSl ids)),(2,.c (.ad 2 0)),(4,.c (.ad 4 0)),(5,.c (.ad 5 0)),(6,.c (iSl ([1]++ids.take i))),(7,.c (nI .i64 i))])
  (λi=>[(4,zP),(2,.var (rM Lc n).cells),(5,.var (rA (bf Lc n (ids.take i))).cells)]) (λi=>ids.length-i)
  0 (by omega) ⟨rfl,rfl,rfl,rfl,rfl,rfl,HJ⟩ ⟨rfl,rfl,rfl,HJ⟩ (λ_:Unit=>True) (λ_=>[(4,.c (.ad 4 0)),(5,.c (.ad 5 0))]) (λ_=>[(4,zP),(5,.var (rA (bf Lc n ids)).cells)]) (λi hi=>?_) (λ_ _=>?_)
 ·refine oK ?_;refine ej aj aa ?_;refine .intro (by rw[ac]; omega) ?_;rw[ac];refine sd (b:=decide ((i:Int)<(ids.length:Int))) rfl (λe=>?_) (λe=>?_)
  ·have hi':i<ids.length:=by have:=of_decide_eq_true e; omega
   have hst:=gu (Lc:=Lc) (n:=n) ids i hi';have htk:ids.take (i+1)=ids.take i++[ids[i]]:=EH hi';obtain ⟨w0,w1⟩:=hw ids[i] (EO hi');have hsi:(aF ids)[(i:Int).toNat]? = some [eI .i64 ids[i]]:=by rw[E4]; simp[aF,hi']
   obtain ⟨w,hwe⟩:∃ w:Nat,ids[i]=(w:Int):=⟨ids[i].toNat,by omega⟩;rw[hwe]at hst htk hsi w1;obtain ⟨b1,b2,_⟩:=kS hB hw i (by omega);have hpa:Bd B (cB Lc n ([1]++ids.take i) (w:Int)).1:=by unfold cB; rw[E4]; exact hB.sum _ (by omega)
   have hpb:Bd B (cB Lc n ([1]++ids.take i) (w:Int)).2:=hB.prob _ _;have hBi:B*i≤4000*25:=FF hb (by omega);have hlen:([1]++ids.take i).length=i+1:=by rw[EC,EQ]; show 1+_=_; omega
   refine se ?_;refine oK ?_;refine jw ?_;refine dG aj aa ?_;refine .intro (by omega) (X1 _ hsi ?_);refine X1 _ (z6 hB ([1]++ids.take i) (by omega) w (by omega)) ?_;refine .intro rfl ?_;refine X1 _ (dK b2 hpa (by omega) (by omega)) ?_;refine X1 _ (kF b1 (bc b2 hpa) (by omega) (by omega)) ?_;refine X1 _ (dK b2 hpb (by omega) (by omega)) ?_;refine .intro rfl ?_;refine ⟨rfl,by rw[ac,hlen]; show (0+(i+1)+768)*8≤_; omega,by rw[ac,hlen]; show 0+(i+1)≤_; omega,bM,aV,?_⟩;refine .intro (by omega) (X1 _ hsi ?_);refine BU (by rfl) (by show (aF ([1]++ids.take i)).length+1≤_; rw[ac,hlen]; omega) (by decide) aV (ar rfl) ?_;refine .intro rfl ?_;refine Bf [40] ?_;refine dG aj aa ?_;refine X1 ((i+1:Nat):Int) (wI1 (by omega)) ?_;refine ⟨i+1,by omega,by omega,⟨rfl,rfl,rfl,rfl,?_,rfl,HJ⟩,⟨rfl,rfl,?_,HJ⟩⟩
   ·rw[htk,←GF,show iSl ([1]++ids.take i++[(w:Int)]) = .sl 1 (aF ([1]++ids.take i)++[[eI .i64 w]]) by simp[aF]];rfl
   ·rw[hst]; rfl
  ·have e1:i=ids.length:=by have:=of_decide_eq_false e; omega
   subst e1;rw[E7];exact dG aj aa ⟨(),HJ,⟨rfl,rfl,HJ⟩,⟨rfl,rfl,HJ⟩⟩
 ·exact dG aj aa ⟨HJ,rc rfl,HJ⟩
end
end
section
def inB (n:Nat) (w:Int):Bool:=decide (0≤w)&&decide (w<n)
theorem inB_iff {n:Nat} {ids:List Int}:ids.all (inB n)=true↔InW n ids:=by
 unfold inB InW;rw[Fz];simp
def jF (n:Nat) (ids:List Int):Int:=if ids.length>64 then 5 else if ids.all (inB n)=true then 0 else 8
theorem uC {n:Nat} {ids:List Int} (h:jF n ids=0):ids.length≤64∧InW n ids:=by
 unfold jF at h;split at h
 ·omega
 ·split at h
  ·rename_i h1 h2; exact ⟨by omega,inB_iff.1 h2⟩
  ·omega
section
variable {Lc:List (List Cnt)} {n B:Nat}
theorem oE (hx:XOk Lc n) (ids:List Int) (hl:ids.length≤1000000):CtO P 43 (xE Lc n) [.c (.ad 1000000 0),.c (iSl ids)] (xE Lc n) [.c (eI .i64 (jF n ids))]:=by
 have h6:=hx.w6;refine Ct.io aj aa (N:=29) Tryz.func43 rfl rfl rfl rfl ?_;refine .intro (by rw[ac]; omega) ?_;rw[ac];refine ah (λh1=>?_) (λh1=>?_)
 ·exact ⟨HJ,cC (l:=[]) rfl rfl rfl trivial,r1 (iE (by rw[jF,if_pos (by omega)])),HJ⟩
 refine .intro (by rw[ac]; omega) ?_;rw[ac];refine aw aj aa (λi:Nat=>i≤ids.length∧(ids.take i).all (inB n)=true) (λi=>[(0,.c (.ad 1000000 0)),(14,.c (iSl ids)),(15,.c (nI .i64 ids.length)),(16,.c (nI .i64 i))]) (λ_=>[(1000000,xC Lc n 1000001),(1000001,.me false (MOk Lc))]) (λi=>ids.length-i)
  0 ⟨by omega,rfl⟩ ⟨rfl,rfl,rfl,rfl,HJ⟩ ⟨rfl,rfl,HJ⟩ (λ_:Unit=>ids.all (inB n)=true) (λ_=>[]) (λ_=>[(1000000,xC Lc n 1000001),(1000001,.me false (MOk Lc))]) (λi hi=>?_) (λ_ hp=>?_)
 ·obtain ⟨i1,i2⟩:=hi;refine ah (λh2=>?_) (λh2=>?_)
  ·have hi':i<ids.length:=by omega
   have hget:(aF ids)[((i:Nat):Int).toNat]? = some [eI .i64 ids[i]]:=by rw[E4]; simp[aF,hi']
   have hts:ids.take (i+1)=ids.take i++[ids[i]]:=EH hi';have hbad:inB n ids[i]=false→jF n ids=8:=λhb=>by
    rw[jF,if_neg (by omega),if_neg];intro ha;rw[Fz]at ha;rw[ha _ (EO hi')]at hb; cases hb
   refine .intro (by omega) (X1 _ hget ?_);generalize ids[i]=w at *
   refine ah (λh3=>?_) (λh3=>?_)
   ·exact ⟨HJ,cC (l:=[]) rfl rfl rfl trivial,r1 (iE (by rw[hbad (by unfold inB; rw[decide_eq_false (by omega)]; rfl)])),HJ⟩
   ·refine X2 (.own σx σx) ?_;refine ⟨_,_,gr,?_⟩;refine ah (λh4=>?_) (λh4=>?_)
    ·exact ⟨HJ,cC (l:=[]) rfl rfl rfl trivial,r1 (iE (by rw[hbad (by unfold inB; rw[decide_eq_false (show ¬ w<(n:Int) by omega),Hn])])),HJ⟩
    ·refine X1 ((i+1:Nat):Int) (wI1 (by omega)) ?_;refine ⟨i+1,⟨by omega,?_⟩,by omega,⟨rfl,rfl,rfl,rfl,HJ⟩,⟨rfl,rfl,HJ⟩⟩;rw[hts,List.all_append,i2];simp[inB]; omega
  ·have e:i=ids.length:=by omega
   subst e;rw[E7]at i2;exact ⟨(),i2,HJ,⟨rfl,rfl,HJ⟩⟩
 ·exact ⟨HJ,cC (l:=[]) rfl rfl rfl trivial,r1 (iE (by rw[jF,if_neg (by omega),if_pos hp])),HJ⟩
noncomputable def kOf (p:Fr2 × Fr2):Nat:=by classical exact if h:∃ k,IsCode p k then h.choose else 0
theorem z7 {p:Fr2 × Fr2} {k:Nat} (h:IsCode p k):kOf p=k:=by
 have hx:∃ k,IsCode p k:=⟨k,h⟩;unfold kOf;rw[dif_pos hx];exact hx.choose_spec.uniq h
theorem qW {p:Fr2 × Fr2} {j:Nat} (h1:Bd j p.1) (h2:Bd j p.2) (h0:p.2.1≠0):IsCode p (kOf p)∧kOf p≤j+1:=by
 have b2:(0:Rat)<p.2.2:=Gm.2 (Fb h2.pos);have hg:good p (j+1)=true:=by
  refine BT h1.pos h2.pos ?_;have e:((2^(j+1):Nat):Rat)*qv p.2=(((2^(j+1):Nat):Rat)*p.2.1)/p.2.2:=by unfold qv; grind
  rw[e,gM b2];have h3:2*p.2.2≤2^(j+1)*p.2.1:=by
   have:=h2.d;have h4:2^(j+1)*1≤2^(j+1)*p.2.1:=Fw _ (by omega);rw[Fk]at h4 ⊢;omega
  have:=Gi.2 h3;simp only[FI]at this;exact this
 obtain ⟨k,hk,hc⟩:=zU hg;rw[z7 hc];exact ⟨hc,hk⟩
def eV (Lc:List (List Cnt)) (n:Nat) (ids:List Int):Fr2 × Fr2:=bf Lc n (ids++[2])
noncomputable def encB (Lc:List (List Cnt)) (n:Nat) (ids:List Int):List Bool:=di (vK (eV Lc n ids) (kOf (eV Lc n ids))) (kOf (eV Lc n ids))
def oO (Lc:List (List Cnt)) (n:Nat) (ids:List Int):Int:=if jF n ids≠0 then jF n ids else if idx 1 ids≥0∨idx 2 ids≥0 then 1 else if (eV Lc n ids).2.1=0 then 7 else 0
noncomputable def encR (Lc:List (List Cnt)) (n:Nat) (ids:List Int):A1:=if oO Lc n ids=0 then .c (bP (encB Lc n ids)) else tj
theorem z8 {ids:List Int} (h:oO Lc n ids=0):ids.length≤64∧InW n ids∧idx 1 ids<0∧idx 2 ids<0∧(eV Lc n ids).2.1≠0:=by
 unfold oO at h;split at h
 ·rename_i h1; exact absurd h h1
 ·rename_i h1;obtain ⟨a1,a2⟩:=uC (by omega:jF n ids=0);split at h
  ·omega
  ·split at h
   ·omega
   ·rename_i h2 h3;exact ⟨a1,a2,by omega,by omega,h3⟩
theorem oF (hB:SB Lc n B) (h2:2<n) {ids:List Int} (hw:InW n ids):Bd (1+B*(ids.length+1)) (eV Lc n ids).1∧Bd (1+B*(ids.length+1)) (eV Lc n ids).2∧Nat.gcd (eV Lc n ids).1.1 (eV Lc n ids).1.2=1:=by
 have hw2:InW n (ids++[2]):=λx hx=>by
  rcases Fl.1 hx with hx | hx
  ·exact hw x hx
  ·simp at hx; subst hx; omega
 have:=kS hB hw2 (ids.length+1) (by simp);rw[Fj (by simp)]at this;exact this
theorem z9 (ids:List Int):(encB Lc n ids).length=kOf (eV Lc n ids):=iY _ _
theorem pU (hB:SB Lc n B) (h2:2<n) (ids:List Int) (hl:ids.length≤24):CtO P 13 (xE Lc n) [.c (.ad 1000000 0),.c (iSl ids)] (xE Lc n) [encR Lc n ids,.c (eI .i64 (oO Lc n ids))]:=by
 have hb:=hB.b;refine Ct.keep (Ty.own_ok [46] aj) aa [] (N:=31) Tryz.func13 rfl rfl rfl rfl ?_;refine X2 (.own σx σx) ?_;refine ⟨_,_,oE hB.x ids (by omega),?_⟩;refine dq (λh1=>?_) (λh1=>?_)
 ·have e:oO Lc n ids=jF n ids:=if_pos h1;have e2:encR Lc n ids=tj:=if_neg (by rw[e]; exact h1);rw[e,e2];exact ⟨HJ,cC (l:=[]) rfl rfl rfl trivial,r1 rfl,r1 rfl,HJ⟩
 obtain ⟨_,hw⟩:=uC h1;have e0:oO Lc n ids=if idx 1 ids≥0∨idx 2 ids≥0 then 1 else if (eV Lc n ids).2.1=0 then 7 else 0:=if_neg (by omega)
 refine X1 _ (ik ids 1 (by omega)) ?_;refine ah (λh3=>?_) (λh3=>?_)
 ·rw[if_pos (.inl h3)]at e0;have e2:encR Lc n ids=tj:=if_neg (by rw[e0]; decide);rw[e0,e2];exact ⟨HJ,cC (l:=[]) rfl rfl rfl trivial,r1 rfl,r1 rfl,HJ⟩
 refine X1 _ (ik ids 2 (by omega)) ?_;refine ah (λh4=>?_) (λh4=>?_)
 ·rw[if_pos (.inr h4)]at e0;have e2:encR Lc n ids=tj:=if_neg (by rw[e0]; decide);rw[e0,e2];exact ⟨HJ,cC (l:=[]) rfl rfl rfl trivial,r1 rfl,r1 rfl,HJ⟩
 rw[if_neg (by omega)]at e0;have hw2:InW n (ids++[2]):=λx hx=>by
  rcases Fl.1 hx with hx | hx
  ·exact hw x hx
  ·simp at hx; subst hx; omega
 obtain ⟨b1,b2,b3⟩:=oF hB h2 hw;have hBl:B*(ids.length+1)≤4000*25:=FF hb (by omega);refine X2 (.own [] [(5,68)]) ?_;refine ⟨_,_,lB ids (by omega),?_⟩;refine ⟨by rw[ac],by rw[ac]; show (ids.length+1+768)*8≤_; omega,by rw[ac]; show ids.length+1≤_; omega,aV,ar rfl,?_⟩;refine X2 (.own [(1000000,1000000),(1000001,1000001),(68,1000002)] [(1000000,1000000),(1000001,1000001),(1000002,68)]) ?_;refine ⟨_,_,zY hB (ids++[2]) hw2 (by simp; omega) _ (by simp[aF]; rfl) _ (by show ((aF ids)++_).length=_; simp[aF]),?_⟩;refine X1 _ (iq _ _ (EG (gq b2.n (by omega)) (by omega))) ?_;refine aP (λh5=>?_) (λh5=>?_)
 ·have h6:(bf Lc n (ids++[2])).2.1=0:=by simpa using h5
  rw[if_pos (show (eV Lc n ids).2.1=0 from h6)]at e0;have e2:encR Lc n ids=tj:=if_neg (by rw[e0]; decide);rw[e0,e2];exact ⟨HJ,cC (l:=[]) rfl rfl rfl trivial,r1 rfl,r1 rfl,HJ⟩
 ·have h6:(eV Lc n ids).2.1≠0:=λh=>by
   have:(bf Lc n (ids++[2])).2.1=0:=h;rw[this]at h5; simp at h5
  rw[if_neg h6]at e0;have e2:encR Lc n ids = .c (bP (encB Lc n ids)):=if_pos e0;obtain ⟨c1,c2⟩:=qW b1 b2 h6;rw[e0,e2];refine X1 _ (B2 b1 b2 b3 c1 (by omega) (by omega)) ?_;exact ⟨HJ,cC (l:=[]) rfl rfl rfl trivial,r1 rfl,r1 rfl,HJ⟩
abbrev zA:A1:=.ag [.sc (.slice none 0 0),.sc (.slice none 0 0)]
theorem wQ (hB:SB Lc n B) (ids:List Int) (hl:ids.length≤25):CtO P 28 (xE Lc n) [.c (.ad 1000000 0),.c (iSl ids)] (xE Lc n)
  [if jF n ids=0 then qP (bf Lc n ids).1 else zA,if jF n ids=0 then qP (bf Lc n ids).2 else zA,.c (eI .i64 (jF n ids))]:=by
 have hb:=hB.b;refine Ct.io aj aa (N:=24) Tryz.func28 rfl rfl rfl rfl ?_;refine X2 (.own σx σx) ?_;refine ⟨_,_,oE hB.x ids (by omega),?_⟩;refine dq (λh1=>?_) (λh1=>?_)
 ·rw[if_neg h1,if_neg h1];exact ⟨HJ,cC (l:=[]) rfl rfl rfl trivial,rc rfl,rc rfl,r1 rfl,HJ⟩
 ·obtain ⟨_,hw⟩:=uC h1;rw[if_pos h1,if_pos h1,h1];refine X2 (.own σx σx) ?_;refine ⟨_,_,zZ hB ids hw hl,?_⟩;refine .intro rfl ?_;exact ⟨HJ,cC (l:=[]) rfl rfl rfl trivial,rc rfl,rc rfl,r1 rfl,HJ⟩
end
end
section
def plB (w:Int):Bool:=w != 1&&w != 2
theorem tr {f:Int→Bool} (l:List Int) (i:Nat) (h:i<l.length):(l.take (i+1)).all f=((l.take i).all f&&f l[i]):=by
 rw[EH h,List.all_append]; simp
theorem B3 {l:List Int} {i:Nat} (h:i<l.length):(aF l)[(i:Int).toNat]? = some [eI .i64 l[i]]:=by rw[E4]; simp[aF,h]
theorem uD (ids:List Int) (n:Nat) (hl:ids.length≤1000000):Ct P 20 [.c (iSl ids),.c (nI .i64 n)] [.c (.sc (.bool (ids.all (inB n)))),.c (.sc (.bool (ids.all plB)))]:=by
 refine Ct.go aj aa (N:=48) Tryz.func20 rfl rfl rfl rfl ?_;refine qj (λi:Nat=>i≤ids.length) (λi=>[(0,.c (iSl ids)),(1,.c (nI .i64 n)),(6,.c (.sc (.bool ((ids.take i).all (inB n))))),(7,.c (.sc (.bool ((ids.take i).all plB)))),(8,.c (nI .i64 i))]) (λ_=>[]) (λi=>ids.length-i)
  0 (by omega) ⟨rfl,rfl,rfl,rfl,rfl,HJ⟩ HJ (λ_:Unit=>True) (λ_=>[(6,.c (.sc (.bool (ids.all (inB n))))),(7,.c (.sc (.bool (ids.all plB))))]) (λ_=>[]) (λi hi=>?_) (λ_ _=>?_)
 ·refine oK ?_;refine ej aj aa ?_;refine .intro (by rw[ac]; omega) ?_;rw[ac];refine sd (b:=decide ((i:Int)<(ids.length:Int))) rfl (λe=>?_) (λe=>?_)
  ·have hi':i<ids.length:=by have:=of_decide_eq_true e; omega
   have a1:=tr (f:=inB n) ids i hi';have a2:=tr (f:=plB) ids i hi';have hg:=B3 hi';generalize ids[i]=w at *
   generalize (ids.take i).all (inB n)=r at *
   generalize (ids.take i).all plB=q at *
   refine se ?_;refine oK ?_;refine jw ?_;refine mq aj aa (G2:=Unit) (λ_=>True) (λ_=>[(0,.c (iSl ids)),(1,.c (nI .i64 n)),(6,.c (.sc (.bool (r&&inB n w)))),(7,.c (.sc (.bool q))),(8,.c (nI .i64 i))]) (λ_=>[]) ?_ (λ_ _=>?_)
   ·refine aP (λh1=>?_) (λh1=>?_)
    ·refine .intro (by omega) (X1 _ hg ?_);refine ah (λh2=>?_) (λh2=>?_)
     ·refine .intro (by omega) (X1 _ hg ?_);exact ⟨(),HJ,⟨rfl,rfl,boE (by rw[h1,Hg,inB,decide_eq_true (show 0≤w from h2),Hg]),rfl,rfl,HJ⟩,HJ⟩
     ·exact ⟨(),HJ,⟨rfl,rfl,boE (by rw[h1,inB,decide_eq_false (show ¬ 0≤w from h2)]; rfl),rfl,rfl,HJ⟩,HJ⟩
    ·exact ⟨(),HJ,⟨rfl,rfl,boE (by rw[h1]; rfl),rfl,rfl,HJ⟩,HJ⟩
   ·refine dG aj aa ?_;refine aP (λh1=>?_) (λh1=>?_)
    ·rw[h1,Hg]at a2;refine .intro (by omega) (X1 _ hg ?_);refine dq (λh2=>?_) (λh2=>?_)
     ·refine .intro (by omega) (X1 _ hg ?_);refine dG aj aa ?_;refine X1 ((i+1:Nat):Int) (wI1 (by omega)) ?_;exact ⟨i+1,by omega,by omega,⟨rfl,rfl,boE a1.symm,boE (by rw[a2,plB,bne_iff_ne.2 h2,Hg]),rfl,HJ⟩,HJ⟩
     ·refine dG aj aa ?_;refine X1 ((i+1:Nat):Int) (wI1 (by omega)) ?_;exact ⟨i+1,by omega,by omega,⟨rfl,rfl,boE a1.symm,boE (by rw[a2,h2]; rfl),rfl,HJ⟩,HJ⟩
    ·rw[h1,HA]at a2;refine dG aj aa ?_;refine X1 ((i+1:Nat):Int) (wI1 (by omega)) ?_;exact ⟨i+1,by omega,by omega,⟨rfl,rfl,boE a1.symm,boE a2.symm,rfl,HJ⟩,HJ⟩
  ·have e1:i=ids.length:=by have:=of_decide_eq_false e; omega
   subst e1;rw[E7];exact dG aj aa ⟨(),HJ,⟨rfl,rfl,HJ⟩,HJ⟩
 ·exact dG aj aa ⟨HJ,r1 rfl,r1 rfl,HJ⟩
end
section
section
variable {Lc:List (List Cnt)} {n B:Nat}
theorem oG {h:List Int} {u:Fr2}:∀ (f v:Nat),(∀ k,v≤k→k<v+f→inP Lc n h u k=false)→pI Lc n h u f v = -1
 | 0,v,_=>rfl
 | f+1,v,hm=>by
  unfold pI;rw[if_neg (by rw[hm v (by omega) (by omega)]; simp)];exact oG f (v+1) λk h1 h2=>hm k (by omega) (by omega)
theorem Aa (hB:SB Lc n B) (H:List Int) (hP:vr Lc n H) (u:Fr2) {j:Nat} (hu:Bd j u) (hj:j≤900000):CtO P 29 (xX Lc n (hO H)) [.c (.ad 1000000 0),.c (.ow 1000002 1 H.length),qP u] (xX Lc n (hO H)) [.c (eI .i64 (jj Lc n H u))]:=by
 have h6:=hB.x.w6;have hb:=hB.b;refine Ct.io aj aa (N:=27) Tryz.func29 rfl rfl rfl rfl ?_;refine X2 (.own σ3 νP) ?_;refine ⟨_,_,tf H,?_⟩;refine yR aj aa σP [1000000,1000001,1000002] (pR hB H hP) Tryz.func114 rfl rfl rfl rfl rfl rfl rfl tg [5,6] rfl (G:=Unit) (λi _=>i≤n∧∀ k,k<i→inP Lc n H u k=false) (λ_ _=>[(5,.c (.ad 5 0)),(6,.c (.ad 6 0))])
  (λ_ _=>[(5,.var (qP u).cells),(6,.var [eI .i64 0])]) () ⟨by omega,λk hk=>by omega⟩ ⟨rfl,rfl,HJ⟩ ⟨rfl,rfl,HJ⟩ (λ_ _=>rfl) (λi _ args hg hi=>?_) (λ_ hi=>?_)
 ·obtain ⟨hin,rfl⟩:=pS hg;obtain ⟨i1,i2⟩:=hi;have hsb:=hB.sum H (w:=i) (by omega);have hpb:=hB.prob H (i:Int);have hend:=vq (p:=cB Lc n H i) (j:=B) (k:=B) (show Bd B (bz Lc n H (i:Int).toNat) by rw[E4]; exact hsb) hpb (show Nat.gcd (bz Lc n H (i:Int).toNat).1 (bz Lc n H (i:Int).toNat).2=1 by rw[E4]; exact pH hB.x H i) (by omega);have hsb2:Bd B (bz Lc n H (i+1)):=hB.sum H (w:=i+1) (by omega);have e1:bG (cB Lc n H i).1 (cB Lc n H i).2=bz Lc n H (i+1):=by show bG (bz Lc n H (i:Int).toNat) _=_; rw[E4]; rfl
  rw[e1]at hend;have e2:(cB Lc n H i).1=bz Lc n H i:=by show bz Lc n H (i:Int).toNat=_; rw[E4]
  have hc1:=mL u.1 u.2 (bz Lc n H i).1 (bz Lc n H i).2 (cx hu (by omega)) (cx hsb (by omega));have hc2:=mL u.1 u.2 (bz Lc n H (i+1)).1 (bz Lc n H (i+1)).2 (cx hu (by omega)) (cx hsb2 (by omega));rw[gQ hsb.pos,gQ hu.pos]at hc1;rw[gQ hsb2.pos,gQ hu.pos]at hc2;rw[←e2]at hc1;have hin1:inP Lc n H u i=(decide (bF ((u.1*(bz Lc n H i).2:Nat):Int) (((bz Lc n H i).1*u.2:Nat):Int)≥0)&&decide (bF ((u.1*(bz Lc n H (i+1)).2:Nat):Int) (((bz Lc n H (i+1)).1*u.2:Nat):Int)<0)):=by
   unfold inP;congr 1
   ·refine decide_eq_decide.2 ?_;unfold bF;split
    ·constructor<;>intro h<;>omega
    ·split<;>constructor<;>intro h<;>omega
   ·refine decide_eq_decide.2 ?_;rw[cmpI_lt];omega
  rw[←e2]at hin1;have next:inP Lc n H u i=false→∃ g':Unit,(i+1≤n∧∀ k,k<i+1→inP Lc n H u k=false):=λhf=>⟨(),by omega,λk hk=>by
   by_cases e:k=i
   ·rw[e]; exact hf
   ·exact i2 k (by omega)⟩
  refine X1 _ hc1 ?_;refine ah (λh1=>?_) (λh1=>?_)
  ·refine X1 _ hend ?_;refine X1 _ hc2 ?_;refine .intro rfl ?_;refine ah (λh2=>?_) (λh2=>?_)
   ·rw[decide_eq_true h1,decide_eq_true h2]at hin1;have e:jj Lc n H u=i:=iX hB.x hu.pos hin hin1;refine ⟨[(6,.c (.ad 6 0))],[(6,.var [nI .i64 i])],⟨rfl,HJ⟩,⟨rfl,HJ⟩,(λp hp=>by simp at hp; subst hp; rfl),?_⟩;rw[e];exact ⟨HJ,cC (l:=[(1000002,.row 1 (aF H))]) rfl rfl rfl ⟨rfl,HJ⟩,rc rfl,HJ⟩
   ·rw[decide_eq_false h2,Hn]at hin1;obtain ⟨_,g1,g2⟩:=next hin1;exact ⟨(),⟨g1,g2⟩,⟨rfl,rfl,HJ⟩,⟨rfl,rfl,HJ⟩⟩
  ·rw[decide_eq_false h1,HA]at hin1;obtain ⟨_,g1,g2⟩:=next hin1;refine .intro rfl ?_;exact ⟨(),⟨g1,g2⟩,⟨rfl,rfl,HJ⟩,⟨rfl,rfl,HJ⟩⟩
 ·obtain ⟨i1,i2⟩:=hi;have hlen:(gt Lc n H).length=n:=by simp[gt]
  have e:jj Lc n H u = -1:=oG _ 0 λk _ hk=>i2 k (by rw[hlen]; omega)
  rw[e];exact ⟨HJ,cC (l:=[(1000002,.row 1 (aF H))]) rfl rfl rfl ⟨rfl,HJ⟩,rc rfl,HJ⟩
end
end
section
section
variable {Lc:List (List Cnt)} {n B:Nat}
noncomputable def decV (Lc:List (List Cnt)) (n:Nat) (l:List Bool) (M:Nat):Option (List Int):=oM Lc n (M+1) [1] (oN l)
def lJ (Lc:List (List Cnt)) (n:Nat) (l:List Bool) (ids:List Int):Prop:=oO Lc n ids=0∧encB Lc n ids=l
def Ab (Lc:List (List Cnt)) (n:Nat) (l:List Bool) (M:Nat) (r:A1) (e:Int):Prop:=match decV Lc n l M with
 | none=>r = .c (.sc (.slice none 0 0))∧e=5
 | some ids=>(lJ Lc n l ids∧r = .c (iSl ids)∧e=0)∨(¬ lJ Lc n l ids∧r = .c (.sc (.slice none 0 0))∧e=3)
theorem Ac (l:List Bool):qv (oN l)<1:=by
 rw[(oz l).2,Ho (gp _),Rat.one_mul];exact Rat.natCast_lt_natCast.2 (mW l)
theorem B4 (l:List Bool) {k:Nat} (hl:l.length≤k):Bd (k+1) (oN l):=
 po (Nat.pos_iff_ne_zero.1 (Fv _)) (EM (mW l) (ER (by omega) (by omega))) (Nat.pow_lt_pow_right (by omega) (by omega))
theorem D9 (m:Int):min (max m 0) 64=if 64<(if 0>m then 0 else m) then 64 else (if 0>m then 0 else m):=by
 repeat' split
 all_goals omega
set_option maxHeartbeats 1000000 in
theorem wR (hB:SB Lc n B) (h2:2<n) (l:List Bool) (hl:l.length≤4096) (most:Int) (M:Nat) (hM:((M:Nat):Int)=min (max most 0) 64) (hM2:M≤24) (hmo:-1000≤most) (hmo2:most≤1000) :
  ∃ r e,Ab Lc n l M r e∧CtO P 18 (xE Lc n) [.c (.ad 1000000 0),.c (bP l),.c (eI .i64 most)] (xE Lc n) [r,.c (eI .i64 e)]:=by
 have hb:=hB.b;have hx:=hB.x;generalize hdv:decV Lc n l M=dv;have hfin:∃ r e,Ab Lc n l M r e:=by
  unfold Ab;rw[hdv]
  cases dv with
  | none=>exact ⟨_,_,rfl,rfl⟩
  | some ids=>
   by_cases hc:lJ Lc n l ids
   ·exact ⟨_,_,.inl ⟨hc,rfl,rfl⟩⟩
   ·exact ⟨_,_,.inr ⟨hc,rfl,rfl⟩⟩
 obtain ⟨r,e,hR⟩:=hfin
 refine ⟨r,e,hR,?_⟩;unfold Ab at hR;rw[hdv]at hR;refine Ct.keep aj aa [] (N:=73) Tryz.func18 rfl rfl rfl rfl ?_;refine X1 _ (et l (by omega)) ?_;refine ah (λh1=>absurd h1 (by omega)) (λ_=>?_);refine X1 _ (uA l (by omega)) ?_;refine uM (G:=List Int × Fr2) aj aa (λ(ids,u)=>ids.length≤M∧qv u<1∧Bd (4097+2*B*ids.length) u∧oM Lc n (M+1-ids.length) ([1]++ids) u=dv)
  (λ(ids,u)=>[(0,.c (.ad 1000000 0)),(1,.c (bP l)),(2,.c (eI .i64 most)),(8,.c (.ad 8 0)),(9,.c (.ow 24 1 (ids.length+1)))])
  (λ(ids,u)=>[(1000000,xC Lc n 1000001),(1000001,.me false (MOk Lc)),(8,.var (qP u).cells),(24,.row 1 (aF ([1]++ids)))]) (λ(ids,u)=>M+1-ids.length)
  ([],oN l) ⟨by simp,Ac l,B4 l hl,hdv⟩ ⟨rfl,rfl,rfl,rfl,rfl,HJ⟩ ⟨rfl,rfl,rfl,rfl,HJ⟩ (λids:List Int=>ids.length≤M∧dv=some ids) (λids=>[(0,.c (.ad 1000000 0)),(1,.c (bP l)),(9,.c (.ow 24 1 (ids.length+1)))])
  (λids=>[(1000000,xC Lc n 1000001),(1000001,.me false (MOk Lc)),(24,.row 1 (aF ([1]++ids)))]) (λ(ids,u) hi=>?_) (λids hp=>?_)
 ·obtain ⟨i1,i2,i3,i4⟩:=hi;have hBi:2*B*ids.length≤2*4000*24:=FF (by omega) (by omega);have hlen:([1]++ids).length=ids.length+1:=by simp
  have hP:=hB.probO ([1]++ids) (by omega) (by omega);obtain ⟨w,hw,hin,hpk⟩:=BQ hx hB.e ([1]++ids) i3.pos i2;have hpi:=Aa hB ([1]++ids) hP u i3 (by omega);rw[hpk,hlen]at hpi;refine X2 (.own [(1000000,1000000),(1000001,1000001),(24,1000002)] [(1000000,1000000),(1000001,1000001),(1000002,24)]) ?_;refine ⟨_,_,hpi,?_⟩;refine aU (λh3=>?_) (λh3=>?_)
  ·refine ⟨ids,⟨i1,?_⟩,⟨rfl,rfl,rfl,HJ⟩,⟨rfl,rfl,rfl,HJ⟩⟩;obtain ⟨f,hf⟩:∃ f,M+1-ids.length=f+1:=⟨M-ids.length,by omega⟩;rw[hf]at i4;unfold oM at i4;rw[hpk,if_pos h3]at i4;exact i4.symm
  ·have hw2:¬ ((w:Int)=2):=h3;obtain ⟨f,hf⟩:∃ f,M+1-ids.length=f+1:=⟨M-ids.length,by omega⟩;rw[hf]at i4;unfold oM at i4;rw[hpk,if_neg hw2]at i4;refine .intro (by omega) ?_;refine ah (λh4=>?_) (λh4=>?_)
   ·have hf0:f=0:=by
     rw[←D9 most,←hM]at h4;omega
    rw[if_pos hf0]at i4;subst i4;obtain ⟨rfl,rfl⟩:=hR;exact ⟨HJ,cC (l:=[]) rfl rfl rfl trivial,r1 rfl,r1 rfl,HJ⟩
   ·have hf0:¬ f=0:=by
     rw[←D9 most,←hM]at h4;omega
    rw[if_neg hf0,E4]at i4;obtain ⟨l1,l2,l3,l4,l5⟩:=ox hx i3.pos hin
    have l6:=BS hx i3.pos hin
    have hof:=uv hB ([1]++ids) hP w hw;rw[hlen]at hof;have hsb:=hB.sum ([1]++ids) (w:=w) (by omega);have hpb:=hB.prob ([1]++ids) (w:Int);have hs:=mN i3 hsb;have hd:=cw hs hpb l1;have hless:=kG (p:=u) (q:=bz Lc n ([1]++ids) w) (by rw[ay i3]; exact i3) (by rw[ay hsb]; exact hsb) (by omega) (by omega);have hdiv:=By (p:=cJ u (bz Lc n ([1]++ids) w)) (q:=bp Lc n ([1]++ids) w) (by rw[ay hs]; exact hs) (by rw[ay hpb]; exact hpb) l1 (by omega) (by omega);rw[ay i3,ay hsb]at hless;rw[ay hs,ay hpb]at hdiv;refine X2 (.own [(1000000,1000000),(1000001,1000001),(24,1000002)] [(1000000,1000000),(1000001,1000001),(1000002,24)]) ?_;refine ⟨_,_,hof,?_⟩;have e2:cB Lc n ([1]++ids) (w:Int)=(bz Lc n ([1]++ids) w,bp Lc n ([1]++ids) w):=by unfold cB; rw[E4]
    rw[e2];refine X1 _ hless ?_;refine X1 _ hdiv ?_;refine .intro rfl ?_;refine ⟨by rw[ac,hlen],by rw[ac,hlen]; show (ids.length+1+1+768)*8≤_; omega,by rw[ac,hlen]; show ids.length+1+1≤_; omega,aV,ar rfl,?_⟩;refine ⟨(ids++[(w:Int)],_),⟨?_,l6,?_,?_⟩,?_,⟨rfl,rfl,rfl,rfl,owE (by rw[EC,ac,hlen,EC]; rfl),HJ⟩,⟨rfl,rfl,rfl,aB (by rw[←GF]; simp[aF]; rfl),HJ⟩⟩
    ·rw[EC]; show ids.length+1≤M; omega
    ·refine hd.le ?_;rw[EC,show 2*B*(ids.length+[(w:Int)].length)=2*B*ids.length+2*B by show 2*B*(ids.length+1)=_; rw[E5,F2]];omega
    ·rw[EC,←GF];rw[show M+1-(ids.length+[(w:Int)].length)=f by show M+1-(ids.length+1)=f; omega];exact i4
    ·show M+1-(ids++[(w:Int)]).length<_
     rw[EC];show M+1-(ids.length+1)<M+1-ids.length
     omega
 ·obtain ⟨i1,hdv2⟩:=hp;subst hdv2;have hlen:([1]++ids).length=ids.length+1:=by simp
  refine Au aj aa [24] ?_;refine ⟨1,ids.length+1,rfl,by rw[ac,hlen]; rfl,by omega,by rw[ac,hlen]; omega,?_⟩;rw[iRow_sub,show ([1]++ids:List Int).drop 1=ids from rfl,show ids.length+1-1=ids.length from rfl,E7];have henc:=pU hB h2 ids (by omega);refine X2 (.own σx σx) ?_;refine ⟨_,_,henc,?_⟩;simp only at hR;refine dq (λh3=>?_) (λh3=>?_)
  ·have hc:¬ lJ Lc n l ids:=λhc=>h3 hc.1
   rcases hR with ⟨hc2,_⟩ | ⟨_,rfl,rfl⟩
   ·exact absurd hc2 hc
   exact ⟨HJ,cC (l:=[]) rfl rfl rfl trivial,r1 rfl,r1 rfl,HJ⟩
  ·have e2:encR Lc n ids = .c (bP (encB Lc n ids)):=if_pos h3;rw[h3,e2];obtain ⟨_,c2,_,_,c3⟩:=z8 h3;obtain ⟨b1,b2,_⟩:=oF hB h2 c2;obtain ⟨_,c4⟩:=qW b1 b2 c3;have hBl:B*(ids.length+1)≤4000*25:=FF hb (by omega);refine X1 _ (z0 _ l (by rw[z9]; omega) (by omega)) ?_;refine aP (λh5=>?_) (λh5=>?_)
   ·have hc:¬ lJ Lc n l ids:=λhc=>by
     rw[decide_eq_true hc.2]at h5; cases h5
    rcases hR with ⟨hc2,_⟩ | ⟨_,rfl,rfl⟩
    ·exact absurd hc2 hc
    exact ⟨HJ,cC (l:=[]) rfl rfl rfl trivial,r1 rfl,r1 rfl,HJ⟩
   ·have hc:lJ Lc n l ids:=⟨h3,by simpa using h5⟩;rcases hR with ⟨_,rfl,rfl⟩ | ⟨hc2,_⟩
    ·refine X1 _ (iR ids (by omega)) ?_;exact ⟨HJ,cC (l:=[]) rfl rfl rfl trivial,r1 rfl,r1 rfl,HJ⟩
    ·exact absurd hc hc2
end
end
section
theorem Ad {k:Nat} {p:Nat × Nat} (hb:Bd k p) (hk:k≤100000):Ct P 34 [qP p,rP p] [.c (.sc (.bool true))]:=by
 have:=BH (k:=k) p.1 p.2 hb.n (by rw[gQ hb.pos]; exact hb.d) hk;rwa [gQ hb.pos]at this
abbrev σK:List (Nat × Nat):=[(200,1000000),(201,1000001)]
abbrev νK:List (Nat × Nat):=[(1000000,200),(1000001,201)]
theorem qX {s:ByteArray} (hs:s.size≤120) {m:Nat} (h1:1≤m) (h4:m≤4):XOk (ao (ofL s m)) (aK s).length:=Df (ut hs h4).1 (sU hs h1 h4) (ut hs h4).2
theorem B5 (s:ByteArray) (hs:s.size≤120) (o m:Nat) (ho:o<256) (hm:m=1+o%4) :
  CtO P 12 [] [.c (sS s),.c (nI .u8 o)] [(200,some (xC (ao (ofL s m)) (aK s).length 201)),(201,some (.mp false [] []))] [.c (.ad 200 0),mM (ofL s m) (aK s).length,.c (.sc (.bool true))]:=by
 have h1:1≤m:=by omega
 have h4:m≤4:=by omega
 have hx:=qX hs h1 h4;have hw:=sU hs h1 h4;obtain ⟨hsum,_⟩:=ut (m:=m) hs h4;obtain ⟨l1,l2⟩:=og hs;obtain ⟨a1,a2⟩:=oh hs;have hok:=(jB hw).1;have hlen:(ofL s m).length=m:=cn _ _;have hcl:=bx (ofL s m);have hord:=sK (fy (aK s) s) m (by omega) (by omega) (λp hp=>by have:=(a2 p hp).1; omega);have hnew:=zD (ofL s m) (aK s).length hsum hw;have hrnew:=BE (ofL s m) (aK s).length hsum (hok.ccform hsum.lim) (by omega);have hword:=n6 (ks:=[]) (vs:=[]) hx;refine Ct.keep (Ty.own_ok [36] aj) aa [] (N:=50) Tryz.func12 rfl rfl rfl rfl ?_;refine X1 _ (tY s (by omega)) ?_;refine X1 (o:Int) (wI rfl (by omega) (by omega)) ?_;refine .intro (by omega) (X1 ((o%4:Nat):Int) ?_ (.intro ⟨by show (-9223372036854775808:Int)≤_; omega,by show _≤(9223372036854775807:Int); omega⟩ ?_))
 ·show Int.tmod (o:Int) 4=_
  rw[Gg (by omega)]; omega
 refine X1 (m:Int) (wI (by omega) (by omega) (by omega)) ?_;refine X1 _ (yK (aK s) s (by omega) (by omega)) ?_;refine X1 _ hord ?_;refine .intro (by rw[aM]; omega) ?_;rw[aM];refine X2 (.own [] [(36,200),(34,201)]) ?_;refine ⟨_,_,hnew,?_⟩;refine .intro (by rw[aM]; omega) ?_;rw[aM];refine X1 _ hrnew ?_;refine X2 (.own σK νK) ?_;refine ⟨_,_,hword,?_⟩;refine aU (λ_=>?_) (λh=>?_)
 ·refine X2 (.own σK νK) ?_;refine ⟨_,_,sC,?_⟩;refine .intro (by rw[aM]; omega) ?_;rw[aM];exact ⟨HJ,SubO.of (l:=[(200,xC (ao (ofL s m)) (aK s).length 201),(201,.mp false [] [])]) ⟨rfl,rfl,HJ⟩,r1 rfl,rc rfl,r1 (blE (beq_self_eq_true _)),HJ⟩
 ·exfalso; omega
theorem qY:∀ {l:List Int} {v:Int},v∈l→0≤idx v l
 | y::l,v,h=>by
  unfold idx;split
  ·omega
  ·rename_i hn;have:v∈l:=by
    rcases Fg.1 h with rfl | h
    ·exact absurd rfl hn
    ·exact h
   have:=qY this;rw[if_neg (by omega)]; omega
theorem B6 {words:Int} {g:List Int} (h:gW words g=0):∀ (a:List Int) (v:Int),g=a++[v]→0≤v∧v<words∧(v=1→a=[]):=by
 intro a v e;subst e;unfold gW at h;split at h
 ·omega
 ·rename_i h1;split at h
  ·omega
  ·rename_i h2;have hb:¬ mt words v=true:=λhb=>h1 (FV.2 ⟨v,by simp,hb⟩)
   unfold mt at hb;simp at hb;refine ⟨by omega,by omega,λhv=>?_⟩
   cases a with
   | nil=>rfl
   | cons y a=>
    exfalso;apply h2;subst hv;exact qY (by simp)
theorem B7 {s:ByteArray} (hs:s.size≤120) {m:Nat} (h4:m≤4):∀ l,l∈ao (ofL s m)→eT (aK s).length l:=by
 intro l hl x hx;obtain ⟨n,hn,rfl⟩:=dP hl;obtain ⟨y,hy,rfl⟩:=Fd.1 hx;have h1:=((oi hs (EO hn) h4).2.2 y hy).2.2.2;have e:(cL (ofL s m) n y).1=y.1:=by unfold cL; split<;>rfl
 rw[e];exact B6 h1
theorem vu (s:ByteArray):∀ i,((lnS s i).1.map ByteArray.size).sum≤(lnS s i).2
 | 0=>EE _
 | i+1=>by
  have ih:=vu s i;have hl:=(lp s i).1;unfold lnS;split
  ·simp only[FM,List.sum_append,Fm,G9,GQ,List.sum_nil,Gu];omega
  ·exact ih
theorem pV (s:ByteArray):((fP s).map List.length).sum≤s.size:=by
 have key:∀ l:List ByteArray,((jd l).map List.length).sum≤(l.map ByteArray.size).sum:=λl=>by
  induction l with
  | nil=>exact EE _
  | cons x l ih=>
   have hw:=(nM x).2;unfold jd at ih ⊢;rw[Fm];rw[Hd];split<;>simp only[Fm,GQ]<;>omega
 refine EG (key (dI s)) ?_;have h1:=vu s s.size;have h2:=(lp s s.size).1;unfold dI;simp only[FM,List.sum_append,Fm,G9,GQ,List.sum_nil,Gu];omega
theorem pW:∀ (L:List (List ByteArray)) (l:List ByteArray),(eP l L).length≤l.length+(L.map List.length).sum
 | [],l=>by simp[eP]
 | ws::L,l=>by
  have:=pW L (cU l ws);have h2:=gG ws l;show (eP (cU l ws) L).length≤_
  rw[Fm,GQ]; omega
theorem wS (s:ByteArray):(aK s).length≤s.size+3:=by
 have h1:=pW (fP s) marks15;have h2:=pV s;have h3:marks15.length=3:=rfl;unfold aK;omega
theorem oH {n:Nat}:∀ (L:List (List Int)),(be L n).length≤(L.map List.length).sum
 | []=>by simp[be]
 | p::L=>by
  have ih:=oH (n:=n) L;have h2:(cv p n).length≤p.length:=mD p n p.length;have e:be (p::L) n=cv p n++be L n:=by simp[be]
  rw[e,EC,Fm,GQ];omega
theorem wT (ws:List ByteArray) (s:ByteArray):((fy ws s).map List.length).sum≤3*s.size:=by
 have key:∀ L:List (List ByteArray),(∀ l,l∈L→1≤l.length)→((L.map (ez ws)).map List.length).sum≤3*(L.map List.length).sum:=by
  intro L
  induction L with
  | nil=>intro _; simp
  | cons l L ih=>
   intro h;have h1:=ih λx hx=>h x (E3 _ hx)
   have h2:=h l (by simp);have h3:(ez ws l).length=l.length+2:=by simp[ez]
   simp only[Fm,GQ,h3];omega
 have h1:=key (fP s) λl hl=>by
  have:=(Hj.1 hl).2;simp at this;omega
 have h2:=pV s;unfold fy;omega
theorem tt {s:ByteArray} (hs:s.size≤60) {m k:Nat} {l:List Cnt} (h:(ofL s m)[k]? = some l):l.length≤180∧∀ x,x∈l→0≤x.2∧x.2≤180:=by
 obtain ⟨_,rfl⟩:=kM h;have h1:=oH (n:=k+1) (fy (aK s) s);have h2:=wT (aK s) s;obtain ⟨g1,_,g3,_⟩:=mR _ (be (fy (aK s) s) (k+1)) rfl;exact ⟨by omega,λx hx=>by have:=g3 x hx; omega⟩
theorem oI {s:ByteArray} (hs:s.size≤60) {m:Nat}:∀ l,l∈ao (ofL s m)→l.length≤180∧∀ x,x∈l→0≤x.2∧x.2≤180:=by
 intro l hl;obtain ⟨n,hn,rfl⟩:=dP hl;obtain ⟨a1,a2⟩:=tt hs (EY hn);refine ⟨by rw[Fs]; exact a1,λx hx=>?_⟩;obtain ⟨y,hy,rfl⟩:=Fd.1 hx;have:=a2 y hy;unfold cL;split
 ·have:ahead ((ofL s m).getD (n+1) []) y.1≤180:=by
   refine EG (FB _ _) ?_;by_cases h3:n+1<(ofL s m).length
   ·have e:(ofL s m).getD (n+1) []=(ofL s m)[n+1]:=by simp[EB,h3]
    rw[e];exact (tt hs (EY h3)).1
   ·have e:(ofL s m).getD (n+1) []=[]:=by simp[EB,EZ (FK h3)]
    rw[e]; simp
  show (0:Int)≤((ahead _ _:Nat):Int)∧((ahead _ _:Nat):Int)≤180
  omega
 ·exact this
theorem vy:∀ {l:List Cnt},(∀ x,x∈l→0≤x.2∧x.2≤180)→totN l≤180*l.length
 | [],_=>by show totN []≤_; exact GB _
 | x::l,h=>by
  have ih:=vy (l:=l) λy hy=>h y (E3 _ hy)
  have h1:=h x (by simp);rw[pC,Fe];split<;>omega
theorem Ae (k n2 n3 a b:Nat):(cc k n2 n3 a b).2∣(n2+2*n3)*b:=by
 unfold cc cM d5;refine Gp fT (Nat.mul_dvd_mul ?_ ?_)
 ·refine Gp fT ?_;rw[Fn];refine Gp fT ?_;rw[Fn];exact HG _
 ·refine Gp fT ?_;rw[Fn];exact HG _
theorem Af {l:List Cnt} (hl:l.length≤180) (k:Nat) (h1:1≤k) (h3:k≤3):(eY l k).2<2^16:=by
 have m:=λk=>EG (bJ l k) hl
 have hs:=EG (kI l) (EG (FB aW l) hl);have key:∀ j a b,au l 1≠0→b≠0→b≤180→(cJ (j,1) (cc j (au l 1) (au l 2) a b)).2<2^16:=λj a b e1 e2 e3=>by
  have hd:(cJ (j,1) (cc j (au l 1) (au l 2) a b)).2∣(au l 1+2*au l 2)*b:=
   Gp fT (by show 1*_∣_; rw[Fn]; exact Ae _ _ _ _ _)
  have h4:=Nat.le_of_dvd (Nat.mul_pos (by omega) (by omega)) hd;have h5:(au l 1+2*au l 2)*b≤360*180:=FF (by omega) e3;omega
 have hk:k=1∨k=2∨k=3:=by omega
 unfold eY;rcases hk with rfl | rfl | rfl
 all_goals
  simp only[cO];split
  ·exact key _ _ _ (by omega) (by omega) (m _)
  ·decide
theorem DC {s:ByteArray} (hs:s.size≤60) {m:Nat} (h4:m≤4):Few (ao (ofL s m)) (aK s).length 48 15 6:=by
 refine ⟨λl hl=>?_,λl hl=>?_,?_⟩
 ·obtain ⟨a1,_⟩:=oI hs l hl;have d:=λk h1 h3=>Af a1 k h1 h3
  unfold dD;exact kO (k:=32) (m:=16) (kO (k:=16) (m:=16) (d 1 (by omega) (by omega)) (d 2 (by omega) (by omega))) (d 3 (by omega) (by omega))
 ·obtain ⟨a1,a2⟩:=oI hs l hl;have:=vy a2;omega
 ·have:=wS s;omega
theorem Ex {s:ByteArray} (hs:s.size≤60) {m:Nat} (h1:1≤m) (h4:m≤4) (h:List Int):QF (ao (ofL s m)) (aK s).length (eZ (ao (ofL s m)) h)<2^258:=by
 have key:∀ K:Nat,K=258→QF (ao (ofL s m)) (aK s).length (eZ (ao (ofL s m)) h)<2^K:=by
  intro K hK;have h2:=Cw (DC hs h4) (eZ (ao (ofL s m)) h);have h3:=mS (qX (s:=s) (by omega) h1 h4) h;rw[bx,cn]at h3;refine EM h2 (ER (by omega) ?_);have:(48+15)*((eZ (ao (ofL s m)) h).length+1)≤63*4:=Fw _ (by omega);omega
 exact key 258 rfl
theorem Cy {s:ByteArray} (hs:s.size≤60) {m:Nat} (h1:1≤m) (h4:m≤4):SB (ao (ofL s m)) (aK s).length 258:=
 ⟨qX (by omega) h1 h4,B7 (by omega) h4,Ex hs h1 h4,by omega⟩
theorem Ea {s:ByteArray} (hs:s.size≤60) {m:Nat} (h1:1≤m) (h4:m≤4):2<(aK s).length:=by
 have:=(qX (s:=s) (by omega) h1 h4).w3;omega
theorem Eb {f:FuncId} {O:Objs} {args res:List A1} {Lc:List (List Cnt)} {o:Ob} {i j:Nat} (hij:Nat.beq i j=false) (h:CtO P f O args [(i,some o),(j,some (.mp false [] []))] res):CtO P f O args [(i,some o),(j,some (.me false (MOk Lc)))] res:=
 h.less λK ok w k o2 g=>by
  simp only[Objs.get]at g ⊢
  cases h1:Nat.beq i k with
  | true=>rw[h1]at g; exact ⟨_,rfl,λh=>by cases g; exact h⟩
  | false=>
   rw[h1]at g
   cases h2:Nat.beq j k with
   | true=>rw[h2]at g; cases g; exact ⟨_,rfl,λh=>⟨[],[],MOk.nil,h⟩⟩
   | false=>rw[h2]at g; cases g
theorem B8 (s:ByteArray) (hs:s.size≤60) (o m:Nat) (ho:o<256) (hm:m=1+o%4) :
  CtO P 12 [] [.c (sS s),.c (nI .u8 o)] [(200,some (xC (ao (ofL s m)) (aK s).length 201)),(201,some (.me false (MOk (ao (ofL s m)))))] [.c (.ad 200 0),mM (ofL s m) (aK s).length,.c (.sc (.bool true))]:=
 Eb rfl (B5 s (by omega) o m ho hm)
theorem Ag:SB [[]] 3 258:=by
 have h:=Cy (s:=⟨#[]⟩) (m:=1) (by decide) (by decide) (by decide);rw[show ao (ofL ⟨#[]⟩ 1)=[[]] by decide,show (aK ⟨#[]⟩).length=3 by decide]at h;exact h
theorem DD:CCSum [[]]:=by
 refine ⟨⟨by decide,λl hl=>?_⟩,λl hl=>?_⟩
 ·simp at hl; subst hl; exact ⟨by simp,λx hx=>by simp at hx⟩
 ·have:l=[]:=by simpa [ao] using hl
  subst this; decide
theorem Ec:CtO P 36 [] [.c (.sl 1 [[.sc (.slice none 0 0)]]),.c (eI .i64 3)] [(36,some (xC [[]] 3 34)),(34,some (.me false (MOk [[]])))] [.c (.ad 36 0),.c (eI .i64 0)]:=
 Eb rfl ((zD [[]] 3 DD (by decide)).args λK ok w vs h=>h.set (i:=0) rfl Dd)
theorem Ah {Lc:List (List Cnt)} {n B:Nat} (hB:SB Lc n B) (h2:2<n) {ids:List Int} (he:oO Lc n ids=0) (M:Nat):decV Lc n (encB Lc n ids) M=if ids.length≤M then some ids else none:=by
 obtain ⟨_,c1,c2,c3,c4⟩:=z8 he;obtain ⟨b1,b2,_⟩:=oF hB h2 c1;obtain ⟨g1,_⟩:=qW b1 b2 c4;have:=zV hB.x hB.e (ids:=ids) ⟨c1,λw hw e=>?_⟩ h2 g1.good (M+1)
 ·unfold decV encB eV;unfold eV at this;rw[this];by_cases h:ids.length≤M
  ·rw[if_pos h,if_pos (by omega)]
  ·rw[if_neg h,if_neg (by omega)]
 ·subst e;have:=qY hw;omega
theorem B9:oO [[]] 3 []=0:=by decide
theorem Ai:encB [[]] 3 []=[true]:=by
 have hs:eV [[]] 3 []=((1,2),(1,2)):=by decide
 have hk:kOf (eV [[]] 3 [])=1:=by
  rw[hs];refine z7 ⟨by decide,λj hj=>?_⟩;have:j=0:=by omega
  subst this;decide
 unfold encB;rw[hk,hs];decide
abbrev σ45:List (Nat × Nat):=[(50,1000000),(51,1000001)]
abbrev ν45:List (Nat × Nat):=[(1000000,50),(1000001,51)]
theorem lK:Ct P 11 [] [.c (.sc (.bool true))]:=by
 have henc:CtO P 13 (xE [[]] 3) [.c (.ad 1000000 0),.c (.sc (.slice none 0 0))] (xE [[]] 3) [encR [[]] 3 [],.c (eI .i64 (oO [[]] 3 []))]:=
  (pU Ag (by decide) [] (by decide)).args λK ok w vs h=>h.set (i:=1) rfl BI
 rw[show encR [[]] 3 [] = .c (bP (encB [[]] 3 [])) from if_pos B9,B9,Ai]at henc;obtain ⟨r,e,hR,hdec⟩:=wR Ag (by decide) [true] (by decide) 5 5 (by decide) (by decide) (by decide) (by decide);have hv:=Ah Ag (by decide) B9 5;rw[Ai,if_pos (by decide)]at hv;have hre:r = .c (iSl [])∧e=0:=by
  unfold Ab at hR;rw[hv]at hR;rcases hR with ⟨_,a,b⟩ | ⟨h,_⟩
  ·exact ⟨a,b⟩
  ·exact absurd ⟨B9,Ai⟩ h
 obtain ⟨rfl,rfl⟩:=hre;refine Ct.go (Ty.own_ok [36,1000001,1000003] aj) aa (N:=47) Tryz.func11 rfl rfl rfl rfl ?_;refine X2 (.own [] [(36,50),(34,51)]) ?_;refine ⟨_,_,Ec,?_⟩;refine X2 (.own σ45 ν45) ?_;refine ⟨_,_,henc,?_⟩;refine X2 (.own σ45 ν45) ?_;refine ⟨_,_,hdec,?_⟩;refine X1 _ (et [true] (by decide)) ?_;refine X1 _ (BZ [true] 0 (by decide) (by decide)) ?_;refine .intro (by decide) ?_;exact ⟨HJ,r1 rfl,HJ⟩
theorem uE (s:ByteArray) (l:List Int) (m:Int) (hs:s.size≤140737488355328) (hl:l.length≤140737488355328):Ct P 9 [.c (sS s),.c (iSl l),.c (eI .i64 m)] [.c (.sc (.bool (decide (s.size≤60∧(l.length:Int)≤m))))]:=by
 refine Ct.go aj aa (N:=16) Tryz.func9 rfl rfl rfl rfl ?_;refine ah (λh1=>?_) (λh1=>?_)
 ·refine .intro (by rw[ac]; omega) ?_;rw[ac];have e:decide (s.size≤60∧(l.length:Int)≤m)=decide ((l.length:Int)≤m):=decide_eq_decide.2 ⟨λh=>h.2,λh=>⟨by omega,h⟩⟩;rw[e];exact ⟨HJ,r1 rfl,HJ⟩
 ·have e:decide (s.size≤60∧(l.length:Int)≤m)=false:=decide_eq_false λh=>h1 (by omega)
  rw[e];exact ⟨HJ,r1 rfl,HJ⟩
abbrev σX:List (Nat × Nat):=[(200,1000000),(201,1000001)]
abbrev νX:List (Nat × Nat):=[(1000000,200),(1000001,201)]
theorem Ed {k:Nat} (h:k≤4):1+258*k≤1033:=by omega
theorem Aj (s:ByteArray) (hs:s.size≤60) (o m:Nat) (ho:o<256) (hm:m=1+o%4):∃ (Lc:List (List Cnt)) (n:Nat),SB Lc n 258∧2<n ∧
  CtO P 12 [] [.c (sS s),.c (nI .u8 o)] [(200,some (xC Lc n 201)),(201,some (.me false (MOk Lc)))] [.c (.ad 200 0),rM Lc n,.c (.sc (.bool true))]:=
 ⟨_,_,Cy hs (m:=m) (by omega) (by omega),Ea hs (m:=m) (by omega) (by omega),B8 s hs o m ho hm⟩
theorem Ey {n:Nat} {ids:List Int} (h:ids.length≤4):jF n ids=if ids.all (inB n)=true then 0 else 8:=if_neg (by omega)
end
end Go.Proofs.YtgceikecdedfcaaGreat.Pv
