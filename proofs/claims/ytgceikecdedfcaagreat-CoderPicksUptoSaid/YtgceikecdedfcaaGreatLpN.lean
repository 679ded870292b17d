/- Parts of a proof, joined: Eb Ec Eh Ei Cx Cy Eq Cz Er Es Et Eu Ev Ew Eg. -/
import Derived.Test.YtgceikecdedfcaaGreatLpM
namespace Go.Proofs.YtgceikecdedfcaaGreat.Pv
open Go
section
abbrev dS (p0 p1 p2 p3:Nat × Nat):A1:=.ag [dV p0.1,dV p0.2,dV p1.1,dV p1.2,dV p2.1,dV p2.2,dV p3.1,dV p3.2]
def at4 (p1 p2 p3:Nat × Nat) (n:Int):Nat × Nat:=if n<1 then (0,1) else if n=1 then p1 else if n=2 then p2 else p3
theorem Bt (p0 p1 p2 p3:Nat × Nat) (n:Int):Ct P 120 [dS p0 p1 p2 p3,.c (eI .i64 n)] [rP (at4 p1 p2 p3 n)]:=by
 refine Ct.go aj aa (N:=12) Tryz.func120 rfl rfl rfl rfl ?_;refine ae (λh0=>?_) (λh0=>?_)
 ·rw[at4,if_pos h0];refine X1 _ (aH 0 (by omega)) ?_;exact ⟨HB,rc rfl,HB⟩
 ·by_cases h1:n=1
  ·subst h1;refine .intro (by decide) (.intro (by decide) ?_);exact ⟨HB,rc rfl,HB⟩
  ·by_cases h2:n=2
   ·subst h2;refine .intro (by decide) (.intro (by decide) ?_);exact ⟨HB,rc rfl,HB⟩
   ·have e:at4 p1 p2 p3 n=p3:=by rw[at4,if_neg h0,if_neg h1,if_neg h2]
    have e3:(if 3<n then 3 else n)=3:=by split<;>omega
    rw[e];refine .intro (by rw[e3]; decide) (.intro (by rw[e3]; decide) ?_);rw[e3];exact ⟨HB,rc rfl,HB⟩
abbrev c6 (n0 n1 n2 n3 n4 n5:Nat):A1:=.ag [nI .i64 n0,nI .i64 n1,nI .i64 n2,nI .i64 n3,nI .i64 n4,nI .i64 n5]
def jv (p1 p2 p3:Nat × Nat) (n0 n1 n2 n3:Nat):Nat × Nat:=
 if n1<1 then (1,1) else c9 (bH (bH (cI (n2,1) p1) (cI (n3,1) p2)) (cI (n0-n2-n3,1) p3)) (n1,1)
theorem t9 {k:Nat} (p0 p1 p2 p3:Nat × Nat) (n0 n1 n2 n3 n4 n5:Nat) (b1:Bd k p1) (b2:Bd k p2) (b3:Bd k p3) (hk:k≤100000) (m0:n0<4611686018427387904) (m1:n1≤4611686018427387904) (m2:n2+n3≤n0) :
  Ct P 163 [dS p0 p1 p2 p3,c6 n0 n1 n2 n3 n4 n5] [rP (jv p1 p2 p3 n0 n1 n2 n3)]:=by
 have i0:Bd 63 (n0-n2-n3,1):=ay (by omega) (by omega);have i1:Bd 63 (n1,1):=ay (by omega) (by omega);have i2:Bd 63 (n2,1):=ay (by omega) (by omega);have i3:Bd 63 (n3,1):=ay (by omega) (by omega);have f1:=bf i2 b1;have f2:=bf i3 b2;have f3:=ep f1 f2;have f4:=bf i0 b3;have f5:=ep f3 f4;refine Ct.go aj aa (N:=41) Tryz.func163 rfl rfl rfl rfl ?_;refine .intro (by decide) (.intro (by decide) ?_);refine ae (λh0=>?_) (λh0=>?_)
 ·rw[jv,if_pos (by omega)];refine X1 _ (aH 1 (by omega)) ?_;exact ⟨HB,rc rfl,HB⟩
 ·rw[jv,if_neg (by omega)];refine .intro (by decide) (.intro (by decide) ?_);refine X1 _ (aH n2 (by omega)) ?_;refine .intro (by decide) (.intro (by decide) ?_);refine X1 _ (eJ i2 b1 (by omega) (by omega)) ?_;refine .intro (by decide) (.intro (by decide) ?_);refine X1 _ (aH n3 (by omega)) ?_;refine .intro (by decide) (.intro (by decide) ?_);refine X1 _ (eJ i3 b2 (by omega) (by omega)) ?_;refine X1 _ (mQ f1 f2 (by omega) (by omega)) ?_;refine .intro rfl ?_;refine .intro (by decide) (.intro (by decide) ?_);refine .intro (by decide) (.intro (by decide) ?_);refine X1 ((n0-n2:Nat):Int) (wI (by omega) (by omega) (by omega)) ?_;refine .intro (by decide) (.intro (by decide) ?_);refine X1 ((n0-n2-n3:Nat):Int) (wI (by omega) (by omega) (by omega)) ?_;refine X1 _ (aH (n0-n2-n3) (by omega)) ?_;refine .intro (by decide) (.intro (by decide) ?_);refine X1 _ (eJ i0 b3 (by omega) (by omega)) ?_;refine X1 _ (mQ f3 f4 (by omega) (by omega)) ?_;refine .intro (by decide) (.intro (by decide) ?_);refine X1 _ (aH n1 (by omega)) ?_;refine X1 _ (eK f5 i1 (by show n1≠0; omega) (by omega) (by omega)) ?_;refine .intro rfl ?_;exact ⟨HB,rc rfl,HB⟩
def cc (k n2 n3 a b:Nat):Nat × Nat:=cI (cI (k+1,1) (c9 (n2,1) (n2+2*n3,1))) (c9 (a,1) (b,1))
theorem zl (n0 n1 n2 n3 n4 n5:Nat) (h2:n2≠0) (hb:n2≠0) (m2:n2≤1000000) (m3:n3≤1000000) (m4:n4≤1000000) (m5:n5≤1000000) :
  Ct P 142 [.c (nI .i64 1),c6 n0 n1 n2 n3 n4 n5] [rP (cc 1 n2 n3 n3 n2)]:=by
 have j1:Bd 63 (n2,1):=ay (by omega) (by omega);have j2:Bd 63 (n2+2*n3,1):=ay (by omega) (by omega);have y:=ck j1 j2 (by show n2+2*n3≠0; omega);refine Ct.go aj aa (N:=34) Tryz.func142 rfl rfl rfl rfl ?_
 ·refine .intro (by decide) (.intro (by decide) ?_);refine X1 _ (aH n2 (by omega)) ?_;refine .intro (by decide) (.intro (by decide) ?_);refine .intro (by decide) (.intro (by decide) ?_);refine X1 ((2*n3:Nat):Int) (wI (by simp) (by omega) (by omega)) ?_;refine X1 ((n2+2*n3:Nat):Int) (wI (by simp) (by omega) (by omega)) ?_;refine X1 _ (aH (n2+2*n3) (by omega)) ?_;refine X1 _ (eK j1 j2 (by show n2+2*n3≠0; omega) (by omega) (by omega)) ?_;refine .intro rfl ?_;refine X1 ((2:Nat):Int) (wI (by simp) (by omega) (by omega)) ?_;refine X1 _ (aH 2 (by omega)) ?_;refine X1 _ (eJ (ay (v:=2) (k:=63) (by decide) (by omega)) y (by omega) (by omega)) ?_;refine X1 ((3:Nat):Int) (wI (by simp) (by omega) (by omega)) ?_;refine .intro (by decide) (.intro (by decide) ?_);refine X1 _ (aH n3 (by omega)) ?_;refine X1 ((2:Nat):Int) (wI (by simp) (by omega) (by omega)) ?_;refine .intro (by decide) (.intro (by decide) ?_);refine X1 _ (aH n2 (by omega)) ?_;refine X1 _ (eK (ay (v:=n3) (k:=63) (by omega) (by omega)) (ay (v:=n2) (k:=63) (by omega) (by omega)) (by show n2≠0; omega) (by omega) (by omega)) ?_;refine X1 _ (eJ (bf (ay (v:=2) (k:=63) (by decide) (by omega)) y) (ck (ay (v:=n3) (k:=63) (by omega) (by omega)) (ay (v:=n2) (k:=63) (by omega) (by omega)) (by show n2≠0; omega)) (by omega) (by omega)) ?_;refine .intro rfl ?_;exact ⟨HB,rc rfl,HB⟩
theorem zm (n0 n1 n2 n3 n4 n5:Nat) (h2:n2≠0) (hb:n3≠0) (m2:n2≤1000000) (m3:n3≤1000000) (m4:n4≤1000000) (m5:n5≤1000000) :
  Ct P 142 [.c (nI .i64 2),c6 n0 n1 n2 n3 n4 n5] [rP (cc 2 n2 n3 n4 n3)]:=by
 have j1:Bd 63 (n2,1):=ay (by omega) (by omega);have j2:Bd 63 (n2+2*n3,1):=ay (by omega) (by omega);have y:=ck j1 j2 (by show n2+2*n3≠0; omega);refine Ct.go aj aa (N:=34) Tryz.func142 rfl rfl rfl rfl ?_
 ·refine .intro (by decide) (.intro (by decide) ?_);refine X1 _ (aH n2 (by omega)) ?_;refine .intro (by decide) (.intro (by decide) ?_);refine .intro (by decide) (.intro (by decide) ?_);refine X1 ((2*n3:Nat):Int) (wI (by simp) (by omega) (by omega)) ?_;refine X1 ((n2+2*n3:Nat):Int) (wI (by simp) (by omega) (by omega)) ?_;refine X1 _ (aH (n2+2*n3) (by omega)) ?_;refine X1 _ (eK j1 j2 (by show n2+2*n3≠0; omega) (by omega) (by omega)) ?_;refine .intro rfl ?_;refine X1 ((3:Nat):Int) (wI (by simp) (by omega) (by omega)) ?_;refine X1 _ (aH 3 (by omega)) ?_;refine X1 _ (eJ (ay (v:=3) (k:=63) (by decide) (by omega)) y (by omega) (by omega)) ?_;refine X1 ((4:Nat):Int) (wI (by simp) (by omega) (by omega)) ?_;refine .intro (by decide) (.intro (by decide) ?_);refine X1 _ (aH n4 (by omega)) ?_;refine X1 ((3:Nat):Int) (wI (by simp) (by omega) (by omega)) ?_;refine .intro (by decide) (.intro (by decide) ?_);refine X1 _ (aH n3 (by omega)) ?_;refine X1 _ (eK (ay (v:=n4) (k:=63) (by omega) (by omega)) (ay (v:=n3) (k:=63) (by omega) (by omega)) (by show n3≠0; omega) (by omega) (by omega)) ?_;refine X1 _ (eJ (bf (ay (v:=3) (k:=63) (by decide) (by omega)) y) (ck (ay (v:=n4) (k:=63) (by omega) (by omega)) (ay (v:=n3) (k:=63) (by omega) (by omega)) (by show n3≠0; omega)) (by omega) (by omega)) ?_;refine .intro rfl ?_;exact ⟨HB,rc rfl,HB⟩
theorem zn (n0 n1 n2 n3 n4 n5:Nat) (h2:n2≠0) (hb:n4≠0) (m2:n2≤1000000) (m3:n3≤1000000) (m4:n4≤1000000) (m5:n5≤1000000) :
  Ct P 142 [.c (nI .i64 3),c6 n0 n1 n2 n3 n4 n5] [rP (cc 3 n2 n3 n5 n4)]:=by
 have j1:Bd 63 (n2,1):=ay (by omega) (by omega);have j2:Bd 63 (n2+2*n3,1):=ay (by omega) (by omega);have y:=ck j1 j2 (by show n2+2*n3≠0; omega);refine Ct.go aj aa (N:=34) Tryz.func142 rfl rfl rfl rfl ?_
 ·refine .intro (by decide) (.intro (by decide) ?_);refine X1 _ (aH n2 (by omega)) ?_;refine .intro (by decide) (.intro (by decide) ?_);refine .intro (by decide) (.intro (by decide) ?_);refine X1 ((2*n3:Nat):Int) (wI (by simp) (by omega) (by omega)) ?_;refine X1 ((n2+2*n3:Nat):Int) (wI (by simp) (by omega) (by omega)) ?_;refine X1 _ (aH (n2+2*n3) (by omega)) ?_;refine X1 _ (eK j1 j2 (by show n2+2*n3≠0; omega) (by omega) (by omega)) ?_;refine .intro rfl ?_;refine X1 ((4:Nat):Int) (wI (by simp) (by omega) (by omega)) ?_;refine X1 _ (aH 4 (by omega)) ?_;refine X1 _ (eJ (ay (v:=4) (k:=63) (by decide) (by omega)) y (by omega) (by omega)) ?_;refine X1 ((5:Nat):Int) (wI (by simp) (by omega) (by omega)) ?_;refine .intro (by decide) (.intro (by decide) ?_);refine X1 _ (aH n5 (by omega)) ?_;refine X1 ((4:Nat):Int) (wI (by simp) (by omega) (by omega)) ?_;refine .intro (by decide) (.intro (by decide) ?_);refine X1 _ (aH n4 (by omega)) ?_;refine X1 _ (eK (ay (v:=n5) (k:=63) (by omega) (by omega)) (ay (v:=n4) (k:=63) (by omega) (by omega)) (by show n4≠0; omega) (by omega) (by omega)) ?_;refine X1 _ (eJ (bf (ay (v:=4) (k:=63) (by decide) (by omega)) y) (ck (ay (v:=n5) (k:=63) (by omega) (by omega)) (ay (v:=n4) (k:=63) (by omega) (by omega)) (by show n4≠0; omega)) (by omega) (by omega)) ?_;refine .intro rfl ?_;exact ⟨HB,rc rfl,HB⟩
def cM (n2 n3 n4 n5:Nat):Nat→Nat × Nat
 | 1=>if n2>0∧n2>0 then cD (1,1) (cc 1 n2 n3 n3 n2) else (0,1)
 | 2=>if n2>0∧n3>0 then cD (2,1) (cc 2 n2 n3 n4 n3) else (0,1)
 | _=>if n2>0∧n4>0 then cD (3,1) (cc 3 n2 n3 n5 n4) else (0,1)
def fI (n2 n3 n4 n5 j k:Nat):Nat × Nat:=if j<k then cM n2 n3 n4 n5 j else (0,1)
def ofc (n2 n3 n4 n5 k:Nat):List PC:=[dV 0,dV 1,dV (fI n2 n3 n4 n5 1 k).1,dV (fI n2 n3 n4 n5 1 k).2,dV (fI n2 n3 n4 n5 2 k).1,dV (fI n2 n3 n4 n5 2 k).2,dV (fI n2 n3 n4 n5 3 k).1,dV (fI n2 n3 n4 n5 3 k).2]
theorem Bu (n0 n1 n2 n3 n4 n5:Nat) (m2:n2≤1000000) (m3:n3≤1000000) (m4:n4≤1000000) (m5:n5≤1000000):Ct P 93 [c6 n0 n1 n2 n3 n4 n5] [dS (0,1) (cM n2 n3 n4 n5 1) (cM n2 n3 n4 n5 2) (cM n2 n3 n4 n5 3)]:=by
 have pb:∀ (k a b:Nat),k+1<2^63→n2≠0→b≠0→a≤1000000→b≤1000000→Bd 400000 (cc k n2 n3 a b):=λk a b hk h2 hb ha hb'=>by
  have j1:Bd 63 (n2,1):=ay (by omega) (by omega);have j2:Bd 63 (n2+2*n3,1):=ay (by omega) (by omega);have y:=ck j1 j2 (by show n2+2*n3≠0; omega);exact (bf (bf (ay (v:=k+1) (k:=63) hk (by omega)) y) (ck (ay (v:=a) (k:=63) (by omega) (by omega)) (ay (v:=b) (k:=63) (by omega) (by omega)) hb)).le (by omega)
 refine Ct.go aj aa (N:=33) Tryz.func93 rfl rfl rfl rfl ?_;refine X1 _ (aH 0 (by omega)) ?_;refine X1 _ (aH 0 (by omega)) ?_;refine X1 _ (aH 0 (by omega)) ?_;refine X1 _ (aH 0 (by omega)) ?_;refine ax aj aa (λk:Nat=>1≤k∧k≤4) (λk=>[(1,.c (.ad 1 0)),(2,.c (.ad 2 0)),(3,.c (.ad 3 0)),(4,.c (nI .i64 k))])
  (λk=>[(1,.var [nI .i64 n0,nI .i64 n1,nI .i64 n2,nI .i64 n3,nI .i64 n4,nI .i64 n5]),(2,.var (List.replicate 8 (.sc (.slice none 0 0)))),(3,.var (ofc n2 n3 n4 n5 k))]) (λk=>4-k)
  1 ⟨by omega,by omega⟩ ⟨rfl,rfl,rfl,rfl,HB⟩ ⟨rfl,rfl,rfl,HB⟩ (λ_:Unit=>True) (λ_=>[(2,.c (.ad 2 0)),(3,.c (.ad 3 0))]) (λ_=>[(2,.var (List.replicate 8 (.sc (.slice none 0 0)))),(3,.var (ofc n2 n3 n4 n5 4))]) (λk hi=>?_) (λ_ _=>?_)
 ·obtain ⟨i1,i2⟩:=hi;refine ae (λh1=>?_) (λh1=>?_)
  ·have hk:k=1∨k=2∨k=3:=by omega
   rcases hk with rfl | rfl | rfl
   ·refine .intro (by decide) (.intro (by decide) ?_);refine ae (λh2=>?_) (λh2=>?_)
    ·refine X1 ((2:Nat):Int) (wI (by simp) (by omega) (by omega)) ?_;refine .intro (by decide) (.intro (by decide) ?_);refine ae (λh3=>?_) (λh3=>?_)
     ·have hr:cM n2 n3 n4 n5 1=cD (1,1) (cc 1 n2 n3 n3 n2):=by
       show (if _ then _ else _)=_
       exact if_pos ⟨by omega,by omega⟩
      refine X1 _ (aH 1 (by omega)) ?_;refine X1 _ (zl n0 n1 n2 n3 n4 n5 (by omega) (by omega) m2 m3 m4 m5) ?_;refine X1 _ (mR (ay (v:=1) (k:=63) (by decide) (by omega)) (pb 1 n3 n2 (by decide) (by omega) (by omega) (by omega) (by omega)) (by omega) (by omega)) ?_;refine .intro (by decide) (.intro (by decide) ?_);refine .intro rfl ?_;refine X1 ((2:Nat):Int) (wI (by simp) (by omega) (by omega)) ?_;exact ⟨2,⟨by omega,by omega⟩,by decide,⟨rfl,rfl,rfl,rfl,HB⟩,⟨rfl,rfl,by unfold ofc fI; simp only[hr]; rfl,HB⟩⟩
     ·have hr:cM n2 n3 n4 n5 1=(0,1):=by
       show (if _ then _ else _)=_
       exact if_neg (by omega)
      refine X1 ((2:Nat):Int) (wI (by simp) (by omega) (by omega)) ?_;exact ⟨2,⟨by omega,by omega⟩,by decide,⟨rfl,rfl,rfl,rfl,HB⟩,⟨rfl,rfl,by unfold ofc fI; simp only[hr]; rfl,HB⟩⟩
    ·have hr:cM n2 n3 n4 n5 1=(0,1):=by
       show (if _ then _ else _)=_
       exact if_neg (by omega)
     refine X1 ((2:Nat):Int) (wI (by simp) (by omega) (by omega)) ?_;exact ⟨2,⟨by omega,by omega⟩,by decide,⟨rfl,rfl,rfl,rfl,HB⟩,⟨rfl,rfl,by unfold ofc fI; simp only[hr]; rfl,HB⟩⟩
   ·refine .intro (by decide) (.intro (by decide) ?_);refine ae (λh2=>?_) (λh2=>?_)
    ·refine X1 ((3:Nat):Int) (wI (by simp) (by omega) (by omega)) ?_;refine .intro (by decide) (.intro (by decide) ?_);refine ae (λh3=>?_) (λh3=>?_)
     ·have hr:cM n2 n3 n4 n5 2=cD (2,1) (cc 2 n2 n3 n4 n3):=by
       show (if _ then _ else _)=_
       exact if_pos ⟨by omega,by omega⟩
      refine X1 _ (aH 2 (by omega)) ?_;refine X1 _ (zm n0 n1 n2 n3 n4 n5 (by omega) (by omega) m2 m3 m4 m5) ?_;refine X1 _ (mR (ay (v:=2) (k:=63) (by decide) (by omega)) (pb 2 n4 n3 (by decide) (by omega) (by omega) (by omega) (by omega)) (by omega) (by omega)) ?_;refine .intro (by decide) (.intro (by decide) ?_);refine .intro rfl ?_;refine X1 ((3:Nat):Int) (wI (by simp) (by omega) (by omega)) ?_;exact ⟨3,⟨by omega,by omega⟩,by decide,⟨rfl,rfl,rfl,rfl,HB⟩,⟨rfl,rfl,by unfold ofc fI; simp only[hr]; rfl,HB⟩⟩
     ·have hr:cM n2 n3 n4 n5 2=(0,1):=by
       show (if _ then _ else _)=_
       exact if_neg (by omega)
      refine X1 ((3:Nat):Int) (wI (by simp) (by omega) (by omega)) ?_;exact ⟨3,⟨by omega,by omega⟩,by decide,⟨rfl,rfl,rfl,rfl,HB⟩,⟨rfl,rfl,by unfold ofc fI; simp only[hr]; rfl,HB⟩⟩
    ·have hr:cM n2 n3 n4 n5 2=(0,1):=by
       show (if _ then _ else _)=_
       exact if_neg (by omega)
     refine X1 ((3:Nat):Int) (wI (by simp) (by omega) (by omega)) ?_;exact ⟨3,⟨by omega,by omega⟩,by decide,⟨rfl,rfl,rfl,rfl,HB⟩,⟨rfl,rfl,by unfold ofc fI; simp only[hr]; rfl,HB⟩⟩
   ·refine .intro (by decide) (.intro (by decide) ?_);refine ae (λh2=>?_) (λh2=>?_)
    ·refine X1 ((4:Nat):Int) (wI (by simp) (by omega) (by omega)) ?_;refine .intro (by decide) (.intro (by decide) ?_);refine ae (λh3=>?_) (λh3=>?_)
     ·have hr:cM n2 n3 n4 n5 3=cD (3,1) (cc 3 n2 n3 n5 n4):=by
       show (if _ then _ else _)=_
       exact if_pos ⟨by omega,by omega⟩
      refine X1 _ (aH 3 (by omega)) ?_;refine X1 _ (zn n0 n1 n2 n3 n4 n5 (by omega) (by omega) m2 m3 m4 m5) ?_;refine X1 _ (mR (ay (v:=3) (k:=63) (by decide) (by omega)) (pb 3 n5 n4 (by decide) (by omega) (by omega) (by omega) (by omega)) (by omega) (by omega)) ?_;refine .intro (by decide) (.intro (by decide) ?_);refine .intro rfl ?_;refine X1 ((4:Nat):Int) (wI (by simp) (by omega) (by omega)) ?_;exact ⟨4,⟨by omega,by omega⟩,by decide,⟨rfl,rfl,rfl,rfl,HB⟩,⟨rfl,rfl,by unfold ofc fI; simp only[hr]; rfl,HB⟩⟩
     ·have hr:cM n2 n3 n4 n5 3=(0,1):=by
       show (if _ then _ else _)=_
       exact if_neg (by omega)
      refine X1 ((4:Nat):Int) (wI (by simp) (by omega) (by omega)) ?_;exact ⟨4,⟨by omega,by omega⟩,by decide,⟨rfl,rfl,rfl,rfl,HB⟩,⟨rfl,rfl,by unfold ofc fI; simp only[hr]; rfl,HB⟩⟩
    ·have hr:cM n2 n3 n4 n5 3=(0,1):=by
       show (if _ then _ else _)=_
       exact if_neg (by omega)
     refine X1 ((4:Nat):Int) (wI (by simp) (by omega) (by omega)) ?_;exact ⟨4,⟨by omega,by omega⟩,by decide,⟨rfl,rfl,rfl,rfl,HB⟩,⟨rfl,rfl,by unfold ofc fI; simp only[hr]; rfl,HB⟩⟩
  ·have e:k=4:=by omega
   subst e;exact ⟨(),HB,⟨rfl,rfl,HB⟩,⟨rfl,rfl,HB⟩⟩
 ·exact ⟨HB,rc rfl,HB⟩
def nz (p:Nat × Nat):Nat × Nat:=(p.1,dn p.2)
theorem qz (p:Nat × Nat):(nz p).2≠0:=fH p.2
theorem zo {p:Nat × Nat} (h:p.2≠0):nz p=p:=by unfold nz; rw[fW h]
theorem Bd.bg {k:Nat} {p:Nat × Nat} (h:Bd k (nz p)):Bg k p:=
 ⟨h.n,Gq (show p.2≤dn p.2 by unfold dn; split<;>omega) h.d⟩
theorem au {k:Nat} {p:Nat × Nat} (h:Bd k p):nz p=p:=zo h.pos
theorem iy {n d:Nat} (h:d≠0):Nat.gcd (fR n d).1 (fR n d).2=1:=by
 have hg:=Nat.gcd_pos_of_pos_right n (E5 h);show Nat.gcd (n/Nat.gcd n d) (d/Nat.gcd n d)=1
 rw[Nat.gcd_div (G7 n d) (Gw n d),Hf hg]
theorem uZ {n d:Nat} (h:Nat.gcd n d=1):fR n d=(n,d):=by unfold fR; rw[h]; simp
theorem zp {p:Nat × Nat} (h:Nat.gcd p.1 p.2=1):bH (0,1) p=p:=by
 have:bH (0,1) p=fR p.1 p.2:=by unfold bH; simp
 rw[this,uZ h]
theorem CZ {p q:Nat × Nat} (hp:p.2≠0) (hq:q.2≠0) (h:p.1*q.2<q.1*p.2):cD p q=(0,1):=by
 unfold cD;rw[Nat.sub_eq_zero_of_le (Nat.le_of_lt h)];unfold fR;rw[GM,Hs,Hf (E5 (EU hp hq))]
theorem C0 (p q:Nat × Nat):Bl p q=cD (nz p) (nz q):=by
 unfold Bl;split
 ·rename_i h; exact (CZ (qz p) (qz q) h).symm
 ·rfl
theorem eq {k m:Nat} {p q:Nat × Nat} (h1:Bd k (nz p)) (h2:Bd m (nz q)) (hk:k≤400000) (hm:m≤400000):Ct P 133 [qP p,qP q] [qP (cI (nz p) (nz q))]:=Bm h1.bg h2.bg (by omega) (by omega)
theorem u4 {k m:Nat} {p q:Nat × Nat} (h1:Bd k (nz p)) (h2:Bd m (nz q)) (hq:q.1≠0) (hk:k≤400000) (hm:m≤400000):Ct P 26 [qP p,qP q] [qP (c9 (nz p) (nz q)),.c (eI .i64 0)]:=uY h1.bg h2.bg hq (by omega) (by omega)
theorem ua {k m:Nat} {p q:Nat × Nat} (h1:Bd k (nz p)) (h2:Bd m (nz q)) (hq:q.1≠0) (hk:k≤400000) (hm:m≤400000):Ct P 132 [qP p,qP q] [qP (c9 (nz p) (nz q))]:=CX h1.bg h2.bg hq (by omega) (by omega)
theorem iZ {k m:Nat} {p q:Nat × Nat} (h1:Bd k (nz p)) (h2:Bd m (nz q)) (hk:k≤400000) (hm:m≤400000):Ct P 52 [qP p,qP q] [qP (cD (nz p) (nz q))]:=by
 rw[←C0]; exact Bn h1.bg h2.bg (by omega) (by omega)
theorem Bd.limq {k:Nat} {p:Nat × Nat} (h:Bd k (nz p)) (hk:k≤2000000):LimQ p.1 p.2:=h.bg.lim hk
theorem bL {k:Nat} {p:Nat × Nat} (h:Bd k p) (hk:k≤2000000):LimQ p.1 p.2:=Bd.limq (k:=k) (by rw[au h]; exact h) hk
theorem bd01:Bd 1 (0,1):=⟨by decide,by decide,by decide⟩
theorem iz {k m:Nat} {p q:Nat × Nat} (h1:Bd k (nz p)) (h2:Bd m (nz q)) (r1:Nat.gcd (nz p).1 (nz p).2=1) (hk:k+m<2000000):Ct P 116 [.c (.sl 2 (qu [p,q]))] [qP (bH (nz p) (nz q))]:=by
 have e1:cx (0,1) p=nz p:=zp r1;have e2:cx (nz p) q=bH (nz p) (nz q):=by
  show bH (nz (nz p)) (nz q)=_
  rw[zo (qz p)]
 have b2:=ep h1 h2;have:=uX [p,q] (by simp) (λi hi=>by
  match i,hi with
  | 0,_=>exact h1.limq (by omega)
  | 1,_=>exact h2.limq (by omega)) (λi hi=>by
  match i,hi with
  | 0,_=>exact bL bd01 (by omega)
  | 1,_=>show LimQ (cx (0,1) p).1 (cx (0,1) p).2; rw[e1]; exact bL h1 (by omega)
  | 2,_=>show LimQ (cx (cx (0,1) p) q).1 (cx (cx (0,1) p) q).2; rw[e1,e2]; exact bL b2 (by omega))
 have e:[p,q].foldl cx (0,1)=bH (nz p) (nz q):=by
  show cx (cx (0,1) p) q=_
  rw[e1,e2]
 rw[e]at this;exact this
theorem kN {k m:Nat} {p q:Nat × Nat} (h1:Bd k (nz p)) (h2:Bd m (nz q)) (r1:Nat.gcd (nz p).1 (nz p).2=1) (hk:k≤400000) (hm:m≤400000):Ct P 116 [.c (.sl 2 (qu [p,q]))] [qP (bH (nz p) (nz q))]:=iz h1 h2 r1 (by omega)
theorem sy {k m n:Nat} {p q r:Nat × Nat} (h1:Bd k (nz p)) (h2:Bd m (nz q)) (h3:Bd n (nz r)) (r1:Nat.gcd (nz p).1 (nz p).2=1) (hk:k≤400000) (hm:m≤400000) (hn:n≤400000):Ct P 116 [.c (.sl 2 (qu [p,q,r]))] [qP (bH (bH (nz p) (nz q)) (nz r))]:=by
 have e1:cx (0,1) p=nz p:=zp r1;have e2:cx (nz p) q=bH (nz p) (nz q):=by
  show bH (nz (nz p)) (nz q)=_
  rw[zo (qz p)]
 have b2:=ep h1 h2;have e3:cx (bH (nz p) (nz q)) r=bH (bH (nz p) (nz q)) (nz r):=by
  show bH (nz (bH (nz p) (nz q))) (nz r)=_
  rw[au b2]
 have b3:=ep b2 h3;have:=uX [p,q,r] (by simp) (λi hi=>by
  match i,hi with
  | 0,_=>exact h1.limq (by omega)
  | 1,_=>exact h2.limq (by omega)
  | 2,_=>exact h3.limq (by omega)) (λi hi=>by
  match i,hi with
  | 0,_=>exact bL bd01 (by omega)
  | 1,_=>show LimQ (cx (0,1) p).1 (cx (0,1) p).2; rw[e1]; exact bL h1 (by omega)
  | 2,_=>show LimQ (cx (cx (0,1) p) q).1 (cx (cx (0,1) p) q).2; rw[e1,e2]; exact bL b2 (by omega)
  | 3,_=>show LimQ (cx (cx (cx (0,1) p) q) r).1 (cx (cx (cx (0,1) p) q) r).2; rw[e1,e2,e3]; exact bL b3 (by omega))
 have e:[p,q,r].foldl cx (0,1)=bH (bH (nz p) (nz q)) (nz r):=by
  show cx (cx (cx (0,1) p) q) r=_
  rw[e1,e2,e3]
 rw[e]at this;exact this
theorem cT (n:Nat) (hn:n<9223372036854775808):Ct P 131 [.c (nI .i64 n)] [qP (n,1)]:=by
 have:=zd (n:Int) (by omega);unfold wh at this;simpa using this
abbrev c7 (n0 n1 n2 n3 n4 n5:Nat):A1:=.ag [nI .i64 n0,nI .i64 n1,nI .i64 0,nI .i64 n2,nI .i64 n3,nI .i64 n4,nI .i64 n5]
theorem nz1 (n:Nat):nz (n,1)=(n,1):=rfl
theorem bd1 {n:Nat} (h:n<9223372036854775808):Bd 63 (nz (n,1)):=ay h (by omega)
def zq (p1 p2 p3:Nat × Nat) (n0 n2 n3:Nat):Nat × Nat:=bH (bH (cI (n2,1) p1) (cI (n3,1) p2)) (cI (n0-n2-n3,1) p3)
theorem Bv {k:Nat} (p0 p1 p2 p3:Nat × Nat) (n0 n1 n2 n3 n4 n5:Nat) (b1:Bd k (nz p1)) (b2:Bd k (nz p2)) (b3:Bd k (nz p3)) (hk:k≤100000) (m0:n0<4611686018427387904) (m2:n2+n3≤n0) :
  Ct P 190 [gS p0 p1 p2 p3,c7 n0 n1 n2 n3 n4 n5] [qP (zq (nz p1) (nz p2) (nz p3) n0 n2 n3)]:=by
 have i0:Bd 63 (nz (n0-n2-n3,1)):=bd1 (by omega);have i2:Bd 63 (nz (n2,1)):=bd1 (by omega);have i3:Bd 63 (nz (n3,1)):=bd1 (by omega);have f1:=bf i2 b1;have f2:=bf i3 b2;have f4:=bf i0 b3;have g1:Bd (63+k) (nz (cI (nz (n2,1)) (nz p1))):=by rw[au f1]; exact f1
 have g2:Bd (63+k) (nz (cI (nz (n3,1)) (nz p2))):=by rw[au f2]; exact f2
 have g4:Bd (63+k) (nz (cI (nz (n0-n2-n3,1)) (nz p3))):=by rw[au f4]; exact f4
 have hr:Nat.gcd (nz (cI (nz (n2,1)) (nz p1))).1 (nz (cI (nz (n2,1)) (nz p1))).2=1:=by
  rw[au f1]; exact iy (EU i2.pos b1.pos)
 have hadd:=sy g1 g2 g4 hr (by omega) (by omega) (by omega);rw[au f1,au f2,au f4]at hadd;refine Ct.go (Ty.own_ok [1000001] aj) aa (N:=42) Tryz.func190 rfl rfl rfl rfl ?_;refine .intro (by decide) (.intro (by decide) ?_);refine X1 _ (cT n2 (by omega)) ?_;refine .intro (by decide) (.intro (by decide) ?_);refine X1 _ (eq i2 b1 (by omega) (by omega)) ?_;refine .intro rfl ?_;refine .intro (by decide) (.intro (by decide) ?_);refine X1 _ (cT n3 (by omega)) ?_;refine .intro (by decide) (.intro (by decide) ?_);refine X1 _ (eq i3 b2 (by omega) (by omega)) ?_;refine .intro rfl ?_;refine .intro (by decide) (.intro (by decide) ?_);refine X1 ((n0-n2:Nat):Int) (wI (by omega) (by omega) (by omega)) ?_;refine .intro (by decide) (.intro (by decide) ?_);refine X1 ((n0-n2-n3:Nat):Int) (wI (by omega) (by omega) (by omega)) ?_;refine X1 _ (cT (n0-n2-n3) (by omega)) ?_;refine .intro (by decide) (.intro (by decide) ?_);refine X1 _ (eq i0 b3 (by omega) (by omega)) ?_;refine X1 _ hadd ?_;refine .intro rfl ?_;exact ⟨HB,rc rfl,HB⟩
theorem we {k:Nat} (p0 p1 p2 p3:Nat × Nat) (n0 n1 n2 n3 n4 n5:Nat) (b1:Bd k (nz p1)) (b2:Bd k (nz p2)) (b3:Bd k (nz p3)) (hk:k≤100000) (m0:n0<4611686018427387904) (m1:n1≤4611686018427387904) (m2:n2+n3≤n0) :
  Ct P 184 [gS p0 p1 p2 p3,c7 n0 n1 n2 n3 n4 n5] [qP (jv (nz p1) (nz p2) (nz p3) n0 n1 n2 n3)]:=by
 have i1:Bd 63 (nz (n1,1)):=bd1 (by omega);have f5:Bd (63+k+(63+k)+1+(63+k)+1) (zq (nz p1) (nz p2) (nz p3) n0 n2 n3):=ep (ep (bf (bd1 (n:=n2) (by omega)) b1) (bf (bd1 (n:=n3) (by omega)) b2)) (bf (bd1 (n:=n0-n2-n3) (by omega)) b3);have g5:=f5;rw[←au f5]at g5;refine Ct.go (Ty.own_ok [1000001] aj) aa (N:=16) Tryz.func184 rfl rfl rfl rfl ?_;refine ae (λh0=>?_) (λh0=>?_)
 ·rw[jv,if_pos (by omega)];refine X1 _ (be 1 (by omega)) ?_;exact ⟨HB,rc rfl,HB⟩
 ·rw[jv,if_neg (by omega)];refine X1 _ (Bv p0 p1 p2 p3 n0 n1 n2 n3 n4 n5 b1 b2 b3 hk m0 m2) ?_;refine X1 _ (cT n1 (by omega)) ?_;refine X1 _ (ua g5 i1 (by show n1≠0; omega) (by omega) (by omega)) ?_;refine .intro rfl ?_;rw[au f5];exact ⟨HB,rc rfl,HB⟩
theorem DV {P:Program} {N:Nx} {E:Env} {O:Objs} {c:Code} {Q:PQ} {k:Nat} {cells cells':List PC} (hk:O.get k=some (.var cells)) (hl:leL cells cells') (h:WI P N E (O.set k (.var cells')) c Q):WI P N E O c Q:=
 WI.step (λX K ok w a hs=>by
  have hsub:∀ t o,(O.set k (.var cells')).get t=some o→∃ o',O.get t=some o':=λt o h=>by
   rw[Objs.get_set]at h;split at h
   ·rename_i e; subst e; exact ⟨_,hk⟩
   ·exact ⟨o,h⟩
  refine ⟨K,ok,⟨hs.size,hs.defers,hs.base,hs.rnd,hs.old,⟨λt o g=>?_,λt t' o o' b L L' g1 g2=>?_,λt o b L g=>?_,hs.hp.lt,hs.hp.hlt,hs.hp.hok,λt o b L g=>?_⟩,hs.env⟩,
   Ew _,λ_ _ _ _=>rfl,λ_ h=>h,λ_ h=>.inl h,λt o b L g1 g2=>by obtain ⟨o',g3⟩:=hsub t o g1; exact .inr ⟨t,o',L,g3,g2⟩,rfl,rfl,rfl,λ_ o h=>⟨o,h,SK.refl o⟩,λ_ _=>rfl,λ_ h=>.inl h⟩
  ·rw[Objs.get_set]at g;split at g
   ·rename_i e;subst e;cases g;obtain ⟨b,cs,e,fr,a1,a2,a3,a4⟩:=hs.hp.obs k _ hk;exact ⟨b,cs,e,fr,a1,a2,a3,leL.rel hl a4⟩
   ·exact hs.hp.obs t o g
  ·obtain ⟨p,q1⟩:=hsub t o g1;obtain ⟨p',q2⟩:=hsub t' o' g2;exact hs.hp.inj t t' p p' b L L' q1 q2
  ·obtain ⟨p,q1⟩:=hsub t o g; exact hs.hp.apart t p b L q1
  ·obtain ⟨p,q1⟩:=hsub t o g; exact hs.hp.how t p b L q1) h
theorem dE (sz:Nat):leP (.sc (.slice none 0 0)) (.sl sz []):=.inr ⟨rfl,sz,rfl⟩
theorem zr {m n:Nat} {X Y:Prop} (h1:m=n→X) (h2:m≠n→Y):BM X Y (m==n):=aP (λh=>h1 (by simpa using h)) (λh=>h2 (by simpa using h))
def cN (n2 n3 n4 n5:Nat):Nat→Nat
 | 1=>n2
 | 2=>n3
 | 3=>n4
 | 4=>n5
 | _=>0
theorem iA (n0 n1 n2 n3 n4 n5 k:Nat) (h1:1≤k) (h2:k≤4) (m2:n2≤1000000) (m3:n3≤1000000) (m4:n4≤1000000) (m5:n5≤1000000) :
  Ct P 130 [.c (nI .i64 k),.c (.rd [nI .i64 n0,nI .i64 n1,nI .i64 0,nI .i64 n2,nI .i64 n3,nI .i64 n4,nI .i64 n5])] [qP (cN n2 n3 n4 n5 k,1)]:=by
 refine Ct.go aj aa (N:=9) Tryz.func130 rfl rfl rfl rfl ?_;have hk:k=1∨k=2∨k=3∨k=4:=by omega
 rcases hk with rfl | rfl | rfl | rfl
 ·refine .intro (by decide) (.intro (by decide) ?_);exact X1 _ (cT n2 (by omega)) ⟨HB,rc rfl,HB⟩
 ·refine .intro (by decide) (.intro (by decide) ?_);exact X1 _ (cT n3 (by omega)) ⟨HB,rc rfl,HB⟩
 ·refine .intro (by decide) (.intro (by decide) ?_);exact X1 _ (cT n4 (by omega)) ⟨HB,rc rfl,HB⟩
 ·refine .intro (by decide) (.intro (by decide) ?_);exact X1 _ (cT n5 (by omega)) ⟨HB,rc rfl,HB⟩
def dw (n2 n3 n4 n5 k:Nat):Nat × Nat:=if n2=0∨cN n2 n3 n4 n5 k=0 then (0,0) else cD (k,1) (cc k n2 n3 (cN n2 n3 n4 n5 (k+1)) (cN n2 n3 n4 n5 k))
theorem qA {n2 n3:Nat} (k a b:Nat) (hk:k+1<2^63) (h2:n2≠0) (hb:b≠0) (m2:n2≤1000000) (m3:n3≤1000000) (ha:a≤1000000) (hb':b≤1000000):Bd 400 (cc k n2 n3 a b):=by
 have j1:Bd 63 (n2,1):=ay (by omega) (by omega);have j2:Bd 63 (n2+2*n3,1):=ay (by omega) (by omega);have y:=ck j1 j2 (by show n2+2*n3≠0; omega);exact (bf (bf (ay (v:=k+1) (k:=63) hk (by omega)) y) (ck (ay (v:=a) (k:=63) (by omega) (by omega)) (ay (v:=b) (k:=63) (by omega) (by omega)) hb)).le (by omega)
theorem zs {n2 n3 n4 n5:Nat} (m2:n2≤1000000) (m3:n3≤1000000) (m4:n4≤1000000) (m5:n5≤1000000) (k:Nat):cN n2 n3 n4 n5 k≤1000000:=by
 unfold cN; split<;>omega
theorem u5 {n2 n3 n4 n5:Nat} (m2:n2≤1000000) (m3:n3≤1000000) (m4:n4≤1000000) (m5:n5≤1000000) (k:Nat) (h1:1≤k) (h3:k≤3):nz (dw n2 n3 n4 n5 k)=cM n2 n3 n4 n5 k:=by
 have key:∀ j,1≤j→j≤3→(n2≠0∧cN n2 n3 n4 n5 j≠0→nz (cD (j,1) (cc j n2 n3 (cN n2 n3 n4 n5 (j+1)) (cN n2 n3 n4 n5 j)))=cD (j,1) (cc j n2 n3 (cN n2 n3 n4 n5 (j+1)) (cN n2 n3 n4 n5 j))):=λj hj hj3 h=>
  au (mP (ay (v:=j) (k:=63) (by omega) (by omega)) (qA j _ _ (by omega) h.1 h.2 m2 m3 (zs m2 m3 m4 m5 _) (zs m2 m3 m4 m5 _)))
 have h0:nz (0,0)=(0,1):=rfl;have hk:=key k h1 h3;unfold dw;have hkk:k=1∨k=2∨k=3:=by omega
 rcases hkk with rfl | rfl | rfl <;>
 ·simp only[cN,cM,cc]at hk ⊢;split
  ·rename_i h;rw[h0,if_neg (by omega)]
  ·rename_i h;rw[hk (by omega),if_pos (by omega)]
def qB (n2 n3 n4 n5 j k:Nat):Nat × Nat:=if j<k then dw n2 n3 n4 n5 j else (0,0)
def ofR (n2 n3 n4 n5 k:Nat):List PC:=[nSl .u64 [],nSl .u64 [],nSl .u64 (dg 18446744073709551616 (qB n2 n3 n4 n5 1 k).1),nSl .u64 (dg 18446744073709551616 (qB n2 n3 n4 n5 1 k).2),nSl .u64 (dg 18446744073709551616 (qB n2 n3 n4 n5 2 k).1),nSl .u64 (dg 18446744073709551616 (qB n2 n3 n4 n5 2 k).2),nSl .u64 (dg 18446744073709551616 (qB n2 n3 n4 n5 3 k).1),nSl .u64 (dg 18446744073709551616 (qB n2 n3 n4 n5 3 k).2)]
theorem C1 (a b:Nat) (h:a+2*b<4611686018427387904):bH (bH (nz (a,1)) (nz (b,1))) (nz (b,1))=(a+2*b,1):=by
 have e:∀ x y,bH (x,1) (y,1)=(x+y,1):=λx y=>by
  unfold bH;simp only[FT];exact uZ (Hh _)
 rw[nz1,nz1,e,e];congr 1;omega
theorem C2 (n0 n1 n2 n3 n4 n5:Nat) (m2:n2≤1000000) (m3:n3≤1000000) (m4:n4≤1000000) (m5:n5≤1000000):Ct P 85 [c7 n0 n1 n2 n3 n4 n5] [gS (0,0) (dw n2 n3 n4 n5 1) (dw n2 n3 n4 n5 2) (dw n2 n3 n4 n5 3)]:=by
 have hcN:=zs m2 m3 m4 m5;refine Ct.go (Ty.own_ok [1000001] aj) aa (N:=54) Tryz.func85 rfl rfl rfl rfl ?_;refine X1 [.ad 1 0] rfl ?_;refine X2 .frz ?_;refine X1 _ (iA n0 n1 n2 n3 n4 n5 1 (by omega) (by omega) m2 m3 m4 m5) ?_;refine X1 _ (kL n2 1 (EA (cr (k:=1) (by omega) (by omega)) (by omega))) ?_;refine zr (λh0=>?_) (λh0=>?_)
 ·have hr:∀ k,dw n2 n3 n4 n5 k=(0,0):=λk=>by unfold dw; rw[if_pos (.inl h0)]
  have hd:dg 18446744073709551616 0=[]:=bE _;have hg:gS (0,0) (0,0) (0,0) (0,0) = .ag [nSl .u64 [],nSl .u64 [],nSl .u64 [],nSl .u64 [],nSl .u64 [],nSl .u64 [],nSl .u64 [],nSl .u64 []]:=by simp only[gS,hd]
  rw[hr,hr,hr,hg];refine ⟨HB,⟨_,rfl,?_⟩,HB⟩;exact ⟨dE 1,dE 1,dE 1,dE 1,dE 1,dE 1,dE 1,dE 1,HB⟩
 ·refine X1 _ (iA n0 n1 n2 n3 n4 n5 1 (by omega) (by omega) m2 m3 m4 m5) ?_;refine X1 _ (iA n0 n1 n2 n3 n4 n5 1 (by omega) (by omega) m2 m3 m4 m5) ?_;refine X1 _ (iA n0 n1 n2 n3 n4 n5 2 (by omega) (by omega) m2 m3 m4 m5) ?_;refine X1 _ (iA n0 n1 n2 n3 n4 n5 2 (by omega) (by omega) m2 m3 m4 m5) ?_;refine X2 .frz ?_;have hadd:=sy (bd1 (n:=n2) (by omega)) (bd1 (n:=n3) (by omega)) (bd1 (n:=n3) (by omega)) (Hh _) (by omega) (by omega) (by omega);rw[C1 n2 n3 (by omega)]at hadd;refine X1 _ hadd ?_;have j1:Bd 63 (nz (n2,1)):=bd1 (by omega);have j2:Bd 63 (nz (n2+2*n3,1)):=bd1 (by omega);refine X1 _ (ua j1 j2 (by show n2+2*n3≠0; omega) (by omega) (by omega)) ?_;have y:=ck j1 j2 (by show n2+2*n3≠0; omega);refine DV (k:=3) (cells':=ofR n2 n3 n4 n5 1) rfl ?_ ?_
  ·have hd:dg 18446744073709551616 0=[]:=bE _;have e:∀ j,1≤j→qB n2 n3 n4 n5 j 1=(0,0):=λj hj=>if_neg (by omega)
   have hg:ofR n2 n3 n4 n5 1=[nSl .u64 [],nSl .u64 [],nSl .u64 [],nSl .u64 [],nSl .u64 [],nSl .u64 [],nSl .u64 [],nSl .u64 []]:=by
    unfold ofR;rw[e 1 (by omega),e 2 (by omega),e 3 (by omega)];simp only[hd]
   rw[hg];exact ⟨dE 1,dE 1,dE 1,dE 1,dE 1,dE 1,dE 1,dE 1,HB⟩
  refine ax (Ty.own_ok [1000001] aj) aa (λk:Nat=>1≤k∧k≤4) (λk=>[(2,.c (.ad 2 0)),(3,.c (.ad 3 0)),(4,.c (.fn 130 [.rd [nI .i64 n0,nI .i64 n1,nI .i64 0,nI .i64 n2,nI .i64 n3,nI .i64 n4,nI .i64 n5]])),(5,.c (.ad 5 0)),(6,.c (nI .i64 k))])
   (λk=>[(2,.var (List.replicate 8 (.sc (.slice none 0 0)))),(3,.var (ofR n2 n3 n4 n5 k)),(5,.var [nSl .u64 (dg 18446744073709551616 (c9 (nz (n2,1)) (nz (n2+2*n3,1))).1),nSl .u64 (dg 18446744073709551616 (c9 (nz (n2,1)) (nz (n2+2*n3,1))).2)])]) (λk=>4-k)
   1 ⟨by omega,by omega⟩ ⟨rfl,rfl,rfl,rfl,rfl,HB⟩ ⟨rfl,rfl,rfl,HB⟩ (λ_:Unit=>True) (λ_=>[(2,.c (.ad 2 0)),(3,.c (.ad 3 0))]) (λ_=>[(2,.var (List.replicate 8 (.sc (.slice none 0 0)))),(3,.var (ofR n2 n3 n4 n5 4))]) (λk hi=>?_) (λ_ _=>?_)
  ·obtain ⟨i1,i2⟩:=hi;refine ae (λh1=>?_) (λh1=>?_)
   ·refine X1 _ (iA n0 n1 n2 n3 n4 n5 k (by omega) (by omega) m2 m3 m4 m5) ?_;have c1:=hcN k;have c2:=hcN (k+1);refine X1 _ (kL (cN n2 n3 n4 n5 k) 1 (EA (cr (k:=1) (by omega) (by omega)) (by omega))) ?_;refine zr (λh2=>?_) (λh2=>?_)
    ·have hr:dw n2 n3 n4 n5 k=(0,0):=by unfold dw; rw[if_pos (.inr h2)]
     refine X1 ((k+1:Nat):Int) (wI (by simp) (by omega) (by omega)) ?_;refine ⟨k+1,⟨by omega,by omega⟩,by show 4-(k+1)<4-k; omega,⟨rfl,rfl,rfl,rfl,rfl,HB⟩,⟨rfl,?_,rfl,HB⟩⟩;have hk:k=1∨k=2∨k=3:=by omega
     rcases hk with rfl | rfl | rfl<;>(unfold ofR qB; simp only[hr]; rfl)
    ·have hr:dw n2 n3 n4 n5 k=cD (k,1) (cc k n2 n3 (cN n2 n3 n4 n5 (k+1)) (cN n2 n3 n4 n5 k)):=by unfold dw; rw[if_neg (by omega)]
     have pb:=qA k (cN n2 n3 n4 n5 (k+1)) (cN n2 n3 n4 n5 k) (by omega) h0 h2 m2 m3 c2 c1;have hk1:Bd 63 (nz (k+1,1)):=bd1 (by omega);have hyz:nz (c9 (nz (n2,1)) (nz (n2+2*n3,1)))=c9 (nz (n2,1)) (nz (n2+2*n3,1)):=au y;have y':=y;rw[←hyz]at y';have ha:Bd 63 (nz (cN n2 n3 n4 n5 (k+1),1)):=bd1 (by omega);have hb:Bd 63 (nz (cN n2 n3 n4 n5 k,1)):=bd1 (by omega);have q1:=bf hk1 y';have q1':=q1;rw[←au q1]at q1';have q2:=ck ha hb h2;have q2':=q2;rw[←au q2]at q2';have hpe:cI (nz (cI (nz (k+1,1)) (nz (c9 (nz (n2,1)) (nz (n2+2*n3,1)))))) (nz (c9 (nz (cN n2 n3 n4 n5 (k+1),1)) (nz (cN n2 n3 n4 n5 k,1))))=cc k n2 n3 (cN n2 n3 n4 n5 (k+1)) (cN n2 n3 n4 n5 k):=by
      rw[au q1,au q2,hyz]; rfl
     refine X1 ((k+1:Nat):Int) (wI (by simp) (by omega) (by omega)) ?_;refine X1 _ (cT (k+1) (by omega)) ?_;refine X1 _ (eq hk1 y' (by omega) (by omega)) ?_;refine X1 ((k+1:Nat):Int) (wI (by simp) (by omega) (by omega)) ?_;refine X1 _ (iA n0 n1 n2 n3 n4 n5 (k+1) (by omega) (by omega) m2 m3 m4 m5) ?_;refine X1 _ (iA n0 n1 n2 n3 n4 n5 k (by omega) (by omega) m2 m3 m4 m5) ?_;refine X1 _ (ua ha hb h2 (by omega) (by omega)) ?_;refine X1 _ (eq q1' q2' (by omega) (by omega)) ?_;refine .intro rfl ?_;rw[hpe];refine X1 _ (cT k (by omega)) ?_;have pb':=pb;rw[←au pb]at pb';refine X1 _ (iZ (bd1 (n:=k) (by omega)) pb' (by omega) (by omega)) ?_;rw[au pb,nz1 k,←hr];have hk:k=1∨k=2∨k=3:=by omega
     rcases hk with rfl | rfl | rfl
     ·refine .intro (by decide) (.intro (by decide) ?_);refine .intro rfl ?_;refine X1 ((2:Nat):Int) (wI (by simp) (by omega) (by omega)) ?_;exact ⟨2,⟨by omega,by omega⟩,by decide,⟨rfl,rfl,rfl,rfl,rfl,HB⟩,⟨rfl,rfl,rfl,HB⟩⟩
     ·refine .intro (by decide) (.intro (by decide) ?_);refine .intro rfl ?_;refine X1 ((3:Nat):Int) (wI (by simp) (by omega) (by omega)) ?_;exact ⟨3,⟨by omega,by omega⟩,by decide,⟨rfl,rfl,rfl,rfl,rfl,HB⟩,⟨rfl,rfl,rfl,HB⟩⟩
     ·refine .intro (by decide) (.intro (by decide) ?_);refine .intro rfl ?_;refine X1 ((4:Nat):Int) (wI (by simp) (by omega) (by omega)) ?_;exact ⟨4,⟨by omega,by omega⟩,by decide,⟨rfl,rfl,rfl,rfl,rfl,HB⟩,⟨rfl,rfl,rfl,HB⟩⟩
   ·have e:k=4:=by omega
    subst e;exact ⟨(),HB,⟨rfl,rfl,HB⟩,⟨rfl,rfl,HB⟩⟩
  ·have hd:dg 18446744073709551616 0=[]:=bE _;have e:∀ j,j<4→qB n2 n3 n4 n5 j 4=dw n2 n3 n4 n5 j:=λj hj=>if_pos hj
   have hg:gS (0,0) (dw n2 n3 n4 n5 1) (dw n2 n3 n4 n5 2) (dw n2 n3 n4 n5 3) = .ag (ofR n2 n3 n4 n5 4):=by
    unfold ofR;rw[e 1 (by omega),e 2 (by omega),e 3 (by omega)];simp only[gS,hd]
   rw[hg];exact ⟨HB,rc rfl,HB⟩
def my (words w:Int):Bool:=decide (w<0)||decide (w≥words)
def gW (words:Int) (g:List Int):Int:=if g.any (my words)=true then 8 else if idx 1 (g.drop 1)≥0 then 10 else 0
def kwL (words:Int):List Cnt→Int
 | []=>0
 | x::l=>if gW words x.1≠0 then gW words x.1 else kwL words l
def iB (words:Int):List (List Cnt)→Int
 | []=>0
 | l::ls=>if kwL words l≠0 then kwL words l else iB words ls
theorem C3 {words:Int} {l:List Cnt} {i:Nat} (h:i<l.length) {v:Int} (hv:gW words l[i].1=v) (h0:v≠0):kwL words (l.drop i)=v:=by
 rw[E4 h,kwL,hv,if_pos h0]
theorem zt {words:Int} {l:List Cnt} {i:Nat} (h:i<l.length) (hv:gW words l[i].1=0):kwL words (l.drop i)=kwL words (l.drop (i+1)):=by
 rw[E4 h,kwL,hv,if_neg (by simp)]
theorem Bw {words:Int} {L:List (List Cnt)} {n:Nat} (h:n<L.length) {v:Int} (hv:kwL words L[n]=v) (h0:v≠0):iB words (L.drop n)=v:=by
 rw[E4 h,iB,hv,if_pos h0]
theorem wg {words:Int} {L:List (List Cnt)} {n:Nat} (h:n<L.length) (hv:kwL words L[n]=0):iB words (L.drop n)=iB words (L.drop (n+1)):=by
 rw[E4 h,iB,hv,if_neg (by simp)]
theorem wj (L:List (List Cnt)) (words:Int) (hL:CCForm L):Ct P 84 [.c (cK L),.c (eI .i64 words)] [.c (eI .i64 (iB words L))]:=by
 have hll:=hL.lim.len;refine Ct.go aj aa (N:=44) Tryz.func84 rfl rfl rfl rfl ?_;refine .intro (by rw[ar]; omega) ?_;rw[ar];refine ax aj aa (λn:Nat=>n≤L.length∧iB words L=iB words (L.drop n)) (λn=>[(1,.c (eI .i64 words)),(11,.c (cK L)),(12,.c (nI .i64 L.length)),(13,.c (nI .i64 n))]) (λ_=>[]) (λn=>L.length-n)
  0 ⟨by omega,rfl⟩ ⟨rfl,rfl,rfl,rfl,HB⟩ HB (λ_:Unit=>iB words L=0) (λ_=>[]) (λ_=>[]) (λn hi=>?_) (λ_ he=>?_)
 ·obtain ⟨h2,h3⟩:=hi;refine ae (λh4=>?_) (λh4=>?_)
  ·have hn:n<L.length:=by omega
   have hl:=hL.lim.at' hn;have hlen:=hl.len;have hform:=hL.form n hn;have hget:=bK (l:=L) (i:=(n:Int)) (n:=n) rfl hn;have hof:=λv=>Bw (words:=words) (n:=n) (L:=L) hn (v:=v)
   have hnext:=wg (words:=words) (n:=n) (L:=L) hn;generalize L[n]=l at *
   refine .intro (by omega) (X1 _ hget ?_);refine .intro (by rw[cRow_len]; omega) ?_;rw[cRow_len];refine b8 aj aa (λi:Nat=>i≤l.length∧kwL words l=kwL words (l.drop i)) (λi=>[(1,.c (eI .i64 words)),(11,.c (cK L)),(12,.c (nI .i64 L.length)),(13,.c (nI .i64 n)),(17,.c (cSl l)),(18,.c (nI .i64 l.length)),(19,.c (nI .i64 i))]) (λ_=>[]) (λi=>l.length-i)
    0 ⟨by omega,rfl⟩ ⟨rfl,rfl,rfl,rfl,rfl,rfl,rfl,HB⟩ HB (λi hi=>?_)
   obtain ⟨i1,i2⟩:=hi;refine ae (λh5=>?_) (λh5=>?_)
   ·have hi:i<l.length:=by omega
    have hxl:=hl.at' hi;have hxf:=hform i hi;have hx:=bq (l:=l) (i:=(i:Int)) (n:=i) rfl hi;have kof:=λv=>C3 (words:=words) hi (v:=v)
    have knext:=zt (words:=words) hi;generalize l[i]=x at *
    refine .intro (by omega) (X1 _ hx ?_);refine .intro (by rw[ac]; omega) ?_;rw[ac];refine ax aj aa (λj:Nat=>j≤x.1.length∧∀ q:Nat,q<j→my words (x.1.getD q 0)=false) (λj=>[(1,.c (eI .i64 words)),(8,.c (.ad 8 0)),(11,.c (cK L)),(12,.c (nI .i64 L.length)),(13,.c (nI .i64 n)),(17,.c (cSl l)),(18,.c (nI .i64 l.length)),(19,.c (nI .i64 i)),(24,.c (iSl x.1)),(25,.c (nI .i64 x.1.length)),(26,.c (nI .i64 j))])
     (λ_=>[(8,.var [iSl x.1,eI .i64 x.2])]) (λj=>x.1.length-j) 0 ⟨by omega,λq hq=>by omega⟩ ⟨rfl,rfl,rfl,rfl,rfl,rfl,rfl,rfl,rfl,rfl,rfl,HB⟩ ⟨rfl,HB⟩
     (λ_:Unit=>x.1.any (my words)=false) (λ_=>[(1,.c (eI .i64 words)),(8,.c (.ad 8 0)),(11,.c (cK L)),(12,.c (nI .i64 L.length)),(13,.c (nI .i64 n)),(17,.c (cSl l)),(18,.c (nI .i64 l.length)),(19,.c (nI .i64 i))])
     (λ_=>[(8,.var [iSl x.1,eI .i64 x.2])]) (λj hj=>?_) (λ_ hany=>?_)
    ·obtain ⟨j1,j2⟩:=hj;refine ae (λh6=>?_) (λh6=>?_)
     ·have hj:j<x.1.length:=by omega
      refine .intro (by omega) (X1 _ (bl rfl hj) ?_);have r8:my words (x.1.getD j 0)=true→iB words L=8:=λhb=>by
       have:gW words x.1=8:=by
        unfold gW;rw[if_pos];rw[FN];exact ⟨x.1.getD j 0,by simp[Ev,hj],hb⟩
       rw[h3,hof 8 (by rw[i2,kof 8 this (by decide)]) (by decide)]
      refine ae (λh7=>?_) (λh7=>?_)
      ·exact ⟨HB,r1 (iE (by rw[r8 (by unfold my; rw[decide_eq_true h7]; rfl)])),HB⟩
      ·refine ae (λh8=>?_) (λh8=>?_)
       ·exact ⟨HB,r1 (iE (by rw[r8 (by unfold my; rw[decide_eq_true h8,Bool.or_true])])),HB⟩
       ·refine X1 ((j+1:Nat):Int) (wI (by simp) (by omega) (by omega)) ?_;refine ⟨j+1,⟨by omega,λq hq=>?_⟩,by omega,⟨rfl,rfl,rfl,rfl,rfl,rfl,rfl,rfl,rfl,rfl,rfl,HB⟩,⟨rfl,HB⟩⟩;by_cases e:q=j
        ·subst e; unfold my; rw[decide_eq_false h7,decide_eq_false h8]; rfl
        ·exact j2 q (by omega)
     ·refine ⟨(),?_,⟨rfl,rfl,rfl,rfl,rfl,rfl,rfl,rfl,HB⟩,⟨rfl,HB⟩⟩;rw[List.any_eq_false];intro w hw;obtain ⟨q,hq,rfl⟩:=List.getElem_of_mem hw;have:=j2 q (by omega);rw[Ev,ES hq]at this;simpa using this
    ·refine ⟨1,x.1.length,by simp,by simp[ac],by omega,by rw[ac]; omega,?_⟩;rw[iRow_sub,E3 (show (x.1.drop 1).length≤x.1.length-1 by rw[E8]; exact Ew _)];refine X1 _ (ir (x.1.drop 1) 1 (by rw[E8]; omega)) ?_;refine ae (λh7=>?_) (λh7=>?_)
     ·have:gW words x.1=10:=by unfold gW; rw[if_neg (by rw[hany]; simp),if_pos h7]
      exact ⟨HB,r1 (iE (by rw[h3,hof 10 (by rw[i2,kof 10 this (by decide)]) (by decide)])),HB⟩
     ·have:gW words x.1=0:=by unfold gW; rw[if_neg (by rw[hany]; simp),if_neg h7]
      refine X1 ((i+1:Nat):Int) (wI1 (by omega)) ?_;exact ⟨i+1,⟨by omega,by rw[i2,knext this]⟩,by omega,⟨rfl,rfl,rfl,rfl,rfl,rfl,rfl,HB⟩,HB⟩
   ·have e:i=l.length:=by omega
    subst e;rw[F3,kwL]at i2;refine X1 ((n+1:Nat):Int) (wI (by simp) (by omega) (by omega)) ?_;exact ⟨n+1,⟨by omega,by rw[h3,hnext i2]⟩,by omega,⟨rfl,rfl,rfl,rfl,HB⟩,HB⟩
  ·have e:n=L.length:=by omega
   subst e;rw[F3]at h3;exact ⟨(),h3,HB,HB⟩
 ·rw[he];exact ⟨HB,r1 rfl,HB⟩
def gM (L:List (List Cnt)) (words:Int):Int:=if fD L≠0 then fD L else if words<3∨words>65536 then 1 else iB words L
def aq (l:List Cnt) (k:Int):Nat:=(l.filter λx=>aW x&&decide (x.2=k)).length
def tysN (l:List Cnt):Nat:=(l.filter aW).length
def totN (l:List Cnt):Nat:=(tot l).toNat
theorem u6 (l:List Cnt):tot l=(totN l:Int):=by have:=cF l; unfold totN; omega
theorem u7 (l:List Cnt):A1.ag (dC l)=c7 (tysN l) (totN l) (aq l 1) (aq l 2) (aq l 3) (aq l 4):=by
 unfold dC; rw[u6]; rfl
theorem ub (l:List Cnt):A1.ag (cen l)=c6 (tysN l) (totN l) (aq l 1) (aq l 2) (aq l 3) (aq l 4):=by
 unfold cen; rw[u6]; rfl
theorem bM (l:List Cnt) (k:Int):aq l k≤l.length:=Ft _ _
abbrev zu (l:List Cnt):A1:=gS (0,0) (dw (aq l 1) (aq l 2) (aq l 3) (aq l 4) 1) (dw (aq l 1) (aq l 2) (aq l 3) (aq l 4) 2) (dw (aq l 1) (aq l 2) (aq l 3) (aq l 4) 3)
abbrev Bx (l:List Cnt):A1:=dS (0,1) (cM (aq l 1) (aq l 2) (aq l 3) (aq l 4) 1) (cM (aq l 1) (aq l 2) (aq l 3) (aq l 4) 2) (cM (aq l 1) (aq l 2) (aq l 3) (aq l 4) 3)
def iC (ls:List (List Cnt)):List (List PC):=ls.map λl=>(zu l).cells
def gr (ls:List (List Cnt)):List (List PC):=ls.map λl=>(Bx l).cells
theorem i9 {ls:List (List Cnt)}:(iC ls).length=ls.length:=by simp[iC]
theorem ja {ls:List (List Cnt)}:(gr ls).length=ls.length:=by simp[gr]
theorem qC {ls:List (List Cnt)}:aA (iC ls):=by
 intro el h;obtain ⟨x,_,rfl⟩:=Fb.1 h;rfl
theorem qD {ls:List (List Cnt)}:aA (gr ls):=by
 intro el h;obtain ⟨x,_,rfl⟩:=Fb.1 h;rfl
theorem fp {ls:List (List Cnt)} {i:Int} {n:Nat} (h0:i=n) (h:n<ls.length):(iC ls)[i.toNat]? = some (zu ls[n]).cells:=by
 subst h0; simp[iC,h]
theorem pr {ls:List (List Cnt)} {i:Int} {n:Nat} (h0:i=n) (h:n<ls.length):(gr ls)[i.toNat]? = some (Bx ls[n]).cells:=by
 subst h0; simp[gr,h]
theorem By (l:List Cnt) (hl:CLim l):Ct P 85 [.ag (dC l)] [zu l]:=by
 rw[u7];have:=hl.len;exact C2 _ _ _ _ _ _ (EA (bM l 1) this) (EA (bM l 2) this) (EA (bM l 3) this) (EA (bM l 4) this)
theorem Bz (l:List Cnt) (hl:CLim l):Ct P 93 [.ag (cen l)] [Bx l]:=by
 rw[ub];have:=hl.len;exact Bu _ _ _ _ _ _ (EA (bM l 1) this) (EA (bM l 2) this) (EA (bM l 3) this) (EA (bM l 4) this)
theorem qE (L:List (List Cnt)) (n:Nat) (x:Cnt):(cL L n x).1=x.1:=by unfold cL; split<;>rfl
theorem dT {L:List (List Cnt)} {l:List Cnt} (h:l∈ao L):∃ (n:Nat) (hn:n<L.length),l=L[n].map (cL L n):=by
 obtain ⟨n,hn,rfl⟩:=List.getElem_of_mem h;rw[bx]at hn;exact ⟨n,hn,po hn⟩
theorem jK {L:List (List Cnt)} (h:CCLim L):CCLim (ao L):=
 ⟨by rw[bx]; exact h.len,λl hl=>by
  obtain ⟨n,hn,rfl⟩:=dT hl;refine ⟨by rw[Fl]; exact (h.at' hn).len,λx hx=>?_⟩;obtain ⟨y,hy,rfl⟩:=Fb.1 hx;rw[qE];exact (h.at' hn).g y hy⟩
theorem qF {L:List (List Cnt)} (h:CCOk L) {l:List Cnt} (hl:l∈ao L):dY l:=by
 obtain ⟨n,hn,rfl⟩:=dT hl;refine List.pairwise_map.2 ((h.rises n hn).imp λ{a b} hab=>?_);rw[qE,qE]; exact hab
structure CCSum (L:List (List Cnt)):Prop where
 lim:CCLim L
 tot:∀ l,l∈ao L→tot l≤4611686018427387904
abbrev xO (L:List (List Cnt)) (words:Int) (m:Nat):Ob:=.var [cK (ao L),.sl 8 (iC (ao L)),eI .i64 words,.mp m]
theorem jL {L:List (List Cnt)} {words:Int} (h:gM L words=0):CCOk L∧3≤words∧words≤65536∧iB words L=0:=by
 unfold gM at h;by_cases h1:fD L=0
 ·rw[if_neg (by omega)]at h;by_cases h2:words<3∨words>65536
  ·rw[if_pos h2]at h; omega
  ·rw[if_neg h2]at h;exact ⟨sj h1,by omega,by omega,h⟩
 ·rw[if_pos h1]at h; exact absurd h h1
theorem zw (L:List (List Cnt)) (words:Int) (hL:CCSum L) (h:gM L words=0) :
  CtO P 36 [] [.c (cK L),.c (eI .i64 words)] [(36,some (xO L words 34)),(34,some (.mp false [] []))] [.c (.ad 36 0),.c (eI .i64 0)]:=by
 obtain ⟨hok,w1,w2,hkw⟩:=jL h;have h1:fD L=0:=by
  unfold gM at h;by_cases h1:fD L=0
  ·exact h1
  ·rw[if_pos h1]at h; exact h
 have hcl:=jK hL.lim;have hlen:=bx L;have h8:=hok.len8;refine Ct.keep (Ty.own_ok [1000001,1000002] aj) aa [60] (N:=57) Tryz.func36 rfl rfl rfl rfl ?_;refine X1 _ (tY L hL.lim h1) ?_;refine ae (λh3=>absurd h3 (by omega)) (λ_=>?_);refine ae (λh3=>absurd h3 (by omega)) (λ_=>?_);refine X1 _ (wj L words (hok.ccform hL.lim)) ?_;rw[hkw];refine .intro (by rw[ar,hlen]; omega) ?_;rw[ar];refine tL (r:=60) (k:=36) (i:=1) (sz:=8) rfl rfl rfl ?_;refine ax (Ty.own_ok [1000001,1000002] aj) aa (λn:Nat=>n≤(ao L).length) (λn=>[(9,.c (.ad 36 0)),(37,.c (cK (ao L))),(38,.c (nI .i64 (ao L).length)),(39,.c (nI .i64 n))])
  (λn=>[(36,.var [cK (ao L),.ow 60 8 n,eI .i64 words,.mp 34]),(60,.row 8 (iC ((ao L).take n))),(34,.mp false [] [])]) (λn=>(ao L).length-n)
  0 (by omega) ⟨rfl,rfl,rfl,rfl,HB⟩ ⟨rfl,rfl,rfl,HB⟩ (λ_:Unit=>True) (λ_=>[(9,.c (.ad 36 0))]) (λ_=>[(36,.var [cK (ao L),.ow 60 8 (ao L).length,eI .i64 words,.mp 34]),(60,.row 8 (iC (ao L))),(34,.mp false [] [])]) (λn hn=>?_) (λ_ _=>?_)
 ·refine ae (λh5=>?_) (λh5=>?_)
  ·have hn':n<(ao L).length:=by omega
   have hx:=bK (l:=ao L) (i:=(n:Int)) (n:=n) rfl hn';have hln:=hcl.at' hn';have htn:=hL.tot _ (EI hn');have hs:(ao L).take (n+1)=(ao L).take n++[(ao L)[n]]:=EB hn';have htl:((ao L).take n).length=n:=by rw[EJ]; omega
   generalize (ao L)[n]=l at *
   refine .intro (by omega) (X1 _ hx ?_);refine X1 _ (Ba l hln htn) ?_;refine X1 _ (By l hln) ?_;refine ⟨by rw[i9,htl],by rw[i9,htl]; show (n+1+768)*192≤_; omega,by rw[i9,htl]; show n+1≤_; omega,qC,aw rfl,?_⟩;refine .intro rfl ?_;refine X1 ((n+1:Nat):Int) (wI (by simp) (by omega) (by omega)) ?_;have hgl:(iC ((ao L).take n)++List.map A1.cells [zu l]).length=n+1:=by rw[Ey,i9,htl]; rfl
   exact ⟨n+1,by omega,by omega,⟨rfl,rfl,rfl,rfl,HB⟩,⟨congrArg (λk=>some (Ob.var [cK (ao L),.ow 60 8 k,eI .i64 words,.mp 34])) hgl,aB (by rw[hs]; unfold iC; rw[FG]; rfl),rfl,HB⟩⟩
  ·have e:n=(ao L).length:=by omega
   subst e;rw[Fd];exact ⟨(),HB,⟨rfl,HB⟩,⟨rfl,rfl,rfl,HB⟩⟩
 ·exact ⟨HB,SubO.of (l:=[(36,xO L words 34),(34,.mp false [] [])]) ⟨rfl,rfl,HB⟩,r1 rfl,r1 rfl,HB⟩
abbrev mV (L:List (List Cnt)) (words:Int) (dr:List (List PC)):A1:=.ag [cK L,eI .i64 words,.sl 8 dr]
def bz (L:List (List Cnt)) (g:List Int):Int:=
 if g.length<1∨g.length>L.length then 0 else if ct g (L.getD (g.length-1) [])<0 then 0 else ((L.getD (g.length-1) []).getD (ct g (L.getD (g.length-1) [])).toNat ([],0)).2
theorem mS (g:List Int) (l:List Cnt):-1≤ct g l∧ct g l<l.length:=by
 induction l with
 | nil=>simp[ct]
 | cons y l ih=>
  simp only[ct,E7];split
  ·omega
  ·split<;>omega
theorem sA (L:List (List Cnt)) (words:Int) (dr:List (List PC)) (g:List Int) (hL:CCLim L) (hg:g.length≤1000000):Ct P 118 [mV L words dr,.c (iSl g)] [.c (eI .i64 (bz L g))]:=by
 have hll:=hL.len;refine Ct.go aj aa (N:=39) Tryz.func118 rfl rfl rfl rfl ?_;refine .intro (by rw[ac]; omega) ?_;rw[ac];refine ae (λh0=>?_) (λh0=>?_)
 ·exact ⟨HB,r1 (iE (by rw[bz,if_pos (.inl (by omega))])),HB⟩
 refine .intro (by rw[ac]; omega) ?_;refine .intro (by rw[ar]; omega) ?_;rw[ac,ar];refine ae (λh1=>?_) (λh1=>?_)
 ·exact ⟨HB,r1 (iE (by rw[bz,if_pos (.inr (by omega))])),HB⟩
 have hn:g.length-1<L.length:=by omega
 have hgd:L.getD (g.length-1) []=L[g.length-1]:=by simp[Ev,hn]
 have hnum:bz L g=if ct g L[g.length-1]<0 then 0 else (L[g.length-1].getD (ct g L[g.length-1]).toNat ([],0)).2:=by
  rw[bz,if_neg (by omega),hgd]
 rw[hnum];have hl:=hL.at' hn;have hget:=bK (l:=L) (i:=((g.length-1:Nat):Int)) (n:=g.length-1) rfl hn;generalize L[g.length-1]=l at *
 have hf:=mS g l;refine .intro (by rw[ac]; omega) ?_;rw[ac];refine X1 ((g.length-1:Nat):Int) (wI (by omega) (by omega) (by omega)) ?_;refine .intro (by omega) (X1 _ hget ?_);refine X1 _ (yA l g hl hg) ?_;refine ae (λh2=>?_) (λh2=>?_)
 ·rw[if_pos h2];exact ⟨HB,r1 rfl,HB⟩
 ·rw[if_neg h2];have hk:(ct g l).toNat<l.length:=by omega
  refine .intro (by rw[ac]; omega) ?_;rw[ac];refine X1 ((g.length-1:Nat):Int) (wI (by omega) (by omega) (by omega)) ?_;refine .intro (by omega) (X1 _ hget ?_);refine .intro (by omega) (X1 _ (bq (n:=(ct g l).toNat) (by omega) hk) ?_);exact ⟨HB,r1 (iE (by simp[Ev,hk])),HB⟩
abbrev mM (L:List (List Cnt)) (words:Int):A1:=mV (ao L) words (gr (ao L))
theorem BA (L:List (List Cnt)) (words:Int) (hL:CCSum L) (hf:CCForm L) (h8:L.length≤1000):Ct P 40 [.c (cK L),.c (eI .i64 words)] [mM L words]:=by
 have hcl:=jK hL.lim;have hlen:=bx L;refine Ct.go (Ty.own_ok [1000001] aj) aa (N:=30) Tryz.func40 rfl rfl rfl rfl ?_;refine X1 _ (tQ L hf h8) ?_;refine tL (r:=60) (k:=5) (i:=2) (sz:=8) rfl rfl rfl ?_;refine ax (Ty.own_ok [1000001] aj) aa (λn:Nat=>n≤L.length) (λn=>[(0,.c (cK L)),(4,.c (.ad 4 0)),(5,.c (.ad 5 0)),(6,.c (nI .i64 n))])
  (λn=>[(4,.var [.sc (.slice none 0 0),eI .i64 0,.sc (.slice none 0 0)]),(5,.var [cK (ao L),eI .i64 words,.ow 60 8 n]),(60,.row 8 (gr ((ao L).take n)))]) (λn=>L.length-n)
  0 (by omega) ⟨rfl,rfl,rfl,rfl,HB⟩ ⟨rfl,rfl,rfl,HB⟩ (λ_:Unit=>True) (λ_=>[(4,.c (.ad 4 0)),(5,.c (.ad 5 0))]) (λ_=>[(4,.var [.sc (.slice none 0 0),eI .i64 0,.sc (.slice none 0 0)]),(5,.var [cK (ao L),eI .i64 words,.ow 60 8 L.length]),(60,.row 8 (gr (ao L)))]) (λn hn=>?_) (λ_ _=>?_)
 ·refine .intro (by rw[ar]; omega) ?_;rw[ar];refine ae (λh5=>?_) (λh5=>?_)
  ·have hn':n<(ao L).length:=by omega
   have hx:=bK (l:=ao L) (i:=(n:Int)) (n:=n) rfl hn';have hln:=hcl.at' hn';have htn:=hL.tot _ (EI hn');have hs:(ao L).take (n+1)=(ao L).take n++[(ao L)[n]]:=EB hn';have htl:((ao L).take n).length=n:=by rw[EJ]; omega
   generalize (ao L)[n]=l at *
   refine .intro (by omega) (X1 _ hx ?_);refine X1 _ (rS l hln htn) ?_;refine X1 _ (Bz l hln) ?_;refine ⟨by rw[ja,htl],by rw[ja,htl]; show (n+1+768)*192≤_; omega,by rw[ja,htl]; show n+1≤_; omega,qD,aw rfl,?_⟩;refine .intro rfl ?_;refine X1 ((n+1:Nat):Int) (wI (by simp) (by omega) (by omega)) ?_;have hgl:(gr ((ao L).take n)++List.map A1.cells [Bx l]).length=n+1:=by rw[Ey,ja,htl]; rfl
   exact ⟨n+1,by omega,by omega,⟨rfl,rfl,rfl,rfl,HB⟩,⟨rfl,congrArg (λk=>some (Ob.var [cK (ao L),eI .i64 words,.ow 60 8 k])) hgl,aB (by rw[hs]; unfold gr; rw[FG]; rfl),HB⟩⟩
  ·have e:n=L.length:=by omega
   subst e;rw[E3 (by rw[hlen]; exact Ew _)];exact ⟨(),HB,⟨rfl,rfl,HB⟩,⟨rfl,rfl,rfl,HB⟩⟩
 ·exact ⟨HB,rc rfl,HB⟩
def fk (Lc:List (List Cnt)) (h:List Int):Nat × Nat:=
 if hh:h.length<Lc.length then jv (cM (aq Lc[h.length] 1) (aq Lc[h.length] 2) (aq Lc[h.length] 3) (aq Lc[h.length] 4) 1) (cM (aq Lc[h.length] 1) (aq Lc[h.length] 2) (aq Lc[h.length] 3) (aq Lc[h.length] 4) 2) (cM (aq Lc[h.length] 1) (aq Lc[h.length] 2) (aq Lc[h.length] 3) (aq Lc[h.length] 4) 3)
  (tysN (after Lc[h.length] h)) (totN (after Lc[h.length] h)) (aq (after Lc[h.length] h) 1) (aq (after Lc[h.length] h) 2) else (1,1)
theorem kO (l:List Cnt):aq l 1+aq l 2≤tysN l:=by
 unfold aq tysN
 induction l with
 | nil=>simp
 | cons x l ih=>
  by_cases hl:aW x=true
  ·rw[Fi (p:=aW) hl,E7];by_cases h1:x.2=1
   ·rw[Fi (by simp[hl,h1]),Fa (by simp[hl,h1]),E7]; omega
   ·by_cases h2:x.2=2
    ·rw[Fa (by simp[hl,h1]),Fi (by simp[hl,h2]),E7]; omega
    ·rw[Fa (by simp[hl,h1]),Fa (by simp[hl,h2])]; omega
  ·rw[Fa (p:=aW) hl,Fa (by simp[hl]),Fa (by simp[hl])]; exact ih
theorem qG {n2 n3 n4 n5:Nat} (m2:n2≤1000000) (m3:n3≤1000000) (m4:n4≤1000000) (m5:n5≤1000000) (k:Nat):Bd 500 (cM n2 n3 n4 n5 k):=by
 have key:∀ j a b,j+1<2^62→n2>0→b>0→a≤1000000→b≤1000000→Bd 500 (cD (j,1) (cc j n2 n3 a b)):=λj a b hj h2 hb ha hb'=>
  (mP (ay (v:=j) (k:=63) (by omega) (by omega)) (qA j a b (by omega) (by omega) (by omega) m2 m3 ha hb')).le (by omega)
 have z:Bd 500 (0,1):=bd01.le (by omega)
 match k with
 | 1=>
   show Bd 500 (if _ then _ else _); split
   ·rename_i h; exact key 1 _ _ (by decide) h.1 h.2 m3 m2
   ·exact z
 | 2=>
   show Bd 500 (if _ then _ else _); split
   ·rename_i h; exact key 2 _ _ (by decide) h.1 h.2 m4 m3
   ·exact z
 | 0=>
   show Bd 500 (if _ then _ else _); split
   ·rename_i h; exact key 3 _ _ (by decide) h.1 h.2 m5 m4
   ·exact z
 | k+3=>
   show Bd 500 (if _ then _ else _); split
   ·rename_i h; exact key 3 _ _ (by decide) h.1 h.2 m5 m4
   ·exact z
theorem qH {l:List Cnt} (hl:CLim l):tysN l≤1000000:=EA (Ft _ _) hl.len
theorem mT {l:List Cnt} (h:tot l≤4611686018427387904):totN l≤4611686018427387904:=by unfold totN; omega
theorem BB (Lc:List (List Cnt)) (words:Int) (h:List Int) (hl:CCLim Lc) (ht:∀ l,l∈Lc→tot l≤4611686018427387904) (hh:h.length≤1000000):Ct P 121 [mV Lc words (gr Lc),.c (iSl h)] [rP (fk Lc h)]:=by
 have hll:=hl.len;refine Ct.go aj aa (N:=27) Tryz.func121 rfl rfl rfl rfl ?_;refine .intro (by rw[ac]; omega) ?_;refine .intro (by rw[ar]; omega) ?_;rw[ac,ar];unfold fk;refine ae (λh5=>?_) (λh5=>?_)
 ·rw[dif_neg (by omega)];refine X1 _ (aH 1 (by omega)) ?_;exact ⟨HB,rc rfl,HB⟩
 ·have hn:h.length<Lc.length:=by omega
  rw[dif_pos hn];have hln:=hl.at' hn;have htn:=ht _ (EI hn);refine .intro (by rw[ac]; omega) ?_;rw[ac];refine .intro (by omega) (X1 _ (pr rfl hn) ?_);refine .intro (by rw[ac]; omega) ?_;rw[ac];refine .intro (by omega) (X1 _ (bK rfl hn) ?_);refine X1 _ (pg Lc[h.length] h hln hh htn) ?_;have hal:CLim (after Lc[h.length] h):=hln.filter _;have hat:tot (after Lc[h.length] h)≤4611686018427387904:=He (di _ _) htn;have ob:=λk=>qG (EA (bM Lc[h.length] 1) hln.len) (EA (bM Lc[h.length] 2) hln.len) (EA (bM Lc[h.length] 3) hln.len) (EA (bM Lc[h.length] 4) hln.len) k
  have hg:=t9 (0,1) _ _ _ (tysN (after Lc[h.length] h)) (totN (after Lc[h.length] h)) (aq (after Lc[h.length] h) 1) (aq (after Lc[h.length] h) 2) (aq (after Lc[h.length] h) 3) (aq (after Lc[h.length] h) 4) (ob 1) (ob 2) (ob 3) (by omega) (by have:=qH hal; omega) (mT hat) (kO _);rw[←ub]at hg;refine X1 _ hg ?_;refine .intro rfl ?_;exact ⟨HB,rc rfl,HB⟩
end
section
abbrev xC (Lc:List (List Cnt)) (words:Int) (m:Nat):Ob:=.var [cK Lc,.sl 8 (iC Lc),eI .i64 words,.mp m]
abbrev xOs (Lc:List (List Cnt)) (words:Int) (ks:List Value) (vs:List (List PC)):Objs:=[(1000000,some (xC Lc words 1000001)),(1000001,some (.mp false ks vs))]
structure XOk (Lc:List (List Cnt)) (words:Int):Prop where
 lim:CCLim Lc
 tot:∀ l,l∈Lc→tot l≤4611686018427387904
 rises:∀ l,l∈Lc→dY l
 len0:1≤Lc.length
 len8:Lc.length≤8
 w3:3≤words
 w6:words≤65536
 key:∀ l,l∈Lc→∀ x,x∈l→dy x.1=true
 num:∀ l,l∈Lc→∀ x,x∈l→0≤x.2∧x.2≤4611686018427387904
abbrev σx:List (Nat × Nat):=[(1000000,1000000),(1000001,1000001)]
section
variable {Lc:List (List Cnt)} {words:Int} {ks:List Value} {vs:List (List PC)}
theorem qI {O:Objs} (h1:O.get 1000000=some (xC Lc words 1000001)) (h2:O.get 1000001=some (.mp false ks vs)):SubO (xOs Lc words ks vs) O:=SubO.of (l:=[(1000000,xC Lc words 1000001),(1000001,.mp false ks vs)]) ⟨h1,h2,HB⟩
theorem iD (hx:XOk Lc words):CtO P 41 (xOs Lc words ks vs) [.c (.ad 1000000 0)] (xOs Lc words ks vs) [.c (nI .i64 Lc.length)]:=by
 refine Ct.io aj aa (N:=10) Tryz.func41 rfl rfl rfl rfl ?_;have:=hx.len8;refine .intro (by rw[ar]; omega) ?_;rw[ar];exact ⟨HB,qI rfl rfl,r1 rfl,HB⟩
theorem kP:CtO P 42 (xOs Lc words ks vs) [.c (.ad 1000000 0)] (xOs Lc words ks vs) [.c (eI .i64 words)]:=by
 refine Ct.io aj aa (N:=9) Tryz.func42 rfl rfl rfl rfl ?_;exact ⟨HB,qI rfl rfl,r1 rfl,HB⟩
end
end
section
theorem wk {a b:Int} {l m:List Int}:aG (a::l) (b::m)<0↔a<b∨(a=b∧aG l m<0):=by
 rw[aG];unfold bC
 (repeat' split)<;>omega
theorem u9:∀ (h:List Int) {x y:List Int},¬ aG x h<0→aG x y<0→h <+: y→h <+: x
 | [],x,y,_,_,_=>List.nil_prefix
 | a::h,[],y,h1,_,_=>absurd (show aG [] (a::h)<0 by simp[aG]) h1
 | a::h,b::x,[],_,_,hp=>by simp at hp
 | a::h,b::x,c::y,h1,h2,hp=>by
  rw[List.cons_prefix_cons]at hp ⊢;obtain ⟨rfl,hp⟩:=hp;rw[wk]at h1 h2;have e:a=b:=by omega
  subst e;exact ⟨rfl,u9 h (λhh=>h1 (.inr ⟨rfl,hh⟩)) (by omega) hp⟩
theorem zx:∀ (h:List Int) (v:Int),aG (h++[v]) h>0
 | [],v=>by simp[aG]
 | a::h,v=>by
  have:=zx h v;show aG (a::(h++[v])) (a::h)>0
  unfold aG;rw[if_neg (by rw[pm]; simp)];exact this
theorem preB_iff {h:List Int} {x:Cnt}:eQ h x=true↔h <+: x.1:=by
 unfold eQ;rw[Ex,decide_eq_true_eq,decide_eq_true_eq,List.prefix_iff_eq_take];constructor
 ·exact λ⟨_,h2⟩=>h2.symm
 ·exact λh1=>⟨by have:=congrArg List.length h1; rw[EJ]at this; omega,h1.symm⟩
theorem n7 {h:List Int} {x:Cnt}:cG h x=(eQ h x&&lz h x):=by
 unfold cG eQ lz;by_cases h1:x.1.length=h.length+1
 ·rw[decide_eq_true h1,decide_eq_true (by omega:h.length≤x.1.length)]; simp
 ·rw[decide_eq_false h1]; simp
theorem wl {h:List Int} {x:Cnt} (hx:cG h x=true):aG x.1 h>0:=by
 unfold cG at hx;rw[Ex,decide_eq_true_eq,decide_eq_true_eq]at hx;obtain ⟨h1,h2⟩:=hx;have h3:x.1.drop h.length≠[]:=by intro e; have:=congrArg List.length e; simp at this; omega
 obtain ⟨v,t,ht⟩:=List.exists_cons_of_ne_nil h3;have h4:x.1=h++[v]:=by
  have e:=GG h.length x.1;rw[h2,ht]at e;have:t=[]:=by
   have:=congrArg List.length e;simp at this;exact List.eq_nil_of_length_eq_zero (by omega)
  rw[this]at e;exact e.symm
 rw[h4];exact zx h v
theorem sB (h:List Int):∀ (M:List Cnt),dY M→(∀ x,x∈M→aG x.1 h>0)→mu M h=after M h
 | [],_,_=>rfl
 | x::M,hr,hg=>by
  obtain ⟨hx,hr'⟩:=F8.1 hr;unfold mu after
  cases hp:eQ h x with
  | true=>
   rw[GK hp,G8,G8,n7,hp,Bool.true_and];have:=sB h M hr' λy hy=>hg y (EV _ hy)
   unfold mu after at this;rw[this]
  | false=>
   rw[List.takeWhile_cons_of_neg (by rw[hp]; simp)]
   symm
   rw[List.filter_nil,List.filter_eq_nil_iff];intro y hy ha;rw[n7,Ex]at ha;have hpy:=preB_iff.1 ha.1;rcases E9.1 hy with rfl | hy
   ·rw[ha.1]at hp; cases hp
   ·have:=preB_iff.2 (u9 h (by have:=hg x (by simp); omega) (hx y hy) hpy);rw[this]at hp; cases hp
theorem n8 (h:List Int):∀ (l:List Cnt),dY l→∃ k,k≤l.length∧(∀ (i:Nat) (hi:i<l.length),i<k→¬ aG l[i].1 h>0)∧(∀ (i:Nat) (hi:i<l.length),k≤i→aG l[i].1 h>0)∧mu (l.drop k) h=after l h
 | [],_=>⟨0,by simp,λi hi=>by simp at hi,λi hi=>by simp at hi,rfl⟩
 | x::l,hr=>by
  obtain ⟨hx,hr'⟩:=F8.1 hr;by_cases hg:aG x.1 h>0
  ·have hall:∀ y,y∈x::l→aG y.1 h>0:=λy hy=>by
    rcases E9.1 hy with rfl | hy
    ·exact hg
    ·have a1:=hx y hy;have a2:=eR x.1 h;have:=dj (a:=h) (b:=x.1) (c:=y.1) (by omega) a1;have a3:=eR h y.1;omega
   exact ⟨0,by simp,λi _ h=>by omega,λi hi _=>hall _ (EI hi),sB h (x::l) hr hall⟩
  ·obtain ⟨k,h0,h1,h2,h3⟩:=n8 h l hr';refine ⟨k+1,by simp; omega,λi hi hik=>?_,λi hi hik=>?_,?_⟩
   ·cases i with
    | zero=>exact hg
    | succ i=>exact h1 i (by simpa using hi) (by omega)
   ·cases i with
    | zero=>omega
    | succ i=>exact h2 i (by simpa using hi) (by omega)
   ·rw[List.drop_succ_cons,h3];unfold after;rw[Fa];intro ha;exact hg (wl ha)
theorem pt (l:List Cnt) (h:List Int) (hl:CLim l) (hr:dY l) (hh:h.length≤1000000) (ht:tot l≤4611686018427387904):Ct P 183 [.c (cSl l),.c (iSl h)] [c7 (tysN (after l h)) (totN (after l h)) (aq (after l h) 1) (aq (after l h) 2) (aq (after l h) 3) (aq (after l h) 4)]:=by
 obtain ⟨k,h0,h1,h2,h3⟩:=n8 h l hr;have:=yI l h k hl hh h0 h1 h2 ht;rwa [h3,u7]at this
theorem wm {v w:Int} (hv:0≤v∧v<16777216) (hw:0≤w∧w<16777216) (h1:UInt8.ofNat (v.toNat/65536)=UInt8.ofNat (w.toNat/65536)) (h2:UInt8.ofNat (v.toNat/256)=UInt8.ofNat (w.toNat/256)) (h3:UInt8.ofNat v.toNat=UInt8.ofNat w.toNat):v=w:=by
 have g:∀ {a b:Nat},UInt8.ofNat a=UInt8.ofNat b→a%256=b%256:=λ{a b} h=>by
  have:=congrArg UInt8.toNat h;simpa using this
 have g1:=g h1;have g2:=g h2;have g3:=g h3;omega
theorem zy:∀ {g h:List Int},dy g=true→dy h=true→kU g=kU h→g=h
 | [],[],_,_,_=>rfl
 | [],b::h,_,_,e=>by simp[kU]at e
 | a::g,[],_,_,e=>by simp[kU]at e
 | a::g,b::h,hg,hh,e=>by
  unfold dy at hg hh;rw[List.all_cons,Ex]at hg hh;have e':UInt8.ofNat (a.toNat/65536)::UInt8.ofNat (a.toNat/256)::UInt8.ofNat a.toNat::kU g=UInt8.ofNat (b.toNat/65536)::UInt8.ofNat (b.toNat/256)::UInt8.ofNat b.toNat::kU h:=e;injection e' with e1 e';injection e' with e2 e';injection e' with e3 e';have ha:=hg.1;have hb:=hh.1;rw[Ex,decide_eq_true_eq,decide_eq_true_eq]at ha hb;rw[wm ha hb e1 e2 e3,zy (g:=g) (h:=h) hg.2 hh.2 e']
theorem sC {g h:List Int} (hg:dy g=true) (hh:dy h=true) (e:qk g=qk h):g=h:=by
 have:(kU g).toArray=(kU h).toArray:=congrArg ByteArray.data e;exact zy hg hh (by simpa using this)
theorem lD (key:ByteArray):∀ (ks:List Value) (i:Nat),(∀ k,k∈ks→∃ b,k = .string b)→∃ r,ic .string (.string key) ks i=some r∧∀ j,r=some j→i≤j∧ks[j-i]? = some (.string key)
 | [],i,_=>⟨none,rfl,λj h=>by cases h⟩
 | k::ks,i,hk=>by
  obtain ⟨b,rfl⟩:=hk k (by simp);simp only[ic,Instr.sameNow];by_cases h:key=b
  ·subst h;refine ⟨some i,by rw[(iO key key).2 rfl],λj hj=>?_⟩;cases hj;exact ⟨Ew _,by simp⟩
  ·have hb:(key==b)=false:=by
    cases hb:key==b with
    | false=>rfl
    | true=>exact absurd ((iO _ _).1 hb) h
   rw[hb];obtain ⟨r,h1,h2⟩:=lD key ks (i+1) λk hk'=>hk k (EV _ hk')
   refine ⟨r,h1,λj hj=>?_⟩;obtain ⟨g1,g2⟩:=h2 j hj;refine ⟨by omega,?_⟩;rw[show j-i=(j-(i+1))+1 by omega];simpa using g2
end
section
abbrev uc (Lc:List (List Cnt)) (h:List Int):List PC:=nI .i64 (totN (after (Lc.getD h.length []) h))::(qP (fk Lc h)).cells
abbrev jp (Lc:List (List Cnt)) (h:List Int):PC:=.rd (uc Lc h)
structure MOk (Lc:List (List Cnt)) (ks:List Value) (vs:List (List PC)):Prop where
 len:ks.length=vs.length
 at':∀ (i:Nat) k,ks[i]? = some k→∃ h,dy h=true∧k = .string (qk h)∧vs[i]? = some [jp Lc h]
theorem MOk.nil {Lc:List (List Cnt)}:MOk Lc [] []:=⟨rfl,λi k h=>by simp at h⟩
theorem MOk.str {Lc:List (List Cnt)} {ks:List Value} {vs:List (List PC)} (hm:MOk Lc ks vs) (k:Value) (hk:k∈ks):∃ b,k = .string b:=by
 obtain ⟨i,hi⟩:=Gp.1 hk;obtain ⟨h,_,h1,_⟩:=hm.at' i k hi;exact ⟨_,h1⟩
theorem sD {l:List Cnt} {h:List Int} (hk:∀ x,x∈l→dy x.1=true) (hn:¬ dy h=true):after l h=[]:=by
 unfold after;rw[List.filter_eq_nil_iff];intro x hx ha;unfold cG at ha;rw[Ex,decide_eq_true_eq,decide_eq_true_eq]at ha;apply hn;have:=hk x hx;unfold dy at this ⊢;rw[Fq]at this ⊢;intro v hv;rw[←ha.2]at hv;exact this v (FZ hv)
section
variable {Lc:List (List Cnt)} {words:Int} {ks:List Value} {vs:List (List PC)}
theorem n9 (hx:XOk Lc words) {h:List Int} (hh:h.length<Lc.length) (hn:¬ dy h=true):uc Lc h=nI .i64 0::(qP (1,1)).cells:=by
 have e:Lc.getD h.length []=Lc[h.length]:=by simp[Ev,hh]
 have ha:=sD (hx.key _ (EI hh)) hn;unfold uc fk;rw[dif_pos hh,e,ha];rfl
theorem va (hx:XOk Lc words) (h:List Int) (hh:h.length<Lc.length):Ct P 184 [zu Lc[h.length],c7 (tysN (after Lc[h.length] h)) (totN (after Lc[h.length] h)) (aq (after Lc[h.length] h) 1) (aq (after Lc[h.length] h) 2) (aq (after Lc[h.length] h) 3) (aq (after Lc[h.length] h) 4)] [qP (fk Lc h)]:=by
 have hln:=hx.lim.at' hh;have htn:=hx.tot _ (EI hh);have hal:CLim (after Lc[h.length] h):=hln.filter _;have hat:tot (after Lc[h.length] h)≤4611686018427387904:=He (di _ _) htn;have m:=λk=>EA (bM Lc[h.length] k) hln.len
 have ob:=λk=>qG (m 1) (m 2) (m 3) (m 4) k
 have rn:=λk h1 h3=>u5 (m 1) (m 2) (m 3) (m 4) k h1 h3
 have h8:=hx.len8;have hg:=we (0,0) _ _ _ (tysN (after Lc[h.length] h)) (totN (after Lc[h.length] h)) (aq (after Lc[h.length] h) 1) (aq (after Lc[h.length] h) 2) (aq (after Lc[h.length] h) 3) (aq (after Lc[h.length] h) 4) (k:=500) (by rw[rn 1 (by omega) (by omega)]; exact ob 1) (by rw[rn 2 (by omega) (by omega)]; exact ob 2) (by rw[rn 3 (by omega) (by omega)]; exact ob 3) (by omega) (by have:=qH hal; omega) (mT hat) (kO _);rw[rn 1 (by omega) (by omega),rn 2 (by omega) (by omega),rn 3 (by omega) (by omega)]at hg;unfold fk;rw[dif_pos hh];exact hg
theorem oa (hx:XOk Lc words) (hm:MOk Lc ks vs) (h:List Int) (hh:h.length<Lc.length) :
  ∃ ks' vs',MOk Lc ks' vs'∧CtO P 159 (xOs Lc words ks vs) [.c (.ad 1000000 0),.c (iSl h)] (xOs Lc words ks' vs') [.c (jp Lc h)]:=by
 have h8:=hx.len8;have hln:=hx.lim.at' hh;have e:Lc.getD h.length []=Lc[h.length]:=by simp[Ev,hh]
 by_cases hk:dy h=true
 ·obtain ⟨r,f1,f2⟩:=lD (qk h) ks 0 hm.str;have hkey:=mH h (by omega);rw[if_pos hk,if_pos hk]at hkey
  cases r with
  | some j=>
   obtain ⟨_,f3⟩:=f2 j rfl;rw[Gk]at f3;obtain ⟨h',g1,g2,g3⟩:=hm.at' j _ f3;have e':h=h':=sC hk g1 (by injection g2);subst e';refine ⟨ks,vs,hm,?_⟩;refine Ct.io aj aa (N:=63) Tryz.func159 rfl rfl rfl rfl ?_;refine X1 _ hkey ?_;refine ⟨some j,.c (jp Lc h),f1,⟨_,g3,rfl⟩,?_⟩;exact ⟨HB,qI rfl rfl,r1 rfl,HB⟩
  | none=>
   refine ⟨ks++[.string (qk h)],vs++[[jp Lc h]],?_,?_⟩
   ·refine ⟨by simp[hm.len],λi k hi=>?_⟩;have hlen:∀ i k,ks[i]? = some k→i<vs.length:=λi k hi=>by
     obtain ⟨_,_,_,g3⟩:=hm.at' i k hi;exact (Ez.1 g3).1
    rcases FP i ks.length with hlt | heq | hgt
    ·rw[EF hlt]at hi;rw[EF (hlen i k hi)];exact hm.at' i k hi
    ·subst heq;rw[ED (Ew _),G1]at hi;cases hi;refine ⟨h,hk,rfl,?_⟩;rw[ED (Nat.le_of_eq hm.len.symm),hm.len,G1];rfl
    ·rw[ET (by simp; omega)]at hi; cases hi
   ·refine Ct.io aj aa (N:=63) Tryz.func159 rfl rfl rfl rfl ?_;refine X1 _ hkey ?_;refine ⟨none,.c (.sc (.pointer none)),f1,rfl,?_⟩;refine .intro (by rw[ac]; omega) ?_;rw[ac];refine .intro (by omega) (X1 _ (bK rfl hh) ?_);refine X1 _ (pt Lc[h.length] h hln (hx.rises _ (EI hh)) (by omega) (hx.tot _ (EI hh))) ?_;refine .intro (by rw[ac]; omega) ?_;rw[ac];refine .intro (by omega) (X1 _ (fp rfl hh) ?_);refine X1 _ (va hx h hh) ?_;refine .intro rfl ?_;refine ⟨[55],none,f1,rfl,?_⟩;have hc:uc Lc h=nI .i64 (totN (after Lc[h.length] h))::(qP (fk Lc h)).cells:=by unfold uc; rw[e]
    unfold jp;rw[hc];exact ⟨HB,qI rfl rfl,r1 rfl,HB⟩
 ·refine ⟨ks,vs,hm,?_⟩;have hkey:=mH h (by omega);rw[if_neg hk,if_neg hk]at hkey;refine Ct.keep aj aa [20] (N:=63) Tryz.func159 rfl rfl rfl rfl ?_;refine X1 _ hkey ?_;refine X1 _ (be 1 (by omega)) ?_;unfold jp;rw[n9 hx hh hk];exact ⟨HB,qI rfl rfl,r1 rfl,HB⟩
end
end
section
theorem jb (l:List Int) (hl:l.length≤1000000):CtO P 46 [] [.c (iSl l)] [(5,some (.row 1 (aI l)))] [.c (.ow 5 1 l.length)]:=by
 refine Ct.keepI aj [] (N:=8) Tryz.func46 rfl rfl rfl rfl ?_;refine dR aj aa ?_;refine vZ ?_;refine dR aj aa ?_;intro b hb;refine yN (b:=b) rfl (λe=>?_) (λe=>?_)
 ·subst e;have:l=[]:=EZ.1 (by have:=hb rfl; rwa [ac]at this);subst this;refine dR aj aa ?_;refine jo (r:=5) (t:=2) (sz:=1) rfl rfl ?_;exact DN ⟨HB,SubO.of (l:=[(5,.row 1 [])]) ⟨rfl,HB⟩,r1 rfl,HB⟩
 ·subst e;refine yO ?_;refine kE aj aa ?_;refine ⟨rfl,by rw[ac]; show (0+l.length+768)*8≤_; omega,by rw[ac]; show 0+l.length≤_; omega,b9,bc,?_⟩;exact ⟨HB,SubO.of (l:=[(5,.row 1 (aI l))]) ⟨rfl,HB⟩,r1 (owE (by show (aI l).length=_; rw[ac])),HB⟩
abbrev zz (Lc:List (List Cnt)) (words:Int) (ks:List Value) (vs:List (List PC)) (els:List (List PC)):Objs:=[(1000000,some (xC Lc words 1000001)),(1000001,some (.mp false ks vs)),(1000002,some (.row 1 els))]
section
variable {Lc:List (List Cnt)} {words:Int} {ks:List Value} {vs:List (List PC)}
theorem sF {els:List (List PC)} {O:Objs} (h1:O.get 1000000=some (xC Lc words 1000001)) (h2:O.get 1000001=some (.mp false ks vs)) (h3:O.get 1000002=some (.row 1 els)):SubO (zz Lc words ks vs els) O:=SubO.of (l:=[(1000000,xC Lc words 1000001),(1000001,.mp false ks vs),(1000002,.row 1 els)]) ⟨h1,h2,h3,HB⟩
theorem oc (hx:XOk Lc words) (g:List Int) (els:List (List PC)) (he:els=aI g) (m:Nat) (hm:m=g.length) (h1:1≤g.length) (hg:g.length≤Lc.length):CtO P 160 (zz Lc words ks vs els) [.c (.ad 1000000 0),.c (.ow 1000002 1 m)] (zz Lc words ks vs els) [.c (eI .i64 (bz Lc g))]:=by
 subst he;refine Ct.io aj aa (N:=41) Tryz.func160 rfl rfl rfl rfl ?_;have h8:=hx.len8;refine .intro (by omega) ?_;refine ae (λh0=>?_) (λh0=>?_)
 ·exfalso; omega
 refine X2 (.own σx σx) ?_;refine ⟨_,_,iD hx,?_⟩;refine ae (λh1=>?_) (λh1=>?_)
 ·exfalso; omega
 have hn:g.length-1<Lc.length:=by omega
 have hgd:Lc.getD (g.length-1) []=Lc[g.length-1]:=by simp[Ev,hn]
 have hnum:bz Lc g=if ct g Lc[g.length-1]<0 then 0 else (Lc[g.length-1].getD (ct g Lc[g.length-1]).toNat ([],0)).2:=by
  rw[bz,if_neg (by omega),hgd]
 rw[hnum];have hl:=hx.lim.at' hn;have hr:=hx.rises _ (EI hn);have hget:=bK (l:=Lc) (i:=((g.length-1:Nat):Int)) (n:=g.length-1) rfl hn;generalize Lc[g.length-1]=l at *
 have hf:=mS g l;refine X1 ((g.length-1:Nat):Int) (wI (by omega) (by omega) (by omega)) ?_;refine .intro (by omega) (X1 _ hget ?_);refine X2 .look (X1 _ (pn l g hl (by omega) hr) ?_);refine ae (λh2=>?_) (λh2=>?_)
 ·rw[if_pos h2];exact ⟨HB,sF rfl rfl rfl,r1 rfl,HB⟩
 ·rw[if_neg h2];have hk:(ct g l).toNat<l.length:=by omega
  refine X1 ((g.length-1:Nat):Int) (wI (by omega) (by omega) (by omega)) ?_;refine .intro (by omega) (X1 _ hget ?_);refine .intro (by omega) (X1 _ (bq (n:=(ct g l).toNat) (by omega) hk) ?_);exact ⟨HB,sF rfl rfl rfl,r1 (iE (by simp[Ev,hk])),HB⟩
end
end
section
def lvl (Lc:List (List Cnt)) (h:List Int):List Cnt:=Lc.getD h.length []
def e8 (l:List Cnt) (k:Nat):Nat × Nat:=cM (aq l 1) (aq l 2) (aq l 3) (aq l 4) k
def atN (l:List Cnt) (a:Int):Nat × Nat:=at4 (e8 l 1) (e8 l 2) (e8 l 3) a
def owF (Lc:List (List Cnt)) (w:Int) (h:List Int):Nat × Nat:=cD ((bz Lc (h++[w])).toNat,1) (atN (lvl Lc h) (bz Lc (h++[w])))
def dJ (Lc:List (List Cnt)) (w:Int) (h:List Int) (p:Nat × Nat):Nat × Nat:=
 if totN (after (lvl Lc h) h)=0 then p else bH (c9 (owF Lc w h) (totN (after (lvl Lc h) h),1)) (cI (fk Lc h) p)
def p0F (words:Int):Nat × Nat:=c9 (1,1) ((words-1).toNat,1)
def pF (Lc:List (List Cnt)) (words w:Int):List Int→Nat × Nat
 | []=>dJ Lc w [] (p0F words)
 | x::t=>dJ Lc w (x::t) (pF Lc words w t)
def cO (Lc:List (List Cnt)) (h:List Int):List Int:=if Lc.length≤h.length then h.drop (h.length-Lc.length+1) else h
def a9 (Lc:List (List Cnt)) (words:Int) (h:List Int) (w:Int):Nat × Nat:=if w<0∨words≤w∨w=1 then (0,1) else pF Lc words w (cO Lc h)
theorem gN {Lc:List (List Cnt)} {words:Int} (hx:XOk Lc words) (h:List Int):Bd 2000 (fk Lc h):=by
 unfold fk;split
 ·rename_i hh;have hln:=hx.lim.at' hh;have htn:=hx.tot _ (EI hh);have hal:CLim (after Lc[h.length] h):=hln.filter _;have hat:tot (after Lc[h.length] h)≤4611686018427387904:=He (di _ _) htn;have m:=λk=>EA (bM Lc[h.length] k) hln.len
  have ob:=λk=>qG (m 1) (m 2) (m 3) (m 4) k
  have ht:=mT hat
  have hT:=qH hal;have hs:=kO (after Lc[h.length] h);unfold jv;split
  ·exact (ay (v:=1) (k:=1) (by omega) (by omega)).le (by omega)
  ·have i:=λn (hn:n≤1000000)=>ay (v:=n) (k:=63) (by omega) (by omega)
   refine (ck (ep (ep (bf (i _ (by omega)) (ob 1)) (bf (i _ (by omega)) (ob 2))) (bf (i _ (by omega)) (ob 3))) (ay (k:=63) (by omega) (by omega)) ?_).le (by omega);show totN _≠0
   omega
 ·exact (ay (v:=1) (k:=1) (by omega) (by omega)).le (by omega)
theorem gt {Lc:List (List Cnt)} {words:Int} (hx:XOk Lc words) (g:List Int):0≤bz Lc g∧bz Lc g≤4611686018427387904:=by
 unfold bz;split
 ·omega
 ·rename_i h0;split
  ·omega
  ·rename_i h1;have hn:g.length-1<Lc.length:=by omega
   have hgd:Lc.getD (g.length-1) []=Lc[g.length-1]:=by simp[Ev,hn]
   rw[hgd]at h1 ⊢;have hf:=mS g Lc[g.length-1];have hk:(ct g Lc[g.length-1]).toNat<Lc[g.length-1].length:=by omega
   have:=hx.num _ (EI hn) _ (EI hk);simp only[Ev,ES hk,F2];exact this
theorem C4 {k:Nat} {p1 p2 p3:Nat × Nat} (h1:Bd k p1) (h2:Bd k p2) (h3:Bd k p3) (hk:1≤k) (a:Int):Bd k (at4 p1 p2 p3 a):=by
 unfold at4;split
 ·exact bd01.le hk
 ·split
  ·exact h1
  ·split
   ·exact h2
   ·exact h3
theorem fJ {Lc:List (List Cnt)} {h:List Int} (hh:h.length<Lc.length):lvl Lc h=Lc[h.length]:=by simp[lvl,Ev,hh]
theorem fX {l:List Cnt} (hl:CLim l) (k:Nat):Bd 500 (e8 l k):=
 qG (EA (bM l 1) hl.len) (EA (bM l 2) hl.len) (EA (bM l 3) hl.len) (EA (bM l 4) hl.len) k
theorem qJ {Lc:List (List Cnt)} (hl:CCLim Lc) (h:List Int):CLim (lvl Lc h):=by
 by_cases hh:h.length<Lc.length
 ·rw[fJ hh]; exact hl.at' hh
 ·have:lvl Lc h=[]:=by simp[lvl,Ev,ET (FD hh)]
  rw[this]; exact ⟨by simp,λx hx=>by simp at hx⟩
theorem jM {l:List Cnt} (hl:CLim l) (a:Int):Bd 500 (atN l a):=C4 (fX hl 1) (fX hl 2) (fX hl 3) (by omega) a
theorem cJ {Lc:List (List Cnt)} {words:Int} (hx:XOk Lc words) (w:Int) (h:List Int):Bd 600 (owF Lc w h):=by
 have:=gt hx (h++[w]);exact (mP (ay (v:=(bz Lc (h++[w])).toNat) (k:=63) (by omega) (by omega)) (jM (qJ hx.lim h) _)).le (by omega)
theorem jc {Lc:List (List Cnt)} {words:Int} (hx:XOk Lc words) (h:List Int):totN (after (lvl Lc h) h)≤4611686018427387904:=by
 by_cases hh:h.length<Lc.length
 ·rw[fJ hh]; exact mT (He (di _ _) (hx.tot _ (EI hh)))
 ·have:lvl Lc h=[]:=by simp[lvl,Ev,ET (FD hh)]
  rw[this]; exact Gt _
theorem lG {Lc:List (List Cnt)} {words:Int} (hx:XOk Lc words) (w:Int) (h:List Int) (h0:totN (after (lvl Lc h) h)≠0):Bd 663 (c9 (owF Lc w h) (totN (after (lvl Lc h) h),1)):=
 ck (cJ hx w h) (ay (k:=63) (by have:=jc hx h; omega) (by omega)) h0
theorem sG {Lc:List (List Cnt)} {words:Int} (hx:XOk Lc words) (w:Int) (h:List Int) {k:Nat} {p:Nat × Nat} (hp:Bd k p):Bd (k+3000) (dJ Lc w h p):=by
 unfold dJ;split
 ·exact hp.le (by omega)
 ·rename_i h0;exact (ep (lG hx w h h0) (bf (gN hx h) hp)).le (by omega)
theorem qK {Lc:List (List Cnt)} {words:Int} (hx:XOk Lc words):Bd 200 (p0F words):=by
 have h3:=hx.w3;have h6:=hx.w6;exact (ck (ay (v:=1) (k:=63) (by omega) (by omega)) (ay (v:=(words-1).toNat) (k:=63) (by omega) (by omega)) (by show (words-1).toNat≠0; omega)).le (by omega)
theorem sH {Lc:List (List Cnt)} {words:Int} (hx:XOk Lc words) (w:Int):∀ h:List Int,Bd (200+3000*(h.length+1)) (pF Lc words w h)
 | []=>(sG hx w [] (qK hx)).le (by simp)
 | x::t=>(sG hx w (x::t) (sH hx w t)).le (by simp; omega)
def pN (Lc:List (List Cnt)) (words w:Int) (h:List Int):Nat→Nat × Nat
 | 0=>p0F words
 | n+1=>pF Lc words w (h.drop (h.length-n))
theorem qL {Lc:List (List Cnt)} {words w:Int} {h:List Int} {n:Nat} (hn:n≤h.length):dJ Lc w (h.drop (h.length-n)) (pN Lc words w h n)=pN Lc words w h (n+1):=by
 cases n with
 | zero=>rw[Gk]; simp[pN,pF]
 | succ n=>
  have e:h.drop (h.length-(n+1))=h[h.length-(n+1)]::h.drop (h.length-n):=by
   rw[E4 (by omega)];congr 2;omega
  simp only[pN];rw[e,pF]
theorem zB {Lc:List (List Cnt)} {words:Int} (hx:XOk Lc words) (w:Int) (h:List Int) {n:Nat} (hn:n≤h.length+1):Bd (200+3000*(h.length+2)) (pN Lc words w h n):=by
 cases n with
 | zero=>exact (qK hx).le (by omega)
 | succ n=>exact (sH hx w _).le (by rw[E8]; omega)
theorem jd {Lc:List (List Cnt)} {words:Int} (hx:XOk Lc words) (h:List Int):(cO Lc h).length<Lc.length:=by
 have:=hx.len0;unfold cO;split
 ·rw[E8]; omega
 ·omega
theorem C5 {k:Nat} {p:Nat × Nat} (n:Nat) (h:Bg k p) (hk:k≤2000000) (h0:n≠0) (hn:n<9223372036854775808):Ct P 158 [qP p,.c (nI .i64 n)] [qP (CW p (n,1))]:=by
 have hb:Bg 64 (n,1):=⟨by show n<2^64; omega,by show 1<2^64; omega⟩;refine Ct.go aj aa (N:=16) Tryz.func158 rfl rfl rfl rfl ?_;refine X1 ((n:Nat):Int) (wU rfl (by omega) (by omega)) ?_;refine X1 _ (be n (by omega)) ?_;refine X1 _ (uY h hb h0 hk (by omega)) ?_;refine .intro rfl ?_;exact ⟨HB,rc rfl,HB⟩
end
end Go.Proofs.YtgceikecdedfcaaGreat.Pv
