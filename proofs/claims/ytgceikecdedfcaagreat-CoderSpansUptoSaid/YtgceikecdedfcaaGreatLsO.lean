/- Parts of a proof, joined: Ec Eh Ei Cx Cy Eq Cz Er Es Et Eu Ev Fr Fs Ft Fd. -/
import Derived.Test.YtgceikecdedfcaaGreatLsN
namespace Go.Proofs.YtgceikecdedfcaaGreat.Pv
open Go
section
def cO (n2 n3 n4 n5:Nat):Nat→Nat × Nat
 | 1=>if n2>0∧n2>0 then cJ (1,1) (cc 1 n2 n3 n3 n2) else (0,1)
 | 2=>if n2>0∧n3>0 then cJ (2,1) (cc 2 n2 n3 n4 n3) else (0,1)
 | _=>if n2>0∧n4>0 then cJ (3,1) (cc 3 n2 n3 n5 n4) else (0,1)
def fE (n2 n3 n4 n5 j k:Nat):Nat × Nat:=if j<k then cO n2 n3 n4 n5 j else (0,1)
def ofc (n2 n3 n4 n5 k:Nat):List PC:=[dV 0,dV 1,dV (fE n2 n3 n4 n5 1 k).1,dV (fE n2 n3 n4 n5 1 k).2,dV (fE n2 n3 n4 n5 2 k).1,dV (fE n2 n3 n4 n5 2 k).2,dV (fE n2 n3 n4 n5 3 k).1,dV (fE n2 n3 n4 n5 3 k).2]
theorem Bx (n0 n1 n2 n3 n4 n5:Nat) (m2:n2≤1000000) (m3:n3≤1000000) (m4:n4≤1000000) (m5:n5≤1000000):Ct P 93 [c6 n0 n1 n2 n3 n4 n5] [dS (0,1) (cO n2 n3 n4 n5 1) (cO n2 n3 n4 n5 2) (cO n2 n3 n4 n5 3)]:=by
 have pb:∀ (k a b:Nat),k+1<2^63→n2≠0→b≠0→a≤1000000→b≤1000000→Bd 400000 (cc k n2 n3 a b):=λk a b hk h2 hb ha hb'=>by
  have j1:Bd 63 (n2,1):=az (by omega) (by omega);have j2:Bd 63 (n2+2*n3,1):=az (by omega) (by omega);have y:=cw j1 j2 (by show n2+2*n3≠0; omega);exact (bc (bc (az (v:=k+1) (k:=63) hk (by omega)) y) (cw (az (v:=a) (k:=63) (by omega) (by omega)) (az (v:=b) (k:=63) (by omega) (by omega)) hb)).le (by omega)
 refine Ct.go aj aa (N:=33) Tryz.func93 rfl rfl rfl rfl ?_;refine X1 _ (aI 0 (by omega)) ?_;refine X1 _ (aI 0 (by omega)) ?_;refine X1 _ (aI 0 (by omega)) ?_;refine X1 _ (aI 0 (by omega)) ?_;refine aw aj aa (λk:Nat=>1≤k∧k≤4) (λk=>[(1,.c (.ad 1 0)),(2,.c (.ad 2 0)),(3,.c (.ad 3 0)),(4,.c (nI .i64 k))])
  (λk=>[(1,.var [nI .i64 n0,nI .i64 n1,nI .i64 n2,nI .i64 n3,nI .i64 n4,nI .i64 n5]),(2,.var (List.replicate 8 (.sc (.slice none 0 0)))),(3,.var (ofc n2 n3 n4 n5 k))]) (λk=>4-k)
  1 ⟨by omega,by omega⟩ ⟨rfl,rfl,rfl,rfl,HJ⟩ ⟨rfl,rfl,rfl,HJ⟩ (λ_:Unit=>True) (λ_=>[(2,.c (.ad 2 0)),(3,.c (.ad 3 0))]) (λ_=>[(2,.var (List.replicate 8 (.sc (.slice none 0 0)))),(3,.var (ofc n2 n3 n4 n5 4))]) (λk hi=>?_) (λ_ _=>?_)
 ·obtain ⟨i1,i2⟩:=hi;refine ah (λh1=>?_) (λh1=>?_)
  ·have hk:k=1∨k=2∨k=3:=by omega
   rcases hk with rfl | rfl | rfl
   ·refine .intro (by decide) (.intro (by decide) ?_);refine ah (λh2=>?_) (λh2=>?_)
    ·refine X1 ((2:Nat):Int) (wI (by simp) (by omega) (by omega)) ?_;refine .intro (by decide) (.intro (by decide) ?_);refine ah (λh3=>?_) (λh3=>?_)
     ·have hr:cO n2 n3 n4 n5 1=cJ (1,1) (cc 1 n2 n3 n3 n2):=by
       show (if _ then _ else _)=_
       exact if_pos ⟨by omega,by omega⟩
      refine X1 _ (aI 1 (by omega)) ?_;refine X1 _ (zr n0 n1 n2 n3 n4 n5 (by omega) (by omega) m2 m3 m4 m5) ?_;refine X1 _ (mO (az (v:=1) (k:=63) (by decide) (by omega)) (pb 1 n3 n2 (by decide) (by omega) (by omega) (by omega) (by omega)) (by omega) (by omega)) ?_;refine .intro (by decide) (.intro (by decide) ?_);refine .intro rfl ?_;refine X1 ((2:Nat):Int) (wI (by simp) (by omega) (by omega)) ?_;exact ⟨2,⟨by omega,by omega⟩,by decide,⟨rfl,rfl,rfl,rfl,HJ⟩,⟨rfl,rfl,by unfold ofc fE; simp only[hr]; rfl,HJ⟩⟩
     ·have hr:cO n2 n3 n4 n5 1=(0,1):=by
       show (if _ then _ else _)=_
       exact if_neg (by omega)
      refine X1 ((2:Nat):Int) (wI (by simp) (by omega) (by omega)) ?_;exact ⟨2,⟨by omega,by omega⟩,by decide,⟨rfl,rfl,rfl,rfl,HJ⟩,⟨rfl,rfl,by unfold ofc fE; simp only[hr]; rfl,HJ⟩⟩
    ·have hr:cO n2 n3 n4 n5 1=(0,1):=by
       show (if _ then _ else _)=_
       exact if_neg (by omega)
     refine X1 ((2:Nat):Int) (wI (by simp) (by omega) (by omega)) ?_;exact ⟨2,⟨by omega,by omega⟩,by decide,⟨rfl,rfl,rfl,rfl,HJ⟩,⟨rfl,rfl,by unfold ofc fE; simp only[hr]; rfl,HJ⟩⟩
   ·refine .intro (by decide) (.intro (by decide) ?_);refine ah (λh2=>?_) (λh2=>?_)
    ·refine X1 ((3:Nat):Int) (wI (by simp) (by omega) (by omega)) ?_;refine .intro (by decide) (.intro (by decide) ?_);refine ah (λh3=>?_) (λh3=>?_)
     ·have hr:cO n2 n3 n4 n5 2=cJ (2,1) (cc 2 n2 n3 n4 n3):=by
       show (if _ then _ else _)=_
       exact if_pos ⟨by omega,by omega⟩
      refine X1 _ (aI 2 (by omega)) ?_;refine X1 _ (zs n0 n1 n2 n3 n4 n5 (by omega) (by omega) m2 m3 m4 m5) ?_;refine X1 _ (mO (az (v:=2) (k:=63) (by decide) (by omega)) (pb 2 n4 n3 (by decide) (by omega) (by omega) (by omega) (by omega)) (by omega) (by omega)) ?_;refine .intro (by decide) (.intro (by decide) ?_);refine .intro rfl ?_;refine X1 ((3:Nat):Int) (wI (by simp) (by omega) (by omega)) ?_;exact ⟨3,⟨by omega,by omega⟩,by decide,⟨rfl,rfl,rfl,rfl,HJ⟩,⟨rfl,rfl,by unfold ofc fE; simp only[hr]; rfl,HJ⟩⟩
     ·have hr:cO n2 n3 n4 n5 2=(0,1):=by
       show (if _ then _ else _)=_
       exact if_neg (by omega)
      refine X1 ((3:Nat):Int) (wI (by simp) (by omega) (by omega)) ?_;exact ⟨3,⟨by omega,by omega⟩,by decide,⟨rfl,rfl,rfl,rfl,HJ⟩,⟨rfl,rfl,by unfold ofc fE; simp only[hr]; rfl,HJ⟩⟩
    ·have hr:cO n2 n3 n4 n5 2=(0,1):=by
       show (if _ then _ else _)=_
       exact if_neg (by omega)
     refine X1 ((3:Nat):Int) (wI (by simp) (by omega) (by omega)) ?_;exact ⟨3,⟨by omega,by omega⟩,by decide,⟨rfl,rfl,rfl,rfl,HJ⟩,⟨rfl,rfl,by unfold ofc fE; simp only[hr]; rfl,HJ⟩⟩
   ·refine .intro (by decide) (.intro (by decide) ?_);refine ah (λh2=>?_) (λh2=>?_)
    ·refine X1 ((4:Nat):Int) (wI (by simp) (by omega) (by omega)) ?_;refine .intro (by decide) (.intro (by decide) ?_);refine ah (λh3=>?_) (λh3=>?_)
     ·have hr:cO n2 n3 n4 n5 3=cJ (3,1) (cc 3 n2 n3 n5 n4):=by
       show (if _ then _ else _)=_
       exact if_pos ⟨by omega,by omega⟩
      refine X1 _ (aI 3 (by omega)) ?_;refine X1 _ (zt n0 n1 n2 n3 n4 n5 (by omega) (by omega) m2 m3 m4 m5) ?_;refine X1 _ (mO (az (v:=3) (k:=63) (by decide) (by omega)) (pb 3 n5 n4 (by decide) (by omega) (by omega) (by omega) (by omega)) (by omega) (by omega)) ?_;refine .intro (by decide) (.intro (by decide) ?_);refine .intro rfl ?_;refine X1 ((4:Nat):Int) (wI (by simp) (by omega) (by omega)) ?_;exact ⟨4,⟨by omega,by omega⟩,by decide,⟨rfl,rfl,rfl,rfl,HJ⟩,⟨rfl,rfl,by unfold ofc fE; simp only[hr]; rfl,HJ⟩⟩
     ·have hr:cO n2 n3 n4 n5 3=(0,1):=by
       show (if _ then _ else _)=_
       exact if_neg (by omega)
      refine X1 ((4:Nat):Int) (wI (by simp) (by omega) (by omega)) ?_;exact ⟨4,⟨by omega,by omega⟩,by decide,⟨rfl,rfl,rfl,rfl,HJ⟩,⟨rfl,rfl,by unfold ofc fE; simp only[hr]; rfl,HJ⟩⟩
    ·have hr:cO n2 n3 n4 n5 3=(0,1):=by
       show (if _ then _ else _)=_
       exact if_neg (by omega)
     refine X1 ((4:Nat):Int) (wI (by simp) (by omega) (by omega)) ?_;exact ⟨4,⟨by omega,by omega⟩,by decide,⟨rfl,rfl,rfl,rfl,HJ⟩,⟨rfl,rfl,by unfold ofc fE; simp only[hr]; rfl,HJ⟩⟩
  ·have e:k=4:=by omega
   subst e;exact ⟨(),HJ,⟨rfl,rfl,HJ⟩,⟨rfl,rfl,HJ⟩⟩
 ·exact ⟨HJ,rc rfl,HJ⟩
def nz (p:Nat × Nat):Nat × Nat:=(p.1,dn p.2)
theorem qu (p:Nat × Nat):(nz p).2≠0:=fD p.2
theorem zu {p:Nat × Nat} (h:p.2≠0):nz p=p:=by unfold nz; rw[gQ h]
theorem Bd.bg {k:Nat} {p:Nat × Nat} (h:Bd k (nz p)):Bg k p:=
 ⟨h.n,Gn (show p.2≤dn p.2 by unfold dn; split<;>omega) h.d⟩
theorem ay {k:Nat} {p:Nat × Nat} (h:Bd k p):nz p=p:=zu h.pos
theorem jy {n d:Nat} (h:d≠0):Nat.gcd (fR n d).1 (fR n d).2=1:=by
 have hg:=Nat.gcd_pos_of_pos_right n (Fb h);show Nat.gcd (n/Nat.gcd n d) (d/Nat.gcd n d)=1
 rw[Nat.gcd_div (Hf n d) (GE n d),Hm hg]
theorem va {n d:Nat} (h:Nat.gcd n d=1):fR n d=(n,d):=by unfold fR; rw[h]; simp
theorem zw {p:Nat × Nat} (h:Nat.gcd p.1 p.2=1):bG (0,1) p=p:=by
 have:bG (0,1) p=fR p.1 p.2:=by unfold bG; simp
 rw[this,va h]
theorem C4 {p q:Nat × Nat} (hp:p.2≠0) (hq:q.2≠0) (h:p.1*q.2<q.1*p.2):cJ p q=(0,1):=by
 unfold cJ;rw[Nat.sub_eq_zero_of_le (Nat.le_of_lt h)];unfold fR;rw[GT,Hz,Hm (Fb (E6 hp hq))]
theorem C5 (p q:Nat × Nat):Bn p q=cJ (nz p) (nz q):=by
 unfold Bn;split
 ·rename_i h; exact (C4 (qu p) (qu q) h).symm
 ·rfl
theorem eJ {k m:Nat} {p q:Nat × Nat} (h1:Bd k (nz p)) (h2:Bd m (nz q)) (hk:k≤400000) (hm:m≤400000):Ct P 133 [qP p,qP q] [qP (cM (nz p) (nz q))]:=Bo h1.bg h2.bg (by omega) (by omega)
theorem By {k m:Nat} {p q:Nat × Nat} (h1:Bd k (nz p)) (h2:Bd m (nz q)) (hq:q.1≠0) (hk:k≤400000) (hm:m≤400000):Ct P 26 [qP p,qP q] [qP (d5 (nz p) (nz q)),.c (eI .i64 0)]:=u9 h1.bg h2.bg hq (by omega) (by omega)
theorem uk {k m:Nat} {p q:Nat × Nat} (h1:Bd k (nz p)) (h2:Bd m (nz q)) (hq:q.1≠0) (hk:k≤400000) (hm:m≤400000):Ct P 132 [qP p,qP q] [qP (d5 (nz p) (nz q))]:=C2 h1.bg h2.bg hq (by omega) (by omega)
theorem kG {k m:Nat} {p q:Nat × Nat} (h1:Bd k (nz p)) (h2:Bd m (nz q)) (hk:k≤400000) (hm:m≤400000):Ct P 52 [qP p,qP q] [qP (cJ (nz p) (nz q))]:=by
 rw[←C5]; exact Bp h1.bg h2.bg (by omega) (by omega)
theorem Bd.limq {k:Nat} {p:Nat × Nat} (h:Bd k (nz p)) (hk:k≤2000000):LimQ p.1 p.2:=h.bg.lim hk
theorem cx {k:Nat} {p:Nat × Nat} (h:Bd k p) (hk:k≤2000000):LimQ p.1 p.2:=Bd.limq (k:=k) (by rw[ay h]; exact h) hk
theorem bd01:Bd 1 (0,1):=⟨by decide,by decide,by decide⟩
theorem kH {k m:Nat} {p q:Nat × Nat} (h1:Bd k (nz p)) (h2:Bd m (nz q)) (r1:Nat.gcd (nz p).1 (nz p).2=1) (hk:k+m<2000000):Ct P 116 [.c (.sl 2 (qs [p,q]))] [qP (bG (nz p) (nz q))]:=by
 have e1:cu (0,1) p=nz p:=zw r1;have e2:cu (nz p) q=bG (nz p) (nz q):=by
  show bG (nz (nz p)) (nz q)=_
  rw[zu (qu p)]
 have b2:=ep h1 h2;have:=u7 [p,q] (by simp) (λi hi=>by
  match i,hi with
  | 0,_=>exact h1.limq (by omega)
  | 1,_=>exact h2.limq (by omega)) (λi hi=>by
  match i,hi with
  | 0,_=>exact cx bd01 (by omega)
  | 1,_=>show LimQ (cu (0,1) p).1 (cu (0,1) p).2; rw[e1]; exact cx h1 (by omega)
  | 2,_=>show LimQ (cu (cu (0,1) p) q).1 (cu (cu (0,1) p) q).2; rw[e1,e2]; exact cx b2 (by omega))
 have e:[p,q].foldl cu (0,1)=bG (nz p) (nz q):=by
  show cu (cu (0,1) p) q=_
  rw[e1,e2]
 rw[e]at this;exact this
theorem nZ {k m:Nat} {p q:Nat × Nat} (h1:Bd k (nz p)) (h2:Bd m (nz q)) (r1:Nat.gcd (nz p).1 (nz p).2=1) (hk:k≤400000) (hm:m≤400000):Ct P 116 [.c (.sl 2 (qs [p,q]))] [qP (bG (nz p) (nz q))]:=kH h1 h2 r1 (by omega)
theorem sA {k m n:Nat} {p q r:Nat × Nat} (h1:Bd k (nz p)) (h2:Bd m (nz q)) (h3:Bd n (nz r)) (r1:Nat.gcd (nz p).1 (nz p).2=1) (hk:k≤400000) (hm:m≤400000) (hn:n≤400000):Ct P 116 [.c (.sl 2 (qs [p,q,r]))] [qP (bG (bG (nz p) (nz q)) (nz r))]:=by
 have e1:cu (0,1) p=nz p:=zw r1;have e2:cu (nz p) q=bG (nz p) (nz q):=by
  show bG (nz (nz p)) (nz q)=_
  rw[zu (qu p)]
 have b2:=ep h1 h2;have e3:cu (bG (nz p) (nz q)) r=bG (bG (nz p) (nz q)) (nz r):=by
  show bG (nz (bG (nz p) (nz q))) (nz r)=_
  rw[ay b2]
 have b3:=ep b2 h3;have:=u7 [p,q,r] (by simp) (λi hi=>by
  match i,hi with
  | 0,_=>exact h1.limq (by omega)
  | 1,_=>exact h2.limq (by omega)
  | 2,_=>exact h3.limq (by omega)) (λi hi=>by
  match i,hi with
  | 0,_=>exact cx bd01 (by omega)
  | 1,_=>show LimQ (cu (0,1) p).1 (cu (0,1) p).2; rw[e1]; exact cx h1 (by omega)
  | 2,_=>show LimQ (cu (cu (0,1) p) q).1 (cu (cu (0,1) p) q).2; rw[e1,e2]; exact cx b2 (by omega)
  | 3,_=>show LimQ (cu (cu (cu (0,1) p) q) r).1 (cu (cu (cu (0,1) p) q) r).2; rw[e1,e2,e3]; exact cx b3 (by omega))
 have e:[p,q,r].foldl cu (0,1)=bG (bG (nz p) (nz q)) (nz r):=by
  show cu (cu (cu (0,1) p) q) r=_
  rw[e1,e2,e3]
 rw[e]at this;exact this
theorem cS (n:Nat) (hn:n<9223372036854775808):Ct P 131 [.c (nI .i64 n)] [qP (n,1)]:=by
 have:=zj (n:Int) (by omega);unfold wh at this;simpa using this
abbrev c7 (n0 n1 n2 n3 n4 n5:Nat):A1:=.ag [nI .i64 n0,nI .i64 n1,nI .i64 0,nI .i64 n2,nI .i64 n3,nI .i64 n4,nI .i64 n5]
theorem nz1 (n:Nat):nz (n,1)=(n,1):=rfl
theorem bd1 {n:Nat} (h:n<9223372036854775808):Bd 63 (nz (n,1)):=az h (by omega)
def zx (p1 p2 p3:Nat × Nat) (n0 n2 n3:Nat):Nat × Nat:=bG (bG (cM (n2,1) p1) (cM (n3,1) p2)) (cM (n0-n2-n3,1) p3)
theorem Bz {k:Nat} (p0 p1 p2 p3:Nat × Nat) (n0 n1 n2 n3 n4 n5:Nat) (b1:Bd k (nz p1)) (b2:Bd k (nz p2)) (b3:Bd k (nz p3)) (hk:k≤100000) (m0:n0<4611686018427387904) (m2:n2+n3≤n0) :
  Ct P 190 [gS p0 p1 p2 p3,c7 n0 n1 n2 n3 n4 n5] [qP (zx (nz p1) (nz p2) (nz p3) n0 n2 n3)]:=by
 have i0:Bd 63 (nz (n0-n2-n3,1)):=bd1 (by omega);have i2:Bd 63 (nz (n2,1)):=bd1 (by omega);have i3:Bd 63 (nz (n3,1)):=bd1 (by omega);have f1:=bc i2 b1;have f2:=bc i3 b2;have f4:=bc i0 b3;have g1:Bd (63+k) (nz (cM (nz (n2,1)) (nz p1))):=by rw[ay f1]; exact f1
 have g2:Bd (63+k) (nz (cM (nz (n3,1)) (nz p2))):=by rw[ay f2]; exact f2
 have g4:Bd (63+k) (nz (cM (nz (n0-n2-n3,1)) (nz p3))):=by rw[ay f4]; exact f4
 have hr:Nat.gcd (nz (cM (nz (n2,1)) (nz p1))).1 (nz (cM (nz (n2,1)) (nz p1))).2=1:=by
  rw[ay f1]; exact jy (E6 i2.pos b1.pos)
 have hadd:=sA g1 g2 g4 hr (by omega) (by omega) (by omega);rw[ay f1,ay f2,ay f4]at hadd;refine Ct.go (Ty.own_ok [1000001] aj) aa (N:=42) Tryz.func190 rfl rfl rfl rfl ?_;refine .intro (by decide) (.intro (by decide) ?_);refine X1 _ (cS n2 (by omega)) ?_;refine .intro (by decide) (.intro (by decide) ?_);refine X1 _ (eJ i2 b1 (by omega) (by omega)) ?_;refine .intro rfl ?_;refine .intro (by decide) (.intro (by decide) ?_);refine X1 _ (cS n3 (by omega)) ?_;refine .intro (by decide) (.intro (by decide) ?_);refine X1 _ (eJ i3 b2 (by omega) (by omega)) ?_;refine .intro rfl ?_;refine .intro (by decide) (.intro (by decide) ?_);refine X1 ((n0-n2:Nat):Int) (wI (by omega) (by omega) (by omega)) ?_;refine .intro (by decide) (.intro (by decide) ?_);refine X1 ((n0-n2-n3:Nat):Int) (wI (by omega) (by omega) (by omega)) ?_;refine X1 _ (cS (n0-n2-n3) (by omega)) ?_;refine .intro (by decide) (.intro (by decide) ?_);refine X1 _ (eJ i0 b3 (by omega) (by omega)) ?_;refine X1 _ hadd ?_;refine .intro rfl ?_;exact ⟨HJ,rc rfl,HJ⟩
theorem wo {k:Nat} (p0 p1 p2 p3:Nat × Nat) (n0 n1 n2 n3 n4 n5:Nat) (b1:Bd k (nz p1)) (b2:Bd k (nz p2)) (b3:Bd k (nz p3)) (hk:k≤100000) (m0:n0<4611686018427387904) (m1:n1≤4611686018427387904) (m2:n2+n3≤n0) :
  Ct P 184 [gS p0 p1 p2 p3,c7 n0 n1 n2 n3 n4 n5] [qP (ji (nz p1) (nz p2) (nz p3) n0 n1 n2 n3)]:=by
 have i1:Bd 63 (nz (n1,1)):=bd1 (by omega);have f5:Bd (63+k+(63+k)+1+(63+k)+1) (zx (nz p1) (nz p2) (nz p3) n0 n2 n3):=ep (ep (bc (bd1 (n:=n2) (by omega)) b1) (bc (bd1 (n:=n3) (by omega)) b2)) (bc (bd1 (n:=n0-n2-n3) (by omega)) b3);have g5:=f5;rw[←ay f5]at g5;refine Ct.go (Ty.own_ok [1000001] aj) aa (N:=16) Tryz.func184 rfl rfl rfl rfl ?_;refine ah (λh0=>?_) (λh0=>?_)
 ·rw[ji,if_pos (by omega)];refine X1 _ (bI 1 (by omega)) ?_;exact ⟨HJ,rc rfl,HJ⟩
 ·rw[ji,if_neg (by omega)];refine X1 _ (Bz p0 p1 p2 p3 n0 n1 n2 n3 n4 n5 b1 b2 b3 hk m0 m2) ?_;refine X1 _ (cS n1 (by omega)) ?_;refine X1 _ (uk g5 i1 (by show n1≠0; omega) (by omega) (by omega)) ?_;refine .intro rfl ?_;rw[ay f5];exact ⟨HJ,rc rfl,HJ⟩
theorem DZ {P:Program} {N:Nx} {E:Env} {O:Objs} {c:Code} {Q:PQ} {k:Nat} {cells cells':List PC} (hk:O.get k=some (.var cells)) (hl:leL cells cells') (h:WI P N E (O.set k (.var cells')) c Q):WI P N E O c Q:=
 WI.step (λX K ok w a hs=>by
  have hsub:∀ t o,(O.set k (.var cells')).get t=some o→∃ o',O.get t=some o':=λt o h=>by
   rw[Objs.get_set]at h;split at h
   ·rename_i e; subst e; exact ⟨_,hk⟩
   ·exact ⟨o,h⟩
  refine ⟨K,ok,⟨hs.size,hs.defers,hs.base,hs.rnd,hs.old,⟨λt o g=>?_,λt t' o o' b L L' g1 g2=>?_,λt o b L g=>?_,hs.hp.lt,hs.hp.hlt,hs.hp.hok,λt o b L g=>?_⟩,hs.env⟩,
   EE _,λ_ _ _ _=>rfl,λ_ h=>h,λ_ h=>.inl h,λt o b L g1 g2=>by obtain ⟨o',g3⟩:=hsub t o g1; exact .inr ⟨t,o',L,g3,g2⟩,rfl,rfl,rfl,λ_ o h=>⟨o,h,SK.refl o⟩,λ_ _=>rfl,λ_ h=>.inl h⟩
  ·rw[Objs.get_set]at g;split at g
   ·rename_i e;subst e;cases g;obtain ⟨b,cs,e,fr,a1,a2,a3,a4⟩:=hs.hp.obs k _ hk;exact ⟨b,cs,e,fr,a1,a2,a3,leL.rel hl a4⟩
   ·exact hs.hp.obs t o g
  ·obtain ⟨p,q1⟩:=hsub t o g1;obtain ⟨p',q2⟩:=hsub t' o' g2;exact hs.hp.inj t t' p p' b L L' q1 q2
  ·obtain ⟨p,q1⟩:=hsub t o g; exact hs.hp.apart t p b L q1
  ·obtain ⟨p,q1⟩:=hsub t o g; exact hs.hp.how t p b L q1) h
theorem dy (sz:Nat):leP (.sc (.slice none 0 0)) (.sl sz []):=.inr ⟨rfl,sz,rfl⟩
theorem zy {m n:Nat} {X Y:Prop} (h1:m=n→X) (h2:m≠n→Y):BM X Y (m==n):=aP (λh=>h1 (by simpa using h)) (λh=>h2 (by simpa using h))
def cN (n2 n3 n4 n5:Nat):Nat→Nat
 | 1=>n2
 | 2=>n3
 | 3=>n4
 | 4=>n5
 | _=>0
theorem iv (n0 n1 n2 n3 n4 n5 k:Nat) (h1:1≤k) (h2:k≤4) (m2:n2≤1000000) (m3:n3≤1000000) (m4:n4≤1000000) (m5:n5≤1000000) :
  Ct P 130 [.c (nI .i64 k),.c (.rd [nI .i64 n0,nI .i64 n1,nI .i64 0,nI .i64 n2,nI .i64 n3,nI .i64 n4,nI .i64 n5])] [qP (cN n2 n3 n4 n5 k,1)]:=by
 refine Ct.go aj aa (N:=9) Tryz.func130 rfl rfl rfl rfl ?_;have hk:k=1∨k=2∨k=3∨k=4:=by omega
 rcases hk with rfl | rfl | rfl | rfl
 ·refine .intro (by decide) (.intro (by decide) ?_);exact X1 _ (cS n2 (by omega)) ⟨HJ,rc rfl,HJ⟩
 ·refine .intro (by decide) (.intro (by decide) ?_);exact X1 _ (cS n3 (by omega)) ⟨HJ,rc rfl,HJ⟩
 ·refine .intro (by decide) (.intro (by decide) ?_);exact X1 _ (cS n4 (by omega)) ⟨HJ,rc rfl,HJ⟩
 ·refine .intro (by decide) (.intro (by decide) ?_);exact X1 _ (cS n5 (by omega)) ⟨HJ,rc rfl,HJ⟩
def dN (n2 n3 n4 n5 k:Nat):Nat × Nat:=if n2=0∨cN n2 n3 n4 n5 k=0 then (0,0) else cJ (k,1) (cc k n2 n3 (cN n2 n3 n4 n5 (k+1)) (cN n2 n3 n4 n5 k))
theorem qw {n2 n3:Nat} (k a b:Nat) (hk:k+1<2^63) (h2:n2≠0) (hb:b≠0) (m2:n2≤1000000) (m3:n3≤1000000) (ha:a≤1000000) (hb':b≤1000000):Bd 400 (cc k n2 n3 a b):=by
 have j1:Bd 63 (n2,1):=az (by omega) (by omega);have j2:Bd 63 (n2+2*n3,1):=az (by omega) (by omega);have y:=cw j1 j2 (by show n2+2*n3≠0; omega);exact (bc (bc (az (v:=k+1) (k:=63) hk (by omega)) y) (cw (az (v:=a) (k:=63) (by omega) (by omega)) (az (v:=b) (k:=63) (by omega) (by omega)) hb)).le (by omega)
theorem zz {n2 n3 n4 n5:Nat} (m2:n2≤1000000) (m3:n3≤1000000) (m4:n4≤1000000) (m5:n5≤1000000) (k:Nat):cN n2 n3 n4 n5 k≤1000000:=by
 unfold cN; split<;>omega
theorem vb {n2 n3 n4 n5:Nat} (m2:n2≤1000000) (m3:n3≤1000000) (m4:n4≤1000000) (m5:n5≤1000000) (k:Nat) (h1:1≤k) (h3:k≤3):nz (dN n2 n3 n4 n5 k)=cO n2 n3 n4 n5 k:=by
 have key:∀ j,1≤j→j≤3→(n2≠0∧cN n2 n3 n4 n5 j≠0→nz (cJ (j,1) (cc j n2 n3 (cN n2 n3 n4 n5 (j+1)) (cN n2 n3 n4 n5 j)))=cJ (j,1) (cc j n2 n3 (cN n2 n3 n4 n5 (j+1)) (cN n2 n3 n4 n5 j))):=λj hj hj3 h=>
  ay (mN (az (v:=j) (k:=63) (by omega) (by omega)) (qw j _ _ (by omega) h.1 h.2 m2 m3 (zz m2 m3 m4 m5 _) (zz m2 m3 m4 m5 _)))
 have h0:nz (0,0)=(0,1):=rfl;have hk:=key k h1 h3;unfold dN;have hkk:k=1∨k=2∨k=3:=by omega
 rcases hkk with rfl | rfl | rfl <;>
 ·simp only[cN,cO,cc]at hk ⊢;split
  ·rename_i h;rw[h0,if_neg (by omega)]
  ·rename_i h;rw[hk (by omega),if_pos (by omega)]
def qx (n2 n3 n4 n5 j k:Nat):Nat × Nat:=if j<k then dN n2 n3 n4 n5 j else (0,0)
def ofR (n2 n3 n4 n5 k:Nat):List PC:=[nSl .u64 [],nSl .u64 [],nSl .u64 (dg 18446744073709551616 (qx n2 n3 n4 n5 1 k).1),nSl .u64 (dg 18446744073709551616 (qx n2 n3 n4 n5 1 k).2),nSl .u64 (dg 18446744073709551616 (qx n2 n3 n4 n5 2 k).1),nSl .u64 (dg 18446744073709551616 (qx n2 n3 n4 n5 2 k).2),nSl .u64 (dg 18446744073709551616 (qx n2 n3 n4 n5 3 k).1),nSl .u64 (dg 18446744073709551616 (qx n2 n3 n4 n5 3 k).2)]
theorem C6 (a b:Nat) (h:a+2*b<4611686018427387904):bG (bG (nz (a,1)) (nz (b,1))) (nz (b,1))=(a+2*b,1):=by
 have e:∀ x y,bG (x,1) (y,1)=(x+y,1):=λx y=>by
  unfold bG;simp only[F2];exact va (Hq _)
 rw[nz1,nz1,e,e];congr 1;omega
theorem C7 (n0 n1 n2 n3 n4 n5:Nat) (m2:n2≤1000000) (m3:n3≤1000000) (m4:n4≤1000000) (m5:n5≤1000000):Ct P 85 [c7 n0 n1 n2 n3 n4 n5] [gS (0,0) (dN n2 n3 n4 n5 1) (dN n2 n3 n4 n5 2) (dN n2 n3 n4 n5 3)]:=by
 have hcN:=zz m2 m3 m4 m5;refine Ct.go (Ty.own_ok [1000001] aj) aa (N:=54) Tryz.func85 rfl rfl rfl rfl ?_;refine X1 [.ad 1 0] rfl ?_;refine X2 .frz ?_;refine X1 _ (iv n0 n1 n2 n3 n4 n5 1 (by omega) (by omega) m2 m3 m4 m5) ?_;refine X1 _ (iq n2 1 (EG (bQ (k:=1) (by omega) (by omega)) (by omega))) ?_;refine zy (λh0=>?_) (λh0=>?_)
 ·have hr:∀ k,dN n2 n3 n4 n5 k=(0,0):=λk=>by unfold dN; rw[if_pos (.inl h0)]
  have hd:dg 18446744073709551616 0=[]:=a9 _;have hg:gS (0,0) (0,0) (0,0) (0,0) = .ag [nSl .u64 [],nSl .u64 [],nSl .u64 [],nSl .u64 [],nSl .u64 [],nSl .u64 [],nSl .u64 [],nSl .u64 []]:=by simp only[gS,hd]
  rw[hr,hr,hr,hg];refine ⟨HJ,⟨_,rfl,?_⟩,HJ⟩;exact ⟨dy 1,dy 1,dy 1,dy 1,dy 1,dy 1,dy 1,dy 1,HJ⟩
 ·refine X1 _ (iv n0 n1 n2 n3 n4 n5 1 (by omega) (by omega) m2 m3 m4 m5) ?_;refine X1 _ (iv n0 n1 n2 n3 n4 n5 1 (by omega) (by omega) m2 m3 m4 m5) ?_;refine X1 _ (iv n0 n1 n2 n3 n4 n5 2 (by omega) (by omega) m2 m3 m4 m5) ?_;refine X1 _ (iv n0 n1 n2 n3 n4 n5 2 (by omega) (by omega) m2 m3 m4 m5) ?_;refine X2 .frz ?_;have hadd:=sA (bd1 (n:=n2) (by omega)) (bd1 (n:=n3) (by omega)) (bd1 (n:=n3) (by omega)) (Hq _) (by omega) (by omega) (by omega);rw[C6 n2 n3 (by omega)]at hadd;refine X1 _ hadd ?_;have j1:Bd 63 (nz (n2,1)):=bd1 (by omega);have j2:Bd 63 (nz (n2+2*n3,1)):=bd1 (by omega);refine X1 _ (uk j1 j2 (by show n2+2*n3≠0; omega) (by omega) (by omega)) ?_;have y:=cw j1 j2 (by show n2+2*n3≠0; omega);refine DZ (k:=3) (cells':=ofR n2 n3 n4 n5 1) rfl ?_ ?_
  ·have hd:dg 18446744073709551616 0=[]:=a9 _;have e:∀ j,1≤j→qx n2 n3 n4 n5 j 1=(0,0):=λj hj=>if_neg (by omega)
   have hg:ofR n2 n3 n4 n5 1=[nSl .u64 [],nSl .u64 [],nSl .u64 [],nSl .u64 [],nSl .u64 [],nSl .u64 [],nSl .u64 [],nSl .u64 []]:=by
    unfold ofR;rw[e 1 (by omega),e 2 (by omega),e 3 (by omega)];simp only[hd]
   rw[hg];exact ⟨dy 1,dy 1,dy 1,dy 1,dy 1,dy 1,dy 1,dy 1,HJ⟩
  refine aw (Ty.own_ok [1000001] aj) aa (λk:Nat=>1≤k∧k≤4) (λk=>[(2,.c (.ad 2 0)),(3,.c (.ad 3 0)),(4,.c (.fn 130 [.rd [nI .i64 n0,nI .i64 n1,nI .i64 0,nI .i64 n2,nI .i64 n3,nI .i64 n4,nI .i64 n5]])),(5,.c (.ad 5 0)),(6,.c (nI .i64 k))])
   (λk=>[(2,.var (List.replicate 8 (.sc (.slice none 0 0)))),(3,.var (ofR n2 n3 n4 n5 k)),(5,.var [nSl .u64 (dg 18446744073709551616 (d5 (nz (n2,1)) (nz (n2+2*n3,1))).1),nSl .u64 (dg 18446744073709551616 (d5 (nz (n2,1)) (nz (n2+2*n3,1))).2)])]) (λk=>4-k)
   1 ⟨by omega,by omega⟩ ⟨rfl,rfl,rfl,rfl,rfl,HJ⟩ ⟨rfl,rfl,rfl,HJ⟩ (λ_:Unit=>True) (λ_=>[(2,.c (.ad 2 0)),(3,.c (.ad 3 0))]) (λ_=>[(2,.var (List.replicate 8 (.sc (.slice none 0 0)))),(3,.var (ofR n2 n3 n4 n5 4))]) (λk hi=>?_) (λ_ _=>?_)
  ·obtain ⟨i1,i2⟩:=hi;refine ah (λh1=>?_) (λh1=>?_)
   ·refine X1 _ (iv n0 n1 n2 n3 n4 n5 k (by omega) (by omega) m2 m3 m4 m5) ?_;have c1:=hcN k;have c2:=hcN (k+1);refine X1 _ (iq (cN n2 n3 n4 n5 k) 1 (EG (bQ (k:=1) (by omega) (by omega)) (by omega))) ?_;refine zy (λh2=>?_) (λh2=>?_)
    ·have hr:dN n2 n3 n4 n5 k=(0,0):=by unfold dN; rw[if_pos (.inr h2)]
     refine X1 ((k+1:Nat):Int) (wI (by simp) (by omega) (by omega)) ?_;refine ⟨k+1,⟨by omega,by omega⟩,by show 4-(k+1)<4-k; omega,⟨rfl,rfl,rfl,rfl,rfl,HJ⟩,⟨rfl,?_,rfl,HJ⟩⟩;have hk:k=1∨k=2∨k=3:=by omega
     rcases hk with rfl | rfl | rfl<;>(unfold ofR qx; simp only[hr]; rfl)
    ·have hr:dN n2 n3 n4 n5 k=cJ (k,1) (cc k n2 n3 (cN n2 n3 n4 n5 (k+1)) (cN n2 n3 n4 n5 k)):=by unfold dN; rw[if_neg (by omega)]
     have pb:=qw k (cN n2 n3 n4 n5 (k+1)) (cN n2 n3 n4 n5 k) (by omega) h0 h2 m2 m3 c2 c1;have hk1:Bd 63 (nz (k+1,1)):=bd1 (by omega);have hyz:nz (d5 (nz (n2,1)) (nz (n2+2*n3,1)))=d5 (nz (n2,1)) (nz (n2+2*n3,1)):=ay y;have y':=y;rw[←hyz]at y';have ha:Bd 63 (nz (cN n2 n3 n4 n5 (k+1),1)):=bd1 (by omega);have hb:Bd 63 (nz (cN n2 n3 n4 n5 k,1)):=bd1 (by omega);have q1:=bc hk1 y';have q1':=q1;rw[←ay q1]at q1';have q2:=cw ha hb h2;have q2':=q2;rw[←ay q2]at q2';have hpe:cM (nz (cM (nz (k+1,1)) (nz (d5 (nz (n2,1)) (nz (n2+2*n3,1)))))) (nz (d5 (nz (cN n2 n3 n4 n5 (k+1),1)) (nz (cN n2 n3 n4 n5 k,1))))=cc k n2 n3 (cN n2 n3 n4 n5 (k+1)) (cN n2 n3 n4 n5 k):=by
      rw[ay q1,ay q2,hyz]; rfl
     refine X1 ((k+1:Nat):Int) (wI (by simp) (by omega) (by omega)) ?_;refine X1 _ (cS (k+1) (by omega)) ?_;refine X1 _ (eJ hk1 y' (by omega) (by omega)) ?_;refine X1 ((k+1:Nat):Int) (wI (by simp) (by omega) (by omega)) ?_;refine X1 _ (iv n0 n1 n2 n3 n4 n5 (k+1) (by omega) (by omega) m2 m3 m4 m5) ?_;refine X1 _ (iv n0 n1 n2 n3 n4 n5 k (by omega) (by omega) m2 m3 m4 m5) ?_;refine X1 _ (uk ha hb h2 (by omega) (by omega)) ?_;refine X1 _ (eJ q1' q2' (by omega) (by omega)) ?_;refine .intro rfl ?_;rw[hpe];refine X1 _ (cS k (by omega)) ?_;have pb':=pb;rw[←ay pb]at pb';refine X1 _ (kG (bd1 (n:=k) (by omega)) pb' (by omega) (by omega)) ?_;rw[ay pb,nz1 k,←hr];have hk:k=1∨k=2∨k=3:=by omega
     rcases hk with rfl | rfl | rfl
     ·refine .intro (by decide) (.intro (by decide) ?_);refine .intro rfl ?_;refine X1 ((2:Nat):Int) (wI (by simp) (by omega) (by omega)) ?_;exact ⟨2,⟨by omega,by omega⟩,by decide,⟨rfl,rfl,rfl,rfl,rfl,HJ⟩,⟨rfl,rfl,rfl,HJ⟩⟩
     ·refine .intro (by decide) (.intro (by decide) ?_);refine .intro rfl ?_;refine X1 ((3:Nat):Int) (wI (by simp) (by omega) (by omega)) ?_;exact ⟨3,⟨by omega,by omega⟩,by decide,⟨rfl,rfl,rfl,rfl,rfl,HJ⟩,⟨rfl,rfl,rfl,HJ⟩⟩
     ·refine .intro (by decide) (.intro (by decide) ?_);refine .intro rfl ?_;refine X1 ((4:Nat):Int) (wI (by simp) (by omega) (by omega)) ?_;exact ⟨4,⟨by omega,by omega⟩,by decide,⟨rfl,rfl,rfl,rfl,rfl,HJ⟩,⟨rfl,rfl,rfl,HJ⟩⟩
   ·have e:k=4:=by omega
    subst e;exact ⟨(),HJ,⟨rfl,rfl,HJ⟩,⟨rfl,rfl,HJ⟩⟩
  ·have hd:dg 18446744073709551616 0=[]:=a9 _;have e:∀ j,j<4→qx n2 n3 n4 n5 j 4=dN n2 n3 n4 n5 j:=λj hj=>if_pos hj
   have hg:gS (0,0) (dN n2 n3 n4 n5 1) (dN n2 n3 n4 n5 2) (dN n2 n3 n4 n5 3) = .ag (ofR n2 n3 n4 n5 4):=by
    unfold ofR;rw[e 1 (by omega),e 2 (by omega),e 3 (by omega)];simp only[gS,hd]
   rw[hg];exact ⟨HJ,rc rfl,HJ⟩
def mt (words w:Int):Bool:=decide (w<0)||decide (w≥words)
def gW (words:Int) (g:List Int):Int:=if g.any (mt words)=true then 8 else if idx 1 (g.drop 1)≥0 then 10 else 0
def kwL (words:Int):List Cnt→Int
 | []=>0
 | x::l=>if gW words x.1≠0 then gW words x.1 else kwL words l
def iw (words:Int):List (List Cnt)→Int
 | []=>0
 | l::ls=>if kwL words l≠0 then kwL words l else iw words ls
theorem C8 {words:Int} {l:List Cnt} {i:Nat} (h:i<l.length) {v:Int} (hv:gW words l[i].1=v) (h0:v≠0):kwL words (l.drop i)=v:=by
 rw[E8 h,kwL,hv,if_pos h0]
theorem zB {words:Int} {l:List Cnt} {i:Nat} (h:i<l.length) (hv:gW words l[i].1=0):kwL words (l.drop i)=kwL words (l.drop (i+1)):=by
 rw[E8 h,kwL,hv,if_neg (by simp)]
theorem BA {words:Int} {L:List (List Cnt)} {n:Nat} (h:n<L.length) {v:Int} (hv:kwL words L[n]=v) (h0:v≠0):iw words (L.drop n)=v:=by
 rw[E8 h,iw,hv,if_pos h0]
theorem wq {words:Int} {L:List (List Cnt)} {n:Nat} (h:n<L.length) (hv:kwL words L[n]=0):iw words (L.drop n)=iw words (L.drop (n+1)):=by
 rw[E8 h,iw,hv,if_neg (by simp)]
theorem wr (L:List (List Cnt)) (words:Int) (hL:CCForm L):Ct P 84 [.c (cK L),.c (eI .i64 words)] [.c (eI .i64 (iw words L))]:=by
 have hll:=hL.lim.len;refine Ct.go aj aa (N:=44) Tryz.func84 rfl rfl rfl rfl ?_;refine .intro (by rw[aq]; omega) ?_;rw[aq];refine aw aj aa (λn:Nat=>n≤L.length∧iw words L=iw words (L.drop n)) (λn=>[(1,.c (eI .i64 words)),(11,.c (cK L)),(12,.c (nI .i64 L.length)),(13,.c (nI .i64 n))]) (λ_=>[]) (λn=>L.length-n)
  0 ⟨by omega,rfl⟩ ⟨rfl,rfl,rfl,rfl,HJ⟩ HJ (λ_:Unit=>iw words L=0) (λ_=>[]) (λ_=>[]) (λn hi=>?_) (λ_ he=>?_)
 ·obtain ⟨h2,h3⟩:=hi;refine ah (λh4=>?_) (λh4=>?_)
  ·have hn:n<L.length:=by omega
   have hl:=hL.lim.at' hn;have hlen:=hl.len;have hform:=hL.form n hn;have hget:=bH (l:=L) (i:=(n:Int)) (n:=n) rfl hn;have hof:=λv=>BA (words:=words) (n:=n) (L:=L) hn (v:=v)
   have hnext:=wq (words:=words) (n:=n) (L:=L) hn;generalize L[n]=l at *
   refine .intro (by omega) (X1 _ hget ?_);refine .intro (by rw[cRow_len]; omega) ?_;rw[cRow_len];refine ci aj aa (λi:Nat=>i≤l.length∧kwL words l=kwL words (l.drop i)) (λi=>[(1,.c (eI .i64 words)),(11,.c (cK L)),(12,.c (nI .i64 L.length)),(13,.c (nI .i64 n)),(17,.c (cSl l)),(18,.c (nI .i64 l.length)),(19,.c (nI .i64 i))]) (λ_=>[]) (λi=>l.length-i)
    0 ⟨by omega,rfl⟩ ⟨rfl,rfl,rfl,rfl,rfl,rfl,rfl,HJ⟩ HJ (λi hi=>?_)
   obtain ⟨i1,i2⟩:=hi;refine ah (λh5=>?_) (λh5=>?_)
   ·have hi:i<l.length:=by omega
    have hxl:=hl.at' hi;have hxf:=hform i hi;have hx:=bs (l:=l) (i:=(i:Int)) (n:=i) rfl hi;have kof:=λv=>C8 (words:=words) hi (v:=v)
    have knext:=zB (words:=words) hi;generalize l[i]=x at *
    refine .intro (by omega) (X1 _ hx ?_);refine .intro (by rw[ac]; omega) ?_;rw[ac];refine aw aj aa (λj:Nat=>j≤x.1.length∧∀ q:Nat,q<j→mt words (x.1.getD q 0)=false) (λj=>[(1,.c (eI .i64 words)),(8,.c (.ad 8 0)),(11,.c (cK L)),(12,.c (nI .i64 L.length)),(13,.c (nI .i64 n)),(17,.c (cSl l)),(18,.c (nI .i64 l.length)),(19,.c (nI .i64 i)),(24,.c (iSl x.1)),(25,.c (nI .i64 x.1.length)),(26,.c (nI .i64 j))])
     (λ_=>[(8,.var [iSl x.1,eI .i64 x.2])]) (λj=>x.1.length-j) 0 ⟨by omega,λq hq=>by omega⟩ ⟨rfl,rfl,rfl,rfl,rfl,rfl,rfl,rfl,rfl,rfl,rfl,HJ⟩ ⟨rfl,HJ⟩
     (λ_:Unit=>x.1.any (mt words)=false) (λ_=>[(1,.c (eI .i64 words)),(8,.c (.ad 8 0)),(11,.c (cK L)),(12,.c (nI .i64 L.length)),(13,.c (nI .i64 n)),(17,.c (cSl l)),(18,.c (nI .i64 l.length)),(19,.c (nI .i64 i))])
     (λ_=>[(8,.var [iSl x.1,eI .i64 x.2])]) (λj hj=>?_) (λ_ hany=>?_)
    ·obtain ⟨j1,j2⟩:=hj;refine ah (λh6=>?_) (λh6=>?_)
     ·have hj:j<x.1.length:=by omega
      refine .intro (by omega) (X1 _ (bl rfl hj) ?_);have r8:mt words (x.1.getD j 0)=true→iw words L=8:=λhb=>by
       have:gW words x.1=8:=by
        unfold gW;rw[if_pos];rw[FV];exact ⟨x.1.getD j 0,by simp[EB,hj],hb⟩
       rw[h3,hof 8 (by rw[i2,kof 8 this (by decide)]) (by decide)]
      refine ah (λh7=>?_) (λh7=>?_)
      ·exact ⟨HJ,r1 (iE (by rw[r8 (by unfold mt; rw[decide_eq_true h7]; rfl)])),HJ⟩
      ·refine ah (λh8=>?_) (λh8=>?_)
       ·exact ⟨HJ,r1 (iE (by rw[r8 (by unfold mt; rw[decide_eq_true h8,Bool.or_true])])),HJ⟩
       ·refine X1 ((j+1:Nat):Int) (wI (by simp) (by omega) (by omega)) ?_;refine ⟨j+1,⟨by omega,λq hq=>?_⟩,by omega,⟨rfl,rfl,rfl,rfl,rfl,rfl,rfl,rfl,rfl,rfl,rfl,HJ⟩,⟨rfl,HJ⟩⟩;by_cases e:q=j
        ·subst e; unfold mt; rw[decide_eq_false h7,decide_eq_false h8]; rfl
        ·exact j2 q (by omega)
     ·refine ⟨(),?_,⟨rfl,rfl,rfl,rfl,rfl,rfl,rfl,rfl,HJ⟩,⟨rfl,HJ⟩⟩;rw[List.any_eq_false];intro w hw;obtain ⟨q,hq,rfl⟩:=List.getElem_of_mem hw;have:=j2 q (by omega);rw[EB,EY hq]at this;simpa using this
    ·refine ⟨1,x.1.length,by simp,by simp[ac],by omega,by rw[ac]; omega,?_⟩;rw[iRow_sub,Fj (show (x.1.drop 1).length≤x.1.length-1 by rw[Ff]; exact EE _)];refine X1 _ (ik (x.1.drop 1) 1 (by rw[Ff]; omega)) ?_;refine ah (λh7=>?_) (λh7=>?_)
     ·have:gW words x.1=10:=by unfold gW; rw[if_neg (by rw[hany]; simp),if_pos h7]
      exact ⟨HJ,r1 (iE (by rw[h3,hof 10 (by rw[i2,kof 10 this (by decide)]) (by decide)])),HJ⟩
     ·have:gW words x.1=0:=by unfold gW; rw[if_neg (by rw[hany]; simp),if_neg h7]
      refine X1 ((i+1:Nat):Int) (wI1 (by omega)) ?_;exact ⟨i+1,⟨by omega,by rw[i2,knext this]⟩,by omega,⟨rfl,rfl,rfl,rfl,rfl,rfl,rfl,HJ⟩,HJ⟩
   ·have e:i=l.length:=by omega
    subst e;rw[F9,kwL]at i2;refine X1 ((n+1:Nat):Int) (wI (by simp) (by omega) (by omega)) ?_;exact ⟨n+1,⟨by omega,by rw[h3,hnext i2]⟩,by omega,⟨rfl,rfl,rfl,rfl,HJ⟩,HJ⟩
  ·have e:n=L.length:=by omega
   subst e;rw[F9]at h3;exact ⟨(),h3,HJ,HJ⟩
 ·rw[he];exact ⟨HJ,r1 rfl,HJ⟩
def gK (L:List (List Cnt)) (words:Int):Int:=if fx L≠0 then fx L else if words<3∨words>65536 then 1 else iw words L
def au (l:List Cnt) (k:Int):Nat:=(l.filter λx=>aW x&&decide (x.2=k)).length
def tysN (l:List Cnt):Nat:=(l.filter aW).length
def totN (l:List Cnt):Nat:=(tot l).toNat
theorem vc (l:List Cnt):tot l=(totN l:Int):=by have:=cF l; unfold totN; omega
theorem vd (l:List Cnt):A1.ag (dx l)=c7 (tysN l) (totN l) (au l 1) (au l 2) (au l 3) (au l 4):=by
 unfold dx; rw[vc]; rfl
theorem ul (l:List Cnt):A1.ag (cen l)=c6 (tysN l) (totN l) (au l 1) (au l 2) (au l 3) (au l 4):=by
 unfold cen; rw[vc]; rfl
theorem bJ (l:List Cnt) (k:Int):au l k≤l.length:=FB _ _
abbrev zC (l:List Cnt):A1:=gS (0,0) (dN (au l 1) (au l 2) (au l 3) (au l 4) 1) (dN (au l 1) (au l 2) (au l 3) (au l 4) 2) (dN (au l 1) (au l 2) (au l 3) (au l 4) 3)
abbrev BB (l:List Cnt):A1:=dS (0,1) (cO (au l 1) (au l 2) (au l 3) (au l 4) 1) (cO (au l 1) (au l 2) (au l 3) (au l 4) 2) (cO (au l 1) (au l 2) (au l 3) (au l 4) 3)
def ix (ls:List (List Cnt)):List (List PC):=ls.map λl=>(zC l).cells
def gj (ls:List (List Cnt)):List (List PC):=ls.map λl=>(BB l).cells
theorem iS {ls:List (List Cnt)}:(ix ls).length=ls.length:=by simp[ix]
theorem iT {ls:List (List Cnt)}:(gj ls).length=ls.length:=by simp[gj]
theorem qy {ls:List (List Cnt)}:ax (ix ls):=by
 intro el h;obtain ⟨x,_,rfl⟩:=Fd.1 h;rfl
theorem qz {ls:List (List Cnt)}:ax (gj ls):=by
 intro el h;obtain ⟨x,_,rfl⟩:=Fd.1 h;rfl
theorem gk {ls:List (List Cnt)} {i:Int} {n:Nat} (h0:i=n) (h:n<ls.length):(ix ls)[i.toNat]? = some (zC ls[n]).cells:=by
 subst h0; simp[ix,h]
theorem pp {ls:List (List Cnt)} {i:Int} {n:Nat} (h0:i=n) (h:n<ls.length):(gj ls)[i.toNat]? = some (BB ls[n]).cells:=by
 subst h0; simp[gj,h]
theorem BC (l:List Cnt) (hl:CLim l):Ct P 85 [.ag (dx l)] [zC l]:=by
 rw[vd];have:=hl.len;exact C7 _ _ _ _ _ _ (EG (bJ l 1) this) (EG (bJ l 2) this) (EG (bJ l 3) this) (EG (bJ l 4) this)
theorem BD (l:List Cnt) (hl:CLim l):Ct P 93 [.ag (cen l)] [BB l]:=by
 rw[ul];have:=hl.len;exact Bx _ _ _ _ _ _ (EG (bJ l 1) this) (EG (bJ l 2) this) (EG (bJ l 3) this) (EG (bJ l 4) this)
theorem qA (L:List (List Cnt)) (n:Nat) (x:Cnt):(cL L n x).1=x.1:=by unfold cL; split<;>rfl
theorem dP {L:List (List Cnt)} {l:List Cnt} (h:l∈ao L):∃ (n:Nat) (hn:n<L.length),l=L[n].map (cL L n):=by
 obtain ⟨n,hn,rfl⟩:=List.getElem_of_mem h;rw[bx]at hn;exact ⟨n,hn,pm hn⟩
theorem jA {L:List (List Cnt)} (h:CCLim L):CCLim (ao L):=
 ⟨by rw[bx]; exact h.len,λl hl=>by
  obtain ⟨n,hn,rfl⟩:=dP hl;refine ⟨by rw[Fs]; exact (h.at' hn).len,λx hx=>?_⟩;obtain ⟨y,hy,rfl⟩:=Fd.1 hx;rw[qA];exact (h.at' hn).g y hy⟩
theorem qB {L:List (List Cnt)} (h:CCOk L) {l:List Cnt} (hl:l∈ao L):dX l:=by
 obtain ⟨n,hn,rfl⟩:=dP hl;refine List.pairwise_map.2 ((h.rises n hn).imp λ{a b} hab=>?_);rw[qA,qA]; exact hab
structure CCSum (L:List (List Cnt)):Prop where
 lim:CCLim L
 tot:∀ l,l∈ao L→tot l≤4611686018427387904
abbrev xO (L:List (List Cnt)) (words:Int) (m:Nat):Ob:=.var [cK (ao L),.sl 8 (ix (ao L)),eI .i64 words,.mp m]
theorem jB {L:List (List Cnt)} {words:Int} (h:gK L words=0):CCOk L∧3≤words∧words≤65536∧iw words L=0:=by
 unfold gK at h;by_cases h1:fx L=0
 ·rw[if_neg (by omega)]at h;by_cases h2:words<3∨words>65536
  ·rw[if_pos h2]at h; omega
  ·rw[if_neg h2]at h;exact ⟨sn h1,by omega,by omega,h⟩
 ·rw[if_pos h1]at h; exact absurd h h1
theorem zD (L:List (List Cnt)) (words:Int) (hL:CCSum L) (h:gK L words=0) :
  CtO P 36 [] [.c (cK L),.c (eI .i64 words)] [(36,some (xO L words 34)),(34,some (.mp false [] []))] [.c (.ad 36 0),.c (eI .i64 0)]:=by
 obtain ⟨hok,w1,w2,hkw⟩:=jB h;have h1:fx L=0:=by
  unfold gK at h;by_cases h1:fx L=0
  ·exact h1
  ·rw[if_pos h1]at h; exact h
 have hcl:=jA hL.lim;have hlen:=bx L;have h8:=hok.len8;refine Ct.keep (Ty.own_ok [1000001,1000002] aj) aa [60] (N:=57) Tryz.func36 rfl rfl rfl rfl ?_;refine X1 _ (uc L hL.lim h1) ?_;refine ah (λh3=>absurd h3 (by omega)) (λ_=>?_);refine ah (λh3=>absurd h3 (by omega)) (λ_=>?_);refine X1 _ (wr L words (hok.ccform hL.lim)) ?_;rw[hkw];refine .intro (by rw[aq,hlen]; omega) ?_;rw[aq];refine tO (r:=60) (k:=36) (i:=1) (sz:=8) rfl rfl rfl ?_;refine aw (Ty.own_ok [1000001,1000002] aj) aa (λn:Nat=>n≤(ao L).length) (λn=>[(9,.c (.ad 36 0)),(37,.c (cK (ao L))),(38,.c (nI .i64 (ao L).length)),(39,.c (nI .i64 n))])
  (λn=>[(36,.var [cK (ao L),.ow 60 8 n,eI .i64 words,.mp 34]),(60,.row 8 (ix ((ao L).take n))),(34,.mp false [] [])]) (λn=>(ao L).length-n)
  0 (by omega) ⟨rfl,rfl,rfl,rfl,HJ⟩ ⟨rfl,rfl,rfl,HJ⟩ (λ_:Unit=>True) (λ_=>[(9,.c (.ad 36 0))]) (λ_=>[(36,.var [cK (ao L),.ow 60 8 (ao L).length,eI .i64 words,.mp 34]),(60,.row 8 (ix (ao L))),(34,.mp false [] [])]) (λn hn=>?_) (λ_ _=>?_)
 ·refine ah (λh5=>?_) (λh5=>?_)
  ·have hn':n<(ao L).length:=by omega
   have hx:=bH (l:=ao L) (i:=(n:Int)) (n:=n) rfl hn';have hln:=hcl.at' hn';have htn:=hL.tot _ (EO hn');have hs:(ao L).take (n+1)=(ao L).take n++[(ao L)[n]]:=EH hn';have htl:((ao L).take n).length=n:=by rw[EQ]; omega
   generalize (ao L)[n]=l at *
   refine .intro (by omega) (X1 _ hx ?_);refine X1 _ (Bb l hln htn) ?_;refine X1 _ (BC l hln) ?_;refine ⟨by rw[iS,htl],by rw[iS,htl]; show (n+1+768)*192≤_; omega,by rw[iS,htl]; show n+1≤_; omega,qy,ar rfl,?_⟩;refine .intro rfl ?_;refine X1 ((n+1:Nat):Int) (wI (by simp) (by omega) (by omega)) ?_;have hgl:(ix ((ao L).take n)++List.map A1.cells [zC l]).length=n+1:=by rw[EC,iS,htl]; rfl
   exact ⟨n+1,by omega,by omega,⟨rfl,rfl,rfl,rfl,HJ⟩,⟨congrArg (λk=>some (Ob.var [cK (ao L),.ow 60 8 k,eI .i64 words,.mp 34])) hgl,aB (by rw[hs]; unfold ix; rw[FM]; rfl),rfl,HJ⟩⟩
  ·have e:n=(ao L).length:=by omega
   subst e;rw[E7];exact ⟨(),HJ,⟨rfl,HJ⟩,⟨rfl,rfl,rfl,HJ⟩⟩
 ·exact ⟨HJ,SubO.of (l:=[(36,xO L words 34),(34,.mp false [] [])]) ⟨rfl,rfl,HJ⟩,r1 rfl,r1 rfl,HJ⟩
abbrev mV (L:List (List Cnt)) (words:Int) (dr:List (List PC)):A1:=.ag [cK L,eI .i64 words,.sl 8 dr]
def bK (L:List (List Cnt)) (g:List Int):Int:=
 if g.length<1∨g.length>L.length then 0 else if cq g (L.getD (g.length-1) [])<0 then 0 else ((L.getD (g.length-1) []).getD (cq g (L.getD (g.length-1) [])).toNat ([],0)).2
theorem mP (g:List Int) (l:List Cnt):-1≤cq g l∧cq g l<l.length:=by
 induction l with
 | nil=>simp[cq]
 | cons y l ih=>
  simp only[cq,Fe];split
  ·omega
  ·split<;>omega
theorem sB (L:List (List Cnt)) (words:Int) (dr:List (List PC)) (g:List Int) (hL:CCLim L) (hg:g.length≤1000000):Ct P 118 [mV L words dr,.c (iSl g)] [.c (eI .i64 (bK L g))]:=by
 have hll:=hL.len;refine Ct.go aj aa (N:=39) Tryz.func118 rfl rfl rfl rfl ?_;refine .intro (by rw[ac]; omega) ?_;rw[ac];refine ah (λh0=>?_) (λh0=>?_)
 ·exact ⟨HJ,r1 (iE (by rw[bK,if_pos (.inl (by omega))])),HJ⟩
 refine .intro (by rw[ac]; omega) ?_;refine .intro (by rw[aq]; omega) ?_;rw[ac,aq];refine ah (λh1=>?_) (λh1=>?_)
 ·exact ⟨HJ,r1 (iE (by rw[bK,if_pos (.inr (by omega))])),HJ⟩
 have hn:g.length-1<L.length:=by omega
 have hgd:L.getD (g.length-1) []=L[g.length-1]:=by simp[EB,hn]
 have hnum:bK L g=if cq g L[g.length-1]<0 then 0 else (L[g.length-1].getD (cq g L[g.length-1]).toNat ([],0)).2:=by
  rw[bK,if_neg (by omega),hgd]
 rw[hnum];have hl:=hL.at' hn;have hget:=bH (l:=L) (i:=((g.length-1:Nat):Int)) (n:=g.length-1) rfl hn;generalize L[g.length-1]=l at *
 have hf:=mP g l;refine .intro (by rw[ac]; omega) ?_;rw[ac];refine X1 ((g.length-1:Nat):Int) (wI (by omega) (by omega) (by omega)) ?_;refine .intro (by omega) (X1 _ hget ?_);refine X1 _ (yD l g hl hg) ?_;refine ah (λh2=>?_) (λh2=>?_)
 ·rw[if_pos h2];exact ⟨HJ,r1 rfl,HJ⟩
 ·rw[if_neg h2];have hk:(cq g l).toNat<l.length:=by omega
  refine .intro (by rw[ac]; omega) ?_;rw[ac];refine X1 ((g.length-1:Nat):Int) (wI (by omega) (by omega) (by omega)) ?_;refine .intro (by omega) (X1 _ hget ?_);refine .intro (by omega) (X1 _ (bs (n:=(cq g l).toNat) (by omega) hk) ?_);exact ⟨HJ,r1 (iE (by simp[EB,hk])),HJ⟩
abbrev mM (L:List (List Cnt)) (words:Int):A1:=mV (ao L) words (gj (ao L))
theorem BE (L:List (List Cnt)) (words:Int) (hL:CCSum L) (hf:CCForm L) (h8:L.length≤1000):Ct P 40 [.c (cK L),.c (eI .i64 words)] [mM L words]:=by
 have hcl:=jA hL.lim;have hlen:=bx L;refine Ct.go (Ty.own_ok [1000001] aj) aa (N:=30) Tryz.func40 rfl rfl rfl rfl ?_;refine X1 _ (tU L hf h8) ?_;refine tO (r:=60) (k:=5) (i:=2) (sz:=8) rfl rfl rfl ?_;refine aw (Ty.own_ok [1000001] aj) aa (λn:Nat=>n≤L.length) (λn=>[(0,.c (cK L)),(4,.c (.ad 4 0)),(5,.c (.ad 5 0)),(6,.c (nI .i64 n))])
  (λn=>[(4,.var [.sc (.slice none 0 0),eI .i64 0,.sc (.slice none 0 0)]),(5,.var [cK (ao L),eI .i64 words,.ow 60 8 n]),(60,.row 8 (gj ((ao L).take n)))]) (λn=>L.length-n)
  0 (by omega) ⟨rfl,rfl,rfl,rfl,HJ⟩ ⟨rfl,rfl,rfl,HJ⟩ (λ_:Unit=>True) (λ_=>[(4,.c (.ad 4 0)),(5,.c (.ad 5 0))]) (λ_=>[(4,.var [.sc (.slice none 0 0),eI .i64 0,.sc (.slice none 0 0)]),(5,.var [cK (ao L),eI .i64 words,.ow 60 8 L.length]),(60,.row 8 (gj (ao L)))]) (λn hn=>?_) (λ_ _=>?_)
 ·refine .intro (by rw[aq]; omega) ?_;rw[aq];refine ah (λh5=>?_) (λh5=>?_)
  ·have hn':n<(ao L).length:=by omega
   have hx:=bH (l:=ao L) (i:=(n:Int)) (n:=n) rfl hn';have hln:=hcl.at' hn';have htn:=hL.tot _ (EO hn');have hs:(ao L).take (n+1)=(ao L).take n++[(ao L)[n]]:=EH hn';have htl:((ao L).take n).length=n:=by rw[EQ]; omega
   generalize (ao L)[n]=l at *
   refine .intro (by omega) (X1 _ hx ?_);refine X1 _ (rQ l hln htn) ?_;refine X1 _ (BD l hln) ?_;refine ⟨by rw[iT,htl],by rw[iT,htl]; show (n+1+768)*192≤_; omega,by rw[iT,htl]; show n+1≤_; omega,qz,ar rfl,?_⟩;refine .intro rfl ?_;refine X1 ((n+1:Nat):Int) (wI (by simp) (by omega) (by omega)) ?_;have hgl:(gj ((ao L).take n)++List.map A1.cells [BB l]).length=n+1:=by rw[EC,iT,htl]; rfl
   exact ⟨n+1,by omega,by omega,⟨rfl,rfl,rfl,rfl,HJ⟩,⟨rfl,congrArg (λk=>some (Ob.var [cK (ao L),eI .i64 words,.ow 60 8 k])) hgl,aB (by rw[hs]; unfold gj; rw[FM]; rfl),HJ⟩⟩
  ·have e:n=L.length:=by omega
   subst e;rw[Fj (by rw[hlen]; exact EE _)];exact ⟨(),HJ,⟨rfl,rfl,HJ⟩,⟨rfl,rfl,rfl,HJ⟩⟩
 ·exact ⟨HJ,rc rfl,HJ⟩
def fI (Lc:List (List Cnt)) (h:List Int):Nat × Nat:=
 if hh:h.length<Lc.length then ji (cO (au Lc[h.length] 1) (au Lc[h.length] 2) (au Lc[h.length] 3) (au Lc[h.length] 4) 1) (cO (au Lc[h.length] 1) (au Lc[h.length] 2) (au Lc[h.length] 3) (au Lc[h.length] 4) 2) (cO (au Lc[h.length] 1) (au Lc[h.length] 2) (au Lc[h.length] 3) (au Lc[h.length] 4) 3)
  (tysN (after Lc[h.length] h)) (totN (after Lc[h.length] h)) (au (after Lc[h.length] h) 1) (au (after Lc[h.length] h) 2) else (1,1)
theorem kI (l:List Cnt):au l 1+au l 2≤tysN l:=by
 unfold au tysN
 induction l with
 | nil=>simp
 | cons x l ih=>
  by_cases hl:aW x=true
  ·rw[Fo (p:=aW) hl,Fe];by_cases h1:x.2=1
   ·rw[Fo (by simp[hl,h1]),Fh (by simp[hl,h1]),Fe]; omega
   ·by_cases h2:x.2=2
    ·rw[Fh (by simp[hl,h1]),Fo (by simp[hl,h2]),Fe]; omega
    ·rw[Fh (by simp[hl,h1]),Fh (by simp[hl,h2])]; omega
  ·rw[Fh (p:=aW) hl,Fh (by simp[hl]),Fh (by simp[hl])]; exact ih
theorem qC {n2 n3 n4 n5:Nat} (m2:n2≤1000000) (m3:n3≤1000000) (m4:n4≤1000000) (m5:n5≤1000000) (k:Nat):Bd 500 (cO n2 n3 n4 n5 k):=by
 have key:∀ j a b,j+1<2^62→n2>0→b>0→a≤1000000→b≤1000000→Bd 500 (cJ (j,1) (cc j n2 n3 a b)):=λj a b hj h2 hb ha hb'=>
  (mN (az (v:=j) (k:=63) (by omega) (by omega)) (qw j a b (by omega) (by omega) (by omega) m2 m3 ha hb')).le (by omega)
 have z:Bd 500 (0,1):=bd01.le (by omega)
 match k with
 | 1=>
   show Bd 500 (if _ then _ else _); split
   ·rename_i h; exact key 1 _ _ (by decide) h.1 h.2 m3 m2
   ·exact z
 | 2=>
   show Bd 500 (if _ then _ else _); split
   ·rename_i h; exact key 2 _ _ (by decide) h.1 h.2 m4 m3
   ·exact z
 | 0=>
   show Bd 500 (if _ then _ else _); split
   ·rename_i h; exact key 3 _ _ (by decide) h.1 h.2 m5 m4
   ·exact z
 | k+3=>
   show Bd 500 (if _ then _ else _); split
   ·rename_i h; exact key 3 _ _ (by decide) h.1 h.2 m5 m4
   ·exact z
theorem qD {l:List Cnt} (hl:CLim l):tysN l≤1000000:=EG (FB _ _) hl.len
theorem mQ {l:List Cnt} (h:tot l≤4611686018427387904):totN l≤4611686018427387904:=by unfold totN; omega
theorem BF (Lc:List (List Cnt)) (words:Int) (h:List Int) (hl:CCLim Lc) (ht:∀ l,l∈Lc→tot l≤4611686018427387904) (hh:h.length≤1000000):Ct P 121 [mV Lc words (gj Lc),.c (iSl h)] [rP (fI Lc h)]:=by
 have hll:=hl.len;refine Ct.go aj aa (N:=27) Tryz.func121 rfl rfl rfl rfl ?_;refine .intro (by rw[ac]; omega) ?_;refine .intro (by rw[aq]; omega) ?_;rw[ac,aq];unfold fI;refine ah (λh5=>?_) (λh5=>?_)
 ·rw[dif_neg (by omega)];refine X1 _ (aI 1 (by omega)) ?_;exact ⟨HJ,rc rfl,HJ⟩
 ·have hn:h.length<Lc.length:=by omega
  rw[dif_pos hn];have hln:=hl.at' hn;have htn:=ht _ (EO hn);refine .intro (by rw[ac]; omega) ?_;rw[ac];refine .intro (by omega) (X1 _ (pp rfl hn) ?_);refine .intro (by rw[ac]; omega) ?_;rw[ac];refine .intro (by omega) (X1 _ (bH rfl hn) ?_);refine X1 _ (pd Lc[h.length] h hln hh htn) ?_;have hal:CLim (after Lc[h.length] h):=hln.filter _;have hat:tot (after Lc[h.length] h)≤4611686018427387904:=Hl (de _ _) htn;have ob:=λk=>qC (EG (bJ Lc[h.length] 1) hln.len) (EG (bJ Lc[h.length] 2) hln.len) (EG (bJ Lc[h.length] 3) hln.len) (EG (bJ Lc[h.length] 4) hln.len) k
  have hg:=uj (0,1) _ _ _ (tysN (after Lc[h.length] h)) (totN (after Lc[h.length] h)) (au (after Lc[h.length] h) 1) (au (after Lc[h.length] h) 2) (au (after Lc[h.length] h) 3) (au (after Lc[h.length] h) 4) (ob 1) (ob 2) (ob 3) (by omega) (by have:=qD hal; omega) (mQ hat) (kI _);rw[←ul]at hg;refine X1 _ hg ?_;refine .intro rfl ?_;exact ⟨HJ,rc rfl,HJ⟩
end
section
abbrev xC (Lc:List (List Cnt)) (words:Int) (m:Nat):Ob:=.var [cK Lc,.sl 8 (ix Lc),eI .i64 words,.mp m]
abbrev xOs (Lc:List (List Cnt)) (words:Int) (ks:List Value) (vs:List (List PC)):Objs:=[(1000000,some (xC Lc words 1000001)),(1000001,some (.mp false ks vs))]
structure XOk (Lc:List (List Cnt)) (words:Int):Prop where
 lim:CCLim Lc
 tot:∀ l,l∈Lc→tot l≤4611686018427387904
 rises:∀ l,l∈Lc→dX l
 len0:1≤Lc.length
 len8:Lc.length≤8
 w3:3≤words
 w6:words≤65536
 key:∀ l,l∈Lc→∀ x,x∈l→du x.1=true
 num:∀ l,l∈Lc→∀ x,x∈l→0≤x.2∧x.2≤4611686018427387904
abbrev σx:List (Nat × Nat):=[(1000000,1000000),(1000001,1000001)]
section
variable {Lc:List (List Cnt)} {words:Int} {ks:List Value} {vs:List (List PC)}
theorem zE {O:Objs} (h1:O.get 1000000=some (xC Lc words 1000001)) (h2:O.get 1000001=some (.mp false ks vs)):SubO (xOs Lc words ks vs) O:=SubO.of (l:=[(1000000,xC Lc words 1000001),(1000001,.mp false ks vs)]) ⟨h1,h2,HJ⟩
theorem n6 (hx:XOk Lc words):CtO P 41 (xOs Lc words ks vs) [.c (.ad 1000000 0)] (xOs Lc words ks vs) [.c (nI .i64 Lc.length)]:=by
 refine Ct.io aj aa (N:=10) Tryz.func41 rfl rfl rfl rfl ?_;have:=hx.len8;refine .intro (by rw[aq]; omega) ?_;rw[aq];exact ⟨HJ,zE rfl rfl,r1 rfl,HJ⟩
theorem sC:CtO P 42 (xOs Lc words ks vs) [.c (.ad 1000000 0)] (xOs Lc words ks vs) [.c (eI .i64 words)]:=by
 refine Ct.io aj aa (N:=9) Tryz.func42 rfl rfl rfl rfl ?_;exact ⟨HJ,zE rfl rfl,r1 rfl,HJ⟩
end
end
section
theorem wt {a b:Int} {l m:List Int}:aH (a::l) (b::m)<0↔a<b∨(a=b∧aH l m<0):=by
 rw[aH];unfold bF
 (repeat' split)<;>omega
theorem ve:∀ (h:List Int) {x y:List Int},¬ aH x h<0→aH x y<0→h <+: y→h <+: x
 | [],x,y,_,_,_=>List.nil_prefix
 | a::h,[],y,h1,_,_=>absurd (show aH [] (a::h)<0 by simp[aH]) h1
 | a::h,b::x,[],_,_,hp=>by simp at hp
 | a::h,b::x,c::y,h1,h2,hp=>by
  rw[List.cons_prefix_cons]at hp ⊢;obtain ⟨rfl,hp⟩:=hp;rw[wt]at h1 h2;have e:a=b:=by omega
  subst e;exact ⟨rfl,ve h (λhh=>h1 (.inr ⟨rfl,hh⟩)) (by omega) hp⟩
theorem zF:∀ (h:List Int) (v:Int),aH (h++[v]) h>0
 | [],v=>by simp[aH]
 | a::h,v=>by
  have:=zF h v;show aH (a::(h++[v])) (a::h)>0
  unfold aH;rw[if_neg (by rw[pj]; simp)];exact this
theorem preB_iff {h:List Int} {x:Cnt}:eQ h x=true↔h <+: x.1:=by
 unfold eQ;rw[ED,decide_eq_true_eq,decide_eq_true_eq,List.prefix_iff_eq_take];constructor
 ·exact λ⟨_,h2⟩=>h2.symm
 ·exact λh1=>⟨by have:=congrArg List.length h1; rw[EQ]at this; omega,h1.symm⟩
theorem n7 {h:List Int} {x:Cnt}:cG h x=(eQ h x&&lr h x):=by
 unfold cG eQ lr;by_cases h1:x.1.length=h.length+1
 ·rw[decide_eq_true h1,decide_eq_true (by omega:h.length≤x.1.length)]; simp
 ·rw[decide_eq_false h1]; simp
theorem wu {h:List Int} {x:Cnt} (hx:cG h x=true):aH x.1 h>0:=by
 unfold cG at hx;rw[ED,decide_eq_true_eq,decide_eq_true_eq]at hx;obtain ⟨h1,h2⟩:=hx;have h3:x.1.drop h.length≠[]:=by intro e; have:=congrArg List.length e; simp at this; omega
 obtain ⟨v,t,ht⟩:=List.exists_cons_of_ne_nil h3;have h4:x.1=h++[v]:=by
  have e:=GN h.length x.1;rw[h2,ht]at e;have:t=[]:=by
   have:=congrArg List.length e;simp at this;exact List.eq_nil_of_length_eq_zero (by omega)
  rw[this]at e;exact e.symm
 rw[h4];exact zF h v
theorem sD (h:List Int):∀ (M:List Cnt),dX M→(∀ x,x∈M→aH x.1 h>0)→mo M h=after M h
 | [],_,_=>rfl
 | x::M,hr,hg=>by
  obtain ⟨hx,hr'⟩:=Gd.1 hr;unfold mo after
  cases hp:eQ h x with
  | true=>
   rw[GP hp,Hd,Hd,n7,hp,Hg];have:=sD h M hr' λy hy=>hg y (E3 _ hy)
   unfold mo after at this;rw[this]
  | false=>
   rw[List.takeWhile_cons_of_neg (by rw[hp]; simp)]
   symm
   rw[List.filter_nil,List.filter_eq_nil_iff];intro y hy ha;rw[n7,ED]at ha;have hpy:=preB_iff.1 ha.1;rcases Fg.1 hy with rfl | hy
   ·rw[ha.1]at hp; cases hp
   ·have:=preB_iff.2 (ve h (by have:=hg x (by simp); omega) (hx y hy) hpy);rw[this]at hp; cases hp
theorem n8 (h:List Int):∀ (l:List Cnt),dX l→∃ k,k≤l.length∧(∀ (i:Nat) (hi:i<l.length),i<k→¬ aH l[i].1 h>0)∧(∀ (i:Nat) (hi:i<l.length),k≤i→aH l[i].1 h>0)∧mo (l.drop k) h=after l h
 | [],_=>⟨0,by simp,λi hi=>by simp at hi,λi hi=>by simp at hi,rfl⟩
 | x::l,hr=>by
  obtain ⟨hx,hr'⟩:=Gd.1 hr;by_cases hg:aH x.1 h>0
  ·have hall:∀ y,y∈x::l→aH y.1 h>0:=λy hy=>by
    rcases Fg.1 hy with rfl | hy
    ·exact hg
    ·have a1:=hx y hy;have a2:=eR x.1 h;have:=df (a:=h) (b:=x.1) (c:=y.1) (by omega) a1;have a3:=eR h y.1;omega
   exact ⟨0,by simp,λi _ h=>by omega,λi hi _=>hall _ (EO hi),sD h (x::l) hr hall⟩
  ·obtain ⟨k,h0,h1,h2,h3⟩:=n8 h l hr';refine ⟨k+1,by simp; omega,λi hi hik=>?_,λi hi hik=>?_,?_⟩
   ·cases i with
    | zero=>exact hg
    | succ i=>exact h1 i (by simpa using hi) (by omega)
   ·cases i with
    | zero=>omega
    | succ i=>exact h2 i (by simpa using hi) (by omega)
   ·rw[List.drop_succ_cons,h3];unfold after;rw[Fh];intro ha;exact hg (wu ha)
theorem pq (l:List Cnt) (h:List Int) (hl:CLim l) (hr:dX l) (hh:h.length≤1000000) (ht:tot l≤4611686018427387904):Ct P 183 [.c (cSl l),.c (iSl h)] [c7 (tysN (after l h)) (totN (after l h)) (au (after l h) 1) (au (after l h) 2) (au (after l h) 3) (au (after l h) 4)]:=by
 obtain ⟨k,h0,h1,h2,h3⟩:=n8 h l hr;have:=yT l h k hl hh h0 h1 h2 ht;rwa [h3,vd]at this
theorem ww {v w:Int} (hv:0≤v∧v<16777216) (hw:0≤w∧w<16777216) (h1:UInt8.ofNat (v.toNat/65536)=UInt8.ofNat (w.toNat/65536)) (h2:UInt8.ofNat (v.toNat/256)=UInt8.ofNat (w.toNat/256)) (h3:UInt8.ofNat v.toNat=UInt8.ofNat w.toNat):v=w:=by
 have g:∀ {a b:Nat},UInt8.ofNat a=UInt8.ofNat b→a%256=b%256:=λ{a b} h=>by
  have:=congrArg UInt8.toNat h;simpa using this
 have g1:=g h1;have g2:=g h2;have g3:=g h3;omega
theorem zG:∀ {g h:List Int},du g=true→du h=true→kU g=kU h→g=h
 | [],[],_,_,_=>rfl
 | [],b::h,_,_,e=>by simp[kU]at e
 | a::g,[],_,_,e=>by simp[kU]at e
 | a::g,b::h,hg,hh,e=>by
  unfold du at hg hh;rw[List.all_cons,ED]at hg hh;have e':UInt8.ofNat (a.toNat/65536)::UInt8.ofNat (a.toNat/256)::UInt8.ofNat a.toNat::kU g=UInt8.ofNat (b.toNat/65536)::UInt8.ofNat (b.toNat/256)::UInt8.ofNat b.toNat::kU h:=e;injection e' with e1 e';injection e' with e2 e';injection e' with e3 e';have ha:=hg.1;have hb:=hh.1;rw[ED,decide_eq_true_eq,decide_eq_true_eq]at ha hb;rw[ww ha hb e1 e2 e3,zG (g:=g) (h:=h) hg.2 hh.2 e']
theorem sF {g h:List Int} (hg:du g=true) (hh:du h=true) (e:qh g=qh h):g=h:=by
 have:(kU g).toArray=(kU h).toArray:=congrArg ByteArray.data e;exact zG hg hh (by simpa using this)
theorem lz (key:ByteArray):∀ (ks:List Value) (i:Nat),(∀ k,k∈ks→∃ b,k = .string b)→∃ r,gY .string (.string key) ks i=some r∧∀ j,r=some j→i≤j∧ks[j-i]? = some (.string key)
 | [],i,_=>⟨none,rfl,λj h=>by cases h⟩
 | k::ks,i,hk=>by
  obtain ⟨b,rfl⟩:=hk k (by simp);simp only[gY,Instr.sameNow];by_cases h:key=b
  ·subst h;refine ⟨some i,by rw[(iI key key).2 rfl],λj hj=>?_⟩;cases hj;exact ⟨EE _,by simp⟩
  ·have hb:(key==b)=false:=by
    cases hb:key==b with
    | false=>rfl
    | true=>exact absurd ((iI _ _).1 hb) h
   rw[hb];obtain ⟨r,h1,h2⟩:=lz key ks (i+1) λk hk'=>hk k (E3 _ hk')
   refine ⟨r,h1,λj hj=>?_⟩;obtain ⟨g1,g2⟩:=h2 j hj;refine ⟨by omega,?_⟩;rw[show j-i=(j-(i+1))+1 by omega];simpa using g2
end
section
abbrev um (Lc:List (List Cnt)) (h:List Int):List PC:=nI .i64 (totN (after (Lc.getD h.length []) h))::(qP (fI Lc h)).cells
abbrev lA (Lc:List (List Cnt)) (h:List Int):PC:=.rd (um Lc h)
structure MOk (Lc:List (List Cnt)) (ks:List Value) (vs:List (List PC)):Prop where
 len:ks.length=vs.length
 at':∀ (i:Nat) k,ks[i]? = some k→∃ h,du h=true∧k = .string (qh h)∧vs[i]? = some [lA Lc h]
theorem MOk.nil {Lc:List (List Cnt)}:MOk Lc [] []:=⟨rfl,λi k h=>by simp at h⟩
theorem MOk.str {Lc:List (List Cnt)} {ks:List Value} {vs:List (List PC)} (hm:MOk Lc ks vs) (k:Value) (hk:k∈ks):∃ b,k = .string b:=by
 obtain ⟨i,hi⟩:=Gy.1 hk;obtain ⟨h,_,h1,_⟩:=hm.at' i k hi;exact ⟨_,h1⟩
theorem sG {l:List Cnt} {h:List Int} (hk:∀ x,x∈l→du x.1=true) (hn:¬ du h=true):after l h=[]:=by
 unfold after;rw[List.filter_eq_nil_iff];intro x hx ha;unfold cG at ha;rw[ED,decide_eq_true_eq,decide_eq_true_eq]at ha;apply hn;have:=hk x hx;unfold du at this ⊢;rw[Fz]at this ⊢;intro v hv;rw[←ha.2]at hv;exact this v (F6 hv)
section
variable {Lc:List (List Cnt)} {words:Int} {ks:List Value} {vs:List (List PC)}
theorem n9 (hx:XOk Lc words) {h:List Int} (hh:h.length<Lc.length) (hn:¬ du h=true):um Lc h=nI .i64 0::(qP (1,1)).cells:=by
 have e:Lc.getD h.length []=Lc[h.length]:=by simp[EB,hh]
 have ha:=sG (hx.key _ (EO hh)) hn;unfold um fI;rw[dif_pos hh,e,ha];rfl
theorem vf (hx:XOk Lc words) (h:List Int) (hh:h.length<Lc.length):Ct P 184 [zC Lc[h.length],c7 (tysN (after Lc[h.length] h)) (totN (after Lc[h.length] h)) (au (after Lc[h.length] h) 1) (au (after Lc[h.length] h) 2) (au (after Lc[h.length] h) 3) (au (after Lc[h.length] h) 4)] [qP (fI Lc h)]:=by
 have hln:=hx.lim.at' hh;have htn:=hx.tot _ (EO hh);have hal:CLim (after Lc[h.length] h):=hln.filter _;have hat:tot (after Lc[h.length] h)≤4611686018427387904:=Hl (de _ _) htn;have m:=λk=>EG (bJ Lc[h.length] k) hln.len
 have ob:=λk=>qC (m 1) (m 2) (m 3) (m 4) k
 have rn:=λk h1 h3=>vb (m 1) (m 2) (m 3) (m 4) k h1 h3
 have h8:=hx.len8;have hg:=wo (0,0) _ _ _ (tysN (after Lc[h.length] h)) (totN (after Lc[h.length] h)) (au (after Lc[h.length] h) 1) (au (after Lc[h.length] h) 2) (au (after Lc[h.length] h) 3) (au (after Lc[h.length] h) 4) (k:=500) (by rw[rn 1 (by omega) (by omega)]; exact ob 1) (by rw[rn 2 (by omega) (by omega)]; exact ob 2) (by rw[rn 3 (by omega) (by omega)]; exact ob 3) (by omega) (by have:=qD hal; omega) (mQ hat) (kI _);rw[rn 1 (by omega) (by omega),rn 2 (by omega) (by omega),rn 3 (by omega) (by omega)]at hg;unfold fI;rw[dif_pos hh];exact hg
theorem un (hx:XOk Lc words) (hm:MOk Lc ks vs) (h:List Int) (hh:h.length<Lc.length) :
  ∃ ks' vs',MOk Lc ks' vs'∧CtO P 159 (xOs Lc words ks vs) [.c (.ad 1000000 0),.c (iSl h)] (xOs Lc words ks' vs') [.c (lA Lc h)]:=by
 have h8:=hx.len8;have hln:=hx.lim.at' hh;have e:Lc.getD h.length []=Lc[h.length]:=by simp[EB,hh]
 by_cases hk:du h=true
 ·obtain ⟨r,f1,f2⟩:=lz (qh h) ks 0 hm.str;have hkey:=mE h (by omega);rw[if_pos hk,if_pos hk]at hkey
  cases r with
  | some j=>
   obtain ⟨_,f3⟩:=f2 j rfl;rw[Gv]at f3;obtain ⟨h',g1,g2,g3⟩:=hm.at' j _ f3;have e':h=h':=sF hk g1 (by injection g2);subst e';refine ⟨ks,vs,hm,?_⟩;refine Ct.io aj aa (N:=63) Tryz.func159 rfl rfl rfl rfl ?_;refine X1 _ hkey ?_;refine ⟨some j,.c (lA Lc h),f1,⟨_,g3,rfl⟩,?_⟩;exact ⟨HJ,zE rfl rfl,r1 rfl,HJ⟩
  | none=>
   refine ⟨ks++[.string (qh h)],vs++[[lA Lc h]],?_,?_⟩
   ·refine ⟨by simp[hm.len],λi k hi=>?_⟩;have hlen:∀ i k,ks[i]? = some k→i<vs.length:=λi k hi=>by
     obtain ⟨_,_,_,g3⟩:=hm.at' i k hi;exact (EF.1 g3).1
    rcases FY i ks.length with hlt | heq | hgt
    ·rw[EK hlt]at hi;rw[EK (hlen i k hi)];exact hm.at' i k hi
    ·subst heq;rw[EJ (EE _),G1]at hi;cases hi;refine ⟨h,hk,rfl,?_⟩;rw[EJ (Nat.le_of_eq hm.len.symm),hm.len,G1];rfl
    ·rw[EZ (by simp; omega)]at hi; cases hi
   ·refine Ct.io aj aa (N:=63) Tryz.func159 rfl rfl rfl rfl ?_;refine X1 _ hkey ?_;refine ⟨none,.c (.sc (.pointer none)),f1,rfl,?_⟩;refine .intro (by rw[ac]; omega) ?_;rw[ac];refine .intro (by omega) (X1 _ (bH rfl hh) ?_);refine X1 _ (pq Lc[h.length] h hln (hx.rises _ (EO hh)) (by omega) (hx.tot _ (EO hh))) ?_;refine .intro (by rw[ac]; omega) ?_;rw[ac];refine .intro (by omega) (X1 _ (gk rfl hh) ?_);refine X1 _ (vf hx h hh) ?_;refine .intro rfl ?_;refine ⟨[55],none,f1,rfl,?_⟩;have hc:um Lc h=nI .i64 (totN (after Lc[h.length] h))::(qP (fI Lc h)).cells:=by unfold um; rw[e]
    unfold lA;rw[hc];exact ⟨HJ,zE rfl rfl,r1 rfl,HJ⟩
 ·refine ⟨ks,vs,hm,?_⟩;have hkey:=mE h (by omega);rw[if_neg hk,if_neg hk]at hkey;refine Ct.keep aj aa [20] (N:=63) Tryz.func159 rfl rfl rfl rfl ?_;refine X1 _ hkey ?_;refine X1 _ (bI 1 (by omega)) ?_;unfold lA;rw[n9 hx hh hk];exact ⟨HJ,zE rfl rfl,r1 rfl,HJ⟩
end
end
section
theorem lB (l:List Int) (hl:l.length≤1000000):CtO P 46 [] [.c (iSl l)] [(5,some (.row 1 (aF l)))] [.c (.ow 5 1 l.length)]:=by
 refine Ct.keepI aj [] (N:=8) Tryz.func46 rfl rfl rfl rfl ?_;refine ej aj aa ?_;refine oK ?_;refine ej aj aa ?_;intro b hb;refine sd (b:=b) rfl (λe=>?_) (λe=>?_)
 ·subst e;have:l=[]:=Fa.1 (by have:=hb rfl; rwa [ac]at this);subst this;refine ej aj aa ?_;refine ie (r:=5) (t:=2) (sz:=1) rfl rfl ?_;exact DS ⟨HJ,SubO.of (l:=[(5,.row 1 [])]) ⟨rfl,HJ⟩,r1 rfl,HJ⟩
 ·subst e;refine se ?_;refine dG aj aa ?_;refine ⟨rfl,by rw[ac]; show (0+l.length+768)*8≤_; omega,by rw[ac]; show 0+l.length≤_; omega,bM,aV,?_⟩;exact ⟨HJ,SubO.of (l:=[(5,.row 1 (aF l))]) ⟨rfl,HJ⟩,r1 (owE (by show (aF l).length=_; rw[ac])),HJ⟩
abbrev zH (Lc:List (List Cnt)) (words:Int) (ks:List Value) (vs:List (List PC)) (els:List (List PC)):Objs:=[(1000000,some (xC Lc words 1000001)),(1000001,some (.mp false ks vs)),(1000002,some (.row 1 els))]
section
variable {Lc:List (List Cnt)} {words:Int} {ks:List Value} {vs:List (List PC)}
theorem sH {els:List (List PC)} {O:Objs} (h1:O.get 1000000=some (xC Lc words 1000001)) (h2:O.get 1000001=some (.mp false ks vs)) (h3:O.get 1000002=some (.row 1 els)):SubO (zH Lc words ks vs els) O:=SubO.of (l:=[(1000000,xC Lc words 1000001),(1000001,.mp false ks vs),(1000002,.row 1 els)]) ⟨h1,h2,h3,HJ⟩
theorem uo (hx:XOk Lc words) (g:List Int) (els:List (List PC)) (he:els=aF g) (m:Nat) (hm:m=g.length) (h1:1≤g.length) (hg:g.length≤Lc.length):CtO P 160 (zH Lc words ks vs els) [.c (.ad 1000000 0),.c (.ow 1000002 1 m)] (zH Lc words ks vs els) [.c (eI .i64 (bK Lc g))]:=by
 subst he;refine Ct.io aj aa (N:=41) Tryz.func160 rfl rfl rfl rfl ?_;have h8:=hx.len8;refine .intro (by omega) ?_;refine ah (λh0=>?_) (λh0=>?_)
 ·exfalso; omega
 refine X2 (.own σx σx) ?_;refine ⟨_,_,n6 hx,?_⟩;refine ah (λh1=>?_) (λh1=>?_)
 ·exfalso; omega
 have hn:g.length-1<Lc.length:=by omega
 have hgd:Lc.getD (g.length-1) []=Lc[g.length-1]:=by simp[EB,hn]
 have hnum:bK Lc g=if cq g Lc[g.length-1]<0 then 0 else (Lc[g.length-1].getD (cq g Lc[g.length-1]).toNat ([],0)).2:=by
  rw[bK,if_neg (by omega),hgd]
 rw[hnum];have hl:=hx.lim.at' hn;have hr:=hx.rises _ (EO hn);have hget:=bH (l:=Lc) (i:=((g.length-1:Nat):Int)) (n:=g.length-1) rfl hn;generalize Lc[g.length-1]=l at *
 have hf:=mP g l;refine X1 ((g.length-1:Nat):Int) (wI (by omega) (by omega) (by omega)) ?_;refine .intro (by omega) (X1 _ hget ?_);refine X2 .look (X1 _ (pk l g hl (by omega) hr) ?_);refine ah (λh2=>?_) (λh2=>?_)
 ·rw[if_pos h2];exact ⟨HJ,sH rfl rfl rfl,r1 rfl,HJ⟩
 ·rw[if_neg h2];have hk:(cq g l).toNat<l.length:=by omega
  refine X1 ((g.length-1:Nat):Int) (wI (by omega) (by omega) (by omega)) ?_;refine .intro (by omega) (X1 _ hget ?_);refine .intro (by omega) (X1 _ (bs (n:=(cq g l).toNat) (by omega) hk) ?_);exact ⟨HJ,sH rfl rfl rfl,r1 (iE (by simp[EB,hk])),HJ⟩
end
end
section
def be (L:List (List Int)) (n:Nat):List (List Int):=(L.map λp=>cv p n).flatten
theorem sI (L:List (List Int)) (p:List Int) (n:Nat):be (L++[p]) n=be L n++cv p n:=by simp[be]
theorem gL {k n:Nat}:∀ (L:List (List Int)),(∀ p,p∈L→p.length≤k)→(be L n).length≤L.length*k
 | [],_=>by simp[be]
 | p::L,h=>by
  have ih:=gL (n:=n) L λx hx=>h x (E3 _ hx)
  have h1:=h p (by simp);have h2:=mD p n p.length;have e:be (p::L) n=cv p n++be L n:=by simp[be]
  rw[e,EC,Fe,EU,Fn];unfold cv;omega
theorem wx (L:List (List Int)) (n:Nat) (h1:1≤n) (hn:n≤1000000) (hL:L.length≤600) (hp:∀ p,p∈L→p.length≤600):Ct P 138 [.c (mn L),.c (nI .i64 n)] [.c (mn (be L n))]:=by
 have hbd:∀ i,(be (L.take i) n).length≤360000:=λi=>by
  have h1:=gL (n:=n) (k:=600) (L.take i) λp h=>hp p (F6 h)
  have h2:(L.take i).length≤600:=by rw[EQ]; omega
  have h3:(L.take i).length*600≤600*600:=EL _ h2;omega
 refine Ct.go aj aa (N:=24) Tryz.func138 rfl rfl rfl rfl ?_;refine At (t:=5) (sz:=1) rfl ?_;refine qj (λi:Nat=>i≤L.length) (λi=>[(0,.c (mn L)),(1,.c (nI .i64 n)),(5,.c (mn (be (L.take i) n))),(6,.c (nI .i64 i))]) (λ_=>[]) (λi=>L.length-i)
  0 (by omega) ⟨rfl,rfl,rfl,rfl,HJ⟩ HJ (λ_:Unit=>True) (λ_=>[(5,.c (mn (be L n)))]) (λ_=>[]) (λi hi=>?_) (λ_ _=>?_)
 ·refine oK ?_;refine ej aj aa ?_;refine .intro (by rw[bm]; omega) ?_;rw[bm];refine sd (b:=decide ((i:Int)<(L.length:Int))) rfl (λe=>?_) (λe=>?_)
  ·have hi':i<L.length:=by have:=of_decide_eq_true e; omega
   have hget:=pc (L:=L) (i:=(i:Int)) (n:=i) rfl hi';have hs:L.take (i+1)=L.take i++[L[i]]:=EH hi';have hsn:be (L.take (i+1)) n=be (L.take i) n++cv L[i] n:=by rw[hs,sI]
   have hpl:=hp _ (EO hi');have hb1:=hbd i;have hb2:=hbd (i+1);rw[hsn,EC]at hb2;generalize L[i]=p at *
   generalize be (L.take i) n=E0 at *
   refine se ?_;refine oK ?_;refine jw ?_;refine dG aj aa ?_;refine ⟨rfl,by rw[bm]; show (0+E0.length+768)*24≤_; omega,by rw[bm]; show 0+E0.length≤_; omega,bM,ei,?_⟩;refine .intro (by omega) (X1 _ hget ?_);refine X1 _ (tZ p n h1 hn (by omega)) ?_;refine ⟨rfl,by rw[bm]; show ((dE E0).length+(cv p n).length+768)*24≤_; rw[bm]; omega,by rw[bm]; show (dE E0).length+(cv p n).length≤_; rw[bm]; omega,ei,ei,?_⟩;refine .intro rfl ?_;refine Bf [13] ?_;refine dG aj aa ?_;refine X1 ((i+1:Nat):Int) (wI1 (by omega)) ?_;refine ⟨i+1,by omega,by omega,⟨rfl,rfl,?_,rfl,HJ⟩,HJ⟩;have e2:dE (E0++cv p n)=dE E0++dE (cv p n):=by simp[dE]
   rw[hsn,show mn (E0++cv p n) = .sl 1 (dE E0++dE (cv p n)) from congrArg _ e2];rfl
  ·have e1:i=L.length:=by have:=of_decide_eq_false e; omega
   subst e1;rw[E7];exact dG aj aa ⟨(),HJ,⟨rfl,HJ⟩,HJ⟩
 ·exact dG aj aa ⟨HJ,r1 rfl,HJ⟩
theorem qE {x:Cnt}:∀ (l:List Cnt),(∀ z,z∈l→aH x.1 z.1<0)→pu x l true=l
 | [],_=>rfl
 | y::l,h=>by
  have h1:=h y (by simp);have h2:=eR x.1 y.1;rw[pu,if_neg (by simp),if_neg (by omega),Bool.true_or,Bool.true_or,qE l λz hz=>h z (E3 _ hz)];rfl
theorem C9 {x:Cnt}:∀ (l:List Cnt) (b:Bool),∀ y,y∈pu x l b→y.1=x.1∨∃ z,z∈l∧z.1=y.1
 | [],b,y,h=>by
  unfold pu at h;split at h
  ·simp at h
  ·simp at h; subst h; exact .inl rfl
 | z::l,b,y,h=>by
  rw[pu]at h;rcases Fl.1 h with h | h
  ·split at h
   ·simp at h; subst h; exact .inl rfl
   ·simp at h
  ·rcases Fg.1 h with h | h
   ·right;refine ⟨z,by simp,?_⟩;rw[h]; split<;>rfl
   ·rcases C9 l _ y h with h | ⟨w,h1,h2⟩
    ·exact .inl h
    ·exact .inr ⟨w,E3 _ h1,h2⟩
theorem D0 {x:Cnt} {c:Int} (hx:1≤x.2∧x.2≤1) (hc:0≤c):∀ (l:List Cnt) (b:Bool),(∀ z,z∈l→1≤z.2∧z.2≤c)→∀ y,y∈pu x l b→1≤y.2∧y.2≤c+1
 | [],b,_,y,h=>by
  unfold pu at h;split at h
  ·simp at h
  ·simp at h; subst h; omega
 | z::l,b,hl,y,h=>by
  rw[pu]at h;have hz:=hl z (by simp);rcases Fl.1 h with h | h
  ·split at h
   ·simp at h; subst h; omega
   ·simp at h
  ·rcases Fg.1 h with h | h
   ·rw[h]; split
    ·show 1≤z.2+x.2∧z.2+x.2≤c+1; omega
    ·omega
   ·exact D0 hx hc l _ (λw hw=>hl w (E3 _ hw)) y h
theorem zI {x:Cnt}:∀ (l:List Cnt) (b:Bool),(pu x l b).length≤l.length+(if b=true then 0 else 1)
 | [],b=>by unfold pu; split<;>simp
 | z::l,b=>by
  rw[pu,EC,Fe,Fe];have ih:=zI (x:=x) l (b||decide (aH z.1 x.1>0)||decide (aH z.1 x.1=0));by_cases hb:b=true
  ·subst hb;simp at ih ⊢;omega
  ·have hb':b=false:=by simpa using hb
   subst hb';by_cases hg:aH z.1 x.1>0
   ·simp[hg]at ih ⊢;omega
   ·simp[hg]at ih ⊢;split at ih<;>omega
theorem sJ {x:Cnt}:∀ (l:List Cnt),dX l→dX (pu x l false)
 | [],_=>by simp[pu,dX]
 | y::l,hr=>by
  obtain ⟨hy,hr'⟩:=Gd.1 hr;have hneg:=eR x.1 y.1;rw[pu];by_cases hg:aH y.1 x.1>0
  ·have hall:∀ z,z∈l→aH x.1 z.1<0:=λz hz=>df (by omega) (hy z hz)
   rw[if_pos ⟨hg,rfl⟩,if_neg (by omega),decide_eq_true hg,Bool.false_or,Bool.true_or,qE l hall];refine Gd.2 ⟨λz hz=>?_,hr⟩;rcases Fg.1 hz with rfl | hz
   ·omega
   ·exact hall z hz
  ·rw[if_neg (λh=>hg h.1),decide_eq_false hg,G5];by_cases h0:aH y.1 x.1=0
   ·have e:=lw h0;have hall:∀ z,z∈l→aH x.1 z.1<0:=λz hz=>by rw[←e]; exact hy z hz
    rw[if_pos h0,decide_eq_true h0,Bool.or_true,qE l hall];exact Gd.2 ⟨λz hz=>hy z hz,hr'⟩
   ·rw[if_neg h0,decide_eq_false h0,HD,HD];refine Gd.2 ⟨λz hz=>?_,sJ l hr'⟩;rcases C9 l false z hz with h | ⟨w,h1,h2⟩
    ·rw[h]; omega
    ·rw[←h2]; exact hy w h1
def gl (G:List (List Int)):List Cnt:=G.foldl (λl g=>mf l (g,1)) []
theorem pr (G:List (List Int)) (g:List Int):gl (G++[g])=mf (gl G) (g,1):=by simp[gl,GS]
structure GOk (G:List (List Int)) (l:List Cnt):Prop where
 len:l.length≤G.length
 g:∀ y,y∈l→y.1∈G
 n:∀ y,y∈l→1≤y.2∧y.2≤(G.length:Int)
 rises:dX l
theorem mR:∀ (k:Nat) (G:List (List Int)),G.length=k→GOk G (gl G)
 | 0,G,h=>by
  have:G=[]:=Fa.1 h;subst this;exact ⟨by simp[gl],λy h=>by simp[gl]at h,λy h=>by simp[gl]at h,by simp[gl,dX]⟩
 | k+1,G,h=>by
  obtain ⟨G',g,rfl⟩:∃ G' g,G=G'++[g]:=⟨G.dropLast,G.getLast (by intro e; subst e; simp at h),(Gb _).symm⟩;have hk:G'.length=k:=by simpa using h
  obtain ⟨a1,a2,a3,a4⟩:=mR k G' hk;rw[pr];refine ⟨?_,λy hy=>?_,λy hy=>?_,sJ _ a4⟩
  ·have:=zI (x:=(g,1)) (gl G') false;unfold mf;simp at this ⊢; omega
  ·rcases C9 _ _ y hy with e | ⟨z,h1,h2⟩
   ·rw[e]; simp
   ·rw[←h2]; exact FQ _ (a2 z h1)
  ·have:=D0 (x:=(g,1)) (c:=(G'.length:Int)) ⟨by show (1:Int)≤1; omega,by show (1:Int)≤1; omega⟩ (by omega) (gl G') false a3 y hy;rw[EC];show 1≤y.2∧y.2≤((G'.length+1:Nat):Int)
   omega
theorem uq (L:List (List Int)) (n:Nat) (h1:1≤n) (hn:n≤1000000) (hL:L.length≤600) (hp:∀ p,p∈L→p.length≤600):Ct P 90 [.c (mn L),.c (nI .i64 n)] [.c (cSl (gl (be L n)))]:=by
 have hE:=wx L n h1 hn hL hp;have hlen:(be L n).length≤360000:=by
  have h2:=gL (n:=n) (k:=600) L hp;have h3:L.length*600≤600*600:=EL _ hL;omega
 have hg:∀ g,g∈be L n→g.length≤1000000:=λg h=>by
  unfold be at h;obtain ⟨l,hl,hgl⟩:=List.mem_flatten.1 h;obtain ⟨p,hpm,rfl⟩:=Fd.1 hl;have hpl:=hp p hpm;have key:∀ i,g∈grS p n i→g.length≤1000000:=by
   intro i
   induction i with
   | zero=>intro h; simp[grS]at h
   | succ i ih=>
    intro h;unfold grS at h;split at h
    ·rcases Fl.1 h with h | h
     ·exact ih h
     ·simp at h; subst h; rw[EQ]; omega
    ·exact ih h
  exact key _ hgl
 generalize be L n=G at *
 refine Ct.go aj aa (N:=25) Tryz.func90 rfl rfl rfl rfl ?_;refine X1 _ hE ?_;refine At (t:=5) (sz:=2) rfl ?_;refine aw aj aa (λi:Nat=>i≤G.length) (λi=>[(6,.c (mn G)),(5,.c (cSl (gl (G.take i)))),(7,.c (nI .i64 i))]) (λ_=>[]) (λi=>G.length-i)
  0 (by omega) ⟨rfl,rfl,rfl,HJ⟩ HJ (λ_:Unit=>True) (λ_=>[(5,.c (cSl (gl G)))]) (λ_=>[]) (λi hi=>?_) (λ_ _=>?_)
 ·refine .intro (by rw[bm]; omega) ?_;rw[bm];refine ah (λh2=>?_) (λh2=>?_)
  ·have hi':i<G.length:=by omega
   have hget:=pc (L:=G) (i:=(i:Int)) (n:=i) rfl hi';have hs:gl (G.take (i+1))=mf (gl (G.take i)) (G[i],1):=by rw[EH hi',pr]
   obtain ⟨a1,a2,a3,a4⟩:=mR _ (G.take i) rfl;have hgl:=hg _ (EO hi');have hti:(G.take i).length≤360000:=by rw[EQ]; omega
   generalize G[i]=g at *
   refine .intro (by omega) (X1 _ hget ?_);refine X1 _ (yL (gl (G.take i)) (g,1) ⟨by omega,λy hy=>hg _ (F6 (a2 y hy))⟩ hgl (λy hy=>by have:=a3 y hy; omega) ⟨by show (0:Int)≤1; omega,by show (1:Int)≤_; omega⟩) ?_;refine X1 ((i+1:Nat):Int) (wI1 (by omega)) ?_;exact ⟨i+1,by omega,by omega,⟨rfl,by rw[hs]; rfl,rfl,HJ⟩,HJ⟩
  ·have e:i=G.length:=by omega
   subst e;rw[E7];exact ⟨(),HJ,⟨rfl,HJ⟩,HJ⟩
 ·exact ⟨HJ,r1 rfl,HJ⟩
def ck (L:List (List Int)) (m:Nat):List (List Cnt):=(List.range m).map λk=>gl (be L (k+1))
theorem oL (L:List (List Int)) (m:Nat):ck L (m+1)=ck L m++[gl (be L (m+1))]:=by simp[ck,List.range_succ]
theorem cn (L:List (List Int)) (m:Nat):(ck L m).length=m:=by simp[ck]
theorem sK (L:List (List Int)) (m:Nat) (hm:m≤1000) (hL:L.length≤600) (hp:∀ p,p∈L→p.length≤600):Ct P 38 [.c (mn L),.c (nI .i64 m)] [.c (cK (ck L m))]:=by
 refine Ct.go aj aa (N:=19) Tryz.func38 rfl rfl rfl rfl ?_;refine ie (r:=34) (t:=5) (sz:=1) rfl rfl ?_;refine aw aj aa (λi:Nat=>i≤m) (λi=>[(0,.c (mn L)),(1,.c (nI .i64 m)),(5,.c (.ow 34 1 i)),(6,.c (eI .i64 ((i:Int)+1)))]) (λi=>[(34,.row 1 (a8 (ck L i)))]) (λi=>m-i)
  0 (by omega) ⟨rfl,rfl,rfl,rfl,HJ⟩ ⟨rfl,HJ⟩ (λ_:Unit=>True) (λ_=>[(5,.c (.ow 34 1 m))]) (λ_=>[(34,.row 1 (a8 (ck L m)))]) (λi hi=>?_) (λ_ _=>?_)
 ·refine ah (λh1=>?_) (λh1=>?_)
  ·have h2:(i:Int)+1≤(m:Int):=h1;have hc:=uq L (i+1) (by omega) (by omega) hL hp;have hcl:ax (a8 (ck L i)):=λel h=>by
    obtain ⟨x,_,rfl⟩:=Fd.1 h;rfl
   have hsn:a8 (ck L (i+1))=a8 (ck L i)++[[cSl (gl (be L (i+1)))]]:=by rw[oL]; simp[a8]
   refine X1 _ hc ?_;refine ⟨by rw[aq,cn],by rw[aq,cn]; show (i+1+768)*24≤_; omega,by rw[aq,cn]; show i+1≤_; omega,hcl,ar rfl,?_⟩;refine X1 (((i+1:Nat):Int)+1) (wI (by simp) (by omega) (by omega)) ?_;exact ⟨i+1,by omega,by omega,⟨rfl,rfl,owE (by rw[EC,aq,cn]; rfl),rfl,HJ⟩,⟨aB (by rw[hsn]; rfl),HJ⟩⟩
  ·have h2:¬ (i:Int)+1≤(m:Int):=h1;have e:i=m:=by omega
   subst e;exact ⟨(),HJ,⟨rfl,HJ⟩,⟨rfl,HJ⟩⟩
 ·exact ⟨HJ,r1 rfl,HJ⟩
theorem qF {B:Nat} (hB:2≤B):∀ (i n:Nat),(dg B n).getD i 0=n/B^i%B
 | i,n=>by
  by_cases h0:n=0
  ·subst h0; rw[a9]; simp
  ·rw[fW hB h0]
   cases i with
   | zero=>simp
   | succ i=>
    rw[List.getD_cons_succ,qF hB i (n/B),Gh,Fk,EV B]
theorem wy (n i:Nat):(n/18446744073709551616^(i/8)%18446744073709551616)/2^(8*(i%8))%256=n/256^i%256:=by
 have hr:i%8<8:=FE _ (by omega);have e1:(18446744073709551616:Nat)=2^(8*(i%8))*(256*256^(7-i%8)):=by
  have:(2:Nat)^(8*(i%8))=256^(i%8):=by rw[GY]
  rw[this,←ES,←Fk,←Fy];have:i%8+1+(7-i%8)=8:=by omega
  rw[this]
 have e2:(18446744073709551616:Nat)^(i/8)=256^(8*(i/8)):=by rw[GY]
 rw[e2];generalize hm:n/256^(8*(i/8))=m;have e3:m%18446744073709551616/2^(8*(i%8))=m/2^(8*(i%8))%(256*256^(7-i%8)):=by
  conv=>lhs; rw[e1]
  exact Nat.mod_mul_right_div_self _ _ _
 rw[e3,Nat.mod_mod_of_dvd _ (GU _ _),←hm,Gh];congr 2;have:(2:Nat)^(8*(i%8))=256^(i%8):=by rw[GY]
 rw[this,←Fy];congr 1;omega
theorem zJ (n:Nat):(blen n+7)/8=(dg 256 n).length:=by
 have h1:(dg 256 n).length≤(blen n+7)/8:=by
  refine bQ (by omega) (EM (eH n) ?_);rw[show (256:Nat)=2^8 by rfl,←GY];exact ER (by omega) (by omega)
 have h2:blen n≤8*(dg 256 n).length:=by
  apply gJ;rw[GY];exact bj (by omega) n
 omega
def bN (l:List Nat):List (List PC):=l.reverse.map λb:Nat=>[.sc (.int .u8 (b:Int))]
theorem BG (x:Nat) (l:List Nat):bN (x::l)=bN l++[[.sc (.int .u8 (x:Int))]]:=by simp[bN]
theorem iy (l:List Nat):(bN l).length=l.length:=by simp[bN]
theorem wz (l:List Nat):ax (bN l):=by
 intro el h;obtain ⟨x,_,rfl⟩:=Fd.1 h;rfl
theorem wA (n:Nat) (hn:(dg 256 n).length≤1000000):Ct P 124 [.c (dV n)] [.c (.sl 1 (bN (dg 256 n)))]:=by
 have hd:=br (B:=256) (by omega) n;show Ct P 124 [.c (nSl .i64 (dg 256 n))] [.c (.sl 1 (bN (dg 256 n)))]
 generalize dg 256 n=l at *
 refine Ct.go aj aa (N:=21) Tryz.func124 rfl rfl rfl rfl ?_;refine .intro (by rw[ai]; omega) ?_;rw[ai];refine X1 ((l.length:Int)-1) (wI rfl (by omega) (by omega)) ?_;refine ie (r:=25) (t:=3) (sz:=1) rfl rfl ?_;refine aw aj aa (λj:Nat=>j≤l.length) (λj=>[(0,.c (nSl .i64 l)),(3,.c (.ow 25 1 (l.length-j))),(4,.c (eI .i64 ((j:Int)-1)))]) (λj=>[(25,.row 1 (bN (l.drop j)))]) (λj=>j)
  l.length (by omega) ⟨rfl,owE (by omega),rfl,HJ⟩ ⟨aB (by simp[bN]),HJ⟩ (λ_:Unit=>True) (λ_=>[(3,.c (.ow 25 1 l.length))]) (λ_=>[(25,.row 1 (bN l))]) (λj hj=>?_) (λ_ _=>?_)
 ·refine ah (λh1=>?_) (λh1=>?_)
  ·have h2:(0:Int)≤(j:Int)-1:=h1;obtain ⟨i,rfl⟩:∃ i,j=i+1:=⟨j-1,by omega⟩;have hi:i<l.length:=by omega
   have hx:l.getD i 0<256:=hd.getD (by omega) i;have hdrop:l.drop i=l.getD i 0::l.drop (i+1):=by rw[E8 hi]; simp[EB,hi]
   refine .intro (by omega) (X1 _ (al (n:=i) (by omega) hi) ?_);refine X1 (l.getD i 0:Int) (aY ⟨by show (0:Int)≤_; omega,by show _≤(255:Int); omega⟩) ?_;refine ⟨by rw[iy,Ff],by rw[iy,Ff]; show (l.length-(i+1)+1+768)*1≤_; omega,by rw[iy,Ff]; show l.length-(i+1)+1≤_; omega,wz _,ar rfl,?_⟩;refine X1 ((i:Int)-1) (wI (by omega) (by omega) (by omega)) ?_;refine ⟨i,by omega,by omega,⟨rfl,owE (by rw[EC,iy,Ff]; show l.length-(i+1)+1=_; omega),rfl,HJ⟩,⟨aB (by rw[hdrop,BG]; rfl),HJ⟩⟩
  ·have h2:¬ (0:Int)≤(j:Int)-1:=h1;have e:j=0:=by omega
   subst e;exact ⟨(),HJ,⟨rfl,HJ⟩,⟨rfl,HJ⟩⟩
 ·exact ⟨HJ,r1 rfl,HJ⟩
end
end Go.Proofs.YtgceikecdedfcaaGreat.Pv
