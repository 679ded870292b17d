/- Parts of a proof, joined: Hc Hi Hh Hl Hd Hj Hk Hm Hn Fy Fz Fx If. -/
import Derived.Test.YtgceikecdedfcaaGreatLpP
namespace Go.Proofs.YtgceikecdedfcaaGreat.Pv
open Go
section
def upF (a:Fr2):Nat:=if a.1/a.2*a.2<a.1 then a.1/a.2+1 else a.1/a.2
theorem oF {a:Fr2} (h:a.2≠0):a.1≤upF a*a.2∧upF a*a.2<a.1+a.2:=by
 have h1:=FF a.1 a.2;have h2:=Fz a.1 (E5 h);rw[EQ]at h1;unfold upF;split
 ·rw[EO,Fh]; omega
 ·omega
theorem Dl {n d:Nat} (h:d≠0):upF (fR n d)=upF (n,d):=by
 have hg:Nat.gcd n d≠0:=λe=>h (Gn e)
 obtain ⟨a,ha⟩:=G7 n d;obtain ⟨b,hb⟩:=Gw n d;unfold fR;generalize Nat.gcd n d=g at *
 subst ha hb;unfold upF;have hp:=E5 hg;simp only;rw[FY _ hp,FY _ hp,Nat.mul_div_mul_left _ _ hp];have e:a/b*(g*b)=g*(a/b*b):=by rw[Fu]
 rw[e];by_cases hc:a/b*b<a
 ·rw[if_pos hc,if_pos (Nat.mul_lt_mul_of_pos_left hc hp)]
 ·rw[if_neg hc,if_neg (by
   have:=Fp g (FD hc);omega)]
theorem D1 {c n d:Nat} (h:d≠0):c*(fR n d).2≤(fR n d).1↔c*d≤n:=by
 have hg:Nat.gcd n d≠0:=λe=>h (Gn e)
 obtain ⟨a,ha⟩:=G7 n d;obtain ⟨b,hb⟩:=Gw n d;unfold fR;generalize Nat.gcd n d=g at *
 subst ha hb;have hp:=E5 hg;simp only;rw[FY _ hp,FY _ hp,Fu];exact ⟨λh=>Fp g h,λh=>Nat.le_of_mul_le_mul_left h hp⟩
def jP (p:Fr2 × Fr2):Fr2:=bH p.1 p.2
def vK (p:Fr2 × Fr2) (k:Nat):Nat:=upF (p.1.1*2^k,p.1.2)
def good (p:Fr2 × Fr2) (k:Nat):Bool:=decide ((vK p k+1)*(jP p).2≤(jP p).1*2^k)
structure IsCode (p:Fr2 × Fr2) (k:Nat):Prop where
 good:good p k=true
 least:∀ j,j<k→Pv.good p j=false
theorem zV {p:Fr2 × Fr2}:∀ {K:Nat},good p K=true→∃ k,k≤K∧IsCode p k:=by
 intro K
 induction K using Nat.strongRecOn with
 | ind K ih=>
  intro h;by_cases hl:∃ j,j<K∧good p j=true
  ·obtain ⟨j,h1,h2⟩:=hl;obtain ⟨k,a1,a2⟩:=ih j h1 h2;exact ⟨k,by omega,a2⟩
  ·exact ⟨K,Ew _,h,λj hj=>by
    cases hb:good p j with
    | false=>rfl
    | true=>exact absurd ⟨j,hj,hb⟩ hl⟩
theorem IsCode.uniq {p:Fr2 × Fr2} {j k:Nat} (h1:IsCode p j) (h2:IsCode p k):j=k:=by
 rcases FP j k with h | h | h
 ·have:=h2.least j h; rw[h1.good]at this; cases this
 ·exact h
 ·have:=h1.least k h; rw[h2.good]at this; cases this
theorem gx (k:Nat):(0:Rat)<((2^k:Nat):Rat):=F6.2 (Fo k)
theorem BQ {p:Fr2 × Fr2} (h1:p.1.2≠0) (h2:p.2.2≠0) {k:Nat} (h:2≤((2^k:Nat):Rat)*qv p.2):good p k=true:=by
 have hs:=(oF (a:=(p.1.1*2^k,p.1.2)) h1).2;have he:=iH h1 h2;have hep:(jP p).2≠0:=gv h1 h2;unfold good;rw[decide_eq_true_eq];unfold vK;generalize upF (p.1.1*2^k,p.1.2)=v at *
 have b1:(0:Rat)<p.1.2:=F6.2 (E5 h1);have b2:(0:Rat)<(jP p).2:=F6.2 (E5 hep);have c1:=Rat.natCast_lt_natCast.2 hs;simp only[FA,Gd]at c1;have c2:(v:Rat)<qv p.1*((2^k:Nat):Rat)+1:=by
  have e:qv p.1*((2^k:Nat):Rat)+1=((p.1.1:Rat)*((2^k:Nat):Rat)+p.1.2)/p.1.2:=by unfold qv; grind
  rw[e,Rat.lt_div_iff b1];exact c1
 have c3:((v:Rat)+1)≤qv (jP p)*((2^k:Nat):Rat):=by
  show _≤qv (bH p.1 p.2)*_
  rw[he];grind
 apply F4.1;simp only[FA,Gd];have e:qv (jP p)*((2^k:Nat):Rat)=((jP p).1:Rat)*((2^k:Nat):Rat)/(jP p).2:=by unfold qv; grind
 rw[e,f7 b2]at c3;exact c3
theorem vk {p:Fr2 × Fr2} (h1:p.1.2≠0) (h2:p.2.2≠0) {k:Nat} (h:good p k=true):qv p.1≤(vK p k:Rat)/((2^k:Nat):Rat)∧((vK p k:Rat)+1)/((2^k:Nat):Rat)≤qv p.1+qv p.2:=by
 have hs:=(oF (a:=(p.1.1*2^k,p.1.2)) h1).1;have hep:(jP p).2≠0:=gv h1 h2;have b1:(0:Rat)<p.1.2:=F6.2 (E5 h1);have b2:(0:Rat)<(jP p).2:=F6.2 (E5 hep);have b3:=gx k;unfold good at h;rw[decide_eq_true_eq]at h;have c1:=F4.2 hs;have c2:=F4.2 h;simp only[FA,Gd]at c1 c2;constructor
 ·rw[f7 b3];have e:qv p.1*((2^k:Nat):Rat)=(p.1.1:Rat)*((2^k:Nat):Rat)/p.1.2:=by unfold qv; grind
  rw[e,kZ b1];exact c1
 ·rw[←iH h1 h2,kZ b3];show _≤qv (jP p)*_
  have e:qv (jP p)*((2^k:Nat):Rat)=((jP p).1:Rat)*((2^k:Nat):Rat)/(jP p).2:=by unfold qv; grind
  rw[e,f7 b2];exact c2
def dp:Nat→Nat→List Bool
 | _,0=>[]
 | v,k+1=>dp (v/2) k++[decide (v%2=1)]
def valB (l:List Bool):Nat:=l.foldl (λv b=>2*v+b.toNat) 0
theorem pS (l:List Bool) (b:Bool):valB (l++[b])=2*valB l+b.toNat:=by simp[valB,GL]
theorem jj:∀ (k v:Nat),(dp v k).length=k
 | 0,_=>rfl
 | k+1,v=>by simp[dp,jj k]
theorem pT:∀ (k v:Nat),v<2^k→valB (dp v k)=v
 | 0,v,h=>by
  have:v=0:=by simpa using h
  subst this; rfl
 | k+1,v,h=>by
  rw[Ff]at h;rw[dp,pS,pT k (v/2) (by omega)];by_cases hv:v%2=1
  ·rw[decide_eq_true hv]; show 2*(v/2)+1=v; omega
  ·rw[decide_eq_false hv]; show 2*(v/2)+0=v; omega
theorem mZ (l:List Bool):valB l<2^l.length:=by
 have key:∀ (l:List Bool) (a m:Nat),a<2^m→l.foldl (λv b=>2*v+b.toNat) a<2^(m+l.length):=by
  intro l
  induction l with
  | nil=>intro a m h; exact h
  | cons b l ih=>
   intro a m h;rw[List.foldl_cons,E7,show m+(l.length+1)=(m+1)+l.length by omega];refine ih _ (m+1) ?_;rw[Ff];cases b<;>simp only[Bool.toNat_true,Bool.toNat_false]<;>omega
 have:=key l 0 0 (by decide);rwa [Fn]at this
section
variable {Lc:List (List Cnt)} {n:Nat}
def bI (Lc:List (List Cnt)) (n:Int) (ids:List Int):Fr2 × Fr2:=fb Lc n ((0,1),(1,1)) [1] ids
theorem jk (hx:XOk Lc n) (ids:List Int):(bI Lc n ids).1.2≠0∧(bI Lc n ids).2.2≠0∧qv (bI Lc n ids).1=spA Lc n [1] ids∧qv (bI Lc n ids).2=spB Lc n [1] ids:=by
 obtain ⟨a1,a2,a3,a4⟩:=s9 hx ids [1] ((0,1),(1,1)) (by show (1:Nat)≠0; decide) (by show (1:Nat)≠0; decide);have e0:qv (0,1)=0:=by rw[dU]; rfl
 have e1:qv (1,1)=1:=by rw[dU]; rfl
 refine ⟨a1,a2,?_,?_⟩
 ·show qv (fb Lc n ((0,1),(1,1)) [1] ids).1=_
  rw[a3,e0,e1]; grind
 ·show qv (fb Lc n ((0,1),(1,1)) [1] ids).2=_
  rw[a4,e1]; grind
structure PlainW (n:Int) (ids:List Int):Prop where
 rg:InW n ids
 no2:∀ w,w∈ids→w≠2
theorem Dm (hx:XOk Lc n) (he:∀ l,l∈Lc→eU n l) {ids:List Int} (hp:PlainW n ids) (h2:2<n) {u:Fr2} (hu:u.2≠0) (h3:qv (bI Lc n (ids++[2])).1≤qv u) (h4:qv u<qv (bI Lc n (ids++[2])).1+qv (bI Lc n (ids++[2])).2) (f:Nat) :
  oR Lc n f [1] u=if ids.length<f then some ids else none:=by
 obtain ⟨_,_,a3,a4⟩:=jk hx (ids++[2]);rw[a3]at h3;rw[a3,a4]at h4;rw[ta hx he ids [1] u f hu hp.rg h2 hp.no2 h3 h4];rfl
def oS (l:List Bool):Fr2:=fR (valB l) (2^l.length)
theorem oG (l:List Bool):(oS l).2≠0∧qv (oS l)=(valB l:Rat)/((2^l.length:Nat):Rat):=by
 have h:2^l.length≠0:=Nat.pos_iff_ne_zero.1 (Fo _);exact ⟨ix h,pI h⟩
theorem D2 (hx:XOk Lc n) (he:∀ l,l∈Lc→eU n l) {r:List Int} (hr:InW n r) {k:Nat} (hg:good (bI Lc n r) k=true):vK (bI Lc n r) k<2^k:=by
 obtain ⟨a1,a2,a3,a4⟩:=jk hx r;have h1:=(vk a1 a2 hg).2;obtain ⟨_,_,i3⟩:=vj hx he r [1] hr;rw[a3,a4,kZ (gx k)]at h1;have h5:((vK (bI Lc n r) k+1:Nat):Rat)≤((2^k:Nat):Rat):=by
  rw[Gd,show ((1:Nat):Rat)=1 from rfl];have:=Rat.mul_le_mul_of_nonneg_right i3 (Rat.le_of_lt (gx k));grind
 have:=F4.1 h5;omega
theorem Dn (hx:XOk Lc n) (he:∀ l,l∈Lc→eU n l) {r:List Int} (hr:InW n r) {k:Nat} (hg:good (bI Lc n r) k=true) :
  qv (bI Lc n r).1≤qv (oS (dp (vK (bI Lc n r) k) k))∧qv (oS (dp (vK (bI Lc n r) k) k))<qv (bI Lc n r).1+qv (bI Lc n r).2:=by
 obtain ⟨a1,a2,_,_⟩:=jk hx r;obtain ⟨h1,h2⟩:=vk a1 a2 hg;rw[(oG _).2,pT k _ (D2 hx he hr hg),jj];refine ⟨h1,?_⟩;have h3:(vK (bI Lc n r) k:Rat)/((2^k:Nat):Rat)<((vK (bI Lc n r) k:Rat)+1)/((2^k:Nat):Rat):=by
  rw[G4 (gx k),Rat.div_mul_cancel (λe=>by have:=gx k; rw[e]at this; exact absurd this (by decide))];grind
 grind
theorem Es {ids:List Int} (h2:2<n) (hp:PlainW n ids):InW n (ids++[2]):=λx hx=>by
 rcases Fe.1 hx with hx | hx
 ·exact hp.rg x hx
 ·simp at hx; subst hx; omega
theorem zW (hx:XOk Lc n) (he:∀ l,l∈Lc→eU n l) {ids:List Int} (hp:PlainW n ids) (h2:2<n) {k:Nat} (hg:good (bI Lc n (ids++[2])) k=true) (f:Nat) :
  oR Lc n f [1] (oS (dp (vK (bI Lc n (ids++[2])) k) k))=if ids.length<f then some ids else none:=by
 obtain ⟨h3,h4⟩:=Dn hx he (Es h2 hp) hg;exact Dm hx he hp h2 (oG _).1 h3 h4 f
end
end
section
abbrev pA (p:Fr2 × Fr2):A1:=.ag [nSl .u64 (dg 18446744073709551616 p.1.1),nSl .u64 (dg 18446744073709551616 p.1.2),nSl .u64 (dg 18446744073709551616 p.2.1),nSl .u64 (dg 18446744073709551616 p.2.2)]
theorem gy {v k:Nat} (h:v<2^k) (hk:k≤2000000):(dg 18446744073709551616 v).length≤40000:=by
 by_cases h0:k=0
 ·subst h0;have:v=0:=by simpa using h
  subst this;exact EA (cr (k:=1) (by omega) (by omega)) (by omega)
 ·exact (bL (p:=(v,1)) (ay h (by omega)) hk).1
theorem k5 {n d k:Nat} (hd:d≠0) (hn:n<2^k) (hd2:d<2^k) (hk:k≤2000000):Ct P 99 [nV n,nV d] [qP (fR n d),.c (eI .i64 0)]:=by
 have l1:=gy hn hk;have l2:=gy hd2 hk;refine Ct.go aj aa (N:=12) Tryz.func99 rfl rfl rfl rfl ?_;refine X1 _ (fC d (by omega)) ?_;refine aP (λh=>?_) (λ_=>?_)
 ·exact absurd (by simpa using h) hd
 refine X1 _ (iv n d hd (by omega) (by omega)) ?_;exact ⟨HB,rc rfl,r1 rfl,HB⟩
theorem zX {a:Fr2} {k:Nat} (h:Bd k a) (hk:k≤2000000):Ct P 143 [qP a] [nV (a.1/a.2)]:=by
 have l1:=gy h.n hk;have l2:=gy h.d hk;refine Ct.go aj aa (N:=16) Tryz.func143 rfl rfl rfl rfl ?_;refine X1 _ (c5 _ _) ?_;refine X1 _ (ca _ _ (by omega)) ?_;rw[fW h.pos];refine X1 _ (mN _ _ h.pos (by omega) (by omega)) ?_;refine .intro rfl ?_;exact ⟨HB,rc rfl,HB⟩
theorem k6 {n k j:Nat} (h:n<2^k):n*2^j<2^(k+j):=by rw[Fw]; exact FW h (Fo j)
theorem tb {a:Fr2} {k j:Nat} (h:Bd k a):Bd (k+j) (fR (a.1*2^j) a.2):=pq h.pos (k6 h.n) (EG h.d (EK (by omega) (by omega)))
theorem tc {a:Fr2} {k j:Nat} (h:Bd k a) (hk:k+j≤900000):Ct P 98 [qP a,.c (nI .i64 j)] [qP (fR (a.1*2^j) a.2)]:=by
 have l1:=gy h.n (by omega);have l2:=gy h.d (by omega);refine Ct.go aj aa (N:=18) Tryz.func98 rfl rfl rfl rfl ?_;refine X1 _ (c5 _ _) ?_;refine X1 _ (pp a.1 j (by omega) (by omega)) ?_;refine X1 _ (ca _ _ (by omega)) ?_;rw[fW h.pos];refine X1 _ (k5 (k:=k+j) h.pos (k6 h.n) (EG h.d (EK (by omega) (by omega))) (by omega)) ?_;refine .intro rfl ?_;exact ⟨HB,rc rfl,HB⟩
theorem Do {a:Fr2} {k:Nat} (h:Bd k a):upF a<2^(k+1):=by
 have h1:=(oF h.pos).2;have h2:=E5 h.pos;have h3:=h.n;have h4:=h.d;have:upF a≤upF a*a.2:=Nat.le_mul_of_pos_right _ h2;rw[Ff];omega
theorem Dp {a:Fr2} {k:Nat} (h:Bd k a) (hk:k≤900000):Ct P 97 [qP a] [nV (upF a)]:=by
 have l1:=gy h.n (by omega);have l2:=gy h.d (by omega);have hq:a.1/a.2≤a.1:=FV _ _;have hn:a.1/a.2<2^(k+1):=by rw[Ff]; have:=h.n; omega
 have l3:=gy hn (by omega);have h1:(1:Nat)<2^(k+1):=EG (by decide) (EK (n:=2) (by omega) (show 1≤k+1 by omega));have hw:fR (a.1/a.2) 1=(a.1/a.2,1):=uZ (Hh _);have hof:=k5 (k:=k+1) (n:=a.1/a.2) (d:=1) (by omega) hn h1 (by omega);rw[hw]at hof;have hcmp:=iY (a.1/a.2) 1 a.1 a.2 (bL (ay hn (by omega)) (by omega)) (bL h (by omega));rw[fW h.pos,show dn 1=1 from rfl,FT]at hcmp;refine Ct.go aj aa (N:=22) Tryz.func97 rfl rfl rfl rfl ?_;refine X1 _ (zX h (by omega)) ?_;refine X1 _ (ga 1 (by omega)) ?_;refine X1 _ hof ?_;refine .intro rfl ?_;refine X1 _ hcmp ?_;refine ae (λhc=>?_) (λhc=>?_)
 ·refine X1 _ (ga 1 (by omega)) ?_;refine X1 _ (mK _ _ (by omega) (EA (gy h1 (by omega)) (by omega))) ?_;refine .intro rfl ?_;have e:upF a=a.1/a.2+1:=if_pos (by have:=cmpI_lt.1 hc; omega);rw[e];exact ⟨HB,rc rfl,HB⟩
 ·have e:upF a=a.1/a.2:=if_neg (λh2=>hc (cmpI_lt.2 (by omega)));rw[e];exact ⟨HB,rc rfl,HB⟩
theorem qX {p:Fr2 × Fr2} {j k:Nat} (h1:Bd j p.1) (h2:Bd k p.2) (hr:Nat.gcd p.1.1 p.1.2=1) (hk:j+k<900000):Ct P 73 [pA p] [qP (bH p.1 p.2)]:=by
 have hadd:=iz (p:=p.1) (q:=p.2) (by rw[au h1]; exact h1) (by rw[au h2]; exact h2) (by rw[au h1]; exact hr) (by omega);rw[au h1,au h2]at hadd;refine Ct.go (Ty.own_ok [1000001,1000003] aj) aa (N:=9) Tryz.func73 rfl rfl rfl rfl ?_;refine X1 _ hadd ?_;exact ⟨HB,rc rfl,HB⟩
theorem wH {p q:Fr2 × Fr2} {j k:Nat} (h1:Bd j p.1) (h2:Bd j p.2) (h3:Bd k q.1) (h4:Bd k q.2) (hr:Nat.gcd p.1.1 p.1.2=1) (hk:2*j+k<300000):Ct P 96 [pA p,pA q] [pA (qW p q)]:=by
 have hm1:=eq (p:=p.2) (q:=q.1) (by rw[au h2]; exact h2) (by rw[au h3]; exact h3) (by omega) (by omega);have hm2:=eq (p:=p.2) (q:=q.2) (by rw[au h2]; exact h2) (by rw[au h4]; exact h4) (by omega) (by omega);have hb:=bf h2 h3;have hadd:=iz (p:=p.1) (q:=cI p.2 q.1) (by rw[au h1]; exact h1) (by rw[au hb]; exact hb) (by rw[au h1]; exact hr) (by omega);rw[au h2,au h3]at hm1;rw[au h2,au h4]at hm2;rw[au h1,au hb]at hadd;refine Ct.go (Ty.own_ok [1000001] aj) aa (N:=20) Tryz.func96 rfl rfl rfl rfl ?_;refine X1 _ hm1 ?_;refine X1 _ hadd ?_;refine X1 _ hm2 ?_;refine .intro rfl ?_;exact ⟨HB,rc rfl,HB⟩
end
section
section
variable {Lc:List (List Cnt)} {words:Int}
theorem te (H:List Int):CtO P 71 (xX Lc words (hO H)) [.c (.ad 1000000 0),.c (.ow 1000002 1 H.length)] ((2,some (.var [.ad 1000000 0]))::(3,some (.var [.ow 1000002 1 H.length]))::xX Lc words (hO H)) [.c (.fn 114 [.ad 2 0,.ad 3 0])]:=by
 refine Ct.keep aj aa [] (N:=6) Tryz.func71 rfl rfl rfl rfl ?_;refine X1 [.ad 2 0,.ad 3 0] rfl ?_;exact ⟨HB,SubO.of (l:=[(2,.var [.ad 1000000 0]),(3,.var [.ow 1000002 1 H.length]),(1000000,xC Lc words 1000001),(1000001,.me false (MOk Lc)),(1000002,.row 1 (aI H))]) ⟨rfl,rfl,rfl,rfl,rfl,HB⟩,r1 rfl,HB⟩
def dL (Lc:List (List Cnt)) (n:Nat) (H:List Int):List (List A1):=(List.range n).map λw=>[.c (nI .i64 w),pA (cP Lc n H w)]
abbrev D3 (Lc:List (List Cnt)) (words:Int) (H:List Int):Objs:=[(1000000,some (xC Lc words 1000001)),(1000001,some (.me false (MOk Lc))),(1000003,some (.var [.ad 1000000 0])),(1000004,some (.var [.ow 1000002 1 H.length])),(1000002,some (.row 1 (aI H)))]
abbrev vl (Lc:List (List Cnt)) (words:Int) (H:List Int):Prop:=∀ w:Int,CtO P 115 (xX Lc words (hO H)) [.c (.ad 1000000 0),.c (.ow 1000002 1 H.length),.c (eI .i64 w)] (xX Lc words (hO H)) [qP (a9 Lc words H w)]
structure SB (Lc:List (List Cnt)) (n:Nat) (B:Nat):Prop where
 x:XOk Lc n
 e:∀ l,l∈Lc→eU n l
 q:∀ h,QF Lc n (cO Lc h)<2^B
 b:B≤4000
theorem SB.sum {n B:Nat} (h:SB Lc n B) (H:List Int) {w:Nat} (hw:w≤n):Bd B (aS Lc n H w):=(eL h.x H w).bd (qT h.x _) (h.q H) (BN h.x h.e H hw)
theorem SB.prob {n B:Nat} (h:SB Lc n B) (H:List Int) (w:Int):Bd B (a9 Lc n H w):=(eV h.x H w).bd (qT h.x _) (h.q H) (zU h.x h.e H w)
theorem pU {n B:Nat} (hB:SB Lc n B) (H:List Int) (hP:vl Lc n H):CtIO P 114 (D3 Lc n H) [.c (.ad 1000003 0),.c (.ad 1000004 0)] (dL Lc n H) (xX Lc n (hO H)):=by
 have hx:=hB.x;have h6:=hx.w6;have hbb:=hB.b;refine CtIO.walk (Ty.own_ok [1000001,1000003] aj) aa (N:=30) Tryz.func114 rfl rfl rfl rfl rfl (λv I X hv hY=>?_);refine X1 _ (be 0 (by omega)) ?_;refine X2 (.own σx σx) ?_;refine ⟨_,_,fq,?_⟩;refine b8 (Ty.own_ok [1000001,1000003] aj) aa (λw:Nat=>w≤n) (λw=>[(0,.c (.cb v)),(1,.c (.ad 1000003 0)),(2,.c (.ad 1000004 0)),(4,.c (.ad 4 0)),(9,.c (nI .i64 n)),(10,.c (nI .i64 w))])
  (λw=>[(2000000,.abs (I w)),(1000000,xC Lc n 1000001),(1000001,.me false (MOk Lc)),(1000003,.var [.ad 1000000 0]),(1000004,.var [.ow 1000002 1 H.length]),(1000002,.row 1 (aI H)),(4,.var (qP (aS Lc n H w)).cells)]) (λw=>n-w)
  0 (by omega) ⟨rfl,rfl,rfl,rfl,rfl,rfl,HB⟩ ⟨rfl,rfl,rfl,rfl,rfl,rfl,rfl,HB⟩ (λw hw=>?_)
 refine ae (λh1=>?_) (λh1=>?_)
 ·have hw':w<n:=by omega
  have hsb:=hB.sum H hw;have hpb:=hB.prob H (w:Int);have hadd:=iz (p:=aS Lc n H w) (q:=a9 Lc n H w) (by rw[au hsb]; exact hsb) (by rw[au hpb]; exact hpb) (by rw[au hsb]; exact jh hx H w) (by omega);rw[au hsb,au hpb]at hadd;have hitem:(dL Lc n H)[w]? = some [.c (nI .i64 w),pA (cP Lc n H w)]:=by
   unfold dL;rw[EH,G9 hw']; rfl
  refine X2 (.same σ3 1000001) ?_;refine ⟨rfl,_,hP w,?_⟩;refine .intro rfl ?_;refine ⟨dL Lc n H,I,X,w,hY,rfl,hitem,?_,?_⟩
  ·refine X1 _ hadd ?_;refine X1 ((w+1:Nat):Int) (wI (by simp) (by omega) (by omega)) ?_;exact ⟨w+1,by omega,by omega,⟨rfl,rfl,rfl,rfl,rfl,rfl,HB⟩,⟨rfl,rfl,rfl,rfl,rfl,rfl,rfl,HB⟩⟩
  ·exact ⟨HB,.inr rfl,cv (l:=[(1000002,.row 1 (aI H))]) rfl rfl rfl ⟨rfl,HB⟩⟩
 ·have e:w=n:=by omega
  subst e;have hlen:(dL Lc w H).length=w:=by simp[dL]
  exact ⟨HB,.inl (by rw[hlen]; rfl),cv (l:=[(1000002,.row 1 (aI H))]) rfl rfl rfl ⟨rfl,HB⟩⟩
abbrev σP:List (Nat × Nat):=[(1000000,1000000),(1000001,1000001),(61,1000003),(62,1000004),(1000002,1000002)]
abbrev νP:List (Nat × Nat):=[(1000000,1000000),(1000001,1000001),(1000002,1000002),(2,61),(3,62)]
theorem lN {n:Nat} {H:List Int} {i:Nat} {args:List A1} (h:(dL Lc n H)[i]? = some args):i<n∧args=[.c (nI .i64 i),pA (cP Lc n H i)]:=by
 unfold dL at h;rw[EH,EC]at h;obtain ⟨j,h1,h2⟩:=h;obtain ⟨h3,h4⟩:=Ez.1 h1;simp at h3 h4;subst h4;exact ⟨h3,h2.symm⟩
theorem oH {n:Nat} {H:List Int}:∀ args,args∈dL Lc n H→args.length=2∧az args=true:=λargs ha=>by
 obtain ⟨x,_,rfl⟩:=Fb.1 ha;exact ⟨rfl,rfl⟩
theorem zY {n B:Nat} (hB:SB Lc n B) (H:List Int) (hP:vl Lc n H) (w:Nat) (hw:w<n):CtO P 51 (xX Lc n (hO H)) [.c (.ad 1000000 0),.c (.ow 1000002 1 H.length),.c (nI .i64 w)] (xX Lc n (hO H)) [pA (cP Lc n H w)]:=by
 have h6:=hB.x.w6;refine Ct.io aj aa (N:=19) Tryz.func51 rfl rfl rfl rfl ?_;refine X2 (.own σ3 νP) ?_;refine ⟨_,_,te H,?_⟩;refine qi aj aa σP [1000000,1000001,1000002] (pU hB H hP) Tryz.func114 rfl rfl rfl rfl rfl rfl rfl oH [5,6] rfl (G:=Unit) (λi _=>i≤w) (λ_ _=>[(5,.c (.ad 5 0)),(6,.c (.ad 6 0))])
  (λ_ _=>[(5,.var [nI .i64 w]),(6,.var [.sc (.slice none 0 0),.sc (.slice none 0 0),.sc (.slice none 0 0),.sc (.slice none 0 0)])]) () (by omega) ⟨rfl,rfl,HB⟩ ⟨rfl,rfl,HB⟩ (λ_ _=>rfl) (λi _ args hg hi=>?_) (λ_ hi=>?_)
 ·obtain ⟨hin,rfl⟩:=lN hg;refine aT (λh1=>?_) (λh1=>?_)
  ·have e:i=w:=by omega
   subst e;refine ⟨[(6,.c (.ad 6 0))],[(6,.var (pA (cP Lc n H i)).cells)],⟨rfl,HB⟩,⟨rfl,HB⟩,(λp hp=>by simp at hp; subst hp; rfl),?_⟩;exact ⟨HB,cv (l:=[(1000002,.row 1 (aI H))]) rfl rfl rfl ⟨rfl,HB⟩,rc rfl,HB⟩
  ·exact ⟨(),by omega,⟨rfl,rfl,HB⟩,⟨rfl,rfl,HB⟩⟩
 ·exfalso;have:(dL Lc n H).length=n:=by simp[dL]
  omega
end
end
section
section
variable {Lc:List (List Cnt)} {n B:Nat}
theorem lP (ids:List Int) (i:Nat) (hi:i<ids.length):bI Lc n (ids.take (i+1))=qW (bI Lc n (ids.take i)) (cP Lc n ([1]++ids.take i) ids[i]):=by
 unfold bI;rw[EB hi,oC]
theorem zZ {ids:List Int} (h:InW n ids) (i:Nat):InW n (ids.take i):=λw hw=>h w (FZ hw)
theorem qY (hB:SB Lc n B) (ids:List Int):∀ i,i≤ids.length→∃ R,R≠0∧R<2^(1+B*i)∧Dv R (bI Lc n (ids.take i)).1∧Dv R (bI Lc n (ids.take i)).2
 | 0,_=>⟨1,by decide,by rw[FQ]; decide,.int,.int⟩
 | i+1,hi=>by
  obtain ⟨R,r1,r2,r3,r4⟩:=qY hB ids i (by omega);rw[lP ids i (by omega)];refine ⟨R*QF Lc n (cO Lc ([1]++ids.take i)),EU r1 (qT hB.x _),?_,?_,?_⟩
  ·rw[show 1+B*(i+1)=(1+B*i)+B by rw[EW,FT]; omega];exact kY r2 (hB.q _)
  ·exact (r3.up (GY _ _)).add (r4.mul (eL hB.x _ _))
  ·exact r4.mul (eV hB.x _ _)
theorem vm (hB:SB Lc n B) {ids:List Int} (hw:InW n ids) (i:Nat) (hi:i≤ids.length):Bd (1+B*i) (bI Lc n (ids.take i)).1∧Bd (1+B*i) (bI Lc n (ids.take i)).2∧Nat.gcd (bI Lc n (ids.take i)).1.1 (bI Lc n (ids.take i)).1.2=1:=by
 obtain ⟨R,r1,r2,r3,r4⟩:=qY hB ids i hi;obtain ⟨a1,a2,a3,a4⟩:=jk hB.x (ids.take i);obtain ⟨s1,s2,s3⟩:=vj hB.x hB.e (ids.take i) [1] (zZ hw i);refine ⟨r3.bd r1 r2 (qU a1 (by rw[a3]; grind)),r4.bd r1 r2 (qU a2 (by rw[a4]; grind)),?_⟩
 cases i with
 | zero=>exact GM 1
 | succ i=>
  obtain ⟨R',q1,q2,q3,q4⟩:=qY hB ids i (by omega);rw[lP ids i (by omega)];exact iy (EU q3.pos (eT q4.pos (eL hB.x _ _).pos))
theorem SB.probO (hB:SB Lc n B) (H:List Int) (hl:H.length≤1000000) (hl1:1≤H.length):vl Lc n H:=λw=>ww hB.x H hl hl1 w
theorem z0 (hB:SB Lc n B) (ids:List Int) (hw:InW n ids) (hl:ids.length≤25) (els:List (List PC)) (hels:els=aI ids) (m:Nat) (hm:m=ids.length) :
  CtO P 45 (xX Lc n [(1000002,some (.row 1 els))]) [.c (.ad 1000000 0),.c (.ow 1000002 1 m)] (xX Lc n [(1000002,some (.row 1 els))]) [pA (bI Lc n ids)]:=by
 subst hels hm;have hb:=hB.b;refine Ct.keep (Ty.own_ok [1000001] aj) aa [] (N:=31) Tryz.func45 rfl rfl rfl rfl ?_;refine X1 _ (be 0 (by omega)) ?_;refine X1 _ (be 1 (by omega)) ?_;refine .intro (by omega) ?_;refine ax (Ty.own_ok [1000001] aj) aa (λi:Nat=>i≤ids.length) (λi=>[(0,.c (.ad 1000000 0)),(4,.c (.ad 4 0)),(5,.c (.ad 5 0)),(6,.c (.ow 12 1 (i+1))),(13,.c (.ow 1000002 1 ids.length)),(14,.c (nI .i64 ids.length)),(15,.c (nI .i64 i))])
  (λi=>[(1000000,xC Lc n 1000001),(1000001,.me false (MOk Lc)),(1000002,.row 1 (aI ids)),(4,.var [.sc (.slice none 0 0),.sc (.slice none 0 0),.sc (.slice none 0 0),.sc (.slice none 0 0)]),(5,.var (pA (bI Lc n (ids.take i))).cells),(12,.row 1 (aI ([1]++ids.take i)))]) (λi=>ids.length-i)
  0 (by omega) ⟨rfl,rfl,rfl,rfl,rfl,rfl,rfl,HB⟩ ⟨rfl,rfl,rfl,rfl,rfl,rfl,HB⟩ (λ_:Unit=>True) (λ_=>[(4,.c (.ad 4 0)),(5,.c (.ad 5 0))])
  (λ_=>[(1000000,xC Lc n 1000001),(1000001,.me false (MOk Lc)),(1000002,.row 1 (aI ids)),(4,.var [.sc (.slice none 0 0),.sc (.slice none 0 0),.sc (.slice none 0 0),.sc (.slice none 0 0)]),(5,.var (pA (bI Lc n ids)).cells)]) (λi hi=>?_) (λ_ _=>?_)
 ·refine ae (λh1=>?_) (λh1=>?_)
  ·have hi':i<ids.length:=by omega
   obtain ⟨w0,w1⟩:=hw ids[i] (EI hi');have hget:(aI ids)[((i:Nat):Int).toNat]? = some [eI .i64 ids[i]]:=by rw[EX]; simp[aI,hi']
   obtain ⟨b1,b2,b3⟩:=vm hB hw i hi;have hst:=lP (Lc:=Lc) (n:=n) ids i hi';have htk:([1]++ids.take i).length=i+1:=by simp; omega
   have htk2:[1]++ids.take (i+1)=([1]++ids.take i)++[ids[i]]:=by rw[EB hi',Hi]
   obtain ⟨v,hv⟩:∃ v:Nat,ids[i]=(v:Int):=⟨ids[i].toNat,by omega⟩;have hsb:=hB.sum ([1]++ids.take i) (w:=v) (by omega);have hpb:=hB.prob ([1]++ids.take i) (v:Int);rw[hv]at hget hst htk2;have hof:=zY hB ([1]++ids.take i) (hB.probO _ (by omega) (by omega)) v (by omega);rw[htk]at hof;have hBi:B*i≤4000*25:=FE hb (by omega);have hwin:=wH (p:=bI Lc n (ids.take i)) (q:=cP Lc n ([1]++ids.take i) (v:Int)) b1 b2 (show Bd B (aS Lc n ([1]++ids.take i) (v:Int).toNat) by rw[EX]; exact hsb) hpb b3 (by omega);rw[←hst]at hwin
   refine .intro (by omega) (.intro (by omega) (X1 _ hget ?_));refine X2 (.same [(1000000,1000000),(1000001,1000001),(12,1000002)] 1000001) ?_;refine ⟨rfl,_,hof,?_⟩;refine X1 _ hwin ?_;refine .intro rfl ?_;refine ⟨by rw[ac,htk],by rw[ac,htk]; show (i+1+1+768)*8≤_; omega,by rw[ac,htk]; show i+1+1≤_; omega,bc,aw rfl,?_⟩;refine X1 ((i+1:Nat):Int) (wI1 (by omega)) ?_;refine ⟨i+1,by omega,by omega,⟨rfl,rfl,rfl,owE (by rw[Ey,ac,htk]; rfl),rfl,rfl,rfl,HB⟩,⟨rfl,rfl,rfl,rfl,rfl,aB (by rw[htk2]; simp[aI]; rfl),HB⟩⟩
  ·have e:i=ids.length:=by omega
   subst e;exact ⟨(),HB,⟨rfl,rfl,HB⟩,⟨rfl,rfl,rfl,rfl,by rw[Fd]; rfl,HB⟩⟩
 ·exact ⟨HB,cv (l:=[(1000002,.row 1 (aI ids))]) rfl rfl rfl ⟨rfl,HB⟩,rc rfl,HB⟩
end
end
section
def jr:List Bool→Nat
 | []=>0
 | b::l=>b.toNat+2*jr l
def needW (n:Nat):Nat:=n/64+min (n%64) 1
def cC (l:List Bool) (k:Nat):Nat:=jr l/18446744073709551616^k%18446744073709551616
def bi (l:List Bool):List Nat:=(List.range (needW l.length)).map (cC l)
theorem m8:∀ l:List Bool,jr l<2^l.length
 | []=>by decide
 | b::l=>by
  have:=m8 l;rw[jr,E7,Ff];cases b<;>simp only[Bool.toNat_true,Bool.toNat_false]<;>omega
theorem jl:∀ (l:List Bool) (b:Bool),jr (l++[b])=jr l+b.toNat*2^l.length
 | [],b=>by simp[jr]
 | c::l,b=>by
  rw[F9,jr,jl l b,jr,E7,Ff,EW,←Fx,EQ (2^l.length) 2,Fu]
theorem tf:∀ (l:List Bool) (i:Nat),i<l.length→l[i]? = some (decide (jr l/2^i%2=1))
 | b::l,0,_=>by
  simp only[jr,List.getElem?_cons_zero,Hr,Ht];cases b<;>simp<;>omega
 | b::l,i+1,h=>by
  have:=tf l i (by simpa using h);have e:(b.toNat+2*jr l)/2=jr l:=by cases b<;>simp only[Bool.toNat_true,Bool.toNat_false]<;>omega
  rw[List.getElem?_cons_succ,this,jr,Ff,EQ (2^i) 2,←GB,e]
theorem k7 (k:Nat):(18446744073709551616:Nat)^k=2^(64*k):=by
 rw[show (18446744073709551616:Nat)=2^64 from rfl,←Nat.pow_mul]
theorem BR {n:Nat} (h:n%64=0):needW n=n/64:=by unfold needW; omega
theorem vo {n:Nat} (h:n%64≠0):needW n=n/64+1:=by unfold needW; omega
theorem fL (l:List Bool):(bi l).length=needW l.length:=by simp[bi]
theorem fM {l:List Bool} {k:Nat} (h:k<needW l.length):(bi l)[k]? = some (cC l k):=by simp[bi,h]
theorem oI (l:List Bool) (k:Nat):cC l k<18446744073709551616:=Fz _ (by decide)
theorem pV {l:List Bool} {b:Bool} {k:Nat} (h:64*(k+1)≤l.length):cC (l++[b]) k=cC l k:=by
 unfold cC;rw[jl,k7];obtain ⟨c,hc⟩:=Nat.exists_eq_add_of_le h;have e:b.toNat*2^l.length=(b.toNat*2^c)*18446744073709551616*2^(64*k):=by
  rw[hc,show 64*(k+1)+c=64*k+64+c by omega,Fw,Fw,show (2:Nat)^64=18446744073709551616 from rfl];simp only[EL,EQ,Fu]
 rw[e,Nat.add_mul_div_right _ _ (Fo _),Nat.add_mul_mod_self_right]
theorem wJ {l:List Bool} {b:Bool} {k:Nat} (h:l.length=64*k):cC (l++[b]) k=b.toNat:=by
 unfold cC;have:=m8 l;rw[jl,k7,←h,Nat.add_mul_div_right _ _ (Fo _),Ga this,Fn];cases b<;>rfl
theorem oJ {l:List Bool} {k:Nat} (h0:64*k≤l.length) (h:l.length<64*k+64):cC l k<2^(l.length-64*k):=by
 have:=m8 l;unfold cC;refine Gq (Nat.mod_le _ _) ?_;rw[k7,GZ (Fo _),←Fw];rwa [show l.length-64*k+64*k=l.length by omega]
theorem un {l:List Bool} {b:Bool} {k:Nat} (h0:64*k≤l.length) (h:l.length<64*k+64):cC (l++[b]) k=cC l k+b.toNat*2^(l.length-64*k):=by
 have h1:=oJ h0 h;have h2:=m8 l;have e:2^l.length=2^(l.length-64*k)*2^(64*k):=by rw[←Fw]; congr 1; omega
 have h3:(2:Nat)^(l.length-64*k)≤2^63:=EK (by omega) (by omega);have h5:jr l/2^(64*k)<2^(l.length-64*k):=by
  rw[GZ (Fo _),←e]; exact h2
 have h6:(2:Nat)^63=9223372036854775808:=rfl;unfold cC;rw[jl,k7,e,←EL,Nat.add_mul_div_right _ _ (Fo _)];have h7:b.toNat*2^(l.length-64*k)≤2^(l.length-64*k):=by cases b<;>simp
 rw[Fc (by omega),Fc (by omega)]
theorem qZ {l:List Bool} {b:Bool} (h:l.length%64=0):bi (l++[b])=bi l++[b.toNat]:=by
 have e1:needW l.length=l.length/64:=BR h;have e2:needW (l++[b]).length=l.length/64+1:=by rw[Ey,List.length_singleton]; unfold needW; omega
 unfold bi;rw[e1,e2,List.range_succ,FG,Fg,G0,wJ (by omega)];congr 1;refine GT λk hk=>pV ?_
 have:=List.mem_range.1 hk;omega
theorem q5 {l:List Bool} {b:Bool} (h:l.length%64≠0):bi (l++[b])=(bi l).set (l.length/64) (cC l (l.length/64)+b.toNat*2^(l.length%64))∧needW (l++[b]).length=needW l.length:=by
 have e1:needW l.length=l.length/64+1:=vo h;have e2:needW (l++[b]).length=l.length/64+1:=by rw[Ey,List.length_singleton]; unfold needW; omega
 refine ⟨?_,by rw[e1,e2]⟩;have e3:l.length%64=l.length-64*(l.length/64):=by omega
 unfold bi;rw[e1,e2,e3,←un (by omega) (by omega)];apply GX;intro k;rw[FJ];by_cases hk:l.length/64=k
 ·subst hk;rw[if_pos rfl];simp
 ·rw[if_neg hk];by_cases h2:k<l.length/64
  ·simp only[EH,G9 (show k<l.length/64+1 by omega),FI];rw[pV (by omega)]
  ·rw[ET (by simp; omega),ET (by simp; omega)]
theorem Dq {a:Nat} {b:Bool} {i:Nat} (h:a<2^i):a|||b.toNat<<<i=a+b.toNat*2^i:=by
 rw[Nat.or_comm,←Nat.shiftLeft_add_eq_or_of_lt h,GR,GS]
theorem jm {l:List Bool} {i:Nat} (h:i<l.length):l[i]? = some (decide (cC l (i/64)/2^(i%64)%2=1)):=by
 rw[tf l i h];congr 2;unfold cC;rw[k7];have e:2^i=2^(64*(i/64))*2^(i%64):=by rw[←Fw]; congr 1; omega
 rw[e,←GB];generalize jr l/2^(64*(i/64))=v;have h3:18446744073709551616=2^(i%64)*(2*2^(63-i%64)):=by
  rw[←Nat.pow_succ',←Fw,show i%64+(63-i%64+1)=64 by omega]
 have h4:v%18446744073709551616/2^(i%64)=v/2^(i%64)%(2*2^(63-i%64)):=by
  rw[h3,Nat.mod_mul_right_div_self]
 rw[h4,Nat.mod_mul_right_mod]
theorem uo {l m:List Bool} (h1:l.length=m.length) (h2:bi l=bi m):l=m:=by
 apply GX;intro i;by_cases hi:i<l.length
 ·rw[jm hi,jm (by omega)];have hk:i/64<needW l.length:=by unfold needW; omega
  have e1:=fM (l:=l) hk;have e2:=fM (l:=m) (by rw[←h1]; exact hk);rw[h2,e2]at e1;rw[Gc e1]
 ·rw[ET (by omega),ET (by omega)]
abbrev nB (b:Bool):PC:=nI .u64 b.toNat
abbrev bP (l:List Bool):PC:=.rd [nSl .u64 (bi l),nI .i64 l.length]
abbrev oK:A1:=.c (.sc (.pointer none))
theorem iI (n:Nat):needW n≤n:=by unfold needW; omega
theorem q6 (n:Nat) (hn:n≤1000000000):Ct P 49 [.c (nI .i64 n)] [.c (nI .i64 (needW n))]:=by
 refine Ct.go aj aa (N:=9) Tryz.func49 rfl rfl rfl rfl ?_;refine .intro (by decide) (X1 ((n/64:Nat):Int) (ko rfl) (.intro ⟨by omega,by omega⟩ ?_));refine .intro (by decide) (X1 ((n%64:Nat):Int) (mh rfl) (.intro ⟨by omega,by omega⟩ ?_));have e:(if (1:Int)<((n%64:Nat):Int) then (1:Int) else ((n%64:Nat):Int))=((min (n%64) 1:Nat):Int):=by split<;>omega
 refine X1 ((needW n:Nat):Int) ?_ ?_
 ·rw[e]; exact wI (by unfold needW; omega) (by omega) (by unfold needW; omega)
 ·exact ⟨HB,r1 rfl,HB⟩
theorem wK (b:Bool):Ct P 48 [.c (nB b)] [.c (nI .i64 b.toNat)]:=by
 have h:=kC b.toNat (by cases b<;>decide);rw[show blen b.toNat=b.toNat by
  cases b
  ·exact blen_zero
  ·exact (rZ (by decide)).trans (by rw[show (true.toNat/2)=0 from rfl,blen_zero]; rfl)]at h
 refine Ct.go aj aa (N:=5) Tryz.func48 rfl rfl rfl rfl ?_;refine X1 _ h ?_;exact ⟨HB,r1 rfl,HB⟩
theorem BS:CtO P 16 [] [] [(2,some (.var [.sc (.slice none 0 0),eI .i64 0]))] [.c (.ad 2 0)]:=by
 refine Ct.keep aj aa [] (N:=3) Tryz.func16 rfl rfl rfl rfl ?_;exact ⟨HB,SubO.of (l:=[(2,.var [.sc (.slice none 0 0),eI .i64 0])]) ⟨rfl,HB⟩,r1 rfl,HB⟩
abbrev bO (r:Nat) (l:List Bool):Objs:=[(1000000,some (.var [.ow r 1 (needW l.length),nI .i64 l.length])),(r,some (.row 1 (aF .u64 (bi l))))]
theorem D4 {l:List Bool} {O:Objs} (h1:O.get 1000000=some (.var [.ow 200 1 (needW l.length),nI .i64 l.length])) (h2:O.get 200=some (.row 1 (aF .u64 (bi l)))):SubO (bO 200 l) O:=
 SubO.of (l:=[(1000000,.var [.ow 200 1 (needW l.length),nI .i64 l.length]),(200,.row 1 (aF .u64 (bi l)))]) ⟨h1,h2,HB⟩
theorem m9 {k:IntKind} {l:List Nat} {i x:Nat} (h:l[i]? = some x):(aF k l)[i]? = some [nI k x]:=by simp[aF,h]
theorem D5 {a i:Nat} {b:Bool} (h:a<2^i) (hi:i<64):a|||b.toNat*2^i%18446744073709551616=a+b.toNat*2^i:=by
 have h1:(2:Nat)^i≤2^63:=EK (by omega) (by omega);have h2:(2:Nat)^63=9223372036854775808:=rfl;have h3:b.toNat*2^i≤2^i:=by cases b<;>simp
 rw[Fc (by omega),←GR,Dq h,GR]
theorem BT (l:List Bool) (b:Bool) (hl:l.length≤100000000):CtO P 17 (bO 1000001 l) [.c (.ad 1000000 0),.c (nB b),.c (eI .i64 1)] (bO 200 (l++[b])) [.c (eI .i64 0)]:=by
 have hb:b.toNat≤1:=by cases b<;>decide
 have hlen:(l++[b]).length=l.length+1:=by simp
 have hnw:=iI l.length;have hnw2:=iI (l++[b]).length;refine Ct.keepI (Ty.own_ok [1000001] aj) [] (N:=93) Tryz.func17 rfl rfl rfl rfl ?_;refine DM (r:=1000001) (q:=200) (k:=1000000) (i:=0) rfl (by decide) (by decide) (by decide) rfl rfl rfl ?_;refine kE (Ty.own_ok [1000001] aj) aa ?_;refine X1 _ (wK b) ?_;refine ae (λh=>?_) (λ_=>?_)
 ·exfalso; omega
 refine .intro (by decide) (X1 ((l.length%64:Nat):Int) (mh rfl) (.intro ⟨by omega,by omega⟩ ?_));refine X1 ((l.length+1:Nat):Int) (wI (by simp) (by omega) (by omega)) ?_;refine ae (λh=>?_) (λh=>?_)
 ·have h64:l.length%64≠0:=by omega
  obtain ⟨w1,w2⟩:=q5 (b:=b) h64;have w3:=vo h64;have w4:=fL l;have w5:=fM (l:=l) (k:=l.length/64) (by omega);have w6:=oJ (l:=l) (k:=l.length/64) (by omega) (by omega);have w7:=oI l (l.length/64);refine .intro (by omega) ?_;refine X1 ((l.length/64:Nat):Int) (wI (by omega) (by omega) (by omega)) ?_;refine .intro (by omega) (.intro (by omega) ?_);refine X1 _ (by rw[EX]; exact m9 w5) ?_;refine X1 ((l.length%64:Nat):Int) (wU rfl (by omega) (by omega)) ?_;refine .intro (by omega) (X1 _ (t6 (by omega)) ?_);refine X1 _ (orU w7 (Fz _ (by decide))) ?_;refine .intro (by omega) (.intro (by omega) ?_);refine X1 _ (by rw[EX]; exact m9 w5) ?_;refine .intro rfl ?_;refine ax (Ty.own_ok [1000001] aj) aa (λ_:Unit=>True) (λ_=>[(0,.c (.ad 1000000 0)),(1,.c (nB b)),(7,.c (nI .i64 (l.length%64)))])
   (λ_=>[(1000000,.var [.ow 200 1 (needW (l++[b]).length),nI .i64 (l++[b]).length]),(200,.row 1 (aF .u64 (bi (l++[b]))))]) (λ_=>0)
   () trivial ⟨rfl,rfl,rfl,HB⟩ ⟨by rw[w2,hlen]; rfl,aB (by rw[EX,w1,←nRow_set,D5 (by rw[show l.length%64=l.length-64*(l.length/64) by omega]; exact w6) (by omega)]; rfl),HB⟩ (λ_:Unit=>True) (λ_=>[]) (λ_=>[(1000000,.var [.ow 200 1 (needW (l++[b]).length),nI .i64 (l++[b]).length]),(200,.row 1 (aF .u64 (bi (l++[b]))))]) (λ_ _=>?_) (λ_ _=>?_)
  ·refine .intro (by omega) ?_;refine X1 _ (q6 (l++[b]).length (by omega)) ?_;refine .intro rfl ?_;refine ae (λh=>?_) (λ_=>?_)
   ·exfalso; omega
   ·exact ⟨(),HB,HB,⟨rfl,rfl,HB⟩⟩
  ·exact ⟨HB,D4 rfl rfl,r1 rfl,HB⟩
 ·have h64:l.length%64=0:=by omega
  have w1:=qZ (b:=b) h64;have w2:needW (l++[b]).length=needW l.length+1:=by rw[hlen]; unfold needW; omega
  have w4:=fL l;refine ax (Ty.own_ok [1000001] aj) aa (λ_:Bool=>True) (λ_=>[(0,.c (.ad 1000000 0)),(1,.c (nB b)),(7,.c (nI .i64 (l.length%64)))])
   (λg=>[(1000000,.var [.ow 200 1 (bif g then needW (l++[b]).length else needW l.length),nI .i64 (l++[b]).length]),(200,.row 1 (aF .u64 (bif g then bi (l++[b]) else bi l)))]) (λg=>bif g then 0 else 1)
   false trivial ⟨rfl,rfl,rfl,HB⟩ ⟨by rw[hlen]; rfl,rfl,HB⟩ (λ_:Unit=>True) (λ_=>[]) (λ_=>[(1000000,.var [.ow 200 1 (needW (l++[b]).length),nI .i64 (l++[b]).length]),(200,.row 1 (aF .u64 (bi (l++[b]))))]) (λg _=>?_) (λ_ _=>?_)
  ·cases g with
   | false=>
    refine .intro (by show needW l.length≤_; omega) ?_;refine X1 _ (q6 (l++[b]).length (by omega)) ?_;refine .intro rfl ?_;refine ae (λ_=>?_) (λh=>?_)
    ·refine ae (λh=>?_) (λ_=>?_)
     ·exfalso; omega
     ·refine ⟨by rw[ai]; show needW l.length=(bi l).length; rw[w4],by rw[ai]; show ((bi l).length+1+768)*8≤_; omega,by rw[ai]; show (bi l).length+1≤_; omega,dh,dh (l:=[b.toNat]),?_⟩;refine ⟨true,HB,by decide,⟨rfl,rfl,rfl,HB⟩,⟨?_,?_,HB⟩⟩
      ·show some (Ob.var [.ow 200 1 (aF .u64 (bi l)++[[nB b]]).length,_])=some (Ob.var [.ow 200 1 (needW (l++[b]).length),_])
       rw[Ey,ai,w4,w2]; rfl
      ·refine aB ?_;show aF .u64 (bi l)++aF .u64 [b.toNat]=aF .u64 (bi (l++[b]))
       rw[w1,im]
    ·exfalso;apply h;show ((needW l.length:Nat):Int)<_
     omega
   | true=>
    refine .intro (by show needW (l++[b]).length≤_; omega) ?_;refine X1 _ (q6 (l++[b]).length (by omega)) ?_;refine .intro rfl ?_;refine ae (λh=>?_) (λ_=>?_)
    ·exfalso;have:((needW (l++[b]).length:Nat):Int)<((needW (l++[b]).length:Nat):Int):=h;omega
    ·exact ⟨(),HB,HB,⟨rfl,rfl,HB⟩⟩
  ·exact ⟨HB,D4 rfl rfl,r1 rfl,HB⟩
theorem boE {a b:Bool} (h:a=b):(some (.c (.sc (.bool a))):Option AV)=some (.c (.sc (.bool b))):=by rw[h]
theorem Dr {x:Nat} (hx:x<18446744073709551616):IntKind.u64.wrap ((BitVec.ofInt IntKind.u64.bits (x:Int)&&&BitVec.ofInt IntKind.u64.bits (1:Int)).toNat:Int)=((x%2:Nat):Int):=by
 have e:(BitVec.ofInt IntKind.u64.bits (x:Int)&&&BitVec.ofInt IntKind.u64.bits (1:Int)).toNat=x%2:=by
  show (BitVec.ofInt 64 (x:Int)&&&BitVec.ofInt 64 ((1:Nat):Int)).toNat=_
  rw[BitVec.ofInt_natCast,BitVec.ofInt_natCast,BitVec.toNat_and,BitVec.toNat_ofNat,BitVec.toNat_ofNat,Fc (by omega:x<2^64),Fc (by decide:1<2^64),GC]
 rw[e];exact wU rfl (by omega) (by omega)
theorem eu (l:List Bool) (hl:l.length≤100000000):Ct P 14 [.c (bP l)] [.c (nI .i64 l.length)]:=by
 refine Ct.go aj aa (N:=9) Tryz.func14 rfl rfl rfl rfl ?_;exact ⟨HB,r1 rfl,HB⟩
theorem BU (l:List Bool) (i:Nat) (hl:l.length≤100000000) (hi:i<l.length):Ct P 15 [.c (bP l),.c (nI .i64 i)] [.c (.sc (.bool (l.getD i false)))]:=by
 have hw:=fM (l:=l) (k:=i/64) (by unfold needW; omega);have hb:=jm hi;have hg:l.getD i false=decide (cC l (i/64)/2^(i%64)%2=1):=by rw[Ev,hb]; rfl
 refine Ct.go aj aa (N:=33) Tryz.func15 rfl rfl rfl rfl ?_;refine ae (λh=>?_) (λ_=>?_)
 ·exfalso; omega
 refine .intro (by decide) (X1 ((i/64:Nat):Int) (ko rfl) (.intro ⟨by omega,by omega⟩ ?_));refine .intro (by omega) (X1 _ (by rw[EX]; exact m9 hw) ?_);refine .intro (by decide) (X1 ((i%64:Nat):Int) (mh rfl) (.intro ⟨by omega,by omega⟩ ?_));refine X1 ((i%64:Nat):Int) (wU rfl (by omega) (by omega)) ?_;have hwl:=oI l (i/64);have hdl:cC l (i/64)/2^(i%64)≤cC l (i/64):=FV _ _;refine .intro (by omega) (X1 ((cC l (i/64)/2^(i%64):Nat):Int) (gb (by omega)) (.intro (inU (by omega)) ?_));refine X1 _ (Dr (by omega)) ?_;refine ⟨HB,r1 (boE ?_),HB⟩;rw[hg];by_cases h:cC l (i/64)/2^(i%64)%2=1
 ·rw[decide_eq_true h,h]; rfl
 ·rw[decide_eq_false h,show cC l (i/64)/2^(i%64)%2=0 by omega]; rfl
def gZ (l:List Bool) (k:Nat):Nat:=if k<needW l.length then cC l k else 0
theorem tg (l:List Bool) (k:Nat):gZ l k<18446744073709551616:=by
 have:=oI l k;unfold gZ; split<;>omega
theorem th (l:List Bool) (k:Nat) (hl:l.length≤100000000) (hk:k≤100000000):Ct P 148 [.c (bP l),.c (nI .i64 k)] [.c (nI .u64 (gZ l k))]:=by
 have h1:=iI l.length;have h2:=fL l;refine Ct.go aj aa (N:=23) Tryz.func148 rfl rfl rfl rfl ?_;refine .intro (by rw[ai]; omega) ?_;rw[ai];refine ae (λh=>?_) (λh=>?_)
 ·exact ⟨HB,r1 (iE (by rw[gZ,if_neg (by omega)]; rfl)),HB⟩
 ·refine .intro (by omega) (X1 _ (by rw[EX]; exact m9 (fM (by omega))) ?_);exact ⟨HB,r1 (iE (by rw[gZ,if_pos (by omega)])),HB⟩
theorem tj:Ct P 180 [.c (eI .i64 1)] [.c (eI .i64 1)]:=by
 refine Ct.go aj aa (N:=6) Tryz.func180 rfl rfl rfl rfl ?_;exact ⟨HB,r1 rfl,HB⟩
theorem tk:Ct P 149 [.c (eI .i64 1)] [.c (eI .u64 1)]:=by
 refine Ct.go aj aa (N:=11) Tryz.func149 rfl rfl rfl rfl ?_;refine X1 _ tj ?_;refine X1 (1:Int) (by decide) ?_;refine .intro (by decide) (X1 (2:Int) (by decide) ?_);refine X1 (1:Int) (by decide) ?_;exact ⟨HB,r1 rfl,HB⟩
theorem Dt {a c s:Nat} (hs:s<64):(a|||c*2^(64-s)%18446744073709551616)%2=a%2:=by
 have h1:c*2^(64-s)%18446744073709551616%2=0:=by
  have e:18446744073709551616=2*9223372036854775808:=rfl;rw[e,Nat.mod_mul_right_mod,show 64-s=(63-s)+1 by omega,Ff,←EL];exact Nat.mul_mod_left _ _
 rw[←GC,Nat.and_or_distrib_right,GC,GC,h1,Nat.or_zero]
theorem BV (l:List Bool) (i:Nat) (hl:l.length≤100000000) (hi:i<l.length):Ct P 103 [.c (bP l),.c (nI .i64 i),.c (eI .i64 1)] [.c (nB (l.getD i false))]:=by
 have hb:=jm hi;have hg:l.getD i false=decide (cC l (i/64)/2^(i%64)%2=1):=by rw[Ev,hb]; rfl
 have hz:gZ l (i/64)=cC l (i/64):=if_pos (by unfold needW; omega);have hwl:=tg l (i/64);have hw2:=tg l (i/64+1);have hdl:gZ l (i/64)/2^(i%64)≤gZ l (i/64):=FV _ _;have fin:∀ v,v%2=gZ l (i/64)/2^(i%64)%2→v%2=(l.getD i false).toNat:=λv hv=>by
  rw[hg,hv,hz];by_cases h:cC l (i/64)/2^(i%64)%2=1
  ·rw[decide_eq_true h,h]; rfl
  ·rw[decide_eq_false h,show cC l (i/64)/2^(i%64)%2=0 by omega]; rfl
 refine Ct.go aj aa (N:=67) Tryz.func103 rfl rfl rfl rfl ?_;refine ae (λh=>?_) (λ_=>?_)
 ·exfalso; omega
 refine ae (λh=>?_) (λ_=>?_)
 ·exfalso; omega
 refine .intro (by decide) (X1 ((i/64:Nat):Int) (ko rfl) (.intro ⟨by omega,by omega⟩ ?_));refine .intro (by decide) (X1 ((i%64:Nat):Int) (mh rfl) (.intro ⟨by omega,by omega⟩ ?_));refine X1 _ (th l (i/64) hl (by omega)) ?_;refine X1 ((i%64:Nat):Int) (wU rfl (by omega) (by omega)) ?_;refine .intro (by omega) (X1 ((gZ l (i/64)/2^(i%64):Nat):Int) (gb (by omega)) (.intro (inU (by omega)) ?_));refine ae (λh5=>?_) (λh5=>?_)
 ·refine X1 ((i/64+1:Nat):Int) (wI (by simp) (by omega) (by omega)) ?_;refine X1 _ (th l (i/64+1) hl (by omega)) ?_;refine X1 ((64-i%64:Nat):Int) (wI (by omega) (by omega) (by omega)) ?_;refine X1 ((64-i%64:Nat):Int) (wU rfl (by omega) (by omega)) ?_;refine .intro (by omega) (X1 _ (t6 (by omega)) ?_);have hor:=y5 (v:=gZ l (i/64)/2^(i%64)) (m:=gZ l (i/64+1)*2^(64-i%64)%18446744073709551616) (by omega) (Fz _ (by decide));refine X1 _ (orU (by omega) (Fz _ (by decide))) ?_;refine X1 _ tk ?_;refine X1 _ (Dr hor) ?_;exact ⟨HB,r1 (iE (by rw[fin _ (Dt (by omega))])),HB⟩
 ·refine X1 _ tk ?_;refine X1 _ (Dr (by omega)) ?_;exact ⟨HB,r1 (iE (by rw[fin _ rfl])),HB⟩
theorem uq (l m:List Nat) (hl:l.length≤1000000) (hm:m.length≤1000000):Ct P 53 [.c (nSl .u64 l),.c (nSl .u64 m)] [.c (.sc (.bool (decide (l=m))))]:=by
 refine Ct.go aj aa (N:=26) Tryz.func53 rfl rfl rfl rfl ?_;refine .intro (by rw[ai]; omega) ?_;rw[ai];refine .intro (by rw[ai]; omega) ?_;rw[ai];refine ez (λh=>?_) (λh=>?_)
 ·exact ⟨HB,r1 (boE (decide_eq_false λe=>h (by rw[e])).symm),HB⟩
 have hlm:l.length=m.length:=by omega
 refine .intro (by rw[ai]; omega) ?_;rw[ai];refine ax aj aa (λi:Nat=>i≤l.length∧l.take i=m.take i) (λi=>[(0,.c (nSl .u64 l)),(1,.c (nSl .u64 m)),(12,.c (nI .i64 l.length)),(13,.c (nI .i64 i))]) (λ_=>[]) (λi=>l.length-i)
  0 ⟨by omega,rfl⟩ ⟨rfl,rfl,rfl,rfl,HB⟩ HB (λ_:Unit=>l=m) (λ_=>[]) (λ_=>[]) (λi hi=>?_) (λ_ hp=>?_)
 ·obtain ⟨i1,i2⟩:=hi;refine ae (λh1=>?_) (λh1=>?_)
  ·have hi':i<l.length:=by omega
   refine .intro (by omega) (X1 _ (al rfl hi') ?_);refine .intro (by omega) (X1 _ (al rfl (by omega)) ?_);refine .intro rfl ?_;have e1:l.getD i 0=l[i]:=by simp[Ev,hi']
   have e2:m.getD i 0=m[i]:=by simp[Ev,show i<m.length by omega]
   refine ez (λh2=>?_) (λh2=>?_)
   ·exact ⟨HB,r1 (boE (decide_eq_false λe=>h2 (by rw[e])).symm),HB⟩
   ·refine X1 ((i+1:Nat):Int) (wI1 (by omega)) ?_;refine ⟨i+1,⟨by omega,?_⟩,by omega,⟨rfl,rfl,rfl,rfl,HB⟩,HB⟩;rw[EB hi',EB (by omega:i<m.length),i2];congr 2;omega
  ·have e:i=l.length:=by omega
   subst e;rw[Fd,hlm,Fd]at i2;exact ⟨(),i2,HB,HB⟩
 ·exact ⟨HB,r1 (boE (decide_eq_true hp).symm),HB⟩
theorem z6 (l m:List Bool) (hl:l.length≤1000000) (hm:m.length≤1000000):Ct P 19 [.c (bP l),.c (bP m)] [.c (.sc (.bool (decide (l=m))))]:=by
 have a1:=iI l.length;have a2:=iI m.length;have a3:=fL l;have a4:=fL m;refine Ct.go aj aa (N:=29) Tryz.func19 rfl rfl rfl rfl ?_;refine X1 _ (eu l (by omega)) ?_;refine X1 _ (eu m (by omega)) ?_;refine ez (λh=>?_) (λh=>?_)
 ·refine X1 _ (eu l (by omega)) ?_;refine X1 _ (eu m (by omega)) ?_;refine ⟨HB,r1 (boE ?_),HB⟩;rw[decide_eq_false λe=>h (by rw[e])];simpa using h
 ·refine X1 _ (eu l (by omega)) ?_;refine aT (λh2=>?_) (λh2=>?_)
  ·refine X1 _ (eu l (by omega)) ?_;refine X1 _ (eu m (by omega)) ?_;refine ⟨HB,r1 (boE ?_),HB⟩;have e1:l=[]:=EZ.1 (by omega);have e2:m=[]:=EZ.1 (by omega);subst e1 e2;rfl
  ·refine X1 _ (uq (bi l) (bi m) (by omega) (by omega)) ?_;refine .intro rfl ?_;refine ⟨HB,r1 (boE ?_),HB⟩;by_cases e:l=m
   ·subst e; simp
   ·rw[decide_eq_false e,decide_eq_false λhw=>e (uo (by omega) hw)]
theorem BW (v:Nat) (hv:v≤1):Ct P 147 [nV v] [.c (nI .u64 v),.c (.sc (.bool true))]:=by
 have hc:v=0∨v=1:=by omega
 rcases hc with rfl | rfl
 ·rw[show nV 0 = .ag [nSl .u64 []] from by rw[←bE 18446744073709551616]];refine Ct.go aj aa (N:=15) Tryz.func147 rfl rfl rfl rfl ?_;refine .intro (by decide) ?_;exact ⟨HB,r1 rfl,r1 rfl,HB⟩
 ·have e:dg 18446744073709551616 1=[1]:=by rw[gJ (by omega) (by omega),show 1/18446744073709551616=0 from rfl,bE]
  rw[show nV 1 = .ag [nSl .u64 [1]] from by rw[←e]];refine Ct.go aj aa (N:=15) Tryz.func147 rfl rfl rfl rfl ?_;refine .intro (by decide) ?_;refine .intro (by decide) (X1 _ rfl ?_);exact ⟨HB,r1 rfl,r1 rfl,HB⟩
theorem ur:bi []=[]:=by unfold bi; rw[show needW ([]:List Bool).length=0 from rfl]; rfl
theorem Du (v k j:Nat) (hv:v<2^j) (hj:j≤900000) (hk:k≤900000):Ct P 101 [nV v,.c (nI .i64 k)] [.c (bP (dp v k))]:=by
 have l1:=gy hv (by omega);refine Ct.go (Ty.own_ok [16] aj) aa (N:=39) Tryz.func101 rfl rfl rfl rfl ?_;refine X2 (.own [] [(2,60)]) ?_;refine ⟨_,_,BS,?_⟩;refine X1 ((k:Int)-1) (wI rfl (by omega) (by omega)) ?_;refine tL (r:=61) (k:=60) (i:=0) (sz:=1) rfl rfl rfl ?_;refine ax (Ty.own_ok [16] aj) aa (λi:Nat=>i≤k) (λi=>[(2,.c (.ad 2 0)),(5,.c (.ad 60 0)),(6,.c (eI .i64 ((i:Int)-1)))])
  (λi=>[(2,.var (nV v).cells),(60,.var [.ow 61 1 (needW (dp (v/2^i) (k-i)).length),nI .i64 (dp (v/2^i) (k-i)).length]),(61,.row 1 (aF .u64 (bi (dp (v/2^i) (k-i)))))]) (λi=>i)
  k (by omega) ⟨rfl,rfl,rfl,HB⟩ ⟨rfl,by rw[G1,show dp (v/2^k) 0=[] from rfl,show needW ([]:List Bool).length=0 from rfl]; rfl,by rw[G1,show dp (v/2^k) 0=[] from rfl,ur]; rfl,HB⟩ (λ_:Unit=>True) (λ_=>[(5,.c (.ad 60 0))]) (λ_=>[(60,.var [.ow 61 1 (needW (dp v k).length),nI .i64 (dp v k).length]),(61,.row 1 (aF .u64 (bi (dp v k))))]) (λi hi=>?_) (λ_ _=>?_)
 ·refine ae (λh1=>?_) (λh1=>?_)
  ·obtain ⟨i,rfl⟩:∃ n,i=n+1:=⟨i-1,by omega⟩;have hb:v/2^i≤v:=FV _ _;have hb2:v/2^i/2^1≤v/2^i:=FV _ _;have lb:=gy (v:=v/2^i) (by omega) (by omega:j≤2000000);have lb2:=gy (v:=v/2^i/2^1) (by omega) (by omega:j≤2000000);have lb3:v/2^i/2^1*2^1≤v/2^i:=Nat.div_mul_le_self _ _;have lb4:v/2^i-v/2^i/2^1*2^1=v/2^i%2:=by rw[Nat.pow_one]; omega
   have hbits:dp (v/2^i) (k-i)=dp (v/2^(i+1)) (k-(i+1))++[decide (v/2^i%2=1)]:=by
    rw[show k-i=k-(i+1)+1 by omega,dp,GB,←Ff]
   have hbl:=jj (k-(i+1)) (v/2^(i+1));have hbt:(decide (v/2^i%2=1)).toNat=v/2^i%2:=by
    by_cases h:v/2^i%2=1
    ·rw[decide_eq_true h,h]; rfl
    ·rw[decide_eq_false h]; show 0=_; omega
   have hadd:=BT (dp (v/2^(i+1)) (k-(i+1))) (decide (v/2^i%2=1)) (by omega);refine X1 _ (show Ct P 146 [nV v,.c (eI .i64 (((i+1:Nat):Int)-1))] [nV (v/2^i)] by rw[show ((i+1:Nat):Int)-1=(i:Int) by omega]; exact qp v i (by omega) (by omega)) ?_;refine X1 _ (qp (v/2^i) 1 (by omega) (by omega)) ?_;refine X1 _ (pp (v/2^i/2^1) 1 (by omega) (by omega)) ?_;refine X1 _ (uM _ _ lb3 (by omega)) ?_;rw[lb4];refine .intro rfl ?_;refine X1 _ (BW _ (by omega)) ?_;rw[←hbt];refine X2 (.own [(60,1000000),(61,1000001)] [(1000000,60),(200,61)]) ?_;refine ⟨_,_,hadd,?_⟩;refine X1 ((i:Int)-1) (wI (by omega) (by omega) (by omega)) ?_;rw[←hbits];exact ⟨i,by omega,by omega,⟨rfl,rfl,rfl,HB⟩,⟨rfl,rfl,rfl,HB⟩⟩
  ·have e:i=0:=by omega
   subst e;exact ⟨(),HB,⟨rfl,HB⟩,⟨by rw[Hr,Ht,Gk]; rfl,by rw[Hr,Ht,Gk]; rfl,HB⟩⟩
 ·exact ⟨HB,r1 rfl,HB⟩
theorem wL (l:List Bool) (i:Nat) (hi:i<l.length):valB (l.take (i+1))=2*valB (l.take i)+(l.getD i false).toNat:=by
 rw[EB hi,pS,Ev,ES hi,F2]
theorem ut (l:List Bool) (hl:l.length≤900000):Ct P 50 [.c (bP l)] [qP (oS l)]:=by
 have hlt:=λi=>EG (mZ (l.take i)) (EK (n:=2) (by omega) (show (l.take i).length≤l.length by rw[EJ]; omega))
 refine Ct.go aj aa (N:=31) Tryz.func50 rfl rfl rfl rfl ?_;refine X1 _ (ga 0 (by omega)) ?_;refine X1 _ (eu l (by omega)) ?_;refine ax aj aa (λi:Nat=>i≤l.length) (λi=>[(0,.c (bP l)),(2,.c (.ad 2 0)),(3,.c (.ad 3 0)),(9,.c (nI .i64 l.length)),(10,.c (nI .i64 i))])
  (λi=>[(2,.var [.sc (.slice none 0 0),.sc (.slice none 0 0)]),(3,.var (nV (valB (l.take i))).cells)]) (λi=>l.length-i)
  0 (by omega) ⟨rfl,rfl,rfl,rfl,rfl,HB⟩ ⟨rfl,rfl,HB⟩ (λ_:Unit=>True) (λ_=>[(0,.c (bP l)),(2,.c (.ad 2 0)),(3,.c (.ad 3 0))]) (λ_=>[(2,.var [.sc (.slice none 0 0),.sc (.slice none 0 0)]),(3,.var (nV (valB l)).cells)]) (λi hi=>?_) (λ_ _=>?_)
 ·refine ae (λh1=>?_) (λh1=>?_)
  ·have hi':i<l.length:=by omega
   have hlen:=gy (hlt i) (by omega);have hb:(l.getD i false).toNat≤1:=by cases l.getD i false<;>decide
   have l2:=gy (v:=valB (l.take i)*2^1) (k:=l.length+1) (k6 (hlt i)) (by omega);have l3:=gy (v:=(l.getD i false).toNat) (k:=1) (by omega) (by omega);have hv:valB (l.take i)*2^1+(l.getD i false).toNat=valB (l.take (i+1)):=by rw[wL l i hi',Nat.pow_one]; omega
   refine X1 _ (pp _ 1 (by omega) (by omega)) ?_;refine X1 _ (BV l i (by omega) hi') ?_;refine X1 _ (ga _ (by omega)) ?_;refine X1 _ (mK _ _ (by omega) (by omega)) ?_;rw[hv];refine X1 ((i+1:Nat):Int) (wI1 (by omega)) ?_;exact ⟨i+1,by omega,by omega,⟨rfl,rfl,rfl,rfl,rfl,HB⟩,⟨rfl,rfl,HB⟩⟩
  ·have e:i=l.length:=by omega
   subst e;exact ⟨(),HB,⟨rfl,rfl,rfl,HB⟩,⟨rfl,by rw[Fd]; rfl,HB⟩⟩
 ·have h1:(1:Nat)<2^(l.length+1):=EG (by decide) (EK (n:=2) (by omega) (show 1≤l.length+1 by omega));have l1:=gy h1 (by omega);refine X1 _ (ga 1 (by omega)) ?_;refine X1 _ (eu l (by omega)) ?_;refine X1 _ (pp 1 l.length (by omega) (by omega)) ?_;rw[Fh];refine X1 _ (k5 (k:=l.length+1) (Nat.pos_iff_ne_zero.1 (Fo _)) (EG (mZ l) (EK (by omega) (by omega))) (Nat.pow_lt_pow_right (by omega) (by omega)) (by omega)) ?_;refine .intro rfl ?_;exact ⟨HB,rc rfl,HB⟩
theorem Dw {p:Fr2 × Fr2} {j k:Nat} (h:Bd j p.1):vK p k<2^(j+k+1):=by
 have h1:Bd (j+k) (p.1.1*2^k,p.1.2):=⟨h.pos,k6 h.n,EG h.d (EK (by omega) (by omega))⟩;exact Do h1
theorem BX {p:Fr2 × Fr2} {j k0:Nat} (h1:Bd j p.1) (h2:Bd j p.2) (hr:Nat.gcd p.1.1 p.1.2=1) (hc:IsCode p k0) (hj:j≤120000) (hk:k0≤300000):Ct P 47 [pA p] [.c (bP (dp (vK p k0) k0))]:=by
 have he:=ep h1 h2;refine Ct.go aj aa (N:=32) Tryz.func47 rfl rfl rfl rfl ?_;refine b8 aj aa (λk:Nat=>k≤k0) (λk=>[(1,.c (.ad 1 0)),(3,.c (nI .i64 k))]) (λ_=>[(1,.var (pA p).cells)]) (λk=>k0-k)
  0 (by omega) ⟨rfl,rfl,HB⟩ ⟨rfl,HB⟩ (λk hk'=>?_)
 have ht:=tb (j:=k) h1;have hup:upF (fR (p.1.1*2^k) p.1.2)=vK p k:=Dl h1.pos;have hv:=Dw (k:=k) h1;have hv1:vK p k+1<2^(j+k+2):=by rw[Ff]; omega
 have ho:(1:Nat)<2^(j+k+2):=EG (by decide) (EK (n:=2) (by omega) (show 1≤j+k+2 by omega));have lo:=gy ho (by omega);have lv:=gy hv (by omega);have hte:=tb (j:=k) he;have hw:fR (vK p k+1) 1=(vK p k+1,1):=uZ (Hh _);have hof:=k5 (k:=j+k+2) (n:=vK p k+1) (d:=1) (by omega) hv1 ho (by omega);rw[hw]at hof;have hcmp:=iY (vK p k+1) 1 (fR ((bH p.1 p.2).1*2^k) (bH p.1 p.2).2).1 (fR ((bH p.1 p.2).1*2^k) (bH p.1 p.2).2).2 (bL (ay hv1 (by omega)) (by omega)) (bL hte (by omega));rw[fW hte.pos,show dn 1=1 from rfl,FT]at hcmp;have hup2:=Dp ht (by omega);rw[hup]at hup2;refine X1 _ (tc h1 (by omega)) ?_;refine X1 _ hup2 ?_;refine X1 _ (ga 1 (by omega)) ?_;refine X1 _ (mK _ _ (by omega) (by omega)) ?_;refine X1 _ (ga 1 (by omega)) ?_;refine X1 _ hof ?_;refine .intro rfl ?_;refine X1 _ (qX h1 h2 hr (by omega)) ?_;refine X1 _ (tc he (by omega)) ?_;refine X1 _ hcmp ?_;refine .intro rfl ?_;have hgood:good p k=true↔bC (((vK p k+1)*(fR ((bH p.1 p.2).1*2^k) (bH p.1 p.2).2).2:Nat):Int) (((fR ((bH p.1 p.2).1*2^k) (bH p.1 p.2).2).1:Nat):Int)≤0:=by
  unfold good jP;rw[decide_eq_true_eq,←D1 he.pos];unfold bC;split
  ·exact ⟨λ_=>by omega,λ_=>by omega⟩
  ·split
   ·exact ⟨λ_=>by omega,λ_=>by omega⟩
   ·exact ⟨λ_=>by omega,λ_=>by omega⟩
 refine ae (λh5=>?_) (λh5=>?_)
 ·have hg:=hgood.2 h5;have e:k=k0:=by
   rcases Fm k k0 with h | h
   ·have:=hc.least k h; rw[hg]at this; cases this
   ·omega
  subst e;refine X1 _ (Du (vK p k) k (j+k+1) hv (by omega) (by omega)) ?_;exact ⟨HB,r1 rfl,HB⟩
 ·have hne:k≠k0:=λe=>h5 (hgood.1 (by rw[e]; exact hc.good))
  refine X1 ((k+1:Nat):Int) (wI (by simp) (by omega) (by omega)) ?_;exact ⟨k+1,by omega,by omega,⟨rfl,rfl,HB⟩,⟨rfl,HB⟩⟩
end
section
def inB (n:Nat) (w:Int):Bool:=decide (0≤w)&&decide (w<n)
theorem inB_iff {n:Nat} {ids:List Int}:ids.all (inB n)=true↔InW n ids:=by
 unfold inB InW;rw[Fq];simp
def oL (n:Nat) (ids:List Int):Int:=if ids.length>64 then 5 else if ids.all (inB n)=true then 0 else 8
theorem z7 {n:Nat} {ids:List Int} (h:oL n ids=0):ids.length≤64∧InW n ids:=by
 unfold oL at h;split at h
 ·omega
 ·split at h
  ·rename_i h1 h2; exact ⟨by omega,inB_iff.1 h2⟩
  ·omega
section
variable {Lc:List (List Cnt)} {n B:Nat}
theorem uu (hx:XOk Lc n) (ids:List Int) (hl:ids.length≤1000000):CtO P 43 (xE Lc n) [.c (.ad 1000000 0),.c (iSl ids)] (xE Lc n) [.c (eI .i64 (oL n ids))]:=by
 have h6:=hx.w6;refine Ct.io aj aa (N:=29) Tryz.func43 rfl rfl rfl rfl ?_;refine .intro (by rw[ac]; omega) ?_;rw[ac];refine ae (λh1=>?_) (λh1=>?_)
 ·exact ⟨HB,cv (l:=[]) rfl rfl rfl trivial,r1 (iE (by rw[oL,if_pos (by omega)])),HB⟩
 refine .intro (by rw[ac]; omega) ?_;rw[ac];refine ax aj aa (λi:Nat=>i≤ids.length∧(ids.take i).all (inB n)=true) (λi=>[(0,.c (.ad 1000000 0)),(14,.c (iSl ids)),(15,.c (nI .i64 ids.length)),(16,.c (nI .i64 i))]) (λ_=>[(1000000,xC Lc n 1000001),(1000001,.me false (MOk Lc))]) (λi=>ids.length-i)
  0 ⟨by omega,rfl⟩ ⟨rfl,rfl,rfl,rfl,HB⟩ ⟨rfl,rfl,HB⟩ (λ_:Unit=>ids.all (inB n)=true) (λ_=>[]) (λ_=>[(1000000,xC Lc n 1000001),(1000001,.me false (MOk Lc))]) (λi hi=>?_) (λ_ hp=>?_)
 ·obtain ⟨i1,i2⟩:=hi;refine ae (λh2=>?_) (λh2=>?_)
  ·have hi':i<ids.length:=by omega
   have hget:(aI ids)[((i:Nat):Int).toNat]? = some [eI .i64 ids[i]]:=by rw[EX]; simp[aI,hi']
   have hts:ids.take (i+1)=ids.take i++[ids[i]]:=EB hi';have hbad:inB n ids[i]=false→oL n ids=8:=λhb=>by
    rw[oL,if_neg (by omega),if_neg];intro ha;rw[Fq]at ha;rw[ha _ (EI hi')]at hb; cases hb
   refine .intro (by omega) (X1 _ hget ?_);generalize ids[i]=w at *
   refine ae (λh3=>?_) (λh3=>?_)
   ·exact ⟨HB,cv (l:=[]) rfl rfl rfl trivial,r1 (iE (by rw[hbad (by unfold inB; rw[decide_eq_false (by omega)]; rfl)])),HB⟩
   ·refine X2 (.own σx σx) ?_;refine ⟨_,_,fq,?_⟩;refine ae (λh4=>?_) (λh4=>?_)
    ·exact ⟨HB,cv (l:=[]) rfl rfl rfl trivial,r1 (iE (by rw[hbad (by unfold inB; rw[decide_eq_false (show ¬ w<(n:Int) by omega),GQ])])),HB⟩
    ·refine X1 ((i+1:Nat):Int) (wI1 (by omega)) ?_;refine ⟨i+1,⟨by omega,?_⟩,by omega,⟨rfl,rfl,rfl,rfl,HB⟩,⟨rfl,rfl,HB⟩⟩;rw[hts,List.all_append,i2];simp[inB]; omega
  ·have e:i=ids.length:=by omega
   subst e;rw[Fd]at i2;exact ⟨(),i2,HB,⟨rfl,rfl,HB⟩⟩
 ·exact ⟨HB,cv (l:=[]) rfl rfl rfl trivial,r1 (iE (by rw[oL,if_neg (by omega),if_pos hp])),HB⟩
noncomputable def kOf (p:Fr2 × Fr2):Nat:=by classical exact if h:∃ k,IsCode p k then h.choose else 0
theorem z8 {p:Fr2 × Fr2} {k:Nat} (h:IsCode p k):kOf p=k:=by
 have hx:∃ k,IsCode p k:=⟨k,h⟩;unfold kOf;rw[dif_pos hx];exact hx.choose_spec.uniq h
theorem q7 {p:Fr2 × Fr2} {j:Nat} (h1:Bd j p.1) (h2:Bd j p.2) (h0:p.2.1≠0):IsCode p (kOf p)∧kOf p≤j+1:=by
 have b2:(0:Rat)<p.2.2:=F6.2 (E5 h2.pos);have hg:good p (j+1)=true:=by
  refine BQ h1.pos h2.pos ?_;have e:((2^(j+1):Nat):Rat)*qv p.2=(((2^(j+1):Nat):Rat)*p.2.1)/p.2.2:=by unfold qv; grind
  rw[e,f7 b2];have h3:2*p.2.2≤2^(j+1)*p.2.1:=by
   have:=h2.d;have h4:2^(j+1)*1≤2^(j+1)*p.2.1:=Fp _ (by omega);rw[Ff]at h4 ⊢;omega
  have:=F4.2 h3;simp only[FA]at this;exact this
 obtain ⟨k,hk,hc⟩:=zV hg;rw[z8 hc];exact ⟨hc,hk⟩
def eX (Lc:List (List Cnt)) (n:Nat) (ids:List Int):Fr2 × Fr2:=bI Lc n (ids++[2])
noncomputable def encB (Lc:List (List Cnt)) (n:Nat) (ids:List Int):List Bool:=dp (vK (eX Lc n ids) (kOf (eX Lc n ids))) (kOf (eX Lc n ids))
def oT (Lc:List (List Cnt)) (n:Nat) (ids:List Int):Int:=if oL n ids≠0 then oL n ids else if idx 1 ids≥0∨idx 2 ids≥0 then 1 else if (eX Lc n ids).2.1=0 then 7 else 0
noncomputable def encR (Lc:List (List Cnt)) (n:Nat) (ids:List Int):A1:=if oT Lc n ids=0 then .c (bP (encB Lc n ids)) else oK
theorem z9 {ids:List Int} (h:oT Lc n ids=0):ids.length≤64∧InW n ids∧idx 1 ids<0∧idx 2 ids<0∧(eX Lc n ids).2.1≠0:=by
 unfold oT at h;split at h
 ·rename_i h1; exact absurd h h1
 ·rename_i h1;obtain ⟨a1,a2⟩:=z7 (by omega:oL n ids=0);split at h
  ·omega
  ·split at h
   ·omega
   ·rename_i h2 h3;exact ⟨a1,a2,by omega,by omega,h3⟩
theorem oM (hB:SB Lc n B) (h2:2<n) {ids:List Int} (hw:InW n ids):Bd (1+B*(ids.length+1)) (eX Lc n ids).1∧Bd (1+B*(ids.length+1)) (eX Lc n ids).2∧Nat.gcd (eX Lc n ids).1.1 (eX Lc n ids).1.2=1:=by
 have hw2:InW n (ids++[2]):=λx hx=>by
  rcases Fe.1 hx with hx | hx
  ·exact hw x hx
  ·simp at hx; subst hx; omega
 have:=vm hB hw2 (ids.length+1) (by simp);rw[E3 (by simp)]at this;exact this
theorem Aa (ids:List Int):(encB Lc n ids).length=kOf (eX Lc n ids):=jj _ _
theorem pW (hB:SB Lc n B) (h2:2<n) (ids:List Int) (hl:ids.length≤24):CtO P 13 (xE Lc n) [.c (.ad 1000000 0),.c (iSl ids)] (xE Lc n) [encR Lc n ids,.c (eI .i64 (oT Lc n ids))]:=by
 have hb:=hB.b;refine Ct.keep (Ty.own_ok [46] aj) aa [] (N:=31) Tryz.func13 rfl rfl rfl rfl ?_;refine X2 (.own σx σx) ?_;refine ⟨_,_,uu hB.x ids (by omega),?_⟩;refine ez (λh1=>?_) (λh1=>?_)
 ·have e:oT Lc n ids=oL n ids:=if_pos h1;have e2:encR Lc n ids=oK:=if_neg (by rw[e]; exact h1);rw[e,e2];exact ⟨HB,cv (l:=[]) rfl rfl rfl trivial,r1 rfl,r1 rfl,HB⟩
 obtain ⟨_,hw⟩:=z7 h1;have e0:oT Lc n ids=if idx 1 ids≥0∨idx 2 ids≥0 then 1 else if (eX Lc n ids).2.1=0 then 7 else 0:=if_neg (by omega)
 refine X1 _ (ir ids 1 (by omega)) ?_;refine ae (λh3=>?_) (λh3=>?_)
 ·rw[if_pos (.inl h3)]at e0;have e2:encR Lc n ids=oK:=if_neg (by rw[e0]; decide);rw[e0,e2];exact ⟨HB,cv (l:=[]) rfl rfl rfl trivial,r1 rfl,r1 rfl,HB⟩
 refine X1 _ (ir ids 2 (by omega)) ?_;refine ae (λh4=>?_) (λh4=>?_)
 ·rw[if_pos (.inr h4)]at e0;have e2:encR Lc n ids=oK:=if_neg (by rw[e0]; decide);rw[e0,e2];exact ⟨HB,cv (l:=[]) rfl rfl rfl trivial,r1 rfl,r1 rfl,HB⟩
 rw[if_neg (by omega)]at e0;have hw2:InW n (ids++[2]):=λx hx=>by
  rcases Fe.1 hx with hx | hx
  ·exact hw x hx
  ·simp at hx; subst hx; omega
 obtain ⟨b1,b2,b3⟩:=oM hB h2 hw;have hBl:B*(ids.length+1)≤4000*25:=FE hb (by omega);refine X2 (.own [] [(5,68)]) ?_;refine ⟨_,_,jb ids (by omega),?_⟩;refine ⟨by rw[ac],by rw[ac]; show (ids.length+1+768)*8≤_; omega,by rw[ac]; show ids.length+1≤_; omega,bc,aw rfl,?_⟩;refine X2 (.own [(1000000,1000000),(1000001,1000001),(68,1000002)] [(1000000,1000000),(1000001,1000001),(1000002,68)]) ?_;refine ⟨_,_,z0 hB (ids++[2]) hw2 (by simp; omega) _ (by simp[aI]; rfl) _ (by show ((aI ids)++_).length=_; simp[aI]),?_⟩;refine X1 _ (kL _ _ (EA (gy b2.n (by omega)) (by omega))) ?_;refine aP (λh5=>?_) (λh5=>?_)
 ·have h6:(bI Lc n (ids++[2])).2.1=0:=by simpa using h5
  rw[if_pos (show (eX Lc n ids).2.1=0 from h6)]at e0;have e2:encR Lc n ids=oK:=if_neg (by rw[e0]; decide);rw[e0,e2];exact ⟨HB,cv (l:=[]) rfl rfl rfl trivial,r1 rfl,r1 rfl,HB⟩
 ·have h6:(eX Lc n ids).2.1≠0:=λh=>by
   have:(bI Lc n (ids++[2])).2.1=0:=h;rw[this]at h5; simp at h5
  rw[if_neg h6]at e0;have e2:encR Lc n ids = .c (bP (encB Lc n ids)):=if_pos e0;obtain ⟨c1,c2⟩:=q7 b1 b2 h6;rw[e0,e2];refine X1 _ (BX b1 b2 b3 c1 (by omega) (by omega)) ?_;exact ⟨HB,cv (l:=[]) rfl rfl rfl trivial,r1 rfl,r1 rfl,HB⟩
abbrev zA:A1:=.ag [.sc (.slice none 0 0),.sc (.slice none 0 0)]
end
end
section
section
variable {Lc:List (List Cnt)} {n B:Nat}
theorem fN {h:List Int} {u:Fr2}:∀ (f v:Nat),(∀ k,v≤k→k<v+f→inP Lc n h u k=false)→pQ Lc n h u f v = -1
 | 0,v,_=>rfl
 | f+1,v,hm=>by
  unfold pQ;rw[if_neg (by rw[hm v (by omega) (by omega)]; simp)];exact fN f (v+1) λk h1 h2=>hm k (by omega) (by omega)
theorem Ab (hB:SB Lc n B) (H:List Int) (hP:vl Lc n H) (u:Fr2) {j:Nat} (hu:Bd j u) (hj:j≤900000):CtO P 29 (xX Lc n (hO H)) [.c (.ad 1000000 0),.c (.ow 1000002 1 H.length),qP u] (xX Lc n (hO H)) [.c (eI .i64 (eW Lc n H u))]:=by
 have h6:=hB.x.w6;have hb:=hB.b;refine Ct.io aj aa (N:=27) Tryz.func29 rfl rfl rfl rfl ?_;refine X2 (.own σ3 νP) ?_;refine ⟨_,_,te H,?_⟩;refine qi aj aa σP [1000000,1000001,1000002] (pU hB H hP) Tryz.func114 rfl rfl rfl rfl rfl rfl rfl oH [5,6] rfl (G:=Unit) (λi _=>i≤n∧∀ k,k<i→inP Lc n H u k=false) (λ_ _=>[(5,.c (.ad 5 0)),(6,.c (.ad 6 0))])
  (λ_ _=>[(5,.var (qP u).cells),(6,.var [eI .i64 0])]) () ⟨by omega,λk hk=>by omega⟩ ⟨rfl,rfl,HB⟩ ⟨rfl,rfl,HB⟩ (λ_ _=>rfl) (λi _ args hg hi=>?_) (λ_ hi=>?_)
 ·obtain ⟨hin,rfl⟩:=lN hg;obtain ⟨i1,i2⟩:=hi;have hsb:=hB.sum H (w:=i) (by omega);have hpb:=hB.prob H (i:Int);have hend:=qX (p:=cP Lc n H i) (j:=B) (k:=B) (show Bd B (aS Lc n H (i:Int).toNat) by rw[EX]; exact hsb) hpb (show Nat.gcd (aS Lc n H (i:Int).toNat).1 (aS Lc n H (i:Int).toNat).2=1 by rw[EX]; exact jh hB.x H i) (by omega);have hsb2:Bd B (aS Lc n H (i+1)):=hB.sum H (w:=i+1) (by omega);have e1:bH (cP Lc n H i).1 (cP Lc n H i).2=aS Lc n H (i+1):=by show bH (aS Lc n H (i:Int).toNat) _=_; rw[EX]; rfl
  rw[e1]at hend;have e2:(cP Lc n H i).1=aS Lc n H i:=by show aS Lc n H (i:Int).toNat=_; rw[EX]
  have hc1:=iY u.1 u.2 (aS Lc n H i).1 (aS Lc n H i).2 (bL hu (by omega)) (bL hsb (by omega));have hc2:=iY u.1 u.2 (aS Lc n H (i+1)).1 (aS Lc n H (i+1)).2 (bL hu (by omega)) (bL hsb2 (by omega));rw[fW hsb.pos,fW hu.pos]at hc1;rw[fW hsb2.pos,fW hu.pos]at hc2;rw[←e2]at hc1;have hin1:inP Lc n H u i=(decide (bC ((u.1*(aS Lc n H i).2:Nat):Int) (((aS Lc n H i).1*u.2:Nat):Int)≥0)&&decide (bC ((u.1*(aS Lc n H (i+1)).2:Nat):Int) (((aS Lc n H (i+1)).1*u.2:Nat):Int)<0)):=by
   unfold inP;congr 1
   ·refine decide_eq_decide.2 ?_;unfold bC;split
    ·constructor<;>intro h<;>omega
    ·split<;>constructor<;>intro h<;>omega
   ·refine decide_eq_decide.2 ?_;rw[cmpI_lt];omega
  rw[←e2]at hin1;have next:inP Lc n H u i=false→∃ g':Unit,(i+1≤n∧∀ k,k<i+1→inP Lc n H u k=false):=λhf=>⟨(),by omega,λk hk=>by
   by_cases e:k=i
   ·rw[e]; exact hf
   ·exact i2 k (by omega)⟩
  refine X1 _ hc1 ?_;refine ae (λh1=>?_) (λh1=>?_)
  ·refine X1 _ hend ?_;refine X1 _ hc2 ?_;refine .intro rfl ?_;refine ae (λh2=>?_) (λh2=>?_)
   ·rw[decide_eq_true h1,decide_eq_true h2]at hin1;have e:eW Lc n H u=i:=fu hB.x hu.pos hin hin1;refine ⟨[(6,.c (.ad 6 0))],[(6,.var [nI .i64 i])],⟨rfl,HB⟩,⟨rfl,HB⟩,(λp hp=>by simp at hp; subst hp; rfl),?_⟩;rw[e];exact ⟨HB,cv (l:=[(1000002,.row 1 (aI H))]) rfl rfl rfl ⟨rfl,HB⟩,rc rfl,HB⟩
   ·rw[decide_eq_false h2,GQ]at hin1;obtain ⟨_,g1,g2⟩:=next hin1;exact ⟨(),⟨g1,g2⟩,⟨rfl,rfl,HB⟩,⟨rfl,rfl,HB⟩⟩
  ·rw[decide_eq_false h1,Hg]at hin1;obtain ⟨_,g1,g2⟩:=next hin1;refine .intro rfl ?_;exact ⟨(),⟨g1,g2⟩,⟨rfl,rfl,HB⟩,⟨rfl,rfl,HB⟩⟩
 ·obtain ⟨i1,i2⟩:=hi;have hlen:(dL Lc n H).length=n:=by simp[dL]
  have e:eW Lc n H u = -1:=fN _ 0 λk _ hk=>i2 k (by rw[hlen]; omega)
  rw[e];exact ⟨HB,cv (l:=[(1000002,.row 1 (aI H))]) rfl rfl rfl ⟨rfl,HB⟩,rc rfl,HB⟩
end
end
section
abbrev σK:List (Nat × Nat):=[(200,1000000),(201,1000001)]
abbrev νK:List (Nat × Nat):=[(1000000,200),(1000001,201)]
theorem q8 {s:ByteArray} (hs:s.size≤120) {m:Nat} (h1:1≤m) (h4:m≤4):XOk (ao (ofL s m)) (aK s).length:=Da (ul hs h4).1 (sW hs h1 h4) (ul hs h4).2
theorem BY (s:ByteArray) (hs:s.size≤120) (o m:Nat) (ho:o<256) (hm:m=1+o%4) :
  CtO P 12 [] [.c (sS s),.c (nI .u8 o)] [(200,some (xC (ao (ofL s m)) (aK s).length 201)),(201,some (.mp false [] []))] [.c (.ad 200 0),mM (ofL s m) (aK s).length,.c (.sc (.bool true))]:=by
 have h1:1≤m:=by omega
 have h4:m≤4:=by omega
 have hx:=q8 hs h1 h4;have hw:=sW hs h1 h4;obtain ⟨hsum,_⟩:=ul (m:=m) hs h4;obtain ⟨l1,l2⟩:=oq hs;obtain ⟨a1,a2⟩:=ot hs;have hok:=(jL hw).1;have hlen:(ofL s m).length=m:=cq _ _;have hcl:=bx (ofL s m);have hord:=sT (fK (aK s) s) m (by omega) (by omega) (λp hp=>by have:=(a2 p hp).1; omega);have hnew:=zw (ofL s m) (aK s).length hsum hw;have hrnew:=BA (ofL s m) (aK s).length hsum (hok.ccform hsum.lim) (by omega);have hword:=iD (ks:=[]) (vs:=[]) hx;refine Ct.keep (Ty.own_ok [36] aj) aa [] (N:=50) Tryz.func12 rfl rfl rfl rfl ?_;refine X1 _ (uh s (by omega)) ?_;refine X1 (o:Int) (wI rfl (by omega) (by omega)) ?_;refine .intro (by omega) (X1 ((o%4:Nat):Int) ?_ (.intro ⟨by show (-9223372036854775808:Int)≤_; omega,by show _≤(9223372036854775807:Int); omega⟩ ?_))
 ·show Int.tmod (o:Int) 4=_
  rw[Gl (by omega)]; omega
 refine X1 (m:Int) (wI (by omega) (by omega) (by omega)) ?_;refine X1 _ (zJ (aK s) s (by omega) (by omega)) ?_;refine X1 _ hord ?_;refine .intro (by rw[aM]; omega) ?_;rw[aM];refine X2 (.own [] [(36,200),(34,201)]) ?_;refine ⟨_,_,hnew,?_⟩;refine .intro (by rw[aM]; omega) ?_;rw[aM];refine X1 _ hrnew ?_;refine X2 (.own σK νK) ?_;refine ⟨_,_,hword,?_⟩;refine aT (λ_=>?_) (λh=>?_)
 ·refine X2 (.own σK νK) ?_;refine ⟨_,_,kP,?_⟩;refine .intro (by rw[aM]; omega) ?_;rw[aM];exact ⟨HB,SubO.of (l:=[(200,xC (ao (ofL s m)) (aK s).length 201),(201,.mp false [] [])]) ⟨rfl,rfl,HB⟩,r1 rfl,rc rfl,r1 (blE (beq_self_eq_true _)),HB⟩
 ·exfalso; omega
abbrev tm:A1:=.c (.sc (.pointer none))
theorem wM:Ct P 42 [tm] [.c (eI .i64 0)]:=by
 refine Ct.go aj aa (N:=9) Tryz.func42 rfl rfl rfl rfl ?_;exact ⟨HB,r1 rfl,HB⟩
end
section
section
variable {Lc:List (List Cnt)} {words:Int}
abbrev Dx (Lc:List (List Cnt)) (words:Int) (H:List Int):Objs:=[(1000000,some (xC Lc words 1000001)),(1000001,some (.me false (MOk Lc))),(1000003,some (.var [.ad 1000000 0])),(1000004,some (.var [iSl H]))]
abbrev Cr (Lc:List (List Cnt)) (words:Int) (H:List Int):Prop:=∀ w:Int,CtO P 115 (xE Lc words) [.c (.ad 1000000 0),.c (iSl H),.c (eI .i64 w)] (xE Lc words) [qP (a9 Lc words H w)]
abbrev σC:List (Nat × Nat):=[(1000000,1000000),(1000001,1000001),(61,1000003),(62,1000004)]
abbrev νC:List (Nat × Nat):=[(1000000,1000000),(1000001,1000001),(2,61),(3,62)]
theorem wN (H:List Int):CtO P 71 (xE Lc words) [.c (.ad 1000000 0),.c (iSl H)] ((2,some (.var [.ad 1000000 0]))::(3,some (.var [iSl H]))::xE Lc words) [.c (.fn 114 [.ad 2 0,.ad 3 0])]:=by
 refine Ct.keep aj aa [] (N:=6) Tryz.func71 rfl rfl rfl rfl ?_;refine X1 [.ad 2 0,.ad 3 0] rfl ?_;exact ⟨HB,SubO.of (l:=[(2,.var [.ad 1000000 0]),(3,.var [iSl H]),(1000000,xC Lc words 1000001),(1000001,.me false (MOk Lc))]) ⟨rfl,rfl,rfl,rfl,HB⟩,r1 rfl,HB⟩
theorem uv {n B:Nat} (hB:SB Lc n B) (H:List Int) (hP:Cr Lc n H):CtIO P 114 (Dx Lc n H) [.c (.ad 1000003 0),.c (.ad 1000004 0)] (dL Lc n H) (xE Lc n):=by
 have hx:=hB.x;have h6:=hx.w6;have hbb:=hB.b;refine CtIO.walk (Ty.own_ok [1000001,1000003] aj) aa (N:=30) Tryz.func114 rfl rfl rfl rfl rfl (λv I X hv hY=>?_);refine X1 _ (be 0 (by omega)) ?_;refine X2 (.own σx σx) ?_;refine ⟨_,_,fq,?_⟩;refine b8 (Ty.own_ok [1000001,1000003] aj) aa (λw:Nat=>w≤n) (λw=>[(0,.c (.cb v)),(1,.c (.ad 1000003 0)),(2,.c (.ad 1000004 0)),(4,.c (.ad 4 0)),(9,.c (nI .i64 n)),(10,.c (nI .i64 w))])
  (λw=>[(2000000,.abs (I w)),(1000000,xC Lc n 1000001),(1000001,.me false (MOk Lc)),(1000003,.var [.ad 1000000 0]),(1000004,.var [iSl H]),(4,.var (qP (aS Lc n H w)).cells)]) (λw=>n-w)
  0 (by omega) ⟨rfl,rfl,rfl,rfl,rfl,rfl,HB⟩ ⟨rfl,rfl,rfl,rfl,rfl,rfl,HB⟩ (λw hw=>?_)
 refine ae (λh1=>?_) (λh1=>?_)
 ·have hw':w<n:=by omega
  have hsb:=hB.sum H hw;have hpb:=hB.prob H (w:Int);have hadd:=iz (p:=aS Lc n H w) (q:=a9 Lc n H w) (by rw[au hsb]; exact hsb) (by rw[au hpb]; exact hpb) (by rw[au hsb]; exact jh hx H w) (by omega);rw[au hsb,au hpb]at hadd;have hitem:(dL Lc n H)[w]? = some [.c (nI .i64 w),pA (cP Lc n H w)]:=by
   unfold dL;rw[EH,G9 hw']; rfl
  refine X2 (.same σx 1000001) ?_;refine ⟨rfl,_,hP w,?_⟩;refine .intro rfl ?_;refine ⟨dL Lc n H,I,X,w,hY,rfl,hitem,?_,?_⟩
  ·refine X1 _ hadd ?_;refine X1 ((w+1:Nat):Int) (wI (by simp) (by omega) (by omega)) ?_;exact ⟨w+1,by omega,by omega,⟨rfl,rfl,rfl,rfl,rfl,rfl,HB⟩,⟨rfl,rfl,rfl,rfl,rfl,rfl,HB⟩⟩
  ·exact ⟨HB,.inr rfl,cv (l:=[]) rfl rfl rfl trivial⟩
 ·have e:w=n:=by omega
  subst e;have hlen:(dL Lc w H).length=w:=by simp[dL]
  exact ⟨HB,.inl (by rw[hlen]; rfl),cv (l:=[]) rfl rfl rfl trivial⟩
theorem Ac {n B:Nat} (hB:SB Lc n B) (H:List Int) (hP:Cr Lc n H) (u:Fr2) {j:Nat} (hu:Bd j u) (hj:j≤900000):CtO P 29 (xE Lc n) [.c (.ad 1000000 0),.c (iSl H),qP u] (xE Lc n) [.c (eI .i64 (eW Lc n H u))]:=by
 have h6:=hB.x.w6;have hb:=hB.b;refine Ct.io aj aa (N:=27) Tryz.func29 rfl rfl rfl rfl ?_;refine X2 (.own σx νC) ?_;refine ⟨_,_,wN H,?_⟩;refine qi aj aa σC [1000000,1000001] (uv hB H hP) Tryz.func114 rfl rfl rfl rfl rfl rfl rfl oH [5,6] rfl (G:=Unit) (λi _=>i≤n∧∀ k,k<i→inP Lc n H u k=false) (λ_ _=>[(5,.c (.ad 5 0)),(6,.c (.ad 6 0))])
  (λ_ _=>[(5,.var (qP u).cells),(6,.var [eI .i64 0])]) () ⟨by omega,λk hk=>by omega⟩ ⟨rfl,rfl,HB⟩ ⟨rfl,rfl,HB⟩ (λ_ _=>rfl) (λi _ args hg hi=>?_) (λ_ hi=>?_)
 ·obtain ⟨hin,rfl⟩:=lN hg;obtain ⟨i1,i2⟩:=hi;have hsb:=hB.sum H (w:=i) (by omega);have hpb:=hB.prob H (i:Int);have hend:=qX (p:=cP Lc n H i) (j:=B) (k:=B) (show Bd B (aS Lc n H (i:Int).toNat) by rw[EX]; exact hsb) hpb (show Nat.gcd (aS Lc n H (i:Int).toNat).1 (aS Lc n H (i:Int).toNat).2=1 by rw[EX]; exact jh hB.x H i) (by omega);have hsb2:Bd B (aS Lc n H (i+1)):=hB.sum H (w:=i+1) (by omega);have e1:bH (cP Lc n H i).1 (cP Lc n H i).2=aS Lc n H (i+1):=by show bH (aS Lc n H (i:Int).toNat) _=_; rw[EX]; rfl
  rw[e1]at hend;have e2:(cP Lc n H i).1=aS Lc n H i:=by show aS Lc n H (i:Int).toNat=_; rw[EX]
  have hc1:=iY u.1 u.2 (aS Lc n H i).1 (aS Lc n H i).2 (bL hu (by omega)) (bL hsb (by omega));have hc2:=iY u.1 u.2 (aS Lc n H (i+1)).1 (aS Lc n H (i+1)).2 (bL hu (by omega)) (bL hsb2 (by omega));rw[fW hsb.pos,fW hu.pos]at hc1;rw[fW hsb2.pos,fW hu.pos]at hc2;rw[←e2]at hc1;have hin1:inP Lc n H u i=(decide (bC ((u.1*(aS Lc n H i).2:Nat):Int) (((aS Lc n H i).1*u.2:Nat):Int)≥0)&&decide (bC ((u.1*(aS Lc n H (i+1)).2:Nat):Int) (((aS Lc n H (i+1)).1*u.2:Nat):Int)<0)):=by
   unfold inP;congr 1
   ·refine decide_eq_decide.2 ?_;unfold bC;split
    ·constructor<;>intro h<;>omega
    ·split<;>constructor<;>intro h<;>omega
   ·refine decide_eq_decide.2 ?_;rw[cmpI_lt];omega
  rw[←e2]at hin1;have next:inP Lc n H u i=false→∃ g':Unit,(i+1≤n∧∀ k,k<i+1→inP Lc n H u k=false):=λhf=>⟨(),by omega,λk hk=>by
   by_cases e:k=i
   ·rw[e]; exact hf
   ·exact i2 k (by omega)⟩
  refine X1 _ hc1 ?_;refine ae (λh1=>?_) (λh1=>?_)
  ·refine X1 _ hend ?_;refine X1 _ hc2 ?_;refine .intro rfl ?_;refine ae (λh2=>?_) (λh2=>?_)
   ·rw[decide_eq_true h1,decide_eq_true h2]at hin1;have e:eW Lc n H u=i:=fu hB.x hu.pos hin hin1;refine ⟨[(6,.c (.ad 6 0))],[(6,.var [nI .i64 i])],⟨rfl,HB⟩,⟨rfl,HB⟩,(λp hp=>by simp at hp; subst hp; rfl),?_⟩;rw[e];exact ⟨HB,cv (l:=[]) rfl rfl rfl trivial,rc rfl,HB⟩
   ·rw[decide_eq_false h2,GQ]at hin1;obtain ⟨_,g1,g2⟩:=next hin1;exact ⟨(),⟨g1,g2⟩,⟨rfl,rfl,HB⟩,⟨rfl,rfl,HB⟩⟩
  ·rw[decide_eq_false h1,Hg]at hin1;obtain ⟨_,g1,g2⟩:=next hin1;refine .intro rfl ?_;exact ⟨(),⟨g1,g2⟩,⟨rfl,rfl,HB⟩,⟨rfl,rfl,HB⟩⟩
 ·obtain ⟨i1,i2⟩:=hi;have hlen:(dL Lc n H).length=n:=by simp[dL]
  have e:eW Lc n H u = -1:=fN _ 0 λk _ hk=>i2 k (by rw[hlen]; omega)
  rw[e];exact ⟨HB,cv (l:=[]) rfl rfl rfl trivial,rc rfl,HB⟩
end
theorem wO (H:List Int):CtO P 71 [] [tm,.c (iSl H)] [(2,some (.var [.sc (.pointer none)])),(3,some (.var [iSl H]))] [.c (.fn 114 [.ad 2 0,.ad 3 0])]:=by
 refine Ct.keep aj aa [] (N:=6) Tryz.func71 rfl rfl rfl rfl ?_;refine X1 [.ad 2 0,.ad 3 0] rfl ?_;exact ⟨HB,SubO.of (l:=[(2,.var [.sc (.pointer none)]),(3,.var [iSl H])]) ⟨rfl,rfl,HB⟩,r1 rfl,HB⟩
theorem uw (H:List Int):CtIO P 114 [(1000003,some (.var [.sc (.pointer none)])),(1000004,some (.var [iSl H]))] [.c (.ad 1000003 0),.c (.ad 1000004 0)] [] []:=by
 refine CtIO.walk (Ty.own_ok [1000001,1000003] aj) aa (N:=30) Tryz.func114 rfl rfl rfl rfl rfl (λv I X hv hY=>?_);refine X1 _ (be 0 (by omega)) ?_;refine X1 _ wM ?_;refine b8 (Ty.own_ok [1000001,1000003] aj) aa (λ_:Unit=>True) (λ_=>[(9,.c (eI .i64 0)),(10,.c (eI .i64 0))]) (λ_=>[(2000000,.abs (I 0))]) (λ_=>0)
  () trivial ⟨rfl,rfl,HB⟩ ⟨rfl,HB⟩ (λ_ _=>?_)
 exact ⟨HB,.inl rfl,SubO.of (l:=[]) trivial⟩
theorem Ad (H:List Int) (u:Fr2):Ct P 29 [tm,.c (iSl H),qP u] [.c (eI .i64 (-1))]:=by
 refine Ct.io (Ty.own_ok [71] aj) aa (N:=27) Tryz.func29 rfl rfl rfl rfl ?_;refine X2 (.own [] [(2,61),(3,62)]) ?_;refine ⟨_,_,wO H,?_⟩;refine qi (Ty.own_ok [71] aj) aa [(61,1000003),(62,1000004)] [] (uw H) Tryz.func114 rfl rfl rfl rfl rfl rfl rfl (λ_ h=>by cases h) [5,6] rfl (G:=Unit) (λ_ _=>True) (λ_ _=>[(5,.c (.ad 5 0)),(6,.c (.ad 6 0))])
  (λ_ _=>[(5,.var (qP u).cells),(6,.var [eI .i64 0])]) () trivial ⟨rfl,rfl,HB⟩ ⟨rfl,rfl,HB⟩ (λ_ _=>rfl) (λi _ args hg hi=>by simp at hg) (λ_ hi=>?_)
 exact ⟨HB,SubO.of (l:=[]) trivial,rc rfl,HB⟩
theorem pX (ids:List Int):Ct P 43 [tm,.c (iSl ids)] [.c (eI .i64 11)]:=by
 refine Ct.go aj aa (N:=29) Tryz.func43 rfl rfl rfl rfl ?_;exact ⟨HB,r1 rfl,HB⟩
theorem ux (ids:List Int):Ct P 13 [tm,.c (iSl ids)] [oK,.c (eI .i64 11)]:=by
 refine Ct.go aj aa (N:=31) Tryz.func13 rfl rfl rfl rfl ?_;refine X1 _ (pX ids) ?_;exact ⟨HB,r1 rfl,r1 rfl,HB⟩
theorem Ae (ids:List Int):Ct P 28 [tm,.c (iSl ids)] [zA,zA,.c (eI .i64 11)]:=by
 refine Ct.go aj aa (N:=24) Tryz.func28 rfl rfl rfl rfl ?_;refine X1 _ (pX ids) ?_;exact ⟨HB,rc rfl,rc rfl,r1 rfl,HB⟩
theorem uy:Ct P 18 [tm,oK,.c (eI .i64 1)] [.c (.sc (.slice none 0 0)),.c (eI .i64 11)]:=by
 refine Ct.go aj aa (N:=73) Tryz.func18 rfl rfl rfl rfl ?_;exact ⟨HB,r1 rfl,r1 rfl,HB⟩
end
end Go.Proofs.YtgceikecdedfcaaGreat.Pv
