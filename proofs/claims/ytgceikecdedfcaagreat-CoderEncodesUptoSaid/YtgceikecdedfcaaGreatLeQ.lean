/- Parts of a proof, joined: Hc Hi Hy Hv Hf Hg Hh Hl Hd. -/
import Derived.Test.YtgceikecdedfcaaGreatLeP
namespace Go.Proofs.YtgceikecdedfcaaGreat.Pv
open Go
section
def upF (a:Fr2):Nat:=if a.1/a.2*a.2<a.1 then a.1/a.2+1 else a.1/a.2
theorem oP {a:Fr2} (h:a.2≠0):a.1≤upF a*a.2∧upF a*a.2<a.1+a.2:=by
 have h1:=FV a.1 a.2;have h2:=FM a.1 (Fl h);rw[E5]at h1;unfold upF;split
 ·rw[E8,Fx]; omega
 ·omega
theorem DB {n d:Nat} (h:d≠0):upF (fR n d)=upF (n,d):=by
 have hg:Nat.gcd n d≠0:=λe=>h (GH e)
 obtain ⟨a,ha⟩:=Ho n d;obtain ⟨b,hb⟩:=GO n d;unfold fR;generalize Nat.gcd n d=g at *
 subst ha hb;unfold upF;have hp:=Fl hg;simp only;rw[Gh _ hp,Gh _ hp,Nat.mul_div_mul_left _ _ hp];have e:a/b*(g*b)=g*(a/b*b):=by rw[FL]
 rw[e];by_cases hc:a/b*b<a
 ·rw[if_pos hc,if_pos (Nat.mul_lt_mul_of_pos_left hc hp)]
 ·rw[if_neg hc,if_neg (by
   have:=FF g (FU hc);omega)]
theorem Ec {c n d:Nat} (h:d≠0):c*(fR n d).2≤(fR n d).1↔c*d≤n:=by
 have hg:Nat.gcd n d≠0:=λe=>h (GH e)
 obtain ⟨a,ha⟩:=Ho n d;obtain ⟨b,hb⟩:=GO n d;unfold fR;generalize Nat.gcd n d=g at *
 subst ha hb;have hp:=Fl hg;simp only;rw[Gh _ hp,Gh _ hp,FL];exact ⟨λh=>FF g h,λh=>Nat.le_of_mul_le_mul_left h hp⟩
def gu (p:Fr2 × Fr2):Fr2:=bA p.1 p.2
def vK (p:Fr2 × Fr2) (k:Nat):Nat:=upF (p.1.1*2^k,p.1.2)
def good (p:Fr2 × Fr2) (k:Nat):Bool:=decide ((vK p k+1)*(gu p).2≤(gu p).1*2^k)
structure IsCode (p:Fr2 × Fr2) (k:Nat):Prop where
 good:good p k=true
 least:∀ j,j<k→Pv.good p j=false
theorem z0 {p:Fr2 × Fr2}:∀ {K:Nat},good p K=true→∃ k,k≤K∧IsCode p k:=by
 intro K
 induction K using Nat.strongRecOn with
 | ind K ih=>
  intro h;by_cases hl:∃ j,j<K∧good p j=true
  ·obtain ⟨j,h1,h2⟩:=hl;obtain ⟨k,a1,a2⟩:=ih j h1 h2;exact ⟨k,by omega,a2⟩
  ·exact ⟨K,EM _,h,λj hj=>by
    cases hb:good p j with
    | false=>rfl
    | true=>exact absurd ⟨j,hj,hb⟩ hl⟩
theorem IsCode.uniq {p:Fr2 × Fr2} {j k:Nat} (h1:IsCode p j) (h2:IsCode p k):j=k:=by
 rcases Ga j k with h | h | h
 ·have:=h2.least j h; rw[h1.good]at this; cases this
 ·exact h
 ·have:=h1.least k h; rw[h2.good]at this; cases this
theorem gv (k:Nat):(0:Rat)<((2^k:Nat):Rat):=Gw.2 (FE k)
theorem B1 {p:Fr2 × Fr2} (h1:p.1.2≠0) (h2:p.2.2≠0) {k:Nat} (h:2≤((2^k:Nat):Rat)*qv p.2):good p k=true:=by
 have hs:=(oP (a:=(p.1.1*2^k,p.1.2)) h1).2;have he:=iI h1 h2;have hep:(gu p).2≠0:=gr h1 h2;unfold good;rw[decide_eq_true_eq];unfold vK;generalize upF (p.1.1*2^k,p.1.2)=v at *
 have b1:(0:Rat)<p.1.2:=Gw.2 (Fl h1);have b2:(0:Rat)<(gu p).2:=Gw.2 (Fl hep);have c1:=Rat.natCast_lt_natCast.2 hs;simp only[FP,Gv]at c1;have c2:(v:Rat)<qv p.1*((2^k:Nat):Rat)+1:=by
  have e:qv p.1*((2^k:Nat):Rat)+1=((p.1.1:Rat)*((2^k:Nat):Rat)+p.1.2)/p.1.2:=by unfold qv; grind
  rw[e,Rat.lt_div_iff b1];exact c1
 have c3:((v:Rat)+1)≤qv (gu p)*((2^k:Nat):Rat):=by
  show _≤qv (bA p.1 p.2)*_
  rw[he];grind
 apply Gs.1;simp only[FP,Gv];have e:qv (gu p)*((2^k:Nat):Rat)=((gu p).1:Rat)*((2^k:Nat):Rat)/(gu p).2:=by unfold qv; grind
 rw[e,gZ b2]at c3;exact c3
theorem vF {p:Fr2 × Fr2} (h1:p.1.2≠0) (h2:p.2.2≠0) {k:Nat} (h:good p k=true):qv p.1≤(vK p k:Rat)/((2^k:Nat):Rat)∧((vK p k:Rat)+1)/((2^k:Nat):Rat)≤qv p.1+qv p.2:=by
 have hs:=(oP (a:=(p.1.1*2^k,p.1.2)) h1).1;have hep:(gu p).2≠0:=gr h1 h2;have b1:(0:Rat)<p.1.2:=Gw.2 (Fl h1);have b2:(0:Rat)<(gu p).2:=Gw.2 (Fl hep);have b3:=gv k;unfold good at h;rw[decide_eq_true_eq]at h;have c1:=Gs.2 hs;have c2:=Gs.2 h;simp only[FP,Gv]at c1 c2;constructor
 ·rw[gZ b3];have e:qv p.1*((2^k:Nat):Rat)=(p.1.1:Rat)*((2^k:Nat):Rat)/p.1.2:=by unfold qv; grind
  rw[e,k5 b1];exact c1
 ·rw[←iI h1 h2,k5 b3];show _≤qv (gu p)*_
  have e:qv (gu p)*((2^k:Nat):Rat)=((gu p).1:Rat)*((2^k:Nat):Rat)/(gu p).2:=by unfold qv; grind
  rw[e,gZ b2];exact c2
def ca:Nat→Nat→List Bool
 | _,0=>[]
 | v,k+1=>ca (v/2) k++[decide (v%2=1)]
def valB (l:List Bool):Nat:=l.foldl (λv b=>2*v+b.toNat) 0
theorem p8 (l:List Bool) (b:Bool):valB (l++[b])=2*valB l+b.toNat:=by simp[valB,G1]
theorem gw:∀ (k v:Nat),(ca v k).length=k
 | 0,_=>rfl
 | k+1,v=>by simp[ca,gw k]
theorem p9:∀ (k v:Nat),v<2^k→valB (ca v k)=v
 | 0,v,h=>by
  have:v=0:=by simpa using h
  subst this; rfl
 | k+1,v,h=>by
  rw[Fj]at h;rw[ca,p8,p9 k (v/2) (by omega)];by_cases hv:v%2=1
  ·rw[decide_eq_true hv]; show 2*(v/2)+1=v; omega
  ·rw[decide_eq_false hv]; show 2*(v/2)+0=v; omega
theorem nk (l:List Bool):valB l<2^l.length:=by
 have key:∀ (l:List Bool) (a m:Nat),a<2^m→l.foldl (λv b=>2*v+b.toNat) a<2^(m+l.length):=by
  intro l
  induction l with
  | nil=>intro a m h; exact h
  | cons b l ih=>
   intro a m h;rw[List.foldl_cons,Fo,show m+(l.length+1)=(m+1)+l.length by omega];refine ih _ (m+1) ?_;rw[Fj];cases b<;>simp only[Bool.toNat_true,Bool.toNat_false]<;>omega
 have:=key l 0 0 (by decide);rwa [FC]at this
section
variable {Lc:List (List Cnt)} {n:Nat}
def bv (Lc:List (List Cnt)) (n:Int) (ids:List Int):Fr2 × Fr2:=fc Lc n ((0,1),(1,1)) [1] ids
theorem jf (hx:XOk Lc n) (ids:List Int):(bv Lc n ids).1.2≠0∧(bv Lc n ids).2.2≠0∧qv (bv Lc n ids).1=spA Lc n [1] ids∧qv (bv Lc n ids).2=spB Lc n [1] ids:=by
 obtain ⟨a1,a2,a3,a4⟩:=tj hx ids [1] ((0,1),(1,1)) (by show (1:Nat)≠0; decide) (by show (1:Nat)≠0; decide);have e0:qv (0,1)=0:=by rw[eH]; rfl
 have e1:qv (1,1)=1:=by rw[eH]; rfl
 refine ⟨a1,a2,?_,?_⟩
 ·show qv (fc Lc n ((0,1),(1,1)) [1] ids).1=_
  rw[a3,e0,e1]; grind
 ·show qv (fc Lc n ((0,1),(1,1)) [1] ids).2=_
  rw[a4,e1]; grind
structure PlainW (n:Int) (ids:List Int):Prop where
 rg:InW n ids
 no2:∀ w,w∈ids→w≠2
theorem DC (hx:XOk Lc n) (he:∀ l,l∈Lc→eV n l) {ids:List Int} (hp:PlainW n ids) (h2:2<n) {u:Fr2} (hu:u.2≠0) (h3:qv (bv Lc n (ids++[2])).1≤qv u) (h4:qv u<qv (bv Lc n (ids++[2])).1+qv (bv Lc n (ids++[2])).2) (f:Nat) :
  o5 Lc n f [1] u=if ids.length<f then some ids else none:=by
 obtain ⟨_,_,a3,a4⟩:=jf hx (ids++[2]);rw[a3]at h3;rw[a3,a4]at h4;rw[tk hx he ids [1] u f hu hp.rg h2 hp.no2 h3 h4];rfl
def o6 (l:List Bool):Fr2:=fR (valB l) (2^l.length)
theorem oQ (l:List Bool):(o6 l).2≠0∧qv (o6 l)=(valB l:Rat)/((2^l.length:Nat):Rat):=by
 have h:2^l.length≠0:=Nat.pos_iff_ne_zero.1 (FE _);exact ⟨iC h,pV h⟩
theorem Ed (hx:XOk Lc n) (he:∀ l,l∈Lc→eV n l) {r:List Int} (hr:InW n r) {k:Nat} (hg:good (bv Lc n r) k=true):vK (bv Lc n r) k<2^k:=by
 obtain ⟨a1,a2,a3,a4⟩:=jf hx r;have h1:=(vF a1 a2 hg).2;obtain ⟨_,_,i3⟩:=vE hx he r [1] hr;rw[a3,a4,k5 (gv k)]at h1;have h5:((vK (bv Lc n r) k+1:Nat):Rat)≤((2^k:Nat):Rat):=by
  rw[Gv,show ((1:Nat):Rat)=1 from rfl];have:=Rat.mul_le_mul_of_nonneg_right i3 (Rat.le_of_lt (gv k));grind
 have:=Gs.1 h5;omega
theorem DD (hx:XOk Lc n) (he:∀ l,l∈Lc→eV n l) {r:List Int} (hr:InW n r) {k:Nat} (hg:good (bv Lc n r) k=true) :
  qv (bv Lc n r).1≤qv (o6 (ca (vK (bv Lc n r) k) k))∧qv (o6 (ca (vK (bv Lc n r) k) k))<qv (bv Lc n r).1+qv (bv Lc n r).2:=by
 obtain ⟨a1,a2,_,_⟩:=jf hx r;obtain ⟨h1,h2⟩:=vF a1 a2 hg;rw[(oQ _).2,p9 k _ (Ed hx he hr hg),gw];refine ⟨h1,?_⟩;have h3:(vK (bv Lc n r) k:Rat)/((2^k:Nat):Rat)<((vK (bv Lc n r) k:Rat)+1)/((2^k:Nat):Rat):=by
  rw[Hz (gv k),Rat.div_mul_cancel (λe=>by have:=gv k; rw[e]at this; exact absurd this (by decide))];grind
 grind
theorem EG {ids:List Int} (h2:2<n) (hp:PlainW n ids):InW n (ids++[2]):=λx hx=>by
 rcases Fu.1 hx with hx | hx
 ·exact hp.rg x hx
 ·simp at hx; subst hx; omega
theorem z6 (hx:XOk Lc n) (he:∀ l,l∈Lc→eV n l) {ids:List Int} (hp:PlainW n ids) (h2:2<n) {k:Nat} (hg:good (bv Lc n (ids++[2])) k=true) (f:Nat) :
  o5 Lc n f [1] (o6 (ca (vK (bv Lc n (ids++[2])) k) k))=if ids.length<f then some ids else none:=by
 obtain ⟨h3,h4⟩:=DD hx he (EG h2 hp) hg;exact DC hx he hp h2 (oQ _).1 h3 h4 f
end
end
section
abbrev pA (p:Fr2 × Fr2):A1:=.ag [nSl .u64 (dg 18446744073709551616 p.1.1),nSl .u64 (dg 18446744073709551616 p.1.2),nSl .u64 (dg 18446744073709551616 p.2.1),nSl .u64 (dg 18446744073709551616 p.2.2)]
theorem gx {v k:Nat} (h:v<2^k) (hk:k≤2000000):(dg 18446744073709551616 v).length≤40000:=by
 by_cases h0:k=0
 ·subst h0;have:v=0:=by simpa using h
  subst this;exact EQ (b9 (k:=1) (by omega) (by omega)) (by omega)
 ·exact (cC (p:=(v,1)) (az h (by omega)) hk).1
theorem k6 {n d k:Nat} (hd:d≠0) (hn:n<2^k) (hd2:d<2^k) (hk:k≤2000000):Ct P 99 [nV n,nV d] [qP (fR n d),.c (eI .i64 0)]:=by
 have l1:=gx hn hk;have l2:=gx hd2 hk;refine Ct.go aj aa (N:=12) Tryz.func99 rfl rfl rfl rfl ?_;refine X1 _ (fC d (by omega)) ?_;refine aP (λh=>?_) (λ_=>?_)
 ·exact absurd (by simpa using h) hd
 refine X1 _ (iB n d hd (by omega) (by omega)) ?_;exact ⟨HT,rc rfl,r1 rfl,HT⟩
theorem z7 {a:Fr2} {k:Nat} (h:Bd k a) (hk:k≤2000000):Ct P 143 [qP a] [nV (a.1/a.2)]:=by
 have l1:=gx h.n hk;have l2:=gx h.d hk;refine Ct.go aj aa (N:=16) Tryz.func143 rfl rfl rfl rfl ?_;refine X1 _ (cZ _ _) ?_;refine X1 _ (cd _ _ (by omega)) ?_;rw[jq h.pos];refine X1 _ (mY _ _ h.pos (by omega) (by omega)) ?_;refine .intro rfl ?_;exact ⟨HT,rc rfl,HT⟩
theorem gy {n k j:Nat} (h:n<2^k):n*2^j<2^(k+j):=by rw[FH]; exact FX h (FE j)
theorem tm {a:Fr2} {k j:Nat} (h:Bd k a):Bd (k+j) (fR (a.1*2^j) a.2):=pM h.pos (gy h.n) (EW h.d (EX (by omega) (by omega)))
theorem tn {a:Fr2} {k j:Nat} (h:Bd k a) (hk:k+j≤900000):Ct P 98 [qP a,.c (nI .i64 j)] [qP (fR (a.1*2^j) a.2)]:=by
 have l1:=gx h.n (by omega);have l2:=gx h.d (by omega);refine Ct.go aj aa (N:=18) Tryz.func98 rfl rfl rfl rfl ?_;refine X1 _ (cZ _ _) ?_;refine X1 _ (pI a.1 j (by omega) (by omega)) ?_;refine X1 _ (cd _ _ (by omega)) ?_;rw[jq h.pos];refine X1 _ (k6 (k:=k+j) h.pos (gy h.n) (EW h.d (EX (by omega) (by omega))) (by omega)) ?_;refine .intro rfl ?_;exact ⟨HT,rc rfl,HT⟩
theorem DE {a:Fr2} {k:Nat} (h:Bd k a):upF a<2^(k+1):=by
 have h1:=(oP h.pos).2;have h2:=Fl h.pos;have h3:=h.n;have h4:=h.d;have:upF a≤upF a*a.2:=Nat.le_mul_of_pos_right _ h2;rw[Fj];omega
theorem DF {a:Fr2} {k:Nat} (h:Bd k a) (hk:k≤900000):Ct P 97 [qP a] [nV (upF a)]:=by
 have l1:=gx h.n (by omega);have l2:=gx h.d (by omega);have hq:a.1/a.2≤a.1:=FZ _ _;have hn:a.1/a.2<2^(k+1):=by rw[Fj]; have:=h.n; omega
 have l3:=gx hn (by omega);have h1:(1:Nat)<2^(k+1):=EW (by decide) (EX (n:=2) (by omega) (show 1≤k+1 by omega));have hw:fR (a.1/a.2) 1=(a.1/a.2,1):=vl (HA _);have hof:=k6 (k:=k+1) (n:=a.1/a.2) (d:=1) (by omega) hn h1 (by omega);rw[hw]at hof;have hcmp:=m8 (a.1/a.2) 1 a.1 a.2 (cC (az hn (by omega)) (by omega)) (cC h (by omega));rw[jq h.pos,show dn 1=1 from rfl,F5]at hcmp;refine Ct.go aj aa (N:=22) Tryz.func97 rfl rfl rfl rfl ?_;refine X1 _ (z7 h (by omega)) ?_;refine X1 _ (f0 1 (by omega)) ?_;refine X1 _ hof ?_;refine .intro rfl ?_;refine X1 _ hcmp ?_;refine ah (λhc=>?_) (λhc=>?_)
 ·refine X1 _ (f0 1 (by omega)) ?_;refine X1 _ (mW _ _ (by omega) (EQ (gx h1 (by omega)) (by omega))) ?_;refine .intro rfl ?_;have e:upF a=a.1/a.2+1:=if_pos (by have:=cmpI_lt.1 hc; omega);rw[e];exact ⟨HT,rc rfl,HT⟩
 ·have e:upF a=a.1/a.2:=if_neg (λh2=>hc (cmpI_lt.2 (by omega)));rw[e];exact ⟨HT,rc rfl,HT⟩
theorem vG {p:Fr2 × Fr2} {j k:Nat} (h1:Bd j p.1) (h2:Bd k p.2) (hr:Nat.gcd p.1.1 p.1.2=1) (hk:j+k<900000):Ct P 73 [pA p] [qP (bA p.1 p.2)]:=by
 have hadd:=kR (p:=p.1) (q:=p.2) (by rw[ay h1]; exact h1) (by rw[ay h2]; exact h2) (by rw[ay h1]; exact hr) (by omega);rw[ay h1,ay h2]at hadd;refine Ct.go (Ty.own_ok [1000001,1000003] aj) aa (N:=9) Tryz.func73 rfl rfl rfl rfl ?_;refine X1 _ hadd ?_;exact ⟨HT,rc rfl,HT⟩
theorem wN {p q:Fr2 × Fr2} {j k:Nat} (h1:Bd j p.1) (h2:Bd j p.2) (h3:Bd k q.1) (h4:Bd k q.2) (hr:Nat.gcd p.1.1 p.1.2=1) (hk:2*j+k<300000):Ct P 96 [pA p,pA q] [pA (q7 p q)]:=by
 have hm1:=eL (p:=p.2) (q:=q.1) (by rw[ay h2]; exact h2) (by rw[ay h3]; exact h3) (by omega) (by omega);have hm2:=eL (p:=p.2) (q:=q.2) (by rw[ay h2]; exact h2) (by rw[ay h4]; exact h4) (by omega) (by omega);have hb:=bh h2 h3;have hadd:=kR (p:=p.1) (q:=cM p.2 q.1) (by rw[ay h1]; exact h1) (by rw[ay hb]; exact hb) (by rw[ay h1]; exact hr) (by omega);rw[ay h2,ay h3]at hm1;rw[ay h2,ay h4]at hm2;rw[ay h1,ay hb]at hadd;refine Ct.go (Ty.own_ok [1000001] aj) aa (N:=20) Tryz.func96 rfl rfl rfl rfl ?_;refine X1 _ hm1 ?_;refine X1 _ hadd ?_;refine X1 _ hm2 ?_;refine .intro rfl ?_;exact ⟨HT,rc rfl,HT⟩
theorem g9 {n k:Nat} {els els2:List (List PC)} {X:Prop} (hn:n=els.length) (h:els.length+els2.length≤4000000) (hk:k≤64) (h1:ax els) (h2:ax els2) (hX:X) :
  n=els.length∧(els.length+els2.length+768)*k≤17592186044416∧els.length+els2.length≤35184372088832∧ax els∧ax els2∧X:=
 ⟨hn,EQ (FF _ hk) (by omega),by omega,h1,h2,hX⟩
theorem Ee {v k m:Nat} (h:v<2^k) (hk:k≤8*m):(dg 256 v).length≤m:=b9 (by omega) (EW h (ou hk))
theorem o7 {v k:Nat} (h:v<2^k) (hk:k≤2000000):(dg 256 v).length≤250000:=Ee h hk
theorem wO (n:Nat):Dig 256 (List.replicate n 0):=λx hx=>by rw[FG hx]; omega
theorem DG (n:Nat):2^n=256^(n/8)*2^(n%8):=by
 rw[show (256:Nat)=2^8 from rfl,←Nat.pow_mul,←FH];congr 1; omega
theorem vH (a n:Nat) (ha:(dg 256 a).length≤300000) (hn:n≤1000000):Ct P 58 [.c (dV a),.c (nI .i64 n)] [.c (dV (a*2^n))]:=by
 have hA:=bq (B:=256) (by omega) a;have hd:Dig 256 (List.replicate (n/8) 0++dg 256 a):=(wO _).app hA;have hv:val 256 (List.replicate (n/8) 0++dg 256 a)=256^(n/8)*a:=by rw[iR,kr,bf (by omega),Gf,FC]
 refine Ct.go aj aa (N:=31) Tryz.func58 rfl rfl rfl rfl ?_;refine ⟨rfl,by rw[ae]; show (0+(dg 256 a).length+768)*8≤_; omega,by rw[ae]; show 0+(dg 256 a).length≤_; omega,bj,bU,?_⟩;refine ul [8] ?_;refine jH (λi:Nat=>i≤n/8) (λi=>[(1,.c (nI .i64 n)),(5,.c (nSl .i64 (List.replicate i 0++dg 256 a))),(6,.c (nI .i64 i))]) (λ_=>[]) (λi=>n/8-i)
  0 (by omega) ⟨rfl,mE rfl,rfl,HT⟩ HT (λ_:Unit=>True) (λ_=>[(1,.c (nI .i64 n)),(5,.c (nSl .i64 (List.replicate (n/8) 0++dg 256 a)))]) (λ_=>[]) (λi hi=>?_) (λ_ _=>?_)
 ·refine jG ?_;refine dI aj aa ?_;refine .intro (by decide) (X1 ((n/8:Nat):Int) (ic rfl) (.intro ⟨by omega,by omega⟩ ?_));refine kH (b:=decide ((i:Int)<((n/8:Nat):Int))) rfl (λe=>?_) (λe=>?_)
  ·have hi':i<n/8:=by have:=of_decide_eq_true e; omega
   refine mw ?_;refine jG ?_;refine gU ?_;refine bK aj aa ?_;refine ⟨rfl,by rw[ae,EL,Gf]; show (1+(i+(dg 256 a).length)+768)*8≤_; omega,by rw[ae,EL,Gf]; show 1+(i+(dg 256 a).length)≤_; omega,fo,bU,?_⟩;refine ul [17] ?_;refine bK aj aa ?_;refine X1 ((i+1:Nat):Int) (wI1 (by omega)) ?_;exact ⟨i+1,by omega,by omega,⟨rfl,mE rfl,rfl,HT⟩,HT⟩
  ·have e1:i=n/8:=by have:=of_decide_eq_false e; omega
   subst e1;exact bK aj aa ⟨(),HT,⟨rfl,rfl,HT⟩,HT⟩
 ·have hlb:∀ j,j≤8→(dg 256 (256^(n/8)*a*2^j)).length≤(dg 256 a).length+n/8+1:=λj hj=>by
   apply b9 (by omega);have h1:=bl (B:=256) (by omega) a;have h2:2^j≤2^8:=EX (by omega) hj;rw[Fj,FH,E5 (256^(n/8))];have h3:0<256^(n/8):=HL (by omega)
   calc a*256^(n/8)*2^j≤a*256^(n/8)*256:=FF _ h2
    _<_:=FX (FX h1 h3) (by omega)
  refine bK aj aa ?_;refine aw aj aa (G:=List Nat × Nat) (λ(l,j)=>j≤n%8∧Dig 256 l∧val 256 l=256^(n/8)*a*2^j∧l.length≤450000) (λ(l,j)=>[(1,.c (nI .i64 n)),(5,.c (nSl .i64 l)),(7,.c (nI .i64 j))]) (λ_=>[]) (λ(_,j)=>n%8-j)
   (List.replicate (n/8) 0++dg 256 a,0) ⟨by omega,hd,by rw[hv,GE,F5],by rw[EL,Gf]; omega⟩ ⟨rfl,rfl,rfl,HT⟩ trivial
   (λl:List Nat=>Dig 256 l∧val 256 l=a*2^n∧l.length≤450000) (λl=>[(5,.c (nSl .i64 l))]) (λ_=>[]) (λ(l,j) hi=>?_) (λl hl=>?_)
  ·obtain ⟨i1,i2,i3,i4⟩:=hi;refine .intro (by decide) (X1 ((n%8:Nat):Int) (ix rfl) (.intro ⟨by omega,by omega⟩ ?_));refine ah (λh=>?_) (λh=>?_)
   ·have hs:=pK l l i2 i2 (by omega) (by omega);have e:val 256 l+val 256 l=256^(n/8)*a*2^(j+1):=by rw[i3,Fj,←E4]; omega
    rw[e]at hs;refine X1 _ hs ?_;refine X1 ((j+1:Nat):Int) (wI (by simp) (by omega) (by omega)) ?_;exact ⟨(dg 256 (256^(n/8)*a*2^(j+1)),j+1),⟨by omega,bq (by omega) _,bf (by omega) _,by have:=hlb (j+1) (by omega); omega⟩,by show n%8-(j+1)<n%8-j; omega,⟨rfl,rfl,rfl,HT⟩,HT⟩
   ·have e:j=n%8:=by omega
    subst e;refine ⟨l,⟨i2,?_,i4⟩,⟨rfl,HT⟩,HT⟩;rw[i3,DG n,E5 (256^(n/8)) a,E4]
  ·obtain ⟨h1,h2,h3⟩:=hl;refine X1 _ (gV l (by omega)) ?_;rw[cq (by omega) h1,h2];exact ⟨HT,r1 rfl,HT⟩
theorem Ef:dg 256 2=[2]:=by rw[eY (by omega) (by omega)]; simp[ba]
theorem q8 (a:Nat):∀ k,(dg 256 a).drop k=dg 256 (a/256^k)
 | 0=>by rw[GE,G7]; rfl
 | k+1=>by
  rw[←Gr,q8 a k,Fj,←FY];generalize a/256^k=x;by_cases h:x=0
  ·subst h; rw[ba]; rfl
  ·rw[eY (by omega) h]; rfl
theorem wP (a n:Nat) (ha:(dg 256 a).length≤300000) (hn:n≤1000000):Ct P 108 [.c (dV a),.c (nI .i64 n)] [.c (dV (a/2^n))]:=by
 refine Ct.go aj aa (N:=38) Tryz.func108 rfl rfl rfl rfl ?_;refine ah (λh=>?_) (λh=>?_)
 ·have e:n=0:=by omega
  subst e;rw[GE,G7];exact ⟨HT,r1 rfl,HT⟩
 refine .intro (by decide) (X1 ((n/8:Nat):Int) (ic rfl) (.intro ⟨by omega,by omega⟩ ?_));refine .intro (by rw[ae]; omega) ?_;rw[ae];refine ah (λh2=>?_) (λh2=>?_)
 ·have e:a/2^n=0:=by
   rw[DG n,←FY,Ge (a:=a) (EW (bl (by omega) a) (EX (by omega) (by omega))),Hw]
  rw[e,show dV 0 = .sl 1 [] by rw[dV,ba]; rfl];exact ⟨HT,⟨_,rfl,dj 1⟩,HT⟩
 refine .intro (by decide) (X1 ((n/8:Nat):Int) (ic rfl) (.intro ⟨by omega,by omega⟩ ?_));refine ⟨n/8,(dg 256 a).length,rfl,by rw[ae]; rfl,by omega,by rw[ae]; omega,?_⟩;rw[gl,q8,Fs (by rw[←q8,Fv]; exact EM _)];have hle:∀ j,(dg 256 (a/j)).length≤300000:=λj=>EQ (aU (by omega) (FZ _ _)) ha
 have hl1:=hle (256^(n/8));refine ⟨rfl,by rw[ae]; show (0+(dg 256 (a/256^(n/8))).length+768)*8≤_; omega,by rw[ae]; show 0+(dg 256 (a/256^(n/8))).length≤_; omega,bj,bU,?_⟩;refine ul [17] ?_;refine bK aj aa ?_;refine aw aj aa (λj:Nat=>j≤n%8) (λj=>[(1,.c (nI .i64 n)),(5,.c (dV (a/256^(n/8)/2^j))),(6,.c (nI .i64 j))]) (λ_=>[]) (λj=>n%8-j)
  0 (by omega) ⟨rfl,mE (by rw[GE,G7]; rfl),rfl,HT⟩ HT (λ_:Unit=>True) (λ_=>[(5,.c (dV (a/2^n)))]) (λ_=>[]) (λj hj=>?_) (λ_ _=>?_)
 ·refine .intro (by decide) (X1 ((n%8:Nat):Int) (ix rfl) (.intro ⟨by omega,by omega⟩ ?_));refine ah (λh3=>?_) (λh3=>?_)
  ·have hlj:(dg 256 (a/256^(n/8)/2^j)).length≤300000:=by rw[FY]; exact hle _
   have hdiv:=oq (a/256^(n/8)/2^j) 2 (by omega) (by omega) (by rw[Ef]; decide);rw[show dV 2 = .sl 1 [[eI .i64 2]] by rw[dV,Ef]; rfl,FY (a/256^(n/8)) (2^j) 2,←Fj]at hdiv;refine X2 .frz ?_;refine ⟨_,hdiv,?_⟩;refine X1 ((j+1:Nat):Int) (wI (by simp) (by omega) (by omega)) ?_;exact ⟨j+1,by omega,by omega,⟨rfl,rfl,rfl,HT⟩,HT⟩
  ·have e:j=n%8:=by omega
   subst e;exact ⟨(),HT,⟨by rw[DG n,FY]; rfl,HT⟩,HT⟩
 ·have hlt:=hle (2^n);refine X1 _ (gV (dg 256 (a/2^n)) (by omega)) ?_;rw[cq (by omega) (bq (by omega) _),bf (by omega)];exact ⟨HT,r1 rfl,HT⟩
theorem z8 (n d:Nat) (hd:d≠0):upF (n,d)=if n%d=0 then n/d else n/d+1:=by
 have h:=FV n d;rw[E5]at h;unfold upF;by_cases e:n%d=0
 ·rw[if_pos e,if_neg (by simp only; omega)]
 ·rw[if_neg e,if_pos (by simp only; omega)]
theorem B2 {n d:Nat} (hd:d≠0) (hn:(dg 256 n).length≤300000) (hdl:(dg 256 d).length≤300000):Ct P 57 [.c (dV n),.c (dV d)] [.c (dV (upF (n,d)))]:=by
 have h1:(dg 256 (n/d)).length≤300000:=EQ (aU (by omega) (FZ _ _)) hn;have h2:(dg 256 (n%d)).length≤300000:=EQ (aU (by omega) (Nat.mod_le _ _)) hn;refine Ct.go aj aa (N:=20) Tryz.func57 rfl rfl rfl rfl ?_;refine X1 _ (oq n d hd (by omega) (by omega)) ?_;refine .intro (by rw[ae]; omega) ?_;rw[ae];refine ah (λh=>?_) (λh=>?_)
 ·have e:n%d≠0:=λe=>by rw[e,ba]at h; simp at h
  have hadd:=ot (n/d) 1 (by omega) (by rw[wz]; decide);rw[show dV 1 = .sl 1 [[eI .i64 1]] by rw[dV,wz]; rfl]at hadd;rw[z8 n d hd,if_neg e];refine X2 .frz ?_;refine ⟨_,hadd,?_⟩;exact ⟨HT,r1 rfl,HT⟩
 ·have e:n%d=0:=(fB (B:=256) (by omega)).1 (Fd.1 (by omega));rw[z8 n d hd,if_pos e];exact ⟨HT,r1 rfl,HT⟩
def bRw (l:List Bool):List (List PC):=l.map λb=>[.sc (.bool b)]
abbrev bSl (l:List Bool):PC:=.sl 1 (bRw l)
theorem c5 (l:List Bool):(bRw l).length=l.length:=by simp[bRw]
theorem tq (l:List Bool) (b:Bool):bRw l++[[.sc (.bool b)]]=bRw (l++[b]):=by simp[bRw]
theorem oR {l:List Bool}:ax (bRw l):=by
 intro el h;obtain ⟨x,_,rfl⟩:=Fn.1 h;rfl
theorem wQ (v k:Nat) (hv:(dg 256 v).length≤300000) (hk:k≤900000):Ct P 62 [.c (dV v),.c (nI .i64 k)] [.c (bSl (ca v k))]:=by
 refine Ct.go aj aa (N:=31) Tryz.func62 rfl rfl rfl rfl ?_;refine X1 ((k:Int)-1) (wI rfl (by omega) (by omega)) ?_;refine ii (r:=50) (t:=5) (sz:=1) rfl rfl ?_;refine aw aj aa (λi:Nat=>i≤k) (λi=>[(0,.c (dV v)),(5,.c (.ow 50 1 (k-i))),(6,.c (eI .i64 ((i:Int)-1)))]) (λi=>[(50,.row 1 (bRw (ca (v/2^i) (k-i))))]) (λi=>i)
  k (EM _) ⟨rfl,owE (by omega),rfl,HT⟩ ⟨aB (by rw[Ha]; rfl),HT⟩ (λ_:Unit=>True) (λ_=>[(5,.c (.ow 50 1 k))]) (λ_=>[(50,.row 1 (bRw (ca v k)))]) (λi hi=>?_) (λ_ _=>?_)
 ·refine ah (λh1=>?_) (λh1=>?_)
  ·obtain ⟨i,rfl⟩:∃ n,i=n+1:=⟨i-1,by omega⟩;have hbits:ca (v/2^i) (k-i)=ca (v/2^(i+1)) (k-(i+1))++[decide (v/2^i%2=1)]:=by
    rw[show k-i=k-(i+1)+1 by omega,ca,FY,←Fj]
   have hbl:=gw (k-(i+1)) (v/2^(i+1));have hle:(dg 256 (v/2^i)).length≤300000:=EQ (aU (by omega) (FZ _ _)) hv;refine X1 _ (show Ct P 108 [.c (dV v),.c (eI .i64 (((i+1:Nat):Int)-1))] [.c (dV (v/2^i))] by rw[show ((i+1:Nat):Int)-1=(i:Int) by omega]; exact wP v i hv (by omega)) ?_;refine .intro (by rw[ae]; omega) ?_;rw[ae];refine ah (λh2=>?_) (λh2=>?_)
   ·have h0:v/2^i≠0:=λe=>by rw[e,ba]at h2; simp at h2
    have hg:(dg 256 (v/2^i)).getD 0 0=v/2^i%256:=by rw[eY (by omega) h0]; rfl
    refine .intro (by omega) (X1 _ (al (n:=0) rfl (by omega)) ?_);rw[hg];refine .intro (by decide) (X1 ((v/2^i%256%2:Nat):Int) (ix rfl) (.intro ⟨by omega,by omega⟩ ?_));refine g9 (by rw[c5,hbl]) (by rw[c5,hbl]; show k-(i+1)+1≤_; omega) (by decide) oR (aq rfl) ?_;refine X1 ((i:Int)-1) (wI (by omega) (by omega) (by omega)) ?_;refine ⟨i,by omega,by omega,⟨rfl,owE (by rw[EL,c5,hbl]; show k-(i+1)+1=_; omega),rfl,HT⟩,⟨aB ?_,HT⟩⟩;rw[hbits,←tq];refine congrArg (λb=>_++[[PC.sc (.bool b)]]) ?_;rw[Bool.eq_iff_iff,beq_iff_eq,decide_eq_true_eq];omega
   ·refine g9 (by rw[c5,hbl]) (by rw[c5,hbl]; show k-(i+1)+1≤_; omega) (by decide) oR (aq rfl) ?_;refine X1 ((i:Int)-1) (wI (by omega) (by omega) (by omega)) ?_;refine ⟨i,by omega,by omega,⟨rfl,owE (by rw[EL,c5,hbl]; show k-(i+1)+1=_; omega),rfl,HT⟩,⟨aB ?_,HT⟩⟩;rw[hbits,←tq];refine congrArg (λb=>_++[[PC.sc (.bool b)]]) ?_;have h0:v/2^i=0:=(fB (B:=256) (by omega)).1 (Fd.1 (by omega));rw[h0]; rfl
  ·have e:i=0:=by omega
   subst e;exact ⟨(),HT,⟨rfl,HT⟩,⟨aB (by rw[GE,G7,Gy]),HT⟩⟩
 ·exact ⟨HT,r1 rfl,HT⟩
end
section
theorem Hp.turn {K:Km} {ok:Nat→Prop} {w:World} {O O':Objs} (hp:Hp K ok w O) (ho:∀ k o',O'.get k=some o'→(∃ o,O.get k=some o)∧HOb K ok w k o'):Hp K ok w O':=
 ⟨λk o h=>(ho k o h).2,λk k' o o' b L L' h1 h2 e1 e2=>by
  obtain ⟨⟨p,g1⟩,_⟩:=ho k o h1;obtain ⟨⟨p',g2⟩,_⟩:=ho k' o' h2;exact hp.inj k k' p p' b L L' g1 g2 e1 e2,λk o b L h e=>by
  obtain ⟨⟨p,g1⟩,_⟩:=ho k o h;exact hp.apart k p b L g1 e,hp.lt,hp.hlt,hp.hok,λk o b L h e=>by
  obtain ⟨⟨p,g1⟩,_⟩:=ho k o h;exact hp.how k p b L g1 e⟩
theorem Fr.turn {K K':Km} {ok ok':Nat→Prop} {w w':World} {O O1 O2 O3:Objs} (hf:Fr K ok w O K' ok' w' O2) (h1:∀ k o,O.get k=some o→∃ o',O1.get k=some o') (h2:∀ k o,O3.get k=some o→∃ o',O2.get k=some o'):Fr K ok w O1 K' ok' w' O3:=
 ⟨hf.size,λb hb g1 g2=>hf.keep b hb (λk o L e1 e2=>by obtain ⟨o',g⟩:=h1 k o e1; exact g1 k o' L g e2) g2,hf.okUp,λb hb=>by
  rcases hf.okNew b hb with h | h | ⟨k,o,L,e1,e2⟩
  ·exact .inl h
  ·exact .inr (.inl h)
  ·obtain ⟨o',g⟩:=h1 k o e1; exact .inr (.inr ⟨k,o',L,g,e2⟩),λk o b L e1 e2=>by
  obtain ⟨o',g⟩:=h2 k o e1;rcases hf.own k o' b L g e2 with h | ⟨k0,o0,L0,g1,g2⟩
  ·exact .inl h
  ·obtain ⟨o1,g3⟩:=h1 k0 o0 g1; exact .inr ⟨k0,o1,L0,g3,g2⟩,hf.os,hf.tape,hf.output,hf.kind,hf.pin,hf.hid⟩
theorem CtO.less {P:Program} {f:FuncId} {O O' O2:Objs} {args res:List A1} (h:CtO P f O args O' res) (hw:∀ K ok w k o2,O2.get k=some o2→∃ o',O'.get k=some o'∧(HOb K ok w k o'→HOb K ok w k o2)):CtO P f O args O2 res:=
 ⟨λK ok w vs hp hrel=>(h.run K ok w vs hp hrel).mono λe w' ⟨v,K',ok',h1,h2,h3,h4⟩=>
  ⟨v,K',ok',h1,h2,h3.turn λk o2 g=>by obtain ⟨o',g1,g2⟩:=hw K' ok' w' k o2 g; exact ⟨⟨o',g1⟩,g2 (h3.obs k o' g1)⟩,
   h4.turn (λk o g=>⟨o,g⟩) λk o g=>by obtain ⟨o',g1,_⟩:=hw K' ok' w' k o g; exact ⟨o',g1⟩⟩⟩
theorem B3 {k:Nat} {o1 o2 o:Ob} {OX:Objs} (h:Objs.get ((1000000,some o1)::(1000001,some o2)::OX) k=some o):(k=1000000∧o=o1)∨(k=1000001∧o=o2)∨(k≠1000000∧k≠1000001∧OX.get k=some o):=by
 simp only[Objs.get]at h
 cases h1:Nat.beq 1000000 k with
 | true=>rw[h1]at h; exact .inl ⟨(EJ h1).symm,(Gu h).symm⟩
 | false=>
  rw[h1]at h;have n1:k≠1000000:=λe=>by rw[e,E9]at h1; cases h1
  cases h2:Nat.beq 1000001 k with
  | true=>rw[h2]at h; exact .inr (.inl ⟨(EJ h2).symm,(Gu h).symm⟩)
  | false=>
   rw[h2]at h;exact .inr (.inr ⟨n1,(λe=>by rw[e,E9]at h2; cases h2),h⟩)
theorem qa {k:Nat} {o1 o2 o:Ob} {OX:Objs} (n1:k≠1000000) (n2:k≠1000001) (h:OX.get k=some o):Objs.get ((1000000,some o1)::(1000001,some o2)::OX) k=some o:=by
 simp only[Objs.get]
 cases h1:Nat.beq 1000000 k with
 | true=>exact absurd (EJ h1).symm n1
 | false=>
  cases h2:Nat.beq 1000001 k with
  | true=>exact absurd (EJ h2).symm n2
  | false=>exact h
abbrev xM (Lc:List (List Cnt)) (words:Int) (ks:List Value) (vs:List (List PC)) (OX:Objs):Objs:=(1000000,some (xC Lc words 1000001))::(1000001,some (.mp false ks vs))::OX
abbrev xX (Lc:List (List Cnt)) (words:Int) (OX:Objs):Objs:=(1000000,some (xC Lc words 1000001))::(1000001,some (.me false (MOk Lc)))::OX
abbrev xE (Lc:List (List Cnt)) (words:Int):Objs:=xX Lc words []
theorem CtO.ex {f:FuncId} {args res:List A1} {Lc:List (List Cnt)} {words:Int} {OX OX':Objs} (h:∀ ks vs,MOk Lc ks vs→∃ ks' vs',MOk Lc ks' vs'∧CtO P f (xM Lc words ks vs OX) args (xM Lc words ks' vs' OX') res):CtO P f (xX Lc words OX) args (xX Lc words OX') res:=by
 refine ⟨λK ok w vs hp hrel=>?_⟩;obtain ⟨ks,ws,hS,hob⟩:=hp.obs 1000001 (.me false (MOk Lc)) rfl;obtain ⟨ks',ws',hS',hct⟩:=h ks ws hS;have hp2:Hp K ok w (xM Lc words ks ws OX):=hp.turn λk o g=>by
  rcases B3 g with ⟨rfl,rfl⟩ | ⟨rfl,rfl⟩ | ⟨n1,n2,g⟩
  ·exact ⟨⟨_,rfl⟩,hp.obs 1000000 _ rfl⟩
  ·exact ⟨⟨_,rfl⟩,hob⟩
  ·exact ⟨⟨_,qa n1 n2 g⟩,hp.obs k o (qa n1 n2 g)⟩
 refine (hct.run K ok w vs hp2 hrel).mono λe w' ⟨v,K',ok',h1,h2,h3,h4⟩=>⟨v,K',ok',h1,h2,h3.turn λk o g=>?_,h4.turn (λk o g=>?_) λk o g=>?_⟩
 ·rcases B3 g with ⟨rfl,rfl⟩ | ⟨rfl,rfl⟩ | ⟨n1,n2,g⟩
  ·exact ⟨⟨_,rfl⟩,h3.obs 1000000 _ rfl⟩
  ·exact ⟨⟨_,rfl⟩,ks',ws',hS',h3.obs 1000001 _ rfl⟩
  ·exact ⟨⟨_,qa n1 n2 g⟩,h3.obs k o (qa n1 n2 g)⟩
 ·rcases B3 g with ⟨rfl,rfl⟩ | ⟨rfl,rfl⟩ | ⟨n1,n2,g⟩
  ·exact ⟨_,rfl⟩
  ·exact ⟨_,rfl⟩
  ·exact ⟨_,qa n1 n2 g⟩
 ·rcases B3 g with ⟨rfl,rfl⟩ | ⟨rfl,rfl⟩ | ⟨n1,n2,g⟩
  ·exact ⟨_,rfl⟩
  ·exact ⟨_,rfl⟩
  ·exact ⟨_,qa n1 n2 g⟩
section
variable {Lc:List (List Cnt)} {words:Int}
theorem gA:CtO P 42 (xE Lc words) [.c (.ad 1000000 0)] (xE Lc words) [.c (eI .i64 words)]:=.ex λks vs hm=>⟨ks,vs,hm,sN⟩
end
end
section
section
variable {Lc:List (List Cnt)} {words:Int} {ks:List Value} {vs:List (List PC)}
theorem tr (hx:XOk Lc words) (hm:MOk Lc ks vs) (H h:List Int) (lo n:Nat) (hh0:h=(H.drop lo).take n) (hH:H.length≤1000000) (hle:lo+n≤H.length) (hh:h.length<Lc.length) :
  ∃ ks' vs',MOk Lc ks' vs'∧CtO P 159 (zQ Lc words ks vs (aC H)) [.c (.ad 1000000 0),.c (.os 1000002 1 lo n)] (zQ Lc words ks' vs' (aC H)) [.c (lN Lc h)]:=by
 have hn:h.length=n:=by rw[hh0,E3,Fv]; omega
 have esub:iSl h = .sl 1 (((aC H).drop lo).take n):=by rw[hh0]; exact congrArg _ iRow_sub.symm
 have h8:=hx.len8;have hln:=hx.lim.at' hh;have e:Lc.getD h.length []=Lc[h.length]:=by simp[EK,hh]
 by_cases hk:dw h=true
 ·obtain ⟨r,f1,f2⟩:=lM (qu h) ks 0 hm.str;have hkey:=mS h (by omega);rw[if_pos hk,if_pos hk,esub]at hkey
  cases r with
  | some j=>
   obtain ⟨_,f3⟩:=f2 j rfl;rw[Gy]at f3;obtain ⟨h',g1,g2,g3⟩:=hm.at' j _ f3;have e':h=h':=sQ hk g1 (by injection g2);subst e';refine ⟨ks,vs,hm,?_⟩;refine Ct.io aj aa (N:=63) Tryz.func159 rfl rfl rfl rfl ?_;refine X2 .look (X1 _ hkey ?_);refine ⟨some j,.c (lN Lc h),f1,⟨_,g3,rfl⟩,?_⟩;exact ⟨HT,sT rfl rfl rfl,r1 rfl,HT⟩
  | none=>
   refine ⟨ks++[.string (qu h)],vs++[[lN Lc h]],?_,?_⟩
   ·refine ⟨by simp[hm.len],λi k hi=>?_⟩;have hlen:∀ i k,ks[i]? = some k→i<vs.length:=λi k hi=>by
     obtain ⟨_,_,_,g3⟩:=hm.at' i k hi;exact (EP.1 g3).1
    rcases Ga i ks.length with hlt | heq | hgt
    ·rw[EV hlt]at hi;rw[EV (hlen i k hi)];exact hm.at' i k hi
    ·subst heq;rw[ET (EM _),Ha]at hi;cases hi;refine ⟨h,hk,rfl,?_⟩;rw[ET (Nat.le_of_eq hm.len.symm),hm.len,Ha];rfl
    ·rw[E7 (by simp; omega)]at hi; cases hi
   ·have haft:=pQ Lc[h.length] h hln (hx.rises _ (EY hh)) (by omega) (hx.tot _ (EY hh));rw[esub]at haft;refine Ct.io aj aa (N:=63) Tryz.func159 rfl rfl rfl rfl ?_;refine X2 .look (X1 _ hkey ?_);refine ⟨none,.c (.sc (.pointer none)),f1,rfl,?_⟩;refine .intro (by omega) ?_;refine .intro (by omega) (X1 _ (bJ (n:=h.length) (by omega) hh) ?_);refine X2 .look (X1 _ haft ?_);refine .intro (by omega) ?_;refine .intro (by omega) (X1 _ (gp (n:=h.length) (by omega) hh) ?_);refine X1 _ (vr hx h hh) ?_;refine .intro rfl ?_;refine ⟨[55],none,f1,rfl,?_⟩;have hc:uz Lc h=nI .i64 (totN (after Lc[h.length] h))::(qP (fM Lc h)).cells:=by unfold uz; rw[e]
    unfold lN;rw[hc];exact ⟨HT,sT rfl rfl rfl,r1 rfl,HT⟩
 ·refine ⟨ks,vs,hm,?_⟩;have hkey:=mS h (by omega);rw[if_neg hk,if_neg hk,esub]at hkey;refine Ct.keep aj aa [20] (N:=63) Tryz.func159 rfl rfl rfl rfl ?_;refine X2 .look (X1 _ hkey ?_);refine X1 _ (cc 1 (by omega)) ?_;unfold lN;rw[oA hx hh hk];exact ⟨HT,sT rfl rfl rfl,r1 rfl,HT⟩
abbrev hO (H:List Int):Objs:=[(1000002,some (.row 1 (aC H)))]
theorem tt (hx:XOk Lc words) (H h:List Int) (lo n:Nat) (hh0:h=(H.drop lo).take n) (hH:H.length≤1000000) (hle:lo+n≤H.length) (hh:h.length<Lc.length) :
  CtO P 159 (xX Lc words (hO H)) [.c (.ad 1000000 0),.c (.os 1000002 1 lo n)] (xX Lc words (hO H)) [.c (lN Lc h)]:=.ex λks vs hm=>tr hx hm H h lo n hh0 hH hle hh
theorem oS (hx:XOk Lc words) (g:List Int) (els:List (List PC)) (he:els=aC g) (m:Nat) (hm:m=g.length) (h1:1≤g.length) (hg:g.length≤Lc.length) :
  CtO P 160 (xX Lc words [(1000002,some (.row 1 els))]) [.c (.ad 1000000 0),.c (.ow 1000002 1 m)] (xX Lc words [(1000002,some (.row 1 els))]) [.c (eI .i64 (bM Lc g))]:=
 .ex λks vs hk=>⟨ks,vs,hk,uB hx g els he m hm h1 hg⟩
theorem jg (hx:XOk Lc words):CtO P 41 (xE Lc words) [.c (.ad 1000000 0)] (xE Lc words) [.c (nI .i64 Lc.length)]:=.ex λks vs hm=>⟨ks,vs,hm,ox hx⟩
theorem wR (H h:List Int) (lo n:Nat) (hh0:h=(H.drop lo).take n) (hH:H.length≤1000000) (hle:lo+n≤H.length) :
  CtO P 46 (hO H) [.c (.os 1000002 1 lo n)] [(1000002,some (.row 1 (aC H))),(5,some (.row 1 (aC h)))] [.c (.ow 5 1 h.length)]:=by
 have hn:h.length=n:=by rw[hh0,E3,Fv]; omega
 have esub:((aC H).drop lo).take n=aC h:=by rw[hh0]; exact iRow_sub
 refine Ct.keepI aj [] (N:=8) Tryz.func46 rfl rfl rfl rfl ?_;refine dI aj aa ?_;refine jG ?_;refine dI aj aa ?_;intro b hb;refine kH (b:=b) rfl (λe=>?_) (λe=>?_)
 ·subst e;have:h=[]:=Fd.1 (by have:=hb rfl; omega);subst this;refine dI aj aa ?_;refine ii (r:=5) (t:=2) (sz:=1) rfl rfl ?_;exact D1 ⟨HT,SubO.of (l:=[(1000002,.row 1 (aC H)),(5,.row 1 [])]) ⟨rfl,rfl,HT⟩,r1 rfl,HT⟩
 ·subst e;refine mw ?_;refine bK aj aa ?_;refine ⟨rfl,by rw[esub,ac]; show (0+h.length+768)*8≤_; omega,by rw[esub,ac]; show 0+h.length≤_; omega,bj,by rw[esub]; exact aQ,?_⟩;exact ⟨HT,SubO.of (l:=[(1000002,.row 1 (aC H)),(5,.row 1 (aC h))]) ⟨rfl,aB (by rw[esub]; rfl),HT⟩,r1 (owE (by rw[esub]; show (aC h).length=_; rw[ac])),HT⟩
abbrev σ3:List (Nat × Nat):=[(1000000,1000000),(1000001,1000001),(1000002,1000002)]
theorem c8 {OX:Objs} {l:List (Nat × Ob)} (hl:OX=ci l) {O:Objs} (h1:O.get 1000000=some (xC Lc words 1000001)) (h2:O.get 1000001=some (.me false (MOk Lc))) (h3:bw O l):SubO (xX Lc words OX) O:=by
 subst hl;exact SubO.of (l:=(1000000,xC Lc words 1000001)::(1000001,.me false (MOk Lc))::l) ⟨h1,h2,h3⟩
theorem wS (w:Int) (hw:w<0∨words≤w∨w=1) (H:List Int) :
  CtO P 115 (xX Lc words (hO H)) [.c (.ad 1000000 0),.c (.ow 1000002 1 H.length),.c (eI .i64 w)] (xX Lc words (hO H)) [qP (0,1)]:=by
 refine Ct.io aj aa (N:=101) Tryz.func115 rfl rfl rfl rfl ?_;refine ah (λh1=>?_) (λh1=>?_)
 ·refine X1 _ (cc 0 (by omega)) ?_;exact ⟨HT,c8 (l:=[(1000002,.row 1 (aC H))]) rfl rfl rfl ⟨rfl,HT⟩,rc rfl,HT⟩
 ·refine X2 (.own σx σx) ?_;refine ⟨_,_,gA,?_⟩;refine ah (λh2=>?_) (λh2=>?_)
  ·refine X1 _ (cc 0 (by omega)) ?_;exact ⟨HT,c8 (l:=[(1000002,.row 1 (aC H))]) rfl rfl rfl ⟨rfl,HT⟩,rc rfl,HT⟩
  ·refine aT (λh3=>?_) (λh3=>?_)
   ·refine X1 _ (cc 0 (by omega)) ?_;exact ⟨HT,c8 (l:=[(1000002,.row 1 (aC H))]) rfl rfl rfl ⟨rfl,HT⟩,rc rfl,HT⟩
   ·exfalso; omega
theorem oT (hx:XOk Lc words) (h:List Int) (hh:h.length<Lc.length):CtO P 159 (xE Lc words) [.c (.ad 1000000 0),.c (iSl h)] (xE Lc words) [.c (lN Lc h)]:=.ex λks vs hm=>uA hx hm h hh
set_option maxHeartbeats 16000000 in
theorem wT (hx:XOk Lc words) {H:List Int} {w:Int} (hl:H.length≤1000000) (hl1:1≤H.length) (hw:¬ (w<0∨words≤w∨w=1)) (h2L:2≤Lc.length) :
  CtO P 115 (xX Lc words (hO H)) [.c (.ad 1000000 0),.c (.ow 1000002 1 H.length),.c (eI .i64 w)] (xX Lc words (hO H)) [qP (pF Lc words w (e9 Lc H))]:=by
 have h8:=hx.len8;have h0:=hx.len0;have w3:=hx.w3;have w6:=hx.w6;refine Ct.keepI (Ty.own_ok [46,1000001] aj) [] (N:=101) Tryz.func115 rfl rfl rfl rfl ?_;refine Ez (t:=1) rfl (by omega) ?_;refine bK (Ty.own_ok [46,1000001] aj) aa ?_;refine ah (λh1=>?_) (λh1=>?_)
 ·exfalso; omega
 refine X2 (.own σx σx) ?_;refine ⟨_,_,gA,?_⟩;refine ah (λh2=>?_) (λh2=>?_)
 ·exfalso; omega
 refine aT (λh3=>?_) (λh3=>?_)
 ·exfalso; omega
 refine .intro (by omega) ?_;refine X2 (.own σx σx) ?_;refine ⟨_,_,jg hx,?_⟩;have hclt:=nh hx H;refine ah (λhc=>?_) (λhc=>?_);have e:e9 Lc H=H.drop (H.length-Lc.length+1):=if_pos (by omega);refine .intro (by omega) ?_;refine X2 (.own σx σx) ?_;refine ⟨_,_,jg hx,?_⟩;refine X1 ((H.length-Lc.length:Nat):Int) (wI (by omega) (by omega) (by omega)) ?_;refine X1 ((H.length-Lc.length+1:Nat):Int) (wI (by omega) (by omega) (by omega)) ?_;refine ⟨H.length-Lc.length+1,H.length,rfl,rfl,EM _,.inr ⟨by omega,?_⟩⟩;rw[show 0+(H.length-Lc.length+1)=H.length-Lc.length+1 by omega];have hlo:H.length-Lc.length+1<H.length:=by omega
 rw[e]at hclt ⊢;generalize H.length-Lc.length+1=lo at *
 rotate_left;have e:e9 Lc H=H:=if_neg (by omega);have hlo:0<H.length:=by omega
 rw[e]at hclt ⊢;obtain ⟨lo,hz0⟩:∃ lo:Nat,lo=0:=⟨0,rfl⟩;rw[show H=H.drop lo by rw[hz0]; rfl]at hclt;rw[show pF Lc words w H=pF Lc words w (H.drop lo) by rw[hz0]; rfl];rw[show (PC.os 1000002 1 0 H.length)=PC.os 1000002 1 lo (H.length-lo) by rw[hz0,Gy]];replace hlo:lo<H.length:=by omega
 all_goals
  have hl2:(H.drop lo).length=H.length-lo:=Fv;obtain ⟨h',hh'⟩:∃ h',h'=H.drop lo:=⟨_,rfl⟩;rw[←hh']at hl2 hclt ⊢;rw[←hl2];refine X1 _ (cc 1 (by omega)) ?_;refine X1 (((words-1).toNat:Nat):Int) (wI (by omega) (by omega) (by omega)) ?_;refine X1 _ (kV (p:=(1,1)) (k:=63) (words-1).toNat (bd1 (n:=1) (by omega)) (by omega) (by omega) (by omega)) ?_;refine .intro rfl ?_;refine aw (Ty.own_ok [46,1000001] aj) aa (λn:Nat=>n≤h'.length+1) (λn=>[(0,.c (.ad 1000000 0)),(1,.c (.os 1000002 1 lo h'.length)),(2,.c (eI .i64 w)),(6,.c (.ad 6 0)),(7,.c (.ad 7 0)),(8,.c (nI .i64 n))])
   (λn=>[(6,.var [.sc (.slice none 0 0),.sc (.slice none 0 0)]),(7,.var (qP (pN Lc words w h' n)).cells),(1000000,xC Lc words 1000001),(1000001,.me false (MOk Lc)),(1000002,.row 1 (aC H))]) (λn=>h'.length+1-n)
   0 (by omega) ⟨rfl,rfl,rfl,rfl,rfl,rfl,HT⟩ ⟨rfl,rfl,rfl,rfl,rfl,HT⟩ (λ_:Unit=>True) (λ_=>[(6,.c (.ad 6 0)),(7,.c (.ad 7 0))])
   (λ_=>[(6,.var [.sc (.slice none 0 0),.sc (.slice none 0 0)]),(7,.var (qP (pF Lc words w h')).cells),(1000000,xC Lc words 1000001),(1000001,.me false (MOk Lc)),(1000002,.row 1 (aC H))]) (λn hn=>?_) (λ_ _=>?_)
  ·refine .intro (by omega) ?_;refine ah (λh5=>?_) (λh5=>?_)
   ·have hn':n≤h'.length:=by omega
    have hstep:=vt (Lc:=Lc) (words:=words) (w:=w) hn';have hpb:=CF hx w h' (n:=n) (by omega);have hnl:(h'.drop (h'.length-n)).length=n:=by rw[Fv]; omega
    refine .intro (by omega) ?_;refine X1 ((h'.length-n:Nat):Int) (wI (by omega) (by omega) (by omega)) ?_;rcases Gn n with hz | hp
    ·have hnn:h'.drop (h'.length-n)=[]:=Fd.1 (by omega);rw[hnn]at hstep hnl;refine ⟨h'.length-n,h'.length,rfl,rfl,EM _,.inl ⟨by omega,?_⟩⟩;rw[show (PC.sl 1 [])=iSl [] from rfl];generalize ([]:List Int)=near at *
     refine X2 (.own σx σx) ?_;refine ⟨_,_,oT hx near (by omega),?_⟩;have hnlt:near.length<Lc.length:=by omega
     have hlv:lvl Lc near=Lc[near.length]:=f8 hnlt;have htl:=kT hx near;refine aT (λh6=>?_) (λh6=>?_)
     ·have h7:totN (after (lvl Lc near) near)=0:=by
       have:((totN (after (lvl Lc near) near):Nat):Int)=0:=h6;omega
      unfold eu at hstep;rw[if_pos h7]at hstep;refine X1 ((n+1:Nat):Int) (wI (by simp) (by omega) (by omega)) ?_;refine ⟨n+1,by omega,by omega,⟨rfl,rfl,rfl,rfl,rfl,rfl,HT⟩,⟨rfl,by rw[←hstep]; rfl,rfl,rfl,rfl,HT⟩⟩
     ·have h7:totN (after (lvl Lc near) near)≠0:=λh=>h6 (congrArg Nat.cast h)
      unfold eu at hstep;rw[if_neg h7]at hstep;have hnb:=iH hx (near++[w]);have hnl2:(near++[w]).length=n+1:=by simp[hnl]
      refine X2 (.own [] [(5,68)]) ?_;refine ⟨_,_,lP near (by omega),?_⟩;refine ⟨by rw[ac],by rw[ac,hnl]; show (n+1+768)*8≤_; omega,by rw[ac,hnl]; show n+1≤_; omega,aQ,aq rfl,?_⟩;refine X2 (.own [(1000000,1000000),(1000001,1000001),(68,1000002)] [(1000000,1000000),(1000001,1000001),(1000002,68)]) ?_;refine ⟨_,_,oS hx (near++[w]) _ (by simp[aC]; rfl) _ (by rw[hnl2]; show ((aC near)++_).length=_; simp[aC,hnl]) (by omega) (by omega),?_⟩;have hbd1:Bd 63 (nz ((bM Lc (near++[w])).toNat,1)):=bd1 (by omega);have hbd2:Bd 500 (nz (gAt (0,0) (dT (au Lc[near.length] 1) (au Lc[near.length] 2) (au Lc[near.length] 3) (au Lc[near.length] 4) 1) (dT (au Lc[near.length] 1) (au Lc[near.length] 2) (au Lc[near.length] 3) (au Lc[near.length] 4) 2) (dT (au Lc[near.length] 1) (au Lc[near.length] 2) (au Lc[near.length] 3) (au Lc[near.length] 4) 3) (bM Lc (near++[w])))):=by
       rw[lR (hx.lim.at' hnlt)]; exact lQ (hx.lim.at' hnlt) _
      have hsub:=kQ hbd1 hbd2 (by omega) (by omega);have eow:cJ ((bM Lc (near++[w])).toNat,1) (atN Lc[near.length] (bM Lc (near++[w])))=owF Lc w near:=by unfold owF; rw[hlv]
      rw[lR (hx.lim.at' hnlt),nz1,eow]at hsub;have hgr:=gp (ls:=Lc) (i:=(n:Int)) (n:=near.length) (by rw[hnl]) hnlt;refine X1 (((bM Lc (near++[w])).toNat:Nat):Int) (wU (by omega) (by omega) (by omega)) ?_;refine X1 _ (cc _ (by omega)) ?_;refine .intro (by omega) (X1 _ hgr ?_);refine X1 _ (uu _ _ _ _ _) ?_;refine X1 _ hsub ?_;refine .intro rfl ?_;have hob:Bd 600 (nz (owF Lc w near)):=by rw[ay (dW hx w near)]; exact dW hx w near
      have hby:=kV (totN (after (lvl Lc near) near)) hob (by omega) h7 (by omega);rw[ay (dW hx w near)]at hby;refine X1 _ hby ?_;have hg:=jb hx near;have hmul:=eL (p:=fM Lc near) (q:=pN Lc words w h' n) (by rw[ay hg]; exact hg) (by rw[ay hpb]; exact hpb) (by omega) (by omega);rw[ay hg,ay hpb]at hmul;refine X1 _ hmul ?_;have hb1:=oB hx w near h7;have hb2:=bh hg hpb;have hadd:=ov (p:=eb (owF Lc w near) (totN (after (lvl Lc near) near),1)) (q:=cM (fM Lc near) (pN Lc words w h' n)) (by rw[ay hb1]; exact hb1) (by rw[ay hb2]; exact hb2) (by rw[ay hb1]; exact jJ (Ff (dW hx w near).pos h7)) (by omega) (by omega);rw[ay hb1,ay hb2]at hadd;refine X1 _ hadd ?_;refine .intro rfl ?_;refine X1 ((n+1:Nat):Int) (wI (by simp) (by omega) (by omega)) ?_;refine ⟨n+1,by omega,by omega,⟨rfl,rfl,rfl,rfl,rfl,rfl,HT⟩,⟨rfl,by rw[←hstep]; rfl,rfl,rfl,rfl,HT⟩⟩
    ·have hnear:h'.drop (h'.length-n)=(H.drop (lo+(h'.length-n))).take (h'.length-(h'.length-n)):=by
      have e1:h'.drop (h'.length-n)=H.drop (lo+(h'.length-n)):=by
       conv=>lhs; rw[hh',Gr]
       rw[←hh']
      rw[e1,Fs (by rw[Fv]; omega)]
     refine ⟨h'.length-n,h'.length,rfl,rfl,EM _,.inr ⟨by omega,?_⟩⟩;rw[show h'.length-(h'.length-n)=n by omega]at hnear ⊢;generalize h'.drop (h'.length-n)=near at *
     refine X2 (.own σ3 σ3) ?_;refine ⟨_,_,tt hx H near (lo+(h'.length-n)) n hnear hl (by omega) (by omega),?_⟩;have hnlt:near.length<Lc.length:=by omega
     have hlv:lvl Lc near=Lc[near.length]:=f8 hnlt;have htl:=kT hx near;refine aT (λh6=>?_) (λh6=>?_)
     ·have h7:totN (after (lvl Lc near) near)=0:=by
       have:((totN (after (lvl Lc near) near):Nat):Int)=0:=h6;omega
      unfold eu at hstep;rw[if_pos h7]at hstep;refine X1 ((n+1:Nat):Int) (wI (by simp) (by omega) (by omega)) ?_;refine ⟨n+1,by omega,by omega,⟨rfl,rfl,rfl,rfl,rfl,rfl,HT⟩,⟨rfl,by rw[←hstep]; rfl,rfl,rfl,rfl,HT⟩⟩
     ·have h7:totN (after (lvl Lc near) near)≠0:=λh=>h6 (congrArg Nat.cast h)
      unfold eu at hstep;rw[if_neg h7]at hstep;have hnb:=iH hx (near++[w]);have hnl2:(near++[w]).length=n+1:=by simp[hnl]
      refine X2 (.own [(1000002,1000002)] [(1000002,1000002),(5,68)]) ?_;refine ⟨_,_,wR H near _ n hnear hl (by omega),?_⟩;refine ⟨by rw[ac],by rw[ac,hnl]; show (n+1+768)*8≤_; omega,by rw[ac,hnl]; show n+1≤_; omega,aQ,aq rfl,?_⟩;refine X2 (.own [(1000000,1000000),(1000001,1000001),(68,1000002)] [(1000000,1000000),(1000001,1000001),(1000002,68)]) ?_;refine ⟨_,_,oS hx (near++[w]) _ (by simp[aC]; rfl) _ (by rw[hnl2]; show ((aC near)++_).length=_; simp[aC,hnl]) (by omega) (by omega),?_⟩;have hbd1:Bd 63 (nz ((bM Lc (near++[w])).toNat,1)):=bd1 (by omega);have hbd2:Bd 500 (nz (gAt (0,0) (dT (au Lc[near.length] 1) (au Lc[near.length] 2) (au Lc[near.length] 3) (au Lc[near.length] 4) 1) (dT (au Lc[near.length] 1) (au Lc[near.length] 2) (au Lc[near.length] 3) (au Lc[near.length] 4) 2) (dT (au Lc[near.length] 1) (au Lc[near.length] 2) (au Lc[near.length] 3) (au Lc[near.length] 4) 3) (bM Lc (near++[w])))):=by
       rw[lR (hx.lim.at' hnlt)]; exact lQ (hx.lim.at' hnlt) _
      have hsub:=kQ hbd1 hbd2 (by omega) (by omega);have eow:cJ ((bM Lc (near++[w])).toNat,1) (atN Lc[near.length] (bM Lc (near++[w])))=owF Lc w near:=by unfold owF; rw[hlv]
      rw[lR (hx.lim.at' hnlt),nz1,eow]at hsub;have hgr:=gp (ls:=Lc) (i:=(n:Int)) (n:=near.length) (by rw[hnl]) hnlt;refine X1 (((bM Lc (near++[w])).toNat:Nat):Int) (wU (by omega) (by omega) (by omega)) ?_;refine X1 _ (cc _ (by omega)) ?_;refine .intro (by omega) (X1 _ hgr ?_);refine X1 _ (uu _ _ _ _ _) ?_;refine X1 _ hsub ?_;refine .intro rfl ?_;have hob:Bd 600 (nz (owF Lc w near)):=by rw[ay (dW hx w near)]; exact dW hx w near
      have hby:=kV (totN (after (lvl Lc near) near)) hob (by omega) h7 (by omega);rw[ay (dW hx w near)]at hby;refine X1 _ hby ?_;have hg:=jb hx near;have hmul:=eL (p:=fM Lc near) (q:=pN Lc words w h' n) (by rw[ay hg]; exact hg) (by rw[ay hpb]; exact hpb) (by omega) (by omega);rw[ay hg,ay hpb]at hmul;refine X1 _ hmul ?_;have hb1:=oB hx w near h7;have hb2:=bh hg hpb;have hadd:=ov (p:=eb (owF Lc w near) (totN (after (lvl Lc near) near),1)) (q:=cM (fM Lc near) (pN Lc words w h' n)) (by rw[ay hb1]; exact hb1) (by rw[ay hb2]; exact hb2) (by rw[ay hb1]; exact jJ (Ff (dW hx w near).pos h7)) (by omega) (by omega);rw[ay hb1,ay hb2]at hadd;refine X1 _ hadd ?_;refine .intro rfl ?_;refine X1 ((n+1:Nat):Int) (wI (by simp) (by omega) (by omega)) ?_;refine ⟨n+1,by omega,by omega,⟨rfl,rfl,rfl,rfl,rfl,rfl,HT⟩,⟨rfl,by rw[←hstep]; rfl,rfl,rfl,rfl,HT⟩⟩
   ·have en:n=h'.length+1:=by omega
    subst en;have e2:pN Lc words w h' (h'.length+1)=pF Lc words w h':=by simp[pN]
    exact ⟨(),HT,⟨rfl,rfl,HT⟩,⟨rfl,by rw[e2]; rfl,rfl,rfl,rfl,HT⟩⟩
  ·exact ⟨HT,c8 (l:=[(1000002,.row 1 (aC H))]) rfl rfl rfl ⟨rfl,HT⟩,rc rfl,HT⟩
set_option maxHeartbeats 8000000 in
theorem wV (hx:XOk Lc words) {H:List Int} {w:Int} (hl:H.length≤1000000) (hl1:1≤H.length) (hw:¬ (w<0∨words≤w∨w=1)) (h1L:Lc.length=1) :
  CtO P 115 (xX Lc words (hO H)) [.c (.ad 1000000 0),.c (.ow 1000002 1 H.length),.c (eI .i64 w)] (xX Lc words (hO H)) [qP (pF Lc words w (e9 Lc H))]:=by
 have h8:=hx.len8;have h0:=hx.len0;have w3:=hx.w3;have w6:=hx.w6;refine Ct.io (Ty.own_ok [46,1000001] aj) aa (N:=101) Tryz.func115 rfl rfl rfl rfl ?_;refine ah (λh1=>?_) (λh1=>?_)
 ·exfalso; omega
 refine X2 (.own σx σx) ?_;refine ⟨_,_,gA,?_⟩;refine ah (λh2=>?_) (λh2=>?_)
 ·exfalso; omega
 refine aT (λh3=>?_) (λh3=>?_)
 ·exfalso; omega
 refine .intro (by omega) ?_;refine X2 (.own σx σx) ?_;refine ⟨_,_,jg hx,?_⟩;refine ah (λhc=>?_) (λhc=>?_);rotate_left
 ·exfalso; omega
 refine .intro (by omega) ?_;refine X2 (.own σx σx) ?_;refine ⟨_,_,jg hx,?_⟩;refine X1 ((H.length-1:Nat):Int) (wI (by omega) (by omega) (by omega)) ?_;refine X1 ((H.length:Nat):Int) (wI (by omega) (by omega) (by omega)) ?_;refine .inl ⟨H.length,H.length,rfl,rfl,EM _,by omega,.inl ⟨rfl,?_⟩⟩;have e:e9 Lc H=[]:=by
  unfold e9;rw[if_pos (by omega)];exact Fd.1 (by rw[Fv]; omega)
 rw[e,show (PC.sl 1 [])=iSl [] from rfl];obtain ⟨h',hh'⟩:∃ h':List Int,h'=[]:=⟨_,rfl⟩;rw[←hh'];have hl':h'.length≤1000000:=by rw[hh']; decide
 have hclt:h'.length<Lc.length:=by rw[hh']; show 0<_; omega
 refine X1 _ (cc 1 (by omega)) ?_;refine X1 (((words-1).toNat:Nat):Int) (wI (by omega) (by omega) (by omega)) ?_;refine X1 _ (kV (p:=(1,1)) (k:=63) (words-1).toNat (bd1 (n:=1) (by omega)) (by omega) (by omega) (by omega)) ?_;refine .intro rfl ?_;refine aw (Ty.own_ok [46,1000001] aj) aa (λn:Nat=>n≤h'.length+1) (λn=>[(0,.c (.ad 1000000 0)),(1,.c (iSl h')),(2,.c (eI .i64 w)),(6,.c (.ad 6 0)),(7,.c (.ad 7 0)),(8,.c (nI .i64 n))])
  (λn=>[(6,.var [.sc (.slice none 0 0),.sc (.slice none 0 0)]),(7,.var (qP (pN Lc words w h' n)).cells),(1000000,xC Lc words 1000001),(1000001,.me false (MOk Lc)),(1000002,.row 1 (aC H))]) (λn=>h'.length+1-n)
  0 (by omega) ⟨rfl,rfl,rfl,rfl,rfl,rfl,HT⟩ ⟨rfl,rfl,rfl,rfl,rfl,HT⟩ (λ_:Unit=>True) (λ_=>[(6,.c (.ad 6 0)),(7,.c (.ad 7 0))])
  (λ_=>[(6,.var [.sc (.slice none 0 0),.sc (.slice none 0 0)]),(7,.var (qP (pF Lc words w h')).cells),(1000000,xC Lc words 1000001),(1000001,.me false (MOk Lc)),(1000002,.row 1 (aC H))]) (λn hn=>?_) (λ_ _=>?_)
 ·refine .intro (by rw[ac]; omega) ?_;rw[ac];refine ah (λh5=>?_) (λh5=>?_)
  ·have hn':n≤h'.length:=by omega
   have hstep:=vt (Lc:=Lc) (words:=words) (w:=w) hn';have hpb:=CF hx w h' (n:=n) (by omega);have hnl:(h'.drop (h'.length-n)).length=n:=by rw[Fv]; omega
   refine .intro (by rw[ac]; omega) ?_;rw[ac];refine X1 ((h'.length-n:Nat):Int) (wI (by omega) (by omega) (by omega)) ?_;refine ⟨h'.length-n,h'.length,rfl,by show ((aC h').length:Int)=_; rw[ac],by omega,by rw[ac]; exact EM _,?_⟩;rw[iRow_sub,Fs (by rw[hnl]; omega)];generalize h'.drop (h'.length-n)=near at *
   refine X2 (.own σx σx) ?_;refine ⟨_,_,oT hx near (by omega),?_⟩;have hnlt:near.length<Lc.length:=by omega
   have hlv:lvl Lc near=Lc[near.length]:=f8 hnlt;have htl:=kT hx near;refine aT (λh6=>?_) (λh6=>?_)
   ·have h7:totN (after (lvl Lc near) near)=0:=by
     have:((totN (after (lvl Lc near) near):Nat):Int)=0:=h6;omega
    unfold eu at hstep;rw[if_pos h7]at hstep;refine X1 ((n+1:Nat):Int) (wI (by simp) (by omega) (by omega)) ?_;refine ⟨n+1,by omega,by omega,⟨rfl,rfl,rfl,rfl,rfl,rfl,HT⟩,⟨rfl,by rw[←hstep]; rfl,rfl,rfl,rfl,HT⟩⟩
   ·have h7:totN (after (lvl Lc near) near)≠0:=λh=>h6 (congrArg Nat.cast h)
    unfold eu at hstep;rw[if_neg h7]at hstep;have hnb:=iH hx (near++[w]);have hnl2:(near++[w]).length=n+1:=by simp[hnl]
    refine X2 (.own [] [(5,68)]) ?_;refine ⟨_,_,lP near (by omega),?_⟩;refine ⟨by rw[ac],by rw[ac,hnl]; show (n+1+768)*8≤_; omega,by rw[ac,hnl]; show n+1≤_; omega,aQ,aq rfl,?_⟩;refine X2 (.own [(1000000,1000000),(1000001,1000001),(68,1000002)] [(1000000,1000000),(1000001,1000001),(1000002,68)]) ?_;refine ⟨_,_,oS hx (near++[w]) _ (by simp[aC]; rfl) _ (by rw[hnl2]; show ((aC near)++_).length=_; simp[aC,hnl]) (by omega) (by omega),?_⟩;have hbd1:Bd 63 (nz ((bM Lc (near++[w])).toNat,1)):=bd1 (by omega);have hbd2:Bd 500 (nz (gAt (0,0) (dT (au Lc[near.length] 1) (au Lc[near.length] 2) (au Lc[near.length] 3) (au Lc[near.length] 4) 1) (dT (au Lc[near.length] 1) (au Lc[near.length] 2) (au Lc[near.length] 3) (au Lc[near.length] 4) 2) (dT (au Lc[near.length] 1) (au Lc[near.length] 2) (au Lc[near.length] 3) (au Lc[near.length] 4) 3) (bM Lc (near++[w])))):=by
     rw[lR (hx.lim.at' hnlt)]; exact lQ (hx.lim.at' hnlt) _
    have hsub:=kQ hbd1 hbd2 (by omega) (by omega);have eow:cJ ((bM Lc (near++[w])).toNat,1) (atN Lc[near.length] (bM Lc (near++[w])))=owF Lc w near:=by unfold owF; rw[hlv]
    rw[lR (hx.lim.at' hnlt),nz1,eow]at hsub;have hgr:=gp (ls:=Lc) (i:=(n:Int)) (n:=near.length) (by rw[hnl]) hnlt;refine X1 (((bM Lc (near++[w])).toNat:Nat):Int) (wU (by omega) (by omega) (by omega)) ?_;refine X1 _ (cc _ (by omega)) ?_;refine .intro (by omega) (X1 _ hgr ?_);refine X1 _ (uu _ _ _ _ _) ?_;refine X1 _ hsub ?_;refine .intro rfl ?_;have hob:Bd 600 (nz (owF Lc w near)):=by rw[ay (dW hx w near)]; exact dW hx w near
    have hby:=kV (totN (after (lvl Lc near) near)) hob (by omega) h7 (by omega);rw[ay (dW hx w near)]at hby;refine X1 _ hby ?_;have hg:=jb hx near;have hmul:=eL (p:=fM Lc near) (q:=pN Lc words w h' n) (by rw[ay hg]; exact hg) (by rw[ay hpb]; exact hpb) (by omega) (by omega);rw[ay hg,ay hpb]at hmul;refine X1 _ hmul ?_;have hb1:=oB hx w near h7;have hb2:=bh hg hpb;have hadd:=ov (p:=eb (owF Lc w near) (totN (after (lvl Lc near) near),1)) (q:=cM (fM Lc near) (pN Lc words w h' n)) (by rw[ay hb1]; exact hb1) (by rw[ay hb2]; exact hb2) (by rw[ay hb1]; exact jJ (Ff (dW hx w near).pos h7)) (by omega) (by omega);rw[ay hb1,ay hb2]at hadd;refine X1 _ hadd ?_;refine .intro rfl ?_;refine X1 ((n+1:Nat):Int) (wI (by simp) (by omega) (by omega)) ?_;refine ⟨n+1,by omega,by omega,⟨rfl,rfl,rfl,rfl,rfl,rfl,HT⟩,⟨rfl,by rw[←hstep]; rfl,rfl,rfl,rfl,HT⟩⟩
  ·have en:n=h'.length+1:=by omega
   subst en;have e2:pN Lc words w h' (h'.length+1)=pF Lc words w h':=by simp[pN]
   exact ⟨(),HT,⟨rfl,rfl,HT⟩,⟨rfl,by rw[e2]; rfl,rfl,rfl,rfl,HT⟩⟩
 ·exact ⟨HT,c8 (l:=[(1000002,.row 1 (aC H))]) rfl rfl rfl ⟨rfl,HT⟩,rc rfl,HT⟩
theorem wW (hx:XOk Lc words) (H:List Int) (hl:H.length≤1000000) (hl1:1≤H.length) (w:Int) :
  CtO P 115 (xX Lc words (hO H)) [.c (.ad 1000000 0),.c (.ow 1000002 1 H.length),.c (eI .i64 w)] (xX Lc words (hO H)) [qP (br Lc words H w)]:=by
 have h0:=hx.len0;unfold br;by_cases hw:w<0∨words≤w∨w=1
 ·rw[if_pos hw]; exact wS w hw H
 ·rw[if_neg hw];by_cases h1:Lc.length=1
  ·exact wV hx hl hl1 hw h1
  ·exact wT hx hl hl1 hw (by omega)
end
end
section
section
variable {Lc:List (List Cnt)} {words:Int}
theorem tu (H:List Int):CtO P 71 (xX Lc words (hO H)) [.c (.ad 1000000 0),.c (.ow 1000002 1 H.length)] ((2,some (.var [.ad 1000000 0]))::(3,some (.var [.ow 1000002 1 H.length]))::xX Lc words (hO H)) [.c (.fn 114 [.ad 2 0,.ad 3 0])]:=by
 refine Ct.keep aj aa [] (N:=6) Tryz.func71 rfl rfl rfl rfl ?_;refine X1 [.ad 2 0,.ad 3 0] rfl ?_;exact ⟨HT,SubO.of (l:=[(2,.var [.ad 1000000 0]),(3,.var [.ow 1000002 1 H.length]),(1000000,xC Lc words 1000001),(1000001,.me false (MOk Lc)),(1000002,.row 1 (aC H))]) ⟨rfl,rfl,rfl,rfl,rfl,HT⟩,r1 rfl,HT⟩
def gB (Lc:List (List Cnt)) (n:Nat) (H:List Int):List (List A1):=(List.range n).map λw=>[.c (nI .i64 w),pA (cF Lc n H w)]
abbrev Eg (Lc:List (List Cnt)) (words:Int) (H:List Int):Objs:=[(1000000,some (xC Lc words 1000001)),(1000001,some (.me false (MOk Lc))),(1000003,some (.var [.ad 1000000 0])),(1000004,some (.var [.ow 1000002 1 H.length])),(1000002,some (.row 1 (aC H)))]
abbrev vI (Lc:List (List Cnt)) (words:Int) (H:List Int):Prop:=∀ w:Int,CtO P 115 (xX Lc words (hO H)) [.c (.ad 1000000 0),.c (.ow 1000002 1 H.length),.c (eI .i64 w)] (xX Lc words (hO H)) [qP (br Lc words H w)]
structure SB (Lc:List (List Cnt)) (n:Nat) (B:Nat):Prop where
 x:XOk Lc n
 e:∀ l,l∈Lc→eV n l
 q:∀ h,QF Lc n (e9 Lc h)<2^B
 b:B≤4000
theorem SB.sum {n B:Nat} (h:SB Lc n B) (H:List Int) {w:Nat} (hw:w≤n):Bd B (bC Lc n H w):=(eM h.x H w).bd (q5 h.x _) (h.q H) (BX h.x h.e H hw)
theorem SB.prob {n B:Nat} (h:SB Lc n B) (H:List Int) (w:Int):Bd B (br Lc n H w):=(eW h.x H w).bd (q5 h.x _) (h.q H) (zZ h.x h.e H w)
theorem qb {n B:Nat} (hB:SB Lc n B) (H:List Int) (hP:vI Lc n H):CtIO P 114 (Eg Lc n H) [.c (.ad 1000003 0),.c (.ad 1000004 0)] (gB Lc n H) (xX Lc n (hO H)):=by
 have hx:=hB.x;have h6:=hx.w6;have hbb:=hB.b;refine CtIO.walk (Ty.own_ok [1000001,1000003] aj) aa (N:=30) Tryz.func114 rfl rfl rfl rfl rfl (λv I X hv hY=>?_);refine X1 _ (cc 0 (by omega)) ?_;refine X2 (.own σx σx) ?_;refine ⟨_,_,gA,?_⟩;refine cn (Ty.own_ok [1000001,1000003] aj) aa (λw:Nat=>w≤n) (λw=>[(0,.c (.cb v)),(1,.c (.ad 1000003 0)),(2,.c (.ad 1000004 0)),(4,.c (.ad 4 0)),(9,.c (nI .i64 n)),(10,.c (nI .i64 w))])
  (λw=>[(2000000,.abs (I w)),(1000000,xC Lc n 1000001),(1000001,.me false (MOk Lc)),(1000003,.var [.ad 1000000 0]),(1000004,.var [.ow 1000002 1 H.length]),(1000002,.row 1 (aC H)),(4,.var (qP (bC Lc n H w)).cells)]) (λw=>n-w)
  0 (by omega) ⟨rfl,rfl,rfl,rfl,rfl,rfl,HT⟩ ⟨rfl,rfl,rfl,rfl,rfl,rfl,rfl,HT⟩ (λw hw=>?_)
 refine ah (λh1=>?_) (λh1=>?_)
 ·have hw':w<n:=by omega
  have hsb:=hB.sum H hw;have hpb:=hB.prob H (w:Int);have hadd:=kR (p:=bC Lc n H w) (q:=br Lc n H w) (by rw[ay hsb]; exact hsb) (by rw[ay hpb]; exact hpb) (by rw[ay hsb]; exact p5 hx H w) (by omega);rw[ay hsb,ay hpb]at hadd;have hitem:(gB Lc n H)[w]? = some [.c (nI .i64 w),pA (cF Lc n H w)]:=by
   unfold gB;rw[EZ,List.getElem?_range hw']; rfl
  refine X2 (.same σ3 1000001) ?_;refine ⟨rfl,_,hP w,?_⟩;refine .intro rfl ?_;refine ⟨gB Lc n H,I,X,w,hY,rfl,hitem,?_,?_⟩
  ·refine X1 _ hadd ?_;refine X1 ((w+1:Nat):Int) (wI (by simp) (by omega) (by omega)) ?_;exact ⟨w+1,by omega,by omega,⟨rfl,rfl,rfl,rfl,rfl,rfl,HT⟩,⟨rfl,rfl,rfl,rfl,rfl,rfl,rfl,HT⟩⟩
  ·exact ⟨HT,.inr rfl,c8 (l:=[(1000002,.row 1 (aC H))]) rfl rfl rfl ⟨rfl,HT⟩⟩
 ·have e:w=n:=by omega
  subst e;have hlen:(gB Lc w H).length=w:=by simp[gB]
  exact ⟨HT,.inl (by rw[hlen]; rfl),c8 (l:=[(1000002,.row 1 (aC H))]) rfl rfl rfl ⟨rfl,HT⟩⟩
abbrev σP:List (Nat × Nat):=[(1000000,1000000),(1000001,1000001),(61,1000003),(62,1000004),(1000002,1000002)]
abbrev νP:List (Nat × Nat):=[(1000000,1000000),(1000001,1000001),(1000002,1000002),(2,61),(3,62)]
theorem qc {n:Nat} {H:List Int} {i:Nat} {args:List A1} (h:(gB Lc n H)[i]? = some args):i<n∧args=[.c (nI .i64 i),pA (cF Lc n H i)]:=by
 unfold gB at h;rw[EZ,ES]at h;obtain ⟨j,h1,h2⟩:=h;obtain ⟨h3,h4⟩:=EP.1 h1;simp at h3 h4;subst h4;exact ⟨h3,h2.symm⟩
theorem tv {n:Nat} {H:List Int}:∀ args,args∈gB Lc n H→args.length=2∧aA args=true:=λargs ha=>by
 obtain ⟨x,_,rfl⟩:=Fn.1 ha;exact ⟨rfl,rfl⟩
theorem z9 {n B:Nat} (hB:SB Lc n B) (H:List Int) (hP:vI Lc n H) (w:Nat) (hw:w<n):CtO P 51 (xX Lc n (hO H)) [.c (.ad 1000000 0),.c (.ow 1000002 1 H.length),.c (nI .i64 w)] (xX Lc n (hO H)) [pA (cF Lc n H w)]:=by
 have h6:=hB.x.w6;refine Ct.io aj aa (N:=19) Tryz.func51 rfl rfl rfl rfl ?_;refine X2 (.own σ3 νP) ?_;refine ⟨_,_,tu H,?_⟩;refine y4 aj aa σP [1000000,1000001,1000002] (qb hB H hP) Tryz.func114 rfl rfl rfl rfl rfl rfl rfl tv [5,6] rfl (G:=Unit) (λi _=>i≤w) (λ_ _=>[(5,.c (.ad 5 0)),(6,.c (.ad 6 0))])
  (λ_ _=>[(5,.var [nI .i64 w]),(6,.var [.sc (.slice none 0 0),.sc (.slice none 0 0),.sc (.slice none 0 0),.sc (.slice none 0 0)])]) () (by omega) ⟨rfl,rfl,HT⟩ ⟨rfl,rfl,HT⟩ (λ_ _=>rfl) (λi _ args hg hi=>?_) (λ_ hi=>?_)
 ·obtain ⟨hin,rfl⟩:=qc hg;refine aT (λh1=>?_) (λh1=>?_)
  ·have e:i=w:=by omega
   subst e;refine ⟨[(6,.c (.ad 6 0))],[(6,.var (pA (cF Lc n H i)).cells)],⟨rfl,HT⟩,⟨rfl,HT⟩,(λp hp=>by simp at hp; subst hp; rfl),?_⟩;exact ⟨HT,c8 (l:=[(1000002,.row 1 (aC H))]) rfl rfl rfl ⟨rfl,HT⟩,rc rfl,HT⟩
  ·exact ⟨(),by omega,⟨rfl,rfl,HT⟩,⟨rfl,rfl,HT⟩⟩
 ·exfalso;have:(gB Lc n H).length=n:=by simp[gB]
  omega
end
end
section
section
variable {Lc:List (List Cnt)} {n B:Nat}
theorem jh (ids:List Int) (i:Nat) (hi:i<ids.length):bv Lc n (ids.take (i+1))=q7 (bv Lc n (ids.take i)) (cF Lc n ([1]++ids.take i) ids[i]):=by
 unfold bv;rw[ER hi,oN]
theorem Aa {ids:List Int} (h:InW n ids) (i:Nat):InW n (ids.take i):=λw hw=>h w (Gi hw)
theorem q9 (hB:SB Lc n B) (ids:List Int):∀ i,i≤ids.length→∃ R,R≠0∧R<2^(1+B*i)∧Dv R (bv Lc n (ids.take i)).1∧Dv R (bv Lc n (ids.take i)).2
 | 0,_=>⟨1,by decide,by rw[Gb]; decide,.int,.int⟩
 | i+1,hi=>by
  obtain ⟨R,r1,r2,r3,r4⟩:=q9 hB ids i (by omega);rw[jh ids i (by omega)];refine ⟨R*QF Lc n (e9 Lc ([1]++ids.take i)),Ff r1 (q5 hB.x _),?_,?_,?_⟩
  ·rw[show 1+B*(i+1)=(1+B*i)+B by rw[Fe,F5]; omega];exact kZ r2 (hB.q _)
  ·exact (r3.up (Hg _ _)).add (r4.mul (eM hB.x _ _))
  ·exact r4.mul (eW hB.x _ _)
theorem ra (hB:SB Lc n B) {ids:List Int} (hw:InW n ids) (i:Nat) (hi:i≤ids.length):Bd (1+B*i) (bv Lc n (ids.take i)).1∧Bd (1+B*i) (bv Lc n (ids.take i)).2∧Nat.gcd (bv Lc n (ids.take i)).1.1 (bv Lc n (ids.take i)).1.2=1:=by
 obtain ⟨R,r1,r2,r3,r4⟩:=q9 hB ids i hi;obtain ⟨a1,a2,a3,a4⟩:=jf hB.x (ids.take i);obtain ⟨s1,s2,s3⟩:=vE hB.x hB.e (ids.take i) [1] (Aa hw i);refine ⟨r3.bd r1 r2 (q6 a1 (by rw[a3]; grind)),r4.bd r1 r2 (q6 a2 (by rw[a4]; grind)),?_⟩
 cases i with
 | zero=>exact G3 1
 | succ i=>
  obtain ⟨R',q1,q2,q3,q4⟩:=q9 hB ids i (by omega);rw[jh ids i (by omega)];exact jJ (Ff q3.pos (eU q4.pos (eM hB.x _ _).pos))
theorem SB.probO (hB:SB Lc n B) (H:List Int) (hl:H.length≤1000000) (hl1:1≤H.length):vI Lc n H:=λw=>wW hB.x H hl hl1 w
theorem Ab (hB:SB Lc n B) (ids:List Int) (hw:InW n ids) (hl:ids.length≤25) (els:List (List PC)) (hels:els=aC ids) (m:Nat) (hm:m=ids.length) :
  CtO P 45 (xX Lc n [(1000002,some (.row 1 els))]) [.c (.ad 1000000 0),.c (.ow 1000002 1 m)] (xX Lc n [(1000002,some (.row 1 els))]) [pA (bv Lc n ids)]:=by
 subst hels hm;have hb:=hB.b;refine Ct.keep (Ty.own_ok [1000001] aj) aa [] (N:=31) Tryz.func45 rfl rfl rfl rfl ?_;refine X1 _ (cc 0 (by omega)) ?_;refine X1 _ (cc 1 (by omega)) ?_;refine .intro (by omega) ?_;refine aw (Ty.own_ok [1000001] aj) aa (λi:Nat=>i≤ids.length) (λi=>[(0,.c (.ad 1000000 0)),(4,.c (.ad 4 0)),(5,.c (.ad 5 0)),(6,.c (.ow 12 1 (i+1))),(13,.c (.ow 1000002 1 ids.length)),(14,.c (nI .i64 ids.length)),(15,.c (nI .i64 i))])
  (λi=>[(1000000,xC Lc n 1000001),(1000001,.me false (MOk Lc)),(1000002,.row 1 (aC ids)),(4,.var [.sc (.slice none 0 0),.sc (.slice none 0 0),.sc (.slice none 0 0),.sc (.slice none 0 0)]),(5,.var (pA (bv Lc n (ids.take i))).cells),(12,.row 1 (aC ([1]++ids.take i)))]) (λi=>ids.length-i)
  0 (by omega) ⟨rfl,rfl,rfl,rfl,rfl,rfl,rfl,HT⟩ ⟨rfl,rfl,rfl,rfl,rfl,rfl,HT⟩ (λ_:Unit=>True) (λ_=>[(4,.c (.ad 4 0)),(5,.c (.ad 5 0))])
  (λ_=>[(1000000,xC Lc n 1000001),(1000001,.me false (MOk Lc)),(1000002,.row 1 (aC ids)),(4,.var [.sc (.slice none 0 0),.sc (.slice none 0 0),.sc (.slice none 0 0),.sc (.slice none 0 0)]),(5,.var (pA (bv Lc n ids)).cells)]) (λi hi=>?_) (λ_ _=>?_)
 ·refine ah (λh1=>?_) (λh1=>?_)
  ·have hi':i<ids.length:=by omega
   obtain ⟨w0,w1⟩:=hw ids[i] (EY hi');have hget:(aC ids)[((i:Nat):Int).toNat]? = some [eI .i64 ids[i]]:=by rw[Fi]; simp[aC,hi']
   obtain ⟨b1,b2,b3⟩:=ra hB hw i hi;have hst:=jh (Lc:=Lc) (n:=n) ids i hi';have htk:([1]++ids.take i).length=i+1:=by simp; omega
   have htk2:[1]++ids.take (i+1)=([1]++ids.take i)++[ids[i]]:=by rw[ER hi',Hh]
   obtain ⟨v,hv⟩:∃ v:Nat,ids[i]=(v:Int):=⟨ids[i].toNat,by omega⟩;have hsb:=hB.sum ([1]++ids.take i) (w:=v) (by omega);have hpb:=hB.prob ([1]++ids.take i) (v:Int);rw[hv]at hget hst htk2;have hof:=z9 hB ([1]++ids.take i) (hB.probO _ (by omega) (by omega)) v (by omega);rw[htk]at hof;have hBi:B*i≤4000*25:=FQ hb (by omega);have hwin:=wN (p:=bv Lc n (ids.take i)) (q:=cF Lc n ([1]++ids.take i) (v:Int)) b1 b2 (show Bd B (bC Lc n ([1]++ids.take i) (v:Int).toNat) by rw[Fi]; exact hsb) hpb b3 (by omega);rw[←hst]at hwin
   refine .intro (by omega) (.intro (by omega) (X1 _ hget ?_));refine X2 (.same [(1000000,1000000),(1000001,1000001),(12,1000002)] 1000001) ?_;refine ⟨rfl,_,hof,?_⟩;refine X1 _ hwin ?_;refine .intro rfl ?_;refine ⟨by rw[ac,htk],by rw[ac,htk]; show (i+1+1+768)*8≤_; omega,by rw[ac,htk]; show i+1+1≤_; omega,aQ,aq rfl,?_⟩;refine X1 ((i+1:Nat):Int) (wI1 (by omega)) ?_;refine ⟨i+1,by omega,by omega,⟨rfl,rfl,rfl,owE (by rw[EL,ac,htk]; rfl),rfl,rfl,rfl,HT⟩,⟨rfl,rfl,rfl,rfl,rfl,aB (by rw[htk2]; simp[aC]; rfl),HT⟩⟩
  ·have e:i=ids.length:=by omega
   subst e;exact ⟨(),HT,⟨rfl,rfl,HT⟩,⟨rfl,rfl,rfl,rfl,by rw[Fp]; rfl,HT⟩⟩
 ·exact ⟨HT,c8 (l:=[(1000002,.row 1 (aC ids))]) rfl rfl rfl ⟨rfl,HT⟩,rc rfl,HT⟩
end
end
section
def jm:List Bool→Nat
 | []=>0
 | b::l=>b.toNat+2*jm l
def needW (n:Nat):Nat:=n/64+min (n%64) 1
def bD (l:List Bool) (k:Nat):Nat:=jm l/18446744073709551616^k%18446744073709551616
def a9 (l:List Bool):List Nat:=(List.range (needW l.length)).map (bD l)
theorem nl:∀ l:List Bool,jm l<2^l.length
 | []=>by decide
 | b::l=>by
  have:=nl l;rw[jm,Fo,Fj];cases b<;>simp only[Bool.toNat_true,Bool.toNat_false]<;>omega
theorem ji:∀ (l:List Bool) (b:Bool),jm (l++[b])=jm l+b.toNat*2^l.length
 | [],b=>by simp[jm]
 | c::l,b=>by
  rw[Gq,jm,ji l b,jm,Fo,Fj,Fe,←FN,E5 (2^l.length) 2,FL]
theorem tw:∀ (l:List Bool) (i:Nat),i<l.length→l[i]? = some (decide (jm l/2^i%2=1))
 | b::l,0,_=>by
  simp only[jm,List.getElem?_cons_zero,GE,G7];cases b<;>simp<;>omega
 | b::l,i+1,h=>by
  have:=tw l i (by simpa using h);have e:(b.toNat+2*jm l)/2=jm l:=by cases b<;>simp only[Bool.toNat_true,Bool.toNat_false]<;>omega
  rw[List.getElem?_cons_succ,this,jm,Fj,E5 (2^i) 2,←FY,e]
theorem k7 (k:Nat):(18446744073709551616:Nat)^k=2^(64*k):=by
 rw[show (18446744073709551616:Nat)=2^64 from rfl,←Nat.pow_mul]
theorem B4 {n:Nat} (h:n%64=0):needW n=n/64:=by unfold needW; omega
theorem vJ {n:Nat} (h:n%64≠0):needW n=n/64+1:=by unfold needW; omega
theorem dX (l:List Bool):(a9 l).length=needW l.length:=by simp[a9]
theorem fL {l:List Bool} {k:Nat} (h:k<needW l.length):(a9 l)[k]? = some (bD l k):=by simp[a9,h]
theorem k8 (l:List Bool) (k:Nat):bD l k<18446744073709551616:=FM _ (by decide)
theorem qd {l:List Bool} {b:Bool} {k:Nat} (h:64*(k+1)≤l.length):bD (l++[b]) k=bD l k:=by
 unfold bD;rw[ji,k7];obtain ⟨c,hc⟩:=Nat.exists_eq_add_of_le h;have e:b.toNat*2^l.length=(b.toNat*2^c)*18446744073709551616*2^(64*k):=by
  rw[hc,show 64*(k+1)+c=64*k+64+c by omega,FH,FH,show (2:Nat)^64=18446744073709551616 from rfl];simp only[E4,E5,FL]
 rw[e,Nat.add_mul_div_right _ _ (FE _),Nat.add_mul_mod_self_right]
theorem wX {l:List Bool} {b:Bool} {k:Nat} (h:l.length=64*k):bD (l++[b]) k=b.toNat:=by
 unfold bD;have:=nl l;rw[ji,k7,←h,Nat.add_mul_div_right _ _ (FE _),Ge this,FC];cases b<;>rfl
theorem jO {l:List Bool} {k:Nat} (h0:64*k≤l.length) (h:l.length<64*k+64):bD l k<2^(l.length-64*k):=by
 have:=nl l;unfold bD;refine Gx (Nat.mod_le _ _) ?_;rw[k7,Hi (FE _),←FH];rwa [show l.length-64*k+64*k=l.length by omega]
theorem uG {l:List Bool} {b:Bool} {k:Nat} (h0:64*k≤l.length) (h:l.length<64*k+64):bD (l++[b]) k=bD l k+b.toNat*2^(l.length-64*k):=by
 have h1:=jO h0 h;have h2:=nl l;have e:2^l.length=2^(l.length-64*k)*2^(64*k):=by rw[←FH]; congr 1; omega
 have h3:(2:Nat)^(l.length-64*k)≤2^63:=EX (by omega) (by omega);have h5:jm l/2^(64*k)<2^(l.length-64*k):=by
  rw[Hi (FE _),←e]; exact h2
 have h6:(2:Nat)^63=9223372036854775808:=rfl;unfold bD;rw[ji,k7,e,←E4,Nat.add_mul_div_right _ _ (FE _)];have h7:b.toNat*2^(l.length-64*k)≤2^(l.length-64*k):=by cases b<;>simp
 rw[Fg (by omega),Fg (by omega)]
theorem rb {l:List Bool} {b:Bool} (h:l.length%64=0):a9 (l++[b])=a9 l++[b.toNat]:=by
 have e1:needW l.length=l.length/64:=B4 h;have e2:needW (l++[b]).length=l.length/64+1:=by rw[EL,List.length_singleton]; unfold needW; omega
 unfold a9;rw[e1,e2,HG,FW,Fw,Hj,wX (by omega)];congr 1;refine Hb λk hk=>qd ?_
 have:=List.mem_range.1 hk;omega
theorem re {l:List Bool} {b:Bool} (h:l.length%64≠0):a9 (l++[b])=(a9 l).set (l.length/64) (bD l (l.length/64)+b.toNat*2^(l.length%64))∧needW (l++[b]).length=needW l.length:=by
 have e1:needW l.length=l.length/64+1:=vJ h;have e2:needW (l++[b]).length=l.length/64+1:=by rw[EL,List.length_singleton]; unfold needW; omega
 refine ⟨?_,by rw[e1,e2]⟩;have e3:l.length%64=l.length-64*(l.length/64):=by omega
 unfold a9;rw[e1,e2,e3,←uG (by omega) (by omega)];apply Hf;intro k;rw[F3];by_cases hk:l.length/64=k
 ·subst hk;rw[if_pos rfl];simp
 ·rw[if_neg hk];by_cases h2:k<l.length/64
  ·simp only[EZ,List.getElem?_range (show k<l.length/64+1 by omega),F2];rw[qd (by omega)]
  ·rw[E7 (by simp; omega),E7 (by simp; omega)]
theorem DH {a:Nat} {b:Bool} {i:Nat} (h:a<2^i):a|||b.toNat<<<i=a+b.toNat*2^i:=by
 rw[Nat.or_comm,←Nat.shiftLeft_add_eq_or_of_lt h,G8,G9]
theorem gC {l:List Bool} {i:Nat} (h:i<l.length):l[i]? = some (decide (bD l (i/64)/2^(i%64)%2=1)):=by
 rw[tw l i h];congr 2;unfold bD;rw[k7];have e:2^i=2^(64*(i/64))*2^(i%64):=by rw[←FH]; congr 1; omega
 rw[e,←FY];generalize jm l/2^(64*(i/64))=v;have h3:18446744073709551616=2^(i%64)*(2*2^(63-i%64)):=by
  rw[←Nat.pow_succ',←FH,show i%64+(63-i%64+1)=64 by omega]
 have h4:v%18446744073709551616/2^(i%64)=v/2^(i%64)%(2*2^(63-i%64)):=by
  rw[h3,Nat.mod_mul_right_div_self]
 rw[h4,Nat.mod_mul_right_mod]
theorem uH {l m:List Bool} (h1:l.length=m.length) (h2:a9 l=a9 m):l=m:=by
 apply Hf;intro i;by_cases hi:i<l.length
 ·rw[gC hi,gC (by omega)];have hk:i/64<needW l.length:=by unfold needW; omega
  have e1:=fL (l:=l) hk;have e2:=fL (l:=m) (by rw[←h1]; exact hk);rw[h2,e2]at e1;rw[Gu e1]
 ·rw[E7 (by omega),E7 (by omega)]
end
end Go.Proofs.YtgceikecdedfcaaGreat.Pv
