/- Parts of a proof, joined: Hc Hi Hy Hv Hf Hg Hh Hl Hd. -/
import Derived.Test.YtgceikecdedfcaaGreatLsP
namespace Go.Proofs.YtgceikecdedfcaaGreat.Pv
open Go
section
def upF (a:Fr2):Nat:=if a.1/a.2*a.2<a.1 then a.1/a.2+1 else a.1/a.2
theorem oy {a:Fr2} (h:a.2≠0):a.1≤upF a*a.2∧upF a*a.2<a.1+a.2:=by
 have h1:=FL a.1 a.2;have h2:=FE a.1 (Fb h);rw[EV]at h1;unfold upF;split
 ·rw[EU,Fn]; omega
 ·omega
theorem Dq {n d:Nat} (h:d≠0):upF (fR n d)=upF (n,d):=by
 have hg:Nat.gcd n d≠0:=λe=>h (Gx e)
 obtain ⟨a,ha⟩:=Hf n d;obtain ⟨b,hb⟩:=GE n d;unfold fR;generalize Nat.gcd n d=g at *
 subst ha hb;unfold upF;have hp:=Fb hg;simp only;rw[F5 _ hp,F5 _ hp,Nat.mul_div_mul_left _ _ hp];have e:a/b*(g*b)=g*(a/b*b):=by rw[FC]
 rw[e];by_cases hc:a/b*b<a
 ·rw[if_pos hc,if_pos (Nat.mul_lt_mul_of_pos_left hc hp)]
 ·rw[if_neg hc,if_neg (by
   have:=Fw g (FK hc);omega)]
theorem D4 {c n d:Nat} (h:d≠0):c*(fR n d).2≤(fR n d).1↔c*d≤n:=by
 have hg:Nat.gcd n d≠0:=λe=>h (Gx e)
 obtain ⟨a,ha⟩:=Hf n d;obtain ⟨b,hb⟩:=GE n d;unfold fR;generalize Nat.gcd n d=g at *
 subst ha hb;have hp:=Fb hg;simp only;rw[F5 _ hp,F5 _ hp,FC];exact ⟨λh=>Fw g h,λh=>Nat.le_of_mul_le_mul_left h hp⟩
def jE (p:Fr2 × Fr2):Fr2:=bG p.1 p.2
def vK (p:Fr2 × Fr2) (k:Nat):Nat:=upF (p.1.1*2^k,p.1.2)
def good (p:Fr2 × Fr2) (k:Nat):Bool:=decide ((vK p k+1)*(jE p).2≤(jE p).1*2^k)
structure IsCode (p:Fr2 × Fr2) (k:Nat):Prop where
 good:good p k=true
 least:∀ j,j<k→Pv.good p j=false
theorem zU {p:Fr2 × Fr2}:∀ {K:Nat},good p K=true→∃ k,k≤K∧IsCode p k:=by
 intro K
 induction K using Nat.strongRecOn with
 | ind K ih=>
  intro h;by_cases hl:∃ j,j<K∧good p j=true
  ·obtain ⟨j,h1,h2⟩:=hl;obtain ⟨k,a1,a2⟩:=ih j h1 h2;exact ⟨k,by omega,a2⟩
  ·exact ⟨K,EE _,h,λj hj=>by
    cases hb:good p j with
    | false=>rfl
    | true=>exact absurd ⟨j,hj,hb⟩ hl⟩
theorem IsCode.uniq {p:Fr2 × Fr2} {j k:Nat} (h1:IsCode p j) (h2:IsCode p k):j=k:=by
 rcases FY j k with h | h | h
 ·have:=h2.least j h; rw[h1.good]at this; cases this
 ·exact h
 ·have:=h1.least k h; rw[h2.good]at this; cases this
theorem gp (k:Nat):(0:Rat)<((2^k:Nat):Rat):=Gm.2 (Fv k)
theorem BT {p:Fr2 × Fr2} (h1:p.1.2≠0) (h2:p.2.2≠0) {k:Nat} (h:2≤((2^k:Nat):Rat)*qv p.2):good p k=true:=by
 have hs:=(oy (a:=(p.1.1*2^k,p.1.2)) h1).2;have he:=iA h1 h2;have hep:(jE p).2≠0:=gm h1 h2;unfold good;rw[decide_eq_true_eq];unfold vK;generalize upF (p.1.1*2^k,p.1.2)=v at *
 have b1:(0:Rat)<p.1.2:=Gm.2 (Fb h1);have b2:(0:Rat)<(jE p).2:=Gm.2 (Fb hep);have c1:=Rat.natCast_lt_natCast.2 hs;simp only[FI,Gl]at c1;have c2:(v:Rat)<qv p.1*((2^k:Nat):Rat)+1:=by
  have e:qv p.1*((2^k:Nat):Rat)+1=((p.1.1:Rat)*((2^k:Nat):Rat)+p.1.2)/p.1.2:=by unfold qv; grind
  rw[e,Rat.lt_div_iff b1];exact c1
 have c3:((v:Rat)+1)≤qv (jE p)*((2^k:Nat):Rat):=by
  show _≤qv (bG p.1 p.2)*_
  rw[he];grind
 apply Gi.1;simp only[FI,Gl];have e:qv (jE p)*((2^k:Nat):Rat)=((jE p).1:Rat)*((2^k:Nat):Rat)/(jE p).2:=by unfold qv; grind
 rw[e,gM b2]at c3;exact c3
theorem vp {p:Fr2 × Fr2} (h1:p.1.2≠0) (h2:p.2.2≠0) {k:Nat} (h:good p k=true):qv p.1≤(vK p k:Rat)/((2^k:Nat):Rat)∧((vK p k:Rat)+1)/((2^k:Nat):Rat)≤qv p.1+qv p.2:=by
 have hs:=(oy (a:=(p.1.1*2^k,p.1.2)) h1).1;have hep:(jE p).2≠0:=gm h1 h2;have b1:(0:Rat)<p.1.2:=Gm.2 (Fb h1);have b2:(0:Rat)<(jE p).2:=Gm.2 (Fb hep);have b3:=gp k;unfold good at h;rw[decide_eq_true_eq]at h;have c1:=Gi.2 hs;have c2:=Gi.2 h;simp only[FI,Gl]at c1 c2;constructor
 ·rw[gM b3];have e:qv p.1*((2^k:Nat):Rat)=(p.1.1:Rat)*((2^k:Nat):Rat)/p.1.2:=by unfold qv; grind
  rw[e,kP b1];exact c1
 ·rw[←iA h1 h2,kP b3];show _≤qv (jE p)*_
  have e:qv (jE p)*((2^k:Nat):Rat)=((jE p).1:Rat)*((2^k:Nat):Rat)/(jE p).2:=by unfold qv; grind
  rw[e,gM b2];exact c2
def di:Nat→Nat→List Bool
 | _,0=>[]
 | v,k+1=>di (v/2) k++[decide (v%2=1)]
def valB (l:List Bool):Nat:=l.foldl (λv b=>2*v+b.toNat) 0
theorem pK (l:List Bool) (b:Bool):valB (l++[b])=2*valB l+b.toNat:=by simp[valB,GS]
theorem iY:∀ (k v:Nat),(di v k).length=k
 | 0,_=>rfl
 | k+1,v=>by simp[di,iY k]
theorem pM:∀ (k v:Nat),v<2^k→valB (di v k)=v
 | 0,v,h=>by
  have:v=0:=by simpa using h
  subst this; rfl
 | k+1,v,h=>by
  rw[Fk]at h;rw[di,pK,pM k (v/2) (by omega)];by_cases hv:v%2=1
  ·rw[decide_eq_true hv]; show 2*(v/2)+1=v; omega
  ·rw[decide_eq_false hv]; show 2*(v/2)+0=v; omega
theorem mW (l:List Bool):valB l<2^l.length:=by
 have key:∀ (l:List Bool) (a m:Nat),a<2^m→l.foldl (λv b=>2*v+b.toNat) a<2^(m+l.length):=by
  intro l
  induction l with
  | nil=>intro a m h; exact h
  | cons b l ih=>
   intro a m h;rw[List.foldl_cons,Fe,show m+(l.length+1)=(m+1)+l.length by omega];refine ih _ (m+1) ?_;rw[Fk];cases b<;>simp only[Bool.toNat_true,Bool.toNat_false]<;>omega
 have:=key l 0 0 (by decide);rwa [Fu]at this
section
variable {Lc:List (List Cnt)} {n:Nat}
def bf (Lc:List (List Cnt)) (n:Int) (ids:List Int):Fr2 × Fr2:=fa Lc n ((0,1),(1,1)) [1] ids
theorem iZ (hx:XOk Lc n) (ids:List Int):(bf Lc n ids).1.2≠0∧(bf Lc n ids).2.2≠0∧qv (bf Lc n ids).1=spA Lc n [1] ids∧qv (bf Lc n ids).2=spB Lc n [1] ids:=by
 obtain ⟨a1,a2,a3,a4⟩:=s8 hx ids [1] ((0,1),(1,1)) (by show (1:Nat)≠0; decide) (by show (1:Nat)≠0; decide);have e0:qv (0,1)=0:=by rw[eE]; rfl
 have e1:qv (1,1)=1:=by rw[eE]; rfl
 refine ⟨a1,a2,?_,?_⟩
 ·show qv (fa Lc n ((0,1),(1,1)) [1] ids).1=_
  rw[a3,e0,e1]; grind
 ·show qv (fa Lc n ((0,1),(1,1)) [1] ids).2=_
  rw[a4,e1]; grind
structure PlainW (n:Int) (ids:List Int):Prop where
 rg:InW n ids
 no2:∀ w,w∈ids→w≠2
theorem Dr (hx:XOk Lc n) (he:∀ l,l∈Lc→eT n l) {ids:List Int} (hp:PlainW n ids) (h2:2<n) {u:Fr2} (hu:u.2≠0) (h3:qv (bf Lc n (ids++[2])).1≤qv u) (h4:qv u<qv (bf Lc n (ids++[2])).1+qv (bf Lc n (ids++[2])).2) (f:Nat) :
  oM Lc n f [1] u=if ids.length<f then some ids else none:=by
 obtain ⟨_,_,a3,a4⟩:=iZ hx (ids++[2]);rw[a3]at h3;rw[a3,a4]at h4;rw[s9 hx he ids [1] u f hu hp.rg h2 hp.no2 h3 h4];rfl
def oN (l:List Bool):Fr2:=fR (valB l) (2^l.length)
theorem oz (l:List Bool):(oN l).2≠0∧qv (oN l)=(valB l:Rat)/((2^l.length:Nat):Rat):=by
 have h:2^l.length≠0:=Nat.pos_iff_ne_zero.1 (Fv _);exact ⟨iu h,pz h⟩
theorem D5 (hx:XOk Lc n) (he:∀ l,l∈Lc→eT n l) {r:List Int} (hr:InW n r) {k:Nat} (hg:good (bf Lc n r) k=true):vK (bf Lc n r) k<2^k:=by
 obtain ⟨a1,a2,a3,a4⟩:=iZ hx r;have h1:=(vp a1 a2 hg).2;obtain ⟨_,_,i3⟩:=vo hx he r [1] hr;rw[a3,a4,kP (gp k)]at h1;have h5:((vK (bf Lc n r) k+1:Nat):Rat)≤((2^k:Nat):Rat):=by
  rw[Gl,show ((1:Nat):Rat)=1 from rfl];have:=Rat.mul_le_mul_of_nonneg_right i3 (Rat.le_of_lt (gp k));grind
 have:=Gi.1 h5;omega
theorem Dt (hx:XOk Lc n) (he:∀ l,l∈Lc→eT n l) {r:List Int} (hr:InW n r) {k:Nat} (hg:good (bf Lc n r) k=true) :
  qv (bf Lc n r).1≤qv (oN (di (vK (bf Lc n r) k) k))∧qv (oN (di (vK (bf Lc n r) k) k))<qv (bf Lc n r).1+qv (bf Lc n r).2:=by
 obtain ⟨a1,a2,_,_⟩:=iZ hx r;obtain ⟨h1,h2⟩:=vp a1 a2 hg;rw[(oz _).2,pM k _ (D5 hx he hr hg),iY];refine ⟨h1,?_⟩;have h3:(vK (bf Lc n r) k:Rat)/((2^k:Nat):Rat)<((vK (bf Lc n r) k:Rat)+1)/((2^k:Nat):Rat):=by
  rw[Ho (gp k),Rat.div_mul_cancel (λe=>by have:=gp k; rw[e]at this; exact absurd this (by decide))];grind
 grind
theorem Ew {ids:List Int} (h2:2<n) (hp:PlainW n ids):InW n (ids++[2]):=λx hx=>by
 rcases Fl.1 hx with hx | hx
 ·exact hp.rg x hx
 ·simp at hx; subst hx; omega
theorem zV (hx:XOk Lc n) (he:∀ l,l∈Lc→eT n l) {ids:List Int} (hp:PlainW n ids) (h2:2<n) {k:Nat} (hg:good (bf Lc n (ids++[2])) k=true) (f:Nat) :
  oM Lc n f [1] (oN (di (vK (bf Lc n (ids++[2])) k) k))=if ids.length<f then some ids else none:=by
 obtain ⟨h3,h4⟩:=Dt hx he (Ew h2 hp) hg;exact Dr hx he hp h2 (oz _).1 h3 h4 f
end
end
section
abbrev pA (p:Fr2 × Fr2):A1:=.ag [nSl .u64 (dg 18446744073709551616 p.1.1),nSl .u64 (dg 18446744073709551616 p.1.2),nSl .u64 (dg 18446744073709551616 p.2.1),nSl .u64 (dg 18446744073709551616 p.2.2)]
theorem gq {v k:Nat} (h:v<2^k) (hk:k≤2000000):(dg 18446744073709551616 v).length≤40000:=by
 by_cases h0:k=0
 ·subst h0;have:v=0:=by simpa using h
  subst this;exact EG (bQ (k:=1) (by omega) (by omega)) (by omega)
 ·exact (cx (p:=(v,1)) (az h (by omega)) hk).1
theorem kQ {n d k:Nat} (hd:d≠0) (hn:n<2^k) (hd2:d<2^k) (hk:k≤2000000):Ct P 99 [nV n,nV d] [qP (fR n d),.c (eI .i64 0)]:=by
 have l1:=gq hn hk;have l2:=gq hd2 hk;refine Ct.go aj aa (N:=12) Tryz.func99 rfl rfl rfl rfl ?_;refine X1 _ (fw d (by omega)) ?_;refine aP (λh=>?_) (λ_=>?_)
 ·exact absurd (by simpa using h) hd
 refine X1 _ (ir n d hd (by omega) (by omega)) ?_;exact ⟨HJ,rc rfl,r1 rfl,HJ⟩
theorem zW {a:Fr2} {k:Nat} (h:Bd k a) (hk:k≤2000000):Ct P 143 [qP a] [nV (a.1/a.2)]:=by
 have l1:=gq h.n hk;have l2:=gq h.d hk;refine Ct.go aj aa (N:=16) Tryz.func143 rfl rfl rfl rfl ?_;refine X1 _ (cI _ _) ?_;refine X1 _ (bS _ _ (by omega)) ?_;rw[gQ h.pos];refine X1 _ (mJ _ _ h.pos (by omega) (by omega)) ?_;refine .intro rfl ?_;exact ⟨HJ,rc rfl,HJ⟩
theorem kR {n k j:Nat} (h:n<2^k):n*2^j<2^(k+j):=by rw[Fy]; exact F4 h (Fv j)
theorem ta {a:Fr2} {k j:Nat} (h:Bd k a):Bd (k+j) (fR (a.1*2^j) a.2):=po h.pos (kR h.n) (EM h.d (ER (by omega) (by omega)))
theorem tb {a:Fr2} {k j:Nat} (h:Bd k a) (hk:k+j≤900000):Ct P 98 [qP a,.c (nI .i64 j)] [qP (fR (a.1*2^j) a.2)]:=by
 have l1:=gq h.n (by omega);have l2:=gq h.d (by omega);refine Ct.go aj aa (N:=18) Tryz.func98 rfl rfl rfl rfl ?_;refine X1 _ (cI _ _) ?_;refine X1 _ (pn a.1 j (by omega) (by omega)) ?_;refine X1 _ (bS _ _ (by omega)) ?_;rw[gQ h.pos];refine X1 _ (kQ (k:=k+j) h.pos (kR h.n) (EM h.d (ER (by omega) (by omega))) (by omega)) ?_;refine .intro rfl ?_;exact ⟨HJ,rc rfl,HJ⟩
theorem Du {a:Fr2} {k:Nat} (h:Bd k a):upF a<2^(k+1):=by
 have h1:=(oy h.pos).2;have h2:=Fb h.pos;have h3:=h.n;have h4:=h.d;have:upF a≤upF a*a.2:=Nat.le_mul_of_pos_right _ h2;rw[Fk];omega
theorem Dw {a:Fr2} {k:Nat} (h:Bd k a) (hk:k≤900000):Ct P 97 [qP a] [nV (upF a)]:=by
 have l1:=gq h.n (by omega);have l2:=gq h.d (by omega);have hq:a.1/a.2≤a.1:=FU _ _;have hn:a.1/a.2<2^(k+1):=by rw[Fk]; have:=h.n; omega
 have l3:=gq hn (by omega);have h1:(1:Nat)<2^(k+1):=EM (by decide) (ER (n:=2) (by omega) (show 1≤k+1 by omega));have hw:fR (a.1/a.2) 1=(a.1/a.2,1):=va (Hq _);have hof:=kQ (k:=k+1) (n:=a.1/a.2) (d:=1) (by omega) hn h1 (by omega);rw[hw]at hof;have hcmp:=mL (a.1/a.2) 1 a.1 a.2 (cx (az hn (by omega)) (by omega)) (cx h (by omega));rw[gQ h.pos,show dn 1=1 from rfl,F2]at hcmp;refine Ct.go aj aa (N:=22) Tryz.func97 rfl rfl rfl rfl ?_;refine X1 _ (zW h (by omega)) ?_;refine X1 _ (fX 1 (by omega)) ?_;refine X1 _ hof ?_;refine .intro rfl ?_;refine X1 _ hcmp ?_;refine ah (λhc=>?_) (λhc=>?_)
 ·refine X1 _ (fX 1 (by omega)) ?_;refine X1 _ (mH _ _ (by omega) (EG (gq h1 (by omega)) (by omega))) ?_;refine .intro rfl ?_;have e:upF a=a.1/a.2+1:=if_pos (by have:=cmpI_lt.1 hc; omega);rw[e];exact ⟨HJ,rc rfl,HJ⟩
 ·have e:upF a=a.1/a.2:=if_neg (λh2=>hc (cmpI_lt.2 (by omega)));rw[e];exact ⟨HJ,rc rfl,HJ⟩
theorem vq {p:Fr2 × Fr2} {j k:Nat} (h1:Bd j p.1) (h2:Bd k p.2) (hr:Nat.gcd p.1.1 p.1.2=1) (hk:j+k<900000):Ct P 73 [pA p] [qP (bG p.1 p.2)]:=by
 have hadd:=kH (p:=p.1) (q:=p.2) (by rw[ay h1]; exact h1) (by rw[ay h2]; exact h2) (by rw[ay h1]; exact hr) (by omega);rw[ay h1,ay h2]at hadd;refine Ct.go (Ty.own_ok [1000001,1000003] aj) aa (N:=9) Tryz.func73 rfl rfl rfl rfl ?_;refine X1 _ hadd ?_;exact ⟨HJ,rc rfl,HJ⟩
theorem pP {p q:Fr2 × Fr2} {j k:Nat} (h1:Bd j p.1) (h2:Bd j p.2) (h3:Bd k q.1) (h4:Bd k q.2) (hr:Nat.gcd p.1.1 p.1.2=1) (hk:2*j+k<300000):Ct P 96 [pA p,pA q] [pA (qO p q)]:=by
 have hm1:=eJ (p:=p.2) (q:=q.1) (by rw[ay h2]; exact h2) (by rw[ay h3]; exact h3) (by omega) (by omega);have hm2:=eJ (p:=p.2) (q:=q.2) (by rw[ay h2]; exact h2) (by rw[ay h4]; exact h4) (by omega) (by omega);have hb:=bc h2 h3;have hadd:=kH (p:=p.1) (q:=cM p.2 q.1) (by rw[ay h1]; exact h1) (by rw[ay hb]; exact hb) (by rw[ay h1]; exact hr) (by omega);rw[ay h2,ay h3]at hm1;rw[ay h2,ay h4]at hm2;rw[ay h1,ay hb]at hadd;refine Ct.go (Ty.own_ok [1000001] aj) aa (N:=20) Tryz.func96 rfl rfl rfl rfl ?_;refine X1 _ hm1 ?_;refine X1 _ hadd ?_;refine X1 _ hm2 ?_;refine .intro rfl ?_;exact ⟨HJ,rc rfl,HJ⟩
theorem BU {n k:Nat} {els els2:List (List PC)} {X:Prop} (hn:n=els.length) (h:els.length+els2.length≤4000000) (hk:k≤64) (h1:ax els) (h2:ax els2) (hX:X) :
  n=els.length∧(els.length+els2.length+768)*k≤17592186044416∧els.length+els2.length≤35184372088832∧ax els∧ax els2∧X:=
 ⟨hn,EG (Fw _ hk) (by omega),by omega,h1,h2,hX⟩
end
section
theorem Hp.turn {K:Km} {ok:Nat→Prop} {w:World} {O O':Objs} (hp:Hp K ok w O) (ho:∀ k o',O'.get k=some o'→(∃ o,O.get k=some o)∧HOb K ok w k o'):Hp K ok w O':=
 ⟨λk o h=>(ho k o h).2,λk k' o o' b L L' h1 h2 e1 e2=>by
  obtain ⟨⟨p,g1⟩,_⟩:=ho k o h1;obtain ⟨⟨p',g2⟩,_⟩:=ho k' o' h2;exact hp.inj k k' p p' b L L' g1 g2 e1 e2,λk o b L h e=>by
  obtain ⟨⟨p,g1⟩,_⟩:=ho k o h;exact hp.apart k p b L g1 e,hp.lt,hp.hlt,hp.hok,λk o b L h e=>by
  obtain ⟨⟨p,g1⟩,_⟩:=ho k o h;exact hp.how k p b L g1 e⟩
theorem Fr.turn {K K':Km} {ok ok':Nat→Prop} {w w':World} {O O1 O2 O3:Objs} (hf:Fr K ok w O K' ok' w' O2) (h1:∀ k o,O.get k=some o→∃ o',O1.get k=some o') (h2:∀ k o,O3.get k=some o→∃ o',O2.get k=some o'):Fr K ok w O1 K' ok' w' O3:=
 ⟨hf.size,λb hb g1 g2=>hf.keep b hb (λk o L e1 e2=>by obtain ⟨o',g⟩:=h1 k o e1; exact g1 k o' L g e2) g2,hf.okUp,λb hb=>by
  rcases hf.okNew b hb with h | h | ⟨k,o,L,e1,e2⟩
  ·exact .inl h
  ·exact .inr (.inl h)
  ·obtain ⟨o',g⟩:=h1 k o e1; exact .inr (.inr ⟨k,o',L,g,e2⟩),λk o b L e1 e2=>by
  obtain ⟨o',g⟩:=h2 k o e1;rcases hf.own k o' b L g e2 with h | ⟨k0,o0,L0,g1,g2⟩
  ·exact .inl h
  ·obtain ⟨o1,g3⟩:=h1 k0 o0 g1; exact .inr ⟨k0,o1,L0,g3,g2⟩,hf.os,hf.tape,hf.output,hf.kind,hf.pin,hf.hid⟩
theorem CtO.less {P:Program} {f:FuncId} {O O' O2:Objs} {args res:List A1} (h:CtO P f O args O' res) (hw:∀ K ok w k o2,O2.get k=some o2→∃ o',O'.get k=some o'∧(HOb K ok w k o'→HOb K ok w k o2)):CtO P f O args O2 res:=
 ⟨λK ok w vs hp hrel=>(h.run K ok w vs hp hrel).mono λe w' ⟨v,K',ok',h1,h2,h3,h4⟩=>
  ⟨v,K',ok',h1,h2,h3.turn λk o2 g=>by obtain ⟨o',g1,g2⟩:=hw K' ok' w' k o2 g; exact ⟨⟨o',g1⟩,g2 (h3.obs k o' g1)⟩,
   h4.turn (λk o g=>⟨o,g⟩) λk o g=>by obtain ⟨o',g1,_⟩:=hw K' ok' w' k o g; exact ⟨o',g1⟩⟩⟩
theorem BV {k:Nat} {o1 o2 o:Ob} {OX:Objs} (h:Objs.get ((1000000,some o1)::(1000001,some o2)::OX) k=some o):(k=1000000∧o=o1)∨(k=1000001∧o=o2)∨(k≠1000000∧k≠1000001∧OX.get k=some o):=by
 simp only[Objs.get]at h
 cases h1:Nat.beq 1000000 k with
 | true=>rw[h1]at h; exact .inl ⟨(EA h1).symm,(Gk h).symm⟩
 | false=>
  rw[h1]at h;have n1:k≠1000000:=λe=>by rw[e,EW]at h1; cases h1
  cases h2:Nat.beq 1000001 k with
  | true=>rw[h2]at h; exact .inr (.inl ⟨(EA h2).symm,(Gk h).symm⟩)
  | false=>
   rw[h2]at h;exact .inr (.inr ⟨n1,(λe=>by rw[e,EW]at h2; cases h2),h⟩)
theorem pQ {k:Nat} {o1 o2 o:Ob} {OX:Objs} (n1:k≠1000000) (n2:k≠1000001) (h:OX.get k=some o):Objs.get ((1000000,some o1)::(1000001,some o2)::OX) k=some o:=by
 simp only[Objs.get]
 cases h1:Nat.beq 1000000 k with
 | true=>exact absurd (EA h1).symm n1
 | false=>
  cases h2:Nat.beq 1000001 k with
  | true=>exact absurd (EA h2).symm n2
  | false=>exact h
abbrev xM (Lc:List (List Cnt)) (words:Int) (ks:List Value) (vs:List (List PC)) (OX:Objs):Objs:=(1000000,some (xC Lc words 1000001))::(1000001,some (.mp false ks vs))::OX
abbrev xX (Lc:List (List Cnt)) (words:Int) (OX:Objs):Objs:=(1000000,some (xC Lc words 1000001))::(1000001,some (.me false (MOk Lc)))::OX
abbrev xE (Lc:List (List Cnt)) (words:Int):Objs:=xX Lc words []
theorem CtO.ex {f:FuncId} {args res:List A1} {Lc:List (List Cnt)} {words:Int} {OX OX':Objs} (h:∀ ks vs,MOk Lc ks vs→∃ ks' vs',MOk Lc ks' vs'∧CtO P f (xM Lc words ks vs OX) args (xM Lc words ks' vs' OX') res):CtO P f (xX Lc words OX) args (xX Lc words OX') res:=by
 refine ⟨λK ok w vs hp hrel=>?_⟩;obtain ⟨ks,ws,hS,hob⟩:=hp.obs 1000001 (.me false (MOk Lc)) rfl;obtain ⟨ks',ws',hS',hct⟩:=h ks ws hS;have hp2:Hp K ok w (xM Lc words ks ws OX):=hp.turn λk o g=>by
  rcases BV g with ⟨rfl,rfl⟩ | ⟨rfl,rfl⟩ | ⟨n1,n2,g⟩
  ·exact ⟨⟨_,rfl⟩,hp.obs 1000000 _ rfl⟩
  ·exact ⟨⟨_,rfl⟩,hob⟩
  ·exact ⟨⟨_,pQ n1 n2 g⟩,hp.obs k o (pQ n1 n2 g)⟩
 refine (hct.run K ok w vs hp2 hrel).mono λe w' ⟨v,K',ok',h1,h2,h3,h4⟩=>⟨v,K',ok',h1,h2,h3.turn λk o g=>?_,h4.turn (λk o g=>?_) λk o g=>?_⟩
 ·rcases BV g with ⟨rfl,rfl⟩ | ⟨rfl,rfl⟩ | ⟨n1,n2,g⟩
  ·exact ⟨⟨_,rfl⟩,h3.obs 1000000 _ rfl⟩
  ·exact ⟨⟨_,rfl⟩,ks',ws',hS',h3.obs 1000001 _ rfl⟩
  ·exact ⟨⟨_,pQ n1 n2 g⟩,h3.obs k o (pQ n1 n2 g)⟩
 ·rcases BV g with ⟨rfl,rfl⟩ | ⟨rfl,rfl⟩ | ⟨n1,n2,g⟩
  ·exact ⟨_,rfl⟩
  ·exact ⟨_,rfl⟩
  ·exact ⟨_,pQ n1 n2 g⟩
 ·rcases BV g with ⟨rfl,rfl⟩ | ⟨rfl,rfl⟩ | ⟨n1,n2,g⟩
  ·exact ⟨_,rfl⟩
  ·exact ⟨_,rfl⟩
  ·exact ⟨_,pQ n1 n2 g⟩
section
variable {Lc:List (List Cnt)} {words:Int}
theorem gr:CtO P 42 (xE Lc words) [.c (.ad 1000000 0)] (xE Lc words) [.c (eI .i64 words)]:=.ex λks vs hm=>⟨ks,vs,hm,sC⟩
end
end
section
section
variable {Lc:List (List Cnt)} {words:Int} {ks:List Value} {vs:List (List PC)}
theorem tc (hx:XOk Lc words) (hm:MOk Lc ks vs) (H h:List Int) (lo n:Nat) (hh0:h=(H.drop lo).take n) (hH:H.length≤1000000) (hle:lo+n≤H.length) (hh:h.length<Lc.length) :
  ∃ ks' vs',MOk Lc ks' vs'∧CtO P 159 (zH Lc words ks vs (aF H)) [.c (.ad 1000000 0),.c (.os 1000002 1 lo n)] (zH Lc words ks' vs' (aF H)) [.c (lA Lc h)]:=by
 have hn:h.length=n:=by rw[hh0,EQ,Ff]; omega
 have esub:iSl h = .sl 1 (((aF H).drop lo).take n):=by rw[hh0]; exact congrArg _ iRow_sub.symm
 have h8:=hx.len8;have hln:=hx.lim.at' hh;have e:Lc.getD h.length []=Lc[h.length]:=by simp[EB,hh]
 by_cases hk:du h=true
 ·obtain ⟨r,f1,f2⟩:=lz (qh h) ks 0 hm.str;have hkey:=mE h (by omega);rw[if_pos hk,if_pos hk,esub]at hkey
  cases r with
  | some j=>
   obtain ⟨_,f3⟩:=f2 j rfl;rw[Gv]at f3;obtain ⟨h',g1,g2,g3⟩:=hm.at' j _ f3;have e':h=h':=sF hk g1 (by injection g2);subst e';refine ⟨ks,vs,hm,?_⟩;refine Ct.io aj aa (N:=63) Tryz.func159 rfl rfl rfl rfl ?_;refine X2 .look (X1 _ hkey ?_);refine ⟨some j,.c (lA Lc h),f1,⟨_,g3,rfl⟩,?_⟩;exact ⟨HJ,sH rfl rfl rfl,r1 rfl,HJ⟩
  | none=>
   refine ⟨ks++[.string (qh h)],vs++[[lA Lc h]],?_,?_⟩
   ·refine ⟨by simp[hm.len],λi k hi=>?_⟩;have hlen:∀ i k,ks[i]? = some k→i<vs.length:=λi k hi=>by
     obtain ⟨_,_,_,g3⟩:=hm.at' i k hi;exact (EF.1 g3).1
    rcases FY i ks.length with hlt | heq | hgt
    ·rw[EK hlt]at hi;rw[EK (hlen i k hi)];exact hm.at' i k hi
    ·subst heq;rw[EJ (EE _),G1]at hi;cases hi;refine ⟨h,hk,rfl,?_⟩;rw[EJ (Nat.le_of_eq hm.len.symm),hm.len,G1];rfl
    ·rw[EZ (by simp; omega)]at hi; cases hi
   ·have haft:=pq Lc[h.length] h hln (hx.rises _ (EO hh)) (by omega) (hx.tot _ (EO hh));rw[esub]at haft;refine Ct.io aj aa (N:=63) Tryz.func159 rfl rfl rfl rfl ?_;refine X2 .look (X1 _ hkey ?_);refine ⟨none,.c (.sc (.pointer none)),f1,rfl,?_⟩;refine .intro (by omega) ?_;refine .intro (by omega) (X1 _ (bH (n:=h.length) (by omega) hh) ?_);refine X2 .look (X1 _ haft ?_);refine .intro (by omega) ?_;refine .intro (by omega) (X1 _ (gk (n:=h.length) (by omega) hh) ?_);refine X1 _ (vf hx h hh) ?_;refine .intro rfl ?_;refine ⟨[55],none,f1,rfl,?_⟩;have hc:um Lc h=nI .i64 (totN (after Lc[h.length] h))::(qP (fI Lc h)).cells:=by unfold um; rw[e]
    unfold lA;rw[hc];exact ⟨HJ,sH rfl rfl rfl,r1 rfl,HJ⟩
 ·refine ⟨ks,vs,hm,?_⟩;have hkey:=mE h (by omega);rw[if_neg hk,if_neg hk,esub]at hkey;refine Ct.keep aj aa [20] (N:=63) Tryz.func159 rfl rfl rfl rfl ?_;refine X2 .look (X1 _ hkey ?_);refine X1 _ (bI 1 (by omega)) ?_;unfold lA;rw[n9 hx hh hk];exact ⟨HJ,sH rfl rfl rfl,r1 rfl,HJ⟩
abbrev hO (H:List Int):Objs:=[(1000002,some (.row 1 (aF H)))]
theorem te (hx:XOk Lc words) (H h:List Int) (lo n:Nat) (hh0:h=(H.drop lo).take n) (hH:H.length≤1000000) (hle:lo+n≤H.length) (hh:h.length<Lc.length) :
  CtO P 159 (xX Lc words (hO H)) [.c (.ad 1000000 0),.c (.os 1000002 1 lo n)] (xX Lc words (hO H)) [.c (lA Lc h)]:=.ex λks vs hm=>tc hx hm H h lo n hh0 hH hle hh
theorem oA (hx:XOk Lc words) (g:List Int) (els:List (List PC)) (he:els=aF g) (m:Nat) (hm:m=g.length) (h1:1≤g.length) (hg:g.length≤Lc.length) :
  CtO P 160 (xX Lc words [(1000002,some (.row 1 els))]) [.c (.ad 1000000 0),.c (.ow 1000002 1 m)] (xX Lc words [(1000002,some (.row 1 els))]) [.c (eI .i64 (bK Lc g))]:=
 .ex λks vs hk=>⟨ks,vs,hk,uo hx g els he m hm h1 hg⟩
theorem i9 (hx:XOk Lc words):CtO P 41 (xE Lc words) [.c (.ad 1000000 0)] (xE Lc words) [.c (nI .i64 Lc.length)]:=.ex λks vs hm=>⟨ks,vs,hm,n6 hx⟩
theorem wH (H h:List Int) (lo n:Nat) (hh0:h=(H.drop lo).take n) (hH:H.length≤1000000) (hle:lo+n≤H.length) :
  CtO P 46 (hO H) [.c (.os 1000002 1 lo n)] [(1000002,some (.row 1 (aF H))),(5,some (.row 1 (aF h)))] [.c (.ow 5 1 h.length)]:=by
 have hn:h.length=n:=by rw[hh0,EQ,Ff]; omega
 have esub:((aF H).drop lo).take n=aF h:=by rw[hh0]; exact iRow_sub
 refine Ct.keepI aj [] (N:=8) Tryz.func46 rfl rfl rfl rfl ?_;refine ej aj aa ?_;refine oK ?_;refine ej aj aa ?_;intro b hb;refine sd (b:=b) rfl (λe=>?_) (λe=>?_)
 ·subst e;have:h=[]:=Fa.1 (by have:=hb rfl; omega);subst this;refine ej aj aa ?_;refine ie (r:=5) (t:=2) (sz:=1) rfl rfl ?_;exact DS ⟨HJ,SubO.of (l:=[(1000002,.row 1 (aF H)),(5,.row 1 [])]) ⟨rfl,rfl,HJ⟩,r1 rfl,HJ⟩
 ·subst e;refine se ?_;refine dG aj aa ?_;refine ⟨rfl,by rw[esub,ac]; show (0+h.length+768)*8≤_; omega,by rw[esub,ac]; show 0+h.length≤_; omega,bM,by rw[esub]; exact aV,?_⟩;exact ⟨HJ,SubO.of (l:=[(1000002,.row 1 (aF H)),(5,.row 1 (aF h))]) ⟨rfl,aB (by rw[esub]; rfl),HJ⟩,r1 (owE (by rw[esub]; show (aF h).length=_; rw[ac])),HJ⟩
abbrev σ3:List (Nat × Nat):=[(1000000,1000000),(1000001,1000001),(1000002,1000002)]
theorem cC {OX:Objs} {l:List (Nat × Ob)} (hl:OX=cd l) {O:Objs} (h1:O.get 1000000=some (xC Lc words 1000001)) (h2:O.get 1000001=some (.me false (MOk Lc))) (h3:bv O l):SubO (xX Lc words OX) O:=by
 subst hl;exact SubO.of (l:=(1000000,xC Lc words 1000001)::(1000001,.me false (MOk Lc))::l) ⟨h1,h2,h3⟩
theorem wJ (w:Int) (hw:w<0∨words≤w∨w=1) (H:List Int) :
  CtO P 115 (xX Lc words (hO H)) [.c (.ad 1000000 0),.c (.ow 1000002 1 H.length),.c (eI .i64 w)] (xX Lc words (hO H)) [qP (0,1)]:=by
 refine Ct.io aj aa (N:=101) Tryz.func115 rfl rfl rfl rfl ?_;refine ah (λh1=>?_) (λh1=>?_)
 ·refine X1 _ (bI 0 (by omega)) ?_;exact ⟨HJ,cC (l:=[(1000002,.row 1 (aF H))]) rfl rfl rfl ⟨rfl,HJ⟩,rc rfl,HJ⟩
 ·refine X2 (.own σx σx) ?_;refine ⟨_,_,gr,?_⟩;refine ah (λh2=>?_) (λh2=>?_)
  ·refine X1 _ (bI 0 (by omega)) ?_;exact ⟨HJ,cC (l:=[(1000002,.row 1 (aF H))]) rfl rfl rfl ⟨rfl,HJ⟩,rc rfl,HJ⟩
  ·refine aU (λh3=>?_) (λh3=>?_)
   ·refine X1 _ (bI 0 (by omega)) ?_;exact ⟨HJ,cC (l:=[(1000002,.row 1 (aF H))]) rfl rfl rfl ⟨rfl,HJ⟩,rc rfl,HJ⟩
   ·exfalso; omega
theorem oB (hx:XOk Lc words) (h:List Int) (hh:h.length<Lc.length):CtO P 159 (xE Lc words) [.c (.ad 1000000 0),.c (iSl h)] (xE Lc words) [.c (lA Lc h)]:=.ex λks vs hm=>un hx hm h hh
set_option maxHeartbeats 16000000 in
theorem wK (hx:XOk Lc words) {H:List Int} {w:Int} (hl:H.length≤1000000) (hl1:1≤H.length) (hw:¬ (w<0∨words≤w∨w=1)) (h2L:2≤Lc.length) :
  CtO P 115 (xX Lc words (hO H)) [.c (.ad 1000000 0),.c (.ow 1000002 1 H.length),.c (eI .i64 w)] (xX Lc words (hO H)) [qP (pF Lc words w (eZ Lc H))]:=by
 have h8:=hx.len8;have h0:=hx.len0;have w3:=hx.w3;have w6:=hx.w6;refine Ct.keepI (Ty.own_ok [46,1000001] aj) [] (N:=101) Tryz.func115 rfl rfl rfl rfl ?_;refine Em (t:=1) rfl (by omega) ?_;refine dG (Ty.own_ok [46,1000001] aj) aa ?_;refine ah (λh1=>?_) (λh1=>?_)
 ·exfalso; omega
 refine X2 (.own σx σx) ?_;refine ⟨_,_,gr,?_⟩;refine ah (λh2=>?_) (λh2=>?_)
 ·exfalso; omega
 refine aU (λh3=>?_) (λh3=>?_)
 ·exfalso; omega
 refine .intro (by omega) ?_;refine X2 (.own σx σx) ?_;refine ⟨_,_,i9 hx,?_⟩;have hclt:=mS hx H;refine ah (λhc=>?_) (λhc=>?_);have e:eZ Lc H=H.drop (H.length-Lc.length+1):=if_pos (by omega);refine .intro (by omega) ?_;refine X2 (.own σx σx) ?_;refine ⟨_,_,i9 hx,?_⟩;refine X1 ((H.length-Lc.length:Nat):Int) (wI (by omega) (by omega) (by omega)) ?_;refine X1 ((H.length-Lc.length+1:Nat):Int) (wI (by omega) (by omega) (by omega)) ?_;refine ⟨H.length-Lc.length+1,H.length,rfl,rfl,EE _,.inr ⟨by omega,?_⟩⟩;rw[show 0+(H.length-Lc.length+1)=H.length-Lc.length+1 by omega];have hlo:H.length-Lc.length+1<H.length:=by omega
 rw[e]at hclt ⊢;generalize H.length-Lc.length+1=lo at *
 rotate_left;have e:eZ Lc H=H:=if_neg (by omega);have hlo:0<H.length:=by omega
 rw[e]at hclt ⊢;obtain ⟨lo,hz0⟩:∃ lo:Nat,lo=0:=⟨0,rfl⟩;rw[show H=H.drop lo by rw[hz0]; rfl]at hclt;rw[show pF Lc words w H=pF Lc words w (H.drop lo) by rw[hz0]; rfl];rw[show (PC.os 1000002 1 0 H.length)=PC.os 1000002 1 lo (H.length-lo) by rw[hz0,Gv]];replace hlo:lo<H.length:=by omega
 all_goals
  have hl2:(H.drop lo).length=H.length-lo:=Ff;obtain ⟨h',hh'⟩:∃ h',h'=H.drop lo:=⟨_,rfl⟩;rw[←hh']at hl2 hclt ⊢;rw[←hl2];refine X1 _ (bI 1 (by omega)) ?_;refine X1 (((words-1).toNat:Nat):Int) (wI (by omega) (by omega) (by omega)) ?_;refine X1 _ (kK (p:=(1,1)) (k:=63) (words-1).toNat (bd1 (n:=1) (by omega)) (by omega) (by omega) (by omega)) ?_;refine .intro rfl ?_;refine aw (Ty.own_ok [46,1000001] aj) aa (λn:Nat=>n≤h'.length+1) (λn=>[(0,.c (.ad 1000000 0)),(1,.c (.os 1000002 1 lo h'.length)),(2,.c (eI .i64 w)),(6,.c (.ad 6 0)),(7,.c (.ad 7 0)),(8,.c (nI .i64 n))])
   (λn=>[(6,.var [.sc (.slice none 0 0),.sc (.slice none 0 0)]),(7,.var (qP (pN Lc words w h' n)).cells),(1000000,xC Lc words 1000001),(1000001,.me false (MOk Lc)),(1000002,.row 1 (aF H))]) (λn=>h'.length+1-n)
   0 (by omega) ⟨rfl,rfl,rfl,rfl,rfl,rfl,HJ⟩ ⟨rfl,rfl,rfl,rfl,rfl,HJ⟩ (λ_:Unit=>True) (λ_=>[(6,.c (.ad 6 0)),(7,.c (.ad 7 0))])
   (λ_=>[(6,.var [.sc (.slice none 0 0),.sc (.slice none 0 0)]),(7,.var (qP (pF Lc words w h')).cells),(1000000,xC Lc words 1000001),(1000001,.me false (MOk Lc)),(1000002,.row 1 (aF H))]) (λn hn=>?_) (λ_ _=>?_)
  ·refine .intro (by omega) ?_;refine ah (λh5=>?_) (λh5=>?_)
   ·have hn':n≤h'.length:=by omega
    have hstep:=vh (Lc:=Lc) (words:=words) (w:=w) hn';have hpb:=Cu hx w h' (n:=n) (by omega);have hnl:(h'.drop (h'.length-n)).length=n:=by rw[Ff]; omega
    refine .intro (by omega) ?_;refine X1 ((h'.length-n:Nat):Int) (wI (by omega) (by omega) (by omega)) ?_;rcases Gc n with hz | hp
    ·have hnn:h'.drop (h'.length-n)=[]:=Fa.1 (by omega);rw[hnn]at hstep hnl;refine ⟨h'.length-n,h'.length,rfl,rfl,EE _,.inl ⟨by omega,?_⟩⟩;rw[show (PC.sl 1 [])=iSl [] from rfl];generalize ([]:List Int)=near at *
     refine X2 (.own σx σx) ?_;refine ⟨_,_,oB hx near (by omega),?_⟩;have hnlt:near.length<Lc.length:=by omega
     have hlv:lvl Lc near=Lc[near.length]:=f0 hnlt;have htl:=kJ hx near;refine aU (λh6=>?_) (λh6=>?_)
     ·have h7:totN (after (lvl Lc near) near)=0:=by
       have:((totN (after (lvl Lc near) near):Nat):Int)=0:=h6;omega
      unfold eq at hstep;rw[if_pos h7]at hstep;refine X1 ((n+1:Nat):Int) (wI (by simp) (by omega) (by omega)) ?_;refine ⟨n+1,by omega,by omega,⟨rfl,rfl,rfl,rfl,rfl,rfl,HJ⟩,⟨rfl,by rw[←hstep]; rfl,rfl,rfl,rfl,HJ⟩⟩
     ·have h7:totN (after (lvl Lc near) near)≠0:=λh=>h6 (congrArg Nat.cast h)
      unfold eq at hstep;rw[if_neg h7]at hstep;have hnb:=iz hx (near++[w]);have hnl2:(near++[w]).length=n+1:=by simp[hnl]
      refine X2 (.own [] [(5,68)]) ?_;refine ⟨_,_,lB near (by omega),?_⟩;refine ⟨by rw[ac],by rw[ac,hnl]; show (n+1+768)*8≤_; omega,by rw[ac,hnl]; show n+1≤_; omega,aV,ar rfl,?_⟩;refine X2 (.own [(1000000,1000000),(1000001,1000001),(68,1000002)] [(1000000,1000000),(1000001,1000001),(1000002,68)]) ?_;refine ⟨_,_,oA hx (near++[w]) _ (by simp[aF]; rfl) _ (by rw[hnl2]; show ((aF near)++_).length=_; simp[aF,hnl]) (by omega) (by omega),?_⟩;have hbd1:Bd 63 (nz ((bK Lc (near++[w])).toNat,1)):=bd1 (by omega);have hbd2:Bd 500 (nz (gAt (0,0) (dN (au Lc[near.length] 1) (au Lc[near.length] 2) (au Lc[near.length] 3) (au Lc[near.length] 4) 1) (dN (au Lc[near.length] 1) (au Lc[near.length] 2) (au Lc[near.length] 3) (au Lc[near.length] 4) 2) (dN (au Lc[near.length] 1) (au Lc[near.length] 2) (au Lc[near.length] 3) (au Lc[near.length] 4) 3) (bK Lc (near++[w])))):=by
       rw[lD (hx.lim.at' hnlt)]; exact lC (hx.lim.at' hnlt) _
      have hsub:=kG hbd1 hbd2 (by omega) (by omega);have eow:cJ ((bK Lc (near++[w])).toNat,1) (atN Lc[near.length] (bK Lc (near++[w])))=owF Lc w near:=by unfold owF; rw[hlv]
      rw[lD (hx.lim.at' hnlt),nz1,eow]at hsub;have hgr:=gk (ls:=Lc) (i:=(n:Int)) (n:=near.length) (by rw[hnl]) hnlt;refine X1 (((bK Lc (near++[w])).toNat:Nat):Int) (wU (by omega) (by omega) (by omega)) ?_;refine X1 _ (bI _ (by omega)) ?_;refine .intro (by omega) (X1 _ hgr ?_);refine X1 _ (ug _ _ _ _ _) ?_;refine X1 _ hsub ?_;refine .intro rfl ?_;have hob:Bd 600 (nz (owF Lc w near)):=by rw[ay (dQ hx w near)]; exact dQ hx w near
      have hby:=kK (totN (after (lvl Lc near) near)) hob (by omega) h7 (by omega);rw[ay (dQ hx w near)]at hby;refine X1 _ hby ?_;have hg:=iU hx near;have hmul:=eJ (p:=fI Lc near) (q:=pN Lc words w h' n) (by rw[ay hg]; exact hg) (by rw[ay hpb]; exact hpb) (by omega) (by omega);rw[ay hg,ay hpb]at hmul;refine X1 _ hmul ?_;have hb1:=oa hx w near h7;have hb2:=bc hg hpb;have hadd:=nZ (p:=d5 (owF Lc w near) (totN (after (lvl Lc near) near),1)) (q:=cM (fI Lc near) (pN Lc words w h' n)) (by rw[ay hb1]; exact hb1) (by rw[ay hb2]; exact hb2) (by rw[ay hb1]; exact jy (E6 (dQ hx w near).pos h7)) (by omega) (by omega);rw[ay hb1,ay hb2]at hadd;refine X1 _ hadd ?_;refine .intro rfl ?_;refine X1 ((n+1:Nat):Int) (wI (by simp) (by omega) (by omega)) ?_;refine ⟨n+1,by omega,by omega,⟨rfl,rfl,rfl,rfl,rfl,rfl,HJ⟩,⟨rfl,by rw[←hstep]; rfl,rfl,rfl,rfl,HJ⟩⟩
    ·have hnear:h'.drop (h'.length-n)=(H.drop (lo+(h'.length-n))).take (h'.length-(h'.length-n)):=by
      have e1:h'.drop (h'.length-n)=H.drop (lo+(h'.length-n)):=by
       conv=>lhs; rw[hh',Gq]
       rw[←hh']
      rw[e1,Fj (by rw[Ff]; omega)]
     refine ⟨h'.length-n,h'.length,rfl,rfl,EE _,.inr ⟨by omega,?_⟩⟩;rw[show h'.length-(h'.length-n)=n by omega]at hnear ⊢;generalize h'.drop (h'.length-n)=near at *
     refine X2 (.own σ3 σ3) ?_;refine ⟨_,_,te hx H near (lo+(h'.length-n)) n hnear hl (by omega) (by omega),?_⟩;have hnlt:near.length<Lc.length:=by omega
     have hlv:lvl Lc near=Lc[near.length]:=f0 hnlt;have htl:=kJ hx near;refine aU (λh6=>?_) (λh6=>?_)
     ·have h7:totN (after (lvl Lc near) near)=0:=by
       have:((totN (after (lvl Lc near) near):Nat):Int)=0:=h6;omega
      unfold eq at hstep;rw[if_pos h7]at hstep;refine X1 ((n+1:Nat):Int) (wI (by simp) (by omega) (by omega)) ?_;refine ⟨n+1,by omega,by omega,⟨rfl,rfl,rfl,rfl,rfl,rfl,HJ⟩,⟨rfl,by rw[←hstep]; rfl,rfl,rfl,rfl,HJ⟩⟩
     ·have h7:totN (after (lvl Lc near) near)≠0:=λh=>h6 (congrArg Nat.cast h)
      unfold eq at hstep;rw[if_neg h7]at hstep;have hnb:=iz hx (near++[w]);have hnl2:(near++[w]).length=n+1:=by simp[hnl]
      refine X2 (.own [(1000002,1000002)] [(1000002,1000002),(5,68)]) ?_;refine ⟨_,_,wH H near _ n hnear hl (by omega),?_⟩;refine ⟨by rw[ac],by rw[ac,hnl]; show (n+1+768)*8≤_; omega,by rw[ac,hnl]; show n+1≤_; omega,aV,ar rfl,?_⟩;refine X2 (.own [(1000000,1000000),(1000001,1000001),(68,1000002)] [(1000000,1000000),(1000001,1000001),(1000002,68)]) ?_;refine ⟨_,_,oA hx (near++[w]) _ (by simp[aF]; rfl) _ (by rw[hnl2]; show ((aF near)++_).length=_; simp[aF,hnl]) (by omega) (by omega),?_⟩;have hbd1:Bd 63 (nz ((bK Lc (near++[w])).toNat,1)):=bd1 (by omega);have hbd2:Bd 500 (nz (gAt (0,0) (dN (au Lc[near.length] 1) (au Lc[near.length] 2) (au Lc[near.length] 3) (au Lc[near.length] 4) 1) (dN (au Lc[near.length] 1) (au Lc[near.length] 2) (au Lc[near.length] 3) (au Lc[near.length] 4) 2) (dN (au Lc[near.length] 1) (au Lc[near.length] 2) (au Lc[near.length] 3) (au Lc[near.length] 4) 3) (bK Lc (near++[w])))):=by
       rw[lD (hx.lim.at' hnlt)]; exact lC (hx.lim.at' hnlt) _
      have hsub:=kG hbd1 hbd2 (by omega) (by omega);have eow:cJ ((bK Lc (near++[w])).toNat,1) (atN Lc[near.length] (bK Lc (near++[w])))=owF Lc w near:=by unfold owF; rw[hlv]
      rw[lD (hx.lim.at' hnlt),nz1,eow]at hsub;have hgr:=gk (ls:=Lc) (i:=(n:Int)) (n:=near.length) (by rw[hnl]) hnlt;refine X1 (((bK Lc (near++[w])).toNat:Nat):Int) (wU (by omega) (by omega) (by omega)) ?_;refine X1 _ (bI _ (by omega)) ?_;refine .intro (by omega) (X1 _ hgr ?_);refine X1 _ (ug _ _ _ _ _) ?_;refine X1 _ hsub ?_;refine .intro rfl ?_;have hob:Bd 600 (nz (owF Lc w near)):=by rw[ay (dQ hx w near)]; exact dQ hx w near
      have hby:=kK (totN (after (lvl Lc near) near)) hob (by omega) h7 (by omega);rw[ay (dQ hx w near)]at hby;refine X1 _ hby ?_;have hg:=iU hx near;have hmul:=eJ (p:=fI Lc near) (q:=pN Lc words w h' n) (by rw[ay hg]; exact hg) (by rw[ay hpb]; exact hpb) (by omega) (by omega);rw[ay hg,ay hpb]at hmul;refine X1 _ hmul ?_;have hb1:=oa hx w near h7;have hb2:=bc hg hpb;have hadd:=nZ (p:=d5 (owF Lc w near) (totN (after (lvl Lc near) near),1)) (q:=cM (fI Lc near) (pN Lc words w h' n)) (by rw[ay hb1]; exact hb1) (by rw[ay hb2]; exact hb2) (by rw[ay hb1]; exact jy (E6 (dQ hx w near).pos h7)) (by omega) (by omega);rw[ay hb1,ay hb2]at hadd;refine X1 _ hadd ?_;refine .intro rfl ?_;refine X1 ((n+1:Nat):Int) (wI (by simp) (by omega) (by omega)) ?_;refine ⟨n+1,by omega,by omega,⟨rfl,rfl,rfl,rfl,rfl,rfl,HJ⟩,⟨rfl,by rw[←hstep]; rfl,rfl,rfl,rfl,HJ⟩⟩
   ·have en:n=h'.length+1:=by omega
    subst en;have e2:pN Lc words w h' (h'.length+1)=pF Lc words w h':=by simp[pN]
    exact ⟨(),HJ,⟨rfl,rfl,HJ⟩,⟨rfl,by rw[e2]; rfl,rfl,rfl,rfl,HJ⟩⟩
  ·exact ⟨HJ,cC (l:=[(1000002,.row 1 (aF H))]) rfl rfl rfl ⟨rfl,HJ⟩,rc rfl,HJ⟩
set_option maxHeartbeats 8000000 in
theorem wL (hx:XOk Lc words) {H:List Int} {w:Int} (hl:H.length≤1000000) (hl1:1≤H.length) (hw:¬ (w<0∨words≤w∨w=1)) (h1L:Lc.length=1) :
  CtO P 115 (xX Lc words (hO H)) [.c (.ad 1000000 0),.c (.ow 1000002 1 H.length),.c (eI .i64 w)] (xX Lc words (hO H)) [qP (pF Lc words w (eZ Lc H))]:=by
 have h8:=hx.len8;have h0:=hx.len0;have w3:=hx.w3;have w6:=hx.w6;refine Ct.io (Ty.own_ok [46,1000001] aj) aa (N:=101) Tryz.func115 rfl rfl rfl rfl ?_;refine ah (λh1=>?_) (λh1=>?_)
 ·exfalso; omega
 refine X2 (.own σx σx) ?_;refine ⟨_,_,gr,?_⟩;refine ah (λh2=>?_) (λh2=>?_)
 ·exfalso; omega
 refine aU (λh3=>?_) (λh3=>?_)
 ·exfalso; omega
 refine .intro (by omega) ?_;refine X2 (.own σx σx) ?_;refine ⟨_,_,i9 hx,?_⟩;refine ah (λhc=>?_) (λhc=>?_);rotate_left
 ·exfalso; omega
 refine .intro (by omega) ?_;refine X2 (.own σx σx) ?_;refine ⟨_,_,i9 hx,?_⟩;refine X1 ((H.length-1:Nat):Int) (wI (by omega) (by omega) (by omega)) ?_;refine X1 ((H.length:Nat):Int) (wI (by omega) (by omega) (by omega)) ?_;refine .inl ⟨H.length,H.length,rfl,rfl,EE _,by omega,.inl ⟨rfl,?_⟩⟩;have e:eZ Lc H=[]:=by
  unfold eZ;rw[if_pos (by omega)];exact Fa.1 (by rw[Ff]; omega)
 rw[e,show (PC.sl 1 [])=iSl [] from rfl];obtain ⟨h',hh'⟩:∃ h':List Int,h'=[]:=⟨_,rfl⟩;rw[←hh'];have hl':h'.length≤1000000:=by rw[hh']; decide
 have hclt:h'.length<Lc.length:=by rw[hh']; show 0<_; omega
 refine X1 _ (bI 1 (by omega)) ?_;refine X1 (((words-1).toNat:Nat):Int) (wI (by omega) (by omega) (by omega)) ?_;refine X1 _ (kK (p:=(1,1)) (k:=63) (words-1).toNat (bd1 (n:=1) (by omega)) (by omega) (by omega) (by omega)) ?_;refine .intro rfl ?_;refine aw (Ty.own_ok [46,1000001] aj) aa (λn:Nat=>n≤h'.length+1) (λn=>[(0,.c (.ad 1000000 0)),(1,.c (iSl h')),(2,.c (eI .i64 w)),(6,.c (.ad 6 0)),(7,.c (.ad 7 0)),(8,.c (nI .i64 n))])
  (λn=>[(6,.var [.sc (.slice none 0 0),.sc (.slice none 0 0)]),(7,.var (qP (pN Lc words w h' n)).cells),(1000000,xC Lc words 1000001),(1000001,.me false (MOk Lc)),(1000002,.row 1 (aF H))]) (λn=>h'.length+1-n)
  0 (by omega) ⟨rfl,rfl,rfl,rfl,rfl,rfl,HJ⟩ ⟨rfl,rfl,rfl,rfl,rfl,HJ⟩ (λ_:Unit=>True) (λ_=>[(6,.c (.ad 6 0)),(7,.c (.ad 7 0))])
  (λ_=>[(6,.var [.sc (.slice none 0 0),.sc (.slice none 0 0)]),(7,.var (qP (pF Lc words w h')).cells),(1000000,xC Lc words 1000001),(1000001,.me false (MOk Lc)),(1000002,.row 1 (aF H))]) (λn hn=>?_) (λ_ _=>?_)
 ·refine .intro (by rw[ac]; omega) ?_;rw[ac];refine ah (λh5=>?_) (λh5=>?_)
  ·have hn':n≤h'.length:=by omega
   have hstep:=vh (Lc:=Lc) (words:=words) (w:=w) hn';have hpb:=Cu hx w h' (n:=n) (by omega);have hnl:(h'.drop (h'.length-n)).length=n:=by rw[Ff]; omega
   refine .intro (by rw[ac]; omega) ?_;rw[ac];refine X1 ((h'.length-n:Nat):Int) (wI (by omega) (by omega) (by omega)) ?_;refine ⟨h'.length-n,h'.length,rfl,by show ((aF h').length:Int)=_; rw[ac],by omega,by rw[ac]; exact EE _,?_⟩;rw[iRow_sub,Fj (by rw[hnl]; omega)];generalize h'.drop (h'.length-n)=near at *
   refine X2 (.own σx σx) ?_;refine ⟨_,_,oB hx near (by omega),?_⟩;have hnlt:near.length<Lc.length:=by omega
   have hlv:lvl Lc near=Lc[near.length]:=f0 hnlt;have htl:=kJ hx near;refine aU (λh6=>?_) (λh6=>?_)
   ·have h7:totN (after (lvl Lc near) near)=0:=by
     have:((totN (after (lvl Lc near) near):Nat):Int)=0:=h6;omega
    unfold eq at hstep;rw[if_pos h7]at hstep;refine X1 ((n+1:Nat):Int) (wI (by simp) (by omega) (by omega)) ?_;refine ⟨n+1,by omega,by omega,⟨rfl,rfl,rfl,rfl,rfl,rfl,HJ⟩,⟨rfl,by rw[←hstep]; rfl,rfl,rfl,rfl,HJ⟩⟩
   ·have h7:totN (after (lvl Lc near) near)≠0:=λh=>h6 (congrArg Nat.cast h)
    unfold eq at hstep;rw[if_neg h7]at hstep;have hnb:=iz hx (near++[w]);have hnl2:(near++[w]).length=n+1:=by simp[hnl]
    refine X2 (.own [] [(5,68)]) ?_;refine ⟨_,_,lB near (by omega),?_⟩;refine ⟨by rw[ac],by rw[ac,hnl]; show (n+1+768)*8≤_; omega,by rw[ac,hnl]; show n+1≤_; omega,aV,ar rfl,?_⟩;refine X2 (.own [(1000000,1000000),(1000001,1000001),(68,1000002)] [(1000000,1000000),(1000001,1000001),(1000002,68)]) ?_;refine ⟨_,_,oA hx (near++[w]) _ (by simp[aF]; rfl) _ (by rw[hnl2]; show ((aF near)++_).length=_; simp[aF,hnl]) (by omega) (by omega),?_⟩;have hbd1:Bd 63 (nz ((bK Lc (near++[w])).toNat,1)):=bd1 (by omega);have hbd2:Bd 500 (nz (gAt (0,0) (dN (au Lc[near.length] 1) (au Lc[near.length] 2) (au Lc[near.length] 3) (au Lc[near.length] 4) 1) (dN (au Lc[near.length] 1) (au Lc[near.length] 2) (au Lc[near.length] 3) (au Lc[near.length] 4) 2) (dN (au Lc[near.length] 1) (au Lc[near.length] 2) (au Lc[near.length] 3) (au Lc[near.length] 4) 3) (bK Lc (near++[w])))):=by
     rw[lD (hx.lim.at' hnlt)]; exact lC (hx.lim.at' hnlt) _
    have hsub:=kG hbd1 hbd2 (by omega) (by omega);have eow:cJ ((bK Lc (near++[w])).toNat,1) (atN Lc[near.length] (bK Lc (near++[w])))=owF Lc w near:=by unfold owF; rw[hlv]
    rw[lD (hx.lim.at' hnlt),nz1,eow]at hsub;have hgr:=gk (ls:=Lc) (i:=(n:Int)) (n:=near.length) (by rw[hnl]) hnlt;refine X1 (((bK Lc (near++[w])).toNat:Nat):Int) (wU (by omega) (by omega) (by omega)) ?_;refine X1 _ (bI _ (by omega)) ?_;refine .intro (by omega) (X1 _ hgr ?_);refine X1 _ (ug _ _ _ _ _) ?_;refine X1 _ hsub ?_;refine .intro rfl ?_;have hob:Bd 600 (nz (owF Lc w near)):=by rw[ay (dQ hx w near)]; exact dQ hx w near
    have hby:=kK (totN (after (lvl Lc near) near)) hob (by omega) h7 (by omega);rw[ay (dQ hx w near)]at hby;refine X1 _ hby ?_;have hg:=iU hx near;have hmul:=eJ (p:=fI Lc near) (q:=pN Lc words w h' n) (by rw[ay hg]; exact hg) (by rw[ay hpb]; exact hpb) (by omega) (by omega);rw[ay hg,ay hpb]at hmul;refine X1 _ hmul ?_;have hb1:=oa hx w near h7;have hb2:=bc hg hpb;have hadd:=nZ (p:=d5 (owF Lc w near) (totN (after (lvl Lc near) near),1)) (q:=cM (fI Lc near) (pN Lc words w h' n)) (by rw[ay hb1]; exact hb1) (by rw[ay hb2]; exact hb2) (by rw[ay hb1]; exact jy (E6 (dQ hx w near).pos h7)) (by omega) (by omega);rw[ay hb1,ay hb2]at hadd;refine X1 _ hadd ?_;refine .intro rfl ?_;refine X1 ((n+1:Nat):Int) (wI (by simp) (by omega) (by omega)) ?_;refine ⟨n+1,by omega,by omega,⟨rfl,rfl,rfl,rfl,rfl,rfl,HJ⟩,⟨rfl,by rw[←hstep]; rfl,rfl,rfl,rfl,HJ⟩⟩
  ·have en:n=h'.length+1:=by omega
   subst en;have e2:pN Lc words w h' (h'.length+1)=pF Lc words w h':=by simp[pN]
   exact ⟨(),HJ,⟨rfl,rfl,HJ⟩,⟨rfl,by rw[e2]; rfl,rfl,rfl,rfl,HJ⟩⟩
 ·exact ⟨HJ,cC (l:=[(1000002,.row 1 (aF H))]) rfl rfl rfl ⟨rfl,HJ⟩,rc rfl,HJ⟩
theorem wM (hx:XOk Lc words) (H:List Int) (hl:H.length≤1000000) (hl1:1≤H.length) (w:Int) :
  CtO P 115 (xX Lc words (hO H)) [.c (.ad 1000000 0),.c (.ow 1000002 1 H.length),.c (eI .i64 w)] (xX Lc words (hO H)) [qP (bp Lc words H w)]:=by
 have h0:=hx.len0;unfold bp;by_cases hw:w<0∨words≤w∨w=1
 ·rw[if_pos hw]; exact wJ w hw H
 ·rw[if_neg hw];by_cases h1:Lc.length=1
  ·exact wL hx hl hl1 hw h1
  ·exact wK hx hl hl1 hw (by omega)
end
end
section
section
variable {Lc:List (List Cnt)} {words:Int}
theorem tf (H:List Int):CtO P 71 (xX Lc words (hO H)) [.c (.ad 1000000 0),.c (.ow 1000002 1 H.length)] ((2,some (.var [.ad 1000000 0]))::(3,some (.var [.ow 1000002 1 H.length]))::xX Lc words (hO H)) [.c (.fn 114 [.ad 2 0,.ad 3 0])]:=by
 refine Ct.keep aj aa [] (N:=6) Tryz.func71 rfl rfl rfl rfl ?_;refine X1 [.ad 2 0,.ad 3 0] rfl ?_;exact ⟨HJ,SubO.of (l:=[(2,.var [.ad 1000000 0]),(3,.var [.ow 1000002 1 H.length]),(1000000,xC Lc words 1000001),(1000001,.me false (MOk Lc)),(1000002,.row 1 (aF H))]) ⟨rfl,rfl,rfl,rfl,rfl,HJ⟩,r1 rfl,HJ⟩
def gt (Lc:List (List Cnt)) (n:Nat) (H:List Int):List (List A1):=(List.range n).map λw=>[.c (nI .i64 w),pA (cB Lc n H w)]
abbrev D6 (Lc:List (List Cnt)) (words:Int) (H:List Int):Objs:=[(1000000,some (xC Lc words 1000001)),(1000001,some (.me false (MOk Lc))),(1000003,some (.var [.ad 1000000 0])),(1000004,some (.var [.ow 1000002 1 H.length])),(1000002,some (.row 1 (aF H)))]
abbrev vr (Lc:List (List Cnt)) (words:Int) (H:List Int):Prop:=∀ w:Int,CtO P 115 (xX Lc words (hO H)) [.c (.ad 1000000 0),.c (.ow 1000002 1 H.length),.c (eI .i64 w)] (xX Lc words (hO H)) [qP (bp Lc words H w)]
structure SB (Lc:List (List Cnt)) (n:Nat) (B:Nat):Prop where
 x:XOk Lc n
 e:∀ l,l∈Lc→eT n l
 q:∀ h,QF Lc n (eZ Lc h)<2^B
 b:B≤4000
theorem SB.sum {n B:Nat} (h:SB Lc n B) (H:List Int) {w:Nat} (hw:w≤n):Bd B (bz Lc n H w):=(eK h.x H w).bd (qM h.x _) (h.q H) (BP h.x h.e H hw)
theorem SB.prob {n B:Nat} (h:SB Lc n B) (H:List Int) (w:Int):Bd B (bp Lc n H w):=(eU h.x H w).bd (qM h.x _) (h.q H) (zT h.x h.e H w)
theorem pR {n B:Nat} (hB:SB Lc n B) (H:List Int) (hP:vr Lc n H):CtIO P 114 (D6 Lc n H) [.c (.ad 1000003 0),.c (.ad 1000004 0)] (gt Lc n H) (xX Lc n (hO H)):=by
 have hx:=hB.x;have h6:=hx.w6;have hbb:=hB.b;refine CtIO.walk (Ty.own_ok [1000001,1000003] aj) aa (N:=30) Tryz.func114 rfl rfl rfl rfl rfl (λv I X hv hY=>?_);refine X1 _ (bI 0 (by omega)) ?_;refine X2 (.own σx σx) ?_;refine ⟨_,_,gr,?_⟩;refine ci (Ty.own_ok [1000001,1000003] aj) aa (λw:Nat=>w≤n) (λw=>[(0,.c (.cb v)),(1,.c (.ad 1000003 0)),(2,.c (.ad 1000004 0)),(4,.c (.ad 4 0)),(9,.c (nI .i64 n)),(10,.c (nI .i64 w))])
  (λw=>[(2000000,.abs (I w)),(1000000,xC Lc n 1000001),(1000001,.me false (MOk Lc)),(1000003,.var [.ad 1000000 0]),(1000004,.var [.ow 1000002 1 H.length]),(1000002,.row 1 (aF H)),(4,.var (qP (bz Lc n H w)).cells)]) (λw=>n-w)
  0 (by omega) ⟨rfl,rfl,rfl,rfl,rfl,rfl,HJ⟩ ⟨rfl,rfl,rfl,rfl,rfl,rfl,rfl,HJ⟩ (λw hw=>?_)
 refine ah (λh1=>?_) (λh1=>?_)
 ·have hw':w<n:=by omega
  have hsb:=hB.sum H hw;have hpb:=hB.prob H (w:Int);have hadd:=kH (p:=bz Lc n H w) (q:=bp Lc n H w) (by rw[ay hsb]; exact hsb) (by rw[ay hpb]; exact hpb) (by rw[ay hsb]; exact pH hx H w) (by omega);rw[ay hsb,ay hpb]at hadd;have hitem:(gt Lc n H)[w]? = some [.c (nI .i64 w),pA (cB Lc n H w)]:=by
   unfold gt;rw[EP,List.getElem?_range hw']; rfl
  refine X2 (.same σ3 1000001) ?_;refine ⟨rfl,_,hP w,?_⟩;refine .intro rfl ?_;refine ⟨gt Lc n H,I,X,w,hY,rfl,hitem,?_,?_⟩
  ·refine X1 _ hadd ?_;refine X1 ((w+1:Nat):Int) (wI (by simp) (by omega) (by omega)) ?_;exact ⟨w+1,by omega,by omega,⟨rfl,rfl,rfl,rfl,rfl,rfl,HJ⟩,⟨rfl,rfl,rfl,rfl,rfl,rfl,rfl,HJ⟩⟩
  ·exact ⟨HJ,.inr rfl,cC (l:=[(1000002,.row 1 (aF H))]) rfl rfl rfl ⟨rfl,HJ⟩⟩
 ·have e:w=n:=by omega
  subst e;have hlen:(gt Lc w H).length=w:=by simp[gt]
  exact ⟨HJ,.inl (by rw[hlen]; rfl),cC (l:=[(1000002,.row 1 (aF H))]) rfl rfl rfl ⟨rfl,HJ⟩⟩
abbrev σP:List (Nat × Nat):=[(1000000,1000000),(1000001,1000001),(61,1000003),(62,1000004),(1000002,1000002)]
abbrev νP:List (Nat × Nat):=[(1000000,1000000),(1000001,1000001),(1000002,1000002),(2,61),(3,62)]
theorem pS {n:Nat} {H:List Int} {i:Nat} {args:List A1} (h:(gt Lc n H)[i]? = some args):i<n∧args=[.c (nI .i64 i),pA (cB Lc n H i)]:=by
 unfold gt at h;rw[EP,EI]at h;obtain ⟨j,h1,h2⟩:=h;obtain ⟨h3,h4⟩:=EF.1 h1;simp at h3 h4;subst h4;exact ⟨h3,h2.symm⟩
theorem tg {n:Nat} {H:List Int}:∀ args,args∈gt Lc n H→args.length=2∧aA args=true:=λargs ha=>by
 obtain ⟨x,_,rfl⟩:=Fd.1 ha;exact ⟨rfl,rfl⟩
theorem uv {n B:Nat} (hB:SB Lc n B) (H:List Int) (hP:vr Lc n H) (w:Nat) (hw:w<n):CtO P 51 (xX Lc n (hO H)) [.c (.ad 1000000 0),.c (.ow 1000002 1 H.length),.c (nI .i64 w)] (xX Lc n (hO H)) [pA (cB Lc n H w)]:=by
 have h6:=hB.x.w6;refine Ct.io aj aa (N:=19) Tryz.func51 rfl rfl rfl rfl ?_;refine X2 (.own σ3 νP) ?_;refine ⟨_,_,tf H,?_⟩;refine yR aj aa σP [1000000,1000001,1000002] (pR hB H hP) Tryz.func114 rfl rfl rfl rfl rfl rfl rfl tg [5,6] rfl (G:=Unit) (λi _=>i≤w) (λ_ _=>[(5,.c (.ad 5 0)),(6,.c (.ad 6 0))])
  (λ_ _=>[(5,.var [nI .i64 w]),(6,.var [.sc (.slice none 0 0),.sc (.slice none 0 0),.sc (.slice none 0 0),.sc (.slice none 0 0)])]) () (by omega) ⟨rfl,rfl,HJ⟩ ⟨rfl,rfl,HJ⟩ (λ_ _=>rfl) (λi _ args hg hi=>?_) (λ_ hi=>?_)
 ·obtain ⟨hin,rfl⟩:=pS hg;refine aU (λh1=>?_) (λh1=>?_)
  ·have e:i=w:=by omega
   subst e;refine ⟨[(6,.c (.ad 6 0))],[(6,.var (pA (cB Lc n H i)).cells)],⟨rfl,HJ⟩,⟨rfl,HJ⟩,(λp hp=>by simp at hp; subst hp; rfl),?_⟩;exact ⟨HJ,cC (l:=[(1000002,.row 1 (aF H))]) rfl rfl rfl ⟨rfl,HJ⟩,rc rfl,HJ⟩
  ·exact ⟨(),by omega,⟨rfl,rfl,HJ⟩,⟨rfl,rfl,HJ⟩⟩
 ·exfalso;have:(gt Lc n H).length=n:=by simp[gt]
  omega
end
end
section
section
variable {Lc:List (List Cnt)} {n B:Nat}
theorem gu (ids:List Int) (i:Nat) (hi:i<ids.length):bf Lc n (ids.take (i+1))=qO (bf Lc n (ids.take i)) (cB Lc n ([1]++ids.take i) ids[i]):=by
 unfold bf;rw[EH hi,ov]
theorem zX {ids:List Int} (h:InW n ids) (i:Nat):InW n (ids.take i):=λw hw=>h w (F6 hw)
theorem qQ (hB:SB Lc n B) (ids:List Int):∀ i,i≤ids.length→∃ R,R≠0∧R<2^(1+B*i)∧Dv R (bf Lc n (ids.take i)).1∧Dv R (bf Lc n (ids.take i)).2
 | 0,_=>⟨1,by decide,by rw[FZ]; decide,.int,.int⟩
 | i+1,hi=>by
  obtain ⟨R,r1,r2,r3,r4⟩:=qQ hB ids i (by omega);rw[gu ids i (by omega)];refine ⟨R*QF Lc n (eZ Lc ([1]++ids.take i)),E6 r1 (qM hB.x _),?_,?_,?_⟩
  ·rw[show 1+B*(i+1)=(1+B*i)+B by rw[E5,F2]; omega];exact kO r2 (hB.q _)
  ·exact (r3.up (GU _ _)).add (r4.mul (eK hB.x _ _))
  ·exact r4.mul (eU hB.x _ _)
theorem kS (hB:SB Lc n B) {ids:List Int} (hw:InW n ids) (i:Nat) (hi:i≤ids.length):Bd (1+B*i) (bf Lc n (ids.take i)).1∧Bd (1+B*i) (bf Lc n (ids.take i)).2∧Nat.gcd (bf Lc n (ids.take i)).1.1 (bf Lc n (ids.take i)).1.2=1:=by
 obtain ⟨R,r1,r2,r3,r4⟩:=qQ hB ids i hi;obtain ⟨a1,a2,a3,a4⟩:=iZ hB.x (ids.take i);obtain ⟨s1,s2,s3⟩:=vo hB.x hB.e (ids.take i) [1] (zX hw i);refine ⟨r3.bd r1 r2 (qN a1 (by rw[a3]; grind)),r4.bd r1 r2 (qN a2 (by rw[a4]; grind)),?_⟩
 cases i with
 | zero=>exact GT 1
 | succ i=>
  obtain ⟨R',q1,q2,q3,q4⟩:=qQ hB ids i (by omega);rw[gu ids i (by omega)];exact jy (E6 q3.pos (eS q4.pos (eK hB.x _ _).pos))
theorem SB.probO (hB:SB Lc n B) (H:List Int) (hl:H.length≤1000000) (hl1:1≤H.length):vr Lc n H:=λw=>wM hB.x H hl hl1 w
theorem zY (hB:SB Lc n B) (ids:List Int) (hw:InW n ids) (hl:ids.length≤25) (els:List (List PC)) (hels:els=aF ids) (m:Nat) (hm:m=ids.length) :
  CtO P 45 (xX Lc n [(1000002,some (.row 1 els))]) [.c (.ad 1000000 0),.c (.ow 1000002 1 m)] (xX Lc n [(1000002,some (.row 1 els))]) [pA (bf Lc n ids)]:=by
 subst hels hm;have hb:=hB.b;refine Ct.keep (Ty.own_ok [1000001] aj) aa [] (N:=31) Tryz.func45 rfl rfl rfl rfl ?_;refine X1 _ (bI 0 (by omega)) ?_;refine X1 _ (bI 1 (by omega)) ?_;refine .intro (by omega) ?_;refine aw (Ty.own_ok [1000001] aj) aa (λi:Nat=>i≤ids.length) (λi=>[(0,.c (.ad 1000000 0)),(4,.c (.ad 4 0)),(5,.c (.ad 5 0)),(6,.c (.ow 12 1 (i+1))),(13,.c (.ow 1000002 1 ids.length)),(14,.c (nI .i64 ids.length)),(15,.c (nI .i64 i))])
  (λi=>[(1000000,xC Lc n 1000001),(1000001,.me false (MOk Lc)),(1000002,.row 1 (aF ids)),(4,.var [.sc (.slice none 0 0),.sc (.slice none 0 0),.sc (.slice none 0 0),.sc (.slice none 0 0)]),(5,.var (pA (bf Lc n (ids.take i))).cells),(12,.row 1 (aF ([1]++ids.take i)))]) (λi=>ids.length-i)
  0 (by omega) ⟨rfl,rfl,rfl,rfl,rfl,rfl,rfl,HJ⟩ ⟨rfl,rfl,rfl,rfl,rfl,rfl,HJ⟩ (λ_:Unit=>True) (λ_=>[(4,.c (.ad 4 0)),(5,.c (.ad 5 0))])
  (λ_=>[(1000000,xC Lc n 1000001),(1000001,.me false (MOk Lc)),(1000002,.row 1 (aF ids)),(4,.var [.sc (.slice none 0 0),.sc (.slice none 0 0),.sc (.slice none 0 0),.sc (.slice none 0 0)]),(5,.var (pA (bf Lc n ids)).cells)]) (λi hi=>?_) (λ_ _=>?_)
 ·refine ah (λh1=>?_) (λh1=>?_)
  ·have hi':i<ids.length:=by omega
   obtain ⟨w0,w1⟩:=hw ids[i] (EO hi');have hget:(aF ids)[((i:Nat):Int).toNat]? = some [eI .i64 ids[i]]:=by rw[E4]; simp[aF,hi']
   obtain ⟨b1,b2,b3⟩:=kS hB hw i hi;have hst:=gu (Lc:=Lc) (n:=n) ids i hi';have htk:([1]++ids.take i).length=i+1:=by simp; omega
   have htk2:[1]++ids.take (i+1)=([1]++ids.take i)++[ids[i]]:=by rw[EH hi',GF]
   obtain ⟨v,hv⟩:∃ v:Nat,ids[i]=(v:Int):=⟨ids[i].toNat,by omega⟩;have hsb:=hB.sum ([1]++ids.take i) (w:=v) (by omega);have hpb:=hB.prob ([1]++ids.take i) (v:Int);rw[hv]at hget hst htk2;have hof:=uv hB ([1]++ids.take i) (hB.probO _ (by omega) (by omega)) v (by omega);rw[htk]at hof;have hBi:B*i≤4000*25:=FF hb (by omega);have hwin:=pP (p:=bf Lc n (ids.take i)) (q:=cB Lc n ([1]++ids.take i) (v:Int)) b1 b2 (show Bd B (bz Lc n ([1]++ids.take i) (v:Int).toNat) by rw[E4]; exact hsb) hpb b3 (by omega);rw[←hst]at hwin
   refine .intro (by omega) (.intro (by omega) (X1 _ hget ?_));refine X2 (.same [(1000000,1000000),(1000001,1000001),(12,1000002)] 1000001) ?_;refine ⟨rfl,_,hof,?_⟩;refine X1 _ hwin ?_;refine .intro rfl ?_;refine ⟨by rw[ac,htk],by rw[ac,htk]; show (i+1+1+768)*8≤_; omega,by rw[ac,htk]; show i+1+1≤_; omega,aV,ar rfl,?_⟩;refine X1 ((i+1:Nat):Int) (wI1 (by omega)) ?_;refine ⟨i+1,by omega,by omega,⟨rfl,rfl,rfl,owE (by rw[EC,ac,htk]; rfl),rfl,rfl,rfl,HJ⟩,⟨rfl,rfl,rfl,rfl,rfl,aB (by rw[htk2]; simp[aF]; rfl),HJ⟩⟩
  ·have e:i=ids.length:=by omega
   subst e;exact ⟨(),HJ,⟨rfl,rfl,HJ⟩,⟨rfl,rfl,rfl,rfl,by rw[E7]; rfl,HJ⟩⟩
 ·exact ⟨HJ,cC (l:=[(1000002,.row 1 (aF ids))]) rfl rfl rfl ⟨rfl,HJ⟩,rc rfl,HJ⟩
theorem zZ (hB:SB Lc n B) (ids:List Int) (hw:InW n ids) (hl:ids.length≤25) :
  CtO P 45 (xE Lc n) [.c (.ad 1000000 0),.c (iSl ids)] (xE Lc n) [pA (bf Lc n ids)]:=by
 have hb:=hB.b;refine Ct.keep (Ty.own_ok [1000001] aj) aa [] (N:=31) Tryz.func45 rfl rfl rfl rfl ?_;refine X1 _ (bI 0 (by omega)) ?_;refine X1 _ (bI 1 (by omega)) ?_;refine .intro (by rw[ac]; omega) ?_;rw[ac];refine aw (Ty.own_ok [1000001] aj) aa (λi:Nat=>i≤ids.length) (λi=>[(0,.c (.ad 1000000 0)),(4,.c (.ad 4 0)),(5,.c (.ad 5 0)),(6,.c (.ow 12 1 (i+1))),(13,.c (iSl ids)),(14,.c (nI .i64 ids.length)),(15,.c (nI .i64 i))])
  (λi=>[(1000000,xC Lc n 1000001),(1000001,.me false (MOk Lc)),(4,.var [.sc (.slice none 0 0),.sc (.slice none 0 0),.sc (.slice none 0 0),.sc (.slice none 0 0)]),(5,.var (pA (bf Lc n (ids.take i))).cells),(12,.row 1 (aF ([1]++ids.take i)))]) (λi=>ids.length-i)
  0 (by omega) ⟨rfl,rfl,rfl,rfl,rfl,rfl,rfl,HJ⟩ ⟨rfl,rfl,rfl,rfl,rfl,HJ⟩ (λ_:Unit=>True) (λ_=>[(4,.c (.ad 4 0)),(5,.c (.ad 5 0))])
  (λ_=>[(1000000,xC Lc n 1000001),(1000001,.me false (MOk Lc)),(4,.var [.sc (.slice none 0 0),.sc (.slice none 0 0),.sc (.slice none 0 0),.sc (.slice none 0 0)]),(5,.var (pA (bf Lc n ids)).cells)]) (λi hi=>?_) (λ_ _=>?_)
 ·refine ah (λh1=>?_) (λh1=>?_)
  ·have hi':i<ids.length:=by omega
   obtain ⟨w0,w1⟩:=hw ids[i] (EO hi');have hget:(aF ids)[((i:Nat):Int).toNat]? = some [eI .i64 ids[i]]:=by rw[E4]; simp[aF,hi']
   obtain ⟨b1,b2,b3⟩:=kS hB hw i hi;have hst:=gu (Lc:=Lc) (n:=n) ids i hi';have htk:([1]++ids.take i).length=i+1:=by simp; omega
   have htk2:[1]++ids.take (i+1)=([1]++ids.take i)++[ids[i]]:=by rw[EH hi',GF]
   obtain ⟨v,hv⟩:∃ v:Nat,ids[i]=(v:Int):=⟨ids[i].toNat,by omega⟩;have hsb:=hB.sum ([1]++ids.take i) (w:=v) (by omega);have hpb:=hB.prob ([1]++ids.take i) (v:Int);rw[hv]at hget hst htk2;have hof:=uv hB ([1]++ids.take i) (hB.probO _ (by omega) (by omega)) v (by omega);rw[htk]at hof;have hBi:B*i≤4000*25:=FF hb (by omega);have hwin:=pP (p:=bf Lc n (ids.take i)) (q:=cB Lc n ([1]++ids.take i) (v:Int)) b1 b2 (show Bd B (bz Lc n ([1]++ids.take i) (v:Int).toNat) by rw[E4]; exact hsb) hpb b3 (by omega);rw[←hst]at hwin
   refine .intro (by omega) (X1 _ hget ?_);refine X2 (.same [(1000000,1000000),(1000001,1000001),(12,1000002)] 1000001) ?_;refine ⟨rfl,_,hof,?_⟩;refine X1 _ hwin ?_;refine .intro rfl ?_;refine ⟨by rw[ac,htk],by rw[ac,htk]; show (i+1+1+768)*8≤_; omega,by rw[ac,htk]; show i+1+1≤_; omega,aV,ar rfl,?_⟩;refine X1 ((i+1:Nat):Int) (wI1 (by omega)) ?_;refine ⟨i+1,by omega,by omega,⟨rfl,rfl,rfl,owE (by rw[EC,ac,htk]; rfl),rfl,rfl,rfl,HJ⟩,⟨rfl,rfl,rfl,rfl,aB (by rw[htk2]; simp[aF]; rfl),HJ⟩⟩
  ·have e:i=ids.length:=by omega
   subst e;exact ⟨(),HJ,⟨rfl,rfl,HJ⟩,⟨rfl,rfl,rfl,by rw[E7]; rfl,HJ⟩⟩
 ·exact ⟨HJ,cC (l:=[]) rfl rfl rfl trivial,rc rfl,HJ⟩
end
end
section
def je:List Bool→Nat
 | []=>0
 | b::l=>b.toNat+2*je l
def needW (n:Nat):Nat:=n/64+min (n%64) 1
def cD (l:List Bool) (k:Nat):Nat:=je l/18446744073709551616^k%18446744073709551616
def bh (l:List Bool):List Nat:=(List.range (needW l.length)).map (cD l)
theorem mX:∀ l:List Bool,je l<2^l.length
 | []=>by decide
 | b::l=>by
  have:=mX l;rw[je,Fe,Fk];cases b<;>simp only[Bool.toNat_true,Bool.toNat_false]<;>omega
theorem ja:∀ (l:List Bool) (b:Bool),je (l++[b])=je l+b.toNat*2^l.length
 | [],b=>by simp[je]
 | c::l,b=>by
  rw[Ge,je,ja l b,je,Fe,Fk,E5,←FG,EV (2^l.length) 2,FC]
theorem th:∀ (l:List Bool) (i:Nat),i<l.length→l[i]? = some (decide (je l/2^i%2=1))
 | b::l,0,_=>by
  simp only[je,List.getElem?_cons_zero,Hy,HB];cases b<;>simp<;>omega
 | b::l,i+1,h=>by
  have:=th l i (by simpa using h);have e:(b.toNat+2*je l)/2=je l:=by cases b<;>simp only[Bool.toNat_true,Bool.toNat_false]<;>omega
  rw[List.getElem?_cons_succ,this,je,Fk,EV (2^i) 2,←Gh,e]
theorem kT (k:Nat):(18446744073709551616:Nat)^k=2^(64*k):=by
 rw[show (18446744073709551616:Nat)=2^64 from rfl,←GY]
theorem BW {n:Nat} (h:n%64=0):needW n=n/64:=by unfold needW; omega
theorem vt {n:Nat} (h:n%64≠0):needW n=n/64+1:=by unfold needW; omega
theorem fF (l:List Bool):(bh l).length=needW l.length:=by simp[bh]
theorem fG {l:List Bool} {k:Nat} (h:k<needW l.length):(bh l)[k]? = some (cD l k):=by simp[bh,h]
theorem oC (l:List Bool) (k:Nat):cD l k<18446744073709551616:=FE _ (by decide)
theorem pT {l:List Bool} {b:Bool} {k:Nat} (h:64*(k+1)≤l.length):cD (l++[b]) k=cD l k:=by
 unfold cD;rw[ja,kT];obtain ⟨c,hc⟩:=Nat.exists_eq_add_of_le h;have e:b.toNat*2^l.length=(b.toNat*2^c)*18446744073709551616*2^(64*k):=by
  rw[hc,show 64*(k+1)+c=64*k+64+c by omega,Fy,Fy,show (2:Nat)^64=18446744073709551616 from rfl];simp only[ES,EV,FC]
 rw[e,Nat.add_mul_div_right _ _ (Fv _),Nat.add_mul_mod_self_right]
theorem wN {l:List Bool} {b:Bool} {k:Nat} (h:l.length=64*k):cD (l++[b]) k=b.toNat:=by
 unfold cD;have:=mX l;rw[ja,kT,←h,Nat.add_mul_div_right _ _ (Fv _),Gf this,Fu];cases b<;>rfl
theorem oD {l:List Bool} {k:Nat} (h0:64*k≤l.length) (h:l.length<64*k+64):cD l k<2^(l.length-64*k):=by
 have:=mX l;unfold cD;refine Gn (Nat.mod_le _ _) ?_;rw[kT,G8 (Fv _),←Fy];rwa [show l.length-64*k+64*k=l.length by omega]
theorem uw {l:List Bool} {b:Bool} {k:Nat} (h0:64*k≤l.length) (h:l.length<64*k+64):cD (l++[b]) k=cD l k+b.toNat*2^(l.length-64*k):=by
 have h1:=oD h0 h;have h2:=mX l;have e:2^l.length=2^(l.length-64*k)*2^(64*k):=by rw[←Fy]; congr 1; omega
 have h3:(2:Nat)^(l.length-64*k)≤2^63:=ER (by omega) (by omega);have h5:je l/2^(64*k)<2^(l.length-64*k):=by
  rw[G8 (Fv _),←e]; exact h2
 have h6:(2:Nat)^63=9223372036854775808:=rfl;unfold cD;rw[ja,kT,e,←ES,Nat.add_mul_div_right _ _ (Fv _)];have h7:b.toNat*2^(l.length-64*k)≤2^(l.length-64*k):=by cases b<;>simp
 rw[Fi (by omega),Fi (by omega)]
theorem qS {l:List Bool} {b:Bool} (h:l.length%64=0):bh (l++[b])=bh l++[b.toNat]:=by
 have e1:needW l.length=l.length/64:=BW h;have e2:needW (l++[b]).length=l.length/64+1:=by rw[EC,List.length_singleton]; unfold needW; omega
 unfold bh;rw[e1,e2,List.range_succ,FM,Fm,G9,wN (by omega)];congr 1;refine G3 λk hk=>pT ?_
 have:=List.mem_range.1 hk;omega
theorem qT {l:List Bool} {b:Bool} (h:l.length%64≠0):bh (l++[b])=(bh l).set (l.length/64) (cD l (l.length/64)+b.toNat*2^(l.length%64))∧needW (l++[b]).length=needW l.length:=by
 have e1:needW l.length=l.length/64+1:=vt h;have e2:needW (l++[b]).length=l.length/64+1:=by rw[EC,List.length_singleton]; unfold needW; omega
 refine ⟨?_,by rw[e1,e2]⟩;have e3:l.length%64=l.length-64*(l.length/64):=by omega
 unfold bh;rw[e1,e2,e3,←uw (by omega) (by omega)];apply G7;intro k;rw[FP];by_cases hk:l.length/64=k
 ·subst hk;rw[if_pos rfl];simp
 ·rw[if_neg hk];by_cases h2:k<l.length/64
  ·simp only[EP,List.getElem?_range (show k<l.length/64+1 by omega),FO];rw[pT (by omega)]
  ·rw[EZ (by simp; omega),EZ (by simp; omega)]
theorem Dx {a:Nat} {b:Bool} {i:Nat} (h:a<2^i):a|||b.toNat<<<i=a+b.toNat*2^i:=by
 rw[Nat.or_comm,←Nat.shiftLeft_add_eq_or_of_lt h,GZ,G0]
theorem jb {l:List Bool} {i:Nat} (h:i<l.length):l[i]? = some (decide (cD l (i/64)/2^(i%64)%2=1)):=by
 rw[th l i h];congr 2;unfold cD;rw[kT];have e:2^i=2^(64*(i/64))*2^(i%64):=by rw[←Fy]; congr 1; omega
 rw[e,←Gh];generalize je l/2^(64*(i/64))=v;have h3:18446744073709551616=2^(i%64)*(2*2^(63-i%64)):=by
  rw[←Nat.pow_succ',←Fy,show i%64+(63-i%64+1)=64 by omega]
 have h4:v%18446744073709551616/2^(i%64)=v/2^(i%64)%(2*2^(63-i%64)):=by
  rw[h3,Nat.mod_mul_right_div_self]
 rw[h4,Nat.mod_mul_right_mod]
theorem ux {l m:List Bool} (h1:l.length=m.length) (h2:bh l=bh m):l=m:=by
 apply G7;intro i;by_cases hi:i<l.length
 ·rw[jb hi,jb (by omega)];have hk:i/64<needW l.length:=by unfold needW; omega
  have e1:=fG (l:=l) hk;have e2:=fG (l:=m) (by rw[←h1]; exact hk);rw[h2,e2]at e1;rw[Gk e1]
 ·rw[EZ (by omega),EZ (by omega)]
end
end Go.Proofs.YtgceikecdedfcaaGreat.Pv
