/-
  What is proved: the statement whose theorem stands at the end of this text; the texts before it bear its parts.
-/
import Derived.Test.YtgceikecdedfcaaGreatLpQ
import Derived.ChangeMaps5
import Derived.WalkKit
import Derived.JoinedCond
namespace Go.Proofs.YtgceikecdedfcaaGreat.Pv
open Go
section
section
variable {Lc:List (List Cnt)} {n B:Nat}
noncomputable def decV (Lc:List (List Cnt)) (n:Nat) (l:List Bool) (M:Nat):Option (List Int):=oR Lc n (M+1) [1] (oS l)
def lQ (Lc:List (List Cnt)) (n:Nat) (l:List Bool) (ids:List Int):Prop:=oT Lc n ids=0∧encB Lc n ids=l
def Af (Lc:List (List Cnt)) (n:Nat) (l:List Bool) (M:Nat) (r:A1) (e:Int):Prop:=match decV Lc n l M with
 | none=>r = .c (.sc (.slice none 0 0))∧e=5
 | some ids=>(lQ Lc n l ids∧r = .c (iSl ids)∧e=0)∨(¬ lQ Lc n l ids∧r = .c (.sc (.slice none 0 0))∧e=3)
theorem Ag (l:List Bool):qv (oS l)<1:=by
 rw[(oG l).2,G4 (gx _),Rat.one_mul];exact Rat.natCast_lt_natCast.2 (mZ l)
theorem BZ (l:List Bool) {k:Nat} (hl:l.length≤k):Bd (k+1) (oS l):=
 pq (Nat.pos_iff_ne_zero.1 (Fo _)) (EG (mZ l) (EK (by omega) (by omega))) (Nat.pow_lt_pow_right (by omega) (by omega))
theorem D6 (m:Int):min (max m 0) 64=if 64<(if 0>m then 0 else m) then 64 else (if 0>m then 0 else m):=by
 repeat' split
 all_goals omega
set_option maxHeartbeats 1000000 in
theorem wP (hB:SB Lc n B) (h2:2<n) (l:List Bool) (hl:l.length≤4096) (most:Int) (M:Nat) (hM:((M:Nat):Int)=min (max most 0) 64) (hM2:M≤24) (hmo:-1000≤most) (hmo2:most≤1000) :
  ∃ r e,Af Lc n l M r e∧CtO P 18 (xE Lc n) [.c (.ad 1000000 0),.c (bP l),.c (eI .i64 most)] (xE Lc n) [r,.c (eI .i64 e)]:=by
 have hb:=hB.b;have hx:=hB.x;generalize hdv:decV Lc n l M=dv;have hfin:∃ r e,Af Lc n l M r e:=by
  unfold Af;rw[hdv]
  cases dv with
  | none=>exact ⟨_,_,rfl,rfl⟩
  | some ids=>
   by_cases hc:lQ Lc n l ids
   ·exact ⟨_,_,.inl ⟨hc,rfl,rfl⟩⟩
   ·exact ⟨_,_,.inr ⟨hc,rfl,rfl⟩⟩
 obtain ⟨r,e,hR⟩:=hfin
 refine ⟨r,e,hR,?_⟩;unfold Af at hR;rw[hdv]at hR;refine Ct.keep aj aa [] (N:=73) Tryz.func18 rfl rfl rfl rfl ?_;refine X1 _ (eu l (by omega)) ?_;refine ae (λh1=>absurd h1 (by omega)) (λ_=>?_);refine X1 _ (ut l (by omega)) ?_;refine uI (G:=List Int × Fr2) aj aa (λ(ids,u)=>ids.length≤M∧qv u<1∧Bd (4097+2*B*ids.length) u∧oR Lc n (M+1-ids.length) ([1]++ids) u=dv)
  (λ(ids,u)=>[(0,.c (.ad 1000000 0)),(1,.c (bP l)),(2,.c (eI .i64 most)),(8,.c (.ad 8 0)),(9,.c (.ow 24 1 (ids.length+1)))])
  (λ(ids,u)=>[(1000000,xC Lc n 1000001),(1000001,.me false (MOk Lc)),(8,.var (qP u).cells),(24,.row 1 (aI ([1]++ids)))]) (λ(ids,u)=>M+1-ids.length)
  ([],oS l) ⟨by simp,Ag l,BZ l hl,hdv⟩ ⟨rfl,rfl,rfl,rfl,rfl,HB⟩ ⟨rfl,rfl,rfl,rfl,HB⟩ (λids:List Int=>ids.length≤M∧dv=some ids) (λids=>[(0,.c (.ad 1000000 0)),(1,.c (bP l)),(9,.c (.ow 24 1 (ids.length+1)))])
  (λids=>[(1000000,xC Lc n 1000001),(1000001,.me false (MOk Lc)),(24,.row 1 (aI ([1]++ids)))]) (λ(ids,u) hi=>?_) (λids hp=>?_)
 ·obtain ⟨i1,i2,i3,i4⟩:=hi;have hBi:2*B*ids.length≤2*4000*24:=FE (by omega) (by omega);have hlen:([1]++ids).length=ids.length+1:=by simp
  have hP:=hB.probO ([1]++ids) (by omega) (by omega);obtain ⟨w,hw,hin,hpk⟩:=vi hx hB.e ([1]++ids) i3.pos i2;have hpi:=Ab hB ([1]++ids) hP u i3 (by omega);rw[hpk,hlen]at hpi;refine X2 (.own [(1000000,1000000),(1000001,1000001),(24,1000002)] [(1000000,1000000),(1000001,1000001),(1000002,24)]) ?_;refine ⟨_,_,hpi,?_⟩;refine aT (λh3=>?_) (λh3=>?_)
  ·refine ⟨ids,⟨i1,?_⟩,⟨rfl,rfl,rfl,HB⟩,⟨rfl,rfl,rfl,HB⟩⟩;obtain ⟨f,hf⟩:∃ f,M+1-ids.length=f+1:=⟨M-ids.length,by omega⟩;rw[hf]at i4;unfold oR at i4;rw[hpk,if_pos h3]at i4;exact i4.symm
  ·have hw2:¬ ((w:Int)=2):=h3;obtain ⟨f,hf⟩:∃ f,M+1-ids.length=f+1:=⟨M-ids.length,by omega⟩;rw[hf]at i4;unfold oR at i4;rw[hpk,if_neg hw2]at i4;refine .intro (by omega) ?_;refine ae (λh4=>?_) (λh4=>?_)
   ·have hf0:f=0:=by
     rw[←D6 most,←hM]at h4;omega
    rw[if_pos hf0]at i4;subst i4;obtain ⟨rfl,rfl⟩:=hR;exact ⟨HB,cv (l:=[]) rfl rfl rfl trivial,r1 rfl,r1 rfl,HB⟩
   ·have hf0:¬ f=0:=by
     rw[←D6 most,←hM]at h4;omega
    rw[if_neg hf0,EX]at i4;obtain ⟨l1,l2,l3,l4,l5⟩:=oE hx i3.pos hin
    have l6:=BP hx i3.pos hin
    have hof:=zY hB ([1]++ids) hP w hw;rw[hlen]at hof;have hsb:=hB.sum ([1]++ids) (w:=w) (by omega);have hpb:=hB.prob ([1]++ids) (w:Int);have hs:=mP i3 hsb;have hd:=ck hs hpb l1;have hless:=iZ (p:=u) (q:=aS Lc n ([1]++ids) w) (by rw[au i3]; exact i3) (by rw[au hsb]; exact hsb) (by omega) (by omega);have hdiv:=u4 (p:=cD u (aS Lc n ([1]++ids) w)) (q:=a9 Lc n ([1]++ids) w) (by rw[au hs]; exact hs) (by rw[au hpb]; exact hpb) l1 (by omega) (by omega);rw[au i3,au hsb]at hless;rw[au hs,au hpb]at hdiv;refine X2 (.own [(1000000,1000000),(1000001,1000001),(24,1000002)] [(1000000,1000000),(1000001,1000001),(1000002,24)]) ?_;refine ⟨_,_,hof,?_⟩;have e2:cP Lc n ([1]++ids) (w:Int)=(aS Lc n ([1]++ids) w,a9 Lc n ([1]++ids) w):=by unfold cP; rw[EX]
    rw[e2];refine X1 _ hless ?_;refine X1 _ hdiv ?_;refine .intro rfl ?_;refine ⟨by rw[ac,hlen],by rw[ac,hlen]; show (ids.length+1+1+768)*8≤_; omega,by rw[ac,hlen]; show ids.length+1+1≤_; omega,bc,aw rfl,?_⟩;refine ⟨(ids++[(w:Int)],_),⟨?_,l6,?_,?_⟩,?_,⟨rfl,rfl,rfl,rfl,owE (by rw[Ey,ac,hlen,Ey]; rfl),HB⟩,⟨rfl,rfl,rfl,aB (by rw[←Hi]; simp[aI]; rfl),HB⟩⟩
    ·rw[Ey]; show ids.length+1≤M; omega
    ·refine hd.le ?_;rw[Ey,show 2*B*(ids.length+[(w:Int)].length)=2*B*ids.length+2*B by show 2*B*(ids.length+1)=_; rw[EW,FT]];omega
    ·rw[Ey,←Hi];rw[show M+1-(ids.length+[(w:Int)].length)=f by show M+1-(ids.length+1)=f; omega];exact i4
    ·show M+1-(ids++[(w:Int)]).length<_
     rw[Ey];show M+1-(ids.length+1)<M+1-ids.length
     omega
 ·obtain ⟨i1,hdv2⟩:=hp;subst hdv2;have hlen:([1]++ids).length=ids.length+1:=by simp
  refine Ax aj aa [24] ?_;refine ⟨1,ids.length+1,rfl,by rw[ac,hlen]; rfl,by omega,by rw[ac,hlen]; omega,?_⟩;rw[iRow_sub,show ([1]++ids:List Int).drop 1=ids from rfl,show ids.length+1-1=ids.length from rfl,Fd];have henc:=pW hB h2 ids (by omega);refine X2 (.own σx σx) ?_;refine ⟨_,_,henc,?_⟩;simp only at hR;refine ez (λh3=>?_) (λh3=>?_)
  ·have hc:¬ lQ Lc n l ids:=λhc=>h3 hc.1
   rcases hR with ⟨hc2,_⟩ | ⟨_,rfl,rfl⟩
   ·exact absurd hc2 hc
   exact ⟨HB,cv (l:=[]) rfl rfl rfl trivial,r1 rfl,r1 rfl,HB⟩
  ·have e2:encR Lc n ids = .c (bP (encB Lc n ids)):=if_pos h3;rw[h3,e2];obtain ⟨_,c2,_,_,c3⟩:=z9 h3;obtain ⟨b1,b2,_⟩:=oM hB h2 c2;obtain ⟨_,c4⟩:=q7 b1 b2 c3;have hBl:B*(ids.length+1)≤4000*25:=FE hb (by omega);refine X1 _ (z6 _ l (by rw[Aa]; omega) (by omega)) ?_;refine aP (λh5=>?_) (λh5=>?_)
   ·have hc:¬ lQ Lc n l ids:=λhc=>by
     rw[decide_eq_true hc.2]at h5; cases h5
    rcases hR with ⟨hc2,_⟩ | ⟨_,rfl,rfl⟩
    ·exact absurd hc2 hc
    exact ⟨HB,cv (l:=[]) rfl rfl rfl trivial,r1 rfl,r1 rfl,HB⟩
   ·have hc:lQ Lc n l ids:=⟨h3,by simpa using h5⟩;rcases hR with ⟨_,rfl,rfl⟩ | ⟨hc2,_⟩
    ·refine X1 _ (iX ids (by omega)) ?_;exact ⟨HB,cv (l:=[]) rfl rfl rfl trivial,r1 rfl,r1 rfl,HB⟩
    ·exact absurd hc hc2
end
end
section
theorem q9:∀ {l:List Int} {v:Int},v∈l→0≤idx v l
 | y::l,v,h=>by
  unfold idx;split
  ·omega
  ·rename_i hn;have:v∈l:=by
    rcases E9.1 h with rfl | h
    ·exact absurd rfl hn
    ·exact h
   have:=q9 this;rw[if_neg (by omega)]; omega
theorem B0 {words:Int} {g:List Int} (h:gW words g=0):∀ (a:List Int) (v:Int),g=a++[v]→0≤v∧v<words∧(v=1→a=[]):=by
 intro a v e;subst e;unfold gW at h;split at h
 ·omega
 ·rename_i h1;split at h
  ·omega
  ·rename_i h2;have hb:¬ my words v=true:=λhb=>h1 (FN.2 ⟨v,by simp,hb⟩)
   unfold my at hb;simp at hb;refine ⟨by omega,by omega,λhv=>?_⟩
   cases a with
   | nil=>rfl
   | cons y a=>
    exfalso;apply h2;subst hv;exact q9 (by simp)
theorem B1 {s:ByteArray} (hs:s.size≤120) {m:Nat} (h4:m≤4):∀ l,l∈ao (ofL s m)→eU (aK s).length l:=by
 intro l hl x hx;obtain ⟨n,hn,rfl⟩:=dT hl;obtain ⟨y,hy,rfl⟩:=Fb.1 hx;have h1:=((ou hs (EI hn) h4).2.2 y hy).2.2.2;have e:(cL (ofL s m) n y).1=y.1:=by unfold cL; split<;>rfl
 rw[e];exact B0 h1
theorem vp (s:ByteArray):∀ i,((lnS s i).1.map ByteArray.size).sum≤(lnS s i).2
 | 0=>Ew _
 | i+1=>by
  have ih:=vp s i;have hl:=(lJ s i).1;unfold lnS;split
  ·simp only[FG,List.sum_append,Fg,G0,GI,List.sum_nil,Gj];omega
  ·exact ih
theorem pY (s:ByteArray):((fY s).map List.length).sum≤s.size:=by
 have key:∀ l:List ByteArray,((jq l).map List.length).sum≤(l.map ByteArray.size).sum:=λl=>by
  induction l with
  | nil=>exact Ew _
  | cons x l ih=>
   have hw:=(oh x).2;unfold jq at ih ⊢;rw[Fg];rw[G8];split<;>simp only[Fg,GI]<;>omega
 refine EA (key (dM s)) ?_;have h1:=vp s s.size;have h2:=(lJ s s.size).1;unfold dM;simp only[FG,List.sum_append,Fg,G0,GI,List.sum_nil,Gj];omega
theorem pZ:∀ (L:List (List ByteArray)) (l:List ByteArray),(eS l L).length≤l.length+(L.map List.length).sum
 | [],l=>by simp[eS]
 | ws::L,l=>by
  have:=pZ L (cV l ws);have h2:=gT ws l;show (eS (cV l ws) L).length≤_
  rw[Fg,GI]; omega
theorem wQ (s:ByteArray):(aK s).length≤s.size+3:=by
 have h1:=pZ (fY s) marks15;have h2:=pY s;have h3:marks15.length=3:=rfl;unfold aK;omega
theorem oN {n:Nat}:∀ (L:List (List Int)),(bh L n).length≤(L.map List.length).sum
 | []=>by simp[bh]
 | p::L=>by
  have ih:=oN (n:=n) L;have h2:(cy p n).length≤p.length:=mU p n p.length;have e:bh (p::L) n=cy p n++bh L n:=by simp[bh]
  rw[e,Ey,Fg,GI];omega
theorem wR (ws:List ByteArray) (s:ByteArray):((fK ws s).map List.length).sum≤3*s.size:=by
 have key:∀ L:List (List ByteArray),(∀ l,l∈L→1≤l.length)→((L.map (eD ws)).map List.length).sum≤3*(L.map List.length).sum:=by
  intro L
  induction L with
  | nil=>intro _; simp
  | cons l L ih=>
   intro h;have h1:=ih λx hx=>h x (EV _ hx)
   have h2:=h l (by simp);have h3:(eD ws l).length=l.length+2:=by simp[eD]
   simp only[Fg,GI,h3];omega
 have h1:=key (fY s) λl hl=>by
  have:=(Hc.1 hl).2;simp at this;omega
 have h2:=pY s;unfold fK;omega
theorem tn {s:ByteArray} (hs:s.size≤60) {m k:Nat} {l:List Cnt} (h:(ofL s m)[k]? = some l):l.length≤180∧∀ x,x∈l→0≤x.2∧x.2≤180:=by
 obtain ⟨_,rfl⟩:=kW h;have h1:=oN (n:=k+1) (fK (aK s) s);have h2:=wR (aK s) s;obtain ⟨g1,_,g3,_⟩:=mW _ (bh (fK (aK s) s) (k+1)) rfl;exact ⟨by omega,λx hx=>by have:=g3 x hx; omega⟩
theorem oO {s:ByteArray} (hs:s.size≤60) {m:Nat}:∀ l,l∈ao (ofL s m)→l.length≤180∧∀ x,x∈l→0≤x.2∧x.2≤180:=by
 intro l hl;obtain ⟨n,hn,rfl⟩:=dT hl;obtain ⟨a1,a2⟩:=tn hs (ES hn);refine ⟨by rw[Fl]; exact a1,λx hx=>?_⟩;obtain ⟨y,hy,rfl⟩:=Fb.1 hx;have:=a2 y hy;unfold cL;split
 ·have:ahead ((ofL s m).getD (n+1) []) y.1≤180:=by
   refine EA (Ft _ _) ?_;by_cases h3:n+1<(ofL s m).length
   ·have e:(ofL s m).getD (n+1) []=(ofL s m)[n+1]:=by simp[Ev,h3]
    rw[e];exact (tn hs (ES h3)).1
   ·have e:(ofL s m).getD (n+1) []=[]:=by simp[Ev,ET (FD h3)]
    rw[e]; simp
  show (0:Int)≤((ahead _ _:Nat):Int)∧((ahead _ _:Nat):Int)≤180
  omega
 ·exact this
theorem vq:∀ {l:List Cnt},(∀ x,x∈l→0≤x.2∧x.2≤180)→totN l≤180*l.length
 | [],_=>by show totN []≤_; exact Gt _
 | x::l,h=>by
  have ih:=vq (l:=l) λy hy=>h y (EV _ hy)
  have h1:=h x (by simp);rw[pK,E7];split<;>omega
theorem Ah (k n2 n3 a b:Nat):(cc k n2 n3 a b).2∣(n2+2*n3)*b:=by
 unfold cc cI c9;refine Ge fZ (Nat.mul_dvd_mul ?_ ?_)
 ·refine Ge fZ ?_;rw[Fh];refine Ge fZ ?_;rw[Fh];exact Hx _
 ·refine Ge fZ ?_;rw[Fh];exact Hx _
theorem Ai {l:List Cnt} (hl:l.length≤180) (k:Nat) (h1:1≤k) (h3:k≤3):(e8 l k).2<2^16:=by
 have m:=λk=>EA (bM l k) hl
 have hs:=EA (kO l) (EA (Ft aW l) hl);have key:∀ j a b,aq l 1≠0→b≠0→b≤180→(cD (j,1) (cc j (aq l 1) (aq l 2) a b)).2<2^16:=λj a b e1 e2 e3=>by
  have hd:(cD (j,1) (cc j (aq l 1) (aq l 2) a b)).2∣(aq l 1+2*aq l 2)*b:=
   Ge fZ (by show 1*_∣_; rw[Fh]; exact Ah _ _ _ _ _)
  have h4:=Nat.le_of_dvd (Nat.mul_pos (by omega) (by omega)) hd;have h5:(aq l 1+2*aq l 2)*b≤360*180:=FE (by omega) e3;omega
 have hk:k=1∨k=2∨k=3:=by omega
 unfold e8;rcases hk with rfl | rfl | rfl
 all_goals
  simp only[cM];split
  ·exact key _ _ _ (by omega) (by omega) (m _)
  ·decide
theorem Dy {s:ByteArray} (hs:s.size≤60) {m:Nat} (h4:m≤4):Few (ao (ofL s m)) (aK s).length 48 15 6:=by
 refine ⟨λl hl=>?_,λl hl=>?_,?_⟩
 ·obtain ⟨a1,_⟩:=oO hs l hl;have d:=λk h1 h3=>Ai a1 k h1 h3
  unfold dD;exact kY (k:=32) (m:=16) (kY (k:=16) (m:=16) (d 1 (by omega) (by omega)) (d 2 (by omega) (by omega))) (d 3 (by omega) (by omega))
 ·obtain ⟨a1,a2⟩:=oO hs l hl;have:=vq a2;omega
 ·have:=wQ s;omega
theorem Et {s:ByteArray} (hs:s.size≤60) {m:Nat} (h1:1≤m) (h4:m≤4) (h:List Int):QF (ao (ofL s m)) (aK s).length (cO (ao (ofL s m)) h)<2^258:=by
 have key:∀ K:Nat,K=258→QF (ao (ofL s m)) (aK s).length (cO (ao (ofL s m)) h)<2^K:=by
  intro K hK;have h2:=Cq (Dy hs h4) (cO (ao (ofL s m)) h);have h3:=jd (q8 (s:=s) (by omega) h1 h4) h;rw[bx,cq]at h3;refine EG h2 (EK (by omega) ?_);have:(48+15)*((cO (ao (ofL s m)) h).length+1)≤63*4:=Fp _ (by omega);omega
 exact key 258 rfl
theorem Cs {s:ByteArray} (hs:s.size≤60) {m:Nat} (h1:1≤m) (h4:m≤4):SB (ao (ofL s m)) (aK s).length 258:=
 ⟨q8 (by omega) h1 h4,B1 (by omega) h4,Et hs h1 h4,by omega⟩
theorem D7 {s:ByteArray} (hs:s.size≤60) {m:Nat} (h1:1≤m) (h4:m≤4):2<(aK s).length:=by
 have:=(q8 (s:=s) (by omega) h1 h4).w3;omega
theorem D8 {f:FuncId} {O:Objs} {args res:List A1} {Lc:List (List Cnt)} {o:Ob} {i j:Nat} (hij:Nat.beq i j=false) (h:CtO P f O args [(i,some o),(j,some (.mp false [] []))] res):CtO P f O args [(i,some o),(j,some (.me false (MOk Lc)))] res:=
 h.less λK ok w k o2 g=>by
  simp only[Objs.get]at g ⊢
  cases h1:Nat.beq i k with
  | true=>rw[h1]at g; exact ⟨_,rfl,λh=>by cases g; exact h⟩
  | false=>
   rw[h1]at g
   cases h2:Nat.beq j k with
   | true=>rw[h2]at g; cases g; exact ⟨_,rfl,λh=>⟨[],[],MOk.nil,h⟩⟩
   | false=>rw[h2]at g; cases g
theorem B2 (s:ByteArray) (hs:s.size≤60) (o m:Nat) (ho:o<256) (hm:m=1+o%4) :
  CtO P 12 [] [.c (sS s),.c (nI .u8 o)] [(200,some (xC (ao (ofL s m)) (aK s).length 201)),(201,some (.me false (MOk (ao (ofL s m)))))] [.c (.ad 200 0),mM (ofL s m) (aK s).length,.c (.sc (.bool true))]:=
 D8 rfl (BY s (by omega) o m ho hm)
theorem Aj:SB [[]] 3 258:=by
 have h:=Cs (s:=⟨#[]⟩) (m:=1) (by decide) (by decide) (by decide);rw[show ao (ofL ⟨#[]⟩ 1)=[[]] by decide,show (aK ⟨#[]⟩).length=3 by decide]at h;exact h
theorem Dz:CCSum [[]]:=by
 refine ⟨⟨by decide,λl hl=>?_⟩,λl hl=>?_⟩
 ·simp at hl; subst hl; exact ⟨by simp,λx hx=>by simp at hx⟩
 ·have:l=[]:=by simpa [ao] using hl
  subst this; decide
theorem D9:CtO P 36 [] [.c (.sl 1 [[.sc (.slice none 0 0)]]),.c (eI .i64 3)] [(36,some (xC [[]] 3 34)),(34,some (.me false (MOk [[]])))] [.c (.ad 36 0),.c (eI .i64 0)]:=
 D8 rfl ((zw [[]] 3 Dz (by decide)).args λK ok w vs h=>h.set (i:=0) rfl C8)
theorem Ak {Lc:List (List Cnt)} {n B:Nat} (hB:SB Lc n B) (h2:2<n) {ids:List Int} (he:oT Lc n ids=0) (M:Nat):decV Lc n (encB Lc n ids) M=if ids.length≤M then some ids else none:=by
 obtain ⟨_,c1,c2,c3,c4⟩:=z9 he;obtain ⟨b1,b2,_⟩:=oM hB h2 c1;obtain ⟨g1,_⟩:=q7 b1 b2 c4;have:=zW hB.x hB.e (ids:=ids) ⟨c1,λw hw e=>?_⟩ h2 g1.good (M+1)
 ·unfold decV encB eX;unfold eX at this;rw[this];by_cases h:ids.length≤M
  ·rw[if_pos h,if_pos (by omega)]
  ·rw[if_neg h,if_neg (by omega)]
 ·subst e;have:=q9 hw;omega
theorem B3:oT [[]] 3 []=0:=by decide
theorem Al:encB [[]] 3 []=[true]:=by
 have hs:eX [[]] 3 []=((1,2),(1,2)):=by decide
 have hk:kOf (eX [[]] 3 [])=1:=by
  rw[hs];refine z8 ⟨by decide,λj hj=>?_⟩;have:j=0:=by omega
  subst this;decide
 unfold encB;rw[hk,hs];decide
abbrev σ45:List (Nat × Nat):=[(50,1000000),(51,1000001)]
abbrev ν45:List (Nat × Nat):=[(1000000,50),(1000001,51)]
theorem p5:Ct P 11 [] [.c (.sc (.bool true))]:=by
 have henc:CtO P 13 (xE [[]] 3) [.c (.ad 1000000 0),.c (.sc (.slice none 0 0))] (xE [[]] 3) [encR [[]] 3 [],.c (eI .i64 (oT [[]] 3 []))]:=
  (pW Aj (by decide) [] (by decide)).args λK ok w vs h=>h.set (i:=1) rfl BG
 rw[show encR [[]] 3 [] = .c (bP (encB [[]] 3 [])) from if_pos B3,B3,Al]at henc;obtain ⟨r,e,hR,hdec⟩:=wP Aj (by decide) [true] (by decide) 5 5 (by decide) (by decide) (by decide) (by decide);have hv:=Ak Aj (by decide) B3 5;rw[Al,if_pos (by decide)]at hv;have hre:r = .c (iSl [])∧e=0:=by
  unfold Af at hR;rw[hv]at hR;rcases hR with ⟨_,a,b⟩ | ⟨h,_⟩
  ·exact ⟨a,b⟩
  ·exact absurd ⟨B3,Al⟩ h
 obtain ⟨rfl,rfl⟩:=hre;refine Ct.go (Ty.own_ok [36,1000001,1000003] aj) aa (N:=47) Tryz.func11 rfl rfl rfl rfl ?_;refine X2 (.own [] [(36,50),(34,51)]) ?_;refine ⟨_,_,D9,?_⟩;refine X2 (.own σ45 ν45) ?_;refine ⟨_,_,henc,?_⟩;refine X2 (.own σ45 ν45) ?_;refine ⟨_,_,hdec,?_⟩;refine X1 _ (eu [true] (by decide)) ?_;refine X1 _ (BU [true] 0 (by decide) (by decide)) ?_;refine .intro (by decide) ?_;exact ⟨HB,r1 rfl,HB⟩
theorem uz (s:ByteArray) (l:List Int) (m:Int) (hs:s.size≤140737488355328) (hl:l.length≤140737488355328):Ct P 9 [.c (sS s),.c (iSl l),.c (eI .i64 m)] [.c (.sc (.bool (decide (s.size≤60∧(l.length:Int)≤m))))]:=by
 refine Ct.go aj aa (N:=16) Tryz.func9 rfl rfl rfl rfl ?_;refine ae (λh1=>?_) (λh1=>?_)
 ·refine .intro (by rw[ac]; omega) ?_;rw[ac];have e:decide (s.size≤60∧(l.length:Int)≤m)=decide ((l.length:Int)≤m):=decide_eq_decide.2 ⟨λh=>h.2,λh=>⟨by omega,h⟩⟩;rw[e];exact ⟨HB,r1 rfl,HB⟩
 ·have e:decide (s.size≤60∧(l.length:Int)≤m)=false:=decide_eq_false λh=>h1 (by omega)
  rw[e];exact ⟨HB,r1 rfl,HB⟩
abbrev σX:List (Nat × Nat):=[(200,1000000),(201,1000001)]
abbrev νX:List (Nat × Nat):=[(1000000,200),(1000001,201)]
theorem Am (s:ByteArray) (hs:s.size≤60) (o m:Nat) (ho:o<256) (hm:m=1+o%4):∃ (Lc:List (List Cnt)) (n:Nat),SB Lc n 258∧2<n ∧
  CtO P 12 [] [.c (sS s),.c (nI .u8 o)] [(200,some (xC Lc n 201)),(201,some (.me false (MOk Lc)))] [.c (.ad 200 0),rM Lc n,.c (.sc (.bool true))]:=
 ⟨_,_,Cs hs (m:=m) (by omega) (by omega),D7 hs (m:=m) (by omega) (by omega),B2 s hs o m ho hm⟩
end
section
section
variable {Lc:List (List Cnt)} {n B:Nat}
theorem cmpN_ge {a b:Nat}:iw a b≥0↔b≤a:=by
 unfold iw;split
 ·exact ⟨λ_=>by omega,λ_=>by omega⟩
 ·split<;>exact ⟨λ_=>by omega,λ_=>by omega⟩
theorem cmpN_lt {a b:Nat}:iw a b<0↔a<b:=by
 unfold iw;split
 ·exact ⟨λ_=>by omega,λ_=>by omega⟩
 ·split<;>exact ⟨λ_=>by omega,λ_=>by omega⟩
theorem uA (hB:SB Lc n B) (H:List Int) (hl:H.length≤1000000) (u:Fr2) {j:Nat} (hu:Bd j u) (hj:j≤100000):Ct P 30 [rM Lc n,.c (iSl H),rP u] [.c (eI .i64 (eW Lc n H u))]:=by
 have h6:=hB.x.w6;have hb:=hB.b;have hlu:=hu.lim (by omega);refine Ct.go aj aa (N:=35) Tryz.func30 rfl rfl rfl rfl ?_;refine X1 _ (aH 0 (by omega)) ?_;refine ax aj aa (λw:Nat=>w≤n∧∀ k,k<w→inP Lc n H u k=false) (λw=>[(1,.c (iSl H)),(3,.c (.ad 3 0)),(5,.c (.ad 5 0)),(7,.c (.ad 7 0)),(8,.c (nI .i64 w))])
  (λw=>[(3,.var (rM Lc n).cells),(5,.var (rP u).cells),(7,.var (rP (aS Lc n H w)).cells)]) (λw=>n-w)
  0 ⟨by omega,λk hk=>by omega⟩ ⟨rfl,rfl,rfl,rfl,rfl,HB⟩ ⟨rfl,rfl,rfl,HB⟩ (λ_:Unit=>eW Lc n H u = -1) (λ_=>[]) (λ_=>[]) (λw hi=>?_) (λ_ hp=>?_)
 ·obtain ⟨i1,i2⟩:=hi;refine ae (λh1=>?_) (λh1=>?_)
  ·have hw:w<n:=by omega
   have hsb:=hB.sum H (w:=w) i1;have hsb2:Bd B (aS Lc n H (w+1)):=hB.sum H (w:=w+1) hw;have hadd:Ct P 55 [rP (aS Lc n H w),rP (a9 Lc n H w)] [rP (aS Lc n H (w+1))]:=mQ hsb (hB.prob H (w:Int)) (by omega) (by omega);have hin:inP Lc n H u w=(decide (iw (u.1*(aS Lc n H w).2) ((aS Lc n H w).1*u.2)≥0)&&decide (iw (u.1*(aS Lc n H (w+1)).2) ((aS Lc n H (w+1)).1*u.2)<0)):=by
    unfold inP;congr 1
    ·exact decide_eq_decide.2 cmpN_ge.symm
    ·exact decide_eq_decide.2 cmpN_lt.symm
   have next:inP Lc n H u w=false→∀ k,k<w+1→inP Lc n H u k=false:=λhf k hk=>by
    by_cases e:k=w
    ·rw[e]; exact hf
    ·exact i2 k (by omega)
   refine X1 _ (zM hB.x H hl w) ?_;refine X1 _ hadd ?_;refine .intro rfl ?_;refine X1 _ (qy u.1 u.2 (aS Lc n H w).1 (aS Lc n H w).2 hlu (hsb.lim (by omega))) ?_;refine ae (λh2=>?_) (λh2=>?_)
   ·refine X1 _ (qy u.1 u.2 (aS Lc n H (w+1)).1 (aS Lc n H (w+1)).2 hlu (hsb2.lim (by omega))) ?_;refine ae (λh3=>?_) (λh3=>?_)
    ·rw[decide_eq_true h2,decide_eq_true h3]at hin
     rw[fu hB.x hu.pos hw hin];exact ⟨HB,r1 rfl,HB⟩
    ·rw[decide_eq_false h3,GQ]at hin
     refine X1 ((w+1:Nat):Int) (wI (by simp) (by omega) (by omega)) ?_;exact ⟨w+1,⟨by omega,next hin⟩,by omega,⟨rfl,rfl,rfl,rfl,rfl,HB⟩,⟨rfl,rfl,rfl,HB⟩⟩
   ·rw[decide_eq_false h2,Hg]at hin
    refine X1 ((w+1:Nat):Int) (wI (by simp) (by omega) (by omega)) ?_;exact ⟨w+1,⟨by omega,next hin⟩,by omega,⟨rfl,rfl,rfl,rfl,rfl,HB⟩,⟨rfl,rfl,rfl,HB⟩⟩
  ·have e:w=n:=by omega
   subst e;exact ⟨(),fN _ 0 λk _ hk=>i2 k (by rw[EX]at hk; omega),HB,HB⟩
 ·rw[hp];exact ⟨HB,r1 rfl,HB⟩
theorem B4 (hB:SB Lc n B) (h:List Int) {u:Fr2} (hu:u.2≠0) (h1:1≤qv u):eW Lc n h u = -1:=by
 refine fN _ 0 λk _ hk=>?_
 rw[EX]at hk
 cases hb:inP Lc n h u k with
 | false=>rfl
 | true=>
  exfalso;have h2:=((gV hB.x hu).1 hb).2;have h3:=ji hB.x h (v:=k+1) (w:=n) (by omega);rw[oD hB.x hB.e]at h3;grind
end
set_option maxHeartbeats 4000000 in
theorem cpicks_ct (s:ByteArray) (h:List Int) (a b:Nat) (hs:s.size≤140737488355328) (hl:h.length≤140737488355328) (ha:a<65536) (hb:b<65536) :
  Ct P 6 [.c (sS s),.c (iSl h),.ag [nI .u16 a,nI .u16 b]] [.c (.sc (.bool true))]:=by
 have hT:=Ty.own_ok [12] aj;refine Ct.keepI hT [] (N:=125) Tryz.func6 rfl rfl rfl rfl ?_;refine dR hT aa ?_;refine dR hT aa ?_;refine X1 _ (uz s h 4 hs hl) ?_;refine aP (λh1=>?_) (λh1=>?_)
 ·refine X1 _ p5 ?_;exact ⟨HB,SubO.of (l:=[]) trivial,r1 rfl,HB⟩
 have h1':s.size≤60∧(h.length:Int)≤4:=by simpa using h1
 obtain ⟨s60,l4⟩:=h1';have l4n:h.length≤4:=by omega
 have l4i:(aI h).length≤4:=by rw[ac]; exact l4n
 obtain ⟨Lc,n,hB,h2,hof⟩:=Am s s60 h.length _ (by omega) rfl;refine kD hT aa (G2:=Unit) (λ_=>True) (λ_=>[(1,.c (iSl h)),(5,.c (.ad 5 0)),(7,.c (.ad 200 0)),(8,.c (.ad 8 0)),(9,.c (.sc (.bool true)))]) (λ_=>[(200,xC Lc n 201),(201,.me false (MOk Lc)),(8,.var (rM Lc n).cells),(5,.var [nI .u16 a,nI .u16 b])]) ?_ (λ_ _=>?_)
 ·refine .intro (EA l4i (by decide)) ?_;rw[ac];refine X1 ((h.length:Nat):Int) (wr ⟨by show (0:Int)≤_; omega,by show _≤(255:Int); omega⟩) ?_;refine X2 (.own [] [(200,200),(201,201)]) ?_;refine ⟨_,_,hof,?_⟩;exact ⟨(),HB,⟨rfl,rfl,rfl,rfl,rfl,HB⟩,⟨rfl,rfl,rfl,rfl,HB⟩⟩
 refine dR hT aa ?_;have bu:Bd 34 (c9 (a,1) (1+b,1)):=ck (k:=17) (m:=17) (ay (by omega) (by omega)) (ay (by omega) (by omega)) (by show 1+b≠0; omega);have i1:IntKind.u64.wrap ((1:Int)+(b:Int))=((1+b:Nat):Int):=wU (by omega) (by omega) (by omega);have hdiv:=u4 (p:=(a,1)) (q:=(1+b,1)) (k:=17) (m:=17) (ay (by omega) (by omega)) (ay (by omega) (by omega)) (by show 1+b≠0; omega) (by omega) (by omega);have hfd:Ct P 31 [rP (a,1),rP (1+b,1)] [rP (c9 (a,1) (1+b,1))]:=eK (k:=17) (m:=17) (ay (by omega) (by omega)) (ay (by omega) (by omega)) (by show 1+b≠0; omega) (by omega) (by omega);have hq:qv (c9 (a,1) (1+b,1))=(a:Rat)/((1+b:Nat):Rat):=by
  rw[ov (by show (1:Nat)≠0; decide) (by show (1:Nat)≠0; decide) (by show 1+b≠0; omega),dU,dU]
 have hb0:(0:Rat)<((1+b:Nat):Rat):=F6.2 (by omega);refine kD hT aa (G2:=Unit) (λ_=>True) (λ_=>[(1,.c (iSl h)),(5,.c (.ad 5 0)),(7,.c (.ad 200 0)),(8,.c (.ad 8 0)),(10,.c (.ad 10 0))])
  (λ_=>[(200,xC Lc n 201),(201,.me false (MOk Lc)),(8,.var (rM Lc n).cells),(5,.var [nI .u16 a,nI .u16 b]),(10,.var (qP (c9 (a,1) (1+b,1))).cells)]) ?_ (λ_ _=>?_)
 ·refine .intro (by decide) (.intro (by decide) ?_);refine X1 ((a:Nat):Int) (wU rfl (by omega) (by omega)) ?_;refine X1 _ (be a (by omega)) ?_;refine .intro (by decide) (.intro (by decide) ?_);refine X1 ((b:Nat):Int) (wU rfl (by omega) (by omega)) ?_;refine X1 ((1+b:Nat):Int) i1 ?_;refine X1 _ (be (1+b) (by omega)) ?_;refine X1 _ hdiv ?_;refine .intro rfl ?_;exact ⟨(),HB,⟨rfl,rfl,rfl,rfl,rfl,HB⟩,⟨rfl,rfl,rfl,rfl,rfl,HB⟩⟩
 generalize c9 (a,1) (1+b,1)=u at *
 have hpc:=Ac hB h (λw=>zD hB.x h (EA l4n (by decide)) w) u bu (by decide);have hpr:=uA hB h (EA l4n (by decide)) u bu (by decide);refine kD hT aa (G2:=Unit) (λ_=>True) (λ_=>[(1,.c (iSl h)),(5,.c (.ad 5 0)),(7,.c (.ad 200 0)),(8,.c (.ad 8 0)),(10,.c (.ad 10 0)),(12,.o tm)])
  (λ_=>[(200,xC Lc n 201),(201,.me false (MOk Lc)),(8,.var (rM Lc n).cells),(5,.var [nI .u16 a,nI .u16 b]),(10,.var (qP u).cells)]) ?_ (λ_ _=>?_)
 ·exact ⟨(),HB,⟨rfl,rfl,rfl,rfl,rfl,rfl,HB⟩,⟨rfl,rfl,rfl,rfl,rfl,HB⟩⟩
 refine dR hT aa ?_;refine X1 _ (ux h) ?_;refine dR hT aa ?_;refine X1 _ (Ae h) ?_;refine dR hT aa ?_;refine X1 _ uy ?_;refine kD hT aa (G2:=Unit) (λ_=>True) (λ_=>[(1,.c (iSl h)),(5,.c (.ad 5 0)),(7,.c (.ad 200 0)),(8,.c (.ad 8 0)),(10,.c (.ad 10 0))])
  (λ_=>[(200,xC Lc n 201),(201,.me false (MOk Lc)),(8,.var (rM Lc n).cells),(5,.var [nI .u16 a,nI .u16 b]),(10,.var (qP u).cells)]) ?_ (λ_ _=>?_)
 ·refine X1 _ (Ad h u) ?_;exact ⟨(),HB,⟨rfl,rfl,rfl,rfl,rfl,HB⟩,⟨rfl,rfl,rfl,rfl,rfl,HB⟩⟩
 obtain ⟨w,hw,hw1,hw2⟩:∃ w:Int,eW Lc n h u=w∧decide (w≥0)=decide ((a:Int)≤(b:Int))∧w<n:=by
  by_cases hab:a≤b
  ·obtain ⟨w,w1,_,w3⟩:=vi hB.x hB.e h bu.pos (by rw[hq,G4 hb0,Rat.one_mul]; exact Rat.natCast_lt_natCast.2 (by omega));exact ⟨w,w3,decide_eq_decide.2 (by omega),by omega⟩
  ·have:=B4 hB h bu.pos (by rw[hq,f7 hb0,Rat.one_mul]; exact F4.2 (by omega));exact ⟨-1,this,decide_eq_decide.2 (by omega),by omega⟩
 rw[hw]at hpc hpr;refine dR hT aa ?_;refine X2 (.own σX νX) ?_;refine ⟨_,_,hpc,?_⟩;refine kE hT aa ?_;refine .intro (by decide) (.intro (by decide) ?_);refine X1 ((a:Nat):Int) (wI rfl (by omega) (by omega)) ?_;refine X1 _ (aH a (by omega)) ?_;refine .intro (by decide) (.intro (by decide) ?_);refine X1 ((b:Nat):Int) (wI rfl (by omega) (by omega)) ?_;refine X1 ((1+b:Nat):Int) (wI (by omega) (by omega) (by omega)) ?_;refine X1 _ (aH (1+b) (by omega)) ?_;refine X1 _ hfd ?_;refine X1 _ hpr ?_;refine aT (λ_=>?_) (λh=>absurd rfl h);refine .intro (by decide) (.intro (by decide) ?_);refine .intro (by decide) (.intro (by decide) ?_);refine aP (λ_=>?_) (λh=>absurd h (by rw[hw1]; simp));refine ae (λ_=>?_) (λh=>absurd hw2 h);refine X1 _ p5 ?_;refine .intro rfl ?_;exact ⟨HB,SubO.of (l:=[]) trivial,r1 rfl,HB⟩
end
end Go.Proofs.YtgceikecdedfcaaGreat.Pv
namespace Go.Proofs.YtgceikecdedfcaaGreat.coderPicks
open Go Go.ChangeShapes Go.WideShapes Go.ChangeAt Go.RowKit
open Go.Proofs.YtgceikecdedfcaaGreat.Pv (okW)
theorem own:ownKnob Tryz.prog.godebug=none:=by kernel_rfl
theorem laidOut:laidOutB Tryz.prog=true:=by kernel_rfl
theorem walk (s0:ByteArray) (l1:List Int) (x2 y2:Nat) (e0:s0.size≤140737488355328) (e1:l1.length≤140737488355328) (e2:x2<65536) (f2:y2<65536) (W:World) (v0 v1:Value)
  (h0:Pv.Rel (okW W) W (Pv.sS s0) v0) (h1:Pv.Rel (okW W) W (Pv.iSl l1) v1) :
  Calls Tryz.prog 6 #[v0,v1,.agg #[.int .u16 x2,.int .u16 y2]] W λe W'=>e = .returned (.bool true)∧Below W.heap.size W W':=by
 have hct:=Pv.cpicks_ct s0 l1 x2 y2 e0 e1 e2 f2;have hrun:=hct.run (Pv.Km.bare ⟨λ_=>none,λ_=>False⟩) (okW W) W [v0,v1,.agg #[.int .u16 x2,.int .u16 y2]] (Pv.Hp.nil λ_ hb=>hb) (.cons (.c (.cl h0)) (.cons (.c (.cl h1)) (.cons (.ag (.cons (.cl (.sc (show (0:Int)≤(x2:Int)∧(x2:Int)≤65535 by omega))) (.cons (.cl (.sc (show (0:Int)≤(y2:Int)∧(y2:Int)≤65535 by omega))) .nil))) .nil)));rcases hrun with ⟨_,hc⟩ | ⟨v,w',hv,_⟩
 ·refine hc.mono λe w' hq=>?_
  obtain ⟨v,K',ok',rfl,hr,hp,hf⟩:=hq;obtain rfl:v = .bool true:=by cases hr with | o hr=>cases hr with | c hr=>cases hr with | cl hr=>cases hr with | sc _=>rfl
  exact ⟨rfl,hf.os,hf.tape,hf.output,hf.size,λb hb=>hf.keep b hb (λk o L hk=>by simp[Pv.Objs.get]at hk) (λhid=>hid)⟩
 ·exfalso;have:=Pv.exec_call (P:=Tryz.prog) (f:=6) (by kernel_rfl) #[v0,v1,.agg #[.int .u16 x2,.int .u16 y2]] W;have hv':(callFunc 6 #[v0,v1,.agg #[.int .u16 x2,.int .u16 y2]]).run Tryz.prog W = .ok (.value v) w':=hv;rw[this]at hv';cases hv'
set_option maxRecDepth 100000 in
theorem contract (H:Type) (enc:TypeId × Value→H) (W:World) (base:Nat) (args:Array Value) (ds gs:List (DataW H)) (before:List MemPlace)
  (hval:∀ (j:Nat) t v,Tryz.f6.params[j]? = some t→args[j]? = some v→Value.okWide Tryz.prog W .any base t v)
  (hW:DataW.Whole enc Tryz.prog Tryz.f6.params.toList Rows.coderPicksSpec.vars false W args.toList ds gs before) (hk:Rows.uptoSmall H (ds++gs)=true) :
  Calls Tryz.prog 6 args W λe W'=>∃ v,e = .returned v∧Rows.coderPicksSpec.post enc Tryz.prog Tryz.f6 false true false false W args v W':=by
 have hW':=hW;obtain ⟨p,q,hA0,hV,rfl,hfz,hnd⟩:=hW;have hA:DataW.TrodAll enc Tryz.prog W 0 (λ_=>true) true Tryz.f6.params.toList args.toList ds p:=hA0;rw[Tryz.params6]at hA hval;obtain ⟨v0,vs0,d0,ds0,p0,q0,hargs0,rfl,rfl,h0,r_0⟩:=trodAll_cons hA;obtain ⟨v1,vs1,d1,ds1,p1,q1,hargs1,rfl,rfl,h1,r_1⟩:=trodAll_cons r_0;obtain ⟨v2,vs2,d2,ds2,p2,q2,hargs2,rfl,rfl,h2,r_2⟩:=trodAll_cons r_1;obtain ⟨rfl,rfl,rfl⟩:=trodAll_nil r_2;obtain rfl:args = #[v0,v1,v2]:=by cases args; simp_all
 obtain ⟨rfl,rfl⟩:=trodVars_none hV;clear hA0;have hb:Rows.uptoBulkAll [d0,d1,d2]≤1048576:=by
  have h:=of_decide_eq_true hk;simpa using h
 simp only[Rows.uptoBulkAll]at hb;obtain ⟨s0,rfl,rfl,rfl,_⟩:=ChangeMaps.open_string Tryz.underlying9 (hval 0 9 v0 rfl rfl) h0;obtain ⟨a1,m1,c1,rfl⟩:=okWide_slice Tryz.underlying22 (hval 1 22 v1 rfl rfl);obtain ⟨n1,t1⟩:=h1;obtain ⟨c2,rfl⟩:=Pv.okWide_arr Tryz.underlying63 (hval 2 63 v2 rfl rfl);obtain ⟨n2,t2⟩:=h2;obtain ⟨x2,y2,r2,wx2,wy2⟩:=Pv.rd_arr2 Tryz.underlying63 ⟨by kernel_rfl,by kernel_rfl⟩ Tryz.underlying62 t2;have xx2:0≤x2∧x2≤65535:=by simpa [Lit.wf,IntKind.min,IntKind.max,IntKind.signed,IntKind.bits] using wx2
 have xy2:0≤y2∧y2≤65535:=by simpa [Lit.wf,IntKind.min,IntKind.max,IntKind.signed,IntKind.bits] using wy2
 obtain ⟨x2,rfl⟩:∃ n:Nat,x2=(n:Int):=⟨x2.toNat,by omega⟩;obtain ⟨y2,rfl⟩:∃ n:Nat,y2=(n:Int):=⟨y2.toNat,by omega⟩;obtain rfl:c2 = #[.int .u16 x2,.int .u16 y2]:=by cases c2; simpa [Value.cells] using r2
 obtain ⟨B,hB⟩:∃ B,B=1048576:=⟨_,rfl⟩;rw[←hB]at hb;have hBB:B≤140737488355328:=by omega
 have hb0:s0.data.toList.length+1≤B:=by simp only[Rows.uptoBulk]at hb; omega
 have e0:s0.size≤140737488355328:=by
  have:s0.size=s0.data.toList.length:=rfl;omega
 obtain ⟨u1,l1,e1,hh1,hr1⟩:=Pv.rd_ints hBB t1 (show Rows.uptoBulk d1≤B by omega);have e1':u1 = .slice a1 m1 c1:=by simpa [Value.cells] using e1.symm
 subst e1';refine (walk s0 l1 x2 y2 e0 (by omega) (by omega) (by omega) W _ _ (.sc (show s0.size≤Pv.BIG from e0)) hr1).mono λe W' ⟨he,hg⟩=>?_
 subst he;refine ⟨_,rfl,_,_,_,[],([]++(p1++(p2++[]))),[],hW',?_,?_,?_,hg.frame _,λh=>by cases h⟩
 ·exact trodAll_cons_mk (shut_bool Tryz.underlying4 _) trodAll_mk0
 ·exact trodAll_cons_mk (ChangeMaps.shut_string Tryz.underlying9 (by assumption)) (trodAll_cons_mk (Below.trod laidOut (by kernel_rfl) (of_decide_eq_true (by kernel_rfl)) ⟨n1,t1⟩ hg (DataW.trod_lt _ _ _ _ t1)) (trodAll_cons_mk (Below.trod laidOut (by kernel_rfl) (of_decide_eq_true (by kernel_rfl)) ⟨n2,t2⟩ hg (DataW.trod_lt _ _ _ _ t2)) trodAll_mk0))
 ·rfl
set_option maxRecDepth 100000 in
theorem lifted (os:Os) (started:os.Started) (H:Type) (enc:TypeId × Value→H) (F:Stop.Interp) :
  ReturnsInHanded {} Tryz.checked os 6 .any ((Rows.OpenSpec.upto Rows.coderPicksSpec).pre6 enc Tryz.prog Tryz.f6 Rows.coderPicksUptoRow.domain false) (((Rows.OpenSpec.upto Rows.coderPicksSpec).at F).post enc Tryz.prog Tryz.f6 false true false false):=by
 refine returnsInHanded_of_cond (C:=Tryz.checked) (s:=Rows.OpenSpec.upto Rows.coderPicksSpec) (k:=Rows.uptoSmall) rfl own started (by kernel_rfl) Tryz.func6
  (OpenSpec.witness (enc:=enc) (C:=Tryz.checked) (s:=Rows.OpenSpec.upto Rows.coderPicksSpec) (k:=Rows.uptoSmall) rfl false ⟨#[],#[.string .empty,.slice none 0 0,.agg #[.int .u16 0,.int .u16 0]],[]⟩ 8 (by kernel_rfl) (by kernel_rfl) (by kernel_rfl)
   (x:=([.lit (.string []),.nil,.agg [.lit (.int .u16 0),.lit (.int .u16 0)]],[],[])) (by kernel_rfl) rfl (by kernel_rfl)) ?_
 intro W base args ds gs before hval hW _ hk _;exact contract H enc W base args ds gs before hval hW hk
theorem over:Rows.coderPicksUptoRow.holds Tryz.pinned (Rows.OpenSpec.upto Rows.coderPicksSpec):=
 OpenClaim.holds_of_cond 6 Tryz.f6 rfl rfl rfl rfl rfl rfl rfl ⟨rfl,rfl,rfl,rfl,rfl⟩ rfl rfl rfl rfl rfl (by kernel_rfl) Tryz.func6 (by kernel_rfl)
  (of_decide_eq_true (by kernel_rfl)) (by unfold Func.isWrapper; first | (rw[if_pos (by decide +kernel)]; kernel_rfl) | (rw[if_neg (by decide +kernel)]; exact ⟨rfl,rfl⟩))
  (λos started H enc _ F=>lifted os started H enc F)
theorem proved:Rows.CoderPicksUptoSaid:=
 over
end Go.Proofs.YtgceikecdedfcaaGreat.coderPicks
