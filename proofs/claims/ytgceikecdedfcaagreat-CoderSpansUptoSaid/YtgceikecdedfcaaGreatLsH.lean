/- Parts of a proof, joined: Cp Fl Fm Fn Fo Fp Fq Cq Ct. -/
import Derived.Test.YtgceikecdedfcaaGreatLsG
namespace Go.Proofs.YtgceikecdedfcaaGreat.Pv
open Go
section
theorem iRow_sub {l:List Int} {a b:Nat}:((aF l).drop a).take b=aF ((l.drop a).take b):=by simp[aF,List.map_take,List.map_drop]
def ahead (l:List Cnt) (g:List Int):Nat:=(l.filter λx=>decide (x.1.length=g.length+1)&&decide (x.1.drop 1=g)).length
theorem yE (l:List Cnt) (g:List Int) (hl:CLim l) (hg:g.length≤1000000):Ct P 141 [.c (cSl l),.c (iSl g)] [.c (nI .i64 (ahead l g))]:=by
 have hll:=hl.len;refine Ct.go aj aa (N:=36) Tryz.func141 rfl rfl rfl rfl ?_;refine aw aj aa (λi:Nat=>i≤l.length) (λi=>[(0,.c (cSl l)),(1,.c (iSl g)),(5,.c (nI .i64 (ahead (l.take i) g))),(6,.c (nI .i64 i))]) (λ_=>[]) (λi=>l.length-i)
  0 (by omega) ⟨rfl,rfl,rfl,rfl,HJ⟩ HJ (λ_:Unit=>True) (λ_=>[(5,.c (nI .i64 (ahead l g)))]) (λ_=>[]) (λi hi=>?_) (λ_ _=>?_)
 ·refine .intro (by rw[cRow_len]; omega) ?_;rw[cRow_len];refine ah (λh5=>?_) (λh5=>?_)
  ·have hi':i<l.length:=by omega
   have hxl:=hl.at' hi';have hx:=bs (l:=l) (i:=(i:Int)) (n:=i) rfl hi';have hs:ahead (l.take (i+1)) g=ahead (l.take i) g+(if l[i].1.length=g.length+1∧l[i].1.drop 1=g then 1 else 0):=by
    unfold ahead;rw[EH hi',FN,EC];congr 1;by_cases h1:l[i].1.length=g.length+1
    ·by_cases h2:l[i].1.drop 1=g
     ·rw[Fo (by rw[decide_eq_true h1,decide_eq_true h2]; rfl),if_pos ⟨h1,h2⟩]; rfl
     ·rw[Fh (by rw[decide_eq_true h1,decide_eq_false h2]; simp),if_neg (λh=>h2 h.2)]; rfl
    ·rw[Fh (by rw[decide_eq_false h1]; simp),if_neg (λh=>h1 h.1)]; rfl
   have ha:ahead (l.take i) g≤i:=by
    unfold ahead;refine EG (FB _ _) ?_;rw[EQ]; omega
   generalize l[i]=x at *
   refine .intro (by omega) (X1 _ hx ?_);refine .intro (by rw[ac]; omega) ?_;refine .intro (by rw[ac]; omega) ?_;rw[ac,ac];refine X1 ((g.length+1:Nat):Int) (wI (by simp) (by omega) (by omega)) ?_;refine aU (λh6=>?_) (λh6=>?_)
   ·have h6':x.1.length=g.length+1:=by omega
    refine .intro (by omega) (X1 _ hx ?_);refine ⟨1,x.1.length,by simp,by simp[ac],by omega,by rw[ac]; omega,?_⟩;rw[iRow_sub,Fj (show (x.1.drop 1).length≤x.1.length-1 by rw[Ff]; exact EE _)];refine X1 _ (mC _ g (by rw[Ff]; omega) hg) ?_;refine ah (λh7=>?_) (λh7=>?_)
    ·rw[if_pos ⟨h6',h7⟩]at hs;refine X1 ((ahead (l.take i) g+1:Nat):Int) (wI (by simp) (by omega) (by omega)) ?_;refine X1 ((i+1:Nat):Int) (wI1 (by omega)) ?_;exact ⟨i+1,by omega,by omega,⟨rfl,rfl,by rw[hs]; rfl,rfl,HJ⟩,HJ⟩
    ·rw[if_neg (λh=>h7 h.2)]at hs;refine X1 ((i+1:Nat):Int) (wI1 (by omega)) ?_;exact ⟨i+1,by omega,by omega,⟨rfl,rfl,by rw[hs]; rfl,rfl,HJ⟩,HJ⟩
   ·rw[if_neg (λh=>h6 (by omega))]at hs;refine X1 ((i+1:Nat):Int) (wI1 (by omega)) ?_;exact ⟨i+1,by omega,by omega,⟨rfl,rfl,by rw[hs]; rfl,rfl,HJ⟩,HJ⟩
  ·have e:i=l.length:=by omega
   subst e;rw[E7];exact ⟨(),HJ,⟨rfl,HJ⟩,HJ⟩
 ·exact ⟨HJ,r1 rfl,HJ⟩
def cL (L:List (List Cnt)) (n:Nat) (x:Cnt):Cnt:=if n+1<L.length∧x.1.getD 0 0≠1 then (x.1,(ahead (L.getD (n+1) []) x.1:Int)) else x
def ao (L:List (List Cnt)):List (List Cnt):=(List.range L.length).map λn=>(L.getD n []).map (cL L n)
structure CCForm (L:List (List Cnt)):Prop where
 lim:CCLim L
 form:∀ (n:Nat) (h:n<L.length) (i:Nat) (hi:i<L[n].length),L[n][i].1.length=n+1
theorem bu {l:List Cnt}:ax (cj l):=by
 intro el h;obtain ⟨x,_,rfl⟩:=Fd.1 h;rfl
theorem kj {l:List (List Cnt)}:ax (a8 l):=by
 intro el h;obtain ⟨x,_,rfl⟩:=Fd.1 h;rfl
theorem eO {l m:List Cnt}:cj l++cj m=cj (l++m):=by simp[cj]
theorem v5 {l m:List (List Cnt)}:a8 l++a8 m=a8 (l++m):=by simp[a8]
theorem ar {el:List PC} (h:closedL el=true):ax [el]:=by
 intro e he;simp only[Fq]at he;subst he; exact h
theorem tU (L:List (List Cnt)) (hL:CCForm L) (hl8:L.length≤1000):Ct P 92 [.c (cK L)] [.c (cK (ao L))]:=by
 refine Ct.go aj aa (N:=60) Tryz.func92 rfl rfl rfl rfl ?_;refine ie (r:=50) (t:=3) (sz:=1) rfl rfl ?_;refine aw aj aa (λn:Nat=>n≤L.length) (λn=>[(0,.c (cK L)),(3,.c (.ow 50 1 n)),(4,.c (nI .i64 n))]) (λn=>[(50,.row 1 (a8 ((List.range n).map λn=>(L.getD n []).map (cL L n))))]) (λn=>L.length-n)
  0 (by omega) ⟨rfl,rfl,rfl,HJ⟩ ⟨rfl,HJ⟩ (λ_:Unit=>True) (λ_=>[(3,.c (.ow 50 1 L.length))]) (λ_=>[(50,.row 1 (a8 (ao L)))]) (λn hi=>?_) (λ_ he=>?_)
 ·refine .intro (by rw[aq]; omega) ?_;rw[aq];refine ah (λh4=>?_) (λh4=>?_)
  ·have hn:n<L.length:=by omega
   have hl:=hL.lim.at' hn;have hlen:=hl.len;have hget:=bH (l:=L) (i:=(n:Int)) (n:=n) rfl hn;have hform:=hL.form n hn;have hgd:L.getD n []=L[n]:=by simp[EB,hn]
   refine ie (r:=51) (t:=5) (sz:=2) rfl rfl ?_;refine uM aj aa (λi:Nat=>i≤L[n].length) (λi=>[(0,.c (cK L)),(3,.c (.ow 50 1 n)),(4,.c (nI .i64 n)),(5,.c (.ow 51 2 i)),(6,.c (nI .i64 i))])
    (λi=>[(50,.row 1 (a8 ((List.range n).map λn=>(L.getD n []).map (cL L n)))),(51,.row 2 (cj ((L[n].take i).map (cL L n))))]) (λi=>L[n].length-i)
    0 (by omega) ⟨rfl,rfl,rfl,rfl,rfl,HJ⟩ ⟨rfl,rfl,HJ⟩ (λ_:Unit=>True) (λ_=>[(0,.c (cK L)),(3,.c (.ow 50 1 n)),(4,.c (nI .i64 n)),(5,.c (.ow 51 2 L[n].length))])
    (λ_=>[(50,.row 1 (a8 ((List.range n).map λn=>(L.getD n []).map (cL L n)))),(51,.row 2 (cj (L[n].map (cL L n))))]) (λi hi=>?_) (λ_ _=>?_)
   ·refine .intro (by omega) (X1 _ hget ?_);refine .intro (by rw[cRow_len]; omega) ?_;rw[cRow_len];refine ah (λh5=>?_) (λh5=>?_)
    ·have hi':i<L[n].length:=by omega
     have hxl:=hl.at' hi';have hxf:=hform i hi';have hx:=bs (l:=L[n]) (i:=(i:Int)) (n:=i) rfl hi';have e0:(cj ((L[n].take i).map (cL L n))).length=i:=by rw[cRow_len,Fs,EQ]; omega
     have e1:(L[n].take (i+1)).map (cL L n)=(L[n].take i).map (cL L n)++[cL L n L[n][i]]:=by
      rw[EH hi',FM]; rfl
     generalize L[n][i]=x at *
     refine .intro (by omega) (X1 _ hget ?_);refine .intro (by omega) (X1 _ hx ?_);refine .intro (by rw[aq]; omega) ?_;rw[aq];refine X1 ((L.length:Int)-1) (wI rfl (by omega) (by omega)) ?_;refine ah (λh6=>?_) (λh6=>?_)
     ·refine .intro (by omega) (X1 _ (bl (n:=0) rfl (by omega)) ?_);refine dq (λh7=>?_) (λh7=>?_)
      ·have hc:cL L n x=(x.1,(ahead L[n+1] x.1:Int)):=by
        have:L.getD (n+1) []=L[n+1]:=by simp[EB,(by omega:n+1<L.length)]
        rw[cL,if_pos ⟨by omega,h7⟩,this]
       rw[hc]at e1;refine X1 ((n+1:Nat):Int) (wI (by simp) (by omega) (by omega)) ?_;refine .intro (by omega) (X1 _ (bH rfl (by omega)) ?_);refine X1 _ (yE L[n+1] x.1 (hL.lim.at' (by omega)) hxl) ?_;refine .intro rfl ?_;refine ⟨e0.symm,by rw[e0]; show (i+1+768)*32≤_; omega,by rw[e0]; show i+1≤_; omega,bu,ar rfl,?_⟩;refine X1 ((i+1:Nat):Int) (wI1 (by omega)) ?_;exact ⟨i+1,by omega,by omega,⟨rfl,rfl,rfl,owE (by rw[EC,e0]; rfl),rfl,HJ⟩,⟨rfl,aB (by rw[e1,←eO]; rfl),HJ⟩⟩
      ·have hc:cL L n x=x:=by rw[cL,if_neg (λh=>h.2 h7)]
       rw[hc]at e1;refine ⟨e0.symm,by rw[e0]; show (i+1+768)*32≤_; omega,by rw[e0]; show i+1≤_; omega,bu,ar rfl,?_⟩;refine X1 ((i+1:Nat):Int) (wI1 (by omega)) ?_;exact ⟨i+1,by omega,by omega,⟨rfl,rfl,rfl,owE (by rw[EC,e0]; rfl),rfl,HJ⟩,⟨rfl,aB (by rw[e1,←eO]; rfl),HJ⟩⟩
     ·have hc:cL L n x=x:=by rw[cL,if_neg (λh=>h6 (by omega))]
      rw[hc]at e1;refine ⟨e0.symm,by rw[e0]; show (i+1+768)*32≤_; omega,by rw[e0]; show i+1≤_; omega,bu,ar rfl,?_⟩;refine X1 ((i+1:Nat):Int) (wI1 (by omega)) ?_;exact ⟨i+1,by omega,by omega,⟨rfl,rfl,rfl,owE (by rw[EC,e0]; rfl),rfl,HJ⟩,⟨rfl,aB (by rw[e1,←eO]; rfl),HJ⟩⟩
    ·have e:i=L[n].length:=by omega
     subst e;exact ⟨(),HJ,⟨rfl,rfl,rfl,rfl,HJ⟩,⟨rfl,aB (by rw[E7]),HJ⟩⟩
   ·refine Au aj aa [51] ?_;have e0:(a8 ((List.range n).map λn=>(L.getD n []).map (cL L n))).length=n:=by rw[aq,Fs,List.length_range]
    have e1:(List.range (n+1)).map (λn=>(L.getD n []).map (cL L n))=(List.range n).map (λn=>(L.getD n []).map (cL L n))++[L[n].map (cL L n)]:=by
     rw[List.range_succ,FM,←hgd]; rfl
    refine ⟨e0.symm,by rw[e0]; show (n+1+768)*24≤_; omega,by rw[e0]; show n+1≤_; omega,kj,ar rfl,?_⟩;refine X1 ((n+1:Nat):Int) (wI (by simp) (by omega) (by omega)) ?_;exact ⟨n+1,by omega,by omega,⟨rfl,owE (by rw[EC,e0]; rfl),rfl,HJ⟩,⟨aB (by rw[e1,←v5]; rfl),HJ⟩⟩
  ·have e:n=L.length:=by omega
   subst e;exact ⟨(),HJ,⟨rfl,HJ⟩,⟨rfl,HJ⟩⟩
 ·exact ⟨HJ,r1 rfl,HJ⟩
theorem dR {l:List ByteArray}:ax (gF l):=by
 intro el h;obtain ⟨x,_,rfl⟩:=Fd.1 h;rfl
theorem kl (l:List ByteArray) (x:ByteArray):gF (l++[x])=gF l++[[sS x]]:=by simp[gF]
def lnS (s:ByteArray):Nat→List ByteArray × Nat
 | 0=>([],0)
 | i+1=>if s.data[i]? = some 10 then ((lnS s i).1++[s.extract (lnS s i).2 i],i+1) else lnS s i
theorem lp (s:ByteArray):∀ i,(lnS s i).2≤i∧(lnS s i).1.length≤i
 | 0=>⟨EE _,EE _⟩
 | i+1=>by
  obtain ⟨h1,h2⟩:=lp s i;unfold lnS;split
  ·exact ⟨EE _,by simp; omega⟩
  ·exact ⟨by omega,by omega⟩
def dI (s:ByteArray):List ByteArray:=(lnS s s.size).1++[s.extract (lnS s s.size).2 s.size]
theorem yF (s:ByteArray) (hs:s.size≤100000):Ct P 135 [.c (sS s)] [.c (sSl (dI s))]:=by
 have e:gF (dI s)=gF (lnS s s.size).1++[[sS (s.extract (lnS s s.size).2 s.size)]]:=by unfold dI; rw[kl]
 rw[show sSl (dI s) = .sl 1 (gF (lnS s s.size).1++[[sS (s.extract (lnS s s.size).2 s.size)]]) from congrArg _ e];refine Ct.go aj aa (N:=33) Tryz.func135 rfl rfl rfl rfl ?_;refine ie (r:=34) (t:=3) (sz:=1) rfl rfl ?_;refine aw aj aa (λi:Nat=>i≤s.size) (λi=>[(0,.c (sS s)),(3,.c (.ow 34 1 (lnS s i).1.length)),(4,.c (nI .i64 (lnS s i).2)),(5,.c (nI .i64 i))]) (λi=>[(34,.row 1 (gF (lnS s i).1))]) (λi=>s.size-i)
  0 (by omega) ⟨rfl,rfl,rfl,rfl,HJ⟩ ⟨rfl,HJ⟩ (λ_:Unit=>True) (λ_=>[(0,.c (sS s)),(3,.c (.ow 34 1 (lnS s s.size).1.length)),(4,.c (nI .i64 (lnS s s.size).2))]) (λ_=>[(34,.row 1 (gF (lnS s s.size).1))]) (λi hi=>?_) (λ_ _=>?_)
 ·obtain ⟨a1,a2⟩:=lp s i;refine ah (λh1=>?_) (λh1=>?_)
  ·have hi':i<s.size:=by omega
   have hb:s.data[(i:Int).toNat]? = some s.data[i]:=by simp[hi',show i<s.data.size from hi']
   refine .intro (by omega) (X1 _ hb ?_);refine aU (λh2=>?_) (λh2=>?_)
   ·have h3:s.data[i]? = some 10:=by
     rw[GA hi'];congr 1;have:(s.data[i]).toNat=10:=by omega
     exact UInt8.toNat_inj.1 this
    have hst:lnS s (i+1)=((lnS s i).1++[s.extract (lnS s i).2 i],i+1):=by rw[lnS,if_pos h3]
    refine ⟨(lnS s i).2,i,rfl,rfl,a1,by omega,?_⟩;refine ⟨by rw[aM],by rw[aM]; show ((lnS s i).1.length+1+768)*16≤_; omega,by rw[aM]; show (lnS s i).1.length+1≤_; omega,dR,ar rfl,?_⟩;refine X1 ((i+1:Nat):Int) (wI1 (by omega)) ?_;refine X1 ((i+1:Nat):Int) (wI1 (by omega)) ?_;refine ⟨i+1,by omega,by omega,⟨rfl,owE (by rw[hst,EC,EC,aM]; rfl),by rw[hst]; rfl,rfl,HJ⟩,⟨aB (by rw[hst,kl]; rfl),HJ⟩⟩
   ·have h3:¬ s.data[i]? = some 10:=λh=>by
     rw[GA hi',ET]at h;apply h2;rw[h]; rfl
    have hst:lnS s (i+1)=lnS s i:=by rw[lnS,if_neg h3]
    refine X1 ((i+1:Nat):Int) (wI1 (by omega)) ?_;refine ⟨i+1,by omega,by omega,⟨rfl,by rw[hst]; rfl,by rw[hst]; rfl,rfl,HJ⟩,⟨by rw[hst]; rfl,HJ⟩⟩
  ·have e:i=s.size:=by omega
   subst e;exact ⟨(),HJ,⟨rfl,rfl,rfl,HJ⟩,⟨rfl,HJ⟩⟩
 ·obtain ⟨a1,a2⟩:=lp s s.size;refine ⟨rfl,by rw[aM]; show (0+(lnS s s.size).1.length+768)*16≤_; omega,by rw[aM]; show 0+(lnS s s.size).1.length≤_; omega,bM,dR,?_⟩;refine ⟨(lnS s s.size).2,s.size,rfl,rfl,a1,EE _,?_⟩;refine ⟨rfl,by rw[EC,aM]; show (0+(lnS s s.size).1.length+1+768)*16≤_; omega,by rw[EC,aM]; show 0+(lnS s s.size).1.length+1≤_; omega,dR,ar rfl,?_⟩;refine .intro rfl ?_;exact ⟨HJ,r1 rfl,HJ⟩
abbrev nbB (b:UInt8):Bool:=!(lj (b.toNat:Int))
def eu (s:ByteArray) (i:Nat):Nat:=((s.data.toList.drop i).takeWhile nbB).length
theorem uS {α:Type} {p:α→Bool}:∀ (l:List α),(∀ (j:Nat) x,j<(l.takeWhile p).length→l[j]? = some x→p x=true)∧(∀ x,l[(l.takeWhile p).length]? = some x→p x=false)∧(l.takeWhile p).length≤l.length
 | []=>⟨λj x h=>by simp at h,λx h=>by simp at h,by simp⟩
 | y::l=>by
  obtain ⟨h1,h2,h3⟩:=uS (p:=p) l
  cases hp:p y with
  | true=>
   rw[GP hp];refine ⟨λj x hj hx=>?_,λx hx=>?_,by simp; omega⟩
   ·cases j with
    | zero=>simp at hx; subst hx; exact hp
    | succ j=>exact h1 j x (by simpa using hj) (by simpa using hx)
   ·exact h2 x (by simpa using hx)
  | false=>
   rw[List.takeWhile_cons_of_neg (by rw[hp]; simp)];exact ⟨λj x hj=>by simp at hj,λx hx=>by simp at hx; subst hx; exact hp,by simp⟩
theorem nL (s:ByteArray) (i:Nat) (hi:i≤s.size):i+eu s i≤s.size∧(∀ j,j<eu s i→∀ b,s.data[i+j]? = some b→nbB b=true)∧∀ b,s.data[i+eu s i]? = some b→nbB b=false:=by
 obtain ⟨h1,h2,h3⟩:=uS (p:=nbB) (s.data.toList.drop i);have e:∀ j,(s.data.toList.drop i)[j]? = s.data[i+j]?:=λj=>by simp[Fp]
 refine ⟨?_,λj hj b hb=>h1 j b hj (by rw[e]; exact hb),λb hb=>h2 b (by rw[e]; exact hb)⟩;have:(s.data.toList.drop i).length=s.size-i:=by rw[Ff]; rfl
 unfold eu;omega
abbrev DI:ByteArray:=⟨#[60,117,110,107,62]⟩
def wdW (s:ByteArray) (i:Nat):ByteArray:=if eu s i>255 then DI else s.extract i (i+eu s i)
def wdF (s:ByteArray):Nat→Nat→List ByteArray→List ByteArray
 | 0,_,out=>out
 | f+1,i,out=>match s.data[i]? with
  | none=>out
  | some b=>if nbB b=false then wdF s f (i+1) out else wdF s f (i+eu s i) (if kf (wdW s i)=true then out else out++[wdW s i])
def dJ (s:ByteArray):List ByteArray:=wdF s (s.size+1) 0 []
theorem uT {s:ByteArray} {i:Nat} (hi:i<s.size) {b:UInt8} (hb:s.data[i]? = some b) (h:nbB b=true):1≤eu s i:=by
 obtain ⟨_,_,h3⟩:=nL s i (by omega);apply Classical.byContradiction;intro hn;have e:eu s i=0:=by omega
 rw[e]at h3;have:=h3 b (by simpa using hb);rw[h]at this; cases this
def ko (out:List ByteArray):Prop:=∀ w,w∈out→w.size≤255∧kf w=false
theorem CQ (s:ByteArray) (i:Nat):(wdW s i).size≤255:=by
 unfold wdW;split
 ·decide
 ·have:(s.extract i (i+eu s i)).size≤eu s i:=by rw[Gu]; omega
  omega
theorem tV (s:ByteArray) (hs:s.size≤100000):Ct P 136 [.c (sS s)] [.c (sSl (dJ s))]:=by
 refine Ct.go aj aa (N:=53) Tryz.func136 rfl rfl rfl rfl ?_;refine ie (r:=60) (t:=3) (sz:=1) rfl rfl ?_;refine aw aj aa (G:=Nat × List ByteArray × Nat) (λ(i,out,f)=>i≤s.size∧out.length≤i∧s.size+1≤i+f∧wdF s f i out=dJ s) (λ(i,out,_)=>[(0,.c (sS s)),(3,.c (.ow 60 1 out.length)),(4,.c (nI .i64 i))]) (λ(_,out,_)=>[(60,.row 1 (gF out))]) (λ(i,_,_)=>s.size-i)
  (0,[],s.size+1) ⟨by omega,by simp,by omega,rfl⟩ ⟨rfl,rfl,rfl,HJ⟩ ⟨rfl,HJ⟩ (λ_:Unit=>True) (λ_=>[(3,.c (.ow 60 1 (dJ s).length))]) (λ_=>[(60,.row 1 (gF (dJ s)))]) (λ(i,out,f) hi=>?_) (λ_ _=>?_)
 ·obtain ⟨i1,i2,i3,i4⟩:=hi;refine ah (λh1=>?_) (λh1=>?_)
  ·have hi':i<s.size:=by omega
   obtain ⟨f',rfl⟩:∃ f',f=f'+1:=⟨f-1,by omega⟩;have hb:s.data[i]? = some s.data[i]:=GA hi';generalize s.data[i]=b at *
   rw[wdF,hb]at i4;simp only at i4;obtain ⟨r1',r2',r3'⟩:=nL s i i1;refine .intro (by omega) (X1 b (by rw[E4]; exact hb) ?_);refine X1 _ (rJ _) ?_;refine aP (λh2=>?_) (λh2=>?_)
   ·have hn:nbB b=false:=by show (!(lj (b.toNat:Int)))=false; rw[h2]; rfl
    rw[if_pos hn]at i4;refine X1 ((i+1:Nat):Int) (wI1 (by omega)) ?_;exact ⟨(i+1,out,f'),⟨by omega,by omega,by omega,i4⟩,by show s.size-(i+1)<s.size-i; omega,⟨rfl,rfl,rfl,HJ⟩,⟨rfl,HJ⟩⟩
   ·have hn:nbB b=true:=by show (!(lj (b.toNat:Int)))=true; rw[h2]; rfl
    rw[if_neg (by rw[hn]; simp)]at i4;have hpos:=uT hi' hb hn;refine aw aj aa (λn:Nat=>n≤eu s i) (λn=>[(0,.c (sS s)),(3,.c (.ow 60 1 out.length)),(4,.c (nI .i64 i)),(5,.c (nI .i64 n))]) (λ_=>[(60,.row 1 (gF out))]) (λn=>eu s i-n)
     0 (by omega) ⟨rfl,rfl,rfl,rfl,HJ⟩ ⟨rfl,HJ⟩ (λ_:Unit=>True) (λ_=>[(0,.c (sS s)),(3,.c (.ow 60 1 out.length)),(4,.c (nI .i64 i)),(5,.c (nI .i64 (eu s i)))]) (λ_=>[(60,.row 1 (gF out))]) (λn hn'=>?_) (λ_ _=>?_)
    ·refine X1 ((s.size-i:Nat):Int) (wI (by omega) (by omega) (by omega)) ?_;refine ah (λh3=>?_) (λh3=>?_)
     ·have hin:i+n<s.size:=by omega
      have hbn:s.data[i+n]? = some s.data[i+n]:=GA hin
      generalize s.data[i+n]=c at *
      refine X1 ((i+n:Nat):Int) (wI (by simp) (by omega) (by omega)) ?_;refine .intro (by omega) (X1 c (by rw[E4]; exact hbn) ?_);refine X1 _ (rJ _) ?_;refine aP (λh4=>?_) (λh4=>?_)
      ·have h5:nbB c=true:=h4;have hlt:n<eu s i:=by
        apply Classical.byContradiction;intro hge;have e:n=eu s i:=by omega
        subst e;have:=r3' c hbn;rw[h5]at this; cases this
       refine X1 ((n+1:Nat):Int) (wI (by simp) (by omega) (by omega)) ?_;exact ⟨n+1,by omega,by omega,⟨rfl,rfl,rfl,rfl,HJ⟩,⟨rfl,HJ⟩⟩
      ·have h5:nbB c=false:=h4;have e:n=eu s i:=by
        apply Classical.byContradiction;intro hne;have:=r2' n (by omega) c hbn;rw[h5]at this; cases this
       subst e;exact ⟨(),HJ,⟨rfl,rfl,rfl,rfl,HJ⟩,⟨rfl,HJ⟩⟩
     ·have e:n=eu s i:=by omega
      subst e;exact ⟨(),HJ,⟨rfl,rfl,rfl,rfl,HJ⟩,⟨rfl,HJ⟩⟩
    ·refine X1 ((i+eu s i:Nat):Int) (wI (by simp) (by omega) (by omega)) ?_;refine ⟨i,i+eu s i,rfl,rfl,by omega,r1',?_⟩;refine ah (λh6=>?_) (λh6=>?_);have ew:wdW s i=DI:=if_pos (by omega);rw[ew]at i4;rotate_left;have ew:wdW s i=s.extract i (i+eu s i):=if_neg (by omega);rw[ew]at i4
     all_goals
      refine X1 _ (A8 _) ?_;refine aP (λh7=>?_) (λh7=>?_)
      ·rw[if_neg (by simpa using h7)]at i4;refine ⟨by rw[aM],by rw[aM]; show (out.length+1+768)*16≤_; omega,by rw[aM]; show out.length+1≤_; omega,dR,ar rfl,?_⟩;refine X1 ((i+eu s i:Nat):Int) (wI (by simp) (by omega) (by omega)) ?_;refine ⟨(i+eu s i,_,f'),⟨r1',by rw[EC]; show out.length+1≤_; omega,by omega,i4⟩,by show s.size-(i+eu s i)<s.size-i; omega,⟨rfl,owE (by rw[EC,EC,aM]; rfl),rfl,HJ⟩,⟨aB (by rw[kl]; rfl),HJ⟩⟩
      ·rw[if_pos (by simpa using h7)]at i4;refine X1 ((i+eu s i:Nat):Int) (wI (by simp) (by omega) (by omega)) ?_;exact ⟨(i+eu s i,out,f'),⟨r1',by omega,by omega,i4⟩,by show s.size-(i+eu s i)<s.size-i; omega,⟨rfl,rfl,rfl,HJ⟩,⟨rfl,HJ⟩⟩
  ·have hnone:s.data[i]? = none:=Gt (by show s.size≤i; omega);obtain ⟨f',rfl⟩:∃ f',f=f'+1:=⟨f-1,by omega⟩;rw[wdF,hnone]at i4;simp only at i4;subst i4;exact ⟨(),HJ,⟨rfl,HJ⟩,⟨rfl,HJ⟩⟩
 ·exact ⟨HJ,r1 rfl,HJ⟩
theorem tW (s:ByteArray):∀ (f i:Nat) (out:List ByteArray),i≤s.size→ko out→out.length≤i→ko (wdF s f i out)∧(wdF s f i out).length≤s.size
 | 0,i,out,hi,h,hl=>⟨h,by show out.length≤_; omega⟩
 | f+1,i,out,hi,h,hl=>by
  unfold wdF
  cases hb:s.data[i]? with
  | none=>exact ⟨h,by show out.length≤_; omega⟩
  | some b=>
   have hi':i<s.size:=(E9.1 hb).1;simp only;split
   ·exact tW s f (i+1) out (by omega) h (by omega)
   ·rename_i hn;have hpos:=uT hi' hb (by simpa using hn);have hr:=(nL s i hi).1;refine tW s f (i+eu s i) _ hr ?_ ?_
    ·split
     ·exact h
     ·rename_i hm;intro w hw;rcases Fl.1 hw with hw | hw
      ·exact h w hw
      ·simp at hw; subst hw;exact ⟨CQ s i,by simpa using hm⟩
    ·split
     ·omega
     ·rw[EC]; show out.length+1≤_; omega
theorem nM (s:ByteArray):ko (dJ s)∧(dJ s).length≤s.size:=tW s _ 0 [] (by omega) (λw h=>by simp at h) (by simp)
def ip (L:List (List ByteArray)):List (List PC):=L.map λl=>[sSl l]
abbrev Ba (L:List (List ByteArray)):PC:=.sl 1 (ip L)
theorem dT {L:List (List ByteArray)}:(ip L).length=L.length:=by simp[ip]
theorem qf {L:List (List ByteArray)}:ax (ip L):=by
 intro el h;obtain ⟨x,_,rfl⟩:=Fd.1 h;rfl
theorem v6 (L:List (List ByteArray)) (l:List ByteArray):ip (L++[l])=ip L++[[sSl l]]:=by simp[ip]
theorem o9 {L:List (List ByteArray)} {i:Int} {n:Nat} (h0:i=n) (h:n<L.length):(ip L)[i.toNat]? = some [sSl L[n]]:=by
 subst h0;simp[ip,h]
def jd (l:List ByteArray):List (List ByteArray):=(l.map dJ).filter λw=>decide (w.length>0)
def fP (s:ByteArray):List (List ByteArray):=jd (dI s)
theorem v7 (l:List ByteArray) (x:ByteArray):jd (l++[x])=if (dJ x).length>0 then jd l++[dJ x] else jd l:=by
 unfold jd;rw[FM,FN];by_cases h:(dJ x).length>0
 ·rw[if_pos h]; simp[Hd,h]
 ·rw[if_neg h]; simp[Hd,h]
theorem yG {s:ByteArray}:(∀ i,∀ l,l∈(lnS s i).1→l.size≤s.size):=by
 intro i
 induction i with
 | zero=>intro l h; simp[lnS]at h
 | succ i ih=>
  intro l h;unfold lnS at h;split at h
  ·rcases Fl.1 h with h | h
   ·exact ih l h
   ·simp at h; subst h;rw[Gu]; omega
  ·exact ih l h
theorem rL (s:ByteArray):(dI s).length≤s.size+1∧∀ l,l∈dI s→l.size≤s.size:=by
 unfold dI;refine ⟨by rw[EC]; have:=(lp s s.size).2; show (lnS s s.size).1.length+1≤_; omega,λl h=>?_⟩;rcases Fl.1 h with h | h
 ·exact yG s.size l h
 ·simp at h; subst h;rw[Gu]; omega
theorem rN (s:ByteArray) (hs:s.size≤100000):Ct P 88 [.c (sS s)] [.c (Ba (fP s))]:=by
 obtain ⟨b1,b2⟩:=rL s;refine Ct.go aj aa (N:=28) Tryz.func88 rfl rfl rfl rfl ?_;refine X1 _ (yF s hs) ?_;unfold fP;generalize dI s=l at *
 refine ie (r:=34) (t:=3) (sz:=1) rfl rfl ?_;refine aw aj aa (λi:Nat=>i≤l.length) (λi=>[(4,.c (sSl l)),(3,.c (.ow 34 1 (jd (l.take i)).length)),(5,.c (nI .i64 i))]) (λi=>[(34,.row 1 (ip (jd (l.take i))))]) (λi=>l.length-i)
  0 (by omega) ⟨rfl,rfl,rfl,HJ⟩ ⟨rfl,HJ⟩ (λ_:Unit=>True) (λ_=>[(3,.c (.ow 34 1 (jd l).length))]) (λ_=>[(34,.row 1 (ip (jd l)))]) (λi hi=>?_) (λ_ _=>?_)
 ·refine .intro (by rw[aM]; omega) ?_;rw[aM];refine ah (λh1=>?_) (λh1=>?_)
  ·have hi':i<l.length:=by omega
   have hget:=iO (l:=l) (i:=(i:Int)) (n:=i) rfl hi';have hs:l.take (i+1)=l.take i++[l[i]]:=EH hi';have hsn:=v7 (l.take i) l[i];rw[←hs]at hsn;have hb:=b2 l[i] (EO hi');have hwl:=(nM l[i]).2;have hal:(jd (l.take i)).length≤i:=by
    have:=FB (λw:List ByteArray=>decide (w.length>0)) ((l.take i).map dJ);rw[Fs,EQ]at this;unfold jd; omega
   generalize l[i]=x at *
   refine .intro (by omega) (X1 _ hget ?_);refine X1 _ (tV x (by omega)) ?_;refine .intro (by rw[aM]; omega) ?_;rw[aM];refine ah (λh2=>?_) (λh2=>?_)
   ·rw[if_pos (by omega)]at hsn;refine ⟨by rw[dT],by rw[dT]; show ((jd (l.take i)).length+1+768)*24≤_; omega,by rw[dT]; show (jd (l.take i)).length+1≤_; omega,qf,ar rfl,?_⟩;refine X1 ((i+1:Nat):Int) (wI1 (by omega)) ?_;exact ⟨i+1,by omega,by omega,⟨rfl,owE (by rw[hsn,EC,EC,dT]; rfl),rfl,HJ⟩,⟨aB (by rw[hsn,v6]; rfl),HJ⟩⟩
   ·rw[if_neg (by omega)]at hsn;refine X1 ((i+1:Nat):Int) (wI1 (by omega)) ?_;exact ⟨i+1,by omega,by omega,⟨rfl,by rw[hsn]; rfl,rfl,HJ⟩,⟨by rw[hsn]; rfl,HJ⟩⟩
  ·have e:i=l.length:=by omega
   subst e;rw[E7];exact ⟨(),HJ,⟨rfl,HJ⟩,⟨rfl,HJ⟩⟩
 ·exact ⟨HJ,r1 rfl,HJ⟩
def gP (l:List ByteArray) (s:ByteArray):List ByteArray:=if ca s l≥0 then l else l++[s]
theorem yH (l:List ByteArray) (s:ByteArray) (hl:l.length≤500000):Ct P 89 [.c (sSl l),.c (sS s)] [.c (sSl (gP l s))]:=by
 unfold gP;by_cases h0:ca s l≥0
 ·rw[if_pos h0];refine Ct.go aj aa (N:=16) Tryz.func89 rfl rfl rfl rfl ?_;refine X1 _ (lm l s (by omega)) ?_;refine ah (λh1=>?_) (λh1=>?_)
  ·exact ⟨HJ,r1 rfl,HJ⟩
  ·exfalso; omega
 ·rw[if_neg h0,show sSl (l++[s]) = .sl 1 (gF l++[[sS s]]) from congrArg _ (kl l s)];refine Ct.go aj aa (N:=16) Tryz.func89 rfl rfl rfl rfl ?_;refine X1 _ (lm l s (by omega)) ?_;refine ah (λh1=>?_) (λh1=>?_)
  ·exfalso; omega
  ·refine ⟨rfl,by rw[aM]; show (0+l.length+768)*16≤_; omega,by rw[aM]; show 0+l.length≤_; omega,bM,dR,?_⟩;refine ⟨rfl,by rw[EC,aM]; show (0+l.length+1+768)*16≤_; omega,by rw[EC,aM]; show 0+l.length+1≤_; omega,dR,ar rfl,?_⟩;exact ⟨HJ,r1 rfl,HJ⟩
theorem v8 (l:List ByteArray) (s:ByteArray):(gP l s).length≤l.length+1:=by
 unfold gP; split
 ·omega
 ·simp
def cU (l:List ByteArray) (ws:List ByteArray):List ByteArray:=ws.foldl gP l
theorem rO (l ws:List ByteArray) (w:ByteArray):cU l (ws++[w])=gP (cU l ws) w:=by simp[cU,GS]
theorem gG:∀ (ws l:List ByteArray),(cU l ws).length≤l.length+ws.length
 | [],l=>by simp[cU]
 | w::ws,l=>by
  have:=gG ws (gP l w);have h2:=v8 l w;show (cU (gP l w) ws).length≤_
  rw[Fe]; omega
def eP (l:List ByteArray) (L:List (List ByteArray)):List ByteArray:=L.foldl cU l
theorem tX (l:List ByteArray) (L:List (List ByteArray)) (ws:List ByteArray):eP l (L++[ws])=cU (eP l L) ws:=by simp[eP,GS]
theorem lq {n:Nat}:∀ (L:List (List ByteArray)) (l:List ByteArray),(∀ ws,ws∈L→ws.length≤n)→(eP l L).length≤l.length+L.length*n
 | [],l,_=>by simp[eP]
 | ws::L,l,h=>by
  have:=lq L (cU l ws) λx hx=>h x (E3 _ hx)
  have h2:=gG ws l;have h3:=h ws (by simp);show (eP (cU l ws) L).length≤_
  rw[Fe,EU,Fn]; omega
def aK (s:ByteArray):List ByteArray:=eP marks15 (fP s)
theorem kr (s:ByteArray):(fP s).length≤s.size+1∧∀ ws,ws∈fP s→ws.length≤s.size∧ko ws:=by
 obtain ⟨b1,b2⟩:=rL s;unfold fP jd;refine ⟨?_,λws h=>?_⟩
 ·have:=FB (λw:List ByteArray=>decide (w.length>0)) ((dI s).map dJ);rw[Fs]at this;omega
 ·obtain ⟨h1,_⟩:=Hj.1 h;obtain ⟨l,hl,rfl⟩:=Fd.1 h1;obtain ⟨w1,w2⟩:=nM l;have:=b2 l hl;exact ⟨by omega,w1⟩
theorem tY (s:ByteArray) (hs:s.size≤500):Ct P 37 [.c (sS s)] [.c (sSl (aK s))]:=by
 obtain ⟨b1,b2⟩:=kr s;have hA:=rN s (by omega);unfold aK;generalize fP s=L at *
 have hbd:∀ i,(eP marks15 (L.take i)).length≤251000:=λi=>by
  have h1:=lq (n:=500) (L.take i) marks15 λws h=>by have:=(b2 ws (F6 h)).1; omega
  have h2:(L.take i).length≤501:=by rw[EQ]; omega
  have h3:(L.take i).length*500≤501*500:=EL _ h2;have h4:marks15.length=3:=rfl;omega
 refine Ct.go aj aa (N:=35) Tryz.func37 rfl rfl rfl rfl ?_;refine X1 _ tT ?_;refine X1 _ hA ?_;refine aw aj aa (λi:Nat=>i≤L.length) (λi=>[(4,.c (Ba L)),(3,.c (sSl (eP marks15 (L.take i)))),(5,.c (nI .i64 i))]) (λ_=>[]) (λi=>L.length-i)
  0 (by omega) ⟨rfl,rfl,rfl,HJ⟩ HJ (λ_:Unit=>True) (λ_=>[(3,.c (sSl (eP marks15 L)))]) (λ_=>[]) (λi hi=>?_) (λ_ _=>?_)
 ·refine .intro (by rw[dT]; omega) ?_;rw[dT];refine ah (λh1=>?_) (λh1=>?_)
  ·have hi':i<L.length:=by omega
   have hget:=o9 (L:=L) (i:=(i:Int)) (n:=i) rfl hi';have hs:L.take (i+1)=L.take i++[L[i]]:=EH hi';have hbi:=hbd i;have hwl:=(b2 _ (EO hi')).1;have hsn:eP marks15 (L.take (i+1))=cU (eP marks15 (L.take i)) L[i]:=by rw[hs,tX]
   generalize L[i]=ws at *
   generalize eP marks15 (L.take i)=l at *
   refine ci aj aa (λk:Nat=>k≤ws.length) (λk=>[(4,.c (Ba L)),(3,.c (sSl (cU l (ws.take k)))),(5,.c (nI .i64 i)),(6,.c (nI .i64 k))]) (λ_=>[]) (λk=>ws.length-k)
    0 (by omega) ⟨rfl,rfl,rfl,rfl,HJ⟩ HJ (λk hk=>?_)
   refine .intro (by omega) (X1 _ hget ?_);refine .intro (by rw[aM]; omega) ?_;rw[aM];refine ah (λh2=>?_) (λh2=>?_)
   ·have hk':k<ws.length:=by omega
    have hs2:ws.take (k+1)=ws.take k++[ws[k]]:=EH hk';have hsn2:cU l (ws.take (k+1))=gP (cU l (ws.take k)) ws[k]:=by rw[hs2,rO]
    have hlen2:=gG (ws.take k) l;rw[EQ]at hlen2;refine .intro (by omega) (X1 _ hget ?_);refine .intro (by omega) (X1 _ (iO (n:=k) rfl hk') ?_);refine X1 _ (yH _ _ (by omega)) ?_;refine X1 ((k+1:Nat):Int) (wI (by simp) (by omega) (by omega)) ?_;exact ⟨k+1,by omega,by omega,⟨rfl,by rw[hsn2]; rfl,rfl,rfl,HJ⟩,HJ⟩
   ·have e:k=ws.length:=by omega
    subst e;rw[E7,←hsn];refine X1 ((i+1:Nat):Int) (wI1 (by omega)) ?_;exact ⟨i+1,by omega,by omega,⟨rfl,rfl,rfl,HJ⟩,HJ⟩
  ·have e:i=L.length:=by omega
   subst e;rw[E7];exact ⟨(),HJ,⟨rfl,HJ⟩,HJ⟩
 ·exact ⟨HJ,r1 rfl,HJ⟩
def ez (ws l:List ByteArray):List Int:=([1]++l.map (gU ws))++[2]
theorem yI (ws l:List ByteArray) (hw:ws.length≤1000000) (hl:l.length≤900000):Ct P 91 [.c (sSl ws),.c (sSl l)] [.c (iSl (ez ws l))]:=by
 have e:aF (ez ws l)=([[eI .i64 1]]++aF (l.map (gU ws)))++[[eI .i64 2]]:=by simp[ez,aF]
 have hlen:(aF (l.map (gU ws))).length=l.length:=by simp[aF]
 have hids:=yC ws l hw (by omega);rw[show iSl (ez ws l) = .sl 1 (([[eI .i64 1]]++aF (l.map (gU ws)))++[[eI .i64 2]]) from congrArg _ e];generalize l.map (gU ws)=ids at *
 refine Ct.go aj aa (N:=19) Tryz.func91 rfl rfl rfl rfl ?_;refine ⟨rfl,by show (0+1+768)*8≤_; omega,by show 0+1≤_; omega,bM,ar rfl,?_⟩;refine X1 _ hids ?_;refine ⟨rfl,by rw[hlen]; show (1+l.length+768)*8≤_; omega,by rw[hlen]; show 1+l.length≤_; omega,ar rfl,aV,?_⟩;have hc:ax ([[eI .i64 1]]++aF ids):=λel h=>by
  rcases Fl.1 h with h | h
  ·simp at h; subst h; rfl
  ·exact aV el h
 have hl2:([[eI .i64 1]]++aF ids).length=l.length+1:=by rw[EC,hlen]; show 1+l.length=_; omega
 refine ⟨rfl,by show (0+([[eI .i64 1]]++aF ids).length+768)*8≤_; rw[hl2]; omega,by show 0+([[eI .i64 1]]++aF ids).length≤_; rw[hl2]; omega,bM,hc,?_⟩;refine ⟨rfl,by show (([[eI .i64 1]]++aF ids).length+1+768)*8≤_; rw[hl2]; omega,by show ([[eI .i64 1]]++aF ids).length+1≤_; rw[hl2]; omega,hc,ar rfl,?_⟩;exact ⟨HJ,r1 rfl,HJ⟩
def dE (L:List (List Int)):List (List PC):=L.map λl=>[iSl l]
abbrev mn (L:List (List Int)):PC:=.sl 1 (dE L)
theorem bm {L:List (List Int)}:(dE L).length=L.length:=by simp[dE]
theorem ei {L:List (List Int)}:ax (dE L):=by
 intro el h;obtain ⟨x,_,rfl⟩:=Fd.1 h;rfl
theorem pa (L:List (List Int)) (l:List Int):dE (L++[l])=dE L++[[iSl l]]:=by simp[dE]
theorem pc {L:List (List Int)} {i:Int} {n:Nat} (h0:i=n) (h:n<L.length):(dE L)[i.toNat]? = some [iSl L[n]]:=by
 subst h0;simp[dE,h]
def fy (ws:List ByteArray) (s:ByteArray):List (List Int):=(fP s).map (ez ws)
theorem yK (ws:List ByteArray) (s:ByteArray) (hw:ws.length≤1000000) (hs:s.size≤100000):Ct P 39 [.c (sSl ws),.c (sS s)] [.c (mn (fy ws s))]:=by
 obtain ⟨b1,b2⟩:=kr s;have hA:=rN s hs;unfold fy;generalize fP s=L at *
 refine Ct.go aj aa (N:=26) Tryz.func39 rfl rfl rfl rfl ?_;refine X1 _ hA ?_;refine ie (r:=34) (t:=5) (sz:=1) rfl rfl ?_;refine aw aj aa (λi:Nat=>i≤L.length) (λi=>[(0,.c (sSl ws)),(6,.c (Ba L)),(5,.c (.ow 34 1 i)),(7,.c (nI .i64 i))]) (λi=>[(34,.row 1 (dE ((L.take i).map (ez ws))))]) (λi=>L.length-i)
  0 (by omega) ⟨rfl,rfl,rfl,rfl,HJ⟩ ⟨rfl,HJ⟩ (λ_:Unit=>True) (λ_=>[(5,.c (.ow 34 1 L.length))]) (λ_=>[(34,.row 1 (dE (L.map (ez ws))))]) (λi hi=>?_) (λ_ _=>?_)
 ·refine .intro (by rw[dT]; omega) ?_;rw[dT];refine ah (λh1=>?_) (λh1=>?_)
  ·have hi':i<L.length:=by omega
   have hget:=o9 (L:=L) (i:=(i:Int)) (n:=i) rfl hi';have hs:(L.take (i+1)).map (ez ws)=(L.take i).map (ez ws)++[ez ws L[i]]:=by rw[EH hi',FM]; rfl
   have hwl:=(b2 _ (EO hi')).1;have hl:((L.take i).map (ez ws)).length=i:=by simp; omega
   generalize L[i]=x at *
   refine .intro (by omega) (X1 _ hget ?_);refine X1 _ (yI ws x hw (by omega)) ?_;refine ⟨by rw[bm,hl],by rw[bm,hl]; show (i+1+768)*24≤_; omega,by rw[bm,hl]; show i+1≤_; omega,ei,ar rfl,?_⟩;refine X1 ((i+1:Nat):Int) (wI1 (by omega)) ?_;exact ⟨i+1,by omega,by omega,⟨rfl,rfl,owE (by rw[EC,bm,hl]; rfl),rfl,HJ⟩,⟨aB (by rw[hs,pa]; rfl),HJ⟩⟩
  ·have e:i=L.length:=by omega
   subst e;rw[E7];exact ⟨(),HJ,⟨rfl,HJ⟩,⟨rfl,HJ⟩⟩
 ·exact ⟨HJ,r1 rfl,HJ⟩
def grS (p:List Int) (n:Nat):Nat→List (List Int)
 | 0=>[]
 | i+1=>if n+i≤p.length then grS p n i++[(p.drop i).take n] else grS p n i
theorem mD (p:List Int) (n:Nat):∀ i,(grS p n i).length≤i
 | 0=>EE _
 | i+1=>by
  have:=mD p n i;unfold grS;split
  ·simp; omega
  ·omega
def cv (p:List Int) (n:Nat):List (List Int):=grS p n p.length
theorem tZ (p:List Int) (n:Nat) (h1:1≤n) (hn:n≤1000000) (hp:p.length≤900000):Ct P 177 [.c (iSl p),.c (nI .i64 n)] [.c (mn (cv p n))]:=by
 refine Ct.go aj aa (N:=32) Tryz.func177 rfl rfl rfl rfl ?_;refine ah (λh=>?_) (λ_=>?_)
 ·exfalso; omega
 refine ie (r:=34) (t:=5) (sz:=1) rfl rfl ?_;refine aw aj aa (λi:Nat=>i≤p.length) (λi=>[(0,.c (iSl p)),(1,.c (nI .i64 n)),(5,.c (.ow 34 1 (grS p n i).length)),(6,.c (nI .i64 i))]) (λi=>[(34,.row 1 (dE (grS p n i)))]) (λi=>p.length-i)
  0 (by omega) ⟨rfl,rfl,rfl,rfl,HJ⟩ ⟨rfl,HJ⟩ (λ_:Unit=>True) (λ_=>[(5,.c (.ow 34 1 (cv p n).length))]) (λ_=>[(34,.row 1 (dE (cv p n)))]) (λi hi=>?_) (λ_ _=>?_)
 ·refine .intro (by rw[ac]; omega) ?_;rw[ac];have hgl:=mD p n i;refine ah (λh2=>?_) (λh2=>?_)
  ·refine .intro (by rw[ac]; omega) ?_;rw[ac];refine X1 ((p.length-i:Nat):Int) (wI (by omega) (by omega) (by omega)) ?_;refine ah (λh3=>?_) (λh3=>?_)
   ·have hst:grS p n (i+1)=grS p n i++[(p.drop i).take n]:=by rw[grS,if_pos (by omega)]
    refine X1 ((i+n:Nat):Int) (wI (by simp) (by omega) (by omega)) ?_;refine ⟨i,i+n,rfl,rfl,by omega,by rw[ac]; omega,?_⟩;rw[iRow_sub,show i+n-i=n by omega];refine ⟨by rw[bm],by rw[bm]; show ((grS p n i).length+1+768)*24≤_; omega,by rw[bm]; show (grS p n i).length+1≤_; omega,ei,ar rfl,?_⟩;refine X1 ((i+1:Nat):Int) (wI1 (by omega)) ?_;exact ⟨i+1,by omega,by omega,⟨rfl,rfl,owE (by rw[hst,EC,EC,bm]; rfl),rfl,HJ⟩,⟨aB (by rw[hst,pa]; rfl),HJ⟩⟩
   ·have hst:grS p n (i+1)=grS p n i:=by rw[grS,if_neg (by omega)]
    refine X1 ((i+1:Nat):Int) (wI1 (by omega)) ?_;exact ⟨i+1,by omega,by omega,⟨rfl,rfl,by rw[hst]; rfl,rfl,HJ⟩,⟨by rw[hst]; rfl,HJ⟩⟩
  ·have e:i=p.length:=by omega
   subst e;exact ⟨(),HJ,⟨rfl,HJ⟩,⟨rfl,HJ⟩⟩
 ·exact ⟨HJ,r1 rfl,HJ⟩
def pu (x:Cnt):List Cnt→Bool→List Cnt
 | [],laid=>if laid=true then [] else [x]
 | y::l,laid=>(if aH y.1 x.1>0∧laid=false then [x] else [])++(if aH y.1 x.1=0 then (y.1,y.2+x.2) else y)::pu x l (laid||decide (aH y.1 x.1>0)||decide (aH y.1 x.1=0))
def mf (l:List Cnt) (x:Cnt):List Cnt:=pu x l false
theorem eD (l:List Cnt) (x:Cnt):cj (l++[x])=cj l++[[iSl x.1,eI .i64 x.2]]:=by simp[cj]
theorem yL (l:List Cnt) (x:Cnt) (hl:CLim l) (hx:x.1.length≤1000000) (hn:∀ y,y∈l→0≤y.2∧y.2≤1000000000) (hx2:0≤x.2∧x.2≤1000000000) :
  Ct P 139 [.c (cSl l),.ag [iSl x.1,eI .i64 x.2]] [.c (cSl (mf l x))]:=by
 have hll:=hl.len;refine Ct.go aj aa (N:=57) Tryz.func139 rfl rfl rfl rfl ?_;refine ie (r:=60) (t:=5) (sz:=2) rfl rfl ?_;refine aw aj aa (G:=Nat × List Cnt × Bool) (λ(i,out,b)=>i≤l.length∧out.length≤i+(if b=true then 1 else 0)∧out++pu x (l.drop i) b=mf l x) (λ(i,out,b)=>[(0,.c (cSl l)),(3,.c (.ad 3 0)),(5,.c (.ow 60 2 out.length)),(6,.c (.sc (.bool b))),(7,.c (nI .i64 i))])
  (λ(_,out,_)=>[(3,.var [iSl x.1,eI .i64 x.2]),(60,.row 2 (cj out))]) (λ(i,_,_)=>l.length-i)
  (0,[],false) ⟨by omega,by simp,rfl⟩ ⟨rfl,rfl,rfl,rfl,rfl,HJ⟩ ⟨rfl,rfl,HJ⟩ (λ(g:List Cnt × Bool)=>g.1.length≤l.length+1∧g.1++pu x [] g.2=mf l x) (λ(out,b)=>[(3,.c (.ad 3 0)),(5,.c (.ow 60 2 out.length)),(6,.c (.sc (.bool b)))]) (λ(out,_)=>[(3,.var [iSl x.1,eI .i64 x.2]),(60,.row 2 (cj out))]) (λ(i,out,b) hi=>?_) (λ(out,b) ho=>?_)
 ·obtain ⟨i1,i2,i3⟩:=hi;have hout:out.length≤i+1:=by split at i2<;>omega
  refine .intro (by rw[cRow_len]; omega) ?_;rw[cRow_len];refine ah (λh1=>?_) (λh1=>?_)
  ·have hi':i<l.length:=by omega
   have hget:=bs (l:=l) (i:=(i:Int)) (n:=i) rfl hi';have hgl:=hl.at' hi';have hnn:=hn _ (EO hi');rw[E8 hi',pu]at i3;generalize l[i]=y at *
   refine .intro (by omega) (X1 _ hget ?_);refine X1 _ (rK y.1 x.1 hgl hx) ?_;refine .intro rfl ?_;refine ah (λh2=>?_) (λh2=>?_)
   ·have h0:¬ aH y.1 x.1=0:=by omega
    refine aP (λh3=>?_) (λh3=>?_)
    ·have hb:b=false:=by simpa using h3
     subst hb;rw[if_pos ⟨h2,rfl⟩,if_neg h0,decide_eq_true h2]at i3;have e1:(out++[x]).length=out.length+1:=by simp
     refine ⟨by rw[cRow_len],by rw[cRow_len]; show (out.length+1+768)*32≤_; omega,by rw[cRow_len]; show out.length+1≤_; omega,bu,ar rfl,?_⟩;refine .intro (by omega) (X1 _ hget ?_);refine aU (λh=>absurd h h0) (λ_=>?_);have e2:cj out++[[iSl x.1,eI .i64 x.2]]=cj (out++[x]):=(eD out x).symm;refine ⟨?_,?_,?_,?_,ar rfl,?_⟩
     ·rfl
     ·show ((cj out++[[iSl x.1,eI .i64 x.2]]).length+1+768)*32≤_
      rw[e2,cRow_len,e1]; omega
     ·show (cj out++[[iSl x.1,eI .i64 x.2]]).length+1≤_
      rw[e2,cRow_len,e1]; omega
     ·show ax (cj out++[[iSl x.1,eI .i64 x.2]])
      rw[e2]; exact bu
     ·refine X1 ((i+1:Nat):Int) (wI1 (by omega)) ?_;refine ⟨(i+1,out++[x]++[y],true),⟨by omega,by simp at i2 ⊢; omega,?_⟩,by show l.length-(i+1)<l.length-i; omega,⟨rfl,rfl,owE ?_,rfl,rfl,HJ⟩,⟨rfl,aB ?_,HJ⟩⟩
      ·rw[←i3]; simp
      ·simp[cRow_len]
      ·rw[eD,eD]; rfl
    ·have hb:b=true:=by simpa using h3
     subst hb;rw[if_neg (by simp),if_neg h0]at i3;refine .intro (by omega) (X1 _ hget ?_);refine aU (λh=>absurd h h0) (λ_=>?_);refine ⟨by rw[cRow_len],by rw[cRow_len]; show (out.length+1+768)*32≤_; omega,by rw[cRow_len]; show out.length+1≤_; omega,bu,ar rfl,?_⟩;refine X1 ((i+1:Nat):Int) (wI1 (by omega)) ?_;refine ⟨(i+1,out++[y],true),⟨by omega,by simp at i2 ⊢; omega,?_⟩,by show l.length-(i+1)<l.length-i; omega,⟨rfl,rfl,owE ?_,rfl,rfl,HJ⟩,⟨rfl,aB ?_,HJ⟩⟩
     ·rw[←i3]; simp
     ·simp[cRow_len]
     ·rw[eD]; rfl
   ·rw[if_neg (λh=>h2 h.1),decide_eq_false h2]at i3;refine .intro (by omega) (X1 _ hget ?_);refine aU (λh3=>?_) (λh3=>?_)
    ·rw[if_pos h3,decide_eq_true h3]at i3;refine X1 (y.2+x.2) (wI rfl (by omega) (by omega)) ?_;refine ⟨by rw[cRow_len],by rw[cRow_len]; show (out.length+1+768)*32≤_; omega,by rw[cRow_len]; show out.length+1≤_; omega,bu,ar rfl,?_⟩;refine X1 ((i+1:Nat):Int) (wI1 (by omega)) ?_;refine ⟨(i+1,out++[(y.1,y.2+x.2)],true),⟨by omega,by rw[EC]; show out.length+1≤i+1+1; omega,?_⟩,by show l.length-(i+1)<l.length-i; omega,⟨rfl,rfl,owE ?_,rfl,rfl,HJ⟩,⟨rfl,aB ?_,HJ⟩⟩
     ·rw[←i3]; simp
     ·simp[cRow_len]
     ·rw[eD]; rfl
    ·rw[if_neg h3,decide_eq_false h3]at i3;refine ⟨by rw[cRow_len],by rw[cRow_len]; show (out.length+1+768)*32≤_; omega,by rw[cRow_len]; show out.length+1≤_; omega,bu,ar rfl,?_⟩;refine X1 ((i+1:Nat):Int) (wI1 (by omega)) ?_;refine ⟨(i+1,out++[y],b),⟨by omega,by rw[EC]; show out.length+1≤i+1+_; omega,?_⟩,by show l.length-(i+1)<l.length-i; omega,⟨rfl,rfl,owE ?_,rfl,rfl,HJ⟩,⟨rfl,aB ?_,HJ⟩⟩
     ·rw[←i3]; simp
     ·simp[cRow_len]
     ·rw[eD]; rfl
  ·have e:i=l.length:=by omega
   subst e;rw[F9]at i3;exact ⟨(out,b),⟨hout,i3⟩,⟨rfl,rfl,rfl,HJ⟩,⟨rfl,rfl,HJ⟩⟩
 ·obtain ⟨o1,o2⟩:=ho;have o1':out.length≤l.length+1:=o1;have o2':out++pu x [] b=mf l x:=o2;rw[←o2'];refine aP (λh3=>?_) (λh3=>?_)
  ·have hb:b=false:=by simpa using h3
   subst hb;rw[show pu x [] false=[x] from rfl,show cSl (out++[x]) = .sl 2 (cj out++[[iSl x.1,eI .i64 x.2]]) from congrArg _ (eD out x)];refine ⟨by rw[cRow_len],by rw[cRow_len]; show (out.length+1+768)*32≤_; omega,by rw[cRow_len]; show out.length+1≤_; omega,bu,ar rfl,?_⟩;exact ⟨HJ,r1 rfl,HJ⟩
  ·have hb:b=true:=by simpa using h3
   subst hb;rw[show pu x [] true=[] from rfl,Gs];exact ⟨HJ,r1 rfl,HJ⟩
end
section
def aW (x:Cnt):Bool:=!(decide (x.2<1)) && !(decide (x.1=[1]))
def tys (l:List Cnt):Int:=((l.filter aW).length:Nat)
def tot (l:List Cnt):Int:=((l.filter aW).map (·.2)).sum
def num (l:List Cnt) (k:Int):Int:=((l.filter λx=>aW x&&decide (x.2=k)).length:Nat)
section
variable {l:List Cnt} {x:Cnt} {k:Int}
theorem fA (h:aW x=true):tys (l++[x])=tys l+1:=by
 unfold tys; rw[FN,EC,Fo h]; simp
theorem Ch (h:aW x=false):tys (l++[x])=tys l:=by
 unfold tys; rw[FN,EC,Fh (by simp[h])]; simp
theorem eB (h:aW x=true):tot (l++[x])=tot l+x.2:=by
 unfold tot; rw[FN,Fo h]; simp
theorem Ci (h:aW x=false):tot (l++[x])=tot l:=by
 unfold tot; rw[FN,Fh (by simp[h])]; simp
theorem DJ (h:aW x=true) (hk:x.2=k):num (l++[x]) k=num l k+1:=by
 unfold num; rw[FN,EC,Fo (by simp[h,hk])]; simp
theorem dF (h:aW x=false∨x.2≠k):num (l++[x]) k=num l k:=by
 unfold num; rw[FN,EC,Fh (by rcases h with h | h<;>simp[h])]; simp
theorem cF (l:List Cnt):0≤tot l:=by
 unfold tot
 induction l with
 | nil=>simp
 | cons x l ih=>
  by_cases h:aW x=true
  ·rw[Fo h,Fm,GQ];have:¬ x.2<1:=by unfold aW at h; intro h1; rw[decide_eq_true h1]at h; simp at h
   omega
  ·rw[Fh h]; exact ih
theorem iP (l m:List Cnt):tot (l++m)=tot l+tot m:=by
 unfold tot; rw[FN,FM,List.sum_append]
theorem nN (l:List Cnt) (i:Nat):tot (l.take i)≤tot l:=by
 have h:=iP (l.take i) (l.drop i);rw[GN]at h;have:=cF (l.drop i);omega
theorem yM (l:List Cnt):0≤tys l∧tys l≤l.length:=by
 unfold tys; have:=FB aW l; omega
theorem yN (l:List Cnt) (k:Int):0≤num l k∧num l k≤l.length:=by
 unfold num; have:=FB (λx=>aW x&&decide (x.2=k)) l; omega
end
def cen (l:List Cnt):List PC:=[eI .i64 (tys l),eI .i64 (tot l),eI .i64 (num l 1),eI .i64 (num l 2),eI .i64 (num l 3),eI .i64 (num l 4)]
theorem Cj {l:List Cnt} {x:Cnt} (h:aW x=false):cen (l++[x])=cen l:=by
 unfold cen; rw[Ch h,Ci h,dF (.inl h),dF (.inl h),dF (.inl h),dF (.inl h)]
theorem bZ {l:List Cnt} {x:Cnt} {k:Int} (h:aW x=true):num (l++[x]) k=if x.2=k then num l k+1 else num l k:=by
 by_cases hk:x.2=k
 ·rw[if_pos hk,DJ h hk]
 ·rw[if_neg hk,dF (.inr hk)]
theorem rQ (l:List Cnt) (hl:CLim l) (ht:tot l≤4611686018427387904):Ct P 94 [.c (cSl l)] [.ag (cen l)]:=by
 have hll:=hl.len;refine Ct.go aj aa (N:=48) Tryz.func94 rfl rfl rfl rfl ?_;refine aw aj aa (λi:Nat=>i≤l.length) (λi=>[(0,.c (cSl l)),(2,.c (.ad 2 0)),(3,.c (.ad 3 0)),(4,.c (nI .i64 i))])
  (λi=>[(2,.var [eI .i64 0,eI .i64 0,eI .i64 0,eI .i64 0,eI .i64 0,eI .i64 0]),(3,.var (cen (l.take i)))]) (λi=>l.length-i)
  0 (by omega) ⟨rfl,rfl,rfl,rfl,HJ⟩ ⟨rfl,rfl,HJ⟩ (λ_:Unit=>True) (λ_=>[(2,.c (.ad 2 0)),(3,.c (.ad 3 0))]) (λ_=>[(2,.var [eI .i64 0,eI .i64 0,eI .i64 0,eI .i64 0,eI .i64 0,eI .i64 0]),(3,.var (cen l))]) (λi hi=>?_) (λ_ _=>?_)
 ·refine .intro (by rw[cRow_len]; omega) ?_;rw[cRow_len];refine ah (λh5=>?_) (λh5=>?_)
  ·have hi':i<l.length:=by omega
   have hxl:=hl.at' hi';have hx:=bs (l:=l) (i:=(i:Int)) (n:=i) rfl hi';have hs:l.take (i+1)=l.take i++[l[i]]:=EH hi';have t1:=nN l (i+1);have t2:=yM (l.take i);have t3:=cF (l.take i);have t4:=yN (l.take i);rw[hs]at t1;rw[EQ]at t2;simp only[EQ]at t4;generalize l[i]=x at *
   generalize l.take i=a at *
   refine .intro (by omega) (X1 _ hx ?_);refine ah (λh6=>?_) (λh6=>?_)
   ·have hlv:aW x=false:=by unfold aW; rw[decide_eq_true h6]; rfl
    refine X1 ((i+1:Nat):Int) (wI1 (by omega)) ?_;exact ⟨i+1,by omega,by omega,⟨rfl,rfl,rfl,rfl,HJ⟩,⟨rfl,by rw[hs,Cj hlv]; rfl,HJ⟩⟩
   ·refine .intro (by omega) (X1 _ hx ?_);refine X2 .look (X1 _ (mC x.1 [1] hxl (by simp)) ?_);refine ah (λh7=>?_) (λh7=>?_)
    ·have hlv:aW x=false:=by unfold aW; rw[decide_eq_true h7]; simp
     refine X1 ((i+1:Nat):Int) (wI1 (by omega)) ?_;exact ⟨i+1,by omega,by omega,⟨rfl,rfl,rfl,rfl,HJ⟩,⟨rfl,by rw[hs,Cj hlv]; rfl,HJ⟩⟩
    ·have hlv:aW x=true:=by unfold aW; rw[decide_eq_false h6,decide_eq_false h7]; rfl
     rw[eB hlv]at t1;refine .intro (by omega) (.intro (by omega) ?_);refine X1 (tys a+1) (wI rfl (by omega) (by omega)) ?_;refine .intro (by omega) (.intro (by omega) ?_);refine .intro (by omega) (.intro (by omega) ?_);refine X1 (tot a+x.2) (wI rfl (by omega) (by omega)) ?_;refine .intro (by omega) (.intro (by omega) ?_);refine ah (λh8=>?_) (λh8=>?_)
     ·have h9:x.2=1∨x.2=2∨x.2=3∨x.2=4:=by omega
      rcases h9 with h9 | h9 | h9 | h9
      ·have q1:=t4 1;have hc:cen (a++[x])=[eI .i64 (tys a+1),eI .i64 (tot a+1),eI .i64 (num a 1+1),eI .i64 (num a 2),eI .i64 (num a 3),eI .i64 (num a 4)]:=by
        unfold cen; rw[fA hlv,eB hlv,bZ hlv,bZ hlv,bZ hlv,bZ hlv,h9]; simp
       rw[h9] at *
       refine X1 2 (wI (by omega) (by omega) (by omega)) ?_;refine X1 2 (wI (by omega) (by omega) (by omega)) ?_;refine .intro (by omega) (.intro (by omega) ?_);refine X1 (num a 1+1) (wI rfl (by omega) (by omega)) ?_;refine .intro (by omega) (.intro (by omega) ?_);refine X1 ((i+1:Nat):Int) (wI1 (by omega)) ?_;exact ⟨i+1,by omega,by omega,⟨rfl,rfl,rfl,rfl,HJ⟩,⟨rfl,by rw[hs,hc]; rfl,HJ⟩⟩
      ·have q1:=t4 2;have hc:cen (a++[x])=[eI .i64 (tys a+1),eI .i64 (tot a+2),eI .i64 (num a 1),eI .i64 (num a 2+1),eI .i64 (num a 3),eI .i64 (num a 4)]:=by
        unfold cen; rw[fA hlv,eB hlv,bZ hlv,bZ hlv,bZ hlv,bZ hlv,h9]; simp
       rw[h9] at *
       refine X1 3 (wI (by omega) (by omega) (by omega)) ?_;refine X1 3 (wI (by omega) (by omega) (by omega)) ?_;refine .intro (by omega) (.intro (by omega) ?_);refine X1 (num a 2+1) (wI rfl (by omega) (by omega)) ?_;refine .intro (by omega) (.intro (by omega) ?_);refine X1 ((i+1:Nat):Int) (wI1 (by omega)) ?_;exact ⟨i+1,by omega,by omega,⟨rfl,rfl,rfl,rfl,HJ⟩,⟨rfl,by rw[hs,hc]; rfl,HJ⟩⟩
      ·have q1:=t4 3;have hc:cen (a++[x])=[eI .i64 (tys a+1),eI .i64 (tot a+3),eI .i64 (num a 1),eI .i64 (num a 2),eI .i64 (num a 3+1),eI .i64 (num a 4)]:=by
        unfold cen; rw[fA hlv,eB hlv,bZ hlv,bZ hlv,bZ hlv,bZ hlv,h9]; simp
       rw[h9] at *
       refine X1 4 (wI (by omega) (by omega) (by omega)) ?_;refine X1 4 (wI (by omega) (by omega) (by omega)) ?_;refine .intro (by omega) (.intro (by omega) ?_);refine X1 (num a 3+1) (wI rfl (by omega) (by omega)) ?_;refine .intro (by omega) (.intro (by omega) ?_);refine X1 ((i+1:Nat):Int) (wI1 (by omega)) ?_;exact ⟨i+1,by omega,by omega,⟨rfl,rfl,rfl,rfl,HJ⟩,⟨rfl,by rw[hs,hc]; rfl,HJ⟩⟩
      ·have q1:=t4 4;have hc:cen (a++[x])=[eI .i64 (tys a+1),eI .i64 (tot a+4),eI .i64 (num a 1),eI .i64 (num a 2),eI .i64 (num a 3),eI .i64 (num a 4+1)]:=by
        unfold cen; rw[fA hlv,eB hlv,bZ hlv,bZ hlv,bZ hlv,bZ hlv,h9]; simp
       rw[h9] at *
       refine X1 5 (wI (by omega) (by omega) (by omega)) ?_;refine X1 5 (wI (by omega) (by omega) (by omega)) ?_;refine .intro (by omega) (.intro (by omega) ?_);refine X1 (num a 4+1) (wI rfl (by omega) (by omega)) ?_;refine .intro (by omega) (.intro (by omega) ?_);refine X1 ((i+1:Nat):Int) (wI1 (by omega)) ?_;exact ⟨i+1,by omega,by omega,⟨rfl,rfl,rfl,rfl,HJ⟩,⟨rfl,by rw[hs,hc]; rfl,HJ⟩⟩
     ·have hc:cen (a++[x])=[eI .i64 (tys a+1),eI .i64 (tot a+x.2),eI .i64 (num a 1),eI .i64 (num a 2),eI .i64 (num a 3),eI .i64 (num a 4)]:=by
       unfold cen; rw[fA hlv,eB hlv,dF (.inr (by omega)),dF (.inr (by omega)),dF (.inr (by omega)),dF (.inr (by omega))]
      refine X1 ((i+1:Nat):Int) (wI1 (by omega)) ?_;exact ⟨i+1,by omega,by omega,⟨rfl,rfl,rfl,rfl,HJ⟩,⟨rfl,by rw[hs,hc]; rfl,HJ⟩⟩
  ·have e:i=l.length:=by omega
   subst e;rw[E7];exact ⟨(),HJ,⟨rfl,rfl,HJ⟩,⟨rfl,rfl,HJ⟩⟩
 ·exact ⟨HJ,rc rfl,HJ⟩
theorem de (p:Cnt→Bool) (l:List Cnt):tot (l.filter p)≤tot l:=by
 induction l with
 | nil=>simp
 | cons x l ih=>
  have h1:tot (x::l)=tot [x]+tot l:=iP [x] l;have h2:=cF [x];by_cases h:p x=true
  ·have h3:tot (x::l.filter p)=tot [x]+tot (l.filter p):=iP [x] _;rw[Fo h];omega
  ·rw[Fh h];omega
def cG (h:List Int) (x:Cnt):Bool:=decide (x.1.length=h.length+1)&&decide (x.1.take h.length=h)
def after (l:List Cnt) (h:List Int):List Cnt:=l.filter (cG h)
theorem CLim.filter {l:List Cnt} (h:CLim l) (p:Cnt→Bool):CLim (l.filter p):=
 ⟨EG (FB _ _) h.len,λx hx=>h.g x (Hj.1 hx).1⟩
theorem pd (l:List Cnt) (h:List Int) (hl:CLim l) (hh:h.length≤1000000) (ht:tot l≤4611686018427387904):Ct P 117 [.c (cSl l),.c (iSl h)] [.ag (cen (after l h))]:=by
 have hll:=hl.len;refine Ct.go aj aa (N:=42) Tryz.func117 rfl rfl rfl rfl ?_;refine ie (r:=50) (t:=5) (sz:=2) rfl rfl ?_;refine uM aj aa (λi:Nat=>i≤l.length) (λi=>[(0,.c (cSl l)),(1,.c (iSl h)),(4,.c (.ad 4 0)),(5,.c (.ow 50 2 (after (l.take i) h).length)),(6,.c (nI .i64 i))])
  (λi=>[(4,.var [eI .i64 0,eI .i64 0,eI .i64 0,eI .i64 0,eI .i64 0,eI .i64 0]),(50,.row 2 (cj (after (l.take i) h)))]) (λi=>l.length-i)
  0 (by omega) ⟨rfl,rfl,rfl,rfl,rfl,HJ⟩ ⟨rfl,rfl,HJ⟩ (λ_:Unit=>True) (λ_=>[(4,.c (.ad 4 0)),(5,.c (.ow 50 2 (after l h).length))]) (λ_=>[(4,.var [eI .i64 0,eI .i64 0,eI .i64 0,eI .i64 0,eI .i64 0,eI .i64 0]),(50,.row 2 (cj (after l h)))]) (λi hi=>?_) (λ_ _=>?_)
 ·refine .intro (by rw[cRow_len]; omega) ?_;rw[cRow_len];refine ah (λh5=>?_) (λh5=>?_)
  ·have hi':i<l.length:=by omega
   have hxl:=hl.at' hi';have hx:=bs (l:=l) (i:=(i:Int)) (n:=i) rfl hi';have hs:after (l.take (i+1)) h=after (l.take i) h++(if cG h l[i]=true then [l[i]] else []):=by
    unfold after;rw[EH hi',FN];by_cases hp:cG h l[i]=true
    ·rw[if_pos hp,Fo hp]; rfl
    ·rw[if_neg hp,Fh hp]; rfl
   have ha:(after (l.take i) h).length≤i:=by
    refine EG (FB _ _) ?_;rw[EQ]; omega
   generalize l[i]=x at *
   refine .intro (by omega) (X1 _ hx ?_);refine .intro (by rw[ac]; omega) ?_;refine .intro (by rw[ac]; omega) ?_;rw[ac,ac];refine X1 ((h.length+1:Nat):Int) (wI (by simp) (by omega) (by omega)) ?_;have skip:cG h x=false→after (l.take (i+1)) h=after (l.take i) h:=λhp=>by rw[hs,if_neg (by rw[hp]; simp),Gs]
   refine aU (λh6=>?_) (λh6=>?_)
   ·have h6':x.1.length=h.length+1:=by omega
    refine .intro (by rw[ac]; omega) ?_;rw[ac];refine ⟨0,h.length,by simp,by simp,by omega,by rw[ac]; omega,?_⟩;rw[iRow_sub,F3,Gv];refine X1 _ (mC _ h (by rw[EQ]; omega) hh) ?_;refine ah (λh7=>?_) (λh7=>?_)
    ·have h7':x.1.take h.length=h:=h7;have hp:cG h x=true:=by unfold cG; rw[decide_eq_true h6',decide_eq_true h7']; rfl
     rw[if_pos hp]at hs;refine .intro (by omega) (X1 _ hx ?_);refine ⟨cRow_len.symm,by rw[cRow_len]; show ((after (l.take i) h).length+1+768)*32≤_; omega,by rw[cRow_len]; show (after (l.take i) h).length+1≤_; omega,bu,ar rfl,?_⟩;refine X1 ((i+1:Nat):Int) (wI1 (by omega)) ?_;exact ⟨i+1,by omega,by omega,⟨rfl,rfl,rfl,owE (by rw[hs,EC,EC,cRow_len]; rfl),rfl,HJ⟩,⟨rfl,aB (by rw[hs,←eO]; rfl),HJ⟩⟩
    ·have h7':¬ x.1.take h.length=h:=h7;have hp:cG h x=false:=by unfold cG; rw[decide_eq_false h7',Hn]
     refine X1 ((i+1:Nat):Int) (wI1 (by omega)) ?_;exact ⟨i+1,by omega,by omega,⟨rfl,rfl,rfl,owE (by rw[skip hp]),rfl,HJ⟩,⟨rfl,aB (by rw[skip hp]),HJ⟩⟩
   ·have hp:cG h x=false:=by unfold cG; rw[decide_eq_false (λh=>h6 (by omega)),HA]
    refine X1 ((i+1:Nat):Int) (wI1 (by omega)) ?_;exact ⟨i+1,by omega,by omega,⟨rfl,rfl,rfl,owE (by rw[skip hp]),rfl,HJ⟩,⟨rfl,aB (by rw[skip hp]),HJ⟩⟩
  ·have e:i=l.length:=by omega
   subst e;refine ⟨(),HJ,⟨rfl,owE (by rw[E7]),HJ⟩,⟨rfl,aB (by rw[E7]),HJ⟩⟩
 ·refine Au aj aa [50] ?_;refine X1 _ (rQ (after l h) (hl.filter _) (Hl (de _ l) ht)) ?_;exact ⟨HJ,rc rfl,HJ⟩
end
section
def dx (l:List Cnt):List PC:=[eI .i64 (tys l),eI .i64 (tot l),eI .i64 0,eI .i64 (num l 1),eI .i64 (num l 2),eI .i64 (num l 3),eI .i64 (num l 4)]
theorem yO {l:List Cnt} {x:Cnt} (h:aW x=false):dx (l++[x])=dx l:=by
 unfold dx; rw[Ch h,Ci h,dF (.inl h),dF (.inl h),dF (.inl h),dF (.inl h)]
theorem rS (a:List Cnt) (x:Cnt) (ha:a.length≤1000000) (hx:x.1.length≤1000000) (ht:tot (a++[x])≤4611686018427387904) :
  CtO P 134 [(1000000,some (.var (dx a)))] [.c (.ad 1000000 0),.ag [iSl x.1,eI .i64 x.2]] [(1000000,some (.var (dx (a++[x]))))] []:=by
 have t2:=yM a;have t3:=cF a;have t4:=yN a;refine Ct.io aj aa (N:=50) Tryz.func134 rfl rfl rfl rfl ?_;refine ah (λh1=>?_) (λh1=>?_)
 ·have hlv:aW x=false:=by unfold aW; rw[decide_eq_true h1]; rfl
  rw[yO hlv];exact ⟨HJ,SubO.of (l:=[(1000000,.var _)]) ⟨rfl,HJ⟩,HJ⟩
 ·refine .intro (by rw[ac]; omega) ?_;rw[ac];refine aU (λh2=>?_) (λh2=>?_)
  ·refine .intro (by omega) (X1 _ (bl (n:=0) rfl (by omega)) ?_);refine aU (λh3=>?_) (λh3=>?_)
   ·have hx1:x.1=[1]:=by
     obtain ⟨g,n⟩:=x
     match g,h2,h3 with
     | [v],_,h3=>simp at h3; simp[h3]
    have hlv:aW x=false:=by unfold aW; rw[decide_eq_true hx1,Bool.not_true,Hn]
    rw[yO hlv];exact ⟨HJ,SubO.of (l:=[(1000000,.var _)]) ⟨rfl,HJ⟩,HJ⟩
   ·have hlv:aW x=true:=by
     have:¬ x.1=[1]:=λh=>h3 (by rw[h]; rfl)
     unfold aW; rw[decide_eq_false h1,decide_eq_false this]; rfl
    rw[eB hlv]at ht;refine X1 (tys a+1) (wI rfl (by omega) (by omega)) ?_;refine X1 (tot a+x.2) (wI rfl (by omega) (by omega)) ?_;refine .intro rfl ?_;refine ah (λh8=>?_) (λh8=>?_)
    ·have h9:x.2=1∨x.2=2∨x.2=3∨x.2=4:=by omega
     rcases h9 with h9 | h9 | h9 | h9
     ·have q1:=t4 1;have hc:dx (a++[x])=[eI .i64 (tys a+1),eI .i64 (tot a+1),eI .i64 0,eI .i64 (num a 1+1),eI .i64 (num a 2),eI .i64 (num a 3),eI .i64 (num a 4)]:=by
       unfold dx; rw[fA hlv,eB hlv,bZ hlv,bZ hlv,bZ hlv,bZ hlv,h9]; simp
      rw[hc];rw[h9] at *
      refine .intro (by omega) (.intro (by omega) ?_);refine X1 (num a 1+1) (wI rfl (by omega) (by omega)) ?_;refine .intro (by omega) (.intro (by omega) ?_);refine .intro rfl ?_;exact ⟨HJ,SubO.of (l:=[(1000000,.var _)]) ⟨rfl,HJ⟩,HJ⟩
     ·have q1:=t4 2;have hc:dx (a++[x])=[eI .i64 (tys a+1),eI .i64 (tot a+2),eI .i64 0,eI .i64 (num a 1),eI .i64 (num a 2+1),eI .i64 (num a 3),eI .i64 (num a 4)]:=by
       unfold dx; rw[fA hlv,eB hlv,bZ hlv,bZ hlv,bZ hlv,bZ hlv,h9]; simp
      rw[hc];rw[h9] at *
      refine .intro (by omega) (.intro (by omega) ?_);refine X1 (num a 2+1) (wI rfl (by omega) (by omega)) ?_;refine .intro (by omega) (.intro (by omega) ?_);refine .intro rfl ?_;exact ⟨HJ,SubO.of (l:=[(1000000,.var _)]) ⟨rfl,HJ⟩,HJ⟩
     ·have q1:=t4 3;have hc:dx (a++[x])=[eI .i64 (tys a+1),eI .i64 (tot a+3),eI .i64 0,eI .i64 (num a 1),eI .i64 (num a 2),eI .i64 (num a 3+1),eI .i64 (num a 4)]:=by
       unfold dx; rw[fA hlv,eB hlv,bZ hlv,bZ hlv,bZ hlv,bZ hlv,h9]; simp
      rw[hc];rw[h9] at *
      refine .intro (by omega) (.intro (by omega) ?_);refine X1 (num a 3+1) (wI rfl (by omega) (by omega)) ?_;refine .intro (by omega) (.intro (by omega) ?_);refine .intro rfl ?_;exact ⟨HJ,SubO.of (l:=[(1000000,.var _)]) ⟨rfl,HJ⟩,HJ⟩
     ·have q1:=t4 4;have hc:dx (a++[x])=[eI .i64 (tys a+1),eI .i64 (tot a+4),eI .i64 0,eI .i64 (num a 1),eI .i64 (num a 2),eI .i64 (num a 3),eI .i64 (num a 4+1)]:=by
       unfold dx; rw[fA hlv,eB hlv,bZ hlv,bZ hlv,bZ hlv,bZ hlv,h9]; simp
      rw[hc];rw[h9] at *
      refine .intro (by omega) (.intro (by omega) ?_);refine X1 (num a 4+1) (wI rfl (by omega) (by omega)) ?_;refine .intro (by omega) (.intro (by omega) ?_);refine .intro rfl ?_;exact ⟨HJ,SubO.of (l:=[(1000000,.var _)]) ⟨rfl,HJ⟩,HJ⟩
    ·have hc:dx (a++[x])=[eI .i64 (tys a+1),eI .i64 (tot a+x.2),eI .i64 0,eI .i64 (num a 1),eI .i64 (num a 2),eI .i64 (num a 3),eI .i64 (num a 4)]:=by
      unfold dx; rw[fA hlv,eB hlv,dF (.inr (by omega)),dF (.inr (by omega)),dF (.inr (by omega)),dF (.inr (by omega))]
     rw[hc];exact ⟨HJ,SubO.of (l:=[(1000000,.var _)]) ⟨rfl,HJ⟩,HJ⟩
  ·have hlv:aW x=true:=by
    have:¬ x.1=[1]:=λh=>h2 (by rw[h]; rfl)
    unfold aW; rw[decide_eq_false h1,decide_eq_false this]; rfl
   rw[eB hlv]at ht;refine X1 (tys a+1) (wI rfl (by omega) (by omega)) ?_;refine X1 (tot a+x.2) (wI rfl (by omega) (by omega)) ?_;refine .intro rfl ?_;refine ah (λh8=>?_) (λh8=>?_)
   ·have h9:x.2=1∨x.2=2∨x.2=3∨x.2=4:=by omega
    rcases h9 with h9 | h9 | h9 | h9
    ·have q1:=t4 1;have hc:dx (a++[x])=[eI .i64 (tys a+1),eI .i64 (tot a+1),eI .i64 0,eI .i64 (num a 1+1),eI .i64 (num a 2),eI .i64 (num a 3),eI .i64 (num a 4)]:=by
      unfold dx; rw[fA hlv,eB hlv,bZ hlv,bZ hlv,bZ hlv,bZ hlv,h9]; simp
     rw[hc];rw[h9] at *
     refine .intro (by omega) (.intro (by omega) ?_);refine X1 (num a 1+1) (wI rfl (by omega) (by omega)) ?_;refine .intro (by omega) (.intro (by omega) ?_);refine .intro rfl ?_;exact ⟨HJ,SubO.of (l:=[(1000000,.var _)]) ⟨rfl,HJ⟩,HJ⟩
    ·have q1:=t4 2;have hc:dx (a++[x])=[eI .i64 (tys a+1),eI .i64 (tot a+2),eI .i64 0,eI .i64 (num a 1),eI .i64 (num a 2+1),eI .i64 (num a 3),eI .i64 (num a 4)]:=by
      unfold dx; rw[fA hlv,eB hlv,bZ hlv,bZ hlv,bZ hlv,bZ hlv,h9]; simp
     rw[hc];rw[h9] at *
     refine .intro (by omega) (.intro (by omega) ?_);refine X1 (num a 2+1) (wI rfl (by omega) (by omega)) ?_;refine .intro (by omega) (.intro (by omega) ?_);refine .intro rfl ?_;exact ⟨HJ,SubO.of (l:=[(1000000,.var _)]) ⟨rfl,HJ⟩,HJ⟩
    ·have q1:=t4 3;have hc:dx (a++[x])=[eI .i64 (tys a+1),eI .i64 (tot a+3),eI .i64 0,eI .i64 (num a 1),eI .i64 (num a 2),eI .i64 (num a 3+1),eI .i64 (num a 4)]:=by
      unfold dx; rw[fA hlv,eB hlv,bZ hlv,bZ hlv,bZ hlv,bZ hlv,h9]; simp
     rw[hc];rw[h9] at *
     refine .intro (by omega) (.intro (by omega) ?_);refine X1 (num a 3+1) (wI rfl (by omega) (by omega)) ?_;refine .intro (by omega) (.intro (by omega) ?_);refine .intro rfl ?_;exact ⟨HJ,SubO.of (l:=[(1000000,.var _)]) ⟨rfl,HJ⟩,HJ⟩
    ·have q1:=t4 4;have hc:dx (a++[x])=[eI .i64 (tys a+1),eI .i64 (tot a+4),eI .i64 0,eI .i64 (num a 1),eI .i64 (num a 2),eI .i64 (num a 3),eI .i64 (num a 4+1)]:=by
      unfold dx; rw[fA hlv,eB hlv,bZ hlv,bZ hlv,bZ hlv,bZ hlv,h9]; simp
     rw[hc];rw[h9] at *
     refine .intro (by omega) (.intro (by omega) ?_);refine X1 (num a 4+1) (wI rfl (by omega) (by omega)) ?_;refine .intro (by omega) (.intro (by omega) ?_);refine .intro rfl ?_;exact ⟨HJ,SubO.of (l:=[(1000000,.var _)]) ⟨rfl,HJ⟩,HJ⟩
   ·have hc:dx (a++[x])=[eI .i64 (tys a+1),eI .i64 (tot a+x.2),eI .i64 0,eI .i64 (num a 1),eI .i64 (num a 2),eI .i64 (num a 3),eI .i64 (num a 4)]:=by
     unfold dx; rw[fA hlv,eB hlv,dF (.inr (by omega)),dF (.inr (by omega)),dF (.inr (by omega)),dF (.inr (by omega))]
    rw[hc];exact ⟨HJ,SubO.of (l:=[(1000000,.var _)]) ⟨rfl,HJ⟩,HJ⟩
theorem Bb (l:List Cnt) (hl:CLim l) (ht:tot l≤4611686018427387904):Ct P 86 [.c (cSl l)] [.ag (dx l)]:=by
 have hll:=hl.len;refine Ct.go aj aa (N:=16) Tryz.func86 rfl rfl rfl rfl ?_;refine .intro (by rw[cRow_len]; omega) ?_;rw[cRow_len];refine aw aj aa (λi:Nat=>i≤l.length) (λi=>[(2,.c (.ad 2 0)),(3,.c (.ad 3 0)),(6,.c (cSl l)),(7,.c (nI .i64 l.length)),(8,.c (nI .i64 i))])
  (λi=>[(2,.var [eI .i64 0,eI .i64 0,eI .i64 0,eI .i64 0,eI .i64 0,eI .i64 0,eI .i64 0]),(3,.var (dx (l.take i)))]) (λi=>l.length-i)
  0 (by omega) ⟨rfl,rfl,rfl,rfl,rfl,HJ⟩ ⟨rfl,rfl,HJ⟩ (λ_:Unit=>True) (λ_=>[(2,.c (.ad 2 0)),(3,.c (.ad 3 0))])
  (λ_=>[(2,.var [eI .i64 0,eI .i64 0,eI .i64 0,eI .i64 0,eI .i64 0,eI .i64 0,eI .i64 0]),(3,.var (dx l))]) (λi hi=>?_) (λ_ _=>?_)
 ·refine ah (λh5=>?_) (λh5=>?_)
  ·have hi':i<l.length:=by omega
   have hxl:=hl.at' hi';have hx:=bs (l:=l) (i:=(i:Int)) (n:=i) rfl hi';have hs:l.take (i+1)=l.take i++[l[i]]:=EH hi';have t1:=nN l (i+1);have hal:(l.take i).length≤1000000:=by rw[EQ]; omega
   rw[hs]at t1;generalize l[i]=x at *
   generalize l.take i=a at *
   refine .intro (by omega) (X1 _ hx ?_);refine X2 (.upd 3) ?_;refine ⟨_,_,rS a x hal hxl (by omega),?_⟩;refine X1 ((i+1:Nat):Int) (wI1 (by omega)) ?_;exact ⟨i+1,by omega,by omega,⟨rfl,rfl,rfl,rfl,rfl,HJ⟩,⟨rfl,by rw[hs]; rfl,HJ⟩⟩
  ·have e:i=l.length:=by omega
   subst e;rw[E7];exact ⟨(),HJ,⟨rfl,rfl,HJ⟩,⟨rfl,rfl,HJ⟩⟩
 ·exact ⟨HJ,rc rfl,HJ⟩
end
end Go.Proofs.YtgceikecdedfcaaGreat.Pv
