/- Parts of a proof, joined: Cp Fl Fm Fn Fo Fp Fq Cq Ct. -/
import Derived.Test.YtgceikecdedfcaaGreatLeG
namespace Go.Proofs.YtgceikecdedfcaaGreat.Pv
open Go
section
theorem iRow_sub {l:List Int} {a b:Nat}:((aC l).drop a).take b=aC ((l.drop a).take b):=by simp[aC,List.map_take,List.map_drop]
def ahead (l:List Cnt) (g:List Int):Nat:=(l.filter λx=>decide (x.1.length=g.length+1)&&decide (x.1.drop 1=g)).length
theorem yQ (l:List Cnt) (g:List Int) (hl:CLim l) (hg:g.length≤1000000):Ct P 141 [.c (cSl l),.c (iSl g)] [.c (nI .i64 (ahead l g))]:=by
 have hll:=hl.len;refine Ct.go aj aa (N:=36) Tryz.func141 rfl rfl rfl rfl ?_;refine aw aj aa (λi:Nat=>i≤l.length) (λi=>[(0,.c (cSl l)),(1,.c (iSl g)),(5,.c (nI .i64 (ahead (l.take i) g))),(6,.c (nI .i64 i))]) (λ_=>[]) (λi=>l.length-i)
  0 (by omega) ⟨rfl,rfl,rfl,rfl,HT⟩ HT (λ_:Unit=>True) (λ_=>[(5,.c (nI .i64 (ahead l g)))]) (λ_=>[]) (λi hi=>?_) (λ_ _=>?_)
 ·refine .intro (by rw[cRow_len]; omega) ?_;rw[cRow_len];refine ah (λh5=>?_) (λh5=>?_)
  ·have hi':i<l.length:=by omega
   have hxl:=hl.at' hi';have hx:=bs (l:=l) (i:=(i:Int)) (n:=i) rfl hi';have hs:ahead (l.take (i+1)) g=ahead (l.take i) g+(if l[i].1.length=g.length+1∧l[i].1.drop 1=g then 1 else 0):=by
    unfold ahead;rw[ER hi',F1,EL];congr 1;by_cases h1:l[i].1.length=g.length+1
    ·by_cases h2:l[i].1.drop 1=g
     ·rw[Fy (by rw[decide_eq_true h1,decide_eq_true h2]; rfl),if_pos ⟨h1,h2⟩]; rfl
     ·rw[Ft (by rw[decide_eq_true h1,decide_eq_false h2]; simp),if_neg (λh=>h2 h.2)]; rfl
    ·rw[Ft (by rw[decide_eq_false h1]; simp),if_neg (λh=>h1 h.1)]; rfl
   have ha:ahead (l.take i) g≤i:=by
    unfold ahead;refine EQ (FK _ _) ?_;rw[E3]; omega
   generalize l[i]=x at *
   refine .intro (by omega) (X1 _ hx ?_);refine .intro (by rw[ac]; omega) ?_;refine .intro (by rw[ac]; omega) ?_;rw[ac,ac];refine X1 ((g.length+1:Nat):Int) (wI (by simp) (by omega) (by omega)) ?_;refine aT (λh6=>?_) (λh6=>?_)
   ·have h6':x.1.length=g.length+1:=by omega
    refine .intro (by omega) (X1 _ hx ?_);refine ⟨1,x.1.length,by simp,by simp[ac],by omega,by rw[ac]; omega,?_⟩;rw[iRow_sub,Fs (show (x.1.drop 1).length≤x.1.length-1 by rw[Fv]; exact EM _)];refine X1 _ (mQ _ g (by rw[Fv]; omega) hg) ?_;refine ah (λh7=>?_) (λh7=>?_)
    ·rw[if_pos ⟨h6',h7⟩]at hs;refine X1 ((ahead (l.take i) g+1:Nat):Int) (wI (by simp) (by omega) (by omega)) ?_;refine X1 ((i+1:Nat):Int) (wI1 (by omega)) ?_;exact ⟨i+1,by omega,by omega,⟨rfl,rfl,by rw[hs]; rfl,rfl,HT⟩,HT⟩
    ·rw[if_neg (λh=>h7 h.2)]at hs;refine X1 ((i+1:Nat):Int) (wI1 (by omega)) ?_;exact ⟨i+1,by omega,by omega,⟨rfl,rfl,by rw[hs]; rfl,rfl,HT⟩,HT⟩
   ·rw[if_neg (λh=>h6 (by omega))]at hs;refine X1 ((i+1:Nat):Int) (wI1 (by omega)) ?_;exact ⟨i+1,by omega,by omega,⟨rfl,rfl,by rw[hs]; rfl,rfl,HT⟩,HT⟩
  ·have e:i=l.length:=by omega
   subst e;rw[Fp];exact ⟨(),HT,⟨rfl,HT⟩,HT⟩
 ·exact ⟨HT,r1 rfl,HT⟩
def cL (L:List (List Cnt)) (n:Nat) (x:Cnt):Cnt:=if n+1<L.length∧x.1.getD 0 0≠1 then (x.1,(ahead (L.getD (n+1) []) x.1:Int)) else x
def ao (L:List (List Cnt)):List (List Cnt):=(List.range L.length).map λn=>(L.getD n []).map (cL L n)
structure CCForm (L:List (List Cnt)):Prop where
 lim:CCLim L
 form:∀ (n:Nat) (h:n<L.length) (i:Nat) (hi:i<L[n].length),L[n][i].1.length=n+1
theorem bu {l:List Cnt}:ax (cr l):=by
 intro el h;obtain ⟨x,_,rfl⟩:=Fn.1 h;rfl
theorem kA {l:List (List Cnt)}:ax (a8 l):=by
 intro el h;obtain ⟨x,_,rfl⟩:=Fn.1 h;rfl
theorem eQ {l m:List Cnt}:cr l++cr m=cr (l++m):=by simp[cr]
theorem wk {l m:List (List Cnt)}:a8 l++a8 m=a8 (l++m):=by simp[a8]
theorem aq {el:List PC} (h:closedL el=true):ax [el]:=by
 intro e he;simp only[FA]at he;subst he; exact h
theorem ua (L:List (List Cnt)) (hL:CCForm L) (hl8:L.length≤1000):Ct P 92 [.c (cK L)] [.c (cK (ao L))]:=by
 refine Ct.go aj aa (N:=60) Tryz.func92 rfl rfl rfl rfl ?_;refine ii (r:=50) (t:=3) (sz:=1) rfl rfl ?_;refine aw aj aa (λn:Nat=>n≤L.length) (λn=>[(0,.c (cK L)),(3,.c (.ow 50 1 n)),(4,.c (nI .i64 n))]) (λn=>[(50,.row 1 (a8 ((List.range n).map λn=>(L.getD n []).map (cL L n))))]) (λn=>L.length-n)
  0 (by omega) ⟨rfl,rfl,rfl,HT⟩ ⟨rfl,HT⟩ (λ_:Unit=>True) (λ_=>[(3,.c (.ow 50 1 L.length))]) (λ_=>[(50,.row 1 (a8 (ao L)))]) (λn hi=>?_) (λ_ he=>?_)
 ·refine .intro (by rw[ar]; omega) ?_;rw[ar];refine ah (λh4=>?_) (λh4=>?_)
  ·have hn:n<L.length:=by omega
   have hl:=hL.lim.at' hn;have hlen:=hl.len;have hget:=bJ (l:=L) (i:=(n:Int)) (n:=n) rfl hn;have hform:=hL.form n hn;have hgd:L.getD n []=L[n]:=by simp[EK,hn]
   refine ii (r:=51) (t:=5) (sz:=2) rfl rfl ?_;refine uX aj aa (λi:Nat=>i≤L[n].length) (λi=>[(0,.c (cK L)),(3,.c (.ow 50 1 n)),(4,.c (nI .i64 n)),(5,.c (.ow 51 2 i)),(6,.c (nI .i64 i))])
    (λi=>[(50,.row 1 (a8 ((List.range n).map λn=>(L.getD n []).map (cL L n)))),(51,.row 2 (cr ((L[n].take i).map (cL L n))))]) (λi=>L[n].length-i)
    0 (by omega) ⟨rfl,rfl,rfl,rfl,rfl,HT⟩ ⟨rfl,rfl,HT⟩ (λ_:Unit=>True) (λ_=>[(0,.c (cK L)),(3,.c (.ow 50 1 n)),(4,.c (nI .i64 n)),(5,.c (.ow 51 2 L[n].length))])
    (λ_=>[(50,.row 1 (a8 ((List.range n).map λn=>(L.getD n []).map (cL L n)))),(51,.row 2 (cr (L[n].map (cL L n))))]) (λi hi=>?_) (λ_ _=>?_)
   ·refine .intro (by omega) (X1 _ hget ?_);refine .intro (by rw[cRow_len]; omega) ?_;rw[cRow_len];refine ah (λh5=>?_) (λh5=>?_)
    ·have hi':i<L[n].length:=by omega
     have hxl:=hl.at' hi';have hxf:=hform i hi';have hx:=bs (l:=L[n]) (i:=(i:Int)) (n:=i) rfl hi';have e0:(cr ((L[n].take i).map (cL L n))).length=i:=by rw[cRow_len,FD,E3]; omega
     have e1:(L[n].take (i+1)).map (cL L n)=(L[n].take i).map (cL L n)++[cL L n L[n][i]]:=by
      rw[ER hi',FW]; rfl
     generalize L[n][i]=x at *
     refine .intro (by omega) (X1 _ hget ?_);refine .intro (by omega) (X1 _ hx ?_);refine .intro (by rw[ar]; omega) ?_;rw[ar];refine X1 ((L.length:Int)-1) (wI rfl (by omega) (by omega)) ?_;refine ah (λh6=>?_) (λh6=>?_)
     ·refine .intro (by omega) (X1 _ (bm (n:=0) rfl (by omega)) ?_);refine dE (λh7=>?_) (λh7=>?_)
      ·have hc:cL L n x=(x.1,(ahead L[n+1] x.1:Int)):=by
        have:L.getD (n+1) []=L[n+1]:=by simp[EK,(by omega:n+1<L.length)]
        rw[cL,if_pos ⟨by omega,h7⟩,this]
       rw[hc]at e1;refine X1 ((n+1:Nat):Int) (wI (by simp) (by omega) (by omega)) ?_;refine .intro (by omega) (X1 _ (bJ rfl (by omega)) ?_);refine X1 _ (yQ L[n+1] x.1 (hL.lim.at' (by omega)) hxl) ?_;refine .intro rfl ?_;refine ⟨e0.symm,by rw[e0]; show (i+1+768)*32≤_; omega,by rw[e0]; show i+1≤_; omega,bu,aq rfl,?_⟩;refine X1 ((i+1:Nat):Int) (wI1 (by omega)) ?_;exact ⟨i+1,by omega,by omega,⟨rfl,rfl,rfl,owE (by rw[EL,e0]; rfl),rfl,HT⟩,⟨rfl,aB (by rw[e1,←eQ]; rfl),HT⟩⟩
      ·have hc:cL L n x=x:=by rw[cL,if_neg (λh=>h.2 h7)]
       rw[hc]at e1;refine ⟨e0.symm,by rw[e0]; show (i+1+768)*32≤_; omega,by rw[e0]; show i+1≤_; omega,bu,aq rfl,?_⟩;refine X1 ((i+1:Nat):Int) (wI1 (by omega)) ?_;exact ⟨i+1,by omega,by omega,⟨rfl,rfl,rfl,owE (by rw[EL,e0]; rfl),rfl,HT⟩,⟨rfl,aB (by rw[e1,←eQ]; rfl),HT⟩⟩
     ·have hc:cL L n x=x:=by rw[cL,if_neg (λh=>h6 (by omega))]
      rw[hc]at e1;refine ⟨e0.symm,by rw[e0]; show (i+1+768)*32≤_; omega,by rw[e0]; show i+1≤_; omega,bu,aq rfl,?_⟩;refine X1 ((i+1:Nat):Int) (wI1 (by omega)) ?_;exact ⟨i+1,by omega,by omega,⟨rfl,rfl,rfl,owE (by rw[EL,e0]; rfl),rfl,HT⟩,⟨rfl,aB (by rw[e1,←eQ]; rfl),HT⟩⟩
    ·have e:i=L[n].length:=by omega
     subst e;exact ⟨(),HT,⟨rfl,rfl,rfl,rfl,HT⟩,⟨rfl,aB (by rw[Fp]),HT⟩⟩
   ·refine AE aj aa [51] ?_;have e0:(a8 ((List.range n).map λn=>(L.getD n []).map (cL L n))).length=n:=by rw[ar,FD,List.length_range]
    have e1:(List.range (n+1)).map (λn=>(L.getD n []).map (cL L n))=(List.range n).map (λn=>(L.getD n []).map (cL L n))++[L[n].map (cL L n)]:=by
     rw[HG,FW,←hgd]; rfl
    refine ⟨e0.symm,by rw[e0]; show (n+1+768)*24≤_; omega,by rw[e0]; show n+1≤_; omega,kA,aq rfl,?_⟩;refine X1 ((n+1:Nat):Int) (wI (by simp) (by omega) (by omega)) ?_;exact ⟨n+1,by omega,by omega,⟨rfl,owE (by rw[EL,e0]; rfl),rfl,HT⟩,⟨aB (by rw[e1,←wk]; rfl),HT⟩⟩
  ·have e:n=L.length:=by omega
   subst e;exact ⟨(),HT,⟨rfl,HT⟩,⟨rfl,HT⟩⟩
 ·exact ⟨HT,r1 rfl,HT⟩
theorem dY {l:List ByteArray}:ax (gN l):=by
 intro el h;obtain ⟨x,_,rfl⟩:=Fn.1 h;rfl
theorem kB (l:List ByteArray) (x:ByteArray):gN (l++[x])=gN l++[[sS x]]:=by simp[gN]
def lnS (s:ByteArray):Nat→List ByteArray × Nat
 | 0=>([],0)
 | i+1=>if s.data[i]? = some 10 then ((lnS s i).1++[s.extract (lnS s i).2 i],i+1) else lnS s i
theorem lG (s:ByteArray):∀ i,(lnS s i).2≤i∧(lnS s i).1.length≤i
 | 0=>⟨EM _,EM _⟩
 | i+1=>by
  obtain ⟨h1,h2⟩:=lG s i;unfold lnS;split
  ·exact ⟨EM _,by simp; omega⟩
  ·exact ⟨by omega,by omega⟩
def dK (s:ByteArray):List ByteArray:=(lnS s s.size).1++[s.extract (lnS s s.size).2 s.size]
theorem yR (s:ByteArray) (hs:s.size≤100000):Ct P 135 [.c (sS s)] [.c (sSl (dK s))]:=by
 have e:gN (dK s)=gN (lnS s s.size).1++[[sS (s.extract (lnS s s.size).2 s.size)]]:=by unfold dK; rw[kB]
 rw[show sSl (dK s) = .sl 1 (gN (lnS s s.size).1++[[sS (s.extract (lnS s s.size).2 s.size)]]) from congrArg _ e];refine Ct.go aj aa (N:=33) Tryz.func135 rfl rfl rfl rfl ?_;refine ii (r:=34) (t:=3) (sz:=1) rfl rfl ?_;refine aw aj aa (λi:Nat=>i≤s.size) (λi=>[(0,.c (sS s)),(3,.c (.ow 34 1 (lnS s i).1.length)),(4,.c (nI .i64 (lnS s i).2)),(5,.c (nI .i64 i))]) (λi=>[(34,.row 1 (gN (lnS s i).1))]) (λi=>s.size-i)
  0 (by omega) ⟨rfl,rfl,rfl,rfl,HT⟩ ⟨rfl,HT⟩ (λ_:Unit=>True) (λ_=>[(0,.c (sS s)),(3,.c (.ow 34 1 (lnS s s.size).1.length)),(4,.c (nI .i64 (lnS s s.size).2))]) (λ_=>[(34,.row 1 (gN (lnS s s.size).1))]) (λi hi=>?_) (λ_ _=>?_)
 ·obtain ⟨a1,a2⟩:=lG s i;refine ah (λh1=>?_) (λh1=>?_)
  ·have hi':i<s.size:=by omega
   have hb:s.data[(i:Int).toNat]? = some s.data[i]:=by simp[hi',show i<s.data.size from hi']
   refine .intro (by omega) (X1 _ hb ?_);refine aT (λh2=>?_) (λh2=>?_)
   ·have h3:s.data[i]? = some 10:=by
     rw[GK hi'];congr 1;have:(s.data[i]).toNat=10:=by omega
     exact UInt8.toNat_inj.1 this
    have hst:lnS s (i+1)=((lnS s i).1++[s.extract (lnS s i).2 i],i+1):=by rw[lnS,if_pos h3]
    refine ⟨(lnS s i).2,i,rfl,rfl,a1,by omega,?_⟩;refine ⟨by rw[aM],by rw[aM]; show ((lnS s i).1.length+1+768)*16≤_; omega,by rw[aM]; show (lnS s i).1.length+1≤_; omega,dY,aq rfl,?_⟩;refine X1 ((i+1:Nat):Int) (wI1 (by omega)) ?_;refine X1 ((i+1:Nat):Int) (wI1 (by omega)) ?_;refine ⟨i+1,by omega,by omega,⟨rfl,owE (by rw[hst,EL,EL,aM]; rfl),by rw[hst]; rfl,rfl,HT⟩,⟨aB (by rw[hst,kB]; rfl),HT⟩⟩
   ·have h3:¬ s.data[i]? = some 10:=λh=>by
     rw[GK hi',E6]at h;apply h2;rw[h]; rfl
    have hst:lnS s (i+1)=lnS s i:=by rw[lnS,if_neg h3]
    refine X1 ((i+1:Nat):Int) (wI1 (by omega)) ?_;refine ⟨i+1,by omega,by omega,⟨rfl,by rw[hst]; rfl,by rw[hst]; rfl,rfl,HT⟩,⟨by rw[hst]; rfl,HT⟩⟩
  ·have e:i=s.size:=by omega
   subst e;exact ⟨(),HT,⟨rfl,rfl,rfl,HT⟩,⟨rfl,HT⟩⟩
 ·obtain ⟨a1,a2⟩:=lG s s.size;refine ⟨rfl,by rw[aM]; show (0+(lnS s s.size).1.length+768)*16≤_; omega,by rw[aM]; show 0+(lnS s s.size).1.length≤_; omega,bj,dY,?_⟩;refine ⟨(lnS s s.size).2,s.size,rfl,rfl,a1,EM _,?_⟩;refine ⟨rfl,by rw[EL,aM]; show (0+(lnS s s.size).1.length+1+768)*16≤_; omega,by rw[EL,aM]; show 0+(lnS s s.size).1.length+1≤_; omega,dY,aq rfl,?_⟩;refine .intro rfl ?_;exact ⟨HT,r1 rfl,HT⟩
abbrev nbB (b:UInt8):Bool:=!(lB (b.toNat:Int))
def ez (s:ByteArray) (i:Nat):Nat:=((s.data.toList.drop i).takeWhile nbB).length
theorem u7 {α:Type} {p:α→Bool}:∀ (l:List α),(∀ (j:Nat) x,j<(l.takeWhile p).length→l[j]? = some x→p x=true)∧(∀ x,l[(l.takeWhile p).length]? = some x→p x=false)∧(l.takeWhile p).length≤l.length
 | []=>⟨λj x h=>by simp at h,λx h=>by simp at h,by simp⟩
 | y::l=>by
  obtain ⟨h1,h2,h3⟩:=u7 (p:=p) l
  cases hp:p y with
  | true=>
   rw[GY hp];refine ⟨λj x hj hx=>?_,λx hx=>?_,by simp; omega⟩
   ·cases j with
    | zero=>simp at hx; subst hx; exact hp
    | succ j=>exact h1 j x (by simpa using hj) (by simpa using hx)
   ·exact h2 x (by simpa using hx)
  | false=>
   rw[List.takeWhile_cons_of_neg (by rw[hp]; simp)];exact ⟨λj x hj=>by simp at hj,λx hx=>by simp at hx; subst hx; exact hp,by simp⟩
theorem n6 (s:ByteArray) (i:Nat) (hi:i≤s.size):i+ez s i≤s.size∧(∀ j,j<ez s i→∀ b,s.data[i+j]? = some b→nbB b=true)∧∀ b,s.data[i+ez s i]? = some b→nbB b=false:=by
 obtain ⟨h1,h2,h3⟩:=u7 (p:=nbB) (s.data.toList.drop i);have e:∀ j,(s.data.toList.drop i)[j]? = s.data[i+j]?:=λj=>by simp[Fz]
 refine ⟨?_,λj hj b hb=>h1 j b hj (by rw[e]; exact hb),λb hb=>h2 b (by rw[e]; exact hb)⟩;have:(s.data.toList.drop i).length=s.size-i:=by rw[Fv]; rfl
 unfold ez;omega
abbrev DS:ByteArray:=⟨#[60,117,110,107,62]⟩
def wdW (s:ByteArray) (i:Nat):ByteArray:=if ez s i>255 then DS else s.extract i (i+ez s i)
def wdF (s:ByteArray):Nat→Nat→List ByteArray→List ByteArray
 | 0,_,out=>out
 | f+1,i,out=>match s.data[i]? with
  | none=>out
  | some b=>if nbB b=false then wdF s f (i+1) out else wdF s f (i+ez s i) (if kx (wdW s i)=true then out else out++[wdW s i])
def dL (s:ByteArray):List ByteArray:=wdF s (s.size+1) 0 []
theorem u9 {s:ByteArray} {i:Nat} (hi:i<s.size) {b:UInt8} (hb:s.data[i]? = some b) (h:nbB b=true):1≤ez s i:=by
 obtain ⟨_,_,h3⟩:=n6 s i (by omega);apply Classical.byContradiction;intro hn;have e:ez s i=0:=by omega
 rw[e]at h3;have:=h3 b (by simpa using hb);rw[h]at this; cases this
def kC (out:List ByteArray):Prop:=∀ w,w∈out→w.size≤255∧kx w=false
theorem C0 (s:ByteArray) (i:Nat):(wdW s i).size≤255:=by
 unfold wdW;split
 ·decide
 ·have:(s.extract i (i+ez s i)).size≤ez s i:=by rw[GD]; omega
  omega
theorem ub (s:ByteArray) (hs:s.size≤100000):Ct P 136 [.c (sS s)] [.c (sSl (dL s))]:=by
 refine Ct.go aj aa (N:=53) Tryz.func136 rfl rfl rfl rfl ?_;refine ii (r:=60) (t:=3) (sz:=1) rfl rfl ?_;refine aw aj aa (G:=Nat × List ByteArray × Nat) (λ(i,out,f)=>i≤s.size∧out.length≤i∧s.size+1≤i+f∧wdF s f i out=dL s) (λ(i,out,_)=>[(0,.c (sS s)),(3,.c (.ow 60 1 out.length)),(4,.c (nI .i64 i))]) (λ(_,out,_)=>[(60,.row 1 (gN out))]) (λ(i,_,_)=>s.size-i)
  (0,[],s.size+1) ⟨by omega,by simp,by omega,rfl⟩ ⟨rfl,rfl,rfl,HT⟩ ⟨rfl,HT⟩ (λ_:Unit=>True) (λ_=>[(3,.c (.ow 60 1 (dL s).length))]) (λ_=>[(60,.row 1 (gN (dL s)))]) (λ(i,out,f) hi=>?_) (λ_ _=>?_)
 ·obtain ⟨i1,i2,i3,i4⟩:=hi;refine ah (λh1=>?_) (λh1=>?_)
  ·have hi':i<s.size:=by omega
   obtain ⟨f',rfl⟩:∃ f',f=f'+1:=⟨f-1,by omega⟩;have hb:s.data[i]? = some s.data[i]:=GK hi';generalize s.data[i]=b at *
   rw[wdF,hb]at i4;simp only at i4;obtain ⟨r1',r2',r3'⟩:=n6 s i i1;refine .intro (by omega) (X1 b (by rw[Fi]; exact hb) ?_);refine X1 _ (rZ _) ?_;refine aP (λh2=>?_) (λh2=>?_)
   ·have hn:nbB b=false:=by show (!(lB (b.toNat:Int)))=false; rw[h2]; rfl
    rw[if_pos hn]at i4;refine X1 ((i+1:Nat):Int) (wI1 (by omega)) ?_;exact ⟨(i+1,out,f'),⟨by omega,by omega,by omega,i4⟩,by show s.size-(i+1)<s.size-i; omega,⟨rfl,rfl,rfl,HT⟩,⟨rfl,HT⟩⟩
   ·have hn:nbB b=true:=by show (!(lB (b.toNat:Int)))=true; rw[h2]; rfl
    rw[if_neg (by rw[hn]; simp)]at i4;have hpos:=u9 hi' hb hn;refine aw aj aa (λn:Nat=>n≤ez s i) (λn=>[(0,.c (sS s)),(3,.c (.ow 60 1 out.length)),(4,.c (nI .i64 i)),(5,.c (nI .i64 n))]) (λ_=>[(60,.row 1 (gN out))]) (λn=>ez s i-n)
     0 (by omega) ⟨rfl,rfl,rfl,rfl,HT⟩ ⟨rfl,HT⟩ (λ_:Unit=>True) (λ_=>[(0,.c (sS s)),(3,.c (.ow 60 1 out.length)),(4,.c (nI .i64 i)),(5,.c (nI .i64 (ez s i)))]) (λ_=>[(60,.row 1 (gN out))]) (λn hn'=>?_) (λ_ _=>?_)
    ·refine X1 ((s.size-i:Nat):Int) (wI (by omega) (by omega) (by omega)) ?_;refine ah (λh3=>?_) (λh3=>?_)
     ·have hin:i+n<s.size:=by omega
      have hbn:s.data[i+n]? = some s.data[i+n]:=GK hin
      generalize s.data[i+n]=c at *
      refine X1 ((i+n:Nat):Int) (wI (by simp) (by omega) (by omega)) ?_;refine .intro (by omega) (X1 c (by rw[Fi]; exact hbn) ?_);refine X1 _ (rZ _) ?_;refine aP (λh4=>?_) (λh4=>?_)
      ·have h5:nbB c=true:=h4;have hlt:n<ez s i:=by
        apply Classical.byContradiction;intro hge;have e:n=ez s i:=by omega
        subst e;have:=r3' c hbn;rw[h5]at this; cases this
       refine X1 ((n+1:Nat):Int) (wI (by simp) (by omega) (by omega)) ?_;exact ⟨n+1,by omega,by omega,⟨rfl,rfl,rfl,rfl,HT⟩,⟨rfl,HT⟩⟩
      ·have h5:nbB c=false:=h4;have e:n=ez s i:=by
        apply Classical.byContradiction;intro hne;have:=r2' n (by omega) c hbn;rw[h5]at this; cases this
       subst e;exact ⟨(),HT,⟨rfl,rfl,rfl,rfl,HT⟩,⟨rfl,HT⟩⟩
     ·have e:n=ez s i:=by omega
      subst e;exact ⟨(),HT,⟨rfl,rfl,rfl,rfl,HT⟩,⟨rfl,HT⟩⟩
    ·refine X1 ((i+ez s i:Nat):Int) (wI (by simp) (by omega) (by omega)) ?_;refine ⟨i,i+ez s i,rfl,rfl,by omega,r1',?_⟩;refine ah (λh6=>?_) (λh6=>?_);have ew:wdW s i=DS:=if_pos (by omega);rw[ew]at i4;rotate_left;have ew:wdW s i=s.extract i (i+ez s i):=if_neg (by omega);rw[ew]at i4
     all_goals
      refine X1 _ (Bl _) ?_;refine aP (λh7=>?_) (λh7=>?_)
      ·rw[if_neg (by simpa using h7)]at i4;refine ⟨by rw[aM],by rw[aM]; show (out.length+1+768)*16≤_; omega,by rw[aM]; show out.length+1≤_; omega,dY,aq rfl,?_⟩;refine X1 ((i+ez s i:Nat):Int) (wI (by simp) (by omega) (by omega)) ?_;refine ⟨(i+ez s i,_,f'),⟨r1',by rw[EL]; show out.length+1≤_; omega,by omega,i4⟩,by show s.size-(i+ez s i)<s.size-i; omega,⟨rfl,owE (by rw[EL,EL,aM]; rfl),rfl,HT⟩,⟨aB (by rw[kB]; rfl),HT⟩⟩
      ·rw[if_pos (by simpa using h7)]at i4;refine X1 ((i+ez s i:Nat):Int) (wI (by simp) (by omega) (by omega)) ?_;exact ⟨(i+ez s i,out,f'),⟨r1',by omega,by omega,i4⟩,by show s.size-(i+ez s i)<s.size-i; omega,⟨rfl,rfl,rfl,HT⟩,⟨rfl,HT⟩⟩
  ·have hnone:s.data[i]? = none:=GC (by show s.size≤i; omega);obtain ⟨f',rfl⟩:∃ f',f=f'+1:=⟨f-1,by omega⟩;rw[wdF,hnone]at i4;simp only at i4;subst i4;exact ⟨(),HT,⟨rfl,HT⟩,⟨rfl,HT⟩⟩
 ·exact ⟨HT,r1 rfl,HT⟩
theorem uc (s:ByteArray):∀ (f i:Nat) (out:List ByteArray),i≤s.size→kC out→out.length≤i→kC (wdF s f i out)∧(wdF s f i out).length≤s.size
 | 0,i,out,hi,h,hl=>⟨h,by show out.length≤_; omega⟩
 | f+1,i,out,hi,h,hl=>by
  unfold wdF
  cases hb:s.data[i]? with
  | none=>exact ⟨h,by show out.length≤_; omega⟩
  | some b=>
   have hi':i<s.size:=(Fh.1 hb).1;simp only;split
   ·exact uc s f (i+1) out (by omega) h (by omega)
   ·rename_i hn;have hpos:=u9 hi' hb (by simpa using hn);have hr:=(n6 s i hi).1;refine uc s f (i+ez s i) _ hr ?_ ?_
    ·split
     ·exact h
     ·rename_i hm;intro w hw;rcases Fu.1 hw with hw | hw
      ·exact h w hw
      ·simp at hw; subst hw;exact ⟨C0 s i,by simpa using hm⟩
    ·split
     ·omega
     ·rw[EL]; show out.length+1≤_; omega
theorem n7 (s:ByteArray):kC (dL s)∧(dL s).length≤s.size:=uc s _ 0 [] (by omega) (λw h=>by simp at h) (by simp)
def iA (L:List (List ByteArray)):List (List PC):=L.map λl=>[sSl l]
abbrev Bn (L:List (List ByteArray)):PC:=.sl 1 (iA L)
theorem dZ {L:List (List ByteArray)}:(iA L).length=L.length:=by simp[iA]
theorem qs {L:List (List ByteArray)}:ax (iA L):=by
 intro el h;obtain ⟨x,_,rfl⟩:=Fn.1 h;rfl
theorem wl (L:List (List ByteArray)) (l:List ByteArray):iA (L++[l])=iA L++[[sSl l]]:=by simp[iA]
theorem pr {L:List (List ByteArray)} {i:Int} {n:Nat} (h0:i=n) (h:n<L.length):(iA L)[i.toNat]? = some [sSl L[n]]:=by
 subst h0;simp[iA,h]
def jl (l:List ByteArray):List (List ByteArray):=(l.map dL).filter λw=>decide (w.length>0)
def fU (s:ByteArray):List (List ByteArray):=jl (dK s)
theorem wm (l:List ByteArray) (x:ByteArray):jl (l++[x])=if (dL x).length>0 then jl l++[dL x] else jl l:=by
 unfold jl;rw[FW,F1];by_cases h:(dL x).length>0
 ·rw[if_pos h]; simp[Hm,h]
 ·rw[if_neg h]; simp[Hm,h]
theorem yS {s:ByteArray}:(∀ i,∀ l,l∈(lnS s i).1→l.size≤s.size):=by
 intro i
 induction i with
 | zero=>intro l h; simp[lnS]at h
 | succ i ih=>
  intro l h;unfold lnS at h;split at h
  ·rcases Fu.1 h with h | h
   ·exact ih l h
   ·simp at h; subst h;rw[GD]; omega
  ·exact ih l h
theorem sa (s:ByteArray):(dK s).length≤s.size+1∧∀ l,l∈dK s→l.size≤s.size:=by
 unfold dK;refine ⟨by rw[EL]; have:=(lG s s.size).2; show (lnS s s.size).1.length+1≤_; omega,λl h=>?_⟩;rcases Fu.1 h with h | h
 ·exact yS s.size l h
 ·simp at h; subst h;rw[GD]; omega
theorem sb (s:ByteArray) (hs:s.size≤100000):Ct P 88 [.c (sS s)] [.c (Bn (fU s))]:=by
 obtain ⟨b1,b2⟩:=sa s;refine Ct.go aj aa (N:=28) Tryz.func88 rfl rfl rfl rfl ?_;refine X1 _ (yR s hs) ?_;unfold fU;generalize dK s=l at *
 refine ii (r:=34) (t:=3) (sz:=1) rfl rfl ?_;refine aw aj aa (λi:Nat=>i≤l.length) (λi=>[(4,.c (sSl l)),(3,.c (.ow 34 1 (jl (l.take i)).length)),(5,.c (nI .i64 i))]) (λi=>[(34,.row 1 (iA (jl (l.take i))))]) (λi=>l.length-i)
  0 (by omega) ⟨rfl,rfl,rfl,HT⟩ ⟨rfl,HT⟩ (λ_:Unit=>True) (λ_=>[(3,.c (.ow 34 1 (jl l).length))]) (λ_=>[(34,.row 1 (iA (jl l)))]) (λi hi=>?_) (λ_ _=>?_)
 ·refine .intro (by rw[aM]; omega) ?_;rw[aM];refine ah (λh1=>?_) (λh1=>?_)
  ·have hi':i<l.length:=by omega
   have hget:=iU (l:=l) (i:=(i:Int)) (n:=i) rfl hi';have hs:l.take (i+1)=l.take i++[l[i]]:=ER hi';have hsn:=wm (l.take i) l[i];rw[←hs]at hsn;have hb:=b2 l[i] (EY hi');have hwl:=(n7 l[i]).2;have hal:(jl (l.take i)).length≤i:=by
    have:=FK (λw:List ByteArray=>decide (w.length>0)) ((l.take i).map dL);rw[FD,E3]at this;unfold jl; omega
   generalize l[i]=x at *
   refine .intro (by omega) (X1 _ hget ?_);refine X1 _ (ub x (by omega)) ?_;refine .intro (by rw[aM]; omega) ?_;rw[aM];refine ah (λh2=>?_) (λh2=>?_)
   ·rw[if_pos (by omega)]at hsn;refine ⟨by rw[dZ],by rw[dZ]; show ((jl (l.take i)).length+1+768)*24≤_; omega,by rw[dZ]; show (jl (l.take i)).length+1≤_; omega,qs,aq rfl,?_⟩;refine X1 ((i+1:Nat):Int) (wI1 (by omega)) ?_;exact ⟨i+1,by omega,by omega,⟨rfl,owE (by rw[hsn,EL,EL,dZ]; rfl),rfl,HT⟩,⟨aB (by rw[hsn,wl]; rfl),HT⟩⟩
   ·rw[if_neg (by omega)]at hsn;refine X1 ((i+1:Nat):Int) (wI1 (by omega)) ?_;exact ⟨i+1,by omega,by omega,⟨rfl,by rw[hsn]; rfl,rfl,HT⟩,⟨by rw[hsn]; rfl,HT⟩⟩
  ·have e:i=l.length:=by omega
   subst e;rw[Fp];exact ⟨(),HT,⟨rfl,HT⟩,⟨rfl,HT⟩⟩
 ·exact ⟨HT,r1 rfl,HT⟩
def ie (l:List ByteArray) (s:ByteArray):List ByteArray:=if ce s l≥0 then l else l++[s]
theorem yT (l:List ByteArray) (s:ByteArray) (hl:l.length≤500000):Ct P 89 [.c (sSl l),.c (sS s)] [.c (sSl (ie l s))]:=by
 unfold ie;by_cases h0:ce s l≥0
 ·rw[if_pos h0];refine Ct.go aj aa (N:=16) Tryz.func89 rfl rfl rfl rfl ?_;refine X1 _ (lC l s (by omega)) ?_;refine ah (λh1=>?_) (λh1=>?_)
  ·exact ⟨HT,r1 rfl,HT⟩
  ·exfalso; omega
 ·rw[if_neg h0,show sSl (l++[s]) = .sl 1 (gN l++[[sS s]]) from congrArg _ (kB l s)];refine Ct.go aj aa (N:=16) Tryz.func89 rfl rfl rfl rfl ?_;refine X1 _ (lC l s (by omega)) ?_;refine ah (λh1=>?_) (λh1=>?_)
  ·exfalso; omega
  ·refine ⟨rfl,by rw[aM]; show (0+l.length+768)*16≤_; omega,by rw[aM]; show 0+l.length≤_; omega,bj,dY,?_⟩;refine ⟨rfl,by rw[EL,aM]; show (0+l.length+1+768)*16≤_; omega,by rw[EL,aM]; show 0+l.length+1≤_; omega,dY,aq rfl,?_⟩;exact ⟨HT,r1 rfl,HT⟩
theorem wn (l:List ByteArray) (s:ByteArray):(ie l s).length≤l.length+1:=by
 unfold ie; split
 ·omega
 ·simp
def cU (l:List ByteArray) (ws:List ByteArray):List ByteArray:=ws.foldl ie l
theorem sd (l ws:List ByteArray) (w:ByteArray):cU l (ws++[w])=ie (cU l ws) w:=by simp[cU,G1]
theorem gP:∀ (ws l:List ByteArray),(cU l ws).length≤l.length+ws.length
 | [],l=>by simp[cU]
 | w::ws,l=>by
  have:=gP ws (ie l w);have h2:=wn l w;show (cU (ie l w) ws).length≤_
  rw[Fo]; omega
def eR (l:List ByteArray) (L:List (List ByteArray)):List ByteArray:=L.foldl cU l
theorem ud (l:List ByteArray) (L:List (List ByteArray)) (ws:List ByteArray):eR l (L++[ws])=cU (eR l L) ws:=by simp[eR,G1]
theorem lH {n:Nat}:∀ (L:List (List ByteArray)) (l:List ByteArray),(∀ ws,ws∈L→ws.length≤n)→(eR l L).length≤l.length+L.length*n
 | [],l,_=>by simp[eR]
 | ws::L,l,h=>by
  have:=lH L (cU l ws) λx hx=>h x (Fb _ hx)
  have h2:=gP ws l;have h3:=h ws (by simp);show (eR (cU l ws) L).length≤_
  rw[Fo,E8,Fx]; omega
def aK (s:ByteArray):List ByteArray:=eR marks15 (fU s)
theorem kD (s:ByteArray):(fU s).length≤s.size+1∧∀ ws,ws∈fU s→ws.length≤s.size∧kC ws:=by
 obtain ⟨b1,b2⟩:=sa s;unfold fU jl;refine ⟨?_,λws h=>?_⟩
 ·have:=FK (λw:List ByteArray=>decide (w.length>0)) ((dK s).map dL);rw[FD]at this;omega
 ·obtain ⟨h1,_⟩:=Ht.1 h;obtain ⟨l,hl,rfl⟩:=Fn.1 h1;obtain ⟨w1,w2⟩:=n7 l;have:=b2 l hl;exact ⟨by omega,w1⟩
theorem ue (s:ByteArray) (hs:s.size≤500):Ct P 37 [.c (sS s)] [.c (sSl (aK s))]:=by
 obtain ⟨b1,b2⟩:=kD s;have hA:=sb s (by omega);unfold aK;generalize fU s=L at *
 have hbd:∀ i,(eR marks15 (L.take i)).length≤251000:=λi=>by
  have h1:=lH (n:=500) (L.take i) marks15 λws h=>by have:=(b2 ws (Gi h)).1; omega
  have h2:(L.take i).length≤501:=by rw[E3]; omega
  have h3:(L.take i).length*500≤501*500:=EU _ h2;have h4:marks15.length=3:=rfl;omega
 refine Ct.go aj aa (N:=35) Tryz.func37 rfl rfl rfl rfl ?_;refine X1 _ t9 ?_;refine X1 _ hA ?_;refine aw aj aa (λi:Nat=>i≤L.length) (λi=>[(4,.c (Bn L)),(3,.c (sSl (eR marks15 (L.take i)))),(5,.c (nI .i64 i))]) (λ_=>[]) (λi=>L.length-i)
  0 (by omega) ⟨rfl,rfl,rfl,HT⟩ HT (λ_:Unit=>True) (λ_=>[(3,.c (sSl (eR marks15 L)))]) (λ_=>[]) (λi hi=>?_) (λ_ _=>?_)
 ·refine .intro (by rw[dZ]; omega) ?_;rw[dZ];refine ah (λh1=>?_) (λh1=>?_)
  ·have hi':i<L.length:=by omega
   have hget:=pr (L:=L) (i:=(i:Int)) (n:=i) rfl hi';have hs:L.take (i+1)=L.take i++[L[i]]:=ER hi';have hbi:=hbd i;have hwl:=(b2 _ (EY hi')).1;have hsn:eR marks15 (L.take (i+1))=cU (eR marks15 (L.take i)) L[i]:=by rw[hs,ud]
   generalize L[i]=ws at *
   generalize eR marks15 (L.take i)=l at *
   refine cn aj aa (λk:Nat=>k≤ws.length) (λk=>[(4,.c (Bn L)),(3,.c (sSl (cU l (ws.take k)))),(5,.c (nI .i64 i)),(6,.c (nI .i64 k))]) (λ_=>[]) (λk=>ws.length-k)
    0 (by omega) ⟨rfl,rfl,rfl,rfl,HT⟩ HT (λk hk=>?_)
   refine .intro (by omega) (X1 _ hget ?_);refine .intro (by rw[aM]; omega) ?_;rw[aM];refine ah (λh2=>?_) (λh2=>?_)
   ·have hk':k<ws.length:=by omega
    have hs2:ws.take (k+1)=ws.take k++[ws[k]]:=ER hk';have hsn2:cU l (ws.take (k+1))=ie (cU l (ws.take k)) ws[k]:=by rw[hs2,sd]
    have hlen2:=gP (ws.take k) l;rw[E3]at hlen2;refine .intro (by omega) (X1 _ hget ?_);refine .intro (by omega) (X1 _ (iU (n:=k) rfl hk') ?_);refine X1 _ (yT _ _ (by omega)) ?_;refine X1 ((k+1:Nat):Int) (wI (by simp) (by omega) (by omega)) ?_;exact ⟨k+1,by omega,by omega,⟨rfl,by rw[hsn2]; rfl,rfl,rfl,HT⟩,HT⟩
   ·have e:k=ws.length:=by omega
    subst e;rw[Fp,←hsn];refine X1 ((i+1:Nat):Int) (wI1 (by omega)) ?_;exact ⟨i+1,by omega,by omega,⟨rfl,rfl,rfl,HT⟩,HT⟩
  ·have e:i=L.length:=by omega
   subst e;rw[Fp];exact ⟨(),HT,⟨rfl,HT⟩,HT⟩
 ·exact ⟨HT,r1 rfl,HT⟩
def eC (ws l:List ByteArray):List Int:=([1]++l.map (ij ws))++[2]
theorem yU (ws l:List ByteArray) (hw:ws.length≤1000000) (hl:l.length≤900000):Ct P 91 [.c (sSl ws),.c (sSl l)] [.c (iSl (eC ws l))]:=by
 have e:aC (eC ws l)=([[eI .i64 1]]++aC (l.map (ij ws)))++[[eI .i64 2]]:=by simp[eC,aC]
 have hlen:(aC (l.map (ij ws))).length=l.length:=by simp[aC]
 have hids:=yO ws l hw (by omega);rw[show iSl (eC ws l) = .sl 1 (([[eI .i64 1]]++aC (l.map (ij ws)))++[[eI .i64 2]]) from congrArg _ e];generalize l.map (ij ws)=ids at *
 refine Ct.go aj aa (N:=19) Tryz.func91 rfl rfl rfl rfl ?_;refine ⟨rfl,by show (0+1+768)*8≤_; omega,by show 0+1≤_; omega,bj,aq rfl,?_⟩;refine X1 _ hids ?_;refine ⟨rfl,by rw[hlen]; show (1+l.length+768)*8≤_; omega,by rw[hlen]; show 1+l.length≤_; omega,aq rfl,aQ,?_⟩;have hc:ax ([[eI .i64 1]]++aC ids):=λel h=>by
  rcases Fu.1 h with h | h
  ·simp at h; subst h; rfl
  ·exact aQ el h
 have hl2:([[eI .i64 1]]++aC ids).length=l.length+1:=by rw[EL,hlen]; show 1+l.length=_; omega
 refine ⟨rfl,by show (0+([[eI .i64 1]]++aC ids).length+768)*8≤_; rw[hl2]; omega,by show 0+([[eI .i64 1]]++aC ids).length≤_; rw[hl2]; omega,bj,hc,?_⟩;refine ⟨rfl,by show (([[eI .i64 1]]++aC ids).length+1+768)*8≤_; rw[hl2]; omega,by show ([[eI .i64 1]]++aC ids).length+1≤_; rw[hl2]; omega,hc,aq rfl,?_⟩;exact ⟨HT,r1 rfl,HT⟩
def dG (L:List (List Int)):List (List PC):=L.map λl=>[iSl l]
abbrev mF (L:List (List Int)):PC:=.sl 1 (dG L)
theorem bp {L:List (List Int)}:(dG L).length=L.length:=by simp[dG]
theorem eq {L:List (List Int)}:ax (dG L):=by
 intro el h;obtain ⟨x,_,rfl⟩:=Fn.1 h;rfl
theorem pt (L:List (List Int)) (l:List Int):dG (L++[l])=dG L++[[iSl l]]:=by simp[dG]
theorem pw {L:List (List Int)} {i:Int} {n:Nat} (h0:i=n) (h:n<L.length):(dG L)[i.toNat]? = some [iSl L[n]]:=by
 subst h0;simp[dG,h]
def fE (ws:List ByteArray) (s:ByteArray):List (List Int):=(fU s).map (eC ws)
theorem yV (ws:List ByteArray) (s:ByteArray) (hw:ws.length≤1000000) (hs:s.size≤100000):Ct P 39 [.c (sSl ws),.c (sS s)] [.c (mF (fE ws s))]:=by
 obtain ⟨b1,b2⟩:=kD s;have hA:=sb s hs;unfold fE;generalize fU s=L at *
 refine Ct.go aj aa (N:=26) Tryz.func39 rfl rfl rfl rfl ?_;refine X1 _ hA ?_;refine ii (r:=34) (t:=5) (sz:=1) rfl rfl ?_;refine aw aj aa (λi:Nat=>i≤L.length) (λi=>[(0,.c (sSl ws)),(6,.c (Bn L)),(5,.c (.ow 34 1 i)),(7,.c (nI .i64 i))]) (λi=>[(34,.row 1 (dG ((L.take i).map (eC ws))))]) (λi=>L.length-i)
  0 (by omega) ⟨rfl,rfl,rfl,rfl,HT⟩ ⟨rfl,HT⟩ (λ_:Unit=>True) (λ_=>[(5,.c (.ow 34 1 L.length))]) (λ_=>[(34,.row 1 (dG (L.map (eC ws))))]) (λi hi=>?_) (λ_ _=>?_)
 ·refine .intro (by rw[dZ]; omega) ?_;rw[dZ];refine ah (λh1=>?_) (λh1=>?_)
  ·have hi':i<L.length:=by omega
   have hget:=pr (L:=L) (i:=(i:Int)) (n:=i) rfl hi';have hs:(L.take (i+1)).map (eC ws)=(L.take i).map (eC ws)++[eC ws L[i]]:=by rw[ER hi',FW]; rfl
   have hwl:=(b2 _ (EY hi')).1;have hl:((L.take i).map (eC ws)).length=i:=by simp; omega
   generalize L[i]=x at *
   refine .intro (by omega) (X1 _ hget ?_);refine X1 _ (yU ws x hw (by omega)) ?_;refine ⟨by rw[bp,hl],by rw[bp,hl]; show (i+1+768)*24≤_; omega,by rw[bp,hl]; show i+1≤_; omega,eq,aq rfl,?_⟩;refine X1 ((i+1:Nat):Int) (wI1 (by omega)) ?_;exact ⟨i+1,by omega,by omega,⟨rfl,rfl,owE (by rw[EL,bp,hl]; rfl),rfl,HT⟩,⟨aB (by rw[hs,pt]; rfl),HT⟩⟩
  ·have e:i=L.length:=by omega
   subst e;rw[Fp];exact ⟨(),HT,⟨rfl,HT⟩,⟨rfl,HT⟩⟩
 ·exact ⟨HT,r1 rfl,HT⟩
def grS (p:List Int) (n:Nat):Nat→List (List Int)
 | 0=>[]
 | i+1=>if n+i≤p.length then grS p n i++[(p.drop i).take n] else grS p n i
theorem mR (p:List Int) (n:Nat):∀ i,(grS p n i).length≤i
 | 0=>EM _
 | i+1=>by
  have:=mR p n i;unfold grS;split
  ·simp; omega
  ·omega
def cz (p:List Int) (n:Nat):List (List Int):=grS p n p.length
theorem uf (p:List Int) (n:Nat) (h1:1≤n) (hn:n≤1000000) (hp:p.length≤900000):Ct P 177 [.c (iSl p),.c (nI .i64 n)] [.c (mF (cz p n))]:=by
 refine Ct.go aj aa (N:=32) Tryz.func177 rfl rfl rfl rfl ?_;refine ah (λh=>?_) (λ_=>?_)
 ·exfalso; omega
 refine ii (r:=34) (t:=5) (sz:=1) rfl rfl ?_;refine aw aj aa (λi:Nat=>i≤p.length) (λi=>[(0,.c (iSl p)),(1,.c (nI .i64 n)),(5,.c (.ow 34 1 (grS p n i).length)),(6,.c (nI .i64 i))]) (λi=>[(34,.row 1 (dG (grS p n i)))]) (λi=>p.length-i)
  0 (by omega) ⟨rfl,rfl,rfl,rfl,HT⟩ ⟨rfl,HT⟩ (λ_:Unit=>True) (λ_=>[(5,.c (.ow 34 1 (cz p n).length))]) (λ_=>[(34,.row 1 (dG (cz p n)))]) (λi hi=>?_) (λ_ _=>?_)
 ·refine .intro (by rw[ac]; omega) ?_;rw[ac];have hgl:=mR p n i;refine ah (λh2=>?_) (λh2=>?_)
  ·refine .intro (by rw[ac]; omega) ?_;rw[ac];refine X1 ((p.length-i:Nat):Int) (wI (by omega) (by omega) (by omega)) ?_;refine ah (λh3=>?_) (λh3=>?_)
   ·have hst:grS p n (i+1)=grS p n i++[(p.drop i).take n]:=by rw[grS,if_pos (by omega)]
    refine X1 ((i+n:Nat):Int) (wI (by simp) (by omega) (by omega)) ?_;refine ⟨i,i+n,rfl,rfl,by omega,by rw[ac]; omega,?_⟩;rw[iRow_sub,show i+n-i=n by omega];refine ⟨by rw[bp],by rw[bp]; show ((grS p n i).length+1+768)*24≤_; omega,by rw[bp]; show (grS p n i).length+1≤_; omega,eq,aq rfl,?_⟩;refine X1 ((i+1:Nat):Int) (wI1 (by omega)) ?_;exact ⟨i+1,by omega,by omega,⟨rfl,rfl,owE (by rw[hst,EL,EL,bp]; rfl),rfl,HT⟩,⟨aB (by rw[hst,pt]; rfl),HT⟩⟩
   ·have hst:grS p n (i+1)=grS p n i:=by rw[grS,if_neg (by omega)]
    refine X1 ((i+1:Nat):Int) (wI1 (by omega)) ?_;exact ⟨i+1,by omega,by omega,⟨rfl,rfl,by rw[hst]; rfl,rfl,HT⟩,⟨by rw[hst]; rfl,HT⟩⟩
  ·have e:i=p.length:=by omega
   subst e;exact ⟨(),HT,⟨rfl,HT⟩,⟨rfl,HT⟩⟩
 ·exact ⟨HT,r1 rfl,HT⟩
def pu (x:Cnt):List Cnt→Bool→List Cnt
 | [],laid=>if laid=true then [] else [x]
 | y::l,laid=>(if aH y.1 x.1>0∧laid=false then [x] else [])++(if aH y.1 x.1=0 then (y.1,y.2+x.2) else y)::pu x l (laid||decide (aH y.1 x.1>0)||decide (aH y.1 x.1=0))
def mu (l:List Cnt) (x:Cnt):List Cnt:=pu x l false
theorem eF (l:List Cnt) (x:Cnt):cr (l++[x])=cr l++[[iSl x.1,eI .i64 x.2]]:=by simp[cr]
theorem yW (l:List Cnt) (x:Cnt) (hl:CLim l) (hx:x.1.length≤1000000) (hn:∀ y,y∈l→0≤y.2∧y.2≤1000000000) (hx2:0≤x.2∧x.2≤1000000000) :
  Ct P 139 [.c (cSl l),.ag [iSl x.1,eI .i64 x.2]] [.c (cSl (mu l x))]:=by
 have hll:=hl.len;refine Ct.go aj aa (N:=57) Tryz.func139 rfl rfl rfl rfl ?_;refine ii (r:=60) (t:=5) (sz:=2) rfl rfl ?_;refine aw aj aa (G:=Nat × List Cnt × Bool) (λ(i,out,b)=>i≤l.length∧out.length≤i+(if b=true then 1 else 0)∧out++pu x (l.drop i) b=mu l x) (λ(i,out,b)=>[(0,.c (cSl l)),(3,.c (.ad 3 0)),(5,.c (.ow 60 2 out.length)),(6,.c (.sc (.bool b))),(7,.c (nI .i64 i))])
  (λ(_,out,_)=>[(3,.var [iSl x.1,eI .i64 x.2]),(60,.row 2 (cr out))]) (λ(i,_,_)=>l.length-i)
  (0,[],false) ⟨by omega,by simp,rfl⟩ ⟨rfl,rfl,rfl,rfl,rfl,HT⟩ ⟨rfl,rfl,HT⟩ (λ(g:List Cnt × Bool)=>g.1.length≤l.length+1∧g.1++pu x [] g.2=mu l x) (λ(out,b)=>[(3,.c (.ad 3 0)),(5,.c (.ow 60 2 out.length)),(6,.c (.sc (.bool b)))]) (λ(out,_)=>[(3,.var [iSl x.1,eI .i64 x.2]),(60,.row 2 (cr out))]) (λ(i,out,b) hi=>?_) (λ(out,b) ho=>?_)
 ·obtain ⟨i1,i2,i3⟩:=hi;have hout:out.length≤i+1:=by split at i2<;>omega
  refine .intro (by rw[cRow_len]; omega) ?_;rw[cRow_len];refine ah (λh1=>?_) (λh1=>?_)
  ·have hi':i<l.length:=by omega
   have hget:=bs (l:=l) (i:=(i:Int)) (n:=i) rfl hi';have hgl:=hl.at' hi';have hnn:=hn _ (EY hi');rw[Fk hi',pu]at i3;generalize l[i]=y at *
   refine .intro (by omega) (X1 _ hget ?_);refine X1 _ (r9 y.1 x.1 hgl hx) ?_;refine .intro rfl ?_;refine ah (λh2=>?_) (λh2=>?_)
   ·have h0:¬ aH y.1 x.1=0:=by omega
    refine aP (λh3=>?_) (λh3=>?_)
    ·have hb:b=false:=by simpa using h3
     subst hb;rw[if_pos ⟨h2,rfl⟩,if_neg h0,decide_eq_true h2]at i3;have e1:(out++[x]).length=out.length+1:=by simp
     refine ⟨by rw[cRow_len],by rw[cRow_len]; show (out.length+1+768)*32≤_; omega,by rw[cRow_len]; show out.length+1≤_; omega,bu,aq rfl,?_⟩;refine .intro (by omega) (X1 _ hget ?_);refine aT (λh=>absurd h h0) (λ_=>?_);have e2:cr out++[[iSl x.1,eI .i64 x.2]]=cr (out++[x]):=(eF out x).symm;refine ⟨?_,?_,?_,?_,aq rfl,?_⟩
     ·rfl
     ·show ((cr out++[[iSl x.1,eI .i64 x.2]]).length+1+768)*32≤_
      rw[e2,cRow_len,e1]; omega
     ·show (cr out++[[iSl x.1,eI .i64 x.2]]).length+1≤_
      rw[e2,cRow_len,e1]; omega
     ·show ax (cr out++[[iSl x.1,eI .i64 x.2]])
      rw[e2]; exact bu
     ·refine X1 ((i+1:Nat):Int) (wI1 (by omega)) ?_;refine ⟨(i+1,out++[x]++[y],true),⟨by omega,by simp at i2 ⊢; omega,?_⟩,by show l.length-(i+1)<l.length-i; omega,⟨rfl,rfl,owE ?_,rfl,rfl,HT⟩,⟨rfl,aB ?_,HT⟩⟩
      ·rw[←i3]; simp
      ·simp[cRow_len]
      ·rw[eF,eF]; rfl
    ·have hb:b=true:=by simpa using h3
     subst hb;rw[if_neg (by simp),if_neg h0]at i3;refine .intro (by omega) (X1 _ hget ?_);refine aT (λh=>absurd h h0) (λ_=>?_);refine ⟨by rw[cRow_len],by rw[cRow_len]; show (out.length+1+768)*32≤_; omega,by rw[cRow_len]; show out.length+1≤_; omega,bu,aq rfl,?_⟩;refine X1 ((i+1:Nat):Int) (wI1 (by omega)) ?_;refine ⟨(i+1,out++[y],true),⟨by omega,by simp at i2 ⊢; omega,?_⟩,by show l.length-(i+1)<l.length-i; omega,⟨rfl,rfl,owE ?_,rfl,rfl,HT⟩,⟨rfl,aB ?_,HT⟩⟩
     ·rw[←i3]; simp
     ·simp[cRow_len]
     ·rw[eF]; rfl
   ·rw[if_neg (λh=>h2 h.1),decide_eq_false h2]at i3;refine .intro (by omega) (X1 _ hget ?_);refine aT (λh3=>?_) (λh3=>?_)
    ·rw[if_pos h3,decide_eq_true h3]at i3;refine X1 (y.2+x.2) (wI rfl (by omega) (by omega)) ?_;refine ⟨by rw[cRow_len],by rw[cRow_len]; show (out.length+1+768)*32≤_; omega,by rw[cRow_len]; show out.length+1≤_; omega,bu,aq rfl,?_⟩;refine X1 ((i+1:Nat):Int) (wI1 (by omega)) ?_;refine ⟨(i+1,out++[(y.1,y.2+x.2)],true),⟨by omega,by rw[EL]; show out.length+1≤i+1+1; omega,?_⟩,by show l.length-(i+1)<l.length-i; omega,⟨rfl,rfl,owE ?_,rfl,rfl,HT⟩,⟨rfl,aB ?_,HT⟩⟩
     ·rw[←i3]; simp
     ·simp[cRow_len]
     ·rw[eF]; rfl
    ·rw[if_neg h3,decide_eq_false h3]at i3;refine ⟨by rw[cRow_len],by rw[cRow_len]; show (out.length+1+768)*32≤_; omega,by rw[cRow_len]; show out.length+1≤_; omega,bu,aq rfl,?_⟩;refine X1 ((i+1:Nat):Int) (wI1 (by omega)) ?_;refine ⟨(i+1,out++[y],b),⟨by omega,by rw[EL]; show out.length+1≤i+1+_; omega,?_⟩,by show l.length-(i+1)<l.length-i; omega,⟨rfl,rfl,owE ?_,rfl,rfl,HT⟩,⟨rfl,aB ?_,HT⟩⟩
     ·rw[←i3]; simp
     ·simp[cRow_len]
     ·rw[eF]; rfl
  ·have e:i=l.length:=by omega
   subst e;rw[Gl]at i3;exact ⟨(out,b),⟨hout,i3⟩,⟨rfl,rfl,rfl,HT⟩,⟨rfl,rfl,HT⟩⟩
 ·obtain ⟨o1,o2⟩:=ho;have o1':out.length≤l.length+1:=o1;have o2':out++pu x [] b=mu l x:=o2;rw[←o2'];refine aP (λh3=>?_) (λh3=>?_)
  ·have hb:b=false:=by simpa using h3
   subst hb;rw[show pu x [] false=[x] from rfl,show cSl (out++[x]) = .sl 2 (cr out++[[iSl x.1,eI .i64 x.2]]) from congrArg _ (eF out x)];refine ⟨by rw[cRow_len],by rw[cRow_len]; show (out.length+1+768)*32≤_; omega,by rw[cRow_len]; show out.length+1≤_; omega,bu,aq rfl,?_⟩;exact ⟨HT,r1 rfl,HT⟩
  ·have hb:b=true:=by simpa using h3
   subst hb;rw[show pu x [] true=[] from rfl,GB];exact ⟨HT,r1 rfl,HT⟩
end
section
def aX (x:Cnt):Bool:=!(decide (x.2<1)) && !(decide (x.1=[1]))
def tys (l:List Cnt):Int:=((l.filter aX).length:Nat)
def tot (l:List Cnt):Int:=((l.filter aX).map (·.2)).sum
def num (l:List Cnt) (k:Int):Int:=((l.filter λx=>aX x&&decide (x.2=k)).length:Nat)
section
variable {l:List Cnt} {x:Cnt} {k:Int}
theorem fF (h:aX x=true):tys (l++[x])=tys l+1:=by
 unfold tys; rw[F1,EL,Fy h]; simp
theorem Cr (h:aX x=false):tys (l++[x])=tys l:=by
 unfold tys; rw[F1,EL,Ft (by simp[h])]; simp
theorem eD (h:aX x=true):tot (l++[x])=tot l+x.2:=by
 unfold tot; rw[F1,Fy h]; simp
theorem Cs (h:aX x=false):tot (l++[x])=tot l:=by
 unfold tot; rw[F1,Ft (by simp[h])]; simp
theorem DT (h:aX x=true) (hk:x.2=k):num (l++[x]) k=num l k+1:=by
 unfold num; rw[F1,EL,Fy (by simp[h,hk])]; simp
theorem dH (h:aX x=false∨x.2≠k):num (l++[x]) k=num l k:=by
 unfold num; rw[F1,EL,Ft (by rcases h with h | h<;>simp[h])]; simp
theorem cG (l:List Cnt):0≤tot l:=by
 unfold tot
 induction l with
 | nil=>simp
 | cons x l ih=>
  by_cases h:aX x=true
  ·rw[Fy h,Fw,GZ];have:¬ x.2<1:=by unfold aX at h; intro h1; rw[decide_eq_true h1]at h; simp at h
   omega
  ·rw[Ft h]; exact ih
theorem iV (l m:List Cnt):tot (l++m)=tot l+tot m:=by
 unfold tot; rw[F1,FW,List.sum_append]
theorem n8 (l:List Cnt) (i:Nat):tot (l.take i)≤tot l:=by
 have h:=iV (l.take i) (l.drop i);rw[GW]at h;have:=cG (l.drop i);omega
theorem yX (l:List Cnt):0≤tys l∧tys l≤l.length:=by
 unfold tys; have:=FK aX l; omega
theorem yY (l:List Cnt) (k:Int):0≤num l k∧num l k≤l.length:=by
 unfold num; have:=FK (λx=>aX x&&decide (x.2=k)) l; omega
end
def cen (l:List Cnt):List PC:=[eI .i64 (tys l),eI .i64 (tot l),eI .i64 (num l 1),eI .i64 (num l 2),eI .i64 (num l 3),eI .i64 (num l 4)]
theorem Cu {l:List Cnt} {x:Cnt} (h:aX x=false):cen (l++[x])=cen l:=by
 unfold cen; rw[Cr h,Cs h,dH (.inl h),dH (.inl h),dH (.inl h),dH (.inl h)]
theorem bY {l:List Cnt} {x:Cnt} {k:Int} (h:aX x=true):num (l++[x]) k=if x.2=k then num l k+1 else num l k:=by
 by_cases hk:x.2=k
 ·rw[if_pos hk,DT h hk]
 ·rw[if_neg hk,dH (.inr hk)]
theorem se (l:List Cnt) (hl:CLim l) (ht:tot l≤4611686018427387904):Ct P 94 [.c (cSl l)] [.ag (cen l)]:=by
 have hll:=hl.len;refine Ct.go aj aa (N:=48) Tryz.func94 rfl rfl rfl rfl ?_;refine aw aj aa (λi:Nat=>i≤l.length) (λi=>[(0,.c (cSl l)),(2,.c (.ad 2 0)),(3,.c (.ad 3 0)),(4,.c (nI .i64 i))])
  (λi=>[(2,.var [eI .i64 0,eI .i64 0,eI .i64 0,eI .i64 0,eI .i64 0,eI .i64 0]),(3,.var (cen (l.take i)))]) (λi=>l.length-i)
  0 (by omega) ⟨rfl,rfl,rfl,rfl,HT⟩ ⟨rfl,rfl,HT⟩ (λ_:Unit=>True) (λ_=>[(2,.c (.ad 2 0)),(3,.c (.ad 3 0))]) (λ_=>[(2,.var [eI .i64 0,eI .i64 0,eI .i64 0,eI .i64 0,eI .i64 0,eI .i64 0]),(3,.var (cen l))]) (λi hi=>?_) (λ_ _=>?_)
 ·refine .intro (by rw[cRow_len]; omega) ?_;rw[cRow_len];refine ah (λh5=>?_) (λh5=>?_)
  ·have hi':i<l.length:=by omega
   have hxl:=hl.at' hi';have hx:=bs (l:=l) (i:=(i:Int)) (n:=i) rfl hi';have hs:l.take (i+1)=l.take i++[l[i]]:=ER hi';have t1:=n8 l (i+1);have t2:=yX (l.take i);have t3:=cG (l.take i);have t4:=yY (l.take i);rw[hs]at t1;rw[E3]at t2;simp only[E3]at t4;generalize l[i]=x at *
   generalize l.take i=a at *
   refine .intro (by omega) (X1 _ hx ?_);refine ah (λh6=>?_) (λh6=>?_)
   ·have hlv:aX x=false:=by unfold aX; rw[decide_eq_true h6]; rfl
    refine X1 ((i+1:Nat):Int) (wI1 (by omega)) ?_;exact ⟨i+1,by omega,by omega,⟨rfl,rfl,rfl,rfl,HT⟩,⟨rfl,by rw[hs,Cu hlv]; rfl,HT⟩⟩
   ·refine .intro (by omega) (X1 _ hx ?_);refine X2 .look (X1 _ (mQ x.1 [1] hxl (by simp)) ?_);refine ah (λh7=>?_) (λh7=>?_)
    ·have hlv:aX x=false:=by unfold aX; rw[decide_eq_true h7]; simp
     refine X1 ((i+1:Nat):Int) (wI1 (by omega)) ?_;exact ⟨i+1,by omega,by omega,⟨rfl,rfl,rfl,rfl,HT⟩,⟨rfl,by rw[hs,Cu hlv]; rfl,HT⟩⟩
    ·have hlv:aX x=true:=by unfold aX; rw[decide_eq_false h6,decide_eq_false h7]; rfl
     rw[eD hlv]at t1;refine .intro (by omega) (.intro (by omega) ?_);refine X1 (tys a+1) (wI rfl (by omega) (by omega)) ?_;refine .intro (by omega) (.intro (by omega) ?_);refine .intro (by omega) (.intro (by omega) ?_);refine X1 (tot a+x.2) (wI rfl (by omega) (by omega)) ?_;refine .intro (by omega) (.intro (by omega) ?_);refine ah (λh8=>?_) (λh8=>?_)
     ·have h9:x.2=1∨x.2=2∨x.2=3∨x.2=4:=by omega
      rcases h9 with h9 | h9 | h9 | h9
      ·have q1:=t4 1;have hc:cen (a++[x])=[eI .i64 (tys a+1),eI .i64 (tot a+1),eI .i64 (num a 1+1),eI .i64 (num a 2),eI .i64 (num a 3),eI .i64 (num a 4)]:=by
        unfold cen; rw[fF hlv,eD hlv,bY hlv,bY hlv,bY hlv,bY hlv,h9]; simp
       rw[h9] at *
       refine X1 2 (wI (by omega) (by omega) (by omega)) ?_;refine X1 2 (wI (by omega) (by omega) (by omega)) ?_;refine .intro (by omega) (.intro (by omega) ?_);refine X1 (num a 1+1) (wI rfl (by omega) (by omega)) ?_;refine .intro (by omega) (.intro (by omega) ?_);refine X1 ((i+1:Nat):Int) (wI1 (by omega)) ?_;exact ⟨i+1,by omega,by omega,⟨rfl,rfl,rfl,rfl,HT⟩,⟨rfl,by rw[hs,hc]; rfl,HT⟩⟩
      ·have q1:=t4 2;have hc:cen (a++[x])=[eI .i64 (tys a+1),eI .i64 (tot a+2),eI .i64 (num a 1),eI .i64 (num a 2+1),eI .i64 (num a 3),eI .i64 (num a 4)]:=by
        unfold cen; rw[fF hlv,eD hlv,bY hlv,bY hlv,bY hlv,bY hlv,h9]; simp
       rw[h9] at *
       refine X1 3 (wI (by omega) (by omega) (by omega)) ?_;refine X1 3 (wI (by omega) (by omega) (by omega)) ?_;refine .intro (by omega) (.intro (by omega) ?_);refine X1 (num a 2+1) (wI rfl (by omega) (by omega)) ?_;refine .intro (by omega) (.intro (by omega) ?_);refine X1 ((i+1:Nat):Int) (wI1 (by omega)) ?_;exact ⟨i+1,by omega,by omega,⟨rfl,rfl,rfl,rfl,HT⟩,⟨rfl,by rw[hs,hc]; rfl,HT⟩⟩
      ·have q1:=t4 3;have hc:cen (a++[x])=[eI .i64 (tys a+1),eI .i64 (tot a+3),eI .i64 (num a 1),eI .i64 (num a 2),eI .i64 (num a 3+1),eI .i64 (num a 4)]:=by
        unfold cen; rw[fF hlv,eD hlv,bY hlv,bY hlv,bY hlv,bY hlv,h9]; simp
       rw[h9] at *
       refine X1 4 (wI (by omega) (by omega) (by omega)) ?_;refine X1 4 (wI (by omega) (by omega) (by omega)) ?_;refine .intro (by omega) (.intro (by omega) ?_);refine X1 (num a 3+1) (wI rfl (by omega) (by omega)) ?_;refine .intro (by omega) (.intro (by omega) ?_);refine X1 ((i+1:Nat):Int) (wI1 (by omega)) ?_;exact ⟨i+1,by omega,by omega,⟨rfl,rfl,rfl,rfl,HT⟩,⟨rfl,by rw[hs,hc]; rfl,HT⟩⟩
      ·have q1:=t4 4;have hc:cen (a++[x])=[eI .i64 (tys a+1),eI .i64 (tot a+4),eI .i64 (num a 1),eI .i64 (num a 2),eI .i64 (num a 3),eI .i64 (num a 4+1)]:=by
        unfold cen; rw[fF hlv,eD hlv,bY hlv,bY hlv,bY hlv,bY hlv,h9]; simp
       rw[h9] at *
       refine X1 5 (wI (by omega) (by omega) (by omega)) ?_;refine X1 5 (wI (by omega) (by omega) (by omega)) ?_;refine .intro (by omega) (.intro (by omega) ?_);refine X1 (num a 4+1) (wI rfl (by omega) (by omega)) ?_;refine .intro (by omega) (.intro (by omega) ?_);refine X1 ((i+1:Nat):Int) (wI1 (by omega)) ?_;exact ⟨i+1,by omega,by omega,⟨rfl,rfl,rfl,rfl,HT⟩,⟨rfl,by rw[hs,hc]; rfl,HT⟩⟩
     ·have hc:cen (a++[x])=[eI .i64 (tys a+1),eI .i64 (tot a+x.2),eI .i64 (num a 1),eI .i64 (num a 2),eI .i64 (num a 3),eI .i64 (num a 4)]:=by
       unfold cen; rw[fF hlv,eD hlv,dH (.inr (by omega)),dH (.inr (by omega)),dH (.inr (by omega)),dH (.inr (by omega))]
      refine X1 ((i+1:Nat):Int) (wI1 (by omega)) ?_;exact ⟨i+1,by omega,by omega,⟨rfl,rfl,rfl,rfl,HT⟩,⟨rfl,by rw[hs,hc]; rfl,HT⟩⟩
  ·have e:i=l.length:=by omega
   subst e;rw[Fp];exact ⟨(),HT,⟨rfl,rfl,HT⟩,⟨rfl,rfl,HT⟩⟩
 ·exact ⟨HT,rc rfl,HT⟩
theorem dh (p:Cnt→Bool) (l:List Cnt):tot (l.filter p)≤tot l:=by
 induction l with
 | nil=>simp
 | cons x l ih=>
  have h1:tot (x::l)=tot [x]+tot l:=iV [x] l;have h2:=cG [x];by_cases h:p x=true
  ·have h3:tot (x::l.filter p)=tot [x]+tot (l.filter p):=iV [x] _;rw[Fy h];omega
  ·rw[Ft h];omega
def cH (h:List Int) (x:Cnt):Bool:=decide (x.1.length=h.length+1)&&decide (x.1.take h.length=h)
def after (l:List Cnt) (h:List Int):List Cnt:=l.filter (cH h)
theorem CLim.filter {l:List Cnt} (h:CLim l) (p:Cnt→Bool):CLim (l.filter p):=
 ⟨EQ (FK _ _) h.len,λx hx=>h.g x (Ht.1 hx).1⟩
theorem py (l:List Cnt) (h:List Int) (hl:CLim l) (hh:h.length≤1000000) (ht:tot l≤4611686018427387904):Ct P 117 [.c (cSl l),.c (iSl h)] [.ag (cen (after l h))]:=by
 have hll:=hl.len;refine Ct.go aj aa (N:=42) Tryz.func117 rfl rfl rfl rfl ?_;refine ii (r:=50) (t:=5) (sz:=2) rfl rfl ?_;refine uX aj aa (λi:Nat=>i≤l.length) (λi=>[(0,.c (cSl l)),(1,.c (iSl h)),(4,.c (.ad 4 0)),(5,.c (.ow 50 2 (after (l.take i) h).length)),(6,.c (nI .i64 i))])
  (λi=>[(4,.var [eI .i64 0,eI .i64 0,eI .i64 0,eI .i64 0,eI .i64 0,eI .i64 0]),(50,.row 2 (cr (after (l.take i) h)))]) (λi=>l.length-i)
  0 (by omega) ⟨rfl,rfl,rfl,rfl,rfl,HT⟩ ⟨rfl,rfl,HT⟩ (λ_:Unit=>True) (λ_=>[(4,.c (.ad 4 0)),(5,.c (.ow 50 2 (after l h).length))]) (λ_=>[(4,.var [eI .i64 0,eI .i64 0,eI .i64 0,eI .i64 0,eI .i64 0,eI .i64 0]),(50,.row 2 (cr (after l h)))]) (λi hi=>?_) (λ_ _=>?_)
 ·refine .intro (by rw[cRow_len]; omega) ?_;rw[cRow_len];refine ah (λh5=>?_) (λh5=>?_)
  ·have hi':i<l.length:=by omega
   have hxl:=hl.at' hi';have hx:=bs (l:=l) (i:=(i:Int)) (n:=i) rfl hi';have hs:after (l.take (i+1)) h=after (l.take i) h++(if cH h l[i]=true then [l[i]] else []):=by
    unfold after;rw[ER hi',F1];by_cases hp:cH h l[i]=true
    ·rw[if_pos hp,Fy hp]; rfl
    ·rw[if_neg hp,Ft hp]; rfl
   have ha:(after (l.take i) h).length≤i:=by
    refine EQ (FK _ _) ?_;rw[E3]; omega
   generalize l[i]=x at *
   refine .intro (by omega) (X1 _ hx ?_);refine .intro (by rw[ac]; omega) ?_;refine .intro (by rw[ac]; omega) ?_;rw[ac,ac];refine X1 ((h.length+1:Nat):Int) (wI (by simp) (by omega) (by omega)) ?_;have skip:cH h x=false→after (l.take (i+1)) h=after (l.take i) h:=λhp=>by rw[hs,if_neg (by rw[hp]; simp),GB]
   refine aT (λh6=>?_) (λh6=>?_)
   ·have h6':x.1.length=h.length+1:=by omega
    refine .intro (by rw[ac]; omega) ?_;rw[ac];refine ⟨0,h.length,by simp,by simp,by omega,by rw[ac]; omega,?_⟩;rw[iRow_sub,Gd,Gy];refine X1 _ (mQ _ h (by rw[E3]; omega) hh) ?_;refine ah (λh7=>?_) (λh7=>?_)
    ·have h7':x.1.take h.length=h:=h7;have hp:cH h x=true:=by unfold cH; rw[decide_eq_true h6',decide_eq_true h7']; rfl
     rw[if_pos hp]at hs;refine .intro (by omega) (X1 _ hx ?_);refine ⟨cRow_len.symm,by rw[cRow_len]; show ((after (l.take i) h).length+1+768)*32≤_; omega,by rw[cRow_len]; show (after (l.take i) h).length+1≤_; omega,bu,aq rfl,?_⟩;refine X1 ((i+1:Nat):Int) (wI1 (by omega)) ?_;exact ⟨i+1,by omega,by omega,⟨rfl,rfl,rfl,owE (by rw[hs,EL,EL,cRow_len]; rfl),rfl,HT⟩,⟨rfl,aB (by rw[hs,←eQ]; rfl),HT⟩⟩
    ·have h7':¬ x.1.take h.length=h:=h7;have hp:cH h x=false:=by unfold cH; rw[decide_eq_false h7',Hy]
     refine X1 ((i+1:Nat):Int) (wI1 (by omega)) ?_;exact ⟨i+1,by omega,by omega,⟨rfl,rfl,rfl,owE (by rw[skip hp]),rfl,HT⟩,⟨rfl,aB (by rw[skip hp]),HT⟩⟩
   ·have hp:cH h x=false:=by unfold cH; rw[decide_eq_false (λh=>h6 (by omega)),HK]
    refine X1 ((i+1:Nat):Int) (wI1 (by omega)) ?_;exact ⟨i+1,by omega,by omega,⟨rfl,rfl,rfl,owE (by rw[skip hp]),rfl,HT⟩,⟨rfl,aB (by rw[skip hp]),HT⟩⟩
  ·have e:i=l.length:=by omega
   subst e;refine ⟨(),HT,⟨rfl,owE (by rw[Fp]),HT⟩,⟨rfl,aB (by rw[Fp]),HT⟩⟩
 ·refine AE aj aa [50] ?_;refine X1 _ (se (after l h) (hl.filter _) (Hv (dh _ l) ht)) ?_;exact ⟨HT,rc rfl,HT⟩
end
section
def dz (l:List Cnt):List PC:=[eI .i64 (tys l),eI .i64 (tot l),eI .i64 0,eI .i64 (num l 1),eI .i64 (num l 2),eI .i64 (num l 3),eI .i64 (num l 4)]
theorem yZ {l:List Cnt} {x:Cnt} (h:aX x=false):dz (l++[x])=dz l:=by
 unfold dz; rw[Cr h,Cs h,dH (.inl h),dH (.inl h),dH (.inl h),dH (.inl h)]
theorem sf (a:List Cnt) (x:Cnt) (ha:a.length≤1000000) (hx:x.1.length≤1000000) (ht:tot (a++[x])≤4611686018427387904) :
  CtO P 134 [(1000000,some (.var (dz a)))] [.c (.ad 1000000 0),.ag [iSl x.1,eI .i64 x.2]] [(1000000,some (.var (dz (a++[x]))))] []:=by
 have t2:=yX a;have t3:=cG a;have t4:=yY a;refine Ct.io aj aa (N:=50) Tryz.func134 rfl rfl rfl rfl ?_;refine ah (λh1=>?_) (λh1=>?_)
 ·have hlv:aX x=false:=by unfold aX; rw[decide_eq_true h1]; rfl
  rw[yZ hlv];exact ⟨HT,SubO.of (l:=[(1000000,.var _)]) ⟨rfl,HT⟩,HT⟩
 ·refine .intro (by rw[ac]; omega) ?_;rw[ac];refine aT (λh2=>?_) (λh2=>?_)
  ·refine .intro (by omega) (X1 _ (bm (n:=0) rfl (by omega)) ?_);refine aT (λh3=>?_) (λh3=>?_)
   ·have hx1:x.1=[1]:=by
     obtain ⟨g,n⟩:=x
     match g,h2,h3 with
     | [v],_,h3=>simp at h3; simp[h3]
    have hlv:aX x=false:=by unfold aX; rw[decide_eq_true hx1,Bool.not_true,Hy]
    rw[yZ hlv];exact ⟨HT,SubO.of (l:=[(1000000,.var _)]) ⟨rfl,HT⟩,HT⟩
   ·have hlv:aX x=true:=by
     have:¬ x.1=[1]:=λh=>h3 (by rw[h]; rfl)
     unfold aX; rw[decide_eq_false h1,decide_eq_false this]; rfl
    rw[eD hlv]at ht;refine X1 (tys a+1) (wI rfl (by omega) (by omega)) ?_;refine X1 (tot a+x.2) (wI rfl (by omega) (by omega)) ?_;refine .intro rfl ?_;refine ah (λh8=>?_) (λh8=>?_)
    ·have h9:x.2=1∨x.2=2∨x.2=3∨x.2=4:=by omega
     rcases h9 with h9 | h9 | h9 | h9
     ·have q1:=t4 1;have hc:dz (a++[x])=[eI .i64 (tys a+1),eI .i64 (tot a+1),eI .i64 0,eI .i64 (num a 1+1),eI .i64 (num a 2),eI .i64 (num a 3),eI .i64 (num a 4)]:=by
       unfold dz; rw[fF hlv,eD hlv,bY hlv,bY hlv,bY hlv,bY hlv,h9]; simp
      rw[hc];rw[h9] at *
      refine .intro (by omega) (.intro (by omega) ?_);refine X1 (num a 1+1) (wI rfl (by omega) (by omega)) ?_;refine .intro (by omega) (.intro (by omega) ?_);refine .intro rfl ?_;exact ⟨HT,SubO.of (l:=[(1000000,.var _)]) ⟨rfl,HT⟩,HT⟩
     ·have q1:=t4 2;have hc:dz (a++[x])=[eI .i64 (tys a+1),eI .i64 (tot a+2),eI .i64 0,eI .i64 (num a 1),eI .i64 (num a 2+1),eI .i64 (num a 3),eI .i64 (num a 4)]:=by
       unfold dz; rw[fF hlv,eD hlv,bY hlv,bY hlv,bY hlv,bY hlv,h9]; simp
      rw[hc];rw[h9] at *
      refine .intro (by omega) (.intro (by omega) ?_);refine X1 (num a 2+1) (wI rfl (by omega) (by omega)) ?_;refine .intro (by omega) (.intro (by omega) ?_);refine .intro rfl ?_;exact ⟨HT,SubO.of (l:=[(1000000,.var _)]) ⟨rfl,HT⟩,HT⟩
     ·have q1:=t4 3;have hc:dz (a++[x])=[eI .i64 (tys a+1),eI .i64 (tot a+3),eI .i64 0,eI .i64 (num a 1),eI .i64 (num a 2),eI .i64 (num a 3+1),eI .i64 (num a 4)]:=by
       unfold dz; rw[fF hlv,eD hlv,bY hlv,bY hlv,bY hlv,bY hlv,h9]; simp
      rw[hc];rw[h9] at *
      refine .intro (by omega) (.intro (by omega) ?_);refine X1 (num a 3+1) (wI rfl (by omega) (by omega)) ?_;refine .intro (by omega) (.intro (by omega) ?_);refine .intro rfl ?_;exact ⟨HT,SubO.of (l:=[(1000000,.var _)]) ⟨rfl,HT⟩,HT⟩
     ·have q1:=t4 4;have hc:dz (a++[x])=[eI .i64 (tys a+1),eI .i64 (tot a+4),eI .i64 0,eI .i64 (num a 1),eI .i64 (num a 2),eI .i64 (num a 3),eI .i64 (num a 4+1)]:=by
       unfold dz; rw[fF hlv,eD hlv,bY hlv,bY hlv,bY hlv,bY hlv,h9]; simp
      rw[hc];rw[h9] at *
      refine .intro (by omega) (.intro (by omega) ?_);refine X1 (num a 4+1) (wI rfl (by omega) (by omega)) ?_;refine .intro (by omega) (.intro (by omega) ?_);refine .intro rfl ?_;exact ⟨HT,SubO.of (l:=[(1000000,.var _)]) ⟨rfl,HT⟩,HT⟩
    ·have hc:dz (a++[x])=[eI .i64 (tys a+1),eI .i64 (tot a+x.2),eI .i64 0,eI .i64 (num a 1),eI .i64 (num a 2),eI .i64 (num a 3),eI .i64 (num a 4)]:=by
      unfold dz; rw[fF hlv,eD hlv,dH (.inr (by omega)),dH (.inr (by omega)),dH (.inr (by omega)),dH (.inr (by omega))]
     rw[hc];exact ⟨HT,SubO.of (l:=[(1000000,.var _)]) ⟨rfl,HT⟩,HT⟩
  ·have hlv:aX x=true:=by
    have:¬ x.1=[1]:=λh=>h2 (by rw[h]; rfl)
    unfold aX; rw[decide_eq_false h1,decide_eq_false this]; rfl
   rw[eD hlv]at ht;refine X1 (tys a+1) (wI rfl (by omega) (by omega)) ?_;refine X1 (tot a+x.2) (wI rfl (by omega) (by omega)) ?_;refine .intro rfl ?_;refine ah (λh8=>?_) (λh8=>?_)
   ·have h9:x.2=1∨x.2=2∨x.2=3∨x.2=4:=by omega
    rcases h9 with h9 | h9 | h9 | h9
    ·have q1:=t4 1;have hc:dz (a++[x])=[eI .i64 (tys a+1),eI .i64 (tot a+1),eI .i64 0,eI .i64 (num a 1+1),eI .i64 (num a 2),eI .i64 (num a 3),eI .i64 (num a 4)]:=by
      unfold dz; rw[fF hlv,eD hlv,bY hlv,bY hlv,bY hlv,bY hlv,h9]; simp
     rw[hc];rw[h9] at *
     refine .intro (by omega) (.intro (by omega) ?_);refine X1 (num a 1+1) (wI rfl (by omega) (by omega)) ?_;refine .intro (by omega) (.intro (by omega) ?_);refine .intro rfl ?_;exact ⟨HT,SubO.of (l:=[(1000000,.var _)]) ⟨rfl,HT⟩,HT⟩
    ·have q1:=t4 2;have hc:dz (a++[x])=[eI .i64 (tys a+1),eI .i64 (tot a+2),eI .i64 0,eI .i64 (num a 1),eI .i64 (num a 2+1),eI .i64 (num a 3),eI .i64 (num a 4)]:=by
      unfold dz; rw[fF hlv,eD hlv,bY hlv,bY hlv,bY hlv,bY hlv,h9]; simp
     rw[hc];rw[h9] at *
     refine .intro (by omega) (.intro (by omega) ?_);refine X1 (num a 2+1) (wI rfl (by omega) (by omega)) ?_;refine .intro (by omega) (.intro (by omega) ?_);refine .intro rfl ?_;exact ⟨HT,SubO.of (l:=[(1000000,.var _)]) ⟨rfl,HT⟩,HT⟩
    ·have q1:=t4 3;have hc:dz (a++[x])=[eI .i64 (tys a+1),eI .i64 (tot a+3),eI .i64 0,eI .i64 (num a 1),eI .i64 (num a 2),eI .i64 (num a 3+1),eI .i64 (num a 4)]:=by
      unfold dz; rw[fF hlv,eD hlv,bY hlv,bY hlv,bY hlv,bY hlv,h9]; simp
     rw[hc];rw[h9] at *
     refine .intro (by omega) (.intro (by omega) ?_);refine X1 (num a 3+1) (wI rfl (by omega) (by omega)) ?_;refine .intro (by omega) (.intro (by omega) ?_);refine .intro rfl ?_;exact ⟨HT,SubO.of (l:=[(1000000,.var _)]) ⟨rfl,HT⟩,HT⟩
    ·have q1:=t4 4;have hc:dz (a++[x])=[eI .i64 (tys a+1),eI .i64 (tot a+4),eI .i64 0,eI .i64 (num a 1),eI .i64 (num a 2),eI .i64 (num a 3),eI .i64 (num a 4+1)]:=by
      unfold dz; rw[fF hlv,eD hlv,bY hlv,bY hlv,bY hlv,bY hlv,h9]; simp
     rw[hc];rw[h9] at *
     refine .intro (by omega) (.intro (by omega) ?_);refine X1 (num a 4+1) (wI rfl (by omega) (by omega)) ?_;refine .intro (by omega) (.intro (by omega) ?_);refine .intro rfl ?_;exact ⟨HT,SubO.of (l:=[(1000000,.var _)]) ⟨rfl,HT⟩,HT⟩
   ·have hc:dz (a++[x])=[eI .i64 (tys a+1),eI .i64 (tot a+x.2),eI .i64 0,eI .i64 (num a 1),eI .i64 (num a 2),eI .i64 (num a 3),eI .i64 (num a 4)]:=by
     unfold dz; rw[fF hlv,eD hlv,dH (.inr (by omega)),dH (.inr (by omega)),dH (.inr (by omega)),dH (.inr (by omega))]
    rw[hc];exact ⟨HT,SubO.of (l:=[(1000000,.var _)]) ⟨rfl,HT⟩,HT⟩
theorem Bo (l:List Cnt) (hl:CLim l) (ht:tot l≤4611686018427387904):Ct P 86 [.c (cSl l)] [.ag (dz l)]:=by
 have hll:=hl.len;refine Ct.go aj aa (N:=16) Tryz.func86 rfl rfl rfl rfl ?_;refine .intro (by rw[cRow_len]; omega) ?_;rw[cRow_len];refine aw aj aa (λi:Nat=>i≤l.length) (λi=>[(2,.c (.ad 2 0)),(3,.c (.ad 3 0)),(6,.c (cSl l)),(7,.c (nI .i64 l.length)),(8,.c (nI .i64 i))])
  (λi=>[(2,.var [eI .i64 0,eI .i64 0,eI .i64 0,eI .i64 0,eI .i64 0,eI .i64 0,eI .i64 0]),(3,.var (dz (l.take i)))]) (λi=>l.length-i)
  0 (by omega) ⟨rfl,rfl,rfl,rfl,rfl,HT⟩ ⟨rfl,rfl,HT⟩ (λ_:Unit=>True) (λ_=>[(2,.c (.ad 2 0)),(3,.c (.ad 3 0))])
  (λ_=>[(2,.var [eI .i64 0,eI .i64 0,eI .i64 0,eI .i64 0,eI .i64 0,eI .i64 0,eI .i64 0]),(3,.var (dz l))]) (λi hi=>?_) (λ_ _=>?_)
 ·refine ah (λh5=>?_) (λh5=>?_)
  ·have hi':i<l.length:=by omega
   have hxl:=hl.at' hi';have hx:=bs (l:=l) (i:=(i:Int)) (n:=i) rfl hi';have hs:l.take (i+1)=l.take i++[l[i]]:=ER hi';have t1:=n8 l (i+1);have hal:(l.take i).length≤1000000:=by rw[E3]; omega
   rw[hs]at t1;generalize l[i]=x at *
   generalize l.take i=a at *
   refine .intro (by omega) (X1 _ hx ?_);refine X2 (.upd 3) ?_;refine ⟨_,_,sf a x hal hxl (by omega),?_⟩;refine X1 ((i+1:Nat):Int) (wI1 (by omega)) ?_;exact ⟨i+1,by omega,by omega,⟨rfl,rfl,rfl,rfl,rfl,HT⟩,⟨rfl,by rw[hs]; rfl,HT⟩⟩
  ·have e:i=l.length:=by omega
   subst e;rw[Fp];exact ⟨(),HT,⟨rfl,rfl,HT⟩,⟨rfl,rfl,HT⟩⟩
 ·exact ⟨HT,rc rfl,HT⟩
end
end Go.Proofs.YtgceikecdedfcaaGreat.Pv
