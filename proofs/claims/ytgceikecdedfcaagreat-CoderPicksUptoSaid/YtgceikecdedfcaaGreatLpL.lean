/- Parts of a proof, joined: Eo Ep Ce Cg Ci Cj. -/
import Derived.Test.YtgceikecdedfcaaGreatLpK
namespace Go.Proofs.YtgceikecdedfcaaGreat.Pv
open Go Go.Sort
theorem place (g:List Int):∀ (l:List Cnt),dY l→∃ k,k≤l.length∧(∀ (i:Nat) (hi:i<l.length),i<k→aG l[i].1 g<0)∧∀ (i:Nat) (hi:i<l.length),k≤i→¬ aG l[i].1 g<0
 | [],_=>⟨0,by simp,λi hi=>by simp at hi,λi hi=>by simp at hi⟩
 | x::l,hr=>by
  obtain ⟨k,h0,h1,h2⟩:=place g l (List.Pairwise.of_cons hr);by_cases hx:aG x.1 g<0
  ·refine ⟨k+1,by simp; omega,λi hi hik=>?_,λi hi hik=>?_⟩
   ·cases i with
    | zero=>exact hx
    | succ i=>exact h1 i (by simpa using hi) (by omega)
   ·cases i with
    | zero=>omega
    | succ i=>exact h2 i (by simpa using hi) (by omega)
  ·refine ⟨0,by simp,λi hi hik=>by omega,λi hi _ hlt=>?_⟩
   cases i with
   | zero=>exact hx hlt
   | succ i=>exact hx (dj ((F8.1 hr).1 _ (EI (by simpa using hi))) hlt)
theorem pn (l:List Cnt) (g:List Int) (hl:CLim l) (hg:g.length≤1000000) (hr:dY l):Ct P 129 [.c (cSl l),.c (iSl g)] [.c (eI .i64 (ct g l))]:=by
 obtain ⟨k,h0,h1,h2⟩:=place g l hr;have e:(if atK l g k=true then (k:Int) else -1)=ct g l:=by
  unfold atK;rcases Fm k l.length with hk | hk
  ·rw[ES hk];simp only[beq_iff_eq];split
   ·rename_i h;have hkg:=lA h;exact (ly g l k hk (λj hj he=>by
     have:=h1 j (by omega) hj;rw[he,dX]at this; omega) hkg).symm
   ·rename_i h;refine (fo g l λj hj he=>?_).symm;rcases FP j k with hjk | hjk | hjk
    ·have:=h1 j hj hjk;rw[he,dX]at this; omega
    ·subst hjk;rw[he,dX]at h; exact h rfl
    ·have:=(List.pairwise_iff_getElem.1 hr) k j hk hj hjk;rw[he]at this;exact h2 k hk (Ew _) this
  ·rw[ET hk];refine (if_neg (by simp)).trans (fo g l λj hj he=>?_).symm;have:=h1 j hj (by omega);rw[he,dX]at this; omega
 rw[←e];exact yK l g k hl hg h0 h1 h2
theorem sn (g:List Int):∀ {l:List Cnt},(∃ x,x∈l∧x.1=g)→∃ (i:Nat) (hi:i<l.length),ct g l=i∧l[i].1=g
 | [],⟨x,hx,_⟩=>by simp at hx
 | y::l,⟨x,hx,he⟩=>by
  by_cases h:y.1=g
  ·exact ⟨0,by simp,by rw[ct,if_pos h]; rfl,h⟩
  ·rcases E9.1 hx with rfl | hx
   ·exact absurd he h
   ·obtain ⟨i,hi,h1,h2⟩:=sn g ⟨x,hx,he⟩;exact ⟨i+1,by simp; omega,by rw[ct,if_neg h,h1,if_neg (by omega)]; simp,h2⟩
theorem so {α:Type} [Inhabited α] {ltf:α→α→Bool} {d:Array α} (h:SortedIn ltf 0 d.size d):d.toList.Pairwise λx y=>ltf y x=false:=by
 rw[List.pairwise_iff_getElem];intro i j hi hj hij;have hi':i<d.size:=by simpa using hi
 have hj':j<d.size:=by simpa using hj
 have:=h i j (by omega) hij hj';simpa [hi',hj'] using this
theorem yV (s:List (List Int)) (h:∀ g,g∈s→g.length≤1000000):(ek s h).Pairwise λa b=>¬ rlt b a:=by
 have h1:=(SrtI.sort_spec 168 cmE kF (swo_of λx:SrtI.El=>x.1.reverse) (mkI s h)).2;have h2:=(SrtI.sort_spec 168 cmE kF (swo_of λx:SrtI.El=>x.1.reverse) (mkI s h)).1.length_eq;unfold ek;rw[show (mkI s h).size=(Sort.sort (SrtI.lt cmE) (mkI s h)).size by simpa using h2.symm]at h1;refine List.pairwise_map.2 ((so h1).imp λ{a b} hab=>?_);simpa [SrtI.lt] using hab
theorem yW (s:List Cnt) (h:∀ x,x∈s→x.1.length≤1000000):(kI s h).Pairwise λa b=>¬ aG b.1 a.1<0:=by
 have h1:=(SrtC.sort_spec 172 cmG kG (swo_of λx:SrtC.El=>x.1.1) (mkC s h)).2;have h2:=(SrtC.sort_spec 172 cmG kG (swo_of λx:SrtC.El=>x.1.1) (mkC s h)).1.length_eq;unfold kI;rw[show (mkC s h).size=(Sort.sort (SrtC.lt cmG) (mkC s h)).size by simpa using h2.symm]at h1;refine List.pairwise_map.2 ((so h1).imp λ{a b} hab=>?_);simpa [SrtC.lt] using hab
structure EndsOk (l E:List Cnt):Prop where
 lim:CLim E
 rises:dY E
 cnt:∀ x,x∈E→x.2=((bU l).count x.1:Int)
 all:∀ g,g∈bU l→∃ x,x∈E∧x.1=g
 only:∀ x,x∈E→x.1∈bU l
theorem yX (l:List Cnt) (hl:CLim l):EndsOk l (si l hl):=by
 have hg:=yU _ _ rfl (yV (bU l) (aX hl));have hlen:=(mI _ (ek (bU l) (aX hl)) rfl).1;have hpI:=jJ (bU l) (aX hl);have hpC:=tX (grp (ek (bU l) (aX hl))) (fj hl);have hup:=yW (grp (ek (bU l) (aX hl))) (fj hl);have hlim:=fj hl;have hE:si l hl=kI (grp (ek (bU l) (aX hl))) (fj hl):=rfl;rw[hE];generalize kI (grp (ek (bU l) (aX hl))) (fj hl)=E at *
 have hsl:(ek (bU l) (aX hl)).length=l.length:=by rw[hpI.length_eq]; simp
 generalize ek (bU l) (aX hl)=s at *
 have hll:=hl.len;refine ⟨⟨by rw[hpC.length_eq]; omega,λx hx=>hlim x (hpC.subset hx)⟩,?_,λx hx=>?_,λg hgm=>?_,λx hx=>?_⟩
 ·have hne:E.Pairwise λx y=>x.1≠y.1:=(List.Perm.pairwise_iff (λ{a b} (h:a.1≠b.1)=>h.symm) hpC).2 (hg.up.imp λ{a b} h e=>by rw[e]at h; exact mJ _ h)
  refine (hup.and hne).imp λ{a b} h=>?_
  have h1:=h.1;have h3:=eR a.1 b.1;apply Classical.byContradiction;intro h2;exact h.2 (lA (by omega))
 ·rw[(hg.cnt x (hpC.subset hx)).2,hpI.count_eq]
 ·obtain ⟨x,hx,he⟩:=hg.all g (hpI.mem_iff.2 hgm);exact ⟨x,hpC.mem_iff.2 hx,he⟩
 ·exact hpI.mem_iff.1 (hg.cnt x (hpC.subset hx)).1
theorem sq {l:List Cnt} {n:Nat} (hf:∀ x,x∈l→x.1.length=n+1) {g:List Int} (hg:g.length=n):(bU l).count g=ahead l g:=by
 unfold bU ahead;rw[List.count_eq_countP,List.countP_map,List.countP_eq_length_filter];congr 1;refine List.filter_congr λx hx=>?_
 rw[decide_eq_true (show x.1.length=g.length+1 by rw[hf x hx,hg]),Bool.true_and];simp only[Function.comp];by_cases h:x.1.drop 1=g
 ·rw[decide_eq_true h]; simpa using h
 ·rw[decide_eq_false h]; simpa using h
theorem v5 {l E:List Cnt} (hE:EndsOk l E) {n:Nat} (hf:∀ x,x∈l→x.1.length=n+1) {g:List Int} (hg:g.length=n) :
  (∃ (i:Nat) (hi:i<E.length),ct g E=i∧E[i].2=(ahead l g:Int))∨(ct g E = -1∧ahead l g=0):=by
 rw[←sq hf hg];by_cases h:g∈bU l
 ·obtain ⟨i,hi,h1,h2⟩:=sn g (hE.all g h);exact .inl ⟨i,hi,h1,by rw[hE.cnt _ (EI hi),h2]⟩
 ·refine .inr ⟨fo g E λj hj he=>h (he▸hE.only _ (EI hj)),List.count_eq_zero.2 h⟩
theorem Ck {sz:Nat} {a b:List (List PC)} {i j:List Nat} (h:a=b) (h2:i=j):(some (.rowO sz a i):Option Ob)=some (.rowO sz b j):=by rw[h,h2]
theorem Eh {A:List (List Cnt)} {l:List Cnt} {m:Nat} (hm:1≤m):(a8 A++List.replicate m fG).set A.length [cSl l]=a8 (A++[l])++List.replicate (m-1) fG:=by
 obtain ⟨m,rfl⟩:∃ k,m=k+1:=⟨m-1,by omega⟩;rw[List.replicate_succ,List.set_append_right _ _ (by simp[a8])];simp[a8]
theorem Ei {A:List (List Cnt)} {m:Nat} (hm:1≤m):(a8 A++List.replicate m fG)[A.length]? = some fG:=by
 obtain ⟨m,rfl⟩:∃ k,m=k+1:=⟨m-1,by omega⟩;rw[ED (by simp[a8])];simp[a8]
theorem Cl (A:List (List Cnt)) (m:Nat):aA (a8 A++List.replicate m fG):=by
 intro el h;rcases Fe.1 h with h | h
 ·exact kz el h
 ·rw[Fv h]; rfl
theorem Ej {base:List (List PC)} {n k r sz q:Nat} {el':List PC} (hbc:aA base) (hbl:n<base.length) (he:el'∈((base.set n [.ow k r sz]).set n (spl [.ow k r sz] 0 (List.replicate 1 .dead)))) (hm:cW q el'=true):bF q []=true:=by
 have e:spl [PC.ow k r sz] 0 (List.replicate 1 .dead)=[PC.dead]:=rfl;rw[Ho,e]at he;rcases GN he with he | he
 ·rw[cW,closedL_ment (hbc el' he)]at hm; cases hm
 ·subst he; cases hm
theorem Ek {base:List (List PC)} {n:Nat} {a b c:List PC}:((base.set n a).set n b).set n c=base.set n c:=by rw[Ho,Ho]
theorem CS (V:Objs) (A:List (List Cnt)) (m:Nat):(a8 A++List.replicate m fG).map (·.map (d8 3 V))=a8 A++List.replicate m fG:=by
 rw[FG,List.map_replicate];congr 1;unfold a8;rw[List.map_map];rfl
theorem bx (L:List (List Cnt)):(ao L).length=L.length:=by simp[ao]
theorem po {L:List (List Cnt)} {n:Nat} (h:n<L.length):(ao L)[n]'(by rw[bx]; exact h)=L[n].map (cL L n):=by
 simp[ao,h]
theorem sr {L:List (List Cnt)} {n:Nat} (h:n<L.length):(ao L).take (n+1)=(ao L).take n++[L[n].map (cL L n)]:=by
 rw[EB (by rw[bx]; exact h),po h]
theorem tY (L:List (List Cnt)) (hL:CCLim L) (h:fD L=0):Ct P 83 [.c (cK L)] [.c (cK (ao L)),.c (eI .i64 0)]:=by
 have hok:=sj h;have h8:=hok.len8;refine Ct.go aj aa (N:=89) Tryz.func83 rfl rfl rfl rfl ?_;refine X1 _ (vV L hL) ?_;refine ez (λh2=>absurd h h2) (λ_=>?_);refine .intro (by rw[ar]; omega) ?_;rw[ar];refine .intro (by omega) (.intro (by omega) (.intro (by omega) (.intro ?_ ?_)))
 ·exact .inr (by show (L.length:Int)*24≤_; omega)
 refine .intro (by rw[ar]; omega) ?_;rw[ar];refine yM (λn:Nat=>n≤L.length) (λn=>[(0,.c (cK L)),(5,.c (.ow 20 1 L.length)),(21,.c (cK L)),(22,.c (nI .i64 L.length)),(23,.c (nI .i64 n))]) (λn=>[(20,.row 1 (a8 ((ao L).take n)++List.replicate (L.length-n) fG))]) (λn=>L.length-n)
  0 (by omega) ⟨rfl,by rw[EX]; rfl,rfl,rfl,rfl,HB⟩ ⟨by rw[EX]; rfl,HB⟩ (λ_:Unit=>True) (λ_=>[(5,.c (.ow 20 1 L.length))]) (λ_=>[(20,.row 1 (a8 (ao L)))]) (λn hn=>?_) (λ_ _=>?_)
 ·refine dR aj aa ?_;refine dR aj aa ?_;refine ae (λh5=>?_) (λh5=>?_)
  ·have hn':n<L.length:=by omega
   have hLn:=hL.at' hn';have hff:=hok.form n hn';refine vZ (nT ?_);refine dR aj aa ?_;refine .intro (by omega) (X1 _ (bK rfl hn') ?_);refine dR aj aa ?_;refine Aw (t:=8) (sz:=2) rfl ?_;refine kD aj aa (G2:=List Cnt) (λv=>n+1<L.length→EndsOk (L.getD (n+1) []) v)
    (λv=>[(0,.c (cK L)),(5,.c (.ow 20 1 L.length)),(6,.c (nI .i64 n)),(7,.c (cSl L[n])),(8,.c (cSl v)),(21,.c (cK L)),(22,.c (nI .i64 L.length)),(23,.c (nI .i64 n))]) (λ_=>[(20,.row 1 (a8 ((ao L).take n)++List.replicate (L.length-n) fG))]) ?_ (λv hv=>?_)
   ·refine X1 ((n+1:Nat):Int) (wI (by simp) (by omega) (by omega)) ?_;refine .intro (by rw[ar]; omega) ?_;rw[ar];refine ae (λh6=>?_) (λh6=>?_)
    ·have hn1:n+1<L.length:=by omega
     refine X1 ((n+1:Nat):Int) (wI (by simp) (by omega) (by omega)) ?_;refine .intro (by omega) (X1 _ (bK rfl hn1) ?_);refine X1 _ (yT L[n+1] (hL.at' hn1) (λx hx=>by have:=(hok.form (n+1) hn1 x hx).1; omega)) ?_;exact ⟨si L[n+1] (hL.at' hn1),λ_=>by rw[show L.getD (n+1) []=L[n+1] by simp[Ev,hn1]]; exact yX L[n+1] (hL.at' hn1),⟨rfl,rfl,rfl,rfl,rfl,rfl,rfl,rfl,HB⟩,⟨rfl,HB⟩⟩
    ·exact ⟨[],λh=>absurd h (by omega),⟨rfl,rfl,rfl,rfl,rfl,rfl,rfl,rfl,HB⟩,⟨rfl,HB⟩⟩
   ·have hbl:n<(a8 ((ao L).take n)++List.replicate (L.length-n) fG).length:=by
     rw[Ey,ar,EJ,bx,GE]; omega
    have hct:((ao L).take n).length=n:=by rw[EJ,bx]; omega
    have hbg:(a8 ((ao L).take n)++List.replicate (L.length-n) fG)[n]? = some fG:=by
     have:=Ei (A:=(ao L).take n) (m:=L.length-n) (by omega);rwa [hct]at this
    have hbc:=Cl ((ao L).take n) (L.length-n);have hend:∀ l':List Cnt,l'=L[n].map (cL L n)→(a8 ((ao L).take n)++List.replicate (L.length-n) fG).set n [cSl l']=a8 ((ao L).take (n+1))++List.replicate (L.length-(n+1)) fG:=λl' hl'=>by
     have:=Eh (A:=(ao L).take n) (l:=l') (m:=L.length-n) (by omega);rw[hct]at this;rw[this,hl',sr hn'];rfl
    have hvw:∀ V:Objs,(a8 ((ao L).take n)++List.replicate (L.length-n) fG).map (·.map (d8 3 V))=a8 ((ao L).take n)++List.replicate (L.length-n) fG:=λV=>CS V _ _
    have hahd:n+1<L.length→∀ x,x∈L.getD (n+1) []→x.1.length=n+2:=λhn1 x hx=>by
     rw[show L.getD (n+1) []=L[n+1] by simp[Ev,hn1]]at hx;exact (hok.form (n+1) hn1 x hx).1
    have hahl:n+1<L.length→(L.getD (n+1) []).length≤1000000:=λhn1=>by
     rw[show L.getD (n+1) []=L[n+1] by simp[Ev,hn1]];exact (hL.at' hn1).len
    generalize L[n]=l at *
    generalize (a8 ((ao L).take n)++List.replicate (L.length-n) fG)=base at *
    have hll:=hLn.len;refine DL (r:=84) (k:=20) (sz':=2) rfl (by omega) rfl hbg hbc ?_;refine dR aj aa ?_;refine .intro (by rw[cRow_len]; omega) ?_;rw[cRow_len];refine yL (λj:Nat=>j≤l.length) (λj=>[(0,.c (cK L)),(5,.c (.ow 20 1 L.length)),(6,.c (nI .i64 n)),(8,.c (cSl v)),(21,.c (cK L)),(22,.c (nI .i64 L.length)),(23,.c (nI .i64 n)),(39,.c (cSl l)),(40,.c (nI .i64 l.length)),(41,.c (nI .i64 j))])
     (λj=>[(20,.rowO 1 (base.set n [.ow 84 2 j]) [84]),(84,.row 2 (cj ((l.take j).map (cL L n))))]) (λj=>l.length-j)
     0 (by omega) ⟨rfl,rfl,rfl,rfl,rfl,rfl,rfl,rfl,rfl,rfl,HB⟩ ⟨rfl,rfl,HB⟩ (λj hj=>?_)
    refine dR aj aa ?_;refine dR aj aa ?_;refine ae (λh7=>?_) (λh7=>?_)
    ·have hj':j<l.length:=by omega
     have hsn:l.take (j+1)=l.take j++[l[j]]:=EB hj';have hx:=bq (l:=l) (i:=(j:Int)) (n:=j) rfl hj';have hxf:=hff l[j] (EI hj');have hxl:=hLn.at' hj';have hcj:(l.take j).length=j:=by rw[EJ]; omega
     generalize l[j]=x at *
     refine vZ (nT ?_);refine dR aj aa ?_;refine .intro (by omega) (X1 _ hx ?_);refine dR aj aa ?_;refine X1 _ (iX x.1 hxl) ?_;refine .intro rfl ?_;refine kD aj aa (G2:=Cnt) (λc=>c=cL L n x) (λ_=>[(0,.c (cK L)),(5,.c (.ow 20 1 L.length)),(6,.c (nI .i64 n)),(8,.c (cSl v)),(11,.c (.ad 11 0)),(21,.c (cK L)),(22,.c (nI .i64 L.length)),(23,.c (nI .i64 n)),(39,.c (cSl l)),(40,.c (nI .i64 l.length)),(41,.c (nI .i64 j))])
      (λc=>[(11,.var [iSl c.1,eI .i64 c.2]),(20,.rowO 1 (base.set n [.ow 84 2 j]) [84]),(84,.row 2 (cj ((l.take j).map (cL L n))))]) ?_ (λc hce=>?_)
     ·refine X1 ((n+1:Nat):Int) (wI (by simp) (by omega) (by omega)) ?_;refine .intro (by rw[ar]; omega) ?_;rw[ar];refine ae (λh6=>?_) (λh6=>?_)
      ·have hn1:n+1<L.length:=by omega
       have hE:=hv hn1;refine .intro (by omega) (X1 _ (bl (n:=0) rfl (by omega)) ?_);refine ez (λh9=>?_) (λh9=>?_)
       ·have hce:cL L n x=(x.1,(ahead (L.getD (n+1) []) x.1:Int)):=if_pos ⟨hn1,by simpa using h9⟩;have hfi:=v5 hE (n:=n+1) (hahd hn1) (g:=x.1) (by omega);refine X1 _ (pn v x.1 hE.lim hxl hE.rises) ?_;rcases hfi with ⟨i,hi,f1,f2⟩ | ⟨f1,f2⟩
        ·rw[f1];refine .intro (by omega) (X1 _ (bq (n:=i) rfl hi) ?_);rw[f2];exact ⟨(x.1,(ahead (L.getD (n+1) []) x.1:Int)),hce.symm,⟨rfl,rfl,rfl,rfl,rfl,rfl,rfl,rfl,rfl,rfl,rfl,HB⟩,⟨rfl,rfl,rfl,HB⟩⟩
        ·rw[f1];rw[f2]at hce;exact ⟨(x.1,0),hce.symm,⟨rfl,rfl,rfl,rfl,rfl,rfl,rfl,rfl,rfl,rfl,rfl,HB⟩,⟨rfl,rfl,rfl,HB⟩⟩
       ·have hce:cL L n x=x:=if_neg (λh=>h.2 (by simpa using h9));exact ⟨x,hce.symm,⟨rfl,rfl,rfl,rfl,rfl,rfl,rfl,rfl,rfl,rfl,rfl,HB⟩,⟨rfl,rfl,rfl,HB⟩⟩
      ·have hce:cL L n x=x:=if_neg (λh=>h6 (by omega));exact ⟨x,hce.symm,⟨rfl,rfl,rfl,rfl,rfl,rfl,rfl,rfl,rfl,rfl,rfl,HB⟩,⟨rfl,rfl,rfl,HB⟩⟩
     ·refine nH (Ty.own_ok [1000001,1000002] aj) aa ?_;refine .intro (by omega) (.intro (by omega) (X1 _ (List.getElem?_set_self hbl) ?_));refine X1 [] (λel' q he hm=>Ej hbc hbl he hm) ?_;refine ⟨by rw[cRow_len]; simp; omega,by rw[cRow_len]; simp only[Fl,EJ]; show (min j l.length+1+768)*32≤_; omega,by rw[cRow_len]; simp only[Fl,EJ]; show min j l.length+1≤_; omega,br,aw rfl,?_⟩;refine .intro (by omega) (.intro (by omega) (X1 _ (List.getElem?_set_self (by rw[Gu]; exact hbl)) ?_));refine .intro rfl ?_;refine nH aj aa ?_;refine X1 ((j+1:Nat):Int) (wI (by simp) (by omega) (by omega)) ?_;exact ⟨j+1,by omega,by omega,⟨rfl,rfl,rfl,rfl,rfl,rfl,rfl,rfl,rfl,rfl,HB⟩,⟨Ck ((Ek (base:=base) (n:=n) (a:=[PC.ow 84 2 j]) (b:=[PC.dead]) (c:=[PC.ow 84 2 _])).trans (congrArg (λk=>base.set n [PC.ow 84 2 k]) (by rw[Ey,cRow_len,Fl,hcj]; rfl))) rfl,aB (by rw[hsn,FG,←eP]; simp only[Fg,G0]; rw[←hce]; rfl),HB⟩⟩
    ·have hje:j=l.length:=by omega
     subst hje;refine DJ [84] ?_;refine DK (k:=20) (sz:=1) (els:=a8 ((ao L).take (n+1))++List.replicate (L.length-(n+1)) fG) (ids:=[84]) (Ck ?_ rfl) (Cl _ _) ?_
     ·rw[List.map_set,hvw];exact hend _ (by rw[Fd])
     ·refine nH aj aa ?_;refine X1 ((n+1:Nat):Int) (wI (by simp) (by omega) (by omega)) ?_;exact ⟨n+1,by omega,by omega,⟨rfl,rfl,rfl,rfl,rfl,HB⟩,⟨rfl,HB⟩⟩
  ·have e:n=L.length:=by omega
   subst e;exact ⟨(),HB,⟨rfl,HB⟩,⟨aB (by rw[E3 (by rw[bx]; exact Ew _)]; simp),HB⟩⟩
 ·refine nH aj aa ?_;have:L.length=(a8 (ao L)).length:=by rw[ar,bx]
  exact ⟨HB,r1 rfl,r1 rfl,HB⟩
end Go.Proofs.YtgceikecdedfcaaGreat.Pv
namespace Go.Proofs.YtgceikecdedfcaaGreat.Pv
open Go
section
theorem su {x:Nat} (hx:x<18446744073709551616):IntKind.u64.wrap ((BitVec.ofInt IntKind.u64.bits (x:Int)&&&BitVec.ofInt IntKind.u64.bits 4294967295).toNat:Int)=((x%4294967296:Nat):Int):=by
 have e:(BitVec.ofInt IntKind.u64.bits (x:Int)&&&BitVec.ofInt IntKind.u64.bits 4294967295).toNat=x%4294967296:=by
  show (BitVec.ofInt 64 (x:Int)&&&BitVec.ofInt 64 ((4294967295:Nat):Int)).toNat=_
  rw[BitVec.ofInt_natCast,BitVec.ofInt_natCast,BitVec.toNat_and,BitVec.toNat_ofNat,BitVec.toNat_ofNat,Fc (by omega:x<2^64),Fc (by omega:4294967295<2^64)];exact Nat.and_two_pow_sub_one_eq_mod x 32
 rw[e];exact wU rfl (by omega) (by omega)
theorem tZ {n:Nat}:IntKind.u64.wrap (n:Int)=((n%18446744073709551616:Nat):Int):=by
 simp[IntKind.wrap,IntKind.bits,IntKind.signed]
theorem nW (x y:Nat) (hx:x<18446744073709551616) (hy:y<18446744073709551616):Ct P 157 [.c (nI .u64 x),.c (nI .u64 y)] [.c (nI .u64 (x*y/18446744073709551616)),.c (nI .u64 (x*y%18446744073709551616))]:=by
 have q:x*y=(x/4294967296)*(y/4294967296)*18446744073709551616+(x/4294967296)*(y%4294967296)*4294967296+(x%4294967296)*(y/4294967296)*4294967296+(x%4294967296)*(y%4294967296):=by
  conv=>lhs; rw[←FF x 4294967296,←FF y 4294967296]
  simp only[EW,EO];have e1:4294967296*(x/4294967296)*(4294967296*(y/4294967296))=(x/4294967296)*(y/4294967296)*18446744073709551616:=by
   rw[Nat.mul_mul_mul_comm,EQ (4294967296*4294967296)]
  have e2:x%4294967296*(4294967296*(y/4294967296))=(x%4294967296)*(y/4294967296)*4294967296:=by rw[Fu,EQ 4294967296]
  have e3:4294967296*(x/4294967296)*(y%4294967296)=(x/4294967296)*(y%4294967296)*4294967296:=by rw[EL,EQ 4294967296]
  omega
 refine Ct.go aj aa (N:=51) Tryz.func157 rfl rfl rfl rfl ?_;refine X1 _ (su hx) ?_;refine .intro (by omega) (X1 ((x/4294967296:Nat):Int) (gb (k:=32) (by decide)) (.intro ⟨by omega,by omega⟩ ?_));refine X1 _ (su hy) ?_;refine .intro (by omega) (X1 ((y/4294967296:Nat):Int) (gb (k:=32) (by decide)) (.intro ⟨by omega,by omega⟩ ?_));have hx0:x%4294967296<4294967296:=by omega
 have hx1:x/4294967296<4294967296:=by omega
 have hy0:y%4294967296<4294967296:=by omega
 have hy1:y/4294967296<4294967296:=by omega
 generalize x%4294967296=x0 at *
 generalize x/4294967296=x1 at *
 generalize y%4294967296=y0 at *
 generalize y/4294967296=y1 at *
 have l00:x0*y0≤4294967295*4294967295:=FE (by omega) (by omega);have l01:x0*y1≤4294967295*4294967295:=FE (by omega) (by omega);have l10:x1*y0≤4294967295*4294967295:=FE (by omega) (by omega);have l11:x1*y1≤4294967295*4294967295:=FE (by omega) (by omega);refine X1 ((x0*y0:Nat):Int) (wU (by simp) (by omega) (by omega)) ?_;refine X1 ((x1*y0:Nat):Int) (wU (by simp) (by omega) (by omega)) ?_;refine .intro (by omega) (X1 ((x0*y0/4294967296:Nat):Int) (gb (k:=32) (by decide)) (.intro ⟨by omega,by omega⟩ ?_));obtain ⟨t,ht⟩:∃ t,t=x1*y0+x0*y0/4294967296:=⟨_,rfl⟩;refine X1 ((t:Nat):Int) (wU (by rw[ht]; simp) (by omega) (by omega)) ?_;refine X1 _ (su (by omega)) ?_;refine .intro (by omega) (X1 ((t/4294967296:Nat):Int) (gb (k:=32) (by decide)) (.intro ⟨by omega,by omega⟩ ?_));refine X1 ((x0*y1:Nat):Int) (wU (by simp) (by omega) (by omega)) ?_;obtain ⟨u,hu⟩:∃ u,u=t%4294967296+x0*y1:=⟨_,rfl⟩;refine X1 ((u:Nat):Int) (wU (by rw[hu]; simp) (by omega) (by omega)) ?_;refine X1 ((x1*y1:Nat):Int) (wU (by simp) (by omega) (by omega)) ?_;refine X1 ((x1*y1+t/4294967296:Nat):Int) (wU (by simp) (by omega) (by omega)) ?_;refine .intro (by omega) (X1 ((u/4294967296:Nat):Int) (gb (k:=32) (by decide)) (.intro ⟨by omega,by omega⟩ ?_));refine X1 ((x1*y1+t/4294967296+u/4294967296:Nat):Int) (wU (by simp) (by omega) (by omega)) ?_;refine X1 ((x*y%18446744073709551616:Nat):Int) (by rw[←tZ]; simp) ?_;exact ⟨HB,r1 (iE (by rw[show x*y/18446744073709551616=x1*y1+t/4294967296+u/4294967296 by omega])),r1 rfl,HB⟩
theorem yY {a b k:Nat} (ha:(dg 18446744073709551616 a).length≤k) (hb:(dg 18446744073709551616 b).length≤k):(dg 18446744073709551616 (a+b)).length≤k+1:=by
 apply cr (by omega);have h1:=EG (bA (B:=18446744073709551616) (by omega) a) (EK (by omega) ha);have h2:=EG (bA (B:=18446744073709551616) (by omega) b) (EK (by omega) hb);rw[Ff];omega
theorem mK (a0 b0:Nat) (ha:(dg 18446744073709551616 a0).length≤400000) (hb:(dg 18446744073709551616 b0).length≤400000):Ct P 100 [nV a0,nV b0] [nV (a0+b0)]:=by
 refine Ct.go aj aa (N:=59) Tryz.func100 rfl rfl rfl rfl ?_;refine X1 _ (tU a0 b0 (by omega) (by omega)) ?_;obtain ⟨a,hae⟩:∃ a,a=if blen a0<blen b0 then b0 else a0:=⟨_,rfl⟩
 obtain ⟨b,hbe⟩:∃ b,b=if blen a0<blen b0 then a0 else b0:=⟨_,rfl⟩
 rw[←hae,←hbe];have hsum:a0+b0=a+b:=by rw[hae,hbe]; split<;>omega
 have hla:(dg 18446744073709551616 a).length≤400000:=by rw[hae]; split<;>assumption
 have hlb:(dg 18446744073709551616 b).length≤(dg 18446744073709551616 a).length:=by
  apply cr (by omega);have h1:blen b≤blen a:=by rw[hae,hbe]; split<;>omega
  have h2:=nR a;rw[nQ];exact EG (fh b) (EK (by omega) (by omega))
 rw[hsum];clear hae hbe hsum ha hb;refine .intro (by rw[ai]; omega) ?_;rw[ai];refine X1 (((dg 18446744073709551616 a).length+1:Nat):Int) (wI (by simp) (by omega) (by omega)) ?_;refine ⟨by omega,by omega,by omega,.inl (by decide),?_⟩;refine .intro (by rw[ai]; omega) ?_;rw[ai];refine ax aj aa (G:=Nat × List Nat × Nat) (λ(i,out,c)=>i≤(dg 18446744073709551616 a).length∧out.length=(dg 18446744073709551616 a).length+1∧Dig 18446744073709551616 out∧c≤1∧val 18446744073709551616 ((dg 18446744073709551616 a).take i)+val 18446744073709551616 ((dg 18446744073709551616 b).take i)=val 18446744073709551616 (out.take i)+18446744073709551616^i*c)
  (λ(i,out,c)=>[(2,.c (.ad 2 0)),(3,.c (.ad 3 0)),(4,.c (.ad 4 0)),(5,.c (.ow 19 1 ((dg 18446744073709551616 a).length+1))),(6,.c (nI .u64 c)),(22,.c (nI .i64 (dg 18446744073709551616 a).length)),(23,.c (nI .i64 i))])
  (λ((i,out,c):Nat × List Nat × Nat)=>[(2,.var [nSl .u64 (dg 18446744073709551616 a)]),(3,.var [nSl .u64 (dg 18446744073709551616 b)]),(4,.var [.sc (.slice none 0 0)]),(19,.row 1 (aF .u64 out))]) (λ(i,out,c)=>(dg 18446744073709551616 a).length-i)
  (0,List.replicate ((dg 18446744073709551616 a).length+1) 0,0) ⟨by simp,by simp,λx hx=>by rw[Fv hx]; omega,by simp,by simp[val]⟩
  ⟨rfl,rfl,rfl,owE (by omega),rfl,rfl,rfl,HB⟩ ⟨rfl,rfl,rfl,aB (fg rfl),HB⟩
  (G2:=List Nat × Nat) (λ(l,c)=>Dig 18446744073709551616 l∧c≤1∧val 18446744073709551616 (l.take (dg 18446744073709551616 a).length)+18446744073709551616^(dg 18446744073709551616 a).length*c=a+b∧l.length=(dg 18446744073709551616 a).length+1) (λ(l,c)=>[(2,.c (.ad 2 0)),(4,.c (.ad 4 0)),(5,.c (.ow 19 1 ((dg 18446744073709551616 a).length+1))),(6,.c (nI .u64 c))])
  (λ((l,c):List Nat × Nat)=>[(2,.var [nSl .u64 (dg 18446744073709551616 a)]),(4,.var [.sc (.slice none 0 0)]),(19,.row 1 (aF .u64 l))]) (λg hg=>?_) (λg hg=>?_)
 ·obtain ⟨i,out,c⟩:=g;obtain ⟨h1,h2,h6,h3,h4⟩:=hg;refine ae (λh5=>?_) (λh5=>?_)
  ·have hx:=(bw (B:=18446744073709551616) (by omega) a).getD (by omega) i;have hy:=(bw (B:=18446744073709551616) (by omega) b).getD (by omega) i;have hA:=aC 18446744073709551616 (dg 18446744073709551616 a) i;have hB:=aC 18446744073709551616 (dg 18446744073709551616 b) i;generalize hxx:(dg 18446744073709551616 a).getD i 0=x at hx hA;refine .intro (by rw[ai]; omega) ?_;rw[ai];refine ae (λh7=>And.intro (by omega) (X1 _ (al rfl (by omega)) ?_)) (λh7=>?_)
   ·generalize hyy:(dg 18446744073709551616 b).getD i 0=y at hy hB ⊢;refine .intro (by omega) (X1 _ (al rfl (by omega)) ?_);rw[hxx];refine X1 _ (ei x y c hx (by omega) h3) ?_;refine .intro (by omega) (.intro (by simp<;>omega) ?_);refine X1 _ (al rfl (by omega)) ?_;refine X1 ((i+1:Nat):Int) (wI1 (by omega)) ?_;refine ⟨(i+1,out.set i ((x+y+c)%18446744073709551616),(x+y+c)/18446744073709551616),⟨by omega,by simp[h2],h6.set (by omega),by omega,?_⟩,by show _-(i+1)<_-i; omega,⟨rfl,rfl,rfl,rfl,rfl,rfl,rfl,HB⟩,⟨rfl,rfl,rfl,aB nRow_set,HB⟩⟩;have hst:=du 18446744073709551616 out (i:=i) (v:=(x+y+c)%18446744073709551616) (by omega);rw[hst,hA,hB];have key:x+y+c=(x+y+c)%18446744073709551616+18446744073709551616*((x+y+c)/18446744073709551616):=by omega
    have k2:=congrArg (18446744073709551616^i * ·) key;simp only[EW]at k2;rw[Ff,EL];omega
   ·have hyy:(dg 18446744073709551616 b).getD i 0=0:=by rw[Ev,ET (by omega)]; rfl
    rw[hyy]at hB;refine .intro (by omega) (X1 _ (al rfl (by omega)) ?_);rw[hxx];refine X1 _ (ei x 0 c hx (by omega) h3) ?_;refine .intro (by omega) (.intro (by simp<;>omega) ?_);refine X1 _ (al rfl (by omega)) ?_;refine X1 ((i+1:Nat):Int) (wI1 (by omega)) ?_;refine ⟨(i+1,out.set i ((x+0+c)%18446744073709551616),(x+0+c)/18446744073709551616),⟨by omega,by simp[h2],h6.set (by omega),by omega,?_⟩,by show _-(i+1)<_-i; omega,⟨rfl,rfl,rfl,rfl,rfl,rfl,rfl,HB⟩,⟨rfl,rfl,rfl,aB nRow_set,HB⟩⟩;have hst:=du 18446744073709551616 out (i:=i) (v:=(x+0+c)%18446744073709551616) (by omega);rw[hst,hA,hB];have key:x+0+c=(x+0+c)%18446744073709551616+18446744073709551616*((x+0+c)/18446744073709551616):=by omega
    have k2:=congrArg (18446744073709551616^i * ·) key;simp only[EW]at k2;rw[Ff,EL];omega
  ·have e:i=(dg 18446744073709551616 a).length:=by omega
   subst e;refine ⟨(out,c),⟨h6,h3,?_,h2⟩,⟨rfl,rfl,rfl,rfl,HB⟩,⟨rfl,rfl,rfl,HB⟩⟩;rw[aU (Ew _),aU hlb,bp (by omega),bp (by omega)]at h4;exact h4.symm
 ·obtain ⟨l,c⟩:=g;obtain ⟨h1,h2,h3,h4⟩:=hg;refine .intro (by rw[ai]; omega) ?_;rw[ai];refine .intro (by omega) (.intro (by omega) ?_);refine X1 _ (al rfl (by omega)) ?_;refine X2 .frz ?_;have hv:=du 18446744073709551616 l (i:=(dg 18446744073709551616 a).length) (v:=c) (by omega);rw[aU (by simp; omega),h3]at hv;have ht:=ej (l.set (dg 18446744073709551616 a).length c) (by simp; omega);rw[cE (by omega) (h1.set (by omega)),hv]at ht;refine X1 _ (show Ct P 113 [.c (.sl 1 ((aF .u64 l).set (dg 18446744073709551616 a).length [nI .u64 c]))] [nV (a+b)] by rw[nRow_set]; exact ht) ?_;exact ⟨HB,rc rfl,HB⟩
theorem cS {k:IntKind} {l:List Nat} {a n:Nat} (h0:a=n) (h:n<l.length):(aF k l)[a]? = some [nI k (l.getD n 0)]:=by
 subst h0;simp[aF,h]
def am (t l:List Nat) (x lo:Nat):Nat→List Nat × Nat
 | 0=>(t,0)
 | i+1=>((am t l x lo i).1.set (lo+i) (((am t l x lo i).1.getD (lo+i) 0+x*l.getD i 0+(am t l x lo i).2)%18446744073709551616),((am t l x lo i).1.getD (lo+i) 0+x*l.getD i 0+(am t l x lo i).2)/18446744073709551616)
theorem gq {t l:List Nat} {x lo:Nat} (ht:Dig 18446744073709551616 t) (hl:Dig 18446744073709551616 l) (hx:x<18446744073709551616):∀ i,lo+i≤t.length →
  (am t l x lo i).1.length=t.length∧Dig 18446744073709551616 (am t l x lo i).1∧(am t l x lo i).2<18446744073709551616∧val 18446744073709551616 (am t l x lo i).1+18446744073709551616^(lo+i)*(am t l x lo i).2=val 18446744073709551616 t+18446744073709551616^lo*(x*val 18446744073709551616 (l.take i))
 | 0,_=>⟨rfl,ht,by show 0<18446744073709551616; omega,by simp[am,val]⟩
 | i+1,hi=>by
  obtain ⟨h1,h2,h3,h4⟩:=gq (lo:=lo) ht hl hx i (by omega);simp only[am];generalize (am t l x lo i).1=s at *
  generalize (am t l x lo i).2=c at *
  have hz:=h2.getD (by omega) (lo+i);have hy:=hl.getD (by omega) i;have hT:=aC 18446744073709551616 l i;have hset:=λv:Nat=>fT (B:=18446744073709551616) (l:=s) (i:=lo+i) (x:=v) (by omega)
  generalize s.getD (lo+i) 0=z at *
  generalize l.getD i 0=y at *
  have hxy:x*y≤18446744073709551615*18446744073709551615:=FE (by omega) (by omega);obtain ⟨v,hv⟩:∃ v,v=z+x*y+c:=⟨_,rfl⟩;rw[←hv];refine ⟨by simp[h1],h2.set (by omega),by omega,?_⟩;have hs:=hset (v%18446744073709551616);have e1:18446744073709551616^(lo+(i+1))*(v/18446744073709551616)+18446744073709551616^(lo+i)*(v%18446744073709551616)=18446744073709551616^(lo+i)*v:=by
   rw[←Fx,Ff,EL,←EW];congr 1; omega
  have e2:18446744073709551616^(lo+i)*v=18446744073709551616^(lo+i)*z+18446744073709551616^(lo+i)*(x*y)+18446744073709551616^(lo+i)*c:=by rw[hv,EW,EW]
  have e3:18446744073709551616^lo*(x*val 18446744073709551616 (l.take (i+1)))=18446744073709551616^lo*(x*val 18446744073709551616 (l.take i))+18446744073709551616^(lo+i)*(x*y):=by
   rw[hT,EW,EW,Fw,EL,Fu x]
  omega
theorem uT {t l:List Nat} {x lo:Nat} (ht:Dig 18446744073709551616 t) (hl:Dig 18446744073709551616 l) (hx:x<18446744073709551616) (hlen:lo+l.length≤t.length) (i:Nat) (hi:i≤l.length) :
  (am t l x lo i).1.length=t.length∧Dig 18446744073709551616 (am t l x lo i).1∧(am t l x lo i).2<18446744073709551616∧val 18446744073709551616 (am t l x lo i).1+18446744073709551616^(lo+i)*(am t l x lo i).2=val 18446744073709551616 t+18446744073709551616^lo*(x*val 18446744073709551616 (l.take i)):=gq (lo:=lo) ht hl hx i (by omega)
theorem qn {t l:List Nat} {lo:Nat} (ht:Dig 18446744073709551616 t) (hl:Dig 18446744073709551616 l):∀ i,lo+i≤t.length→(am t l 1 lo i).2≤1
 | 0,_=>Gt _
 | i+1,hi=>by
  have h1:=qn (lo:=lo) ht hl i (by omega);obtain ⟨_,h2,_,_⟩:=gq (lo:=lo) (x:=1) ht hl (by omega) i (by omega);have hz:=h2.getD (by omega) (lo+i);have hy:=hl.getD (by omega) i;simp only[am];omega
theorem v6 (t l:List Nat) (x lo n:Nat) (ht:Dig 18446744073709551616 t) (hl:Dig 18446744073709551616 l) (hx:x<18446744073709551616) (hlen:lo+n≤t.length) (hn:l.length≤n) (hb:t.length≤1000000) :
  CtO P 112 [(1000000,some (.row 1 (aF .u64 t)))] [.c (.os 1000000 1 lo n),.c (nSl .u64 l),.c (nI .u64 x)] [(1000000,some (.row 1 (aF .u64 (am t l x lo l.length).1)))] [.c (nI .u64 (am t l x lo l.length).2)]:=by
 refine Ct.io aj aa (N:=52) Tryz.func112 rfl rfl rfl rfl ?_;refine .intro (by rw[ai]; omega) ?_;rw[ai];refine ax aj aa (λi:Nat=>i≤l.length) (λi=>[(0,.c (.os 1000000 1 lo n)),(2,.c (nI .u64 x)),(7,.c (nI .u64 (am t l x lo i).2)),(13,.c (nSl .u64 l)),(14,.c (nI .i64 l.length)),(15,.c (nI .i64 i))])
  (λi=>[(1000000,.row 1 (aF .u64 (am t l x lo i).1))]) (λi=>l.length-i) 0 (by omega) ⟨rfl,rfl,rfl,rfl,rfl,rfl,HB⟩ ⟨rfl,HB⟩
  (λ_:Unit=>True) (λ_=>[(7,.c (nI .u64 (am t l x lo l.length).2))]) (λ_=>[(1000000,.row 1 (aF .u64 (am t l x lo l.length).1))]) (λi hi=>?_) (λ_ _=>?_)
 ·refine ae (λh5=>?_) (λh5=>?_)
  ·obtain ⟨h1,h2,h3,h4⟩:=uT (lo:=lo) ht hl hx (by omega) i hi;have hz:=h2.getD (by omega) (lo+i);have hy:=hl.getD (by omega) i;have hxy:x*l.getD i 0≤18446744073709551615*18446744073709551615:=FE (by omega) (by omega);refine .intro (by omega) (X1 _ (al rfl (by omega)) ?_);refine X1 _ (nW x (l.getD i 0) hx hy) ?_;refine X1 _ (ei _ _ 0 (by omega) h3 (by omega)) ?_;refine X1 ((x*l.getD i 0/18446744073709551616+(x*l.getD i 0%18446744073709551616+(am t l x lo i).2+0)/18446744073709551616:Nat):Int) (wU (by simp) (by omega) (by omega)) ?_;refine .intro (by omega) (.intro (by omega) ?_);refine X1 _ (cS (n:=lo+i) (by omega) (by omega)) ?_;refine X1 _ (ei _ _ 0 hz (by omega) (by omega)) ?_;refine .intro (by omega) (.intro (by omega) ?_);refine X1 _ (cS (n:=lo+i) (by omega) (by omega)) ?_;have hs:am t l x lo (i+1)=((am t l x lo i).1.set (lo+i) (((am t l x lo i).1.getD (lo+i) 0+x*l.getD i 0+(am t l x lo i).2)%18446744073709551616),((am t l x lo i).1.getD (lo+i) 0+x*l.getD i 0+(am t l x lo i).2)/18446744073709551616):=rfl;have e1:(am t l x lo (i+1)).1=(am t l x lo i).1.set (lo+i) (((am t l x lo i).1.getD (lo+i) 0+(x*l.getD i 0%18446744073709551616+(am t l x lo i).2+0)%18446744073709551616+0)%18446744073709551616):=by
    rw[hs]; show List.set _ _ _=_; congr 1; omega
   have e2:(am t l x lo (i+1)).2=x*l.getD i 0/18446744073709551616+(x*l.getD i 0%18446744073709551616+(am t l x lo i).2+0)/18446744073709551616+((am t l x lo i).1.getD (lo+i) 0+(x*l.getD i 0%18446744073709551616+(am t l x lo i).2+0)%18446744073709551616+0)/18446744073709551616:=by
    rw[hs]; show (_:Nat)/_=_; omega
   refine X1 (((am t l x lo (i+1)).2:Nat):Int) (wU (by rw[e2]; simp) (by omega) (by omega)) ?_;refine X1 ((i+1:Nat):Int) (wI1 (by omega)) ?_;refine ⟨i+1,by omega,by omega,⟨rfl,rfl,rfl,rfl,rfl,rfl,HB⟩,⟨aB ?_,HB⟩⟩;rw[e1,←nRow_set];rfl
  ·have e:i=l.length:=by omega
   subst e;exact ⟨(),HB,⟨rfl,HB⟩,⟨rfl,HB⟩⟩
 ·exact ⟨HB,SubO.of (l:=[(1000000,.row 1 (aF .u64 (am t l x lo l.length).1))]) ⟨rfl,HB⟩,r1 rfl,HB⟩
theorem getD_set_ne {l:List Nat} {i j v:Nat} (h:i≠j):(l.set i v).getD j 0=l.getD j 0:=by
 rw[Ev,Ev,List.getElem?_set_ne h]
theorem qo {t l:List Nat} {x lo:Nat}:∀ {i j:Nat},lo+i≤j→(am t l x lo i).1.getD j 0=t.getD j 0
 | 0,j,_=>rfl
 | i+1,j,h=>by
  simp only[am];rw[getD_set_ne (by omega)];exact qo (by omega)
theorem cZ (a b:Nat) (ha:(dg 18446744073709551616 a).length≤400000) (hb:(dg 18446744073709551616 b).length≤400000):Ct P 66 [nV a,nV b] [nV (a*b)]:=by
 refine Ct.go aj aa (N:=41) Tryz.func66 rfl rfl rfl rfl ?_;refine .intro (by rw[ai]; omega) ?_;refine .intro (by rw[ai]; omega) ?_;rw[ai,ai];refine X1 (((dg 18446744073709551616 a).length+(dg 18446744073709551616 b).length:Nat):Int) (wI (by simp) (by omega) (by omega)) ?_;refine ⟨by omega,by omega,by omega,.inl (by decide),?_⟩;refine .intro (by rw[ai]; omega) ?_;rw[ai];have hA:=bw (B:=18446744073709551616) (by omega) a;have hB:=bw (B:=18446744073709551616) (by omega) b;have vA:=bp (B:=18446744073709551616) (by omega) a;have vB:=bp (B:=18446744073709551616) (by omega) b;refine ax aj aa (G:=Nat × List Nat) (λ(i,out)=>i≤(dg 18446744073709551616 a).length∧out.length=(dg 18446744073709551616 a).length+(dg 18446744073709551616 b).length∧Dig 18446744073709551616 out∧(∀ j,i+(dg 18446744073709551616 b).length≤j→out.getD j 0=0)∧val 18446744073709551616 out=val 18446744073709551616 ((dg 18446744073709551616 a).take i)*b)
  (λ(i,out)=>[(2,.c (.ad 2 0)),(3,.c (.ad 3 0)),(4,.c (.ad 4 0)),(5,.c (.ow 15 1 ((dg 18446744073709551616 a).length+(dg 18446744073709551616 b).length))),(17,.c (nSl .u64 (dg 18446744073709551616 a))),(18,.c (nI .i64 (dg 18446744073709551616 a).length)),(19,.c (nI .i64 i))])
  (λ((i,out):Nat × List Nat)=>[(2,.var [nSl .u64 (dg 18446744073709551616 a)]),(3,.var [nSl .u64 (dg 18446744073709551616 b)]),(4,.var [.sc (.slice none 0 0)]),(15,.row 1 (aF .u64 out))]) (λ(i,out)=>(dg 18446744073709551616 a).length-i)
  (0,List.replicate ((dg 18446744073709551616 a).length+(dg 18446744073709551616 b).length) 0) ⟨by simp,by simp,λx hx=>by rw[Fv hx]; omega,λj _=>by simp[Ev,FX]; split<;>rfl,by simp[val,mD]⟩
  ⟨rfl,rfl,rfl,owE (by omega),rfl,rfl,rfl,HB⟩ ⟨rfl,rfl,rfl,aB (fg rfl),HB⟩
  (λl:List Nat=>Dig 18446744073709551616 l∧val 18446744073709551616 l=a*b∧l.length≤1000000) (λl=>[(4,.c (.ad 4 0)),(5,.c (.ow 15 1 ((dg 18446744073709551616 a).length+(dg 18446744073709551616 b).length)))])
  (λl=>[(4,.var [.sc (.slice none 0 0)]),(15,.row 1 (aF .u64 l))]) (λg hg=>?_) (λl hl=>?_)
 ·obtain ⟨i,out⟩:=g;obtain ⟨h1,h2,h3,h4,h6⟩:=hg;refine ae (λh5=>?_) (λh5=>?_)
  ·have hx:=hA.getD (by omega) i;have hT:=aC 18446744073709551616 (dg 18446744073709551616 a) i;refine .intro (by omega) (X1 _ (al rfl (by omega)) ?_);generalize (dg 18446744073709551616 a).getD i 0=x at hx hT ⊢;refine .intro (by rw[ai]; omega) ?_;rw[ai];refine X1 ((i+(dg 18446744073709551616 b).length:Nat):Int) (wI (by simp) (by omega) (by omega)) ?_;refine ⟨i,(dg 18446744073709551616 a).length+(dg 18446744073709551616 b).length,rfl,rfl,by omega,by omega,.inr ⟨by omega,?_⟩⟩;refine X2 (.upd 15) ?_;refine ⟨_,_,v6 out (dg 18446744073709551616 b) x i ((dg 18446744073709551616 a).length+(dg 18446744073709551616 b).length-i) h3 hB hx (by omega) (by omega) (by omega),?_⟩;obtain ⟨g1,g2,g3,g4⟩:=uT (t:=out) (l:=dg 18446744073709551616 b) (x:=x) (lo:=i) h3 hB hx (by omega) (dg 18446744073709551616 b).length (by omega);have g5:(am out (dg 18446744073709551616 b) x i (dg 18446744073709551616 b).length).1.getD (i+(dg 18446744073709551616 b).length) 0=0:=(qo (by omega)).trans (h4 _ (by omega));have g6:∀ j,i+1+(dg 18446744073709551616 b).length≤j→(am out (dg 18446744073709551616 b) x i (dg 18446744073709551616 b).length).1.getD j 0=0:=λj hj=>(qo (by omega)).trans (h4 _ (by omega))
   rw[aU (l:=dg 18446744073709551616 b) (by omega),vB]at g4;generalize (am out (dg 18446744073709551616 b) x i (dg 18446744073709551616 b).length).1=o2 at *
   generalize (am out (dg 18446744073709551616 b) x i (dg 18446744073709551616 b).length).2=c at *
   refine .intro (by omega) (.intro (by omega) ?_);refine X1 _ (al rfl (by omega)) ?_;refine .intro rfl ?_;refine X1 ((i+1:Nat):Int) (wI1 (by omega)) ?_;have hs:=fT (B:=18446744073709551616) (l:=o2) (i:=i+(dg 18446744073709551616 b).length) (x:=c) (by omega);rw[g5]at hs;refine ⟨(i+1,o2.set (i+(dg 18446744073709551616 b).length) c),⟨by omega,by simp[g1,h2],g2.set g3,λj hj=>by rw[getD_set_ne (by omega)]; exact g6 j (by omega),?_⟩,by show _-(i+1)<_-i; omega,⟨rfl,rfl,rfl,rfl,rfl,rfl,rfl,HB⟩,⟨rfl,rfl,rfl,aB nRow_set,HB⟩⟩;rw[hT,EO,EL,←h6];omega
  ·have e:i=(dg 18446744073709551616 a).length:=by omega
   subst e;rw[aU (Ew _),vA]at h6;exact ⟨out,⟨h3,h6,by omega⟩,⟨rfl,rfl,HB⟩,⟨rfl,rfl,HB⟩⟩
 ·obtain ⟨h1,h2,h3⟩:=hl;refine X2 .frz ?_;refine X1 _ (ej l h3) ?_;rw[cE (by omega) h1,h2];exact ⟨HB,rc rfl,HB⟩
theorem t5 (t l:List Nat) (lo n:Nat) (ht:Dig 18446744073709551616 t) (hl:Dig 18446744073709551616 l) (hlen:lo+n≤t.length) (hn:l.length<n) (hb:t.length≤1000000) :
  CtO P 156 [(1000000,some (.row 1 (aF .u64 t)))] [.c (.os 1000000 1 lo n),.c (nSl .u64 l)] [(1000000,some (.row 1 (aF .u64 (am t l 1 lo (l.length+1)).1)))] [.c (.sc (.bool (decide (((am t l 1 lo (l.length+1)).2:Int)>0))))]:=by
 have stepE:∀ i,(am t l 1 lo (i+1)).1=(am t l 1 lo i).1.set (lo+i) (((am t l 1 lo i).1.getD (lo+i) 0+l.getD i 0+(am t l 1 lo i).2)%18446744073709551616):=λi=>by simp only[am,Fh]
 have stepC:∀ i,(am t l 1 lo (i+1)).2=((am t l 1 lo i).1.getD (lo+i) 0+l.getD i 0+(am t l 1 lo i).2)/18446744073709551616:=λi=>by simp only[am,Fh]
 refine Ct.io aj aa (N:=45) Tryz.func156 rfl rfl rfl rfl ?_;refine .intro (by rw[ai]; omega) ?_;rw[ai];refine ax aj aa (λi:Nat=>i≤l.length) (λi=>[(0,.c (.os 1000000 1 lo n)),(1,.c (nSl .u64 l)),(5,.c (nI .u64 (am t l 1 lo i).2)),(8,.c (nSl .u64 l)),(9,.c (nI .i64 l.length)),(10,.c (nI .i64 i))])
  (λi=>[(1000000,.row 1 (aF .u64 (am t l 1 lo i).1))]) (λi=>l.length-i) 0 (by omega) ⟨rfl,rfl,rfl,rfl,rfl,rfl,HB⟩ ⟨rfl,HB⟩
  (λ_:Unit=>True) (λ_=>[(0,.c (.os 1000000 1 lo n)),(1,.c (nSl .u64 l)),(5,.c (nI .u64 (am t l 1 lo l.length).2))]) (λ_=>[(1000000,.row 1 (aF .u64 (am t l 1 lo l.length).1))]) (λi hi=>?_) (λ_ _=>?_)
 ·refine ae (λh5=>?_) (λh5=>?_)
  ·obtain ⟨h1,h2,h3,h4⟩:=gq (lo:=lo) (x:=1) ht hl (by omega) i (by omega);have h6:=qn (lo:=lo) ht hl i (by omega);have hz:=h2.getD (by omega) (lo+i);have hy:=hl.getD (by omega) i;refine .intro (by omega) (X1 _ (al rfl (by omega)) ?_);refine .intro (by omega) (.intro (by omega) ?_);refine X1 _ (cS (n:=lo+i) (by omega) (by omega)) ?_;refine X1 _ (ei _ _ _ hz hy h6) ?_;refine .intro (by omega) (.intro (by omega) ?_);refine X1 _ (cS (n:=lo+i) (by omega) (by omega)) ?_;refine X1 ((i+1:Nat):Int) (wI1 (by omega)) ?_;refine ⟨i+1,by omega,by omega,⟨rfl,rfl,iE (by rw[stepC]),rfl,rfl,rfl,HB⟩,⟨aB ?_,HB⟩⟩;rw[stepE,←nRow_set];rfl
  ·have e:i=l.length:=by omega
   subst e;exact ⟨(),HB,⟨rfl,rfl,rfl,HB⟩,⟨rfl,HB⟩⟩
 ·obtain ⟨h1,h2,h3,h4⟩:=gq (lo:=lo) (x:=1) ht hl (by omega) l.length (by omega);have h6:=qn (lo:=lo) ht hl l.length (by omega);have hz:=h2.getD (by omega) (lo+l.length);have hy:l.getD l.length 0=0:=by rw[Ev,ET (by omega)]; rfl
  refine .intro (by rw[ai]; omega) ?_;refine .intro (by rw[ai]; omega) ?_;rw[ai];refine .intro (by omega) (.intro (by omega) ?_);refine X1 _ (cS (n:=lo+l.length) (by omega) (by omega)) ?_;refine X1 _ (ei _ 0 _ hz (by omega) h6) ?_;refine .intro (by omega) (.intro (by omega) ?_);refine X1 _ (cS (n:=lo+l.length) (by omega) (by omega)) ?_;have e1:(aF .u64 (am t l 1 lo l.length).1).set (lo+l.length) [nI .u64 (((am t l 1 lo l.length).1.getD (lo+l.length) 0+0+(am t l 1 lo l.length).2)%18446744073709551616)]=aF .u64 (am t l 1 lo (l.length+1)).1:=by
   rw[nRow_set,stepE,hy]
  have e2:(am t l 1 lo (l.length+1)).2=((am t l 1 lo l.length).1.getD (lo+l.length) 0+0+(am t l 1 lo l.length).2)/18446744073709551616:=by rw[stepC,hy]
  rw[e2,←e1];exact ⟨HB,SubO.of (l:=[(1000000,.row 1 _)]) ⟨rfl,HB⟩,r1 rfl,HB⟩
structure SM where
 s:List Nat
 c:Nat
 b:Nat
def sm (t l:List Nat) (x lo:Nat):Nat→SM
 | 0=>⟨t,0,0⟩
 | i+1=>⟨(sm t l x lo i).s.set (lo+i) (((sm t l x lo i).s.getD (lo+i) 0+18446744073709551616-(x*l.getD i 0+(sm t l x lo i).c)%18446744073709551616-(sm t l x lo i).b)%18446744073709551616),
   (x*l.getD i 0+(sm t l x lo i).c)/18446744073709551616,if (sm t l x lo i).s.getD (lo+i) 0<(x*l.getD i 0+(sm t l x lo i).c)%18446744073709551616+(sm t l x lo i).b then 1 else 0⟩
theorem kJ {t l:List Nat} {x lo:Nat} (ht:Dig 18446744073709551616 t) (hl:Dig 18446744073709551616 l) (hx:x<18446744073709551616):∀ i,lo+i≤t.length →
  (sm t l x lo i).s.length=t.length∧Dig 18446744073709551616 (sm t l x lo i).s∧(sm t l x lo i).c<18446744073709551616∧(sm t l x lo i).b≤1∧val 18446744073709551616 (sm t l x lo i).s+18446744073709551616^lo*(x*val 18446744073709551616 (l.take i))=val 18446744073709551616 t+18446744073709551616^(lo+i)*((sm t l x lo i).c+(sm t l x lo i).b)
 | 0,_=>⟨rfl,ht,by show 0<18446744073709551616; omega,Gt _,by simp[sm,val]⟩
 | i+1,hi=>by
  obtain ⟨h1,h2,h3,h5,h4⟩:=kJ (lo:=lo) ht hl hx i (by omega);simp only[sm];generalize (sm t l x lo i).s=s at *
  generalize (sm t l x lo i).c=c at *
  generalize (sm t l x lo i).b=b at *
  have hz:=h2.getD (by omega) (lo+i);have hy:=hl.getD (by omega) i;have hT:=aC 18446744073709551616 l i;have hset:=λv:Nat=>fT (B:=18446744073709551616) (l:=s) (i:=lo+i) (x:=v) (by omega)
  generalize s.getD (lo+i) 0=z at *
  generalize l.getD i 0=y at *
  have hxy:x*y≤18446744073709551615*18446744073709551615:=FE (by omega) (by omega);obtain ⟨p,hp⟩:∃ p,p=x*y+c:=⟨_,rfl⟩;rw[←hp];refine ⟨by simp[h1],h2.set (by omega),by omega,by split<;>omega,?_⟩;obtain ⟨r,hr⟩:∃ r,r=(z+18446744073709551616-p%18446744073709551616-b)%18446744073709551616:=⟨_,rfl⟩;obtain ⟨b',hb'⟩:∃ b',b'=if z<p%18446744073709551616+b then 1 else 0:=⟨_,rfl⟩
  rw[←hr,←hb'];have k1:r+p+b=z+18446744073709551616*(p/18446744073709551616+b'):=by
   rw[hr,hb']; split<;>omega
  have k2:=congrArg (18446744073709551616^(lo+i) * ·) k1;simp only[EW]at k2;have hs:=hset r;have e3:18446744073709551616^lo*(x*val 18446744073709551616 (l.take (i+1)))=18446744073709551616^lo*(x*val 18446744073709551616 (l.take i))+18446744073709551616^(lo+i)*(x*y):=by
   rw[hT,EW,EW,Fw,EL,Fu x]
  have e4:18446744073709551616^(lo+i)*p=18446744073709551616^(lo+i)*(x*y)+18446744073709551616^(lo+i)*c:=by rw[hp,EW]
  rw[←Fx lo i 1,Ff,EL,e3];simp only[EW]at h4 ⊢;omega
theorem v7 (t l:List Nat) (x lo n:Nat) (ht:Dig 18446744073709551616 t) (hl:Dig 18446744073709551616 l) (hx:x<18446744073709551616) (hlen:lo+n≤t.length) (hn:l.length<n) (hb:t.length≤1000000) :
  CtO P 155 [(1000000,some (.row 1 (aF .u64 t)))] [.c (.os 1000000 1 lo n),.c (nSl .u64 l),.c (nI .u64 x)] [(1000000,some (.row 1 (aF .u64 (sm t l x lo (l.length+1)).s)))] [.c (.sc (.bool (decide (((sm t l x lo (l.length+1)).b:Int)>0))))]:=by
 refine Ct.io aj aa (N:=68) Tryz.func155 rfl rfl rfl rfl ?_;refine .intro (by rw[ai]; omega) ?_;rw[ai];refine ax aj aa (λi:Nat=>i≤l.length) (λi=>[(0,.c (.os 1000000 1 lo n)),(1,.c (nSl .u64 l)),(2,.c (nI .u64 x)),(7,.c (nI .u64 (sm t l x lo i).c)),(8,.c (nI .u64 (sm t l x lo i).b)),(15,.c (nSl .u64 l)),(16,.c (nI .i64 l.length)),(17,.c (nI .i64 i))])
  (λi=>[(1000000,.row 1 (aF .u64 (sm t l x lo i).s))]) (λi=>l.length-i) 0 (by omega) ⟨rfl,rfl,rfl,rfl,rfl,rfl,rfl,rfl,HB⟩ ⟨rfl,HB⟩
  (λ_:Unit=>True) (λ_=>[(0,.c (.os 1000000 1 lo n)),(1,.c (nSl .u64 l)),(7,.c (nI .u64 (sm t l x lo l.length).c)),(8,.c (nI .u64 (sm t l x lo l.length).b))]) (λ_=>[(1000000,.row 1 (aF .u64 (sm t l x lo l.length).s))]) (λi hi=>?_) (λ_ _=>?_)
 ·refine ae (λh5=>?_) (λh5=>?_)
  ·obtain ⟨h1,h2,h3,h6,h4⟩:=kJ (lo:=lo) ht hl hx i (by omega);have hz:=h2.getD (by omega) (lo+i);have hy:=hl.getD (by omega) i;have hxy:x*l.getD i 0≤18446744073709551615*18446744073709551615:=FE (by omega) (by omega);have hs:sm t l x lo (i+1)=⟨(sm t l x lo i).s.set (lo+i) (((sm t l x lo i).s.getD (lo+i) 0+18446744073709551616-(x*l.getD i 0+(sm t l x lo i).c)%18446744073709551616-(sm t l x lo i).b)%18446744073709551616),
    (x*l.getD i 0+(sm t l x lo i).c)/18446744073709551616,if (sm t l x lo i).s.getD (lo+i) 0<(x*l.getD i 0+(sm t l x lo i).c)%18446744073709551616+(sm t l x lo i).b then 1 else 0⟩:=rfl
   have em:(x*l.getD i 0%18446744073709551616+(sm t l x lo i).c+0)%18446744073709551616=(x*l.getD i 0+(sm t l x lo i).c)%18446744073709551616:=by omega
   refine .intro (by omega) (X1 _ (al rfl (by omega)) ?_);refine X1 _ (nW x (l.getD i 0) hx hy) ?_;refine X1 _ (ei _ _ 0 (by omega) h3 (by omega)) ?_;rw[em];refine X1 (((sm t l x lo (i+1)).c:Nat):Int) (wU (by rw[hs]; show _=(((x*l.getD i 0+(sm t l x lo i).c)/18446744073709551616:Nat):Int); omega) (by omega) (by rw[hs]; show (((x*l.getD i 0+(sm t l x lo i).c)/18446744073709551616:Nat):Int)≤_; omega)) ?_;refine .intro (by omega) (.intro (by omega) ?_);refine X1 _ (cS (n:=lo+i) (by omega) (by omega)) ?_;refine X1 _ (ku _ _ _ hz (by omega) h6) ?_;refine .intro (by omega) (.intro (by omega) ?_);refine X1 _ (cS (n:=lo+i) (by omega) (by omega)) ?_;refine X1 ((i+1:Nat):Int) (wI1 (by omega)) ?_;refine ⟨i+1,by omega,by omega,⟨rfl,rfl,rfl,rfl,rfl,rfl,rfl,rfl,HB⟩,⟨aB ?_,HB⟩⟩;rw[hs,←nRow_set];rfl
  ·have e:i=l.length:=by omega
   subst e;exact ⟨(),HB,⟨rfl,rfl,rfl,rfl,HB⟩,⟨rfl,HB⟩⟩
 ·obtain ⟨h1,h2,h3,h6,h4⟩:=kJ (lo:=lo) ht hl hx l.length (by omega);have hz:=h2.getD (by omega) (lo+l.length);have hy:l.getD l.length 0=0:=by rw[Ev,ET (by omega)]; rfl
  refine .intro (by rw[ai]; omega) ?_;rw[ai];refine .intro (by omega) (.intro (by omega) ?_);refine X1 _ (cS (n:=lo+l.length) (by omega) (by omega)) ?_;refine X1 _ (ku _ _ _ hz h3 h6) ?_;refine .intro (by omega) (.intro (by omega) ?_);refine X1 _ (cS (n:=lo+l.length) (by omega) (by omega)) ?_;have ec:(x*l.getD l.length 0+(sm t l x lo l.length).c)%18446744073709551616=(sm t l x lo l.length).c:=by rw[hy,FQ,Fn,Fc h3]
  have e1:aF .u64 (sm t l x lo (l.length+1)).s=(aF .u64 (sm t l x lo l.length).s).set (lo+l.length) [nI .u64 (((sm t l x lo l.length).s.getD (lo+l.length) 0+18446744073709551616-(sm t l x lo l.length).c-(sm t l x lo l.length).b)%18446744073709551616)]:=by
   rw[nRow_set]; simp only[sm,ec]
  have e2:(sm t l x lo (l.length+1)).b=if (sm t l x lo l.length).s.getD (lo+l.length) 0<(sm t l x lo l.length).c+(sm t l x lo l.length).b then 1 else 0:=by simp only[sm,ec]
  rw[e1,e2];exact ⟨HB,SubO.of (l:=[(1000000,.row 1 _)]) ⟨rfl,HB⟩,r1 rfl,HB⟩
end
section
section
variable {u d1 d0 x q r:Nat}
theorem yZ (h:q*d1+r=u) (ht:q*d0≤4294967296*r+x) (hp:0<d1*4294967296+d0) (hq:(u*4294967296+x)/(d1*4294967296+d0)≤q):(u*4294967296+x)/(d1*4294967296+d0)=q:=by
 refine Hn hq ((G3 hp).2 ?_);have e:q*(d1*4294967296+d0)=q*d1*4294967296+q*d0:=by rw[EW,EL]
 omega
theorem Cm (h:q*d1+r=u) (ht:4294967296*r+x<q*d0):(u*4294967296+x)/(d1*4294967296+d0)<q:=by
 apply FC;have e:(d1*4294967296+d0)*q=q*d1*4294967296+q*d0:=by rw[EQ,EW,EL]
 omega
theorem Cn (hu:u<d1*4294967296+d0) (hx:x<4294967296):(u*4294967296+x)/(d1*4294967296+d0)<4294967296:=by
 apply FC;have:(u+1)*4294967296≤(d1*4294967296+d0)*4294967296:=EE _ hu;omega
theorem DP (hd:2147483648≤d1) (hd0:d0<4294967296) (hu:u<d1*4294967296+d0) (hx:x<4294967296) :
  u/d1*d1+u%d1=u∧(u*4294967296+x)/(d1*4294967296+d0)≤u/d1∧u/d1≤4294967297∧u%d1<d1:=by
 have h0:=FF u d1;have hm:=Fz u (show 0<d1 by omega);refine ⟨by rw[EQ]; exact h0,?_,?_,hm⟩
 ·refine Nat.le_of_lt_succ (FC ?_);have e:(d1*4294967296+d0)*(u/d1+1)=d1*(u/d1)*4294967296+d1*4294967296+d0*(u/d1+1):=by
   rw[EO,EL,EQ 4294967296,←EL,EW,FT,EO]
  show u*4294967296+x<(d1*4294967296+d0)*(u/d1+1)
  omega
 ·have h1:d0<d1*2:=by omega
  have e:d1*(4294967296+2)=d1*4294967296+d1*2:=EW _ _ _;have h2:u<d1*(4294967296+2):=by rw[e]; exact Nat.lt_trans hu (Nat.add_lt_add_left h1 _)
  have h3:u/d1<4294967296+2:=FC h2;clear h2 e;omega
end
theorem mL {u d1 d0 x q r T:Nat} (hd0:d0<4294967296) (hp:0<d1*4294967296+d0) (hT:T=(u*4294967296+x)/(d1*4294967296+d0)) (h:q*d1+r=u) (hq:q≤4294967297) (ht:T<q) :
  (q-1)*d1+(r+d1)=u∧(4294967296≤r+d1→T=q-1):=by
 obtain ⟨p,rfl⟩:∃ p,q=p+1:=⟨q-1,by omega⟩;rw[EO,Fh]at h;rw[FS];have e:p*d1+(r+d1)=u:=by omega
 refine ⟨e,λhr=>?_⟩;rw[hT];refine yZ e ?_ hp (by omega);have h1:p*d0≤4294967296*d0:=EE _ (by omega);have h2:4294967296*d0≤4294967296*(r+d1):=Fp _ (by omega);omega
theorem wE (n:Int):IntKind.u64.wrap n=n%18446744073709551616:=by simp[IntKind.wrap,IntKind.bits,IntKind.signed]
theorem y3 {u x q y r:Nat} (h:u*4294967296+x=q*y+r) (hr:r<18446744073709551616):IntKind.u64.wrap (IntKind.u64.wrap (IntKind.u64.wrap ((u:Int)*4294967296)+(x:Int))-IntKind.u64.wrap ((q:Int)*(y:Int)))=(r:Int):=by
 rw[←Hd q y,wE,wE,wE,wE];omega
theorem orU {x y:Nat} (hx:x<18446744073709551616) (hy:y<18446744073709551616):IntKind.u64.wrap ((BitVec.ofInt IntKind.u64.bits (x:Int)|||BitVec.ofInt IntKind.u64.bits (y:Int)).toNat:Int)=((x|||y:Nat):Int):=by
 have e:(BitVec.ofInt IntKind.u64.bits (x:Int)|||BitVec.ofInt IntKind.u64.bits (y:Int)).toNat=x|||y:=by
  show (BitVec.ofInt 64 (x:Int)|||BitVec.ofInt 64 (y:Int)).toNat=_
  rw[BitVec.ofInt_natCast,BitVec.ofInt_natCast,BitVec.toNat_or,BitVec.toNat_ofNat,BitVec.toNat_ofNat,Fc (by omega:x<2^64),Fc (by omega:y<2^64)]
 have h:=Nat.or_lt_two_pow (x:=x) (y:=y) (n:=64) (by omega) (by omega);rw[e,tZ,Fc];simpa using h
theorem inU {n:Nat} (h:n≤18446744073709551615):inR .u64 (n:Int):=⟨GU n,Int.ofNat_le.2 h⟩
theorem t6 {x k:Nat} (h:k≤64):IntKind.u64.wrap ((x:Int)*2^min ((k:Nat):Int).toNat IntKind.u64.bits)=((x*2^k%18446744073709551616:Nat):Int):=by
 show IntKind.u64.wrap ((x:Int)*2^min ((k:Nat):Int).toNat 64)=_
 rw[EX,F1 h,←tZ];simp
theorem CT {u x1 x0 y a b c d:Nat} (hy:0<y) (e1:y*a+b=u*4294967296+x1) (hc:(b*4294967296+x0)/y=c) (hd:(b*4294967296+x0)%y=d):(u*18446744073709551616+(x1*4294967296+x0))/y=a*4294967296+c ∧
  (u*18446744073709551616+(x1*4294967296+x0))%y=d:=by
 have e:u*18446744073709551616+(x1*4294967296+x0)=b*4294967296+x0+y*(a*4294967296):=by rw[←EL]; omega
 rw[e,GP _ _ hy,Gr,hc,hd];exact ⟨GS _ _,rfl⟩
theorem DQ {hi lo y s:Nat} (hlo:lo<18446744073709551616) (hhi:hi<y) (hy:y<2^(64-s)) (hs:s≤64) :
  hi*2^s<18446744073709551616∧(hi*2^s|||lo/2^(64-s))=hi*2^s+lo/2^(64-s)∧(hi*2^s+lo/2^(64-s))*18446744073709551616+lo*2^s%18446744073709551616=(hi*18446744073709551616+lo)*2^s∧hi*2^s+lo/2^(64-s)<y*2^s∧y*2^s<18446744073709551616:=by
 have e64:2^s*2^(64-s)=18446744073709551616:=by rw[←Fw,show s+(64-s)=64 by omega]
 have hp:0<2^s:=Fo s;have hp2:0<2^(64-s):=Fo _;generalize 2^(64-s)=b at *
 have hq:lo/b<2^s:=FC (by rw[EQ,e64]; exact hlo);have hor:(hi*2^s|||lo/b)=hi*2^s+lo/b:=by
  rw[EQ]; exact (Nat.two_pow_add_eq_or_of_lt hq hi).symm
 rw[hor];generalize 2^s=a at *
 have h1:(hi+1)*a≤y*a:=EE _ hhi;rw[EO,Fh]at h1;have h2:(y+1)*a≤b*a:=EE _ hy;rw[EQ b,e64,EO,Fh]at h2;have h3:lo*a%18446744073709551616=lo%b*a:=by
  have hlt:lo%b*a<18446744073709551616:=by
   rw[←e64,EQ a]; exact FW (Fz _ hp2) hp
  have:lo*a=lo%b*a+18446744073709551616*(lo/b):=by
   conv=>lhs; rw[←FF lo b]
   rw[EO,←e64,EQ b,EL,EQ b,EQ (lo/b)];omega
  rw[this,Gr,Fc hlt]
 have h4:lo*a=lo%b*a+18446744073709551616*(lo/b):=by
  conv=>lhs; rw[←FF lo b]
  rw[EO,←e64,EQ b,EL,EQ b,EQ (lo/b)];omega
 refine ⟨by omega,rfl,?_,by omega,by omega⟩;rw[h3,EO (hi*18446744073709551616),Nat.mul_right_comm];omega
theorem sv (hi lo y:Nat) (hhi:hi<y) (hlo:lo<18446744073709551616) (hy:y<18446744073709551616):Ct P 181 [.c (nI .u64 hi),.c (nI .u64 lo),.c (nI .u64 y)] [.c (nI .u64 ((hi*18446744073709551616+lo)/y)),.c (nI .u64 ((hi*18446744073709551616+lo)%y))]:=by
 refine Ct.go aj aa (N:=135) Tryz.func181 rfl rfl rfl rfl ?_;refine aT (λh=>?_) (λ_=>?_)
 ·omega
 refine ae (λh=>?_) (λ_=>?_)
 ·omega
 refine aT (λh0=>?_) (λh0=>?_)
 ·have e0:hi=0:=by omega
  subst e0;rw[Hm,Fn];have hl:=FV lo y;have hm:=Fz lo hhi;refine .intro (by omega) (X1 ((lo/y:Nat):Int) (ko rfl) (.intro (inU (by omega)) ?_));refine .intro (by omega) (X1 ((lo%y:Nat):Int) (mh rfl) (.intro (inU (by omega)) ?_));refine .intro rfl ?_;exact ⟨HB,r1 rfl,r1 rfl,HB⟩
 ·have hbl:=iV (n:=y) (k:=64) (by omega);obtain ⟨s,hs⟩:∃ s,s=64-blen y:=⟨_,rfl⟩;have hy2:y<2^(64-s):=by rw[hs,show 64-(64-blen y)=blen y by omega]; exact fh y
  obtain ⟨hs1,hs2,hs3,hs4,hs5⟩:=DQ hlo hhi hy2 (by omega);have htop:9223372036854775808≤y*2^s:=by
   have h1:=ql (n:=y) (by omega);have h2:blen y≠0:=λh=>by have:=fh y; rw[h]at this; omega
   have h3:=EE (2^s) h1;rw[←Fw,show blen y-1+s=63 by omega]at h3;omega
  have hps:=Fo s;have hq:(hi*18446744073709551616+lo)/y=(hi*18446744073709551616+lo)*2^s/(y*2^s):=(Nat.mul_div_mul_right _ _ hps).symm;have hr:(hi*18446744073709551616+lo)%y=(hi*18446744073709551616+lo)*2^s%(y*2^s)/2^s:=by rw[Nat.mul_mod_mul_right,Nat.mul_div_cancel _ hps]
  rw[hq,hr,←hs3];clear hq hr hs3;obtain ⟨Y,hY⟩:∃ Y,Y=y*2^s:=⟨_,rfl⟩;obtain ⟨U,hU⟩:∃ U,U=hi*2^s+lo/2^(64-s):=⟨_,rfl⟩;obtain ⟨L,hL⟩:∃ L,L=lo*2^s%18446744073709551616:=⟨_,rfl⟩;have hLl:L<18446744073709551616:=by rw[hL]; exact Fz _ (by decide)
  rw[←hY,←hU,←hL];rw[←hY,←hU]at hs4;rw[←hY]at hs5 htop;refine X1 _ (uO y hy) ?_;refine X1 ((s:Nat):Int) (wU (by omega) (by omega) (by omega)) ?_;refine .intro (by omega) (X1 ((Y:Nat):Int) (by rw[t6 (by omega),←hY,Fc hs5]) ?_);obtain ⟨d1,hd1⟩:∃ d,d=Y/4294967296:=⟨_,rfl⟩;obtain ⟨d0,hd0⟩:∃ d,d=Y%4294967296:=⟨_,rfl⟩;obtain ⟨x1,hx1⟩:∃ d,d=L/4294967296:=⟨_,rfl⟩;obtain ⟨x0,hx0⟩:∃ d,d=L%4294967296:=⟨_,rfl⟩;have hYd:Y=d1*4294967296+d0:=by omega
  have hLx:L=x1*4294967296+x0:=by omega
  refine .intro (by omega) (X1 ((d1:Nat):Int) (by rw[hd1]; exact gb (k:=32) (by decide)) (.intro (inU (by omega)) ?_));refine X1 ((d0:Nat):Int) (by rw[hd0]; exact su hs5) ?_;have hle:lo/2^(64-s)≤lo:=FV _ _;refine .intro (by omega) (X1 ((hi*2^s:Nat):Int) (by rw[t6 (by omega),Fc hs1]) ?_);refine X1 ((64-s:Nat):Int) (wU (by omega) (by omega) (by omega)) ?_;refine .intro (by omega) (X1 ((lo/2^(64-s):Nat):Int) (gb (k:=64-s) (by omega)) (.intro (inU (by omega)) ?_));refine X1 ((U:Nat):Int) (by rw[orU hs1 (by omega),hs2,hU]) ?_;refine .intro (by omega) (X1 ((L:Nat):Int) (by rw[t6 (by omega),hL]) ?_);refine .intro (by omega) (X1 ((x1:Nat):Int) (by rw[hx1]; exact gb (k:=32) (by decide)) (.intro (inU (by omega)) ?_));refine X1 ((x0:Nat):Int) (by rw[hx0]; exact su hLl) ?_;have hd1':2147483648≤d1:=by omega
  have hd0':d0<4294967296:=by omega
  have hx1':x1<4294967296:=by omega
  have hx0':x0<4294967296:=by omega
  rw[hYd]at hs4;obtain ⟨g1,g2,g3,g4⟩:=DP hd1' hd0' hs4 hx1';have hT:=Cn hs4 hx1';have hUl:U/d1*d1≤U:=by omega
  refine .intro (by omega) (X1 ((U/d1:Nat):Int) (ko rfl) (.intro (inU (by omega)) ?_));refine X1 ((U/d1*d1:Nat):Int) (by rw[←Hd,tZ,Fc (by omega)]) ?_;refine X1 ((U%d1:Nat):Int) (wU (by omega) (GU _) (by omega)) ?_;have hY0:0<Y:=by omega
  obtain ⟨T,hT'⟩:∃ T,T=(U*4294967296+x1)/Y:=⟨_,rfl⟩;obtain ⟨R,hR⟩:∃ R,R=(U*4294967296+x1)%Y:=⟨_,rfl⟩;rw[←hYd,←hT']at g2 hT;have hTd:T=(U*4294967296+x1)/(d1*4294967296+d0):=by rw[hT',hYd]
  have hRl:R<Y:=by rw[hR]; exact Fz _ hY0
  refine ax aj aa (G:=Nat × Nat) (λ(q,r)=>q*d1+r=U∧T≤q∧q≤4294967297∧r<4294967296)
   (λ(q,r)=>[(2,.c (nI .u64 Y)),(8,.c (nI .u64 s)),(9,.c (nI .u64 d1)),(10,.c (nI .u64 d0)),(11,.c (nI .u64 U)),(13,.c (nI .u64 x1)),(14,.c (nI .u64 x0)),(15,.c (nI .u64 q)),(16,.c (nI .u64 r))]) (λ_=>[]) (λ(q,_)=>q)
   (U/d1,U%d1) ⟨g1,g2,g3,by omega⟩ ⟨rfl,rfl,rfl,rfl,rfl,rfl,rfl,rfl,rfl,HB⟩ trivial
   (λ_:Unit=>True) (λ_=>[(2,.c (nI .u64 Y)),(8,.c (nI .u64 s)),(9,.c (nI .u64 d1)),(10,.c (nI .u64 d0)),(11,.c (nI .u64 U)),(13,.c (nI .u64 x1)),(14,.c (nI .u64 x0)),(15,.c (nI .u64 T))]) (λ_=>[]) (λ(q,r) hi=>?_) (λ_ _=>?_)
  ·obtain ⟨k1,k2,k3,k4⟩:=hi;refine ae (λh1=>?_) (λh1=>?_)
   ·have hlt:T<q:=by omega
    obtain ⟨m1,m2⟩:=mL hd0' (by omega) hTd k1 k3 hlt;refine X1 ((q-1:Nat):Int) (wU (by omega) (by omega) (by omega)) ?_;refine X1 ((r+d1:Nat):Int) (wU (by omega) (by omega) (by omega)) ?_;refine ae (λh2=>?_) (λh2=>?_)
    ·exact ⟨(),HB,⟨rfl,rfl,rfl,rfl,rfl,rfl,rfl,iE (by rw[m2 (by omega)]),HB⟩,HB⟩
    ·exact ⟨(q-1,r+d1),⟨m1,by omega,by omega,by omega⟩,by show q-1<q; omega,⟨rfl,rfl,rfl,rfl,rfl,rfl,rfl,rfl,rfl,HB⟩,HB⟩
   ·have hqd:q*d0≤4294967295*4294967295:=FE (by omega) (by omega);refine X1 ((q*d0:Nat):Int) (by rw[←Hd,tZ,Fc (by omega)]) ?_;refine X1 ((4294967296*r:Nat):Int) (wU (by omega) (by omega) (by omega)) ?_;refine X1 ((4294967296*r+x1:Nat):Int) (wU (by omega) (by omega) (by omega)) ?_;refine ae (λh3=>?_) (λh3=>?_)
    ·have hlt:T<q:=by rw[hTd]; exact Cm k1 (Hq.1 h3)
     obtain ⟨m1,m2⟩:=mL hd0' (by omega) hTd k1 k3 hlt;refine X1 ((q-1:Nat):Int) (wU (by omega) (by omega) (by omega)) ?_;refine X1 ((r+d1:Nat):Int) (wU (by omega) (by omega) (by omega)) ?_;refine ae (λh2=>?_) (λh2=>?_)
     ·exact ⟨(),HB,⟨rfl,rfl,rfl,rfl,rfl,rfl,rfl,iE (by rw[m2 (by omega)]),HB⟩,HB⟩
     ·exact ⟨(q-1,r+d1),⟨m1,by omega,by omega,by omega⟩,by show q-1<q; omega,⟨rfl,rfl,rfl,rfl,rfl,rfl,rfl,rfl,rfl,HB⟩,HB⟩
    ·have he:T=q:=by rw[hTd]; exact yZ k1 (by have:=λh=>h3 (Hq.2 h); omega) (by omega) (by rw[←hTd]; exact k2)
     exact ⟨(),HB,⟨rfl,rfl,rfl,rfl,rfl,rfl,rfl,iE (by rw[he]),HB⟩,HB⟩
  ·have hUm:U*4294967296+x1=T*Y+R:=by
    have:=FF (U*4294967296+x1) Y;rw[←hT',←hR,EQ]at this;exact this.symm
   refine X1 _ rfl ?_;refine X1 _ rfl ?_;refine X1 _ rfl ?_;refine X1 ((R:Nat):Int) (y3 hUm (by omega)) ?_;have hs4':=hRl;rw[hYd]at hs4';obtain ⟨f1,f2,f3,f4⟩:=DP hd1' hd0' hs4' hx0';have hT2:=Cn hs4' hx0';have hUl2:R/d1*d1≤R:=by omega
   refine .intro (by omega) (X1 ((R/d1:Nat):Int) (ko rfl) (.intro (inU (by omega)) ?_));refine X1 ((R/d1*d1:Nat):Int) (by rw[←Hd,tZ,Fc (by omega)]) ?_;refine X1 ((R%d1:Nat):Int) (wU (by omega) (GU _) (by omega)) ?_;obtain ⟨T2,hT2'⟩:∃ T,T=(R*4294967296+x0)/Y:=⟨_,rfl⟩;obtain ⟨R2,hR2⟩:∃ T,T=(R*4294967296+x0)%Y:=⟨_,rfl⟩;rw[←hYd,←hT2']at f2 hT2;have hT2d:T2=(R*4294967296+x0)/(d1*4294967296+d0):=by rw[hT2',hYd]
   have hR2l:R2<Y:=by rw[hR2]; exact Fz _ hY0
   refine ax aj aa (G:=Nat × Nat) (λ(q,r)=>q*d1+r=R∧T2≤q∧q≤4294967297∧r<4294967296)
    (λ(q,r)=>[(2,.c (nI .u64 Y)),(8,.c (nI .u64 s)),(9,.c (nI .u64 d1)),(10,.c (nI .u64 d0)),(14,.c (nI .u64 x0)),(15,.c (nI .u64 T)),(17,.c (nI .u64 R)),(18,.c (nI .u64 q)),(16,.c (nI .u64 r))]) (λ_=>[]) (λ(q,_)=>q)
    (R/d1,R%d1) ⟨f1,f2,f3,by omega⟩ ⟨rfl,rfl,rfl,rfl,rfl,rfl,rfl,rfl,rfl,HB⟩ trivial
    (λ_:Unit=>True) (λ_=>[(2,.c (nI .u64 Y)),(8,.c (nI .u64 s)),(14,.c (nI .u64 x0)),(15,.c (nI .u64 T)),(17,.c (nI .u64 R)),(18,.c (nI .u64 T2))]) (λ_=>[]) (λ(q,r) hi=>?_) (λ_ _=>?_)
   ·obtain ⟨k1,k2,k3,k4⟩:=hi;refine ae (λh1=>?_) (λh1=>?_)
    ·have hlt:T2<q:=by omega
     obtain ⟨m1,m2⟩:=mL hd0' (by omega) hT2d k1 k3 hlt;refine X1 ((q-1:Nat):Int) (wU (by omega) (by omega) (by omega)) ?_;refine X1 ((r+d1:Nat):Int) (wU (by omega) (by omega) (by omega)) ?_;refine ae (λh2=>?_) (λh2=>?_)
     ·exact ⟨(),HB,⟨rfl,rfl,rfl,rfl,rfl,iE (by rw[m2 (by omega)]),HB⟩,HB⟩
     ·exact ⟨(q-1,r+d1),⟨m1,by omega,by omega,by omega⟩,by show q-1<q; omega,⟨rfl,rfl,rfl,rfl,rfl,rfl,rfl,rfl,rfl,HB⟩,HB⟩
    ·have hqd:q*d0≤4294967295*4294967295:=FE (by omega) (by omega);refine X1 ((q*d0:Nat):Int) (by rw[←Hd,tZ,Fc (by omega)]) ?_;refine X1 ((4294967296*r:Nat):Int) (wU (by omega) (by omega) (by omega)) ?_;refine X1 ((4294967296*r+x0:Nat):Int) (wU (by omega) (by omega) (by omega)) ?_;refine ae (λh3=>?_) (λh3=>?_)
     ·have hlt:T2<q:=by rw[hT2d]; exact Cm k1 (Hq.1 h3)
      obtain ⟨m1,m2⟩:=mL hd0' (by omega) hT2d k1 k3 hlt;refine X1 ((q-1:Nat):Int) (wU (by omega) (by omega) (by omega)) ?_;refine X1 ((r+d1:Nat):Int) (wU (by omega) (by omega) (by omega)) ?_;refine ae (λh2=>?_) (λh2=>?_)
      ·exact ⟨(),HB,⟨rfl,rfl,rfl,rfl,rfl,iE (by rw[m2 (by omega)]),HB⟩,HB⟩
      ·exact ⟨(q-1,r+d1),⟨m1,by omega,by omega,by omega⟩,by show q-1<q; omega,⟨rfl,rfl,rfl,rfl,rfl,rfl,rfl,rfl,rfl,HB⟩,HB⟩
     ·have he:T2=q:=by rw[hT2d]; exact yZ k1 (by have:=λh=>h3 (Hq.2 h); omega) (by omega) (by rw[←hT2d]; exact k2)
      exact ⟨(),HB,⟨rfl,rfl,rfl,rfl,rfl,iE (by rw[he]),HB⟩,HB⟩
   ·have hRm:R*4294967296+x0=T2*Y+R2:=by
     have:=FF (R*4294967296+x0) Y;rw[←hT2',←hR2,EQ]at this;exact this.symm
    obtain ⟨z1,z2⟩:=CT (u:=U) (x1:=x1) (x0:=x0) hY0 (by rw[EQ,←hUm]) hT2'.symm hR2.symm;refine X1 ((T*4294967296:Nat):Int) (wU (by omega) (by omega) (by omega)) ?_;refine X1 ((T*4294967296+T2:Nat):Int) (wU (by omega) (by omega) (by omega)) ?_;refine X1 _ rfl ?_;refine X1 _ rfl ?_;refine X1 _ rfl ?_;refine X1 ((R2:Nat):Int) (y3 hRm (by omega)) ?_;have hle2:R2/2^s≤R2:=FV _ _;refine .intro (by omega) (X1 ((R2/2^s:Nat):Int) (gb (k:=s) (by omega)) (.intro (inU (by omega)) ?_));rw[hLx];exact ⟨HB,r1 (iE (by rw[z1])),r1 (iE (by rw[z2])),HB⟩
end
section
theorem dI (B:Nat) {l:List Nat} {i:Nat} (h:i<l.length):val B (l.drop i)=l.getD i 0+B*val B (l.drop (i+1)):=by
 rw[E4 h,val,Ev,ES h];rfl
theorem kK (B:Nat) {l:List Nat} {i x:Nat} (h:i<l.length):val B ((l.set i x).drop i)=x+B*val B (l.drop (i+1)):=by
 rw[dI B (by simpa using h)];congr 1
 ·simp[Ev,h]
 ·rw[List.drop_set_of_lt (by omega)]
theorem uU {a d q r:Nat} (h:a=d*q+r) (hr:r<d):q=a/d∧r=a%d:=by
 subst h;rw[Nat.mul_add_div (by omega),Hl,Ga hr,Fc hr];exact ⟨rfl,rfl⟩
theorem v8 (a d:Nat) (hd:0<d) (hd2:d<18446744073709551616) (ha:(dg 18446744073709551616 a).length≤1000000):Ct P 152 [nV a,.c (nI .u64 d)] [nV (a/d),.c (nI .u64 (a%d))]:=by
 have hA:=bw (B:=18446744073709551616) (by omega) a;have vA:=bp (B:=18446744073709551616) (by omega) a;refine Ct.go aj aa (N:=38) Tryz.func152 rfl rfl rfl rfl ?_;refine .intro (by rw[ai]; omega) ?_;rw[ai];refine ⟨by omega,by omega,by omega,.inl (by decide),?_⟩;refine .intro (by rw[ai]; omega) ?_;rw[ai];refine X1 (((dg 18446744073709551616 a).length:Int)-1) (wI rfl (by omega) (by omega)) ?_;refine ax aj aa (G:=Nat × List Nat × Nat) (λ(n,out,c)=>n≤(dg 18446744073709551616 a).length∧out.length=(dg 18446744073709551616 a).length∧Dig 18446744073709551616 out∧c<d∧val 18446744073709551616 ((dg 18446744073709551616 a).drop n)=d*val 18446744073709551616 (out.drop n)+c)
  (λ(n,out,c)=>[(1,.c (nI .u64 d)),(2,.c (.ad 2 0)),(4,.c (.ad 4 0)),(6,.c (.ow 12 1 (dg 18446744073709551616 a).length)),(7,.c (nI .u64 c)),(8,.c (eI .i64 ((n:Int)-1)))])
  (λ((n,out,c):Nat × List Nat × Nat)=>[(2,.var [nSl .u64 (dg 18446744073709551616 a)]),(4,.var [.sc (.slice none 0 0)]),(12,.row 1 (aF .u64 out))]) (λ(n,out,c)=>n)
  ((dg 18446744073709551616 a).length,List.replicate (dg 18446744073709551616 a).length 0,0) ⟨by simp,by simp,λx hx=>by rw[Fv hx]; omega,hd,by simp[val]⟩
  ⟨rfl,rfl,rfl,owE (by omega),rfl,rfl,HB⟩ ⟨rfl,rfl,aB (fg rfl),HB⟩
  (λl:List Nat=>Dig 18446744073709551616 l∧val 18446744073709551616 l=a/d∧l.length≤1000000) (λl=>[(4,.c (.ad 4 0)),(6,.c (.ow 12 1 (dg 18446744073709551616 a).length)),(7,.c (nI .u64 (a%d)))]) (λl=>[(4,.var [.sc (.slice none 0 0)]),(12,.row 1 (aF .u64 l))]) (λg hg=>?_) (λl hl=>?_)
 ·obtain ⟨n,out,c⟩:=g;obtain ⟨h1,h2,h3,h4,h6⟩:=hg;refine ae (λh5=>?_) (λh5=>?_)
  ·obtain ⟨i,rfl⟩:∃ i,n=i+1:=⟨n-1,by omega⟩;have hx:=hA.getD (by omega) i;have hD:=dI 18446744073709551616 (l:=dg 18446744073709551616 a) (i:=i) (by omega);refine .intro (by omega) (X1 _ (al (n:=i) (by omega) (by omega)) ?_);generalize (dg 18446744073709551616 a).getD i 0=x at hx hD ⊢;refine X1 _ (sv c x d h4 hx hd2) ?_;have hm:=Fz (c*18446744073709551616+x) hd;have hdm:=FF (c*18446744073709551616+x) d;have hq:(c*18446744073709551616+x)/d<18446744073709551616:=by
    refine FC ?_;have:=EE 18446744073709551616 (Nat.succ_le_of_lt h4);omega
   generalize (c*18446744073709551616+x)/d=q at *
   generalize (c*18446744073709551616+x)%d=r at *
   refine .intro (by omega) (.intro (by omega) ?_);refine X1 _ (al (n:=i) (by omega) (by omega)) ?_;refine X1 ((i:Int)-1) (wI (by omega) (by omega) (by omega)) ?_;refine ⟨(i,out.set i q,r),⟨by omega,by simp[h2],h3.set hq,hm,?_⟩,by show i<i+1; omega,⟨rfl,rfl,rfl,rfl,rfl,rfl,HB⟩,⟨rfl,rfl,aB (by rw[←nRow_set,show (((i+1:Nat):Int)-1).toNat=i by omega]; rfl),HB⟩⟩;have hs:=kK 18446744073709551616 (l:=out) (i:=i) (x:=q) (by omega);rw[hD,h6,hs,EW,EW,Fu d];omega
  ·have e:n=0:=by omega
   subst e;rw[FU,FU,vA]at h6;obtain ⟨e1,e2⟩:=uU h6 h4;exact ⟨out,⟨h3,e1,by omega⟩,⟨rfl,rfl,iE (by rw[e2]),HB⟩,⟨rfl,rfl,HB⟩⟩
 ·obtain ⟨h1,h2,h3⟩:=hl;refine X2 .frz ?_;refine X1 _ (ej l h3) ?_;rw[cE (by omega) h1,h2];exact ⟨HB,rc rfl,r1 rfl,HB⟩
theorem nX {x s:Nat} (hx:x<18446744073709551616) (hs:s≤64):x*2^s%18446744073709551616=x%2^(64-s)*2^s∧x*2^s=x%2^(64-s)*2^s+18446744073709551616*(x/2^(64-s))∧x/2^(64-s)<2^s:=by
 have e64:2^s*2^(64-s)=18446744073709551616:=by rw[←Fw,show s+(64-s)=64 by omega]
 have hp:0<2^s:=Fo s;have hp2:0<2^(64-s):=Fo _;generalize 2^(64-s)=b at *
 generalize 2^s=a at *
 have h4:x*a=x%b*a+18446744073709551616*(x/b):=by
  conv=>lhs; rw[←FF x b]
  rw[EO,←e64,EQ b,EL,EQ b,EQ (x/b)];omega
 have hlt:x%b*a<18446744073709551616:=by
  rw[←e64,EQ a]; exact FW (Fz _ hp2) hp
 refine ⟨by rw[h4,Gr,Fc hlt],h4,FC (by rw[EQ,e64]; exact hx)⟩
theorem y4 {v m s:Nat} (hv:v<2^s):(v|||m*2^s)=v+m*2^s:=by
 rw[Nat.or_comm,EQ,←Nat.two_pow_add_eq_or_of_lt hv,GS]
theorem CU {out:List Nat} {j s x v:Nat} (hx:x<18446744073709551616) (hs:s≤64) (hj:j+1<out.length) (hv:v=out.getD j 0) (h0:out.getD (j+1) 0=0) (hl:v<2^s) :
  val 18446744073709551616 ((out.set j (v|||x*2^s%18446744073709551616)).set (j+1) (x/2^(64-s)))=val 18446744073709551616 out+18446744073709551616^j*(x*2^s):=by
 obtain ⟨g1,g2,g3⟩:=nX hx hs;rw[g1,y4 hl,g2];have e1:=fT (B:=18446744073709551616) (l:=out) (i:=j) (x:=v+x%2^(64-s)*2^s) (by omega);have e2:=fT (B:=18446744073709551616) (l:=out.set j (v+x%2^(64-s)*2^s)) (i:=j+1) (x:=x/2^(64-s)) (by simpa using hj);rw[getD_set_ne (by omega),h0,FQ,FM]at e2;rw[←hv]at e1;rw[e2,Ff,EL];simp only[EW]at e1 ⊢;omega
theorem y5 {v m:Nat} (hv:v<18446744073709551616) (hm:m<18446744073709551616):(v|||m)<18446744073709551616:=Nat.or_lt_two_pow (n:=64) (by omega) (by omega)
theorem sw {l:List Nat} {i v:Nat} (h:i<l.length):(l.set i v).getD i 0=v:=by simp[Ev,h]
theorem mi {k:IntKind} {l:List Nat} {i x n:Nat} {j:Int} (h0:j=n) (h:n<l.length):((aF k l).set i [nI k x])[j.toNat]? = some [nI k ((l.set i x).getD n 0)]:=by
 rw[nRow_set]; exact al h0 (by simpa using h)
theorem v9 {k:IntKind} {l:List Nat} {i x n:Nat} {j:Int} (h0:j=n) (h1:i=n) (h:n<l.length):((aF k l).set i [nI k x])[j.toNat]? = some [nI k x]:=by
 subst h0; subst h1;simp[ai,h]
theorem pp (a n:Nat) (ha:(dg 18446744073709551616 a).length≤400000) (hn:n≤1000000):Ct P 82 [nV a,.c (nI .i64 n)] [nV (a*2^n)]:=by
 have hA:=bw (B:=18446744073709551616) (by omega) a;have vA:=bp (B:=18446744073709551616) (by omega) a;refine Ct.go aj aa (N:=63) Tryz.func82 rfl rfl rfl rfl ?_;refine ae (λh0=>?_) (λh0=>?_)
 ·have:n=0:=by omega
  subst this;rw[Hr,FT];exact ⟨HB,rc rfl,HB⟩
 ·refine X1 _ (fC a (by omega)) ?_;refine aP (λh1=>?_) (λh1=>?_)
  ·have:a=0:=by simpa using h1
   subst this;rw[Hm];exact ⟨HB,rc rfl,HB⟩
  ·obtain ⟨k,hk⟩:∃ k,k=n/64:=⟨_,rfl⟩;obtain ⟨s,hs⟩:∃ s,s=n%64:=⟨_,rfl⟩;refine .intro (by omega) (X1 ((k:Nat):Int) (by rw[hk]; exact ko rfl) (.intro ⟨by omega,by omega⟩ ?_));refine .intro (by omega) (X1 ((s:Nat):Int) (by rw[hs]; exact mh rfl) (.intro ⟨by omega,by omega⟩ ?_));refine X1 ((s:Nat):Int) (wU rfl (by omega) (by omega)) ?_;refine .intro (by rw[ai]; omega) ?_;rw[ai];refine X1 (((dg 18446744073709551616 a).length+k:Nat):Int) (wI (by simp) (by omega) (by omega)) ?_;refine X1 (((dg 18446744073709551616 a).length+k+1:Nat):Int) (wI (by simp) (by omega) (by omega)) ?_;refine ⟨by omega,by omega,by omega,.inl (by decide),?_⟩;refine .intro (by rw[ai]; omega) ?_;rw[ai];have e2n:2^n=18446744073709551616^k*2^s:=by rw[nQ,←Fw,show 64*k+s=n by omega]
   obtain ⟨A,eA⟩:∃ A,A=dg 18446744073709551616 a:=⟨_,rfl⟩;rw[←eA]at hA vA ha;rw[←eA];refine ax aj aa (G:=Nat × List Nat) (λ(i,out)=>i≤A.length∧out.length=A.length+k+1∧Dig 18446744073709551616 out∧(∀ j,i+k<j→out.getD j 0=0)∧out.getD (i+k) 0<2^s∧val 18446744073709551616 out=val 18446744073709551616 (A.take i)*2^n)
    (λ(i,out)=>[(2,.c (.ad 2 0)),(4,.c (.ad 4 0)),(5,.c (nI .i64 k)),(6,.c (nI .u64 s)),(7,.c (.ow 28 1 (A.length+k+1))),(30,.c (nSl .u64 A)),(31,.c (nI .i64 A.length)),(32,.c (nI .i64 i))])
    (λ((i,out):Nat × List Nat)=>[(2,.var [nSl .u64 A]),(4,.var [.sc (.slice none 0 0)]),(28,.row 1 (aF .u64 out))]) (λ(i,_)=>A.length-i)
    (0,List.replicate (A.length+k+1) 0) ⟨by simp,by simp,λx hx=>by rw[Fv hx]; omega,λj _=>by simp[Ev,FX]; split<;>rfl,by
     have:(List.replicate (A.length+k+1) 0).getD (0+k) 0=0:=by simp[Ev,FX]; split<;>rfl
     rw[this]; exact Fo s,by simp[val,mD]⟩
    ⟨rfl,rfl,rfl,rfl,owE (by omega),(by rw[eA]; rfl),(by rw[eA]; rfl),rfl,HB⟩ ⟨(by rw[eA]; rfl),rfl,aB (fg rfl),HB⟩
    (λl:List Nat=>Dig 18446744073709551616 l∧val 18446744073709551616 l=a*2^n∧l.length≤1000000) (λl=>[(4,.c (.ad 4 0)),(7,.c (.ow 28 1 (A.length+k+1)))]) (λl=>[(4,.var [.sc (.slice none 0 0)]),(28,.row 1 (aF .u64 l))]) (λg hg=>?_) (λl hl=>?_)
   ·obtain ⟨i,out⟩:=g;obtain ⟨h1,h2,h3,h4,h5,h6⟩:=hg;refine ae (λh7=>?_) (λh7=>?_)
    ·have hx:=hA.getD (by omega) i;have hT:=aC 18446744073709551616 A i;refine .intro (by omega) (X1 _ (al rfl (by omega)) ?_);generalize A.getD i 0=x at hx hT ⊢;have hv:=h3.getD (by omega) (i+k);refine X1 ((i+k:Nat):Int) (wI (by simp) (by omega) (by omega)) ?_;refine .intro (by omega) (.intro (by omega) ?_);refine X1 _ (al rfl (by omega)) ?_;have hvu:=CU (out:=out) (j:=i+k) (s:=s) (x:=x) hx (by omega) (by omega) rfl (h4 _ (by omega)) h5;have hor:(out.getD (i+k) 0|||x*2^s%18446744073709551616)<18446744073709551616:=y5 hv (Fz _ (by decide));have hsp:=nX hx (s:=s) (by omega);generalize out.getD (i+k) 0=v at *
     refine .intro (by omega) (X1 _ (t6 (by omega)) ?_);refine X1 _ (orU hv (Fz _ (by decide))) ?_;refine .intro (by omega) (.intro (by omega) ?_);refine X1 _ (al rfl (by omega)) ?_;have hlow:x/2^(64-s)≤x:=FV _ _;refine ae (λh8=>?_) (λh8=>?_)
     ·refine X1 ((i+k:Nat):Int) (wI (by simp) (by omega) (by omega)) ?_;refine X1 ((i+k+1:Nat):Int) (wI (by simp) (by omega) (by omega)) ?_;refine X1 ((64-s:Nat):Int) (wU (by omega) (by omega) (by omega)) ?_;refine .intro (by omega) (X1 ((x/2^(64-s):Nat):Int) (gb (k:=64-s) (by omega)) (.intro (inU (by omega)) ?_));refine .intro (by omega) (.intro (by omega) ?_);refine X1 _ (mi rfl (by omega)) ?_;refine X1 ((i+1:Nat):Int) (wI1 (by omega)) ?_;refine ⟨(i+1,(out.set (i+k) (v|||x*2^s%18446744073709551616)).set (i+k+1) (x/2^(64-s))),⟨by omega,by simp[h2],(h3.set hor).set (by omega),λj hj=>by rw[getD_set_ne (by omega),getD_set_ne (by omega)]; exact h4 j (by omega),by rw[show i+1+k=i+k+1 by omega,sw (by simp; omega)]; exact hsp.2.2,?_⟩,by show _-(i+1)<_-i; omega,⟨rfl,rfl,rfl,rfl,rfl,rfl,rfl,rfl,HB⟩,⟨rfl,rfl,aB (by rw[←nRow_set,←nRow_set]; rfl),HB⟩⟩;rw[hvu,h6,hT,EO,e2n,Fw];congr 1;simp only[EL,Fu,EQ]
     ·have e0:s=0:=by omega
      have hz:x/2^(64-s)=0:=by rw[e0]; exact Ga (by omega)
      rw[hz]at hvu;have hs2:=fT (B:=18446744073709551616) (l:=out.set (i+k) (v|||x*2^s%18446744073709551616)) (i:=i+k+1) (x:=0) (by simp; omega);rw[getD_set_ne (by omega),h4 _ (by omega),FQ,FM,FM,hvu]at hs2;refine X1 ((i+1:Nat):Int) (wI1 (by omega)) ?_;refine ⟨(i+1,out.set (i+k) (v|||x*2^s%18446744073709551616)),⟨by omega,by simp[h2],h3.set hor,λj hj=>by rw[getD_set_ne (by omega)]; exact h4 j (by omega),by rw[getD_set_ne (by omega),h4 _ (by omega)]; exact Fo s,?_⟩,by show _-(i+1)<_-i; omega,⟨rfl,rfl,rfl,rfl,rfl,rfl,rfl,rfl,HB⟩,⟨rfl,rfl,aB (by rw[←nRow_set]; rfl),HB⟩⟩;rw[FM]at hs2;rw[←hs2,h6,hT,EO,e2n,Fw];congr 1;simp only[EL,Fu,EQ]
    ·have e:i=A.length:=by omega
     subst e;rw[aU (Ew _),vA]at h6;exact ⟨out,⟨h3,h6,by omega⟩,⟨rfl,rfl,HB⟩,⟨rfl,rfl,HB⟩⟩
   ·obtain ⟨h1,h2,h3⟩:=hl;refine X2 .frz ?_;refine X1 _ (ej l h3) ?_;rw[cE (by omega) h1,h2];exact ⟨HB,rc rfl,HB⟩
theorem nY {x y s v w:Nat} (hx:x<18446744073709551616) (hy:y<18446744073709551616) (hs:s<64) (hv:v=y+18446744073709551616*w) :
  (x+18446744073709551616*v)/2^s=(x/2^s|||y*2^(64-s)%18446744073709551616)+18446744073709551616*(v/2^s)∧x/2^s<2^(64-s):=by
 have e64:2^s*2^(64-s)=18446744073709551616:=by rw[←Fw,show s+(64-s)=64 by omega]
 have hp:0<2^s:=Fo s;obtain ⟨g1,_,_⟩:=nX hy (s:=64-s) (by omega);have hxl:x/2^s<2^(64-s):=FC (by rw[e64]; exact hx);rw[g1,y4 hxl,show 64-(64-s)=s by omega];refine ⟨?_,hxl⟩;generalize 2^(64-s)=b at *
 generalize 2^s=a at *
 have h1:v%a=y%a:=by
  rw[hv,←e64,EL,Gr]
 have h2:=FF v a;have h3:x+18446744073709551616*v=x+a*(y%a*b+18446744073709551616*(v/a)):=by
  conv=>lhs; rw[←h2,h1]
  rw[EW,EW,←e64,EQ (y%a) b,←EL a b,←EL (a*b) a,EQ (a*b) a,EL a (a*b)];omega
 rw[h3,GP _ _ hp,Fx]
theorem y6:leA (.ag [.sc (.slice none 0 0)]) (nV 0):=by
 unfold nV;rw[bE];exact ⟨.inr ⟨rfl,1,rfl⟩,HB⟩
theorem qp (a n:Nat) (ha:(dg 18446744073709551616 a).length≤1000000) (hn:n≤100000000):Ct P 146 [nV a,.c (nI .i64 n)] [nV (a/2^n)]:=by
 have hA:=bw (B:=18446744073709551616) (by omega) a;have vA:=bp (B:=18446744073709551616) (by omega) a;refine Ct.go aj aa (N:=76) Tryz.func146 rfl rfl rfl rfl ?_;have e:(if (0:Int)>((n:Nat):Int) then 0 else ((n:Nat):Int))=n:=if_neg (by omega);refine X1 _ (nS a ha) ?_;refine ae (λh0=>?_) (λh0=>?_)
 ·rw[e]at h0;have:a/2^n=0:=Ga (EG (fh a) (EK (by omega) (by omega)));rw[this];exact ⟨HB,⟨_,rfl,y6⟩,HB⟩
 ·rw[e]at h0 ⊢;have hb:=nR a;obtain ⟨k,hk⟩:∃ k,k=n/64:=⟨_,rfl⟩;obtain ⟨s,hs⟩:∃ s,s=n%64:=⟨_,rfl⟩;refine .intro (by omega) (X1 ((k:Nat):Int) (by rw[hk]; exact ko rfl) (.intro ⟨by omega,by omega⟩ ?_));refine .intro (by omega) (X1 ((s:Nat):Int) (by rw[hs]; exact mh rfl) (.intro ⟨by omega,by omega⟩ ?_));refine X1 ((s:Nat):Int) (wU rfl (by omega) (by omega)) ?_;have hkl:k<(dg 18446744073709551616 a).length:=by omega
  refine .intro (by rw[ai]; omega) ?_;rw[ai];refine X1 (((dg 18446744073709551616 a).length-k:Nat):Int) (wI (by omega) (by omega) (by omega)) ?_;refine ⟨by omega,by omega,by omega,.inl (by decide),?_⟩;refine .intro (by omega) ?_;obtain ⟨A,eA⟩:∃ A,A=dg 18446744073709551616 a:=⟨_,rfl⟩;rw[←eA]at hA vA ha hkl;rw[←eA];have hV:∀ i,k+i<A.length→(val 18446744073709551616 (A.drop (k+i)))/2^s=(A.getD (k+i) 0/2^s|||A.getD (k+i+1) 0*2^(64-s)%18446744073709551616)+18446744073709551616*(val 18446744073709551616 (A.drop (k+i+1))/2^s)∧(A.getD (k+i) 0/2^s|||A.getD (k+i+1) 0*2^(64-s)%18446744073709551616)<18446744073709551616:=λi hi=>by
   have hx:=hA.getD (by omega) (k+i);have hy:=hA.getD (by omega) (k+i+1);have hle:=FV (A.getD (k+i) 0) (2^s);refine ⟨?_,y5 (by omega) (Fz _ (by decide))⟩;rw[dI _ hi];rcases Fm (k+i+1) A.length with h | h
   ·exact (nY hx hy (by omega) (dI _ h)).1
   ·have e1:A.getD (k+i+1) 0=0:=by rw[Ev,ET h]; rfl
    exact (nY (w:=0) hx hy (by omega) (by rw[e1,FL h]; rfl)).1
  have hfin:a/2^n=val 18446744073709551616 (A.drop k)/2^s:=by
   have h1:=fB 18446744073709551616 A k;have h2:=eg (by omega:0<18446744073709551616) (hA.take (n:=k));rw[EJ,F1 (by omega)]at h2;rw[F1 (by omega),vA]at h1;rw[show n=64*k+s by omega,Fw,←nQ,←GB,h1,GP _ _ (Nat.pow_pos (by omega)),Ga h2,Fn]
  rw[hfin];refine ax aj aa (G:=Nat × List Nat) (λ(i,out)=>i≤A.length-k∧out.length=A.length-k∧Dig 18446744073709551616 out∧val 18446744073709551616 (out.take i)+18446744073709551616^i*(val 18446744073709551616 (A.drop (k+i))/2^s)=val 18446744073709551616 (A.drop k)/2^s)
   (λ(i,out)=>[(2,.c (.ad 2 0)),(4,.c (.ad 4 0)),(5,.c (nI .i64 k)),(6,.c (nI .u64 s)),(7,.c (.ow 26 1 (A.length-k))),(28,.c (nI .i64 (A.length-k:Nat))),(29,.c (nI .i64 i))])
   (λ((i,out):Nat × List Nat)=>[(2,.var [nSl .u64 A]),(4,.var [.sc (.slice none 0 0)]),(26,.row 1 (aF .u64 out))]) (λ(i,_)=>A.length-i)
   (0,List.replicate (A.length-k) 0) ⟨by simp,by simp,λx hx=>by rw[Fv hx]; omega,by simp[val]⟩
   ⟨rfl,rfl,rfl,rfl,owE (by omega),rfl,rfl,HB⟩ ⟨(by rw[eA]; rfl),rfl,aB (fg rfl),HB⟩
   (λl:List Nat=>Dig 18446744073709551616 l∧val 18446744073709551616 l=val 18446744073709551616 (A.drop k)/2^s∧l.length≤1000000) (λl=>[(4,.c (.ad 4 0)),(7,.c (.ow 26 1 (A.length-k)))]) (λl=>[(4,.var [.sc (.slice none 0 0)]),(26,.row 1 (aF .u64 l))]) (λg hg=>?_) (λl hl=>?_)
  ·obtain ⟨i,out⟩:=g;obtain ⟨h1,h2,h3,h4⟩:=hg;refine ae (λh7=>?_) (λh7=>?_)
   ·obtain ⟨v1,v2⟩:=hV i (by omega);have hx:=hA.getD (by omega) (k+i);have hlow:A.getD (k+i) 0/2^s≤A.getD (k+i) 0:=FV _ _;refine X1 ((k+i:Nat):Int) (wI (by omega) (by omega) (by omega)) ?_;refine .intro (by omega) (X1 _ (al rfl (by omega)) ?_);refine .intro (by omega) (X1 ((A.getD (k+i) 0/2^s:Nat):Int) (gb (k:=s) (by omega)) (.intro (inU (by omega)) ?_));refine .intro (by omega) (.intro (by omega) ?_);refine X1 _ (al rfl (by omega)) ?_;have hset:∀ w,w<18446744073709551616→w=(A.getD (k+i) 0/2^s|||A.getD (k+i+1) 0*2^(64-s)%18446744073709551616)→val 18446744073709551616 ((out.set i w).take (i+1))+18446744073709551616^(i+1)*(val 18446744073709551616 (A.drop (k+(i+1)))/2^s)=val 18446744073709551616 (A.drop k)/2^s:=λw _ hw=>by
     rw[du _ _ (by omega),←h4,v1,←hw,Ff,EW,EL,←Fx k i 1];omega
    refine ae (λh8=>?_) (λh8=>?_)
    ·refine X1 ((k+i:Nat):Int) (wI (by omega) (by omega) (by omega)) ?_;refine X1 ((k+i+1:Nat):Int) (wI (by omega) (by omega) (by omega)) ?_;refine .intro (by rw[ai]; omega) ?_;rw[ai];refine ae (λh9=>?_) (λh9=>?_)
     ·refine .intro (by omega) (.intro (by omega) ?_);refine X1 _ (v9 rfl rfl (by omega)) ?_;refine X1 ((k+i:Nat):Int) (wI (by omega) (by omega) (by omega)) ?_;refine X1 ((k+i+1:Nat):Int) (wI (by omega) (by omega) (by omega)) ?_;refine .intro (by omega) (X1 _ (al rfl (by omega)) ?_);refine X1 ((64-s:Nat):Int) (wU (by omega) (by omega) (by omega)) ?_;refine .intro (by omega) (X1 _ (t6 (k:=64-s) (by omega)) ?_);refine X1 _ (orU (by omega) (Fz _ (by decide))) ?_;refine .intro (by omega) (.intro (by omega) ?_);refine X1 _ (mi rfl (by omega)) ?_;refine .intro rfl ?_;refine X1 ((i+1:Nat):Int) (wI1 (by omega)) ?_;refine ⟨(i+1,out.set i (A.getD (k+i) 0/2^s|||A.getD (k+i+1) 0*2^(64-s)%18446744073709551616)),⟨by omega,by simp[h2],h3.set v2,hset _ v2 rfl⟩,by show _-(i+1)<_-i; omega,⟨rfl,rfl,rfl,rfl,rfl,rfl,rfl,HB⟩,⟨rfl,rfl,aB ?_,HB⟩⟩;have e1:out.set i (A.getD (k+i) 0/2^s|||A.getD (k+i+1) 0*2^(64-s)%18446744073709551616)=(out.set i (A.getD (k+i) 0/2^s)).set i (A.getD (k+i) 0/2^s|||A.getD (k+i+1) 0*2^(64-s)%18446744073709551616):=by rw[Ho]
      rw[e1,←nRow_set,←nRow_set];rfl
     ·have e0:A.getD (k+i+1) 0=0:=by rw[Ev,ET (by omega)]; rfl
      have e1:(A.getD (k+i) 0/2^s|||A.getD (k+i+1) 0*2^(64-s)%18446744073709551616)=A.getD (k+i) 0/2^s:=by rw[e0]; simp
      refine X1 ((i+1:Nat):Int) (wI1 (by omega)) ?_;refine ⟨(i+1,out.set i (A.getD (k+i) 0/2^s)),⟨by omega,by simp[h2],h3.set (by omega),hset _ (by omega) e1.symm⟩,by show _-(i+1)<_-i; omega,⟨rfl,rfl,rfl,rfl,rfl,rfl,rfl,HB⟩,⟨rfl,rfl,aB ?_,HB⟩⟩;rw[←nRow_set];rfl
    ·have e0:s=0:=by omega
     have e1:(A.getD (k+i) 0/2^s|||A.getD (k+i+1) 0*2^(64-s)%18446744073709551616)=A.getD (k+i) 0/2^s:=by
      rw[e0,show 2^(64-0)=18446744073709551616 from rfl,Nat.mul_mod_left]; simp
     refine X1 ((i+1:Nat):Int) (wI1 (by omega)) ?_;refine ⟨(i+1,out.set i (A.getD (k+i) 0/2^s)),⟨by omega,by simp[h2],h3.set (by omega),hset _ (by omega) e1.symm⟩,by show _-(i+1)<_-i; omega,⟨rfl,rfl,rfl,rfl,rfl,rfl,rfl,HB⟩,⟨rfl,rfl,aB ?_,HB⟩⟩;rw[←nRow_set];rfl
   ·have e:i=A.length-k:=by omega
    subst e;rw[E3 (by omega),FL (by omega)]at h4;simp only[val,Hs,FQ,FM]at h4;exact ⟨out,⟨h3,h4,by omega⟩,⟨rfl,rfl,HB⟩,⟨rfl,rfl,HB⟩⟩
  ·obtain ⟨h1,h2,h3⟩:=hl;refine X2 .frz ?_;refine X1 _ (ej l h3) ?_;rw[cE (by omega) h1,h2];exact ⟨HB,rc rfl,HB⟩
end
end Go.Proofs.YtgceikecdedfcaaGreat.Pv
