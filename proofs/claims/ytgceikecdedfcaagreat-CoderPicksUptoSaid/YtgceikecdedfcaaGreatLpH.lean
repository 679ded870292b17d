/- Parts of a proof, joined: Cq Ct PvX PvY Cu Cw. -/
import Derived.Test.YtgceikecdedfcaaGreatLpG
namespace Go.Proofs.YtgceikecdedfcaaGreat.Pv
open Go
section
def aW (x:Cnt):Bool:=!(decide (x.2<1)) && !(decide (x.1=[1]))
def tys (l:List Cnt):Int:=((l.filter aW).length:Nat)
def tot (l:List Cnt):Int:=((l.filter aW).map (·.2)).sum
def num (l:List Cnt) (k:Int):Int:=((l.filter λx=>aW x&&decide (x.2=k)).length:Nat)
section
variable {l:List Cnt} {x:Cnt} {k:Int}
theorem fE (h:aW x=true):tys (l++[x])=tys l+1:=by
 unfold tys; rw[FH,Ey,Fi h]; simp
theorem Cd (h:aW x=false):tys (l++[x])=tys l:=by
 unfold tys; rw[FH,Ey,Fa (by simp[h])]; simp
theorem eC (h:aW x=true):tot (l++[x])=tot l+x.2:=by
 unfold tot; rw[FH,Fi h]; simp
theorem Ce (h:aW x=false):tot (l++[x])=tot l:=by
 unfold tot; rw[FH,Fa (by simp[h])]; simp
theorem DE (h:aW x=true) (hk:x.2=k):num (l++[x]) k=num l k+1:=by
 unfold num; rw[FH,Ey,Fi (by simp[h,hk])]; simp
theorem dH (h:aW x=false∨x.2≠k):num (l++[x]) k=num l k:=by
 unfold num; rw[FH,Ey,Fa (by rcases h with h | h<;>simp[h])]; simp
theorem cF (l:List Cnt):0≤tot l:=by
 unfold tot
 induction l with
 | nil=>simp
 | cons x l ih=>
  by_cases h:aW x=true
  ·rw[Fi h,Fg,GI];have:¬ x.2<1:=by unfold aW at h; intro h1; rw[decide_eq_true h1]at h; simp at h
   omega
  ·rw[Fa h]; exact ih
theorem iU (l m:List Cnt):tot (l++m)=tot l+tot m:=by
 unfold tot; rw[FH,FG,List.sum_append]
theorem nO (l:List Cnt) (i:Nat):tot (l.take i)≤tot l:=by
 have h:=iU (l.take i) (l.drop i);rw[GG]at h;have:=cF (l.drop i);omega
theorem yC (l:List Cnt):0≤tys l∧tys l≤l.length:=by
 unfold tys; have:=Ft aW l; omega
theorem yD (l:List Cnt) (k:Int):0≤num l k∧num l k≤l.length:=by
 unfold num; have:=Ft (λx=>aW x&&decide (x.2=k)) l; omega
end
def cen (l:List Cnt):List PC:=[eI .i64 (tys l),eI .i64 (tot l),eI .i64 (num l 1),eI .i64 (num l 2),eI .i64 (num l 3),eI .i64 (num l 4)]
theorem Cf {l:List Cnt} {x:Cnt} (h:aW x=false):cen (l++[x])=cen l:=by
 unfold cen; rw[Cd h,Ce h,dH (.inl h),dH (.inl h),dH (.inl h),dH (.inl h)]
theorem bX {l:List Cnt} {x:Cnt} {k:Int} (h:aW x=true):num (l++[x]) k=if x.2=k then num l k+1 else num l k:=by
 by_cases hk:x.2=k
 ·rw[if_pos hk,DE h hk]
 ·rw[if_neg hk,dH (.inr hk)]
theorem rS (l:List Cnt) (hl:CLim l) (ht:tot l≤4611686018427387904):Ct P 94 [.c (cSl l)] [.ag (cen l)]:=by
 have hll:=hl.len;refine Ct.go aj aa (N:=48) Tryz.func94 rfl rfl rfl rfl ?_;refine ax aj aa (λi:Nat=>i≤l.length) (λi=>[(0,.c (cSl l)),(2,.c (.ad 2 0)),(3,.c (.ad 3 0)),(4,.c (nI .i64 i))])
  (λi=>[(2,.var [eI .i64 0,eI .i64 0,eI .i64 0,eI .i64 0,eI .i64 0,eI .i64 0]),(3,.var (cen (l.take i)))]) (λi=>l.length-i)
  0 (by omega) ⟨rfl,rfl,rfl,rfl,HB⟩ ⟨rfl,rfl,HB⟩ (λ_:Unit=>True) (λ_=>[(2,.c (.ad 2 0)),(3,.c (.ad 3 0))]) (λ_=>[(2,.var [eI .i64 0,eI .i64 0,eI .i64 0,eI .i64 0,eI .i64 0,eI .i64 0]),(3,.var (cen l))]) (λi hi=>?_) (λ_ _=>?_)
 ·refine .intro (by rw[cRow_len]; omega) ?_;rw[cRow_len];refine ae (λh5=>?_) (λh5=>?_)
  ·have hi':i<l.length:=by omega
   have hxl:=hl.at' hi';have hx:=bq (l:=l) (i:=(i:Int)) (n:=i) rfl hi';have hs:l.take (i+1)=l.take i++[l[i]]:=EB hi';have t1:=nO l (i+1);have t2:=yC (l.take i);have t3:=cF (l.take i);have t4:=yD (l.take i);rw[hs]at t1;rw[EJ]at t2;simp only[EJ]at t4;generalize l[i]=x at *
   generalize l.take i=a at *
   refine .intro (by omega) (X1 _ hx ?_);refine ae (λh6=>?_) (λh6=>?_)
   ·have hlv:aW x=false:=by unfold aW; rw[decide_eq_true h6]; rfl
    refine X1 ((i+1:Nat):Int) (wI1 (by omega)) ?_;exact ⟨i+1,by omega,by omega,⟨rfl,rfl,rfl,rfl,HB⟩,⟨rfl,by rw[hs,Cf hlv]; rfl,HB⟩⟩
   ·refine .intro (by omega) (X1 _ hx ?_);refine X2 .look (X1 _ (mG x.1 [1] hxl (by simp)) ?_);refine ae (λh7=>?_) (λh7=>?_)
    ·have hlv:aW x=false:=by unfold aW; rw[decide_eq_true h7]; simp
     refine X1 ((i+1:Nat):Int) (wI1 (by omega)) ?_;exact ⟨i+1,by omega,by omega,⟨rfl,rfl,rfl,rfl,HB⟩,⟨rfl,by rw[hs,Cf hlv]; rfl,HB⟩⟩
    ·have hlv:aW x=true:=by unfold aW; rw[decide_eq_false h6,decide_eq_false h7]; rfl
     rw[eC hlv]at t1;refine .intro (by omega) (.intro (by omega) ?_);refine X1 (tys a+1) (wI rfl (by omega) (by omega)) ?_;refine .intro (by omega) (.intro (by omega) ?_);refine .intro (by omega) (.intro (by omega) ?_);refine X1 (tot a+x.2) (wI rfl (by omega) (by omega)) ?_;refine .intro (by omega) (.intro (by omega) ?_);refine ae (λh8=>?_) (λh8=>?_)
     ·have h9:x.2=1∨x.2=2∨x.2=3∨x.2=4:=by omega
      rcases h9 with h9 | h9 | h9 | h9
      ·have q1:=t4 1;have hc:cen (a++[x])=[eI .i64 (tys a+1),eI .i64 (tot a+1),eI .i64 (num a 1+1),eI .i64 (num a 2),eI .i64 (num a 3),eI .i64 (num a 4)]:=by
        unfold cen; rw[fE hlv,eC hlv,bX hlv,bX hlv,bX hlv,bX hlv,h9]; simp
       rw[h9] at *
       refine X1 2 (wI (by omega) (by omega) (by omega)) ?_;refine X1 2 (wI (by omega) (by omega) (by omega)) ?_;refine .intro (by omega) (.intro (by omega) ?_);refine X1 (num a 1+1) (wI rfl (by omega) (by omega)) ?_;refine .intro (by omega) (.intro (by omega) ?_);refine X1 ((i+1:Nat):Int) (wI1 (by omega)) ?_;exact ⟨i+1,by omega,by omega,⟨rfl,rfl,rfl,rfl,HB⟩,⟨rfl,by rw[hs,hc]; rfl,HB⟩⟩
      ·have q1:=t4 2;have hc:cen (a++[x])=[eI .i64 (tys a+1),eI .i64 (tot a+2),eI .i64 (num a 1),eI .i64 (num a 2+1),eI .i64 (num a 3),eI .i64 (num a 4)]:=by
        unfold cen; rw[fE hlv,eC hlv,bX hlv,bX hlv,bX hlv,bX hlv,h9]; simp
       rw[h9] at *
       refine X1 3 (wI (by omega) (by omega) (by omega)) ?_;refine X1 3 (wI (by omega) (by omega) (by omega)) ?_;refine .intro (by omega) (.intro (by omega) ?_);refine X1 (num a 2+1) (wI rfl (by omega) (by omega)) ?_;refine .intro (by omega) (.intro (by omega) ?_);refine X1 ((i+1:Nat):Int) (wI1 (by omega)) ?_;exact ⟨i+1,by omega,by omega,⟨rfl,rfl,rfl,rfl,HB⟩,⟨rfl,by rw[hs,hc]; rfl,HB⟩⟩
      ·have q1:=t4 3;have hc:cen (a++[x])=[eI .i64 (tys a+1),eI .i64 (tot a+3),eI .i64 (num a 1),eI .i64 (num a 2),eI .i64 (num a 3+1),eI .i64 (num a 4)]:=by
        unfold cen; rw[fE hlv,eC hlv,bX hlv,bX hlv,bX hlv,bX hlv,h9]; simp
       rw[h9] at *
       refine X1 4 (wI (by omega) (by omega) (by omega)) ?_;refine X1 4 (wI (by omega) (by omega) (by omega)) ?_;refine .intro (by omega) (.intro (by omega) ?_);refine X1 (num a 3+1) (wI rfl (by omega) (by omega)) ?_;refine .intro (by omega) (.intro (by omega) ?_);refine X1 ((i+1:Nat):Int) (wI1 (by omega)) ?_;exact ⟨i+1,by omega,by omega,⟨rfl,rfl,rfl,rfl,HB⟩,⟨rfl,by rw[hs,hc]; rfl,HB⟩⟩
      ·have q1:=t4 4;have hc:cen (a++[x])=[eI .i64 (tys a+1),eI .i64 (tot a+4),eI .i64 (num a 1),eI .i64 (num a 2),eI .i64 (num a 3),eI .i64 (num a 4+1)]:=by
        unfold cen; rw[fE hlv,eC hlv,bX hlv,bX hlv,bX hlv,bX hlv,h9]; simp
       rw[h9] at *
       refine X1 5 (wI (by omega) (by omega) (by omega)) ?_;refine X1 5 (wI (by omega) (by omega) (by omega)) ?_;refine .intro (by omega) (.intro (by omega) ?_);refine X1 (num a 4+1) (wI rfl (by omega) (by omega)) ?_;refine .intro (by omega) (.intro (by omega) ?_);refine X1 ((i+1:Nat):Int) (wI1 (by omega)) ?_;exact ⟨i+1,by omega,by omega,⟨rfl,rfl,rfl,rfl,HB⟩,⟨rfl,by rw[hs,hc]; rfl,HB⟩⟩
     ·have hc:cen (a++[x])=[eI .i64 (tys a+1),eI .i64 (tot a+x.2),eI .i64 (num a 1),eI .i64 (num a 2),eI .i64 (num a 3),eI .i64 (num a 4)]:=by
       unfold cen; rw[fE hlv,eC hlv,dH (.inr (by omega)),dH (.inr (by omega)),dH (.inr (by omega)),dH (.inr (by omega))]
      refine X1 ((i+1:Nat):Int) (wI1 (by omega)) ?_;exact ⟨i+1,by omega,by omega,⟨rfl,rfl,rfl,rfl,HB⟩,⟨rfl,by rw[hs,hc]; rfl,HB⟩⟩
  ·have e:i=l.length:=by omega
   subst e;rw[Fd];exact ⟨(),HB,⟨rfl,rfl,HB⟩,⟨rfl,rfl,HB⟩⟩
 ·exact ⟨HB,rc rfl,HB⟩
theorem di (p:Cnt→Bool) (l:List Cnt):tot (l.filter p)≤tot l:=by
 induction l with
 | nil=>simp
 | cons x l ih=>
  have h1:tot (x::l)=tot [x]+tot l:=iU [x] l;have h2:=cF [x];by_cases h:p x=true
  ·have h3:tot (x::l.filter p)=tot [x]+tot (l.filter p):=iU [x] _;rw[Fi h];omega
  ·rw[Fa h];omega
def cG (h:List Int) (x:Cnt):Bool:=decide (x.1.length=h.length+1)&&decide (x.1.take h.length=h)
def after (l:List Cnt) (h:List Int):List Cnt:=l.filter (cG h)
theorem CLim.filter {l:List Cnt} (h:CLim l) (p:Cnt→Bool):CLim (l.filter p):=
 ⟨EA (Ft _ _) h.len,λx hx=>h.g x (Hc.1 hx).1⟩
theorem pg (l:List Cnt) (h:List Int) (hl:CLim l) (hh:h.length≤1000000) (ht:tot l≤4611686018427387904):Ct P 117 [.c (cSl l),.c (iSl h)] [.ag (cen (after l h))]:=by
 have hll:=hl.len;refine Ct.go aj aa (N:=42) Tryz.func117 rfl rfl rfl rfl ?_;refine jo (r:=50) (t:=5) (sz:=2) rfl rfl ?_;refine uI aj aa (λi:Nat=>i≤l.length) (λi=>[(0,.c (cSl l)),(1,.c (iSl h)),(4,.c (.ad 4 0)),(5,.c (.ow 50 2 (after (l.take i) h).length)),(6,.c (nI .i64 i))])
  (λi=>[(4,.var [eI .i64 0,eI .i64 0,eI .i64 0,eI .i64 0,eI .i64 0,eI .i64 0]),(50,.row 2 (cj (after (l.take i) h)))]) (λi=>l.length-i)
  0 (by omega) ⟨rfl,rfl,rfl,rfl,rfl,HB⟩ ⟨rfl,rfl,HB⟩ (λ_:Unit=>True) (λ_=>[(4,.c (.ad 4 0)),(5,.c (.ow 50 2 (after l h).length))]) (λ_=>[(4,.var [eI .i64 0,eI .i64 0,eI .i64 0,eI .i64 0,eI .i64 0,eI .i64 0]),(50,.row 2 (cj (after l h)))]) (λi hi=>?_) (λ_ _=>?_)
 ·refine .intro (by rw[cRow_len]; omega) ?_;rw[cRow_len];refine ae (λh5=>?_) (λh5=>?_)
  ·have hi':i<l.length:=by omega
   have hxl:=hl.at' hi';have hx:=bq (l:=l) (i:=(i:Int)) (n:=i) rfl hi';have hs:after (l.take (i+1)) h=after (l.take i) h++(if cG h l[i]=true then [l[i]] else []):=by
    unfold after;rw[EB hi',FH];by_cases hp:cG h l[i]=true
    ·rw[if_pos hp,Fi hp]; rfl
    ·rw[if_neg hp,Fa hp]; rfl
   have ha:(after (l.take i) h).length≤i:=by
    refine EA (Ft _ _) ?_;rw[EJ]; omega
   generalize l[i]=x at *
   refine .intro (by omega) (X1 _ hx ?_);refine .intro (by rw[ac]; omega) ?_;refine .intro (by rw[ac]; omega) ?_;rw[ac,ac];refine X1 ((h.length+1:Nat):Int) (wI (by simp) (by omega) (by omega)) ?_;have skip:cG h x=false→after (l.take (i+1)) h=after (l.take i) h:=λhp=>by rw[hs,if_neg (by rw[hp]; simp),Gh]
   refine aT (λh6=>?_) (λh6=>?_)
   ·have h6':x.1.length=h.length+1:=by omega
    refine .intro (by rw[ac]; omega) ?_;rw[ac];refine ⟨0,h.length,by simp,by simp,by omega,by rw[ac]; omega,?_⟩;rw[iRow_sub,FU,Gk];refine X1 _ (mG _ h (by rw[EJ]; omega) hh) ?_;refine ae (λh7=>?_) (λh7=>?_)
    ·have h7':x.1.take h.length=h:=h7;have hp:cG h x=true:=by unfold cG; rw[decide_eq_true h6',decide_eq_true h7']; rfl
     rw[if_pos hp]at hs;refine .intro (by omega) (X1 _ hx ?_);refine ⟨cRow_len.symm,by rw[cRow_len]; show ((after (l.take i) h).length+1+768)*32≤_; omega,by rw[cRow_len]; show (after (l.take i) h).length+1≤_; omega,br,aw rfl,?_⟩;refine X1 ((i+1:Nat):Int) (wI1 (by omega)) ?_;exact ⟨i+1,by omega,by omega,⟨rfl,rfl,rfl,owE (by rw[hs,Ey,Ey,cRow_len]; rfl),rfl,HB⟩,⟨rfl,aB (by rw[hs,←eP]; rfl),HB⟩⟩
    ·have h7':¬ x.1.take h.length=h:=h7;have hp:cG h x=false:=by unfold cG; rw[decide_eq_false h7',GQ]
     refine X1 ((i+1:Nat):Int) (wI1 (by omega)) ?_;exact ⟨i+1,by omega,by omega,⟨rfl,rfl,rfl,owE (by rw[skip hp]),rfl,HB⟩,⟨rfl,aB (by rw[skip hp]),HB⟩⟩
   ·have hp:cG h x=false:=by unfold cG; rw[decide_eq_false (λh=>h6 (by omega)),Hg]
    refine X1 ((i+1:Nat):Int) (wI1 (by omega)) ?_;exact ⟨i+1,by omega,by omega,⟨rfl,rfl,rfl,owE (by rw[skip hp]),rfl,HB⟩,⟨rfl,aB (by rw[skip hp]),HB⟩⟩
  ·have e:i=l.length:=by omega
   subst e;refine ⟨(),HB,⟨rfl,owE (by rw[Fd]),HB⟩,⟨rfl,aB (by rw[Fd]),HB⟩⟩
 ·refine Ax aj aa [50] ?_;refine X1 _ (rS (after l h) (hl.filter _) (He (di _ l) ht)) ?_;exact ⟨HB,rc rfl,HB⟩
end
section
def dC (l:List Cnt):List PC:=[eI .i64 (tys l),eI .i64 (tot l),eI .i64 0,eI .i64 (num l 1),eI .i64 (num l 2),eI .i64 (num l 3),eI .i64 (num l 4)]
theorem yE {l:List Cnt} {x:Cnt} (h:aW x=false):dC (l++[x])=dC l:=by
 unfold dC; rw[Cd h,Ce h,dH (.inl h),dH (.inl h),dH (.inl h),dH (.inl h)]
theorem rT (a:List Cnt) (x:Cnt) (ha:a.length≤1000000) (hx:x.1.length≤1000000) (ht:tot (a++[x])≤4611686018427387904) :
  CtO P 134 [(1000000,some (.var (dC a)))] [.c (.ad 1000000 0),.ag [iSl x.1,eI .i64 x.2]] [(1000000,some (.var (dC (a++[x]))))] []:=by
 have t2:=yC a;have t3:=cF a;have t4:=yD a;refine Ct.io aj aa (N:=50) Tryz.func134 rfl rfl rfl rfl ?_;refine ae (λh1=>?_) (λh1=>?_)
 ·have hlv:aW x=false:=by unfold aW; rw[decide_eq_true h1]; rfl
  rw[yE hlv];exact ⟨HB,SubO.of (l:=[(1000000,.var _)]) ⟨rfl,HB⟩,HB⟩
 ·refine .intro (by rw[ac]; omega) ?_;rw[ac];refine aT (λh2=>?_) (λh2=>?_)
  ·refine .intro (by omega) (X1 _ (bl (n:=0) rfl (by omega)) ?_);refine aT (λh3=>?_) (λh3=>?_)
   ·have hx1:x.1=[1]:=by
     obtain ⟨g,n⟩:=x
     match g,h2,h3 with
     | [v],_,h3=>simp at h3; simp[h3]
    have hlv:aW x=false:=by unfold aW; rw[decide_eq_true hx1,Bool.not_true,GQ]
    rw[yE hlv];exact ⟨HB,SubO.of (l:=[(1000000,.var _)]) ⟨rfl,HB⟩,HB⟩
   ·have hlv:aW x=true:=by
     have:¬ x.1=[1]:=λh=>h3 (by rw[h]; rfl)
     unfold aW; rw[decide_eq_false h1,decide_eq_false this]; rfl
    rw[eC hlv]at ht;refine X1 (tys a+1) (wI rfl (by omega) (by omega)) ?_;refine X1 (tot a+x.2) (wI rfl (by omega) (by omega)) ?_;refine .intro rfl ?_;refine ae (λh8=>?_) (λh8=>?_)
    ·have h9:x.2=1∨x.2=2∨x.2=3∨x.2=4:=by omega
     rcases h9 with h9 | h9 | h9 | h9
     ·have q1:=t4 1;have hc:dC (a++[x])=[eI .i64 (tys a+1),eI .i64 (tot a+1),eI .i64 0,eI .i64 (num a 1+1),eI .i64 (num a 2),eI .i64 (num a 3),eI .i64 (num a 4)]:=by
       unfold dC; rw[fE hlv,eC hlv,bX hlv,bX hlv,bX hlv,bX hlv,h9]; simp
      rw[hc];rw[h9] at *
      refine .intro (by omega) (.intro (by omega) ?_);refine X1 (num a 1+1) (wI rfl (by omega) (by omega)) ?_;refine .intro (by omega) (.intro (by omega) ?_);refine .intro rfl ?_;exact ⟨HB,SubO.of (l:=[(1000000,.var _)]) ⟨rfl,HB⟩,HB⟩
     ·have q1:=t4 2;have hc:dC (a++[x])=[eI .i64 (tys a+1),eI .i64 (tot a+2),eI .i64 0,eI .i64 (num a 1),eI .i64 (num a 2+1),eI .i64 (num a 3),eI .i64 (num a 4)]:=by
       unfold dC; rw[fE hlv,eC hlv,bX hlv,bX hlv,bX hlv,bX hlv,h9]; simp
      rw[hc];rw[h9] at *
      refine .intro (by omega) (.intro (by omega) ?_);refine X1 (num a 2+1) (wI rfl (by omega) (by omega)) ?_;refine .intro (by omega) (.intro (by omega) ?_);refine .intro rfl ?_;exact ⟨HB,SubO.of (l:=[(1000000,.var _)]) ⟨rfl,HB⟩,HB⟩
     ·have q1:=t4 3;have hc:dC (a++[x])=[eI .i64 (tys a+1),eI .i64 (tot a+3),eI .i64 0,eI .i64 (num a 1),eI .i64 (num a 2),eI .i64 (num a 3+1),eI .i64 (num a 4)]:=by
       unfold dC; rw[fE hlv,eC hlv,bX hlv,bX hlv,bX hlv,bX hlv,h9]; simp
      rw[hc];rw[h9] at *
      refine .intro (by omega) (.intro (by omega) ?_);refine X1 (num a 3+1) (wI rfl (by omega) (by omega)) ?_;refine .intro (by omega) (.intro (by omega) ?_);refine .intro rfl ?_;exact ⟨HB,SubO.of (l:=[(1000000,.var _)]) ⟨rfl,HB⟩,HB⟩
     ·have q1:=t4 4;have hc:dC (a++[x])=[eI .i64 (tys a+1),eI .i64 (tot a+4),eI .i64 0,eI .i64 (num a 1),eI .i64 (num a 2),eI .i64 (num a 3),eI .i64 (num a 4+1)]:=by
       unfold dC; rw[fE hlv,eC hlv,bX hlv,bX hlv,bX hlv,bX hlv,h9]; simp
      rw[hc];rw[h9] at *
      refine .intro (by omega) (.intro (by omega) ?_);refine X1 (num a 4+1) (wI rfl (by omega) (by omega)) ?_;refine .intro (by omega) (.intro (by omega) ?_);refine .intro rfl ?_;exact ⟨HB,SubO.of (l:=[(1000000,.var _)]) ⟨rfl,HB⟩,HB⟩
    ·have hc:dC (a++[x])=[eI .i64 (tys a+1),eI .i64 (tot a+x.2),eI .i64 0,eI .i64 (num a 1),eI .i64 (num a 2),eI .i64 (num a 3),eI .i64 (num a 4)]:=by
      unfold dC; rw[fE hlv,eC hlv,dH (.inr (by omega)),dH (.inr (by omega)),dH (.inr (by omega)),dH (.inr (by omega))]
     rw[hc];exact ⟨HB,SubO.of (l:=[(1000000,.var _)]) ⟨rfl,HB⟩,HB⟩
  ·have hlv:aW x=true:=by
    have:¬ x.1=[1]:=λh=>h2 (by rw[h]; rfl)
    unfold aW; rw[decide_eq_false h1,decide_eq_false this]; rfl
   rw[eC hlv]at ht;refine X1 (tys a+1) (wI rfl (by omega) (by omega)) ?_;refine X1 (tot a+x.2) (wI rfl (by omega) (by omega)) ?_;refine .intro rfl ?_;refine ae (λh8=>?_) (λh8=>?_)
   ·have h9:x.2=1∨x.2=2∨x.2=3∨x.2=4:=by omega
    rcases h9 with h9 | h9 | h9 | h9
    ·have q1:=t4 1;have hc:dC (a++[x])=[eI .i64 (tys a+1),eI .i64 (tot a+1),eI .i64 0,eI .i64 (num a 1+1),eI .i64 (num a 2),eI .i64 (num a 3),eI .i64 (num a 4)]:=by
      unfold dC; rw[fE hlv,eC hlv,bX hlv,bX hlv,bX hlv,bX hlv,h9]; simp
     rw[hc];rw[h9] at *
     refine .intro (by omega) (.intro (by omega) ?_);refine X1 (num a 1+1) (wI rfl (by omega) (by omega)) ?_;refine .intro (by omega) (.intro (by omega) ?_);refine .intro rfl ?_;exact ⟨HB,SubO.of (l:=[(1000000,.var _)]) ⟨rfl,HB⟩,HB⟩
    ·have q1:=t4 2;have hc:dC (a++[x])=[eI .i64 (tys a+1),eI .i64 (tot a+2),eI .i64 0,eI .i64 (num a 1),eI .i64 (num a 2+1),eI .i64 (num a 3),eI .i64 (num a 4)]:=by
      unfold dC; rw[fE hlv,eC hlv,bX hlv,bX hlv,bX hlv,bX hlv,h9]; simp
     rw[hc];rw[h9] at *
     refine .intro (by omega) (.intro (by omega) ?_);refine X1 (num a 2+1) (wI rfl (by omega) (by omega)) ?_;refine .intro (by omega) (.intro (by omega) ?_);refine .intro rfl ?_;exact ⟨HB,SubO.of (l:=[(1000000,.var _)]) ⟨rfl,HB⟩,HB⟩
    ·have q1:=t4 3;have hc:dC (a++[x])=[eI .i64 (tys a+1),eI .i64 (tot a+3),eI .i64 0,eI .i64 (num a 1),eI .i64 (num a 2),eI .i64 (num a 3+1),eI .i64 (num a 4)]:=by
      unfold dC; rw[fE hlv,eC hlv,bX hlv,bX hlv,bX hlv,bX hlv,h9]; simp
     rw[hc];rw[h9] at *
     refine .intro (by omega) (.intro (by omega) ?_);refine X1 (num a 3+1) (wI rfl (by omega) (by omega)) ?_;refine .intro (by omega) (.intro (by omega) ?_);refine .intro rfl ?_;exact ⟨HB,SubO.of (l:=[(1000000,.var _)]) ⟨rfl,HB⟩,HB⟩
    ·have q1:=t4 4;have hc:dC (a++[x])=[eI .i64 (tys a+1),eI .i64 (tot a+4),eI .i64 0,eI .i64 (num a 1),eI .i64 (num a 2),eI .i64 (num a 3),eI .i64 (num a 4+1)]:=by
      unfold dC; rw[fE hlv,eC hlv,bX hlv,bX hlv,bX hlv,bX hlv,h9]; simp
     rw[hc];rw[h9] at *
     refine .intro (by omega) (.intro (by omega) ?_);refine X1 (num a 4+1) (wI rfl (by omega) (by omega)) ?_;refine .intro (by omega) (.intro (by omega) ?_);refine .intro rfl ?_;exact ⟨HB,SubO.of (l:=[(1000000,.var _)]) ⟨rfl,HB⟩,HB⟩
   ·have hc:dC (a++[x])=[eI .i64 (tys a+1),eI .i64 (tot a+x.2),eI .i64 0,eI .i64 (num a 1),eI .i64 (num a 2),eI .i64 (num a 3),eI .i64 (num a 4)]:=by
     unfold dC; rw[fE hlv,eC hlv,dH (.inr (by omega)),dH (.inr (by omega)),dH (.inr (by omega)),dH (.inr (by omega))]
    rw[hc];exact ⟨HB,SubO.of (l:=[(1000000,.var _)]) ⟨rfl,HB⟩,HB⟩
theorem Ba (l:List Cnt) (hl:CLim l) (ht:tot l≤4611686018427387904):Ct P 86 [.c (cSl l)] [.ag (dC l)]:=by
 have hll:=hl.len;refine Ct.go aj aa (N:=16) Tryz.func86 rfl rfl rfl rfl ?_;refine .intro (by rw[cRow_len]; omega) ?_;rw[cRow_len];refine ax aj aa (λi:Nat=>i≤l.length) (λi=>[(2,.c (.ad 2 0)),(3,.c (.ad 3 0)),(6,.c (cSl l)),(7,.c (nI .i64 l.length)),(8,.c (nI .i64 i))])
  (λi=>[(2,.var [eI .i64 0,eI .i64 0,eI .i64 0,eI .i64 0,eI .i64 0,eI .i64 0,eI .i64 0]),(3,.var (dC (l.take i)))]) (λi=>l.length-i)
  0 (by omega) ⟨rfl,rfl,rfl,rfl,rfl,HB⟩ ⟨rfl,rfl,HB⟩ (λ_:Unit=>True) (λ_=>[(2,.c (.ad 2 0)),(3,.c (.ad 3 0))])
  (λ_=>[(2,.var [eI .i64 0,eI .i64 0,eI .i64 0,eI .i64 0,eI .i64 0,eI .i64 0,eI .i64 0]),(3,.var (dC l))]) (λi hi=>?_) (λ_ _=>?_)
 ·refine ae (λh5=>?_) (λh5=>?_)
  ·have hi':i<l.length:=by omega
   have hxl:=hl.at' hi';have hx:=bq (l:=l) (i:=(i:Int)) (n:=i) rfl hi';have hs:l.take (i+1)=l.take i++[l[i]]:=EB hi';have t1:=nO l (i+1);have hal:(l.take i).length≤1000000:=by rw[EJ]; omega
   rw[hs]at t1;generalize l[i]=x at *
   generalize l.take i=a at *
   refine .intro (by omega) (X1 _ hx ?_);refine X2 (.upd 3) ?_;refine ⟨_,_,rT a x hal hxl (by omega),?_⟩;refine X1 ((i+1:Nat):Int) (wI1 (by omega)) ?_;exact ⟨i+1,by omega,by omega,⟨rfl,rfl,rfl,rfl,rfl,HB⟩,⟨rfl,by rw[hs]; rfl,HB⟩⟩
  ·have e:i=l.length:=by omega
   subst e;rw[Fd];exact ⟨(),HB,⟨rfl,rfl,HB⟩,⟨rfl,rfl,HB⟩⟩
 ·exact ⟨HB,rc rfl,HB⟩
end
section
def yF (K:Km) (ok:Nat→Prop) (b:Nat):Prop:=¬ ok b∧¬ K.hid b
theorem Sim.free {N:Cx} {K:Km} {ok:Nat→Prop} {w w':World} {E:Env} {O:Objs} {a:Act} (hs:Sim N K ok w E O a) (hsz:w.heap.size≤w'.heap.size) (hb:∀ b,(ok b∨K.hid b∨∃ k o L,O.get k=some o∧K k=some (b,L))→w'.heap[b]? = w.heap[b]?)
  (hd:∀ b:Nat,lc b∈a.defers→w'.heap[b]? = w.heap[b]?) (hl:∀ (b:Nat) (r:Loop),N.R=some b→w.heap[b]? = some (Obj.loop r)→∃ r',w'.heap[b]? = some (Obj.loop r')) (hc:CSh w w') (ho:w'.os=w.os∧w'.tape=w.tape∧w'.output=w.output):Sim N K ok w' E O a:=by
 have hsh:∀ r,Shp K K w w' r:=λr=>⟨rfl,λb _ _ cs e fr h=>hc b cs e fr h⟩
 refine ⟨hs.size,?_,EA hs.base hsz,λl hR=>?_,hs.old,⟨λk o h=>?_,hs.hp.inj,hs.hp.apart,λb h=>EG (hs.hp.lt b h) hsz,λb h=>EG (hs.hp.hlt b h) hsz,hs.hp.hok,hs.hp.how⟩,λt av h=>?_⟩
 ·obtain ⟨Ds,h1,h2,h3⟩:=hs.defers;exact ⟨Ds,h1,h2,λD hD=>⟨(h3 D hD).1,(hd D (by rw[h1]; exact Fb.2 ⟨D,hD,rfl⟩)).trans (h3 D hD).2.1,(h3 D hD).2.2⟩⟩
 ·obtain ⟨r,hr⟩:=hs.rnd l hR;exact hl l r hR hr
 ·exact (hs.hp.obs k o h).mono (λ_ h=>h) (λb h _=>hb b (.inl h)) hsz rfl (λb L hK=>hb b (.inr (.inr ⟨k,o,L,h,hK⟩))) (λJ _=>⟨rfl,λb h=>hb b (.inr (.inl h)),ho.1,ho.2.1,ho.2.2,hc⟩) λr _=>hsh r
 ·obtain ⟨v,hv,hr⟩:=hs.env t av h;exact ⟨v,hv,hr.mono (λ_ h=>h) (λb h _=>hb b (.inl h)) hsz λr _=>hsh r⟩
theorem Sim.putLoop {N:Cx} {K:Km} {ok:Nat→Prop} {w:World} {E:Env} {O:Objs} {a:Act} (hs:Sim N K ok w E O a) {l:Nat} {r:Loop} (hl:w.heap[l]? = some (.loop r)) (hf:yF K ok l) (r':Loop):Sim N K ok (w.putObj l (.loop r')) E O a:=by
 have hlt:=(EY.1 hl).1;refine hs.free (by simp) (λb hb=>World.putObj_heap_other ?_) (λb hb=>World.putObj_heap_other ?_) (λb q _ hb=>?_) (λb cs e fr hb=>⟨cs,e,fr,(World.putObj_heap_other ?_).trans hb,rfl⟩) ⟨rfl,rfl,rfl⟩
 ·rintro rfl
  rcases hb with h | h | ⟨k,o,L,h1,h2⟩
  ·exact hf.1 h
  ·exact hf.2 h
  ·exact hG hs.hp hl k o L h1 h2
 ·rintro rfl
  obtain ⟨Ds,h1,_,h3⟩:=hs.defers;rw[h1]at hb;obtain ⟨D,hD,e⟩:=Fb.1 hb;have e':D=b:=by simpa [lc] using e
  subst e';have:=(h3 D hD).2.1;rw[hl]at this; cases this
 ·by_cases e:b=l
  ·subst e; exact ⟨r',World.putObj_heap_same hlt⟩
  ·exact ⟨q,(World.putObj_heap_other e).trans hb⟩
 ·rintro rfl; rw[hl]at hb; cases hb
theorem gK {w:World} {l:Nat} {r r':Loop} (hl:w.heap[l]? = some (.loop r)) (b:Nat) (o:Obj) (hb:w.heap[b]? = some o):∃ o',(w.putObj l (.loop r')).heap[b]? = some o'∧SK o o':=by
 by_cases e:b=l
 ·subst e;rw[hl]at hb;cases hb;exact ⟨_,World.putObj_heap_same (EY.1 hl).1,r',rfl⟩
 ·exact ⟨o,(World.putObj_heap_other e).trans hb,SK.refl o⟩
theorem Sim.okUp {N:Cx} {K:Km} {ok ok':Nat→Prop} {w:World} {E:Env} {O:Objs} {a:Act} (hs:Sim N K ok w E O a) (h1:∀ b,ok b→ok' b) (h2:∀ b,ok' b→b<w.heap.size) (h3:∀ k o b L,O.get k=some o→K k=some (b,L)→¬ ok' b) (h4:∀ b,K.hid b→¬ ok' b)
  (h5:a.defers=[]):Sim N K ok' w E O a:=by
 have hsh:∀ r,Shp K K w w r:=λr=>Shp.refl _ _ _
 refine ⟨hs.size,⟨[],by rw[h5]; rfl,Gy,λD hD=>by simp at hD⟩,hs.base,hs.rnd,hs.old,⟨λk o h=>?_,hs.hp.inj,h3,h2,hs.hp.hlt,h4,hs.hp.how⟩,λt av h=>?_⟩
 ·exact (hs.hp.obs k o h).mono h1 (λ_ _ _=>rfl) (Ew _) rfl (λ_ _ _=>rfl) (λJ _=>⟨rfl,λ_ _=>rfl,rfl,rfl,rfl,CSh.same λ_ _=>rfl⟩) λr _=>hsh r
 ·obtain ⟨v,hv,hr⟩:=hs.env t av h;exact ⟨v,hv,hr.mono h1 (λ_ _ _=>rfl) (Ew _) λr _=>hsh r⟩
def Cg (Q:PQ):Code→Env→Objs→Prop
 | .ret,E,O=>Q .ret E O
 | .exit j,E,O=>Q (.exit j) E O
 | .goto j,E,O=>Q (.goto j) E O
 | _,_,_=>False
def tR (fz:List Nat) (Q:PQ) (I:Env→Objs→Prop):PQ
 | .normal,E,O=>I E O
 | .ret,E,O=>∃ l lo,cf E l∧bs O lo∧(∀ p,p∈l→bF p.1 fz=true)∧Q .ret (c8 l) (ce lo)
 | .exit j,E,O=>∃ l lo,cf E l∧bs O lo∧(∀ p,p∈l→bF p.1 fz=true)∧Q (.exit j) (c8 l) (ce lo)
 | .goto j,E,O=>∃ l lo,cf E l∧bs O lo∧(∀ p,p∈l→bF p.1 fz=true)∧Q (.goto j) (c8 l) (ce lo)
 | _,_,_=>False
def kA:List Tmp→List A1→Env
 | t::ts,x::xs=>.s t (some (.o x))::kA ts xs
 | _,_=>[]
theorem nP:∀ {l:List (Nat × AV)} {t:Nat} {av:AV},(c8 l).get t=some av→∃ p,p∈l∧p.1=t
 | [],_,_,h=>by simp[c8,Env.get]at h
 | (t',a)::l,t,av,h=>by
  simp only[c8,Env.get]at h
  cases hb:Nat.beq t' t with
  | true=>exact ⟨(t',a),by simp,Eu hb⟩
  | false=>rw[hb]at h; obtain ⟨p,h1,h2⟩:=nP h; exact ⟨p,EV _ h1,h2⟩
theorem rU:∀ {ps:List Tmp} {xs:List A1} {E:Env} {t:Nat} {av:AV},Env.get (kA ps xs++E) t=some av→(kA ps xs).get t=some av∨E.get t=some av
 | [],_,_,_,_,h=>.inr (by simpa [kA] using h)
 | _::_,[],_,_,_,h=>.inr (by simpa [kA] using h)
 | t'::ts,x::xs,E,t,av,h=>by
  simp only[kA,F9,Env.get]at h ⊢
  cases hb:Nat.beq t' t with
  | true=>rw[hb]at h; exact .inl h
  | false=>rw[hb]at h; exact rU h
def kB:List Tmp→List Value→Array Value→Array Value
 | t::ts,v::vs,a=>kB ts vs (a.setIfInBounds t v)
 | _,_,a=>a
theorem yG:∀ (ps:List Tmp) (vs:List Value) (a:Array Value),((ps.toArray.zip vs.toArray).foldl (λtmps (x:Tmp × Value)=>tmps.setIfInBounds x.1 x.2) a)=kB ps vs a:=by
 intro ps vs a;rw[←Array.foldl_toList];have:(ps.toArray.zip vs.toArray).toList=ps.zip vs:=by simp
 rw[this]
 induction ps generalizing vs a with
 | nil=>simp[kB]
 | cons t ts ih=>
  cases vs with
  | nil=>simp[kB]
  | cons v vs=>simp only[List.zip_cons_cons,List.foldl_cons,kB]; exact ih vs _ (by simp)
theorem ph:∀ (ps:List Tmp) (vs:List Value) (a:Array Value),(kB ps vs a).size=a.size
 | [],_,_=>rfl
 | _::_,[],_=>rfl
 | t::ts,v::vs,a=>by rw[kB,ph ts vs]; simp
theorem gL:∀ {ps:List Tmp} {vs:List Value} {a:Array Value} {t:Nat},t∉ps→(kB ps vs a)[t]? = a[t]?
 | [],_,_,_,_=>rfl
 | _::_,[],_,_,_=>rfl
 | t'::ts,v::vs,a,t,h=>by
  simp only[E9,not_or]at h;rw[kB,gL h.2,Array.getElem?_setIfInBounds_ne (λe=>h.1 e.symm)]
theorem rW {K:Km} {ok:Nat→Prop} {w:World}:∀ {ps:List Tmp} {xs:List A1} {vs:List Value} {a:Array Value} {t:Nat} {av:AV},ps.Nodup→(∀ p,p∈ps→p<a.size)→RelAs K ok w xs vs→(kA ps xs).get t=some av→∃ v,(kB ps vs a)[t]? = some v∧RelV K ok w av v
 | [],_,_,_,_,_,_,_,_,h=>by simp[kA,Env.get]at h
 | _::_,[],_,_,_,_,_,_,_,h=>by simp[kA,Env.get]at h
 | t'::ts,x::xs,vs,a,t,av,hn,hp,hr,h=>by
  obtain ⟨v,us,rfl,hx,hxs⟩:=hr.head;simp only[Hb]at hn;simp only[kA,Env.get]at h
  cases hb:Nat.beq t' t with
  | true=>
   rw[hb]at h;cases h;have e:=Eu hb;subst e;refine ⟨v,?_,.o hx⟩;rw[kB,gL hn.1];simp[hp t' (by simp)]
  | false=>
   rw[hb]at h;exact rW (ps:=ts) (xs:=xs) hn.2 (λp hp'=>by simpa using hp p (EV _ hp')) hxs h
section
variable {P:Program} {T:Ty} {N:Nx} {E:Env} {O:Objs}
structure RngI (X:Cx) (K0:Km) (ok0:Nat→Prop) (w0:World) (O0:Objs) (l:Nat) (rec:Loop) (Ds:List Nat) (tmps:Array Value) (E:Env) (O:Objs) (ok F:Nat→Prop) (W:World) (K:Km) (okc:Nat→Prop):Prop where
 sim:Sim X K okc W E O { tmps:=tmps,defers:=[] }
 fr:Fr K0 ok0 w0 O0 K okc W O
 rec_:W.heap[l]? = some (.loop rec)
 new:w0.heap.size≤l
 free:yF K okc l
 ds:∀ D,D∈Ds→W.heap[D]? = some (.deferred (some []))∧w0.heap.size≤D∧yF K okc D∧F D
 okF:∀ b,okc b→ok b∨F b
 own:∀ k o b L,O.get k=some o→K k=some (b,L)→F b
 hid:∀ b,K.hid b→F b
 lF:F l
 old:∀ b,b<w0.heap.size→ok0 b∨F b∨∃ k o L,O0.get k=some o∧K0 k=some (b,L)
 up:∀ b,ok0 b→ok b
theorem RngI.stable {X:Cx} {K0:Km} {ok0:Nat→Prop} {w0:World} {O0:Objs} {l:Nat} {rec:Loop} {Ds:List Nat} {tmps:Array Value} {E:Env} {O:Objs} {ok F ok1:Nat→Prop} {W W1:World} {K:Km} {okc:Nat→Prop}
  (h:RngI X K0 ok0 w0 O0 l rec Ds tmps E O ok F W K okc) (h1:∀ b,ok b→ok1 b) (h2:∀ b,ok b→b<W.heap.size→W1.heap[b]? = W.heap[b]?) (h3:∀ b,F b→W1.heap[b]? = W.heap[b]?) (h4:W.heap.size≤W1.heap.size)
  (h5:W1.os=W.os) (h6:W1.tape=W.tape) (h7:W1.output=W.output) (h8:CSh W W1) (hX:X.R=some l) (hp0:Hp K0 ok0 w0 O0):RngI X K0 ok0 w0 O0 l rec Ds tmps E O ok1 F W1 K okc:=by
 have hokc:∀ b,okc b→W1.heap[b]? = W.heap[b]?:=λb hb=>by
  rcases h.okF b hb with g | g
  ·exact h2 b g (h.sim.hp.lt b hb)
  ·exact h3 b g
 have hold:∀ b,b<w0.heap.size→W1.heap[b]? = W.heap[b]? ∨ ∃ k o L,O0.get k=some o∧K0 k=some (b,L):=λb hb=>by
  rcases h.old b hb with g | g | g
  ·exact .inl (h2 b (h.up b g) (EG hb h.fr.size))
  ·exact .inl (h3 b g)
  ·exact .inr g
 refine ⟨h.sim.free h4 (λb hb=>?_) (λb hb=>by simp at hb) (λb r hR hb=>?_) h8 ⟨h5,h6,h7⟩,⟨EA h.fr.size h4,λb hb g1 g2=>((hold b hb).resolve_right λ⟨k,o,L,e1,e2⟩=>g1 k o L e1 e2).trans (h.fr.keep b hb g1 g2),h.fr.okUp,h.fr.okNew,h.fr.own,h5.trans h.fr.os,h6.trans h.fr.tape,h7.trans h.fr.output,λb o hb=>?_,h.fr.pin,h.fr.hid⟩,
  (h3 l h.lF).trans h.rec_,h.new,h.free,λD hD=>?_,λb hb=>(h.okF b hb).imp_left (h1 b),h.own,h.hid,h.lF,h.old,λb hb=>h1 b (h.up b hb)⟩
 ·rcases hb with g | g | ⟨k,o,L,g1,g2⟩
  ·exact hokc b g
  ·exact h3 b (h.hid b g)
  ·exact h3 b (h.own k o b L g1 g2)
 ·rw[hX]at hR;cases hR;exact ⟨rec,(h3 l h.lF).trans h.rec_⟩
 ·obtain ⟨o',g1,g2⟩:=h.fr.kind b o hb;rcases hold b (EY.1 hb).1 with e | ⟨k,p,L,e1,e2⟩
  ·exact ⟨o',e.trans g1,g2⟩
  ·have hlt:b<W1.heap.size:=EG (EY.1 g1).1 h4;rcases p7 hp0 e1 e2 with ⟨cs,ty,fr,c1⟩ | ⟨es,cl,c1⟩
   ·rw[hb]at c1;cases c1;obtain ⟨cs',ty',fr',rfl,c2⟩:=g2;obtain ⟨cs2,ty2,fr2,c3,c4⟩:=h8 b _ _ _ g1;exact ⟨_,c3,cs2,ty2,fr2,rfl,c4.trans c2⟩
   ·rw[hb]at c1;cases c1;exact ⟨W1.heap[b],Gs hlt,HB⟩
 ·obtain ⟨g1,g2,g3,g4⟩:=h.ds D hD;exact ⟨(h3 D g4).trans g1,g2,g3,g4⟩
theorem RngI.join {X:Cx} {K0:Km} {ok0:Nat→Prop} {w0:World} {O0:Objs} {l:Nat} {rec:Loop} {Ds:List Nat} {tmps:Array Value} {E:Env} {O:Objs} {ok F:Nat→Prop} {W:World} {K:Km} {okc:Nat→Prop}
  (h:RngI X K0 ok0 w0 O0 l rec Ds tmps E O ok F W K okc) {K':Km} {J:St} {OE:Objs} {kp:List Nat} (hF:K'.hid=F) (hp:Hp K' ok W ((2000000,some (.abs J))::OE)) (hk:∀ q,q∈kp→q≠2000000∧K q=K' q∧K q=K0 q∧∃ o,O0.get q=some o)
  (hn:(OE.map (·.1)).Nodup) (ha:fS OE=true):Sim X K (λb=>okc b∨ok b) W E (d7 (kp.map λq=>(q,q)) OE++O) { tmps:=tmps,defers:=[] }∧Fr K0 ok0 w0 O0 K (λb=>okc b∨ok b) W (d7 (kp.map λq=>(q,q)) OE++O):=by
 subst hF;have hlk:∀ q r,lk (kp.map λq=>(q,q)) q=some r→r=q∧q∈kp:=λq r e=>by
  obtain ⟨a,h1,h2⟩:=Fb.1 (fv e);cases h2;exact ⟨rfl,h1⟩
 have hE:∀ q o,OE.get q=some o→q≠2000000→Objs.get ((2000000,some (.abs J))::OE) q=some o:=λq o e hq=>by
  simp only[Objs.get]
  cases hb:Nat.beq 2000000 q with
  | true=>exact absurd (Eu hb).symm hq
  | false=>exact e
 have hobj:∀ r ob,(d7 (kp.map λq=>(q,q)) OE++O).get r=some ob→(∃ o,r∈kp∧Objs.get ((2000000,some (.abs J))::OE) r=some o∧OE.get r=some o∧ob=dx (kp.map λq=>(q,q)) o)∨O.get r=some ob:=λr ob e=>by
  rcases ik e with ⟨q,o,h1,h2,h3⟩ | ⟨_,h2⟩
  ·obtain ⟨rfl,h4⟩:=hlk q r h2;have h5:=jG hn h1;exact .inl ⟨o,h4,hE _ o h5 (hk _ h4).1,h5,h3⟩
  ·exact .inr h2
 have nF:∀ r o b L,r∈kp→Objs.get ((2000000,some (.abs J))::OE) r=some o→K r=some (b,L)→¬ K'.hid b∧¬ ok b∧¬ okc b:=λr o b L h1 h2 h3=>by
  rw[(hk r h1).2.1]at h3;have a1:=hp.how r o b L h2 h3;have a2:=hp.apart r o b L h2 h3;exact ⟨a1,a2,λh4=>(h.okF b h4).elim a2 a1⟩
 have s:Sim X K (λb=>okc b∨ok b) W E O { tmps:=tmps,defers:=[] }:=
  h.sim.okUp (λb h=>.inl h) (λb e=>e.elim (h.sim.hp.lt b) (hp.lt b)) (λk o b L h1 h2 e=>e.elim (h.sim.hp.apart k o b L h1 h2) (hp.hok b (h.own k o b L h1 h2))) (λb h1 e=>e.elim (h.sim.hp.hok b h1) (hp.hok b (h.hid b h1))) rfl
 refine ⟨⟨s.size,s.defers,s.base,s.rnd,s.old,⟨λr ob e=>?_,λr r' ob ob' b L L' g1 g2 e1 e2=>?_,λr ob b L g e=>?_,s.hp.lt,s.hp.hlt,s.hp.hok,λr ob b L g e hh=>?_⟩,s.env⟩,⟨h.fr.size,h.fr.keep,λb hb=>.inl (h.fr.okUp b hb),λb e=>?_,λr ob b L g e=>?_,h.fr.os,h.fr.tape,h.fr.output,h.fr.kind,h.fr.pin,h.fr.hid⟩⟩
 ·rcases hobj r ob e with ⟨o,h1,h2,h3,rfl⟩ | h1
  ·refine ((hp.obs r o h2).ren (K':=K) (λk q e=>?_) (hk r h1).2.1 (λJ hJ=>?_)).mono (λb h=>.inr h) (λ_ _ _=>rfl) (Ew _) rfl (λ_ _ _=>rfl) (λJ _=>⟨rfl,λ_ _=>rfl,rfl,rfl,rfl,CSh.same λ_ _=>rfl⟩) (λr _=>Shp.refl _ _ _)
   ·obtain ⟨rfl,h4⟩:=hlk k q e;exact (hk _ h4).2.1
   ·subst hJ; exact absurd h3 (gp ha)
  ·exact s.hp.obs r ob h1
 ·rcases hobj r ob g1 with ⟨o,h1,h2,h3,_⟩ | h1
  ·rcases hobj r' ob' g2 with ⟨o',h1',h2',h3',_⟩ | h1'
   ·rw[(hk r h1).2.1]at e1;rw[(hk r' h1').2.1]at e2;exact hp.inj r r' o o' b L L' h2 h2' e1 e2
   ·exact absurd (h.own r' ob' b L' h1' e2) (nF r o b L h1 h2 e1).1
  ·rcases hobj r' ob' g2 with ⟨o',h1',h2',h3',_⟩ | h1'
   ·exact absurd (h.own r ob b L h1 e1) (nF r' o' b L' h1' h2' e2).1
   ·exact s.hp.inj r r' ob ob' b L L' h1 h1' e1 e2
 ·rcases hobj r ob g with ⟨o,h1,h2,h3,_⟩ | h1
  ·have:=nF r o b L h1 h2 e;exact λe=>e.elim this.2.2 this.2.1
  ·exact s.hp.apart r ob b L h1 e
 ·rcases hobj r ob g with ⟨o,h1,h2,h3,_⟩ | h1
  ·exact (nF r o b L h1 h2 e).1 (h.hid b hh)
  ·exact s.hp.how r ob b L h1 e hh
 ·rcases e with e | e
  ·exact h.fr.okNew b e
  ·rcases Fm b w0.heap.size with hb | hb
   ·rcases h.old b hb with g | g | g
    ·exact .inl g
    ·exact absurd e (hp.hok b g)
    ·exact .inr (.inr g)
   ·exact .inr (.inl hb)
 ·rcases hobj r ob g with ⟨o,h1,h2,h3,_⟩ | h1
  ·obtain ⟨_,_,a3,o0,a4⟩:=hk r h1;exact .inr ⟨r,o0,L,a4,a3▸e⟩
  ·exact h.fr.own r ob b L h1 e
theorem CM {N:Cx} {K:Km} {ok:Nat→Prop} {w:World} {a:Act} (hs:Sim N K ok w E O a) {x:Operand} {f:FuncId} {caps:List PC} (hx:E.ev x=some (.c (.fn f caps))):∃ lb:List Value,a.eval x = .func (.func f) #[] lb.toArray∧RelAs K ok w (caps.map .c) lb:=by
 have hfv:=(hs.ev hx).one;generalize hev:a.eval x=v at hfv
 cases hfv with
 | cl h=>
  cases h with
  | fn gg hg=>
   refine ⟨_,rfl,⟨by simp,λi x hx=>?_⟩⟩;simp only[EH,EC]at hx;obtain ⟨y,hy,rfl⟩:=hx;have hlt:i<caps.length:=(Ez.1 hy).1;exact ⟨gg i,by simp[hlt],.c (.cl (hg i y hy))⟩
 | fn gg hg=>
  refine ⟨_,rfl,⟨by simp,λi x hx=>?_⟩⟩;simp only[EH,EC]at hx;obtain ⟨y,hy,rfl⟩:=hx;have hlt:i<caps.length:=(Ez.1 hy).1;exact ⟨gg i,by simp[hlt],.c (hg i y hy)⟩
theorem ju:∀ {caps:List PC},closedL caps=true→az (caps.map A1.c)=true
 | [],_=>rfl
 | x::l,h=>by
  simp only[closedL,Ex]at h;simp only[Fg,az,Ex];exact ⟨h.1,ju h.2⟩
def pj (kp:List Nat) (OE:Objs) (Q:PQ):PQ:=λe E O=>Q e E (d7 (kp.map λq=>(q,q)) OE++O)
theorem W.rangeO (hT:T.ok P) (hm:P.follows .mixedOrders=true) {g:Operand} {ps:List Tmp} {assign body:Code} {Q:PQ} {f:FuncId} {fn:Func} {c0:Code} {caps:List PC} {items:List (List A1)}
  {σ:List (Nat × Nat)} {OE:Objs} {kp:List Nat} (hg:E.ev g=some (.c (.fn f caps))) (hf:P.funcs[f]? = some fn) (hb:fn.body=some c0) (hnm:(fn.name == "runtime.NumGoroutine")=false) (hit:CtIO P f (bQ σ O σ) ((caps.map .c).map (f9 σ)) items OE)
  (hσi:mr σ=true) (hσ0:(σ.all λp=>!(Nat.beq p.2 2000000))=true) (hσa:bv σ O=false) (hkp:(kp.all λq=>eqO (lk σ q) q&&xq (O.get q))=true) (hOE:(jn (OE.map (·.1))&&fS OE)=true)
  (hlen:∀ args,args∈items→args.length=ps.length∧az args=true) (fz:List Nat) (hps:(jn ps&&ps.all λt=>Nat.blt t N.n && !(bF t fz))=true)
  {G:Type} (inv:Nat→G→Prop) (sE:Nat→G→List (Nat × AV)) (sO:Nat→G→List (Nat × Ob)) (g0:G) (h0:inv 0 g0) (hE:cf E (sE 0 g0)) (hO:bs (O.delL (σ.map (·.1))) (sO 0 g0)) (hfz:∀ i g p,p∈sE i g→bF p.1 fz=true)
  (round:∀ i g args,items[i]? = some args→inv i g→bS P T ⟨N.n,fz⟩ assign (kA ps args++c8 (sE i g)) (ce (sO i g)) (gi (λE1 O1=>bS P T ⟨N.n,fz⟩ body E1 O1 (tR fz (pj kp OE Q) (λE' O'=>∃ g',inv (i+1) g'∧cf E' (sE (i+1) g')∧bs O' (sO (i+1) g')))) (λ_ _ _=>False)))
  (after:∀ g,inv items.length g→pj kp OE Q .normal (c8 (sE items.length g)) (ce (sO items.length g))):W P N E O (.rangeFunc g ps.toArray assign body) Q:=by
 intro R B old K ok w a hs;simp only[Ex,Fq,FO]at hps;have hpn:=cR hps.1;have hpl:∀ t,t∈ps→t<a.tmps.size:=λt ht=>by
  rw[hs.size];exact EG (G5 _) (ER (hps.2 t ht).1)
 have hpf:∀ t,bF t fz=true→t∉ps:=λt ht hin=>by have:=(hps.2 t hin).2; rw[ht]at this; cases this
 obtain ⟨lb,hgv,hlb⟩:=CM hs hg;refine wpIn_rangeFunc ?_;intro fnid _;have main:∀ (l:Nat) (Ds:List Nat) (W1:World) (dd:Nat),(Instr.enterLoop fnid a.tmps ps.toArray assign body R).run P w = .ok (l,Ds.map lc) W1 →
   W1.heap[l]? = some (.loop { state:=.ready,pending:=none,fn:=fnid,tmps:=a.tmps,params:=ps.toArray,assign:=assign,body:=body,defers:=dd })→Ds.Nodup→(∀ D,D∈Ds→W1.heap[D]? = some (.deferred (some []))∧w.heap.size≤D) →
   w.heap.size≤l→(∀ b,b<w.heap.size→W1.heap[b]? = w.heap[b]?)→w.heap.size≤W1.heap.size→W1.os=w.os→W1.tape=w.tape→W1.output=w.output →
   ∃ (l:Nat) (mk:List Deferred) (w₁:World) (d:Deferred) (w₁':World) (f:FuncId) (args:Array Value) (w₂:World),(Instr.enterLoop fnid a.tmps ps.toArray assign body (FR R).round).run P w = .ok (l,mk) w₁∧(resolve a.eval (rangeCall g l) 0).run P w₁ = .ok d w₁' ∧
    (∀ f',Target.leads P w₁' d.target d.args=some f'→(FR R).fn f')∧(invoke d.target d.args).run P w₁' = .ok (.enter f args) w₂∧((FR R).depth.isSome=true→1≤0) ∧
    CallsIn (FR R) (0-1) P f args w₂ (rangePost (FR R) 0 P l (Post ⟨N,R,B,old⟩ K ok w O Q) { a with defers:=mk++a.defers }):=by
  intro l Ds W1 dd he hl hnd hDs hlw hsame hsz z1 z2 z3;obtain ⟨rec,hrec⟩:∃ rec:LoopState→Option Code→Loop,rec=λst pe=>{ state:=st,pending:=pe,fn:=fnid,tmps:=a.tmps,params:=ps.toArray,assign:=assign,body:=body,defers:=dd }:=⟨_,rfl⟩
  have hl1:W1.heap[l]? = some (.loop (rec .ready none)):=by rw[hrec]; exact hl
  let X1:Cx:=⟨⟨N.n,fz⟩,some l,0,a.tmps⟩
  let lent:Nat→Prop:=λb=>∃ k q o L,(k,q)∈σ∧O.get k=some o∧K k=some (b,L)
  let F0:Nat→Prop:=λb=>b<W1.heap.size∧¬ ok b∧¬ lent b
  let yv:Value:=.func (.yield l) #[] #[]
  let I:Nat→St:=λi ok' F W=>∃ (g:G) (K':Km) (okc:Nat→Prop),inv i g∧RngI X1 K ok w O l (rec .ready none) Ds a.tmps (c8 (sE i g)) (ce (sO i g)) ok' F W K' okc
  let Xs:St:=λok' F W=>∃ (c:Code) (lE:List (Nat × AV)) (lO:List (Nat × Ob)) (K':Km) (okc:Nat→Prop),Cg (pj kp OE Q) c (c8 lE) (ce lO)∧RngI X1 K ok w O l (rec .done (some c)) Ds a.tmps (c8 lE) (ce lO) ok' F W K' okc
  have hlt1:=(EY.1 hl1).1
  -- the state when the loop is entered
  have hp1:Hp K ok W1 O:=hs.hp.over hsz hsame (λ_ h=>h) (λ_ h=>.inl h) (λb h=>EG (hs.hp.lt b h) hsz) ⟨z1,z2,z3⟩;have hfr1:Fr K ok w O K ok W1 O:=⟨hsz,λb hb _ _=>hsame b hb,λ_ h=>h,λ_ h=>.inl h,λk o b L h1 h2=>.inr ⟨k,o,L,h1,h2⟩,z1,z2,z3,k9 hsame,λ_ _=>rfl,λ_ h=>.inl h⟩;have hsh:∀ r,Shp K K w W1 r:=λr=>⟨rfl,λb _ _ cs e fr h=>CSh.same hsame b cs e fr h⟩
  have hsubD:SubO (ce (sO 0 g0)) (O.delL (σ.map (·.1))):=SubO.of hO;have hsub:SubO (ce (sO 0 g0)) O:=λk o h=>(Objs.delL_get (hsubD k o h)).2
  have lent_lt:∀ b,lent b→b<w.heap.size:=λb ⟨k,q,o,L,_,e2,e3⟩=>db hs.hp e2 e3
  have hI0:I 0 ok F0 W1:=by
   refine ⟨g0,K,ok,h0,⟨⟨hs.size,⟨[],rfl,Gy,λD hD=>by simp at hD⟩,Gt _,λl' hl'=>?_,λt _=>rfl,hp1.sub hsub,λt av h=>?_⟩,hfr1.trans (Fr.weak hsub),hl1,hlw,⟨λh=>?_,λh=>?_⟩,λD hD=>⟨(hDs D hD).1,(hDs D hD).2,⟨λh=>?_,λh=>?_⟩,(EY.1 (hDs D hD).1).1,λh=>?_,λh=>?_⟩,
    λb h=>.inl h,λk o b L h1 h2=>⟨db hp1 (hsub _ _ h1) h2,hs.hp.apart k o b L (hsub _ _ h1) h2,λ⟨k',q,o',L',e1,e2,e3⟩=>(Objs.delL_get (hsubD _ _ h1)).1 (by have:=hs.hp.inj k' k o' o b L' L e2 (hsub _ _ h1) e3 h2; rw[←this]; exact Fb.2 ⟨_,e1,rfl⟩)⟩,
    λb h=>⟨hp1.hlt b h,hs.hp.hok b h,λ⟨k',q,o',L',e1,e2,e3⟩=>hs.hp.how k' o' b L' e2 e3 h⟩,⟨hlt1,λh=>?_,λh=>?_⟩,λb h=>?_,λ_ h=>h⟩⟩
   ·cases hl'; exact ⟨_,hl1⟩
   ·obtain ⟨v,hv,hr⟩:=hs.env t av (Sub.of hE t av h);exact ⟨v,hv,hr.mono (λ_ h=>h) (λb _ hb=>hsame b hb) hsz λr _=>hsh r⟩
   ·have:=hs.hp.lt l h; omega
   ·have:=hs.hp.hlt l h; omega
   ·have:=hs.hp.lt D h; have:=(hDs D hD).2; omega
   ·have:=hs.hp.hlt D h; have:=(hDs D hD).2; omega
   ·have:=hs.hp.lt D h; have:=(hDs D hD).2; omega
   ·have:=lent_lt D h; have:=(hDs D hD).2; omega
   ·have:=hs.hp.lt l h; omega
   ·have:=lent_lt l h; omega
   ·by_cases hb:ok b
    ·exact .inl hb
    ·by_cases hl:lent b
     ·obtain ⟨k',q,o',L',e1,e2,e3⟩:=hl;exact .inr (.inr ⟨k',o',L',e2,e3⟩)
     ·exact .inr (.inl ⟨EG h hsz,hb,hl⟩)
  have hY:Yields P yv items I Xs:=by
   refine ⟨λi ok' ok1 F W W1 h h1 h2 h3 h4 h5 h6 h7 h8=>?_,λok' ok1 F W W1 h h1 h2 h3 h4 h5 h6 h7 h8=>?_,?_⟩
   ·obtain ⟨g,K',okc,a1,a2⟩:=h;exact ⟨g,K',okc,a1,a2.stable h1 h2 h3 h4 h5 h6 h7 h8 rfl hs.hp⟩
   ·obtain ⟨c,lE,lO,K',okc,a1,a2⟩:=h;exact ⟨c,lE,lO,K',okc,a1,a2.stable h1 h2 h3 h4 h5 h6 h7 h8 rfl hs.hp⟩
   ·intro i args hi ok' F W Ki vs hI hok hFok hFlt hrel;obtain ⟨g,K',okc,hinv,hr⟩:=hI;obtain ⟨hal,hac⟩:=hlen args (E6 hi);have hrel':RelAs K' ok' W args vs:=hrel.reK hac;have hvl:vs.length=ps.length:=by rw[hrel.len,hal]
    refine ⟨l,fnid,kB ps vs a.tmps,assign,body,rfl,?_,?_⟩
    ·have:=run_yield (P:=P) (args:=vs.toArray) hr.rec_ (by rw[hrec]; simpa using hvl);rw[hrec]at this;rw[this,←yG]
    -- the round's state
    have hokm:∀ k o b L,(ce (sO i g)).get k=some o→K' k=some (b,L)→¬ (okc b∨ok' b):=λk o b L h1 h2 h=>by
     rcases h with h | h
     ·exact hr.sim.hp.apart k o b L h1 h2 h
     ·exact hFok b (hr.own k o b L h1 h2) h
    have hsm:Sim X1 K' (λb=>okc b∨ok' b) W (c8 (sE i g)) (ce (sO i g)) { tmps:=a.tmps,defers:=[] }:=
     hr.sim.okUp (λb h=>.inl h) (λb h=>h.elim (hr.sim.hp.lt b) (hok b)) hokm (λb h h'=>h'.elim (hr.sim.hp.hok b h) (hFok b (hr.hid b h))) rfl
    have hsr:Sim X1 K' (λb=>okc b∨ok' b) W (kA ps args++c8 (sE i g)) (ce (sO i g)) { tmps:=kB ps vs a.tmps,defers:=[] }:=by
     refine ⟨by show (kB ps vs a.tmps).size=_; rw[ph]; exact hsm.size,⟨[],rfl,Gy,λD hD=>by simp at hD⟩,Gt _,hsm.rnd,λt ht=>gL (hpf t (iL ht)),hsm.hp,λt av h=>?_⟩;rcases rU h with h | h
     ·exact rW hpn hpl (hrel'.mono (λb h=>.inr h) (λ_ _ _=>rfl) (Ew _) λr _=>Shp.refl _ _ _) h
     ·obtain ⟨p,hp,hpt⟩:=nP h;obtain ⟨v,hv,hrv⟩:=hsm.env t av h;exact ⟨v,(gL (hpf t (by rw[←hpt]; exact hfz i g p hp))).trans hv,hrv⟩
    have hfree1:yF K' (λb=>okc b∨ok' b) l:=⟨λh=>h.elim hr.free.1 λh=>hFok l hr.lF h,hr.free.2⟩;refine roundIn_of_wpIn (F:=Fence.wide) HB (wpIn_mono (aL hT hm assign _ _ _ (round i g args hi hinv) (some l) 0 a.tmps K' _ W _ hsr) λe a1 w1 hp=>?_);obtain ⟨E1,O1,K1,ok1,hq,hs1,hf1⟩:=hp
    cases e with
    | normal=>
     have hfl:=hf1.free (EY.1 hr.rec_).1 (hG hsr.hp hr.rec_) hfree1.1 hfree1.2;have hl2:w1.heap[l]? = some (.loop (rec .ready none)):=hfl.1.trans hr.rec_;refine ⟨_,run_beginRound hl2 (by rw[hrec]),?_⟩;have hl3:(w1.putObj l (.loop { rec .ready none with state:=.busy })).heap[l]? = some (.loop { rec .ready none with state:=.busy }):=World.putObj_heap_same (EY.1 hl2).1;have hs2:=hs1.putLoop hl2 ⟨hfl.2.1,hfl.2.2⟩ { rec .ready none with state:=.busy };refine wpIn_mono (aL hT hm body _ _ _ hq (some l) 0 a.tmps K1 ok1 _ a1 hs2) λe a2 w2 hp=>?_
     obtain ⟨E2,O2,K2,ok2,hq2,hs3,hf2⟩:=hp;have hfl2:=hf2.free (EY.1 hl3).1 (hG hs2.hp hl3) hfl.2.1 hfl.2.2;have hl4:w2.heap[l]? = some (.loop { rec .ready none with state:=.busy }):=hfl2.1.trans hl3
     -- what the round has changed
     have hok'0:∀ b,ok' b→ok b∨w.heap.size≤b∨∃ k o L,O.get k=some o∧K k=some (b,L):=λb h=>by
      rcases Fm b w.heap.size with hb | hb
      ·rcases hr.old b hb with g | g | g
       ·exact .inl g
       ·exact absurd h (hFok b g)
       ·exact .inr (.inr g)
      ·exact .inr (.inl hb)
     have fin:∀ (jump:Option Code) (lE:List (Nat × AV)) (lO:List (Nat × Ob)),cf E2 lE→bs O2 lO→(∀ p,p∈lE→bF p.1 fz=true) →
       ∃ v w',(Instr.endRound l jump).run P w2 = .ok v w'∧v = .bool jump.isNone∧FrY F W (λb=>F b∨(W.heap.size≤b∧b<w'.heap.size)) w' ∧
        RngI X1 K ok w O l (rec (if jump.isNone then .ready else .done) jump) Ds a.tmps (c8 lE) (ce lO) ok' (λb=>F b∨(W.heap.size≤b∧b<w'.heap.size)) w' K2 ok2:=by
      intro jump lE lO gE gO gz;have hsW:W.heap.size≤w2.heap.size:=EA hf1.size (by have:=hf2.size; simpa using this);have hend:=run_endRound (P:=P) jump hl4;refine ⟨_,_,hend,rfl,?_⟩;have hrr:({ { rec .ready none with state:=.busy } with state:=if jump.isNone then .ready else .done,pending:=jump }:Loop)=rec (if jump.isNone then .ready else .done) jump:=by rw[hrec]
      rw[hrr];have hlt4:=(EY.1 hl4).1
      -- blocks that stay
      have vF:∀ k o b L,(ce (sO i g)).get k=some o→K' k=some (b,L)→F b:=hr.own;have own1:∀ k o b L,O1.get k=some o→K1 k=some (b,L)→W.heap.size≤b∨F b:=λk o b L h1 h2=>by
       rcases hf1.own k o b L h1 h2 with h | ⟨k0,o0,L0,h3,h4⟩
       ·exact .inl h
       ·exact .inr (hr.own k0 o0 b L0 h3 h4)
      have hid1:∀ b,K1.hid b→F b∨W.heap.size≤b:=λb h=>(hf1.hid b h).imp_left (hr.hid b)
      have ok1F:∀ b,ok1 b→ok' b∨F b∨W.heap.size≤b:=λb h=>by
       rcases hf1.okNew b h with (h | h) | h | ⟨k,o,L,h1,h2⟩
       ·exact (hr.okF b h).imp_right .inl
       ·exact .inl h
       ·exact .inr (.inr h)
       ·exact .inr (.inl (hr.own k o b L h1 h2))
      have own2:∀ k o b L,O2.get k=some o→K2 k=some (b,L)→F b∨W.heap.size≤b:=λk o b L h1 h2=>by
       rcases hf2.own k o b L h1 h2 with h | ⟨k0,o0,L0,h3,h4⟩
       ·exact .inr (EA hf1.size (by simpa using h))
       ·exact (own1 k0 o0 b L0 h3 h4).symm
      have hid2:∀ b,K2.hid b→F b∨W.heap.size≤b:=λb h=>by
       rcases hf2.hid b h with h | h
       ·exact hid1 b h
       ·exact .inr (EA hf1.size (by simpa using h))
      have ok2F:∀ b,ok2 b→ok' b∨F b∨W.heap.size≤b:=λb h=>by
       rcases hf2.okNew b h with h | h | ⟨k,o,L,h1,h2⟩
       ·exact ok1F b h
       ·exact .inr (.inr (EA hf1.size (by simpa using h)))
       ·rcases own1 k o b L h1 h2 with h | h
        ·exact .inr (.inr h)
        ·exact .inr (.inl h)
      have keep1:∀ b,b<W.heap.size→¬ F b→w1.heap[b]? = W.heap[b]?:=λb hb hF=>hf1.keep b hb (λk o L h1 h2=>hF (hr.own k o b L h1 h2)) λh=>hF (hr.hid b h)
      have keep2:∀ b,b<W.heap.size→¬ F b→w2.heap[b]? = W.heap[b]?:=λb hb hF=>by
       have hbl:b≠l:=λe=>hF (by rw[e]; exact hr.lF)
       rw[hf2.keep b (by have:=hf1.size; simp; omega) (λk o L h1 h2=>?_) (λh=>?_),World.putObj_heap_other hbl,keep1 b hb hF]
       ·rcases own1 k o b L h1 h2 with h | h
        ·omega
        ·exact hF h
       ·rcases hid1 b h with h | h
        ·exact hF h
        ·omega
      have kind4:∀ (b:Nat) (o:Obj),W.heap[b]? = some o→∃ o',(w2.putObj l (.loop (rec (if jump.isNone then .ready else .done) jump))).heap[b]? = some o'∧SK o o':=λb o hb=>by
       obtain ⟨o1,h1,h2⟩:=hf1.kind b o hb;obtain ⟨o2,h3,h4⟩:=gK (r':={ rec .ready none with state:=.busy }) hl2 b o1 h1;obtain ⟨o3,h5,h6⟩:=hf2.kind b o2 h3;obtain ⟨o4,h7,h8⟩:=gK (r':=rec (if jump.isNone then .ready else .done) jump) hl4 b o3 h5;exact ⟨o4,h7,h2.trans (h4.trans (h6.trans h8))⟩
      refine ⟨⟨by simpa using hsW,λb hb hF=>?_,λb h=>h.imp_right (·.1),λb h=>?_,hf2.os.trans hf1.os,hf2.tape.trans hf1.tape,hf2.output.trans hf1.output,kind4⟩,?_⟩
      ·rw[World.putObj_heap_other (λe=>hF (by rw[e]; exact hr.lF))]; exact keep2 b hb hF
      ·rcases h with h | h
       ·exact EG (hFlt b h) (by simpa using hsW)
       ·exact h.2
      have hs4:=(hs3.weak (Sub.of gE) (SubO.of gO)).putLoop hl4 ⟨hfl2.2.1,hfl2.2.2⟩ (rec (if jump.isNone then .ready else .done) jump);have hnewF:∀ b,F b∨W.heap.size≤b→b<w2.heap.size→F b∨(W.heap.size≤b∧b<(w2.putObj l (.loop (rec (if jump.isNone then .ready else .done) jump))).heap.size):=λb h hlt=>h.imp_right λh=>⟨h,by simpa using hlt⟩
      refine ⟨⟨hs3.size.symm▸hs.size,⟨[],rfl,Gy,λD hD=>by simp at hD⟩,Gt _,hs4.rnd,λt _=>rfl,hs4.hp,λt av h=>?_⟩,?_,World.putObj_heap_same hlt4,hr.new,⟨hfl2.2.1,hfl2.2.2⟩,λD hD=>?_,λb h=>?_,λk o b L h1 h2=>?_,λb h=>?_,.inl hr.lF,λb h=>(hr.old b h).imp_right (Or.imp_left .inl),hr.up⟩
      ·-- slots that the loop began with
       obtain ⟨v,hv,hrv⟩:=hs4.env t av h;obtain ⟨p,hp,hpt⟩:=nP h;have hz:=gz p hp;have h1:=hs3.old t (gl (by rw[←hpt]; exact hz));exact ⟨v,by rw[←h1]; exact hv,hrv⟩
      ·-- from the loop's beginning
       have nown1:∀ b,(∀ k o L,O.get k=some o→K k≠some (b,L))→b<w.heap.size→∀ k o L,(ce (sO i g)).get k=some o→K' k≠some (b,L):=λb g1 hb k o L h1 h2=>by
        rcases hr.fr.own k o b L h1 h2 with h | ⟨k0,o0,L0,h3,h4⟩
        ·omega
        ·exact g1 k0 o0 L0 h3 h4
       have nhid1:∀ b,¬ K.hid b→b<w.heap.size→¬ K'.hid b:=λb g2 hb h=>by
        rcases hr.fr.hid b h with h | h
        ·exact g2 h
        ·omega
       have hww:w.heap.size≤W.heap.size:=hr.fr.size;have hw1:W.heap.size≤w1.heap.size:=hf1.size;have nown2:∀ b,(∀ k o L,O.get k=some o→K k≠some (b,L))→b<w.heap.size→∀ k o L,O1.get k=some o→K1 k≠some (b,L):=λb g1 hb k o L h1 h2=>by
        rcases hf1.own k o b L h1 h2 with h | ⟨k0,o0,L0,h3,h4⟩
        ·omega
        ·exact nown1 b g1 hb k0 o0 L0 h3 h4
       have nhid2:∀ b,¬ K.hid b→b<w.heap.size→¬ K1.hid b:=λb g2 hb h=>by
        rcases hf1.hid b h with h | h
        ·exact nhid1 b g2 hb h
        ·omega
       have own0:∀ b,(∃ k o L,(ce (sO i g)).get k=some o∧K' k=some (b,L))→w.heap.size≤b∨∃ k o L,O.get k=some o∧K k=some (b,L):=λb ⟨k,o,L,h1,h2⟩=>hr.fr.own k o b L h1 h2
       have own01:∀ b,(∃ k o L,O1.get k=some o∧K1 k=some (b,L))→w.heap.size≤b∨∃ k o L,O.get k=some o∧K k=some (b,L):=λb ⟨k,o,L,h1,h2⟩=>by
        rcases hf1.own k o b L h1 h2 with h | h
        ·exact .inl (by omega)
        ·exact own0 b h
       refine ⟨EA hr.fr.size (by simpa using hsW),λb hb g1 g2=>?_,λb h=>hf2.okUp b (hf1.okUp b (.inl (hr.fr.okUp b h))),λb h=>?_,λk o b L g1 g2=>?_,(hf2.os.trans hf1.os).trans hr.fr.os,(hf2.tape.trans hf1.tape).trans hr.fr.tape,(hf2.output.trans hf1.output).trans hr.fr.output,λb o hb=>?_,λr hr'=>(hf2.pin r hr').trans ((hf1.pin r hr').trans (hr.fr.pin r hr')),λb h=>?_⟩
       ·have hbl:b≠l:=by omega
        rw[World.putObj_heap_other hbl,hf2.keep b (by simp; omega) (nown2 b g1 hb) (nhid2 b g2 hb),World.putObj_heap_other hbl,hf1.keep b (by omega) (nown1 b g1 hb) (nhid1 b g2 hb),hr.fr.keep b hb g1 g2]
       ·rcases hf2.okNew b h with h | h | h
        ·rcases hf1.okNew b h with (h | h) | h | h
         ·exact hr.fr.okNew b h
         ·exact hok'0 b h
         ·exact .inr (.inl (by omega))
         ·exact .inr (own0 b h)
        ·exact .inr (.inl (by simp at h; omega))
        ·exact .inr (own01 b h)
       ·rcases hf2.own k o b L (SubO.of gO k o g1) g2 with h | h
        ·exact .inl (by simp at h; omega)
        ·exact own01 b h
       ·obtain ⟨o1,h1,h2⟩:=hr.fr.kind b o hb;obtain ⟨o2,h3,h4⟩:=kind4 b o1 h1;exact ⟨o2,h3,h2.trans h4⟩
       ·rcases hf2.hid b h with h | h
        ·rcases hf1.hid b h with h | h
         ·exact hr.fr.hid b h
         ·exact .inr (by omega)
        ·exact .inr (by simp at h; omega)
      ·-- the marks
       obtain ⟨d1,d2,d3,d4⟩:=hr.ds D hD;have hDl:D≠l:=by rintro rfl; rw[hr.rec_]at d1; cases d1
       have f1:=hf1.free (EY.1 d1).1 (gA hsr.hp d1) (λh=>h.elim d3.1 (hFok D d4)) d3.2;have e1:(w1.putObj l (.loop { rec .ready none with state:=.busy })).heap[D]? = some (.deferred (some [])):=by rw[World.putObj_heap_other hDl,f1.1,d1]
       have f2:=hf2.free (EY.1 e1).1 (gA hs2.hp e1) f1.2.1 f1.2.2;exact ⟨by rw[World.putObj_heap_other hDl,f2.1,e1],d2,f2.2,.inl d4⟩
      ·rcases ok2F b h with h1 | h1
       ·exact .inl h1
       ·exact .inr (hnewF b h1 (hs3.hp.lt b h))
      ·have:=own2 k o b L (SubO.of gO k o h1) h2;exact hnewF b this (db hs3.hp (SubO.of gO k o h1) h2)
      ·exact hnewF b (hid2 b h) (hs3.hp.hlt b h)
     -- how the round ends
     have leave:∀ (c:Code) (lE:List (Nat × AV)) (lO:List (Nat × Ob)),cf E2 lE→bs O2 lO→(∀ p,p∈lE→bF p.1 fz=true)→Cg (pj kp OE Q) c (c8 lE) (ce lO) →
       ∃ v w',(Instr.endRound l (some c)).run P w2 = .ok v w'∧∃ b F',Ending.returned v = .returned (.bool b)∧FrY F W F' w'∧(b=true→I (i+1) ok' F' w')∧(b=false→Xs ok' F' w'):=by
      intro c lE lO g1 g2 g3 g4;obtain ⟨v,w',h1,rfl,h3,h4⟩:=fin (some c) lE lO g1 g2 g3;exact ⟨_,w',h1,false,_,rfl,h3,(λh=>by cases h),λ_=>⟨c,lE,lO,K2,ok2,g4,h4⟩⟩
     cases e with
     | normal=>
      obtain ⟨g',q1,q2,q3⟩:=hq2;obtain ⟨v,w',h1,rfl,h3,h4⟩:=fin none (sE (i+1) g') (sO (i+1) g') q2 q3 (λp hp=>hfz _ _ p hp);exact ⟨_,w',h1,true,_,rfl,h3,λ_=>⟨g',K2,ok2,q1,h4⟩,λh=>by cases h⟩
     | ret=>obtain ⟨lE,lO,q1,q2,q3,q4⟩:=hq2; exact leave .ret lE lO q1 q2 q3 q4
     | exit j=>obtain ⟨lE,lO,q1,q2,q3,q4⟩:=hq2; exact leave (.exit j) lE lO q1 q2 q3 q4
     | goto j=>obtain ⟨lE,lO,q1,q2,q3,q4⟩:=hq2; exact leave (.goto j) lE lO q1 q2 q3 q4
     | panic _=>exact hq2.elim
     | outgrown=>exact hq2.elim
    | _=>exact hq.elim
  have hfn:gm P f=true:=by simp[gm,hf,hb,hnm]
  simp only[mr,Ex,Fq]at hσi;obtain ⟨i1,i2,i3⟩:=hσi;replace i1:=cR i1;replace i2:=cR i2
  let KI:Km:=⟨λq=>(lk (df σ) q).bind λk=>K k,F0⟩
  have hKI:∀ k q,(k,q)∈σ→KI q=K k:=λk q h=>by
   have:lk (df σ) q=some k:=fw (by rw[nC]; exact i2) (swap_mem.2 h);show (lk (df σ) q).bind _=_
   rw[this]; rfl
  have hσ:∀ k q,lk σ k=some q→KI q=K k:=λk q h=>hKI k q (fv h)
  have h2m:∀ k q,(k,q)∈σ→q≠2000000:=λk q h e=>by
   have:=Fq.1 hσ0 _ h;subst e;simp at this
  have hK20:KI 2000000=none:=by
   show (lk (df σ) 2000000).bind _=_
   cases hl:lk (df σ) 2000000 with
   | none=>rfl
   | some k=>exact absurd rfl (h2m k _ (swap_mem.1 (fv hl)))
  have hcs:∀ k o,Objs.get ((2000000,some (Ob.abs (I 0)))::bQ σ O σ) k=some o→(k=2000000∧o = .abs (I 0))∨(bQ σ O σ).get k=some o:=λk o h=>by
   simp only[Objs.get]at h
   cases hb:Nat.beq 2000000 k with
   | true=>rw[hb]at h; cases h; exact .inl ⟨(Eu hb).symm,rfl⟩
   | false=>rw[hb]at h; exact .inr h
  have hown:∀ k o b L,Objs.get ((2000000,some (Ob.abs (I 0)))::bQ σ O σ) k=some o→KI k=some (b,L)→∃ k' p,(k',k)∈σ∧O.get k'=some p∧K k'=some (b,L):=λk o b L h e=>by
   rcases hcs k o h with ⟨rfl,_⟩ | h
   ·rw[hK20]at e; cases e
   ·obtain ⟨k',p,g1,g2,_⟩:=dt h;rw[hKI k' k g1]at e;exact ⟨k',p,g1,g2,e⟩
  have hp0:Hp KI ok W1 ((2000000,some (.abs (I 0)))::bQ σ O σ):=by
   refine ⟨λk o h=>?_,λk k' o o' b L L' h1 h2 e1 e2=>?_,λk o b L h e=>?_,hp1.lt,λb h=>h.1,λb h=>h.2.1,λk o b L h e hh=>?_⟩
   ·rcases hcs k o h with ⟨rfl,rfl⟩ | h
    ·exact ⟨hK20,hY.st 0,hI0⟩
    ·obtain ⟨k',p,g1,g2,rfl⟩:=dt h;refine (hp1.obs k' p g2).ren hσ (hKI k' k g1) λJ hJ=>?_
     subst hJ;have:bv σ O=true:=FN.2 ⟨_,g1,by simp[g2,nD]⟩;rw[hσa]at this; cases this
   ·obtain ⟨a1,p,g1,g2,g3⟩:=hown k o b L h1 e1;obtain ⟨a2,p',g1',g2',g3'⟩:=hown k' o' b L' h2 e2;have:=hs.hp.inj a1 a2 p p' b L L' g2 g2' g3 g3';subst this;have b1:=fw i1 g1;have b2:=fw i1 g1';rw[b1]at b2;cases b2; rfl
   ·obtain ⟨a1,p,g1,g2,g3⟩:=hown k o b L h e;exact hs.hp.apart a1 p b L g2 g3
   ·obtain ⟨a1,p,g1,g2,g3⟩:=hown k o b L h e;exact hh.2.2 ⟨a1,k,p,L,g1,g2,g3⟩
  have hlb1:RelAs KI ok W1 ((caps.map .c).map (f9 σ)) lb:=
   lw (λx v=>ij hσ) (hlb.mono (λ_ h=>h) (λb _ hb=>hsame b hb) hsz λr _=>hsh r)
  have hrun:=(hit yv I Xs rfl hY).run _ ok W1 (yv::lb) hp0 (RelAs.cons (.c (.cl (.cb rfl))) hlb1);have harr:(#[yv]++lb.toArray:Array Value)=(yv::lb).toArray:=by apply GA; simp
  refine ⟨l,Ds.map lc,W1,{ target:=.fn (.func f) lb.toArray,args:=#[yv] },W1,f,(yv::lb).toArray,W1,he,?_,λ_ _=>trivial,?_,λh=>(by cases h),?_⟩
  ·simp only[resolve,hgv];simp[go_sem,yv]
  ·rw[←harr];simp[invoke,exec_call hfn]
  ·refine (ra R _).2 ?_;rcases hrun with ⟨_,hrun⟩ | ⟨v,w',h,_⟩
   ·refine hrun.mono λe w' hh=>?_
    obtain ⟨v,K',ok',rfl,_,hpE,hfE⟩:=hh;obtain ⟨_,_,hJ⟩:=hpE.obs 2000000 (.abs λok F w=>I items.length ok F w∨Xs ok F w) rfl;have hkq:∀ K2:Km,(∀ r,PIN≤r→K2 r=K r)→∀ q,q∈kp→q≠2000000∧K2 q=K' q∧K2 q=K q∧∃ o,O.get q=some o:=λK2 hpin q hq=>by
     have:=Fq.1 hkp q hq;rw[Ex]at this;have hm:(q,q)∈σ:=by
      cases hl:lk σ q with
      | none=>rw[hl]at this; cases this.1
      | some r=>
       rw[hl]at this;have e:=Eu (show Nat.beq r q=true from this.1);subst e;exact fv hl
     have hge:PIN≤q:=ER (i3 _ hm);refine ⟨h2m q q hm,?_,hpin q hge,?_⟩
     ·rw[hpin q hge,←hKI q q hm]; exact (hfE.pin q hge).symm
     ·cases ho:O.get q with
      | none=>rw[ho]at this; cases this.2
      | some o=>exact ⟨o,rfl⟩
    rw[Ex]at hOE
    -- the state behind the loop
    have out:∀ (st:LoopState) (pe:Option Code) (lE:List (Nat × AV)) (lO:List (Nat × Ob)) (K2:Km) (okc:Nat→Prop),RngI X1 K ok w O l (rec st pe) Ds a.tmps (c8 lE) (ce lO) ok' K'.hid w' K2 okc→st ≠ .busy →
      ∃ w4,(Instr.endLoop l).run P w' = .ok pe w4∧Sim ⟨N,R,B,old⟩ K2 (λb=>okc b∨ok' b) w4 (c8 lE) (d7 (kp.map λq=>(q,q)) OE++ce lO) { a with defers:=Ds.map lc++a.defers }∧Fr K ok w O K2 (λb=>okc b∨ok' b) w4 (d7 (kp.map λq=>(q,q)) OE++ce lO):=by
     intro st pe lE lO K2 okc hr hst;have hend:(Instr.endLoop l).run P w' = .ok pe (w'.putObj l (.loop { rec st pe with state:=.exhausted })):=by
      have h:=run_endLoop (P:=P) hr.rec_ (by rw[hrec]; exact hst);subst hrec;exact h
     refine ⟨_,hend,?_⟩;obtain ⟨hsj,hfj⟩:=hr.join rfl hpE (hkq K2 hr.fr.pin) (cR hOE.1) hOE.2;have hfree:yF K2 (λb=>okc b∨ok' b) l:=⟨λh=>h.elim hr.free.1 (hpE.hok l hr.lF),hr.free.2⟩;have hs4:=hsj.putLoop hr.rec_ hfree { rec st pe with state:=.exhausted };have hfr4:Fr K ok w O K2 (λb=>okc b∨ok' b) (w'.putObj l (.loop { rec st pe with state:=.exhausted })) (d7 (kp.map λq=>(q,q)) OE++ce lO):=
      ⟨by simpa using hfj.size,λb hb g1 g2=>by rw[World.putObj_heap_other (by have:=hr.new; omega)]; exact hfj.keep b hb g1 g2,hfj.okUp,hfj.okNew,hfj.own,hfj.os,hfj.tape,hfj.output,λb o hb=>by
       obtain ⟨o1,h1,h2⟩:=hfj.kind b o hb;obtain ⟨o2,h3,h4⟩:=gK (r':={ rec st pe with state:=.exhausted }) hr.rec_ b o1 h1;exact ⟨o2,h3,h2.trans h4⟩,hfj.pin,hfj.hid⟩
     refine ⟨⟨hs.size,?_,EA hs.base hfr4.size,hs.rnd' hfr4,hs.old,hs4.hp,hs4.env⟩,hfr4⟩;obtain ⟨Ds0,d1,d2,d3⟩:=hs.defers' hfr4;obtain ⟨Ds1,e1,e2,e3⟩:=hs.defers;have hDe:Ds0=Ds1:=by
      have:Ds0.map lc=Ds1.map lc:=d1.symm.trans e1;have inj:∀ {l m:List Nat},l.map lc=m.map lc→l=m:=by
       intro l
       induction l with
       | nil=>intro m h; cases m with
        | nil=>rfl
        | cons _ _=>cases h
       | cons x l ih=>
        intro m h
        cases m with
        | nil=>cases h
        | cons y m=>
         simp only[Fg,GF]at h;have hxy:x=y:=by simpa [lc] using h.1
         rw[hxy,ih h.2]
      exact inj this
     subst hDe;refine ⟨Ds++Ds0,by simp[d1],?_,λD hD=>?_⟩
     ·refine List.nodup_append.2 ⟨hnd,d2,λx hx y hy e=>?_⟩;subst e;have:=(hDs x hx).2;have:=(EY.1 (e3 x hy).2.1).1;omega
     ·rcases Fe.1 hD with h | h
      ·obtain ⟨g1,g2,g3,g4⟩:=hr.ds D h;have hDl:D≠l:=by rintro rfl; rw[hr.rec_]at g1; cases g1
       exact ⟨EA hs.base g2,by rw[World.putObj_heap_other hDl]; exact g1,λh=>h.elim g3.1 (hpE.hok D g4),g3.2⟩
      ·exact d3 D h
    rcases hJ with ⟨g,K2,okc,hinv,hr⟩ | ⟨c,lE,lO,K2,okc,hj,hr⟩
    ·obtain ⟨w4,h1,h2,h3⟩:=out .ready none _ _ K2 okc hr (by simp);exact ⟨none,w4,h1,_,_,K2,_,after g hinv,h2,h3⟩
    ·obtain ⟨w4,h1,h2,h3⟩:=out .done (some c) _ _ K2 okc hr (by simp);refine ⟨some c,w4,h1,?_⟩
     cases c with
     | ret=>exact wpIn_ret ⟨_,_,K2,_,hj,h2,h3⟩
     | exit j=>exact wpIn_exit ⟨_,_,K2,_,hj,h2,h3⟩
     | goto j=>exact wpIn_goto ⟨_,_,K2,_,hj,h2,h3⟩
     | _=>exact hj.elim
   ·rw[exec_call hfn]at h; cases h
 cases hR:R with
 | none=>
  subst hR;refine main (w.heap.size+1) [w.heap.size] _ w.heap.size (run_enterLoop_outer _ _ _ _ _) ?_ (by simp) (λD hD=>?_) (by omega) (λb hb=>?_) (by simp; try omega) rfl rfl rfl
  ·have:=World.alloc_heap_new (w.alloc (.deferred (some []))) (.loop { state:=.ready,pending:=none,fn:=fnid,tmps:=a.tmps,params:=ps.toArray,assign:=assign,body:=body,defers:=w.heap.size });rwa [World.size_alloc]at this
  ·simp only[Fk]at hD;subst hD;exact ⟨(RowKit.Below.heap_alloc _ _ _ (by simp)).trans (World.alloc_heap_new w _),Ew _⟩
  ·rw[RowKit.Below.heap_alloc _ _ _ (by simp; omega),RowKit.Below.heap_alloc _ _ _ hb]
 | some l0=>
  subst hR;obtain ⟨r0,hr0⟩:=hs.rnd l0 rfl;refine main w.heap.size [] _ r0.defers (run_enterLoop_inner hr0 _ _ _ _ _) (World.alloc_heap_new w _) Gy (λD hD=>by simp at hD) (Ew _) (λb hb=>RowKit.Below.heap_alloc _ _ _ hb) (by simp) rfl rfl rfl
theorem CN (hT:T.ok P) (hm:P.follows .mixedOrders=true) {g:Operand} {ps:Array Tmp} {assign body:Code} {Q:PQ} {f:FuncId} {fn:Func} {c0:Code} {caps:List PC} {items:List (List A1)}
  (hit:CtI P f (caps.map .c) items) (hf:P.funcs[f]? = some fn) (hb:fn.body=some c0) (hnm:(fn.name == "runtime.NumGoroutine")=false)
  (hg:E.ev g=some (.c (.fn f caps))) (hcl:closedL caps=true)
  (hlen:∀ args,args∈items→args.length=ps.toList.length∧az args=true) (fz:List Nat) (hps:(jn ps.toList&&ps.toList.all λt=>Nat.blt t N.n && !(bF t fz))=true)
  {G:Type} (inv:Nat→G→Prop) (sE:Nat→G→List (Nat × AV)) (sO:Nat→G→List (Nat × Ob)) (g0:G) (h0:inv 0 g0) (hE:cf E (sE 0 g0)) (hO:bs O (sO 0 g0)) (hfz:∀ i g,((sE i g).all λp=>bF p.1 fz)=true)
  (round:∀ i g args,items[i]? = some args→inv i g→bS P T ⟨N.n,fz⟩ assign (kA ps.toList args++c8 (sE i g)) (ce (sO i g)) (gi (λE1 O1=>bS P T ⟨N.n,fz⟩ body E1 O1 (tR fz Q (λE' O'=>∃ g',inv (i+1) g'∧cf E' (sE (i+1) g')∧bs O' (sO (i+1) g')))) (λ_ _ _=>False)))
  (after:∀ g,inv items.length g→Q .normal (c8 (sE items.length g)) (ce (sO items.length g))):WI P N E O (.rangeFunc g ps assign body) Q:=by
 have h:=W.rangeO (P:=P) (T:=T) (N:=N) (E:=E) (O:=O) (Q:=Q) (ps:=ps.toList) (σ:=[]) (OE:=[]) (kp:=[]) hT hm hg hf hb hnm (by rw[ef (ju hcl)]; exact hit) rfl rfl rfl rfl rfl hlen fz hps inv sE sO g0 h0 hE hO (λi g p hp=>by
  have:=hfz i g;rw[Fq]at this;exact this p hp) round after
 exact .of h
theorem qi (hT:T.ok P) (hm:P.follows .mixedOrders=true) {g:Operand} {ps:Array Tmp} {assign body:Code} {Q:PQ} {f:FuncId} {fn:Func} {c0:Code} {caps:List PC} {items:List (List A1)} {OT OE:Objs} {as_:List A1} (σ:List (Nat × Nat)) (kp:List Nat)
  (hit:CtIO P f OT as_ items OE) (hf:P.funcs[f]? = some fn) (hb:fn.body=some c0) (hnm:(fn.name == "runtime.NumGoroutine")=false)
  (hg:E.ev g=some (.c (.fn f caps))) (ho:bQ σ O σ=OT) (has:(caps.map .c).map (f9 σ)=as_) (hσ:(mr σ&&((σ.all λp=>!(Nat.beq p.2 2000000))&&(!(bv σ O)&&(kp.all λq=>eqO (lk σ q) q&&xq (O.get q)))))=true) (hOE:(jn (OE.map (·.1))&&fS OE)=true)
  (hlen:∀ args,args∈items→args.length=ps.toList.length∧az args=true) (fz:List Nat) (hps:(jn ps.toList&&ps.toList.all λt=>Nat.blt t N.n && !(bF t fz))=true)
  {G:Type} (inv:Nat→G→Prop) (sE:Nat→G→List (Nat × AV)) (sO:Nat→G→List (Nat × Ob)) (g0:G) (h0:inv 0 g0) (hE:cf E (sE 0 g0)) (hO:bs (O.delL (σ.map (·.1))) (sO 0 g0)) (hfz:∀ i g,((sE i g).all λp=>bF p.1 fz)=true)
  (round:∀ i g args,items[i]? = some args→inv i g→bS P T ⟨N.n,fz⟩ assign (kA ps.toList args++c8 (sE i g)) (ce (sO i g)) (gi (λE1 O1=>bS P T ⟨N.n,fz⟩ body E1 O1 (tR fz (pj kp OE Q) (λE' O'=>∃ g',inv (i+1) g'∧cf E' (sE (i+1) g')∧bs O' (sO (i+1) g')))) (λ_ _ _=>False)))
  (after:∀ g,inv items.length g→pj kp OE Q .normal (c8 (sE items.length g)) (ce (sO items.length g))):WI P N E O (.rangeFunc g ps assign body) Q:=by
 subst ho has;simp only[Ex,FO]at hσ;have h:=W.rangeO (P:=P) (T:=T) (N:=N) (E:=E) (O:=O) (Q:=Q) (ps:=ps.toList) hT hm hg hf hb hnm hit hσ.1 hσ.2.1 hσ.2.2.1 hσ.2.2.2 hOE hlen fz hps inv sE sO g0 h0 hE hO (λi g p hp=>by
  have:=hfz i g;rw[Fq]at this;exact this p hp) round after
 exact .of h
end
end
section
section
variable {P:Program} {T:Ty} {N:Nx} {E:Env} {O:Objs} {c:Code} {Q Q':PQ}
theorem W.post (h:W P N E O c Q) (hq:∀ (X:Cx) e E' O' K' ok' w' a',Q e E' O'→Sim X K' ok' w' E' O' a'→∃ E2 O2 K2 ok2,Q' e E2 O2∧Sim X K2 ok2 w' E2 O2 a'∧Fr K' ok' w' O' K2 ok2 w' O2):W P N E O c Q':=
 λR B old K ok w a hs=>wpIn_mono (h R B old K ok w a hs) λe a' w' ⟨E',O',K',ok',h1,h2,h3⟩=>by
  obtain ⟨E2,O2,K2,ok2,g1,g2,g3⟩:=hq _ _ _ _ _ _ _ _ h1 h2;exact ⟨E2,O2,K2,ok2,g1,g2,h3.trans g3⟩
theorem Sim.abs {X:Cx} {K:Km} {ok:Nat→Prop} {w:World} {a:Act} {k:Nat} {J J':St} (hs:Sim X K ok w E O a) (h:O.get k=some (.abs J)) (hJ:∀ ok F w,J ok F w→J' ok F w) (hst:k8 J') :
  Sim X K ok w E (O.set k (.abs J')) a∧Fr K ok w O K ok w (O.set k (.abs J')):=by
 have hsub:∀ t o,(O.set k (.abs J')).get t=some o→∃ o',O.get t=some o':=λt o g=>by
  rw[Objs.get_set]at g;split at g
  ·rename_i e; subst e; exact ⟨_,h⟩
  ·exact ⟨o,g⟩
 refine ⟨⟨hs.size,hs.defers,hs.base,hs.rnd,hs.old,⟨λt o g=>?_,λt t' o o' b L L' g1 g2=>?_,λt o b L g=>?_,hs.hp.lt,hs.hp.hlt,hs.hp.hok,λt o b L g=>?_⟩,hs.env⟩,
  ⟨Ew _,λ_ _ _ _=>rfl,λ_ h=>h,λ_ h=>.inl h,λt o b L g1 g2=>by obtain ⟨o',g3⟩:=hsub t o g1; exact .inr ⟨t,o',L,g3,g2⟩,rfl,rfl,rfl,λ_ o h=>⟨o,h,SK.refl o⟩,λ_ _=>rfl,λ_ h=>.inl h⟩⟩
 ·rw[Objs.get_set]at g;split at g
  ·rename_i e;subst e;cases g;obtain ⟨a1,_,a3⟩:=hs.hp.obs k _ h;exact ⟨a1,hst,hJ _ _ _ a3⟩
  ·exact hs.hp.obs t o g
 ·obtain ⟨p,q1⟩:=hsub t o g1;obtain ⟨p',q2⟩:=hsub t' o' g2;exact hs.hp.inj t t' p p' b L L' q1 q2
 ·obtain ⟨p,q1⟩:=hsub t o g; exact hs.hp.apart t p b L q1
 ·obtain ⟨p,q1⟩:=hsub t o g; exact hs.hp.how t p b L q1
def Ch (OE:Objs) (I:Nat→St) (X:St) (n:Nat):PQ:=λe _ O2=>(match e with | .normal=>True | .ret=>True | _=>False)∧(O2.get 2000000=some (.abs (I n))∨O2.get 2000000=some (.abs X))∧SubO OE O2
def DF (I:Nat→St) (X:St) (n:Nat):PQ:=λe _ O2=>(match e with | .normal=>True | .ret=>True | _=>False)∧(O2.get 2000000=some (.abs (I n))∨O2.get 2000000=some (.abs X))
theorem CtIO.go {f:FuncId} {fn:Func} {args:List A1} {items:List (List A1)} {OT OE:Objs} (hf:P.funcs[f]? = some fn) (hb:fn.body=some c) (hn:(fn.name == "runtime.NumGoroutine")=false) (hN:fn.ntmps=N.n) (hl:Nat.ble (args.length+1) N.n=true) (hr:fn.results.toList=[])
  (h:∀ (v:Value) (I:Nat→St) (X:St),one v=true→Yields P v items I X→W P N (ka 0 (.c (.cb v)::args)) ((2000000,some (.abs (I 0)))::OT) c (Ch OE I X items.length)) (hfz:N.fz=[]:=by rfl):CtIO P f OT args items OE:=by
 intro v I X hv hY;refine Ct.of hf hb hn hN hl ((h v I X hv hY).post λY e E' O' K' ok' w' a' hq hs=>?_) hfz;obtain ⟨h1,h2,hOE⟩:=hq;have hst:k8 (λok F w=>I items.length ok F w∨X ok F w):=λok ok1 F w w1 hj g1 g2 g3 g4 g5 g6 g7 g8=>
  hj.imp (λhj=>hY.st _ ok ok1 F w w1 hj g1 g2 g3 g4 g5 g6 g7 g8) (λhj=>hY.stX ok ok1 F w w1 hj g1 g2 g3 g4 g5 g6 g7 g8)
 have fin:∀ J:St,O'.get 2000000=some (.abs J)→(∀ ok F w,J ok F w→I items.length ok F w∨X ok F w)→_:=λJ hJ hi=>hs.abs hJ hi hst
 have goal:∃ (J:St),O'.get 2000000=some (.abs J)∧∀ ok F w,J ok F w→I items.length ok F w∨X ok F w:=by
  rcases h2 with h2 | h2
  ·exact ⟨_,h2,λ_ _ _ h=>.inl h⟩
  ·exact ⟨_,h2,λ_ _ _ h=>.inr h⟩
 obtain ⟨J,hJ,hi⟩:=goal;obtain ⟨g1,g2⟩:=fin J hJ hi;refine ⟨E',_,K',ok',⟨h1,λk o hk=>?_,[],by rw[hr]; trivial,HB⟩,g1,g2⟩;simp only[Objs.get]at hk;rw[Objs.get_set]
 cases hbq:Nat.beq 2000000 k with
 | true=>
  rw[hbq]at hk;have e:=Eu hbq;rw[if_pos e];exact hk
 | false=>
  rw[hbq]at hk;rw[if_neg λe=>by rw[e,EP]at hbq; cases hbq];exact hOE k o hk
theorem CtI.go (hT:T.ok P) (hm:P.follows .mixedOrders=true) {f:FuncId} {fn:Func} {args:List A1} {items:List (List A1)} (hf:P.funcs[f]? = some fn) (hb:fn.body=some c) (hn:(fn.name == "runtime.NumGoroutine")=false) (hN:fn.ntmps=N.n) (hl:Nat.ble (args.length+1) N.n=true) (hr:fn.results.toList=[])
  (h:∀ (v:Value) (I:Nat→St) (X:St),one v=true→Yields P v items I X→bS P T N c (ka 0 (.c (.cb v)::args)) [(2000000,some (.abs (I 0)))] (DF I X items.length)) (hfz:N.fz=[]:=by rfl):CtI P f args items:=
 CtIO.go hf hb hn hN hl hr (λv I X hv hY=>(aL hT hm c _ _ _ (h v I X hv hY)).mono λ_ _ _ ⟨h1,h2⟩=>⟨h1,h2,λk o hk=>by simp[Objs.get]at hk⟩) hfz
theorem CtIO.walk (hT:T.ok P) (hm:P.follows .mixedOrders=true) {f:FuncId} {fn:Func} {args:List A1} {items:List (List A1)} {OT OE:Objs} (hf:P.funcs[f]? = some fn) (hb:fn.body=some c) (hn:(fn.name == "runtime.NumGoroutine")=false) (hN:fn.ntmps=N.n) (hl:Nat.ble (args.length+1) N.n=true) (hr:fn.results.toList=[])
  (h:∀ (v:Value) (I:Nat→St) (X:St),one v=true→Yields P v items I X→bS P T N c (ka 0 (.c (.cb v)::args)) ((2000000,some (.abs (I 0)))::OT) (Ch OE I X items.length)) (hfz:N.fz=[]:=by rfl):CtIO P f OT args items OE:=
 CtIO.go hf hb hn hN hl hr (λv I X hv hY=>aL hT hm c _ _ _ (h v I X hv hY)) hfz
end
end
section
theorem Ci {x:Nat} (_:0≤x):(x:Int).fdiv (2^min (1:Int).toNat 64)=((x/2:Nat):Int):=by
 rw[GJ _ (by decide)];show (x:Int)/2=_
 omega
theorem Ed {b:Bool} {X Y:Prop} (hb:b=true) (h:X):(bif b then X else Y):=by subst hb; exact h
theorem Bb {caps:List PC}:az (caps.map .c)=closedL caps:=by
 induction caps with
 | nil=>rfl
 | cons x l ih=>simp only[Fg,az,closedL,ih]; rfl
theorem vX (n k:Nat) (hn:n≤1000000) (hk:k≤n) {g:FuncId} {caps:List PC} (hcl:closedL caps=true) (p:Nat→Bool) (hp:∀ i,i<n→Ct P g (.c (nI .i64 i)::caps.map .c) [.c (.sc (.bool (p i)))]) (h1:∀ i,i<k→p i=false) (h2:∀ i,k≤i→i<n→p i=true) :
  Ct P 209 [.c (nI .i64 n),.c (.fn g caps)] [.c (nI .i64 k)]:=by
 refine Ct.go aj aa (N:=26) Tryz.func209 rfl rfl rfl rfl ?_;refine ax aj aa (G:=Nat × Nat) (λ(i,j)=>i≤k∧k≤j∧j≤n) (λ(i,j)=>[(1,.c (.fn g caps)),(5,.c (nI .i64 i)),(6,.c (nI .i64 j))]) (λ_=>[]) (λ(i,j)=>j-i)
  (0,n) ⟨by omega,hk,by omega⟩ ⟨rfl,rfl,rfl,HB⟩ HB (λ_:Unit=>True) (λ_=>[(5,.c (nI .i64 k))]) (λ_=>[]) (λ(i,j) hi=>?_) (λ_ _=>?_)
 ·obtain ⟨i1,i2,i3⟩:=hi;refine ae (λh5=>?_) (λh5=>?_)
  ·refine X1 ((i+j:Nat):Int) (wI (by simp) (by omega) (by omega)) ?_;refine X1 ((i+j:Nat):Int) (wU rfl (by omega) (by omega)) ?_;refine .intro (by omega) (X1 (((i+j)/2:Nat):Int) (Ci (by omega)) (.intro ⟨by omega,by omega⟩ ?_));refine X1 (((i+j)/2:Nat):Int) (wI rfl (by omega) (by omega)) ?_;refine Ed ?_ ?_
   ·show ((true&&az (caps.map .c))&&true)=true
    rw[Bb,hcl]; rfl
   ·refine X1 _ (hp ((i+j)/2) (by omega)) ?_;refine aP (λh6=>?_) (λh6=>?_)
    ·have h7:p ((i+j)/2)=false:=by simpa using h6
     have h8:(i+j)/2<k:=by
      apply Gz;intro hle;rw[h2 _ hle (by omega)]at h7; cases h7
     refine X1 (((i+j)/2+1:Nat):Int) (wI (by simp) (by omega) (by omega)) ?_;exact ⟨((i+j)/2+1,j),⟨by omega,i2,i3⟩,by show j-((i+j)/2+1)<j-i; omega,⟨rfl,rfl,rfl,HB⟩,HB⟩
    ·have h7:p ((i+j)/2)=true:=by simpa using h6
     have h8:k≤(i+j)/2:=by
      apply FD;intro hlt;rw[h1 _ hlt]at h7; cases h7
     exact ⟨(i,(i+j)/2),⟨i1,h8,by omega⟩,by show (i+j)/2-i<j-i; omega,⟨rfl,rfl,rfl,HB⟩,HB⟩
  ·have e:i=k:=by omega
   subst e;exact ⟨(),HB,⟨rfl,HB⟩,HB⟩
 ·exact ⟨HB,r1 rfl,HB⟩
theorem CO (l:List Cnt) (h:List Int) (i:Nat) (hl:CLim l) (hh:h.length≤1000000) (hi:i<l.length):Ct P 210 [.c (nI .i64 i),.c (.rd [cSl l]),.c (.rd [iSl h])] [.c (.sc (.bool (decide (aG l[i].1 h>0))))]:=by
 refine Ct.go aj aa (N:=13) Tryz.func210 rfl rfl rfl rfl ?_;refine .intro (by omega) (X1 _ (bq rfl hi) ?_);refine X1 _ (fU l[i].1 h (hl.at' hi) hh) ?_;refine .intro rfl ?_;exact ⟨HB,r1 rfl,HB⟩
theorem yH {l:List Cnt} {a b:Nat}:((cj l).drop a).take b=cj ((l.drop a).take b):=by simp[cj,List.map_take,List.map_drop]
def eQ (h:List Int) (x:Cnt):Bool:=decide (h.length≤x.1.length)&&decide (x.1.take h.length=h)
def lz (h:List Int) (x:Cnt):Bool:=decide (x.1.length=h.length+1)
abbrev cA (x:Cnt):List A1:=[.ag [iSl x.1,eI .i64 x.2]]
def rX (M:List Cnt) (h:List Int):List (List A1):=((M.takeWhile (eQ h)).filter (lz h)).map cA
theorem qj {p:Cnt→Bool}:∀ {M:List Cnt} {i:Nat},i≤M.length→(∀ x,x∈M.take i→p x=true)→M.takeWhile p=M.take i++(M.drop i).takeWhile p
 | M,0,_,_=>by simp
 | [],i+1,h,_=>by simp at h
 | x::M,i+1,h,hp=>by
  have h0:=hp x (by simp);rw[GK h0,qj (M:=M) (i:=i) (by simpa using h) (λy hy=>hp y (by simp[hy]))];simp
theorem vY (l:List Cnt) (h:List Int) (k:Nat) (hl:CLim l) (hh:h.length≤1000000) (hk:k≤l.length) (h1:∀ (i:Nat) (hi:i<l.length),i<k→¬ aG l[i].1 h>0) (h2:∀ (i:Nat) (hi:i<l.length),k≤i→aG l[i].1 h>0) :
  CtI P 208 [.c (.rd [cSl l]),.c (.rd [iSl h])] (rX (l.drop k) h):=by
 have hll:=hl.len;refine CtI.go aj aa (N:=49) Tryz.func208 rfl rfl rfl rfl rfl (λv I X hv hY=>?_);refine .intro (by rw[cRow_len]; omega) ?_;rw[cRow_len];refine X1 [.rd [cSl l],.rd [iSl h]] rfl ?_;refine X1 _ (vX l.length k (by omega) hk (caps:=[.rd [cSl l],.rd [iSl h]]) rfl (λi=>if hi:i<l.length then decide (aG l[i].1 h>0) else true) (λi hi=>by simp only[hi,dite_true]; exact CO l h i hl hh hi) (λi hi=>by
  have hi':i<l.length:=by omega
  simp only[hi',dite_true]; exact decide_eq_false (h1 i hi' hi)) (λi hi hi'=>by simp only[hi',dite_true]; exact decide_eq_true (h2 i hi' hi))) ?_
 refine ⟨k,l.length,by simp,by simp[cRow_len],hk,by rw[cRow_len]; omega,?_⟩;rw[yH,E3 (show (l.drop k).length≤l.length-k by rw[E8]; exact Ew _)];have hM:CLim (l.drop k):=⟨by rw[E8]; omega,λx hx=>hl.g x (GO hx)⟩;generalize l.drop k=M at *
 have hMl:=hM.len;refine .intro (by rw[cRow_len]; omega) ?_;rw[cRow_len];refine b8 aj aa (λi:Nat=>i≤M.length∧∀ x,x∈M.take i→eQ h x=true) (λi=>[(0,.c (.cb v)),(2,.c (.rd [iSl h])),(13,.c (cSl M)),(14,.c (nI .i64 M.length)),(15,.c (nI .i64 i))])
  (λi=>[(2000000,.abs (I ((M.take i).filter (lz h)).length))]) (λi=>M.length-i) 0 ⟨by omega,λx hx=>by simp at hx⟩ ⟨rfl,rfl,rfl,rfl,rfl,HB⟩ ⟨rfl,HB⟩ (λi hi=>?_)
 ·obtain ⟨i1,i2⟩:=hi;refine ae (λh5=>?_) (λh5=>?_)
  ·have hi':i<M.length:=by omega
   have hxl:=hM.at' hi';have hx:=bq (l:=M) (i:=(i:Int)) (n:=i) rfl hi';have htw:=qj (p:=eQ h) i1 i2;rw[E4 hi']at htw;have hs:M.take (i+1)=M.take i++[M[i]]:=EB hi';have hend:eQ h M[i]=false→(rX M h).length=((M.take i).filter (lz h)).length:=λhp=>by
    rw[List.takeWhile_cons_of_neg (by rw[hp]; simp),Gh]at htw;unfold rX;rw[htw,Fl]
   have hget:eQ h M[i]=true→lz h M[i]=true→(rX M h)[((M.take i).filter (lz h)).length]? = some (cA M[i]):=λhp ho=>by
    rw[GK hp]at htw;unfold rX;rw[htw,FH,Fi ho,FG,ED (by simp)];simp
   generalize M[i]=x at *
   refine .intro (by omega) (X1 _ hx ?_);refine .intro (by rw[ac]; omega) ?_;refine .intro (by rw[ac]; omega) ?_;rw[ac,ac];refine ae (λh6=>?_) (λh6=>?_)
   ·refine .intro rfl ?_;have hp:eQ h x=false:=by unfold eQ; rw[decide_eq_false (by omega),Hg]
    exact ⟨HB,.inl (by rw[hend hp]; rfl)⟩
   ·refine .intro (by rw[ac]; omega) ?_;rw[ac];refine ⟨0,h.length,by simp,by simp,by omega,by rw[ac]; omega,?_⟩;rw[iRow_sub,FU,Gk];refine X1 _ (rL (x.1.take h.length) h (by rw[EJ]; omega) hh) ?_;refine .intro rfl ?_;refine aP (λh7=>?_) (λh7=>?_)
    ·have h7':¬ x.1.take h.length=h:=by simpa using h7
     have hp:eQ h x=false:=by unfold eQ; rw[decide_eq_false h7',GQ]
     exact ⟨HB,.inl (by rw[hend hp]; rfl)⟩
    ·have h7':x.1.take h.length=h:=by simpa using h7
     have hp:eQ h x=true:=by unfold eQ; rw[decide_eq_true (by omega),decide_eq_true h7']; rfl
     have hi2:∀ y,y∈M.take (i+1)→eQ h y=true:=λy hy=>by
      rw[hs]at hy;rcases Fe.1 hy with g | g
      ·exact i2 y g
      ·rw[Fk.1 g]; exact hp
     refine .intro (by rw[ac]; omega) ?_;refine .intro (by rw[ac]; omega) ?_;rw[ac,ac];refine X1 ((h.length+1:Nat):Int) (wI (by simp) (by omega) (by omega)) ?_;refine aT (λh8=>?_) (λh8=>?_)
     ·have ho:lz h x=true:=decide_eq_true (by omega);refine ⟨rX M h,I,X,((M.take i).filter (lz h)).length,hY,rfl,hget hp ho,?_,?_⟩
      ·refine X1 ((i+1:Nat):Int) (wI1 (by omega)) ?_;exact ⟨i+1,⟨by omega,hi2⟩,by omega,⟨rfl,rfl,rfl,rfl,rfl,HB⟩,⟨by rw[hs,FH,Fi ho,Ey]; rfl,HB⟩⟩
      ·exact ⟨HB,.inr rfl⟩
     ·have ho:lz h x=false:=decide_eq_false (by omega);refine X1 ((i+1:Nat):Int) (wI1 (by omega)) ?_;exact ⟨i+1,⟨by omega,hi2⟩,by omega,⟨rfl,rfl,rfl,rfl,rfl,HB⟩,⟨by rw[hs,FH,Fa (by rw[ho]; simp),List.filter_nil,Gh]; rfl,HB⟩⟩
  ·have e:i=M.length:=by omega
   subst e;have:=qj (p:=eQ h) (Ew _) i2;rw[F3,List.takeWhile_nil,Gh]at this;refine ⟨HB,.inl ?_⟩;unfold rX;rw[this,Fl];rfl
theorem tS (l:List Cnt) (h:List Int):Ct P 189 [.c (cSl l),.c (iSl h)] [.c (.fn 208 [.rd [cSl l],.rd [iSl h]])]:=by
 refine Ct.go aj aa (N:=6) Tryz.func189 rfl rfl rfl rfl ?_;refine X1 [.ad 2 0,.ad 3 0] rfl ?_;exact ⟨HB,r1 rfl,HB⟩
def mu (M:List Cnt) (h:List Int):List Cnt:=(M.takeWhile (eQ h)).filter (lz h)
theorem yI (l:List Cnt) (h:List Int) (k:Nat) (hl:CLim l) (hh:h.length≤1000000) (hk:k≤l.length) (h1:∀ (i:Nat) (hi:i<l.length),i<k→¬ aG l[i].1 h>0) (h2:∀ (i:Nat) (hi:i<l.length),k≤i→aG l[i].1 h>0) (ht:tot l≤4611686018427387904) :
  Ct P 183 [.c (cSl l),.c (iSl h)] [.ag (dC (mu (l.drop k) h))]:=by
 have hB1:(mu (l.drop k) h).length≤1000000:=by
  have a1:=Ft (lz h) ((l.drop k).takeWhile (eQ h));have a2:=(List.takeWhile_sublist (l:=l.drop k) (eQ h)).length_le;have a3:=hl.len;rw[E8]at a2;unfold mu;omega
 have hB2:∀ x,x∈mu (l.drop k) h→x.1.length≤1000000:=λx hx=>hl.g x (GO ((List.takeWhile_sublist _).subset (Hc.1 hx).1))
 have hB3:tot (mu (l.drop k) h)≤4611686018427387904:=by
  have a1:=di (lz h) ((l.drop k).takeWhile (eQ h));have a2:tot ((l.drop k).takeWhile (eQ h))≤tot (l.drop k):=by
   have e:=iU ((l.drop k).takeWhile (eQ h)) ((l.drop k).dropWhile (eQ h));rw[List.takeWhile_append_dropWhile]at e;have:=cF ((l.drop k).dropWhile (eQ h));omega
  have a3:=iU (l.take k) (l.drop k);rw[GG]at a3;have:=cF (l.take k);unfold mu;omega
 have hit:=vY l h k hl hh hk h1 h2;have hitems:rX (l.drop k) h=(mu (l.drop k) h).map cA:=rfl;refine Ct.go aj aa (N:=14) Tryz.func183 rfl rfl rfl rfl ?_;refine X1 _ (tS l h) ?_;rw[hitems]at hit;generalize mu (l.drop k) h=B at *
 refine CN aj aa (caps:=[.rd [cSl l],.rd [iSl h]]) hit Tryz.func208 rfl rfl rfl rfl (λargs ha=>by
  obtain ⟨x,_,rfl⟩:=Fb.1 ha;exact ⟨rfl,rfl⟩) [4,5] rfl (G:=Unit) (λi _=>i≤B.length) (λ_ _=>[(4,.c (.ad 4 0)),(5,.c (.ad 5 0))])
  (λi _=>[(4,.var [eI .i64 0,eI .i64 0,eI .i64 0,eI .i64 0,eI .i64 0,eI .i64 0,eI .i64 0]),(5,.var (dC (B.take i)))]) () (by omega) ⟨rfl,rfl,HB⟩ ⟨rfl,rfl,HB⟩ (λ_ _=>rfl) (λi _ args hg hi=>?_) (λ_ hi=>?_)
 ·rw[EH]at hg
  cases hx:B[i]? with
  | none=>rw[hx]at hg; cases hg
  | some x=>
   rw[hx]at hg;cases hg;obtain ⟨hlt,hxe⟩:=Ez.1 hx;have hs:B.take (i+1)=B.take i++[x]:=by rw[EB hlt,hxe]
   have hxl:=hB2 x (by rw[←hxe]; exact EI hlt);have t1:=nO B (i+1);rw[hs]at t1;refine X2 (.upd 5) ?_;refine ⟨_,_,rT (B.take i) x (by rw[EJ]; omega) hxl (by omega),?_⟩;exact ⟨(),by omega,⟨rfl,rfl,HB⟩,⟨rfl,by rw[hs]; rfl,HB⟩⟩
 ·rw[Fl,Fd];exact ⟨HB,rc rfl,HB⟩
theorem rY (x:Cnt) (g:List Int) (hx:x.1.length≤1000000) (hg:g.length≤1000000):Ct P 174 [.ag [iSl x.1,eI .i64 x.2],.c (iSl g)] [.c (eI .i64 (aG x.1 g))]:=by
 refine Ct.go aj aa (N:=9) Tryz.func174 rfl rfl rfl rfl ?_;refine X1 _ (fU x.1 g hx hg) ?_;exact ⟨HB,r1 rfl,HB⟩
def atK (l:List Cnt) (g:List Int) (k:Nat):Bool:=match l[k]? with | some x=>aG x.1 g==0 | none=>false
theorem CP (l:List Cnt) (g:List Int) (k:Nat) (hl:CLim l) (hg:g.length≤1000000) (hk:k≤l.length) (h1:∀ (i:Nat) (hi:i<l.length),i<k→aG l[i].1 g<0) (h2:∀ (i:Nat) (hi:i<l.length),k≤i→¬ aG l[i].1 g<0) :
  Ct P 173 [.c (cSl l),.c (iSl g),.c (.fn 174 [])] [.c (nI .i64 k),.c (.sc (.bool (atK l g k)))]:=by
 have hll:=hl.len;refine Ct.go aj aa (N:=49) Tryz.func173 rfl rfl rfl rfl ?_;refine .intro (by rw[cRow_len]; omega) ?_;rw[cRow_len];refine ax aj aa (G:=Nat × Nat) (λ(i,j)=>i≤k∧k≤j∧j≤l.length) (λ(i,j)=>[(0,.c (cSl l)),(1,.c (iSl g)),(2,.c (.fn 174 [])),(8,.c (nI .i64 l.length)),(9,.c (nI .i64 i)),(10,.c (nI .i64 j))]) (λ_=>[]) (λ(i,j)=>j-i)
  (0,l.length) ⟨by omega,hk,by omega⟩ ⟨rfl,rfl,rfl,rfl,rfl,rfl,HB⟩ HB (λ_:Unit=>True) (λ_=>[(0,.c (cSl l)),(1,.c (iSl g)),(2,.c (.fn 174 [])),(8,.c (nI .i64 l.length)),(9,.c (nI .i64 k))]) (λ_=>[]) (λ(i,j) hi=>?_) (λ_ _=>?_)
 ·obtain ⟨i1,i2,i3⟩:=hi;refine ae (λh5=>?_) (λh5=>?_)
  ·have hm:(i+j)/2<l.length:=by omega
   refine X1 ((i+j:Nat):Int) (wI (by simp) (by omega) (by omega)) ?_;refine X1 ((i+j:Nat):Int) (wU rfl (by omega) (by omega)) ?_;refine .intro (by omega) (X1 (((i+j)/2:Nat):Int) (Ci (by omega)) (.intro ⟨by omega,by omega⟩ ?_));refine X1 (((i+j)/2:Nat):Int) (wI rfl (by omega) (by omega)) ?_;refine .intro (by omega) (X1 _ (bq rfl hm) ?_);refine X1 _ (rY l[(i+j)/2] g (hl.at' hm) hg) ?_;refine ae (λh6=>?_) (λh6=>?_)
   ·have h8:(i+j)/2<k:=by
     apply Gz;intro hle;exact h2 _ hm hle h6
    refine X1 (((i+j)/2+1:Nat):Int) (wI (by simp) (by omega) (by omega)) ?_;exact ⟨((i+j)/2+1,j),⟨by omega,i2,i3⟩,by show j-((i+j)/2+1)<j-i; omega,⟨rfl,rfl,rfl,rfl,rfl,rfl,HB⟩,HB⟩
   ·have h8:k≤(i+j)/2:=by
     apply FD;intro hlt;exact h6 (h1 _ hm hlt)
    exact ⟨(i,(i+j)/2),⟨i1,h8,by omega⟩,by show (i+j)/2-i<j-i; omega,⟨rfl,rfl,rfl,rfl,rfl,rfl,HB⟩,HB⟩
  ·have e:i=k:=by omega
   subst e;exact ⟨(),HB,⟨rfl,rfl,rfl,rfl,rfl,HB⟩,HB⟩
 ·refine ae (λh5=>?_) (λh5=>?_)
  ·have hm:k<l.length:=by omega
   have ha:atK l g k=(aG l[k].1 g==0):=by unfold atK; rw[ES hm]
   refine .intro (by omega) (X1 _ (bq rfl hm) ?_);refine X1 _ (rY l[k] g (hl.at' hm) hg) ?_;exact ⟨HB,r1 rfl,r1 (by rw[ha]; rfl),HB⟩
  ·have ha:atK l g k=false:=by unfold atK; rw[ET (by omega)]
   rw[ha];exact ⟨HB,r1 rfl,r1 rfl,HB⟩
theorem yK (l:List Cnt) (g:List Int) (k:Nat) (hl:CLim l) (hg:g.length≤1000000) (hk:k≤l.length) (h1:∀ (i:Nat) (hi:i<l.length),i<k→aG l[i].1 g<0) (h2:∀ (i:Nat) (hi:i<l.length),k≤i→¬ aG l[i].1 g<0) :
  Ct P 129 [.c (cSl l),.c (iSl g)] [.c (eI .i64 (if atK l g k=true then (k:Int) else -1))]:=by
 refine Ct.go aj aa (N:=16) Tryz.func129 rfl rfl rfl rfl ?_;refine X1 _ (CP l g k hl hg hk h1 h2) ?_;refine aP (λh=>?_) (λh=>?_)
 ·have h':¬ atK l g k=true:=by simpa using h
  rw[if_neg h'];exact ⟨HB,r1 rfl,HB⟩
 ·have h':atK l g k=true:=by simpa using h
  rw[if_pos h'];exact ⟨HB,r1 rfl,HB⟩
end
end Go.Proofs.YtgceikecdedfcaaGreat.Pv
