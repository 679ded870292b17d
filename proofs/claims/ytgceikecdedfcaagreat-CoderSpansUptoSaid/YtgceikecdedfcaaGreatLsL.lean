/- Parts of a proof, joined: Scd Sce Cv El Em En Eo Ep. -/
import Derived.Test.YtgceikecdedfcaaGreatLsK
namespace Go.Proofs.YtgceikecdedfcaaGreat.Pv.SrtC
open Go Go.Sort
section
variable {p:El→Bool} {e:Array El} {i j:Nat}
theorem sUp_a (h:¬ i≤j):scanUp p e j i=i:=by rw[scanUp,if_neg (by simp; omega)]
theorem sUp_b (h:p e[i]! = false):scanUp p e j i=i:=by rw[scanUp,if_neg (by simp[h])]
theorem sUp_c (h:i≤j) (h2:p e[i]! = true):scanUp p e j i=scanUp p e j (i+1):=by rw[scanUp,if_pos (by simp[h2]; omega)]
theorem sDn_a (h:¬ i≤j):scanDown p e i j=j:=by
 cases j with
 | zero=>rfl
 | succ j=>rw[scanDown,if_neg (by simp; omega)]
theorem sDn_b (h:p e[j]! = false):scanDown p e i j=j:=by
 cases j with
 | zero=>rfl
 | succ j=>rw[scanDown,if_neg (by simp[h])]
theorem sDn_c (h0:1≤j) (h:i≤j) (h2:p e[j]! = true):scanDown p e i j=scanDown p e i (j-1):=by
 cases j with
 | zero=>omega
 | succ j=>rw[scanDown,if_pos (by simp[h2]; omega)]; rfl
end
variable {cm:El→El→Int}
theorem pEqL {a i j i2 j2:Nat} {e:Array El} (hi2:scanUp (λx=>!lt cm e[a]! x) e j i=i2) (hj2:scanDown (λx=>lt cm e[a]! x) e i2 j=j2):partEqLoop (lt cm) a i j e=if i2>j2 then (i2,e) else if _h:(j2-1)+1-(i2+1)<j+1-i then partEqLoop (lt cm) a (i2+1) (j2-1) (swp e i2 j2) else (i2,e):=by
 subst hi2 hj2;rw[partEqLoop]
theorem pL {a i j i2 j2:Nat} {e:Array El} (hi2:scanUp (λx=>lt cm x e[a]!) e j i=i2) (hj2:scanDown (λx=>!lt cm x e[a]!) e i2 j=j2):partLoop (lt cm) a i j e=if i2>j2 then (j2,e) else if _h:(j2-1)+1-(i2+1)<j+1-i then partLoop (lt cm) a (i2+1) (j2-1) (swp e i2 j2) else (j2,e):=by
 subst hi2 hj2;rw[partLoop]
variable (g:FuncId) (cm)
variable (hc:∀ x y,Ct P g [VL x,VL y] [.c (eI .i64 (cm x y))])
include hc
theorem pEq_ct (d:Array El) (a b p:Nat) (hab:a<b) (hp:p<d.size) (hb:b≤d.size) (hd:d.size≤1000000) :
  CtO P 206 [dO d] [dA d,.c (nI .i64 a),.c (nI .i64 b),.c (nI .i64 p),.c (.fn g [])] [dO (partitionEqual (lt cm) d a b p).2] [.c (nI .i64 (partitionEqual (lt cm) d a b p).1)]:=by
 have key:∀ F:Nat × Array El,partEqLoop (lt cm) a (a+1) (b-1) (swp d a p)=F→CtO P 206 [dO d] [dA d,.c (nI .i64 a),.c (nI .i64 b),.c (nI .i64 p),.c (.fn g [])] [dO F.2] [.c (nI .i64 F.1)]:=by
  intro F hF;refine Ct.io aj aa (N:=90) Tryz.func206 rfl rfl rfl rfl ?_;refine .intro (by omega) (.intro (by omega) (X1 _ (row_get (d:=d) (n:=p) rfl (by omega)) ?_));refine .intro (by omega) (.intro (by omega) (X1 _ (row_get (d:=d) (n:=a) rfl (by omega)) ?_));refine .intro (by omega) (.intro (by omega) (X1 _ (row_get (d:=d) (n:=a) rfl (by omega)) ?_));refine .intro (by omega) (.intro (by omega) (X1 _ (row_get2 (d:=d) (y:=d[p]!) (m:=a) (n:=p) rfl rfl (by omega)) ?_));refine .intro rfl ?_;refine X1 ((a+1:Nat):Int) (wI (by simp) (by omega) (by omega)) ?_;refine X1 ((b-1:Nat):Int) (wI (by omega) (by omega) (by omega)) ?_;refine aw aj aa (G:=Nat × Nat × Array El) (λ(i,j,e)=>partEqLoop (lt cm) a i j e=F∧e.size=d.size∧1≤i∧j<d.size∧i≤j+2) (λ(i,j,_)=>[(0,.c (.ow 1000000 SZ d.size)),(1,.c (nI .i64 a)),(4,.c (.fn g [])),(11,.c (nI .i64 i)),(12,.c (nI .i64 j))]) (λ(_,_,e)=>[(1000000,.row SZ (row e))]) (λ(i,j,_)=>j+1-i)
   (a+1,b-1,swp d a p) ⟨hF,swp_size,by omega,by omega,by omega⟩ ⟨rfl,rfl,rfl,rfl,rfl,HJ⟩ ⟨aB (row_swp (m:=a) (n:=p) rfl rfl),HJ⟩ (G2:=Nat × Array El) (λ(i,e)=>F=(i,e)) (λ(i,_)=>[(11,.c (nI .i64 i))]) (λ(_,e)=>[(1000000,.row SZ (row e))]) (λ(i,j,e) hi=>?_) (λ(i,e) he=>?_)
  ·obtain ⟨i1,i2,i3,i4,i5⟩:=hi;refine aw aj aa (G:=Nat) (λq=>scanUp (λx=>!lt cm e[a]! x) e j q=scanUp (λx=>!lt cm e[a]! x) e j i∧i≤q∧(q≤j+1∨q=i)) (λq=>[(0,.c (.ow 1000000 SZ d.size)),(1,.c (nI .i64 a)),(4,.c (.fn g [])),(11,.c (nI .i64 q)),(12,.c (nI .i64 j))]) (λ_=>[(1000000,.row SZ (row e))]) (λq=>j+1-q)
    i ⟨rfl,by omega,by omega⟩ ⟨rfl,rfl,rfl,rfl,rfl,HJ⟩ ⟨rfl,HJ⟩ (G2:=Nat) (λq=>scanUp (λx=>!lt cm e[a]! x) e j i=q∧i≤q∧(q≤j+1∨q=i)) (λq=>[(0,.c (.ow 1000000 SZ d.size)),(1,.c (nI .i64 a)),(4,.c (.fn g [])),(11,.c (nI .i64 q)),(12,.c (nI .i64 j))]) (λ_=>[(1000000,.row SZ (row e))]) (λq hq=>?_) (λk hk=>?_)
   ·obtain ⟨q1,q2,q3⟩:=hq;refine ah (λh6=>?_) (λh6=>?_)
    ·refine .intro (by omega) (.intro (by omega) (X1 _ (row_get (d:=e) (n:=a) rfl (by omega)) ?_));refine .intro (by omega) (.intro (by omega) (X1 _ (row_get (d:=e) (n:=q) rfl (by omega)) ?_));refine X1 _ (hc _ _) ?_;refine .intro rfl ?_;refine aP (λh7=>?_) (λh7=>?_)
     ·have h7p:(!lt cm e[a]! e[q]!)=true:=h7;rw[sUp_c (p:=(λx=>!lt cm e[a]! x)) (e:=e) (i:=q) (by omega) h7p]at q1;refine X1 ((q+1:Nat):Int) (wI (by simp) (by omega) (by omega)) ?_;exact ⟨q+1,⟨q1,by omega,by omega⟩,by show j+1-(q+1)<j+1-q; omega,⟨rfl,rfl,rfl,rfl,rfl,HJ⟩,⟨rfl,HJ⟩⟩
     ·have h7p:(!lt cm e[a]! e[q]!)=false:=h7;rw[sUp_b (p:=(λx=>!lt cm e[a]! x)) (e:=e) (i:=q) h7p]at q1;exact ⟨q,⟨q1.symm,q2,q3⟩,⟨rfl,rfl,rfl,rfl,rfl,HJ⟩,⟨rfl,HJ⟩⟩
    ·refine .intro rfl ?_;rw[sUp_a (by omega)]at q1;exact ⟨q,⟨q1.symm,q2,q3⟩,⟨rfl,rfl,rfl,rfl,rfl,HJ⟩,⟨rfl,HJ⟩⟩
   ·obtain ⟨k1,k2,k3⟩:=hk;refine aw aj aa (G:=Nat) (λq=>scanDown (λx=>lt cm e[a]! x) e k q=scanDown (λx=>lt cm e[a]! x) e k j∧q≤j∧(k≤q+1∨q=j)) (λq=>[(0,.c (.ow 1000000 SZ d.size)),(1,.c (nI .i64 a)),(4,.c (.fn g [])),(11,.c (nI .i64 k)),(12,.c (nI .i64 q))]) (λ_=>[(1000000,.row SZ (row e))]) (λq=>q)
     j ⟨rfl,by omega,by omega⟩ ⟨rfl,rfl,rfl,rfl,rfl,HJ⟩ ⟨rfl,HJ⟩ (G2:=Nat) (λq=>scanDown (λx=>lt cm e[a]! x) e k j=q∧q≤j∧(k≤q+1∨q=j)) (λq=>[(0,.c (.ow 1000000 SZ d.size)),(1,.c (nI .i64 a)),(4,.c (.fn g [])),(11,.c (nI .i64 k)),(12,.c (nI .i64 q))]) (λ_=>[(1000000,.row SZ (row e))]) (λq hq=>?_) (λr hr=>?_)
    ·obtain ⟨q1,q2,q3⟩:=hq;refine ah (λh6=>?_) (λh6=>?_)
     ·refine .intro (by omega) (.intro (by omega) (X1 _ (row_get (d:=e) (n:=a) rfl (by omega)) ?_));refine .intro (by omega) (.intro (by omega) (X1 _ (row_get (d:=e) (n:=q) rfl (by omega)) ?_));refine X1 _ (hc _ _) ?_;refine .intro rfl ?_;refine aP (λh7=>?_) (λh7=>?_)
      ·have h7p:lt cm e[a]! e[q]! = true:=h7;rw[sDn_c (p:=(λx=>lt cm e[a]! x)) (e:=e) (j:=q) (by omega) (by omega) h7p]at q1;refine X1 ((q-1:Nat):Int) (wI (by omega) (by omega) (by omega)) ?_;exact ⟨q-1,⟨q1,by omega,by omega⟩,by show q-1<q; omega,⟨rfl,rfl,rfl,rfl,rfl,HJ⟩,⟨rfl,HJ⟩⟩
      ·have h7p:lt cm e[a]! e[q]! = false:=h7;rw[sDn_b (p:=(λx=>lt cm e[a]! x)) (e:=e) (j:=q) h7p]at q1;exact ⟨q,⟨q1.symm,q2,q3⟩,⟨rfl,rfl,rfl,rfl,rfl,HJ⟩,⟨rfl,HJ⟩⟩
     ·refine .intro rfl ?_;rw[sDn_a (by omega)]at q1;exact ⟨q,⟨q1.symm,q2,q3⟩,⟨rfl,rfl,rfl,rfl,rfl,HJ⟩,⟨rfl,HJ⟩⟩
    ·obtain ⟨r1',r2',r3'⟩:=hr;rw[pEqL k1 r1']at i1;refine ah (λh8=>?_) (λh8=>?_)
     ·rw[if_pos (by omega)]at i1;exact ⟨(k,e),i1.symm,⟨rfl,HJ⟩,⟨rfl,HJ⟩⟩
     ·rw[if_neg (by omega),dif_pos (by omega)]at i1;refine .intro (by omega) (.intro (by omega) (X1 _ (row_get (d:=e) (n:=r) rfl (by omega)) ?_));refine .intro (by omega) (.intro (by omega) (X1 _ (row_get (d:=e) (n:=k) rfl (by omega)) ?_));refine .intro (by omega) (.intro (by omega) (X1 _ (row_get (d:=e) (n:=k) rfl (by omega)) ?_));refine .intro (by omega) (.intro (by omega) (X1 _ (row_get2 (d:=e) (y:=e[r]!) (m:=k) (n:=r) rfl rfl (by omega)) ?_));refine .intro rfl ?_;refine X1 ((k+1:Nat):Int) (wI (by simp) (by omega) (by omega)) ?_;refine X1 ((r-1:Nat):Int) (wI (by omega) (by omega) (by omega)) ?_;exact ⟨(k+1,r-1,swp e k r),⟨i1,by rw[swp_size]; exact i2,by omega,by omega,by omega⟩,by show r-1+1-(k+1)<j+1-i; omega,⟨rfl,rfl,rfl,rfl,rfl,HJ⟩,⟨aB (row_swp (m:=k) (n:=r) rfl rfl),HJ⟩⟩
  ·rw[he];exact ⟨HJ,SubO.of (l:=[(1000000,.row _ _)]) ⟨rfl,HJ⟩,r1 rfl,HJ⟩
 exact key _ rfl
theorem part_ct (d:Array El) (a b p:Nat) (hab:a<b) (hp:p<d.size) (hb:b≤d.size) (hd:d.size≤1000000) :
  CtO P 207 [dO d] [dA d,.c (nI .i64 a),.c (nI .i64 b),.c (nI .i64 p),.c (.fn g [])] [dO (partition (lt cm) d a b p).2.2] [.c (nI .i64 (partition (lt cm) d a b p).1),.c (.sc (.bool (partition (lt cm) d a b p).2.1))]:=by
 have key:∀ e0:Array El,swp d a p=e0→CtO P 207 [dO d] [dA d,.c (nI .i64 a),.c (nI .i64 b),.c (nI .i64 p),.c (.fn g [])] [dO (partition (lt cm) d a b p).2.2] [.c (nI .i64 (partition (lt cm) d a b p).1),.c (.sc (.bool (partition (lt cm) d a b p).2.1))]:=by
  intro e0 he0;have hpt:partition (lt cm) d a b p=(if scanUp (λx=>lt cm x e0[a]!) e0 (b-1) (a+1)>scanDown (λx=>!lt cm x e0[a]!) e0 (scanUp (λx=>lt cm x e0[a]!) e0 (b-1) (a+1)) (b-1) then (scanDown (λx=>!lt cm x e0[a]!) e0 (scanUp (λx=>lt cm x e0[a]!) e0 (b-1) (a+1)) (b-1),true,swp e0 (scanDown (λx=>!lt cm x e0[a]!) e0 (scanUp (λx=>lt cm x e0[a]!) e0 (b-1) (a+1)) (b-1)) a) else
    ((partLoop (lt cm) a (scanUp (λx=>lt cm x e0[a]!) e0 (b-1) (a+1)+1) (scanDown (λx=>!lt cm x e0[a]!) e0 (scanUp (λx=>lt cm x e0[a]!) e0 (b-1) (a+1)) (b-1)-1) (swp e0 (scanUp (λx=>lt cm x e0[a]!) e0 (b-1) (a+1)) (scanDown (λx=>!lt cm x e0[a]!) e0 (scanUp (λx=>lt cm x e0[a]!) e0 (b-1) (a+1)) (b-1)))).1,false,swp (partLoop (lt cm) a (scanUp (λx=>lt cm x e0[a]!) e0 (b-1) (a+1)+1) (scanDown (λx=>!lt cm x e0[a]!) e0 (scanUp (λx=>lt cm x e0[a]!) e0 (b-1) (a+1)) (b-1)-1) (swp e0 (scanUp (λx=>lt cm x e0[a]!) e0 (b-1) (a+1)) (scanDown (λx=>!lt cm x e0[a]!) e0 (scanUp (λx=>lt cm x e0[a]!) e0 (b-1) (a+1)) (b-1)))).2 (partLoop (lt cm) a (scanUp (λx=>lt cm x e0[a]!) e0 (b-1) (a+1)+1) (scanDown (λx=>!lt cm x e0[a]!) e0 (scanUp (λx=>lt cm x e0[a]!) e0 (b-1) (a+1)) (b-1)-1) (swp e0 (scanUp (λx=>lt cm x e0[a]!) e0 (b-1) (a+1)) (scanDown (λx=>!lt cm x e0[a]!) e0 (scanUp (λx=>lt cm x e0[a]!) e0 (b-1) (a+1)) (b-1)))).1 a)):=by
   rw[←he0]; rfl
  have hs0:e0.size=d.size:=by rw[←he0,swp_size]
  refine Ct.io aj aa (N:=178) Tryz.func207 rfl rfl rfl rfl ?_;refine .intro (by omega) (.intro (by omega) (X1 _ (row_get (d:=d) (n:=p) rfl (by omega)) ?_));refine .intro (by omega) (.intro (by omega) (X1 _ (row_get (d:=d) (n:=a) rfl (by omega)) ?_));refine .intro (by omega) (.intro (by omega) (X1 _ (row_get (d:=d) (n:=a) rfl (by omega)) ?_));refine .intro (by omega) (.intro (by omega) (X1 _ (row_get2 (d:=d) (y:=d[p]!) (m:=a) (n:=p) rfl rfl (by omega)) ?_));refine .intro rfl ?_;have hrow:=row_swp (d:=d) (i:=(a:Int)) (j:=(p:Int)) (m:=a) (n:=p) rfl rfl;rw[he0]at hrow;refine X1 ((a+1:Nat):Int) (wI (by simp) (by omega) (by omega)) ?_;refine X1 ((b-1:Nat):Int) (wI (by omega) (by omega) (by omega)) ?_;refine aw aj aa (G:=Nat) (λq=>scanUp (λx=>lt cm x e0[a]!) e0 (b-1) q=scanUp (λx=>lt cm x e0[a]!) e0 (b-1) (a+1)∧(a+1)≤q∧(q≤(b-1)+1∨q=(a+1))) (λq=>[(0,.c (.ow 1000000 SZ d.size)),(1,.c (nI .i64 a)),(4,.c (.fn g [])),(12,.c (nI .i64 q)),(13,.c (nI .i64 (b-1)))]) (λ_=>[(1000000,.row SZ (row e0))]) (λq=>(b-1)+1-q)
   (a+1) ⟨rfl,by omega,by omega⟩ ⟨rfl,rfl,rfl,rfl,rfl,HJ⟩ ⟨aB hrow,HJ⟩ (G2:=Nat) (λq=>scanUp (λx=>lt cm x e0[a]!) e0 (b-1) (a+1)=q∧(a+1)≤q∧(q≤(b-1)+1∨q=(a+1))) (λq=>[(0,.c (.ow 1000000 SZ d.size)),(1,.c (nI .i64 a)),(4,.c (.fn g [])),(12,.c (nI .i64 q)),(13,.c (nI .i64 (b-1)))]) (λ_=>[(1000000,.row SZ (row e0))]) (λq hq=>?_) (λk hk=>?_)
  ·obtain ⟨q1,q2,q3⟩:=hq;refine ah (λh6=>?_) (λh6=>?_)
   ·refine .intro (by omega) (.intro (by omega) (X1 _ (row_get (d:=e0) (n:=q) rfl (by omega)) ?_));refine .intro (by omega) (.intro (by omega) (X1 _ (row_get (d:=e0) (n:=a) rfl (by omega)) ?_));refine X1 _ (hc _ _) ?_;refine .intro rfl ?_;refine aP (λh7=>?_) (λh7=>?_)
    ·have h7p:lt cm e0[q]! e0[a]! = true:=h7;rw[sUp_c (p:=(λx=>lt cm x e0[a]!)) (e:=e0) (i:=q) (by omega) h7p]at q1;refine X1 ((q+1:Nat):Int) (wI (by simp) (by omega) (by omega)) ?_;exact ⟨q+1,⟨q1,by omega,by omega⟩,by show (b-1)+1-(q+1)<(b-1)+1-q; omega,⟨rfl,rfl,rfl,rfl,rfl,HJ⟩,⟨rfl,HJ⟩⟩
    ·have h7p:lt cm e0[q]! e0[a]! = false:=h7;rw[sUp_b (p:=(λx=>lt cm x e0[a]!)) (e:=e0) (i:=q) h7p]at q1;exact ⟨q,⟨q1.symm,q2,q3⟩,⟨rfl,rfl,rfl,rfl,rfl,HJ⟩,⟨rfl,HJ⟩⟩
   ·refine .intro rfl ?_;rw[sUp_a (by omega)]at q1;exact ⟨q,⟨q1.symm,q2,q3⟩,⟨rfl,rfl,rfl,rfl,rfl,HJ⟩,⟨rfl,HJ⟩⟩
  ·obtain ⟨k1,k2,k3⟩:=hk;refine aw aj aa (G:=Nat) (λq=>scanDown (λx=>!lt cm x e0[a]!) e0 k q=scanDown (λx=>!lt cm x e0[a]!) e0 k (b-1)∧q≤(b-1)∧(k≤q+1∨q=(b-1))) (λq=>[(0,.c (.ow 1000000 SZ d.size)),(1,.c (nI .i64 a)),(4,.c (.fn g [])),(12,.c (nI .i64 k)),(13,.c (nI .i64 q))]) (λ_=>[(1000000,.row SZ (row e0))]) (λq=>q)
    (b-1) ⟨rfl,by omega,by omega⟩ ⟨rfl,rfl,rfl,rfl,rfl,HJ⟩ ⟨rfl,HJ⟩ (G2:=Nat) (λq=>scanDown (λx=>!lt cm x e0[a]!) e0 k (b-1)=q∧q≤(b-1)∧(k≤q+1∨q=(b-1))) (λq=>[(0,.c (.ow 1000000 SZ d.size)),(1,.c (nI .i64 a)),(4,.c (.fn g [])),(12,.c (nI .i64 k)),(13,.c (nI .i64 q))]) (λ_=>[(1000000,.row SZ (row e0))]) (λq hq=>?_) (λr hr=>?_)
   ·obtain ⟨q1,q2,q3⟩:=hq;refine ah (λh6=>?_) (λh6=>?_)
    ·refine .intro (by omega) (.intro (by omega) (X1 _ (row_get (d:=e0) (n:=q) rfl (by omega)) ?_));refine .intro (by omega) (.intro (by omega) (X1 _ (row_get (d:=e0) (n:=a) rfl (by omega)) ?_));refine X1 _ (hc _ _) ?_;refine .intro rfl ?_;refine aP (λh7=>?_) (λh7=>?_)
     ·have h7p:(!lt cm e0[q]! e0[a]!)=true:=h7;rw[sDn_c (p:=(λx=>!lt cm x e0[a]!)) (e:=e0) (j:=q) (by omega) (by omega) h7p]at q1;refine X1 ((q-1:Nat):Int) (wI (by omega) (by omega) (by omega)) ?_;exact ⟨q-1,⟨q1,by omega,by omega⟩,by show q-1<q; omega,⟨rfl,rfl,rfl,rfl,rfl,HJ⟩,⟨rfl,HJ⟩⟩
     ·have h7p:(!lt cm e0[q]! e0[a]!)=false:=h7;rw[sDn_b (p:=(λx=>!lt cm x e0[a]!)) (e:=e0) (j:=q) h7p]at q1;exact ⟨q,⟨q1.symm,q2,q3⟩,⟨rfl,rfl,rfl,rfl,rfl,HJ⟩,⟨rfl,HJ⟩⟩
    ·refine .intro rfl ?_;rw[sDn_a (by omega)]at q1;exact ⟨q,⟨q1.symm,q2,q3⟩,⟨rfl,rfl,rfl,rfl,rfl,HJ⟩,⟨rfl,HJ⟩⟩
   ·obtain ⟨s1,s2,s3⟩:=hr;rw[k1,s1]at hpt;refine ah (λh8=>?_) (λh8=>?_)
    ·rw[if_pos (by omega)]at hpt;rw[hpt];refine .intro (by omega) (.intro (by omega) (X1 _ (row_get (d:=e0) (n:=a) rfl (by omega)) ?_));refine .intro (by omega) (.intro (by omega) (X1 _ (row_get (d:=e0) (n:=r) rfl (by omega)) ?_));refine .intro (by omega) (.intro (by omega) (X1 _ (row_get (d:=e0) (n:=r) rfl (by omega)) ?_));refine .intro (by omega) (.intro (by omega) (X1 _ (row_get2 (d:=e0) (y:=e0[a]!) (m:=r) (n:=a) rfl rfl (by omega)) ?_));refine .intro rfl ?_;exact ⟨HJ,SubO.of (l:=[(1000000,.row _ _)]) ⟨aB (row_swp (m:=r) (n:=a) rfl rfl),HJ⟩,r1 rfl,r1 rfl,HJ⟩
    ·rw[if_neg (by omega)]at hpt;rw[hpt];refine .intro (by omega) (.intro (by omega) (X1 _ (row_get (d:=e0) (n:=r) rfl (by omega)) ?_));refine .intro (by omega) (.intro (by omega) (X1 _ (row_get (d:=e0) (n:=k) rfl (by omega)) ?_));refine .intro (by omega) (.intro (by omega) (X1 _ (row_get (d:=e0) (n:=k) rfl (by omega)) ?_));refine .intro (by omega) (.intro (by omega) (X1 _ (row_get2 (d:=e0) (y:=e0[r]!) (m:=k) (n:=r) rfl rfl (by omega)) ?_));refine .intro rfl ?_;have hrow2:=row_swp (d:=e0) (i:=(k:Int)) (j:=(r:Int)) (m:=k) (n:=r) rfl rfl;have hs1:(swp e0 k r).size=d.size:=by rw[swp_size]; exact hs0
     generalize swp e0 k r=e1 at *
     generalize hF:partLoop (lt cm) a (k+1) (r-1) e1=F at *
     refine X1 ((k+1:Nat):Int) (wI (by simp) (by omega) (by omega)) ?_;refine X1 ((r-1:Nat):Int) (wI (by omega) (by omega) (by omega)) ?_;refine aw aj aa (G:=Nat × Nat × Array El) (λ(i,j,e)=>partLoop (lt cm) a i j e=F∧e.size=d.size∧1≤i∧j<d.size∧i≤j+2) (λ(i,j,_)=>[(0,.c (.ow 1000000 SZ d.size)),(1,.c (nI .i64 a)),(4,.c (.fn g [])),(12,.c (nI .i64 i)),(13,.c (nI .i64 j))]) (λ(_,_,e)=>[(1000000,.row SZ (row e))]) (λ(i,j,_)=>j+1-i)
      (k+1,r-1,e1) ⟨hF,hs1,by omega,by omega,by omega⟩ ⟨rfl,rfl,rfl,rfl,rfl,HJ⟩ ⟨aB hrow2,HJ⟩ (G2:=Nat × Array El) (λ(j,e)=>F=(j,e)∧j<d.size∧e.size=d.size) (λ(j,_)=>[(0,.c (.ow 1000000 SZ d.size)),(1,.c (nI .i64 a)),(13,.c (nI .i64 j))]) (λ(_,e)=>[(1000000,.row SZ (row e))]) (λ(i,j,e) hi=>?_) (λ(j,e) he=>?_)
     ·obtain ⟨i1,i2,i3,i4,i5⟩:=hi;refine aw aj aa (G:=Nat) (λq=>scanUp (λx=>lt cm x e[a]!) e j q=scanUp (λx=>lt cm x e[a]!) e j i∧i≤q∧(q≤j+1∨q=i)) (λq=>[(0,.c (.ow 1000000 SZ d.size)),(1,.c (nI .i64 a)),(4,.c (.fn g [])),(12,.c (nI .i64 q)),(13,.c (nI .i64 j))]) (λ_=>[(1000000,.row SZ (row e))]) (λq=>j+1-q)
       i ⟨rfl,by omega,by omega⟩ ⟨rfl,rfl,rfl,rfl,rfl,HJ⟩ ⟨rfl,HJ⟩ (G2:=Nat) (λq=>scanUp (λx=>lt cm x e[a]!) e j i=q∧i≤q∧(q≤j+1∨q=i)) (λq=>[(0,.c (.ow 1000000 SZ d.size)),(1,.c (nI .i64 a)),(4,.c (.fn g [])),(12,.c (nI .i64 q)),(13,.c (nI .i64 j))]) (λ_=>[(1000000,.row SZ (row e))]) (λq hq=>?_) (λu hu=>?_)
      ·obtain ⟨q1,q2,q3⟩:=hq;refine ah (λh6=>?_) (λh6=>?_)
       ·refine .intro (by omega) (.intro (by omega) (X1 _ (row_get (d:=e) (n:=q) rfl (by omega)) ?_));refine .intro (by omega) (.intro (by omega) (X1 _ (row_get (d:=e) (n:=a) rfl (by omega)) ?_));refine X1 _ (hc _ _) ?_;refine .intro rfl ?_;refine aP (λh7=>?_) (λh7=>?_)
        ·have h7p:lt cm e[q]! e[a]! = true:=h7;rw[sUp_c (p:=(λx=>lt cm x e[a]!)) (e:=e) (i:=q) (by omega) h7p]at q1;refine X1 ((q+1:Nat):Int) (wI (by simp) (by omega) (by omega)) ?_;exact ⟨q+1,⟨q1,by omega,by omega⟩,by show j+1-(q+1)<j+1-q; omega,⟨rfl,rfl,rfl,rfl,rfl,HJ⟩,⟨rfl,HJ⟩⟩
        ·have h7p:lt cm e[q]! e[a]! = false:=h7;rw[sUp_b (p:=(λx=>lt cm x e[a]!)) (e:=e) (i:=q) h7p]at q1;exact ⟨q,⟨q1.symm,q2,q3⟩,⟨rfl,rfl,rfl,rfl,rfl,HJ⟩,⟨rfl,HJ⟩⟩
       ·refine .intro rfl ?_;rw[sUp_a (by omega)]at q1;exact ⟨q,⟨q1.symm,q2,q3⟩,⟨rfl,rfl,rfl,rfl,rfl,HJ⟩,⟨rfl,HJ⟩⟩
      ·obtain ⟨u1,u2,u3⟩:=hu;refine aw aj aa (G:=Nat) (λq=>scanDown (λx=>!lt cm x e[a]!) e u q=scanDown (λx=>!lt cm x e[a]!) e u j∧q≤j∧(u≤q+1∨q=j)) (λq=>[(0,.c (.ow 1000000 SZ d.size)),(1,.c (nI .i64 a)),(4,.c (.fn g [])),(12,.c (nI .i64 u)),(13,.c (nI .i64 q))]) (λ_=>[(1000000,.row SZ (row e))]) (λq=>q)
        j ⟨rfl,by omega,by omega⟩ ⟨rfl,rfl,rfl,rfl,rfl,HJ⟩ ⟨rfl,HJ⟩ (G2:=Nat) (λq=>scanDown (λx=>!lt cm x e[a]!) e u j=q∧q≤j∧(u≤q+1∨q=j)) (λq=>[(0,.c (.ow 1000000 SZ d.size)),(1,.c (nI .i64 a)),(4,.c (.fn g [])),(12,.c (nI .i64 u)),(13,.c (nI .i64 q))]) (λ_=>[(1000000,.row SZ (row e))]) (λq hq=>?_) (λv hv=>?_)
       ·obtain ⟨q1,q2,q3⟩:=hq;refine ah (λh6=>?_) (λh6=>?_)
        ·refine .intro (by omega) (.intro (by omega) (X1 _ (row_get (d:=e) (n:=q) rfl (by omega)) ?_));refine .intro (by omega) (.intro (by omega) (X1 _ (row_get (d:=e) (n:=a) rfl (by omega)) ?_));refine X1 _ (hc _ _) ?_;refine .intro rfl ?_;refine aP (λh7=>?_) (λh7=>?_)
         ·have h7p:(!lt cm e[q]! e[a]!)=true:=h7;rw[sDn_c (p:=(λx=>!lt cm x e[a]!)) (e:=e) (j:=q) (by omega) (by omega) h7p]at q1;refine X1 ((q-1:Nat):Int) (wI (by omega) (by omega) (by omega)) ?_;exact ⟨q-1,⟨q1,by omega,by omega⟩,by show q-1<q; omega,⟨rfl,rfl,rfl,rfl,rfl,HJ⟩,⟨rfl,HJ⟩⟩
         ·have h7p:(!lt cm e[q]! e[a]!)=false:=h7;rw[sDn_b (p:=(λx=>!lt cm x e[a]!)) (e:=e) (j:=q) h7p]at q1;exact ⟨q,⟨q1.symm,q2,q3⟩,⟨rfl,rfl,rfl,rfl,rfl,HJ⟩,⟨rfl,HJ⟩⟩
        ·refine .intro rfl ?_;rw[sDn_a (by omega)]at q1;exact ⟨q,⟨q1.symm,q2,q3⟩,⟨rfl,rfl,rfl,rfl,rfl,HJ⟩,⟨rfl,HJ⟩⟩
       ·obtain ⟨v1,v2,v3⟩:=hv;rw[pL u1 v1]at i1;refine ah (λh8=>?_) (λh8=>?_)
        ·rw[if_pos (by omega)]at i1;exact ⟨(v,e),⟨i1.symm,by omega,i2⟩,⟨rfl,rfl,rfl,HJ⟩,⟨rfl,HJ⟩⟩
        ·rw[if_neg (by omega),dif_pos (by omega)]at i1;refine .intro (by omega) (.intro (by omega) (X1 _ (row_get (d:=e) (n:=v) rfl (by omega)) ?_));refine .intro (by omega) (.intro (by omega) (X1 _ (row_get (d:=e) (n:=u) rfl (by omega)) ?_));refine .intro (by omega) (.intro (by omega) (X1 _ (row_get (d:=e) (n:=u) rfl (by omega)) ?_));refine .intro (by omega) (.intro (by omega) (X1 _ (row_get2 (d:=e) (y:=e[v]!) (m:=u) (n:=v) rfl rfl (by omega)) ?_));refine .intro rfl ?_;refine X1 ((u+1:Nat):Int) (wI (by simp) (by omega) (by omega)) ?_;refine X1 ((v-1:Nat):Int) (wI (by omega) (by omega) (by omega)) ?_;exact ⟨(u+1,v-1,swp e u v),⟨i1,by rw[swp_size]; exact i2,by omega,by omega,by omega⟩,by show v-1+1-(u+1)<j+1-i; omega,⟨rfl,rfl,rfl,rfl,rfl,HJ⟩,⟨aB (row_swp (m:=u) (n:=v) rfl rfl),HJ⟩⟩
     ·obtain ⟨g1,g2,g3⟩:=he;rw[g1];refine .intro (by omega) (.intro (by omega) (X1 _ (row_get (d:=e) (n:=a) rfl (by omega)) ?_));refine .intro (by omega) (.intro (by omega) (X1 _ (row_get (d:=e) (n:=j) rfl (by omega)) ?_));refine .intro (by omega) (.intro (by omega) (X1 _ (row_get (d:=e) (n:=j) rfl (by omega)) ?_));refine .intro (by omega) (.intro (by omega) (X1 _ (row_get2 (d:=e) (y:=e[a]!) (m:=j) (n:=a) rfl rfl (by omega)) ?_));refine .intro rfl ?_;exact ⟨HJ,SubO.of (l:=[(1000000,.row _ _)]) ⟨aB (row_swp (m:=j) (n:=a) rfl rfl),HJ⟩,r1 rfl,r1 rfl,HJ⟩
 exact key _ rfl
end Go.Proofs.YtgceikecdedfcaaGreat.Pv.SrtC
namespace Go.Proofs.YtgceikecdedfcaaGreat.Pv.SrtC
open Go Go.Sort
section
variable {cm:El→El→Int} {a b lim:Nat} {wb wp:Bool} {d:Array El}
theorem pdq_s (h:b-a≤12):pdq (lt cm) d a b lim wb wp=insertionSort (lt cm) d a b:=by rw[pdq,if_pos h]
theorem pdq_h (h:¬ b-a≤12) (h0:lim=0):pdq (lt cm) d a b lim wb wp=heapSort (lt cm) d a b:=by rw[pdq,if_neg h,if_pos h0]
theorem pdq_r (h:¬ b-a≤12) (h0:¬ lim=0) {d1 d2 d3:Array El} {lim1 pv:Nat} {hint:Hint} {done:Bool} (hd1:(if (!wb)=true then breakPatterns d a b else d)=d1) (hl1:(if (!wb)=true then lim-1 else lim)=lim1) (hd2:(if (choosePivot (lt cm) d1 a b).2 = .decreasing then reverseRange d1 a b else d1)=d2)
  (hpv:(if (choosePivot (lt cm) d1 a b).2 = .decreasing then (b-1)-((choosePivot (lt cm) d1 a b).1-a) else (choosePivot (lt cm) d1 a b).1)=pv) (hh:(if (choosePivot (lt cm) d1 a b).2 = .decreasing then Hint.increasing else (choosePivot (lt cm) d1 a b).2)=hint)
  (hp:(if (wb&&wp&&decide (hint = .increasing))=true then partialInsertionSort (lt cm) d2 a b else (d2,false))=(d3,done)) :
  pdq (lt cm) d a b lim wb wp=if done=true then d3 else
   if (decide (a>0) && !(lt cm) d3[a-1]! d3[pv]!)=true then (match partitionEqual (lt cm) d3 a b pv with
    | (mid,d4)=>if _h:a<mid∧mid≤b then pdq (lt cm) d4 mid b lim1 wb wp else d4)
   else match partition (lt cm) d3 a b pv with
    | (mid,ap,d4)=>if _h:a≤mid∧mid<b then
      if mid-a<b-mid then pdq (lt cm) (pdq (lt cm) d4 a mid lim1 true true) (mid+1) b lim1 (decide (mid-a≥(b-a)/8)) ap
      else pdq (lt cm) (pdq (lt cm) d4 (mid+1) b lim1 true true) a mid lim1 (decide (b-mid≥(b-a)/8)) ap
     else d4:=by
 subst hd1 hl1 hd2 hpv hh;rw[pdq,if_neg h,if_neg h0];have e1:=congrArg Prod.fst hp;have e2:=congrArg Prod.snd hp;simp only[]at e1 e2;simp only[e1,e2]
end
theorem quo8 {x:Int} {n:Nat} (h:x=n):x.tdiv 8=((n/8:Nat):Int):=by
 subst h; rw[Fx (by omega)]; omega
variable (g:FuncId) (cm:El→El→Int)
variable (hc:∀ x y,Ct P g [VL x,VL y] [.c (eI .i64 (cm x y))]) (hw:SWO (lt cm))
structure Prt (d:Array El) (n a b:Nat):Prop where
 sz:d.size=n
 ab:a≤b
 bn:b≤n
 bel:Below (lt cm) a b d
include hc hw
theorem pdq_ct:∀ (n:Nat) (d:Array El) (a b lim:Nat),b-a≤n→Prt cm d d.size a b→d.size≤1000000→lim≤1000 →
  CtO P 188 [dO d] [dA d,.c (nI .i64 a),.c (nI .i64 b),.c (nI .i64 lim),.c (.fn g [])] [dO (pdq (lt cm) d a b lim true true)] []:=by
 intro n
 induction n using Nat.strongRecOn with
 | _ n ih=>
 intro d0 a0 b0 lim0 hn hprt hsz hlim0;generalize hF:pdq (lt cm) d0 a0 b0 lim0 true true=F;have self:∀ (d:Array El) (a b lim:Nat),b-a<n→Prt cm d d0.size a b→lim≤1000→CtO P 188 [dO d] [.c (.ow 1000000 SZ d0.size),.c (nI .i64 a),.c (nI .i64 b),.c (nI .i64 lim),.c (.fn g [])] [dO (pdq (lt cm) d a b lim true true)] []:=by
  intro d a b lim h1 h2 h3;have:=ih (b-a) h1 d a b lim (EE _) (by rw[h2.sz]; exact h2) (by rw[h2.sz]; exact hsz) h3;rwa [dA,h2.sz]at this
 refine Ct.io aj aa (N:=148) Tryz.func188 rfl rfl rfl rfl ?_;refine yV (G:=Nat × Nat × Nat × Bool × Bool × Array El) (λ(a,b,lim,wb,wp,d)=>pdq (lt cm) d a b lim wb wp=F∧Prt cm d d0.size a b∧lim≤1000∧b-a≤n) (λ(a,b,lim,wb,wp,_)=>[(0,.c (.ow 1000000 SZ d0.size)),(1,.c (nI .i64 a)),(2,.c (nI .i64 b)),(3,.c (nI .i64 lim)),(4,.c (.fn g [])),(10,.c (.sc (.bool wb))),(11,.c (.sc (.bool wp)))]) (λ(_,_,_,_,_,d)=>[(1000000,.row SZ (row d))]) (λ(a,b,_,_,_,_)=>b-a)
  (a0,b0,lim0,true,true,d0) ⟨hF,hprt,hlim0,hn⟩ ⟨rfl,rfl,rfl,rfl,rfl,rfl,rfl,HJ⟩ ⟨rfl,HJ⟩ (λ(a,b,lim,wb,wp,d) hi=>?_)
 obtain ⟨i1,i2,i3,i4⟩:=hi;have hds:=i2.sz;have hab:=i2.ab;have hbs:=i2.bn;refine jw ?_;refine ej aj aa ?_;refine X1 ((b-a:Nat):Int) (wI (by omega) (by omega) (by omega)) ?_;refine ej aj aa ?_;refine ah (λh12=>?_) (λh12=>?_)
 ·rw[pdq_s (by omega)]at i1;have hs:=ins_ct g cm hc d a b hab (by omega) (by omega);rw[dA,hds,i1]at hs;refine X2 (.upd 1000000) ?_;refine ⟨_,_,hs,?_⟩;exact ⟨HJ,SubO.of (l:=[(1000000,.row _ _)]) ⟨rfl,HJ⟩,HJ⟩
 refine ej aj aa ?_;refine aU (λhl0=>?_) (λhl0=>?_)
 ·rw[pdq_h (by omega) (by omega)]at i1;have hs:=heap_ct g cm hc d a b (by omega) (by omega) (by omega);rw[dA,hds,i1]at hs;refine X2 (.upd 1000000) ?_;refine ⟨_,_,hs,?_⟩;exact ⟨HJ,SubO.of (l:=[(1000000,.row _ _)]) ⟨rfl,HJ⟩,HJ⟩
 have hstep:=@pdq_r cm a b lim wb wp d (by omega) (by omega);refine mq aj aa (G2:=Nat × Array El) (λ(l1,d1)=>(if (!wb)=true then breakPatterns d a b else d)=d1∧(if (!wb)=true then lim-1 else lim)=l1∧Prt cm d1 d0.size a b∧l1≤1000)
  (λ(l1,_)=>[(0,.c (.ow 1000000 SZ d0.size)),(1,.c (nI .i64 a)),(2,.c (nI .i64 b)),(3,.c (nI .i64 l1)),(4,.c (.fn g [])),(10,.c (.sc (.bool wb))),(11,.c (.sc (.bool wp))),(12,.c (nI .i64 (b-a)))]) (λ(_,d1)=>[(1000000,.row SZ (row d1))]) ?_ (λ(l1,d1) h1=>?_)
 ·refine aP (λhb1=>?_) (λhb1=>?_)
  ·have hp:=breakPatterns_holds d a b hab (by omega);have hs:=break_ct g d a b (by omega) (by omega) (by omega);rw[dA,hds]at hs;refine X2 (.upd 1000000) ?_;refine ⟨_,_,hs,?_⟩;refine X1 ((lim-1:Nat):Int) (wI (by omega) (by omega) (by omega)) ?_;exact ⟨(lim-1,breakPatterns d a b),⟨if_pos hb1,if_pos hb1,⟨by rw[hp.1]; exact hds,hab,hbs,i2.bel.perm (by omega) hp⟩,by omega⟩,⟨rfl,rfl,rfl,rfl,rfl,rfl,rfl,rfl,HJ⟩,⟨rfl,HJ⟩⟩
  ·exact ⟨(lim,d),⟨if_neg (by rw[hb1]; simp),if_neg (by rw[hb1]; simp),i2,i3⟩,⟨rfl,rfl,rfl,rfl,rfl,rfl,rfl,rfl,HJ⟩,⟨rfl,HJ⟩⟩
 obtain ⟨e1,e2,p1,l1b⟩:=h1;have hd1s:=p1.sz;refine ej aj aa ?_;have hcp:=choosePivot_holds (lt cm) d1 a b (by omega);have hs:=choose_ct g cm hc d1 a b (by omega) (by omega) (by omega);rw[dA,hd1s]at hs;refine X2 (.upd 1000000) ?_;refine ⟨_,_,hs,?_⟩;have hstep2:=λ(d2 d3:Array El) (pv:Nat) (hint:Hint) (done:Bool)=>@hstep d1 d2 d3 l1 pv hint done e1 e2
 generalize choosePivot (lt cm) d1 a b=cp at *
 obtain ⟨pv0,hint0⟩:=cp;refine mq aj aa (G2:=Nat × Hint × Array El) (λ(pv,hint,d2)=>(if hint0 = .decreasing then reverseRange d1 a b else d1)=d2∧(if hint0 = .decreasing then (b-1)-(pv0-a) else pv0)=pv∧(if hint0 = .decreasing then Hint.increasing else hint0)=hint∧Prt cm d2 d0.size a b∧a≤pv∧pv<b)
  (λ(pv,hint,_)=>[(0,.c (.ow 1000000 SZ d0.size)),(1,.c (nI .i64 a)),(2,.c (nI .i64 b)),(3,.c (nI .i64 l1)),(4,.c (.fn g [])),(10,.c (.sc (.bool wb))),(11,.c (.sc (.bool wp))),(12,.c (nI .i64 (b-a))),(13,.c (nI .i64 pv)),(14,.c (eI .i64 (hV hint)))]) (λ(_,_,d2)=>[(1000000,.row SZ (row d2))]) ?_ (λ(pv,hint,d2) h2=>?_)
 ·refine aU (λhh=>?_) (λhh=>?_)
  ·have hdec:hint0 = .decreasing:=by cases hint0<;>first | rfl | (exfalso; simp only[hV]at hh; omega)
   have hp:=reverseRange_holds d1 a b hab (by omega);have hs:=reverse_ct g d1 a b (by omega) (by omega) (by omega);rw[dA,hd1s]at hs;refine X2 (.upd 1000000) ?_;refine ⟨_,_,hs,?_⟩;simp only at hcp;refine X1 ((b-1:Nat):Int) (wI (by omega) (by omega) (by omega)) ?_;refine X1 ((pv0-a:Nat):Int) (wI (by omega) (by omega) (by omega)) ?_;refine X1 ((b-1-(pv0-a):Nat):Int) (wI (by omega) (by omega) (by omega)) ?_;exact ⟨(b-1-(pv0-a),.increasing,reverseRange d1 a b),⟨if_pos hdec,if_pos hdec,if_pos hdec,⟨by rw[hp.1]; exact hd1s,hab,hbs,p1.bel.perm (by omega) hp⟩,by omega,by omega⟩,⟨rfl,rfl,rfl,rfl,rfl,rfl,rfl,rfl,rfl,rfl,HJ⟩,⟨rfl,HJ⟩⟩
  ·have hdec:¬ hint0 = .decreasing:=λh=>by subst h; exact hh rfl
   simp only at hcp;exact ⟨(pv0,hint0,d1),⟨if_neg hdec,if_neg hdec,if_neg hdec,p1,hcp.1,hcp.2⟩,⟨rfl,rfl,rfl,rfl,rfl,rfl,rfl,rfl,rfl,rfl,HJ⟩,⟨rfl,HJ⟩⟩
 obtain ⟨e3,e4,e5,p2,pva,pvb⟩:=h2;have hd2s:=p2.sz;have hstep3:=λ(d3:Array El) (done:Bool)=>hstep2 d2 d3 pv hint done e3 e4 e5
 refine mq aj aa (G2:=Array El) (λd3=>(if (wb&&wp&&decide (hint = .increasing))=true then partialInsertionSort (lt cm) d2 a b else (d2,false))=(d3,false)∧Prt cm d3 d0.size a b)
  (λ_=>[(0,.c (.ow 1000000 SZ d0.size)),(1,.c (nI .i64 a)),(2,.c (nI .i64 b)),(3,.c (nI .i64 l1)),(4,.c (.fn g [])),(10,.c (.sc (.bool wb))),(11,.c (.sc (.bool wp))),(12,.c (nI .i64 (b-a))),(13,.c (nI .i64 pv))]) (λd3=>[(1000000,.row SZ (row d3))]) ?_ (λd3 h3=>?_)
 ·have no:(wb&&wp&&decide (hint = .increasing))=false→∃ g2,((if (wb&&wp&&decide (hint = .increasing))=true then partialInsertionSort (lt cm) d2 a b else (d2,false))=(g2,false)∧Prt cm g2 d0.size a b)∧g2=d2:=λh=>⟨d2,⟨if_neg (by rw[h]; simp),p2⟩,rfl⟩
  refine aP (λhwb=>?_) (λhwb=>?_)
  ·subst hwb;refine aP (λhwp=>?_) (λhwp=>?_)
   ·subst hwp;refine aU (λhh=>?_) (λhh=>?_)
    ·have hinc:hint = .increasing:=by cases hint<;>first | rfl | (exfalso; simp only[hV]at hh; omega)
     have hp:=(partialInsertionSort_holds (lt:=lt cm) hw d2 a b (by omega) (by omega) p2.bel).1;have hs:=pIns_ct g cm hc d2 a b (by omega) (by omega) (by omega);have hcond:(true&&true&&decide (hint = .increasing))=true:=by rw[hinc]; rfl
     rw[if_pos hcond]at hstep3 ⊢;rw[dA,hd2s]at hs;refine X2 (.upd 1000000) ?_;refine ⟨_,_,hs,?_⟩;generalize hpi:partialInsertionSort (lt cm) d2 a b=pi at *
     obtain ⟨d3,done⟩:=pi;refine aP (λhdn=>?_) (λhdn=>?_)
     ·have hdn':done=true:=hdn;have:=hstep3 d3 done rfl;rw[if_pos hdn',i1]at this;rw[this];exact ⟨HJ,SubO.of (l:=[(1000000,.row _ _)]) ⟨rfl,HJ⟩,HJ⟩
     ·have hdn':done=false:=hdn;subst hdn';exact ⟨d3,⟨rfl,⟨by rw[hp.1]; exact hd2s,hab,hbs,p2.bel.perm (by omega) hp⟩⟩,⟨rfl,rfl,rfl,rfl,rfl,rfl,rfl,rfl,rfl,HJ⟩,⟨rfl,HJ⟩⟩
    ·have hinc:¬ hint = .increasing:=λh=>by subst h; exact hh rfl
     obtain ⟨d3,h1,h2⟩:=no (by simp[hinc]);subst h2;exact ⟨d3,h1,⟨rfl,rfl,rfl,rfl,rfl,rfl,rfl,rfl,rfl,HJ⟩,⟨rfl,HJ⟩⟩
   ·subst hwp;obtain ⟨d3,h1,h2⟩:=no rfl;subst h2;exact ⟨d3,h1,⟨rfl,rfl,rfl,rfl,rfl,rfl,rfl,rfl,rfl,HJ⟩,⟨rfl,HJ⟩⟩
  ·subst hwb;obtain ⟨d3,h1,h2⟩:=no rfl;subst h2;exact ⟨d3,h1,⟨rfl,rfl,rfl,rfl,rfl,rfl,rfl,rfl,rfl,HJ⟩,⟨rfl,HJ⟩⟩
 obtain ⟨e6,p3⟩:=h3;have hd3s:=p3.sz;have hst:=hstep3 d3 false e6;rw[if_neg (by simp),i1]at hst;clear hstep3 hstep2 hstep e6;refine mq aj aa (G2:=Unit) (λ_=>(decide (a>0) && !(lt cm) d3[a-1]! d3[pv]!)=false)
  (λ_=>[(0,.c (.ow 1000000 SZ d0.size)),(1,.c (nI .i64 a)),(2,.c (nI .i64 b)),(3,.c (nI .i64 l1)),(4,.c (.fn g [])),(12,.c (nI .i64 (b-a))),(13,.c (nI .i64 pv))]) (λ_=>[(1000000,.row SZ (row d3))]) ?_ (λ_ h4=>?_)
 ·refine ah (λha=>?_) (λha=>?_)
  ·refine X1 ((a-1:Nat):Int) (wI (by omega) (by omega) (by omega)) ?_;refine .intro (by omega) (.intro (by omega) (X1 _ (row_get (d:=d3) (n:=a-1) rfl (by omega)) ?_));refine .intro (by omega) (.intro (by omega) (X1 _ (row_get (d:=d3) (n:=pv) rfl (by omega)) ?_));refine X1 _ (hc _ _) ?_;refine .intro rfl ?_;refine aP (λhq=>?_) (λhq=>?_)
   ·have hnl:lt cm d3[a-1]! d3[pv]! = false:=by simpa [lt] using hq
    rw[if_pos (by rw[hnl]; simp; omega)]at hst;have hs:=pEq_ct cm g hc d3 a b pv (by omega) (by omega) (by omega) (by omega);rw[dA,hd3s]at hs;generalize hx:partitionEqual (lt cm) d3 a b pv=px at *
    obtain ⟨mid,d4⟩:=px;obtain ⟨r1',r2',r3',r4',_⟩:=round_eq hw (partitionEqual_holds (lt cm)) (by omega) pva pvb (by omega) p3.bel hnl hx;refine X2 (.upd 1000000) ?_;refine ⟨_,_,hs,?_⟩;simp only at hst;rw[dif_pos ⟨r1',r2'⟩]at hst;exact ⟨(mid,b,l1,wb,wp,d4),⟨hst.symm,⟨by rw[r3']; exact hd3s,r2',hbs,r4'⟩,l1b,by omega⟩,by show b-mid<b-a; omega,⟨rfl,rfl,rfl,rfl,rfl,rfl,rfl,HJ⟩,⟨rfl,HJ⟩⟩
   ·have hnl:lt cm d3[a-1]! d3[pv]! = true:=by simpa [lt] using hq
    exact ⟨(),by rw[hnl]; simp,⟨rfl,rfl,rfl,rfl,rfl,rfl,rfl,HJ⟩,⟨rfl,HJ⟩⟩
  ·refine .intro rfl ?_;exact ⟨(),by rw[decide_eq_false (by omega)]; rfl,⟨rfl,rfl,rfl,rfl,rfl,rfl,rfl,HJ⟩,⟨rfl,HJ⟩⟩
 rw[if_neg (by rw[h4]; simp)]at hst;have hs:=part_ct cm g hc d3 a b pv (by omega) (by omega) (by omega) (by omega);rw[dA,hd3s]at hs;generalize hx:partition (lt cm) d3 a b pv=px at *
 obtain ⟨mid,ap,d4⟩:=px;obtain ⟨m1,m2,m3,m4,m5,m6,m7⟩:=round_part hw (partition_holds (lt cm)) pva pvb (by omega) p3.bel hx;simp only at hst;rw[dif_pos ⟨m1,m2⟩]at hst;have hd4s:d4.size=d0.size:=by rw[m3]; exact hd3s
 refine nD aj aa ?_;refine X2 (.upd 1000000) ?_;refine ⟨_,_,hs,?_⟩;refine X1 ((mid-a:Nat):Int) (wI (by omega) (by omega) (by omega)) ?_;refine X1 ((b-mid:Nat):Int) (wI (by omega) (by omega) (by omega)) ?_;refine .intro (by omega) (X1 _ (quo8 rfl) (.intro ⟨by omega,by omega⟩ ?_));refine ah (λhlt=>?_) (λhlt=>?_)
 ·rw[if_pos (by omega)]at hst;have hL:=pdq_sorts (lt cm) hw d4 a mid l1 true true m1 (by omega) m4;have hs:=self d4 a mid l1 (by omega) ⟨hd4s,m1,by omega,m4⟩ l1b;refine X2 (.upd 1000000) ?_;refine ⟨_,_,hs,?_⟩;refine X1 ((mid+1:Nat):Int) (wI (by simp) (by omega) (by omega)) ?_;exact ⟨(mid+1,b,l1,decide (mid-a≥(b-a)/8),ap,pdq (lt cm) d4 a mid l1 true true),⟨hst.symm,⟨by rw[hL.1.1]; exact hd4s,by omega,hbs,(m6 _ hL.1 hL.2).1⟩,l1b,by omega⟩,by show b-(mid+1)<b-a; omega,⟨rfl,rfl,rfl,rfl,rfl,blC (by rw[decide_eq_decide]; omega),rfl,HJ⟩,⟨rfl,HJ⟩⟩
 ·rw[if_neg (by omega)]at hst;have hL:=pdq_sorts (lt cm) hw d4 (mid+1) b l1 true true (by omega) (by omega) m5;have hs:=self d4 (mid+1) b l1 (by omega) ⟨hd4s,by omega,hbs,m5⟩ l1b;refine X1 ((mid+1:Nat):Int) (wI (by simp) (by omega) (by omega)) ?_;refine X2 (.upd 1000000) ?_;refine ⟨_,_,hs,?_⟩;exact ⟨(a,mid,l1,decide (b-mid≥(b-a)/8),ap,pdq (lt cm) d4 (mid+1) b l1 true true),⟨hst.symm,⟨by rw[hL.1.1]; exact hd4s,m1,by omega,(m7 _ hL.1 hL.2).1⟩,l1b,by omega⟩,by show mid-a<b-a; omega,⟨rfl,rfl,rfl,rfl,rfl,blC (by rw[decide_eq_decide]; omega),rfl,HJ⟩,⟨rfl,HJ⟩⟩
theorem sortF_ct (d:Array El) (hd:d.size≤1000000):CtO P 171 [dO d] [dA d,.c (.fn g [])] [dO (Sort.sort (lt cm) d)] []:=by
 have hb:=fB hd;have hp:=pdq_ct g cm hc hw d.size d 0 d.size (bitsLen d.size) (by omega) ⟨rfl,by omega,by omega,.inl rfl⟩ hd (by omega);refine Ct.io aj aa (N:=14) Tryz.func171 rfl rfl rfl rfl ?_;refine .intro (by omega) ?_;refine X1 ((d.size:Nat):Int) (wU rfl (by omega) (by omega)) ?_;refine X1 _ (t9 d.size (by omega)) ?_;refine X2 (.upd 1000000) ?_;refine ⟨_,_,hp,?_⟩;exact ⟨HJ,SubO.of (l:=[(1000000,.row _ _)]) ⟨rfl,HJ⟩,HJ⟩
theorem sort_spec (d:Array El):(Sort.sort (lt cm) d).toList.Perm d.toList∧SortedIn (lt cm) 0 d.size (Sort.sort (lt cm) d):=by
 have _hc:=hc;obtain ⟨h1,h2⟩:=sort_sorts (lt cm) hw d;refine ⟨?_,h2⟩;have:=h1.2.2;have e:(Sort.sort (lt cm) d).extract 0 d.size=Sort.sort (lt cm) d:=by
  rw[show d.size=(Sort.sort (lt cm) d).size from h1.1.symm]; simp
 rw[e]at this;simpa using this
end Go.Proofs.YtgceikecdedfcaaGreat.Pv.SrtC
namespace Go.Proofs.YtgceikecdedfcaaGreat.Pv
open Go
theorem sf {l:List Int} {j:Nat} (h:j<l.length):l.getD (l.length-1-j) 0=l.reverse.getD j 0:=by
 rw[EB,EB,List.getElem?_reverse h]
theorem sg (l m:List Int) (hl:l.length≤1000000) (hm:m.length≤1000000):Ct P 169 [.c (iSl l),.c (iSl m)] [.c (eI .i64 (aH l.reverse m.reverse))]:=by
 have hmn:(if (m.length:Int)<(l.length:Int) then (m.length:Int) else (l.length:Int))=((min l.length m.length:Nat):Int):=by
  split<;>omega
 refine Ct.go aj aa (N:=39) Tryz.func169 rfl rfl rfl rfl ?_;refine aw aj aa (λj:Nat=>j≤l.length∧j≤m.length∧aH l.reverse m.reverse=aH (l.reverse.drop j) (m.reverse.drop j)) (λj=>[(0,.c (iSl l)),(1,.c (iSl m)),(5,.c (nI .i64 (j+1:Nat)))]) (λ_=>[]) (λj=>l.length-j)
  0 ⟨by omega,by omega,rfl⟩ ⟨rfl,rfl,rfl,HJ⟩ HJ (λ_:Unit=>aH l.reverse m.reverse=bF l.length m.length) (λ_=>[(0,.c (iSl l)),(1,.c (iSl m))]) (λ_=>[]) (λj hi=>?_) (λ_ he=>?_)
 ·obtain ⟨h1,h2,h3⟩:=hi;refine .intro (by rw[ac]; omega) ?_;refine .intro (by rw[ac]; omega) ?_;rw[ac,ac];refine ah (λh5=>?_) (λh5=>?_)
  ·rw[hmn]at h5;have g1:=sf (l:=l) (j:=j) (by omega);have g2:=sf (l:=m) (j:=j) (by omega);have hd:=h3;rw[fk (l:=l.reverse) (i:=j) (by rw[Gj]; omega),fk (l:=m.reverse) (i:=j) (by rw[Gj]; omega),aH,←g1,←g2]at hd;refine .intro (by rw[ac]; omega) ?_;rw[ac];refine X1 ((l.length-1-j:Nat):Int) (wI (by omega) (by omega) (by omega)) ?_;refine .intro (by omega) (X1 _ (bl rfl (by omega)) ?_);refine .intro (by rw[ac]; omega) ?_;rw[ac];refine X1 ((m.length-1-j:Nat):Int) (wI (by omega) (by omega) (by omega)) ?_;refine .intro (by omega) (X1 _ (bl rfl (by omega)) ?_);refine X1 _ (mB _ _) ?_;refine .intro rfl ?_;refine dq (λh7=>?_) (λh7=>?_)
   ·rw[if_pos h7]at hd;exact ⟨HJ,r1 (iE hd.symm),HJ⟩
   ·rw[if_neg (λh=>h h7)]at hd;refine X1 ((j+1+1:Nat):Int) (wI (by simp) (by omega) (by omega)) ?_;exact ⟨j+1,⟨by omega,by omega,hd⟩,by omega,⟨rfl,rfl,rfl,HJ⟩,HJ⟩
  ·rw[hmn]at h5;have he:=nH (l:=l.reverse) (m:=m.reverse) (i:=j) (by rw[Gj]; omega) (by rw[Gj]; omega) (by rw[Gj,Gj]; omega) h3;rw[Gj,Gj]at he;refine ⟨(),?_,⟨rfl,rfl,HJ⟩,HJ⟩;rw[he,bF];split<;>split<;>(try split)<;>omega
 ·rw[he];refine .intro (by rw[ac]; omega) ?_;refine .intro (by rw[ac]; omega) ?_;rw[ac,ac];refine X1 _ (mB _ _) ?_;exact ⟨HJ,r1 rfl,HJ⟩
end Go.Proofs.YtgceikecdedfcaaGreat.Pv
namespace Go.Proofs.YtgceikecdedfcaaGreat.Pv
open Go Go.Sort
theorem pj (x:Int):bF x x=0:=by unfold bF; rw[if_neg (by omega),if_neg (by omega)]
theorem ua {x y:Int} (h:bF x y=0):x=y:=by unfold bF at h; split at h<;>(try split at h)<;>omega
theorem cmpI_lt {x y:Int}:bF x y<0↔x<y:=by unfold bF; split<;>(try split)<;>omega
theorem yW (x y:Int):bF y x = - bF x y:=by unfold bF; split<;>split<;>omega
theorem dW:∀ l:List Int,aH l l=0
 | []=>rfl
 | x::l=>by rw[aH,pj,if_neg (by simp)]; exact dW l
theorem lw:∀ {l m:List Int},aH l m=0→l=m
 | [],[],_=>rfl
 | [],_::_,h=>by simp[aH]at h
 | _::_,[],h=>by simp[aH]at h
 | x::l,y::m,h=>by
  rw[aH]at h;split at h
  ·contradiction
  ·rename_i h0;have e:=ua (x:=x) (y:=y) (by simpa using h0);rw[e,lw h]
theorem eR:∀ l m:List Int,aH m l = - aH l m
 | [],[]=>rfl
 | [],_::_=>rfl
 | _::_,[]=>rfl
 | x::l,y::m=>by
  rw[aH,aH,yW x y,eR l m];by_cases h:bF x y=0
  ·rw[h]; simp
  ·rw[if_pos (by omega),if_pos h]
theorem df:∀ {a b c:List Int},aH a b<0→aH b c<0→aH a c<0
 | [],[],_,h,_=>by simp[aH]at h
 | [],_::_,[],_,h=>by simp[aH]at h
 | [],_::_,_::_,_,_=>by simp[aH]
 | _::_,[],_,h,_=>by simp[aH]at h
 | _::_,_::_,[],_,h=>by simp[aH]at h
 | x::a,y::b,z::c,h1,h2=>by
  rw[aH]at h1 h2 ⊢;by_cases e1:bF x y=0
  ·have:=ua e1;subst this;rw[if_neg (by omega)]at h1;by_cases e2:bF x z=0
   ·rw[if_neg (by omega)]at h2 ⊢;exact df h1 h2
   ·rw[if_pos e2]at h2 ⊢;exact h2
  ·rw[if_pos e1]at h1;by_cases e2:bF y z=0
   ·have:=ua e2;subst this;rw[if_pos e1];exact h1
   ·rw[if_pos e2]at h2;have h3:=cmpI_lt.1 h1;have h4:=cmpI_lt.1 h2;have h5:bF x z<0:=cmpI_lt.2 (by omega);rw[if_pos (by omega)];exact h5
theorem swo_of {α:Type} (f:α→List Int):SWO (λx y:α=>decide (aH (f x) (f y)<0)) where
 irrefl x:=by simp[dW]
 trans x y z h1 h2:=by
  simp only[decide_eq_true_eq]at h1 h2 ⊢;exact df h1 h2
 ntrans x y z h1 h2:=by
  simp only[decide_eq_false_iff_not]at h1 h2 ⊢;intro h;by_cases e1:aH (f x) (f y)=0
  ·rw[lw e1]at h; exact h2 h
  ·have h3:aH (f y) (f x)<0:=by rw[eR (f x) (f y)]; omega
   exact h2 (df h3 h)
theorem iR (l:List Int) (hl:l.length≤1000000):Ct P 46 [.c (iSl l)] [.c (iSl l)]:=by
 refine Ct.go aj aa (N:=8) Tryz.func46 rfl rfl rfl rfl ?_;intro b hb
 cases b with
 | true=>
  have:l=[]:=Fa.1 (by have:=hb rfl; rwa [ac]at this);subst this;exact ⟨HJ,⟨_,rfl,.inr ⟨rfl,1,rfl⟩⟩,HJ⟩
 | false=>
  refine ⟨rfl,by rw[ac]; show (0+l.length+768)*8≤_; omega,by rw[ac]; show 0+l.length≤_; omega,bM,aV,?_⟩;exact ⟨HJ,r1 rfl,HJ⟩
theorem ky (x y:SrtI.El):Ct P 168 [SrtI.VL x,SrtI.VL y] [.c (eI .i64 (aH x.1.reverse y.1.reverse))]:=by
 refine Ct.go aj aa (N:=8) Tryz.func168 rfl rfl rfl rfl ?_;refine X1 _ (sg x.1 y.1 x.2 y.2) ?_;exact ⟨HJ,r1 rfl,HJ⟩
theorem kz (x y:SrtC.El):Ct P 172 [SrtC.VL x,SrtC.VL y] [.c (eI .i64 (aH x.1.1 y.1.1))]:=by
 refine Ct.go aj aa (N:=10) Tryz.func172 rfl rfl rfl rfl ?_;refine X1 _ (fO x.1.1 y.1.1 x.2 y.2) ?_;exact ⟨HJ,r1 rfl,HJ⟩
def mr (o:List Cnt) (g:List Int):List Cnt:=match o.getLast? with
 | some x=>if x.1=g then o.dropLast++[(g,x.2+1)] else o++[(g,1)]
 | none=>[(g,1)]
def grp (s:List (List Int)):List Cnt:=s.foldl mr []
theorem kA (s:List (List Int)) (g:List Int):grp (s++[g])=mr (grp s) g:=by unfold grp; rw[GS]; rfl
theorem mF:∀ (n:Nat) (s:List (List Int)),s.length=n→(grp s).length≤n∧∀ x,x∈grp s→1≤x.2∧x.2≤n
 | 0,s,h=>by
  have:=Fa.1 h;subst this;exact ⟨by simp[grp],λx hx=>by simp[grp]at hx⟩
 | n+1,s,h=>by
  obtain ⟨s',g,rfl⟩:∃ s' g,s=s'++[g]:=⟨s.dropLast,s.getLast (by intro e; subst e; simp at h),(Gb _).symm⟩;obtain ⟨h1,h2⟩:=mF n s' (by simpa using h);rw[kA];unfold mr;split
  ·rename_i x hx;have hm:=List.mem_of_getLast? hx;have h3:=h2 x hm;split
   ·refine ⟨by simp; omega,λy hy=>?_⟩;rcases Fl.1 hy with hy | hy
    ·have:=h2 y (List.dropLast_sublist _ |>.subset hy); omega
    ·rw[Fq.1 hy]; simp only; omega
   ·refine ⟨by simp; omega,λy hy=>?_⟩;rcases Fl.1 hy with hy | hy
    ·have:=h2 y hy; omega
    ·rw[Fq.1 hy]; simp only; omega
  ·exact ⟨by simp,λy hy=>by rw[Fq.1 hy]; simp only; omega⟩
abbrev lx (s:List (List Int)):List (List PC):=s.map λg=>[iSl g]
def mkI (s:List (List Int)) (h:∀ g,g∈s→g.length≤1000000):Array SrtI.El:=(s.pmap (λg hg=>⟨g,hg⟩) h).toArray
def mkC (s:List Cnt) (h:∀ x,x∈s→x.1.length≤1000000):Array SrtC.El:=(s.pmap (λg hg=>⟨g,hg⟩) h).toArray
theorem sh {s:List (List Int)} {h:∀ g,g∈s→g.length≤1000000}:(mkI s h).size=s.length:=by simp[mkI]
theorem si {s:List Cnt} {h:∀ x,x∈s→x.1.length≤1000000}:(mkC s h).size=s.length:=by simp[mkC]
theorem uX {s:List (List Int)} {h:∀ g,g∈s→g.length≤1000000}:(mkI s h).toList.map (·.1)=s:=by simp[mkI,List.map_pmap]
theorem uY {s:List Cnt} {h:∀ x,x∈s→x.1.length≤1000000}:(mkC s h).toList.map (·.1)=s:=by simp[mkC,List.map_pmap]
theorem DT (d:Array SrtI.El):SrtI.row d=lx (d.toList.map (·.1)):=by unfold SrtI.row lx; rw[List.map_map]; rfl
theorem Cn (d:Array SrtC.El):SrtC.row d=cj (d.toList.map (·.1)):=by simp[SrtC.row,cj]
abbrev cmE (x y:SrtI.El):Int:=aH x.1.reverse y.1.reverse
abbrev cmG (x y:SrtC.El):Int:=aH x.1.1 y.1.1
def ek (s:List (List Int)) (h:∀ g,g∈s→g.length≤1000000):List (List Int):=(Sort.sort (SrtI.lt cmE) (mkI s h)).toList.map (·.1)
def kB (s:List Cnt) (h:∀ x,x∈s→x.1.length≤1000000):List Cnt:=(Sort.sort (SrtC.lt cmG) (mkC s h)).toList.map (·.1)
theorem yX (s:List (List Int)) (h:∀ g,g∈s→g.length≤1000000) (hl:s.length≤1000000):CtO P 167 [(1000000,some (.row 1 (lx s)))] [.c (.ow 1000000 1 s.length),.c (.fn 168 [])] [(1000000,some (.row 1 (lx (ek s h))))] []:=by
 have:=SrtI.sortF_ct 168 cmE ky (swo_of λx:SrtI.El=>x.1.reverse) (mkI s h) (by rw[sh]; exact hl);rw[SrtI.dO,SrtI.dO,SrtI.dA,DT,DT,uX,sh]at this;exact this
theorem yY (s:List Cnt) (h:∀ x,x∈s→x.1.length≤1000000) (hl:s.length≤1000000):CtO P 171 [(1000000,some (.row 2 (cj s)))] [.c (.ow 1000000 2 s.length),.c (.fn 172 [])] [(1000000,some (.row 2 (cj (kB s h))))] []:=by
 have:=SrtC.sortF_ct 172 cmG kz (swo_of λx:SrtC.El=>x.1.1) (mkC s h) (by rw[si]; exact hl);rw[SrtC.dO,SrtC.dO,SrtC.dA,Cn,Cn,uY,si]at this;exact this
theorem jx (s:List (List Int)) (h:∀ g,g∈s→g.length≤1000000):(ek s h).Perm s:=by
 have:=(SrtI.sort_spec 168 cmE ky (swo_of λx:SrtI.El=>x.1.reverse) (mkI s h)).1.map (·.1);rwa [uX]at this
theorem ub (s:List Cnt) (h:∀ x,x∈s→x.1.length≤1000000):(kB s h).Perm s:=by
 have:=(SrtC.sort_spec 172 cmG kz (swo_of λx:SrtC.El=>x.1.1) (mkC s h)).1.map (·.1);rwa [uY]at this
theorem yZ {s:List (List Int)} {i:Int} {n:Nat} (h0:i=n) (h:n<s.length):(lx s)[i.toNat]? = some [iSl s[n]]:=by
 subst h0;simp[lx,h]
abbrev fC:List PC:=[.sc (.slice none 0 0)]
theorem Bh {s:List (List Int)} {g:List Int} {m:Nat} {i:Int} (hi:i=s.length) (hm:1≤m):(lx s++List.replicate m fC).set i.toNat [iSl g]=lx (s++[g])++List.replicate (m-1) fC:=by
 subst hi;obtain ⟨m,rfl⟩:∃ k,m=k+1:=⟨m-1,by omega⟩;rw[List.replicate_succ,Ha _ _ (by simp)];simp[lx]
theorem Bi {s:List (List Int)} {m:Nat} {i:Int} (hi:i=s.length) (hm:1≤m):(lx s++List.replicate m fC)[i.toNat]? = some fC:=by
 subst hi;obtain ⟨m,rfl⟩:∃ k,m=k+1:=⟨m-1,by omega⟩;rw[EJ (by simp)];simp
abbrev bW (l:List Cnt):List (List Int):=l.map λx=>x.1.drop 1
theorem aX {l:List Cnt} (hl:CLim l):∀ g,g∈bW l→g.length≤1000000:=λg hg=>by
 obtain ⟨x,hx,rfl⟩:=Fd.1 hg;have:=hl.g x hx;rw[Ff]; omega
theorem qk:∀ (n:Nat) (s:List (List Int)),s.length=n→∀ x,x∈grp s→x.1∈s
 | 0,s,h=>by
  have:=Fa.1 h;subst this;intro x hx; simp[grp]at hx
 | n+1,s,h=>by
  obtain ⟨s',g,rfl⟩:∃ s' g,s=s'++[g]:=⟨s.dropLast,s.getLast (by intro e; subst e; simp at h),(Gb _).symm⟩;have ih:=qk n s' (by simpa using h);rw[kA];intro y hy;unfold mr at hy;split at hy
  ·split at hy
   ·rcases Fl.1 hy with hy | hy
    ·exact FQ _ (ih y (List.dropLast_sublist _ |>.subset hy))
    ·rw[Fq.1 hy]; simp
   ·rcases Fl.1 hy with hy | hy
    ·exact FQ _ (ih y hy)
    ·rw[Fq.1 hy]; simp
  ·rw[Fq.1 hy]; simp
theorem fh {l:List Cnt} (hl:CLim l):∀ x,x∈grp (ek (bW l) (aX hl))→x.1.length≤1000000:=λx hx=>
 aX hl _ ((jx _ _).subset (qk _ _ rfl x hx))
def sj (l:List Cnt) (hl:CLim l):List Cnt:=kB (grp (ek (bW l) (aX hl))) (fh hl)
theorem y2 (l:List Cnt) (hl:CLim l) (h1:∀ x,x∈l→1≤x.1.length):Ct P 128 [.c (cSl l)] [.c (cSl (sj l hl))]:=by
 have hll:=hl.len;have hsI:=yX (bW l) (aX hl) (by simp; exact hll);have hpI:=jx (bW l) (aX hl);have hsC:=yY (grp (ek (bW l) (aX hl))) (fh hl) (EG (mF _ _ rfl).1 (by rw[hpI.length_eq]; simp; exact hll));have hE:sj l hl=kB (grp (ek (bW l) (aX hl))) (fh hl):=rfl;rw[hE];have hgm:∀ g,g∈ek (bW l) (aX hl)→g.length≤1000000:=λg hg=>aX hl _ (hpI.subset hg)
 have hsl:(ek (bW l) (aX hl)).length=l.length:=by rw[hpI.length_eq]; simp
 generalize kB (grp (ek (bW l) (aX hl))) (fh hl)=E at *
 generalize ek (bW l) (aX hl)=s at *
 rw[Fs]at hsI;refine Ct.go aj aa (N:=71) Tryz.func128 rfl rfl rfl rfl ?_;refine .intro (by rw[cRow_len]; omega) ?_;rw[cRow_len];refine .intro (by omega) (.intro (by omega) (.intro (by omega) (.intro ?_ ?_)))
 ·exact .inr (by show (l.length:Int)*24≤_; omega)
 refine .intro (by rw[cRow_len]; omega) ?_;rw[cRow_len];refine aw aj aa (λi:Nat=>i≤l.length) (λi=>[(3,.c (.ow 12 1 l.length)),(13,.c (cSl l)),(14,.c (nI .i64 l.length)),(15,.c (nI .i64 i))]) (λi=>[(12,.row 1 (lx (bW (l.take i))++List.replicate (l.length-i) fC))]) (λi=>l.length-i)
  0 (by omega) ⟨by rw[E4]; rfl,rfl,rfl,rfl,HJ⟩ ⟨by rw[E4]; rfl,HJ⟩ (λ_:Unit=>True) (λ_=>[(3,.c (.ow 12 1 l.length))]) (λ_=>[(12,.row 1 (lx (bW l)))]) (λi hi=>?_) (λ_ _=>?_)
 ·refine ah (λh5=>?_) (λh5=>?_)
  ·have hi':i<l.length:=by omega
   have hxl:=hl.at' hi';have hx1:=h1 l[i] (EO hi');have hx:=bs (l:=l) (i:=(i:Int)) (n:=i) rfl hi';have hs:bW (l.take (i+1))=bW (l.take i)++[l[i].1.drop 1]:=by
    rw[EH hi']; unfold bW; rw[FM]; rfl
   have htl:(bW (l.take i)).length=i:=by simp; omega
   generalize l[i]=x at *
   refine .intro (by omega) (X1 _ hx ?_);refine ⟨1,x.1.length,by simp,by simp[ac],by omega,by rw[ac]; omega,?_⟩;rw[iRow_sub,Fj (show (x.1.drop 1).length≤x.1.length-1 by rw[Ff]; exact EE _)];refine .intro (by omega) (.intro (by omega) (X1 _ (Bi (by rw[htl]) (by omega)) ?_));refine X1 ((i+1:Nat):Int) (wI1 (by omega)) ?_;exact ⟨i+1,by omega,by omega,⟨rfl,rfl,rfl,rfl,HJ⟩,⟨aB (by rw[hs,show l.length-(i+1)=l.length-i-1 by omega]; exact Bh (by rw[htl]) (by omega)),HJ⟩⟩
  ·have e:i=l.length:=by omega
   subst e;exact ⟨(),HJ,⟨rfl,HJ⟩,⟨aB (by rw[E7]; simp),HJ⟩⟩
 ·refine X2 (.upd 12) ?_;refine ⟨_,_,hsI,?_⟩;refine .intro (by omega) ?_;refine .intro (by omega) (.intro (by omega) (.intro (by omega) (.intro ?_ ?_)))
  ·exact .inr (by show (l.length:Int)*32≤_; omega)
  refine .intro (by omega) ?_;refine aw aj aa (λi:Nat=>i≤l.length) (λi=>[(6,.c (.ow 31 2 (grp (s.take i)).length)),(32,.c (.ow 12 1 l.length)),(33,.c (nI .i64 l.length)),(34,.c (nI .i64 i))]) (λi=>[(12,.row 1 (lx s)),(31,.row 2 (cj (grp (s.take i))))]) (λi=>l.length-i)
   0 (by omega) ⟨rfl,rfl,rfl,rfl,HJ⟩ ⟨rfl,rfl,HJ⟩ (λ_:Unit=>True) (λ_=>[(6,.c (.ow 31 2 (grp s).length))]) (λ_=>[(31,.row 2 (cj (grp s)))]) (λi hi=>?_) (λ_ _=>?_)
  ·refine ah (λh5=>?_) (λh5=>?_)
   ·have hi':i<s.length:=by omega
    have hgs:grp (s.take (i+1))=mr (grp (s.take i)) s[i]:=by rw[EH hi',kA]
    have hgl:=mF i (s.take i) (by rw[EQ]; omega);have hglm:=qk i (s.take i) (by rw[EQ]; omega);have hgl1:=hgm s[i] (EO hi');have hget:=yZ (s:=s) (i:=(i:Int)) (n:=i) rfl hi';have hom:∀ x,x∈grp (s.take i)→x.1.length≤1000000:=λx hx=>hgm _ (F6 (hglm x hx))
    generalize s[i]=g at *
    generalize grp (s.take i)=o at *
    refine .intro (by omega) (.intro (by omega) (X1 _ hget ?_));refine .intro (by have:=hgl.1; omega) ?_;have ho:=hgl.1;have app:mr o g=o++[(g,1)]→(o.length=(cj o).length∧((cj o).length+1+768)*32≤17592186044416∧(cj o).length+1≤35184372088832):=λ_=>⟨cRow_len.symm,by rw[cRow_len]; omega,by rw[cRow_len]; omega⟩
    refine ah (λh6=>?_) (λh6=>?_)
    ·have hlast:o.getLast? = some (o[o.length-1]'(by omega)):=by rw[List.getLast?_eq_getElem?,EY (by omega)]
     have hxm:(o[o.length-1]'(by omega))∈o:=EO _;have hcg:=bs (l:=o) (i:=((o.length-1:Nat):Int)) (n:=o.length-1) rfl (by omega);have hset:∀ y:Cnt,(cj o).set ((o.length-1:Nat):Int).toNat [iSl y.1,eI .i64 y.2]=cj (o.dropLast++[y]):=λy=>by
      have e:∃ z,o=o.dropLast++[z]:=⟨o.getLast (by intro e; subst e; simp at h6),(Gb _).symm⟩;obtain ⟨z,hz⟩:=e;have hl':o.dropLast.length=o.length-1:=List.length_dropLast;have:((o.length-1:Nat):Int).toNat=(cj o.dropLast).length:=by rw[cRow_len,hl']; simp
      rw[this]
      conv=>lhs; rw[hz]
      rw[←eO,List.dropLast_concat,Ha _ _ (EE _)];simp[cj]
     have hx2:=hgl.2 _ hxm;have hx1:=hom _ hxm;generalize (o[o.length-1]'(by omega))=x at *
     refine X1 ((o.length-1:Nat):Int) (wI (by omega) (by omega) (by omega)) ?_;refine .intro (by omega) (.intro (by omega) (X1 _ hcg ?_));refine X1 _ (rG x.1 g hx1 hgl1) ?_;refine ah (λh7=>?_) (λh7=>?_)
     ·have hst:mr o g=o.dropLast++[(g,x.2+1)]:=by
       unfold mr; rw[hlast]; exact if_pos h7
      refine X1 ((o.length-1:Nat):Int) (wI (by omega) (by omega) (by omega)) ?_;refine .intro (by omega) (.intro (by omega) (X1 _ hcg ?_));refine X1 (x.2+1) (wI rfl (by omega) (by omega)) ?_;refine .intro (by omega) (.intro (by omega) (X1 _ hcg ?_));refine X1 ((i+1:Nat):Int) (wI1 (by omega)) ?_;refine ⟨i+1,by omega,by omega,⟨owE ?_,rfl,rfl,rfl,HJ⟩,⟨rfl,aB ?_,HJ⟩⟩
      ·rw[hgs,hst]; simp; omega
      ·rw[hgs,hst,←h7]; exact hset (x.1,x.2+1)
     ·have hst:mr o g=o++[(g,1)]:=by
       unfold mr; rw[hlast]; exact if_neg h7
      obtain ⟨a1,a2,a3⟩:=app hst;refine X1 _ (iR g hgl1) ?_;refine ⟨a1,a2,a3,bu,ar rfl,?_⟩;refine X1 ((i+1:Nat):Int) (wI1 (by omega)) ?_;exact ⟨i+1,by omega,by omega,⟨owE (by rw[hgs,hst,EC,EC,cRow_len]; rfl),rfl,rfl,rfl,HJ⟩,⟨rfl,aB (by rw[hgs,hst,←eO]; rfl),HJ⟩⟩
    ·have hnil:o=[]:=Fa.1 (by omega);have hst:mr o g=o++[(g,1)]:=by rw[hnil]; rfl
     obtain ⟨a1,a2,a3⟩:=app hst;refine X1 _ (iR g hgl1) ?_;refine ⟨a1,a2,a3,bu,ar rfl,?_⟩;refine X1 ((i+1:Nat):Int) (wI1 (by omega)) ?_;exact ⟨i+1,by omega,by omega,⟨owE (by rw[hgs,hst,EC,EC,cRow_len]; rfl),rfl,rfl,rfl,HJ⟩,⟨rfl,aB (by rw[hgs,hst,←eO]; rfl),HJ⟩⟩
   ·have e:i=l.length:=by omega
    subst e;have:s.take l.length=s:=Fj (by omega);exact ⟨(),HJ,⟨owE (by rw[this]),HJ⟩,⟨aB (by rw[this]),HJ⟩⟩
  ·refine X2 (.upd 31) ?_;refine ⟨_,_,hsC,?_⟩;exact ⟨HJ,r1 rfl,HJ⟩
abbrev dX (l:List Cnt):Prop:=l.Pairwise λx y=>aH x.1 y.1<0
theorem ly {n:Nat}:∀ {l:List Cnt} {p:Option (List Int)},cT n p l=0→(∀ x,x∈l→x.1.length=n+1∧1≤x.2)∧dX l∧∀ q,p=some q→∀ x,x∈l→aH q x.1<0
 | [],p,_=>⟨λx hx=>by simp at hx,.nil,λq _ x hx=>by simp at hx⟩
 | x::l,p,h=>by
  rw[im]at h;by_cases h1:(x.1.length:Int)≠n+1
  ·rw[if_pos h1]at h; omega
  rw[if_neg h1]at h;by_cases h2:x.2<1
  ·rw[if_pos h2]at h; omega
  rw[if_neg h2]at h;have h3:∀ q,p=some q→¬ aH q x.1≥0:=λq hq hge=>by
   subst hq;rw[if_pos (decide_eq_true hge)]at h;omega
  rw[if_neg (by cases p with | none=>simp | some q=>simpa using h3 q rfl)]at h;obtain ⟨g1,g2,g3⟩:=ly h;have hp:∀ q,p=some q→aH q x.1<0:=λq hq=>by
   have:=h3 q hq; omega
  refine ⟨λy hy=>?_,List.Pairwise.cons (λy hy=>g3 x.1 rfl y hy) g2,λq hq y hy=>?_⟩
  ·rcases Fg.1 hy with rfl | hy
   ·exact ⟨by omega,by omega⟩
   ·exact g1 y hy
  ·rcases Fg.1 hy with rfl | hy
   ·exact hp q hq
   ·exact df (hp q hq) (g3 x.1 rfl y hy)
structure CCOk (L:List (List Cnt)):Prop where
 len0:1≤L.length
 len8:L.length≤8
 form:∀ (n:Nat) (h:n<L.length) (x:Cnt),x∈L[n]→x.1.length=n+1∧1≤x.2
 rises:∀ (n:Nat) (h:n<L.length),dX L[n]
theorem nR:∀ (k:Nat) {n:Nat} {L:List (List Cnt)},L.length=n+k→cX n (L.drop n)=0→∀ (m:Nat) (h:m<L.length),n≤m→cT m none L[m]=0
 | 0,n,L,hk,_,m,hm,hn=>by omega
 | k+1,n,L,hk,h,m,hm,hn=>by
  have h0:cT n none (L[n]'(by omega))=0:=Classical.byContradiction λhne=>hne ((nK (by omega) rfl hne).symm.trans h)
  by_cases e:m=n
  ·subst e; exact h0
  ·exact nR k (n:=n+1) (by omega) ((kh (by omega) h0).symm.trans h) m hm (by omega)
theorem sn {L:List (List Cnt)} (h:fx L=0):CCOk L:=by
 unfold fx at h;split at h
 ·omega
 ·rename_i h1;have key:=nR L.length (n:=0) (L:=L) (by omega) h;exact ⟨by omega,by omega,λn hn x hx=>(ly (key n hn (by omega))).1 x hx,λn hn=>(ly (key n hn (by omega))).2.1⟩
theorem CCOk.ccform {L:List (List Cnt)} (h:CCOk L) (hl:CCLim L):CCForm L:=⟨hl,λn hn i hi=>(h.form n hn _ (EO hi)).1⟩
abbrev rlt (a b:List Int):Prop:=aH a.reverse b.reverse<0
theorem wc {a b:List Int} (h:¬ rlt b a) (hne:a≠b):rlt a b:=by
 apply Classical.byContradiction;intro h2;have h3:=eR a.reverse b.reverse;have h4:aH a.reverse b.reverse=0:=by unfold rlt at h h2; omega
 exact hne (List.reverse_inj.1 (lw h4))
theorem mG (a:List Int):¬ rlt a a:=by unfold rlt; rw[dW]; omega
structure Grp (s:List (List Int)) (o:List Cnt):Prop where
 up:o.Pairwise λx y=>rlt x.1 y.1
 cnt:∀ x,x∈o→x.1∈s∧x.2=(s.count x.1:Int)
 all:∀ g,g∈s→∃ x,x∈o∧x.1=g
theorem y3:∀ (n:Nat) (s:List (List Int)),s.length=n→s.Pairwise (λa b=>¬ rlt b a)→Grp s (grp s)
 | 0,s,h,_=>by
  have:=Fa.1 h;subst this;exact ⟨.nil,λx hx=>by simp[grp]at hx,λg hg=>by simp at hg⟩
 | n+1,s,h,hp=>by
  obtain ⟨s',g,rfl⟩:∃ s' g,s=s'++[g]:=⟨s.dropLast,s.getLast (by intro e; subst e; simp at h),(Gb _).symm⟩;rw[He]at hp;obtain ⟨p1,_,p3⟩:=hp;have ih:=y3 n s' (by simpa using h) p1;have hge:∀ a,a∈s'→¬ rlt g a:=λa ha=>p3 a ha g (by simp)
  rw[kA];generalize grp s'=o at *
  have cg:∀ y:List Int,(s'++[g]).count y=s'.count y+(if g=y then 1 else 0):=λy=>by
   rw[List.count_append,List.count_singleton];congr 1;by_cases e:g=y
   ·subst e; simp
   ·simp[e]
  have nong:∀ y,y∈o→y.1≠g→y.1∈s'++[g]∧y.2=((s'++[g]).count y.1:Int):=λy hy hne=>by
   have:=ih.cnt y hy;rw[cg,if_neg (λe=>hne e.symm)];exact ⟨FQ _ this.1,by rw[this.2]; simp⟩
  unfold mr;split
  ·rename_i x hx;obtain ⟨o',rfl⟩:∃ o',o=o'++[x]:=by
    have hne:o≠[]:=λe=>by subst e; simp at hx
    refine ⟨o.dropLast,?_⟩;have e:o.getLast hne=x:=by
     have:=List.getLast?_eq_some_getLast hne;rw[this]at hx;simpa using hx
    rw[←e];exact (Gb hne).symm
   have hup:=He.1 ih.up;have hxm:=ih.cnt x (by simp);split
   ·rename_i he;rw[List.dropLast_concat];refine ⟨He.2 ⟨hup.1,List.pairwise_singleton _ _,λy hy z hz=>?_⟩,λy hy=>?_,λa ha=>?_⟩
    ·rw[Fq.1 hz];simp only;rw[←he];exact hup.2.2 y hy x (by simp)
    ·rcases Fl.1 hy with hy | hy
     ·refine nong y (FQ _ hy) λe=>?_
      have:=hup.2.2 y hy x (by simp);rw[e,←he]at this;exact mG _ this
     ·rw[Fq.1 hy];simp only;rw[cg,if_pos rfl,hxm.2,he];exact ⟨by simp,by simp⟩
    ·rcases Fl.1 ha with ha | ha
     ·obtain ⟨y,hy,hya⟩:=ih.all a ha;rcases Fl.1 hy with hy | hy
      ·exact ⟨y,FQ _ hy,hya⟩
      ·rw[Fq.1 hy]at hya;exact ⟨(g,x.2+1),by simp,by rw[←hya,←he]⟩
     ·exact ⟨(g,x.2+1),by simp,(Fq.1 ha).symm⟩
   ·rename_i he;have hxg:rlt x.1 g:=wc (hge _ hxm.1) he;have hall:∀ y,y∈o'++[x]→rlt y.1 g:=λy hy=>by
     rcases Fl.1 hy with hy | hy
     ·exact df (hup.2.2 y hy x (by simp)) hxg
     ·rw[Fq.1 hy]; exact hxg
    refine ⟨He.2 ⟨ih.up,List.pairwise_singleton _ _,λy hy z hz=>?_⟩,λy hy=>?_,λa ha=>?_⟩
    ·rw[Fq.1 hz]; exact hall y hy
    ·rcases Fl.1 hy with hy | hy
     ·refine nong y hy λe=>?_
      have:=hall y hy;rw[e]at this;exact mG _ this
     ·rw[Fq.1 hy];simp only;have:s'.count g=0:=List.count_eq_zero.2 λhg=>by
       obtain ⟨y,hy,hyg⟩:=ih.all g hg;have:=hall y hy;rw[hyg]at this;exact mG _ this
      rw[cg,if_pos rfl,this];exact ⟨by simp,by simp⟩
    ·rcases Fl.1 ha with ha | ha
     ·obtain ⟨y,hy,hya⟩:=ih.all a ha;exact ⟨y,FQ _ hy,hya⟩
     ·exact ⟨(g,1),by simp,(Fq.1 ha).symm⟩
  ·rename_i hx;have:o=[]:=List.getLast?_eq_none_iff.1 hx;subst this;have hs:s'=[]:=by
    cases s' with
    | nil=>rfl
    | cons a l=>obtain ⟨y,hy,_⟩:=ih.all a (by simp); simp at hy
   subst hs;exact ⟨List.pairwise_singleton _ _,λy hy=>by rw[Fq.1 hy]; exact ⟨by simp,by simp⟩,λa ha=>⟨(g,1),by simp,by simp at ha; exact ha.symm⟩⟩
theorem place (g:List Int):∀ (l:List Cnt),dX l→∃ k,k≤l.length∧(∀ (i:Nat) (hi:i<l.length),i<k→aH l[i].1 g<0)∧∀ (i:Nat) (hi:i<l.length),k≤i→¬ aH l[i].1 g<0
 | [],_=>⟨0,by simp,λi hi=>by simp at hi,λi hi=>by simp at hi⟩
 | x::l,hr=>by
  obtain ⟨k,h0,h1,h2⟩:=place g l (List.Pairwise.of_cons hr);by_cases hx:aH x.1 g<0
  ·refine ⟨k+1,by simp; omega,λi hi hik=>?_,λi hi hik=>?_⟩
   ·cases i with
    | zero=>exact hx
    | succ i=>exact h1 i (by simpa using hi) (by omega)
   ·cases i with
    | zero=>omega
    | succ i=>exact h2 i (by simpa using hi) (by omega)
  ·refine ⟨0,by simp,λi hi hik=>by omega,λi hi _ hlt=>?_⟩
   cases i with
   | zero=>exact hx hlt
   | succ i=>exact hx (df ((Gd.1 hr).1 _ (EO (by simpa using hi))) hlt)
theorem pk (l:List Cnt) (g:List Int) (hl:CLim l) (hg:g.length≤1000000) (hr:dX l):Ct P 129 [.c (cSl l),.c (iSl g)] [.c (eI .i64 (cq g l))]:=by
 obtain ⟨k,h0,h1,h2⟩:=place g l hr;have e:(if atK l g k=true then (k:Int) else -1)=cq g l:=by
  unfold atK;rcases Ft k l.length with hk | hk
  ·rw[EY hk];simp only[beq_iff_eq];split
   ·rename_i h;have hkg:=lw h;exact (ln g l k hk (λj hj he=>by
     have:=h1 j (by omega) hj;rw[he,dW]at this; omega) hkg).symm
   ·rename_i h;refine (fl g l λj hj he=>?_).symm;rcases FY j k with hjk | hjk | hjk
    ·have:=h1 j hj hjk;rw[he,dW]at this; omega
    ·subst hjk;rw[he,dW]at h; exact h rfl
    ·have:=(List.pairwise_iff_getElem.1 hr) k j hk hj hjk;rw[he]at this;exact h2 k hk (EE _) this
  ·rw[EZ hk];refine (if_neg (by simp)).trans (fl g l λj hj he=>?_).symm;have:=h1 j hj (by omega);rw[he,dW]at this; omega
 rw[←e];exact yU l g k hl hg h0 h1 h2
theorem so (g:List Int):∀ {l:List Cnt},(∃ x,x∈l∧x.1=g)→∃ (i:Nat) (hi:i<l.length),cq g l=i∧l[i].1=g
 | [],⟨x,hx,_⟩=>by simp at hx
 | y::l,⟨x,hx,he⟩=>by
  by_cases h:y.1=g
  ·exact ⟨0,by simp,by rw[cq,if_pos h]; rfl,h⟩
  ·rcases Fg.1 hx with rfl | hx
   ·exact absurd he h
   ·obtain ⟨i,hi,h1,h2⟩:=so g ⟨x,hx,he⟩;exact ⟨i+1,by simp; omega,by rw[cq,if_neg h,h1,if_neg (by omega)]; simp,h2⟩
theorem sq {α:Type} [Inhabited α] {ltf:α→α→Bool} {d:Array α} (h:SortedIn ltf 0 d.size d):d.toList.Pairwise λx y=>ltf y x=false:=by
 rw[List.pairwise_iff_getElem];intro i j hi hj hij;have hi':i<d.size:=by simpa using hi
 have hj':j<d.size:=by simpa using hj
 have:=h i j (by omega) hij hj';simpa [hi',hj'] using this
theorem y4 (s:List (List Int)) (h:∀ g,g∈s→g.length≤1000000):(ek s h).Pairwise λa b=>¬ rlt b a:=by
 have h1:=(SrtI.sort_spec 168 cmE ky (swo_of λx:SrtI.El=>x.1.reverse) (mkI s h)).2;have h2:=(SrtI.sort_spec 168 cmE ky (swo_of λx:SrtI.El=>x.1.reverse) (mkI s h)).1.length_eq;unfold ek;rw[show (mkI s h).size=(Sort.sort (SrtI.lt cmE) (mkI s h)).size by simpa using h2.symm]at h1;refine List.pairwise_map.2 ((sq h1).imp λ{a b} hab=>?_);simpa [SrtI.lt] using hab
theorem y5 (s:List Cnt) (h:∀ x,x∈s→x.1.length≤1000000):(kB s h).Pairwise λa b=>¬ aH b.1 a.1<0:=by
 have h1:=(SrtC.sort_spec 172 cmG kz (swo_of λx:SrtC.El=>x.1.1) (mkC s h)).2;have h2:=(SrtC.sort_spec 172 cmG kz (swo_of λx:SrtC.El=>x.1.1) (mkC s h)).1.length_eq;unfold kB;rw[show (mkC s h).size=(Sort.sort (SrtC.lt cmG) (mkC s h)).size by simpa using h2.symm]at h1;refine List.pairwise_map.2 ((sq h1).imp λ{a b} hab=>?_);simpa [SrtC.lt] using hab
structure EndsOk (l E:List Cnt):Prop where
 lim:CLim E
 rises:dX E
 cnt:∀ x,x∈E→x.2=((bW l).count x.1:Int)
 all:∀ g,g∈bW l→∃ x,x∈E∧x.1=g
 only:∀ x,x∈E→x.1∈bW l
theorem y6 (l:List Cnt) (hl:CLim l):EndsOk l (sj l hl):=by
 have hg:=y3 _ _ rfl (y4 (bW l) (aX hl));have hlen:=(mF _ (ek (bW l) (aX hl)) rfl).1;have hpI:=jx (bW l) (aX hl);have hpC:=ub (grp (ek (bW l) (aX hl))) (fh hl);have hup:=y5 (grp (ek (bW l) (aX hl))) (fh hl);have hlim:=fh hl;have hE:sj l hl=kB (grp (ek (bW l) (aX hl))) (fh hl):=rfl;rw[hE];generalize kB (grp (ek (bW l) (aX hl))) (fh hl)=E at *
 have hsl:(ek (bW l) (aX hl)).length=l.length:=by rw[hpI.length_eq]; simp
 generalize ek (bW l) (aX hl)=s at *
 have hll:=hl.len;refine ⟨⟨by rw[hpC.length_eq]; omega,λx hx=>hlim x (hpC.subset hx)⟩,?_,λx hx=>?_,λg hgm=>?_,λx hx=>?_⟩
 ·have hne:E.Pairwise λx y=>x.1≠y.1:=(List.Perm.pairwise_iff (λ{a b} (h:a.1≠b.1)=>h.symm) hpC).2 (hg.up.imp λ{a b} h e=>by rw[e]at h; exact mG _ h)
  refine (hup.and hne).imp λ{a b} h=>?_
  have h1:=h.1;have h3:=eR a.1 b.1;apply Classical.byContradiction;intro h2;exact h.2 (lw (by omega))
 ·rw[(hg.cnt x (hpC.subset hx)).2,hpI.count_eq]
 ·obtain ⟨x,hx,he⟩:=hg.all g (hpI.mem_iff.2 hgm);exact ⟨x,hpC.mem_iff.2 hx,he⟩
 ·exact hpI.mem_iff.1 (hg.cnt x (hpC.subset hx)).1
theorem sr {l:List Cnt} {n:Nat} (hf:∀ x,x∈l→x.1.length=n+1) {g:List Int} (hg:g.length=n):(bW l).count g=ahead l g:=by
 unfold bW ahead;rw[List.count_eq_countP,List.countP_map,List.countP_eq_length_filter];congr 1;refine List.filter_congr λx hx=>?_
 rw[decide_eq_true (show x.1.length=g.length+1 by rw[hf x hx,hg]),Hg];simp only[Function.comp];by_cases h:x.1.drop 1=g
 ·rw[decide_eq_true h]; simpa using h
 ·rw[decide_eq_false h]; simpa using h
theorem wd {l E:List Cnt} (hE:EndsOk l E) {n:Nat} (hf:∀ x,x∈l→x.1.length=n+1) {g:List Int} (hg:g.length=n) :
  (∃ (i:Nat) (hi:i<E.length),cq g E=i∧E[i].2=(ahead l g:Int))∨(cq g E = -1∧ahead l g=0):=by
 rw[←sr hf hg];by_cases h:g∈bW l
 ·obtain ⟨i,hi,h1,h2⟩:=so g (hE.all g h);exact .inl ⟨i,hi,h1,by rw[hE.cnt _ (EO hi),h2]⟩
 ·refine .inr ⟨fl g E λj hj he=>h (he▸hE.only _ (EO hj)),List.count_eq_zero.2 h⟩
theorem Co {sz:Nat} {a b:List (List PC)} {i j:List Nat} (h:a=b) (h2:i=j):(some (.rowO sz a i):Option Ob)=some (.rowO sz b j):=by rw[h,h2]
theorem Eo {A:List (List Cnt)} {l:List Cnt} {m:Nat} (hm:1≤m):(a8 A++List.replicate m fC).set A.length [cSl l]=a8 (A++[l])++List.replicate (m-1) fC:=by
 obtain ⟨m,rfl⟩:∃ k,m=k+1:=⟨m-1,by omega⟩;rw[List.replicate_succ,Ha _ _ (by simp[a8])];simp[a8]
theorem Ep {A:List (List Cnt)} {m:Nat} (hm:1≤m):(a8 A++List.replicate m fC)[A.length]? = some fC:=by
 obtain ⟨m,rfl⟩:∃ k,m=k+1:=⟨m-1,by omega⟩;rw[EJ (by simp[a8])];simp[a8]
theorem Cp (A:List (List Cnt)) (m:Nat):ax (a8 A++List.replicate m fC):=by
 intro el h;rcases Fl.1 h with h | h
 ·exact kj el h
 ·rw[FD h]; rfl
theorem Er {base:List (List PC)} {n k r sz q:Nat} {el':List PC} (hbc:ax base) (hbl:n<base.length) (he:el'∈((base.set n [.ow k r sz]).set n (spl [.ow k r sz] 0 (List.replicate 1 .dead)))) (hm:cV q el'=true):bC q []=true:=by
 have e:spl [PC.ow k r sz] 0 (List.replicate 1 .dead)=[PC.dead]:=rfl;rw[Hw,e]at he;rcases GV he with he | he
 ·rw[cV,closedL_ment (hbc el' he)]at hm; cases hm
 ·subst he; cases hm
theorem Es {base:List (List PC)} {n:Nat} {a b c:List PC}:((base.set n a).set n b).set n c=base.set n c:=by rw[Hw,Hw]
theorem CX (V:Objs) (A:List (List Cnt)) (m:Nat):(a8 A++List.replicate m fC).map (·.map (d6 3 V))=a8 A++List.replicate m fC:=by
 rw[FM,List.map_replicate];congr 1;unfold a8;rw[List.map_map];rfl
theorem bx (L:List (List Cnt)):(ao L).length=L.length:=by simp[ao]
theorem pm {L:List (List Cnt)} {n:Nat} (h:n<L.length):(ao L)[n]'(by rw[bx]; exact h)=L[n].map (cL L n):=by
 simp[ao,h]
theorem su {L:List (List Cnt)} {n:Nat} (h:n<L.length):(ao L).take (n+1)=(ao L).take n++[L[n].map (cL L n)]:=by
 rw[EH (by rw[bx]; exact h),pm h]
theorem uc (L:List (List Cnt)) (hL:CCLim L) (h:fx L=0):Ct P 83 [.c (cK L)] [.c (cK (ao L)),.c (eI .i64 0)]:=by
 have hok:=sn h;have h8:=hok.len8;refine Ct.go aj aa (N:=89) Tryz.func83 rfl rfl rfl rfl ?_;refine X1 _ (v4 L hL) ?_;refine dq (λh2=>absurd h h2) (λ_=>?_);refine .intro (by rw[aq]; omega) ?_;rw[aq];refine .intro (by omega) (.intro (by omega) (.intro (by omega) (.intro ?_ ?_)))
 ·exact .inr (by show (L.length:Int)*24≤_; omega)
 refine .intro (by rw[aq]; omega) ?_;rw[aq];refine qj (λn:Nat=>n≤L.length) (λn=>[(0,.c (cK L)),(5,.c (.ow 20 1 L.length)),(21,.c (cK L)),(22,.c (nI .i64 L.length)),(23,.c (nI .i64 n))]) (λn=>[(20,.row 1 (a8 ((ao L).take n)++List.replicate (L.length-n) fC))]) (λn=>L.length-n)
  0 (by omega) ⟨rfl,by rw[E4]; rfl,rfl,rfl,rfl,HJ⟩ ⟨by rw[E4]; rfl,HJ⟩ (λ_:Unit=>True) (λ_=>[(5,.c (.ow 20 1 L.length))]) (λ_=>[(20,.row 1 (a8 (ao L)))]) (λn hn=>?_) (λ_ _=>?_)
 ·refine ej aj aa ?_;refine ej aj aa ?_;refine ah (λh5=>?_) (λh5=>?_)
  ·have hn':n<L.length:=by omega
   have hLn:=hL.at' hn';have hff:=hok.form n hn';refine oK (jw ?_);refine ej aj aa ?_;refine .intro (by omega) (X1 _ (bH rfl hn') ?_);refine ej aj aa ?_;refine At (t:=8) (sz:=2) rfl ?_;refine mq aj aa (G2:=List Cnt) (λv=>n+1<L.length→EndsOk (L.getD (n+1) []) v)
    (λv=>[(0,.c (cK L)),(5,.c (.ow 20 1 L.length)),(6,.c (nI .i64 n)),(7,.c (cSl L[n])),(8,.c (cSl v)),(21,.c (cK L)),(22,.c (nI .i64 L.length)),(23,.c (nI .i64 n))]) (λ_=>[(20,.row 1 (a8 ((ao L).take n)++List.replicate (L.length-n) fC))]) ?_ (λv hv=>?_)
   ·refine X1 ((n+1:Nat):Int) (wI (by simp) (by omega) (by omega)) ?_;refine .intro (by rw[aq]; omega) ?_;rw[aq];refine ah (λh6=>?_) (λh6=>?_)
    ·have hn1:n+1<L.length:=by omega
     refine X1 ((n+1:Nat):Int) (wI (by simp) (by omega) (by omega)) ?_;refine .intro (by omega) (X1 _ (bH rfl hn1) ?_);refine X1 _ (y2 L[n+1] (hL.at' hn1) (λx hx=>by have:=(hok.form (n+1) hn1 x hx).1; omega)) ?_;exact ⟨sj L[n+1] (hL.at' hn1),λ_=>by rw[show L.getD (n+1) []=L[n+1] by simp[EB,hn1]]; exact y6 L[n+1] (hL.at' hn1),⟨rfl,rfl,rfl,rfl,rfl,rfl,rfl,rfl,HJ⟩,⟨rfl,HJ⟩⟩
    ·exact ⟨[],λh=>absurd h (by omega),⟨rfl,rfl,rfl,rfl,rfl,rfl,rfl,rfl,HJ⟩,⟨rfl,HJ⟩⟩
   ·have hbl:n<(a8 ((ao L).take n)++List.replicate (L.length-n) fC).length:=by
     rw[EC,aq,EQ,bx,Ga]; omega
    have hct:((ao L).take n).length=n:=by rw[EQ,bx]; omega
    have hbg:(a8 ((ao L).take n)++List.replicate (L.length-n) fC)[n]? = some fC:=by
     have:=Ep (A:=(ao L).take n) (m:=L.length-n) (by omega);rwa [hct]at this
    have hbc:=Cp ((ao L).take n) (L.length-n);have hend:∀ l':List Cnt,l'=L[n].map (cL L n)→(a8 ((ao L).take n)++List.replicate (L.length-n) fC).set n [cSl l']=a8 ((ao L).take (n+1))++List.replicate (L.length-(n+1)) fC:=λl' hl'=>by
     have:=Eo (A:=(ao L).take n) (l:=l') (m:=L.length-n) (by omega);rw[hct]at this;rw[this,hl',su hn'];rfl
    have hvw:∀ V:Objs,(a8 ((ao L).take n)++List.replicate (L.length-n) fC).map (·.map (d6 3 V))=a8 ((ao L).take n)++List.replicate (L.length-n) fC:=λV=>CX V _ _
    have hahd:n+1<L.length→∀ x,x∈L.getD (n+1) []→x.1.length=n+2:=λhn1 x hx=>by
     rw[show L.getD (n+1) []=L[n+1] by simp[EB,hn1]]at hx;exact (hok.form (n+1) hn1 x hx).1
    have hahl:n+1<L.length→(L.getD (n+1) []).length≤1000000:=λhn1=>by
     rw[show L.getD (n+1) []=L[n+1] by simp[EB,hn1]];exact (hL.at' hn1).len
    generalize L[n]=l at *
    generalize (a8 ((ao L).take n)++List.replicate (L.length-n) fC)=base at *
    have hll:=hLn.len;refine DP (r:=84) (k:=20) (sz':=2) rfl (by omega) rfl hbg hbc ?_;refine ej aj aa ?_;refine .intro (by rw[cRow_len]; omega) ?_;rw[cRow_len];refine yV (λj:Nat=>j≤l.length) (λj=>[(0,.c (cK L)),(5,.c (.ow 20 1 L.length)),(6,.c (nI .i64 n)),(8,.c (cSl v)),(21,.c (cK L)),(22,.c (nI .i64 L.length)),(23,.c (nI .i64 n)),(39,.c (cSl l)),(40,.c (nI .i64 l.length)),(41,.c (nI .i64 j))])
     (λj=>[(20,.rowO 1 (base.set n [.ow 84 2 j]) [84]),(84,.row 2 (cj ((l.take j).map (cL L n))))]) (λj=>l.length-j)
     0 (by omega) ⟨rfl,rfl,rfl,rfl,rfl,rfl,rfl,rfl,rfl,rfl,HJ⟩ ⟨rfl,rfl,HJ⟩ (λj hj=>?_)
    refine ej aj aa ?_;refine ej aj aa ?_;refine ah (λh7=>?_) (λh7=>?_)
    ·have hj':j<l.length:=by omega
     have hsn:l.take (j+1)=l.take j++[l[j]]:=EH hj';have hx:=bs (l:=l) (i:=(j:Int)) (n:=j) rfl hj';have hxf:=hff l[j] (EO hj');have hxl:=hLn.at' hj';have hcj:(l.take j).length=j:=by rw[EQ]; omega
     generalize l[j]=x at *
     refine oK (jw ?_);refine ej aj aa ?_;refine .intro (by omega) (X1 _ hx ?_);refine ej aj aa ?_;refine X1 _ (iR x.1 hxl) ?_;refine .intro rfl ?_;refine mq aj aa (G2:=Cnt) (λc=>c=cL L n x) (λ_=>[(0,.c (cK L)),(5,.c (.ow 20 1 L.length)),(6,.c (nI .i64 n)),(8,.c (cSl v)),(11,.c (.ad 11 0)),(21,.c (cK L)),(22,.c (nI .i64 L.length)),(23,.c (nI .i64 n)),(39,.c (cSl l)),(40,.c (nI .i64 l.length)),(41,.c (nI .i64 j))])
      (λc=>[(11,.var [iSl c.1,eI .i64 c.2]),(20,.rowO 1 (base.set n [.ow 84 2 j]) [84]),(84,.row 2 (cj ((l.take j).map (cL L n))))]) ?_ (λc hce=>?_)
     ·refine X1 ((n+1:Nat):Int) (wI (by simp) (by omega) (by omega)) ?_;refine .intro (by rw[aq]; omega) ?_;rw[aq];refine ah (λh6=>?_) (λh6=>?_)
      ·have hn1:n+1<L.length:=by omega
       have hE:=hv hn1;refine .intro (by omega) (X1 _ (bl (n:=0) rfl (by omega)) ?_);refine dq (λh9=>?_) (λh9=>?_)
       ·have hce:cL L n x=(x.1,(ahead (L.getD (n+1) []) x.1:Int)):=if_pos ⟨hn1,by simpa using h9⟩;have hfi:=wd hE (n:=n+1) (hahd hn1) (g:=x.1) (by omega);refine X1 _ (pk v x.1 hE.lim hxl hE.rises) ?_;rcases hfi with ⟨i,hi,f1,f2⟩ | ⟨f1,f2⟩
        ·rw[f1];refine .intro (by omega) (X1 _ (bs (n:=i) rfl hi) ?_);rw[f2];exact ⟨(x.1,(ahead (L.getD (n+1) []) x.1:Int)),hce.symm,⟨rfl,rfl,rfl,rfl,rfl,rfl,rfl,rfl,rfl,rfl,rfl,HJ⟩,⟨rfl,rfl,rfl,HJ⟩⟩
        ·rw[f1];rw[f2]at hce;exact ⟨(x.1,0),hce.symm,⟨rfl,rfl,rfl,rfl,rfl,rfl,rfl,rfl,rfl,rfl,rfl,HJ⟩,⟨rfl,rfl,rfl,HJ⟩⟩
       ·have hce:cL L n x=x:=if_neg (λh=>h.2 (by simpa using h9));exact ⟨x,hce.symm,⟨rfl,rfl,rfl,rfl,rfl,rfl,rfl,rfl,rfl,rfl,rfl,HJ⟩,⟨rfl,rfl,rfl,HJ⟩⟩
      ·have hce:cL L n x=x:=if_neg (λh=>h6 (by omega));exact ⟨x,hce.symm,⟨rfl,rfl,rfl,rfl,rfl,rfl,rfl,rfl,rfl,rfl,rfl,HJ⟩,⟨rfl,rfl,rfl,HJ⟩⟩
     ·refine nD (Ty.own_ok [1000001,1000002] aj) aa ?_;refine .intro (by omega) (.intro (by omega) (X1 _ (List.getElem?_set_self hbl) ?_));refine X1 [] (λel' q he hm=>Er hbc hbl he hm) ?_;refine ⟨by rw[cRow_len]; simp; omega,by rw[cRow_len]; simp only[Fs,EQ]; show (min j l.length+1+768)*32≤_; omega,by rw[cRow_len]; simp only[Fs,EQ]; show min j l.length+1≤_; omega,bu,ar rfl,?_⟩;refine .intro (by omega) (.intro (by omega) (X1 _ (List.getElem?_set_self (by rw[GC]; exact hbl)) ?_));refine .intro rfl ?_;refine nD aj aa ?_;refine X1 ((j+1:Nat):Int) (wI (by simp) (by omega) (by omega)) ?_;exact ⟨j+1,by omega,by omega,⟨rfl,rfl,rfl,rfl,rfl,rfl,rfl,rfl,rfl,rfl,HJ⟩,⟨Co ((Es (base:=base) (n:=n) (a:=[PC.ow 84 2 j]) (b:=[PC.dead]) (c:=[PC.ow 84 2 _])).trans (congrArg (λk=>base.set n [PC.ow 84 2 k]) (by rw[EC,cRow_len,Fs,hcj]; rfl))) rfl,aB (by rw[hsn,FM,←eO]; simp only[Fm,G9]; rw[←hce]; rfl),HJ⟩⟩
    ·have hje:j=l.length:=by omega
     subst hje;refine Bf [84] ?_;refine DO (k:=20) (sz:=1) (els:=a8 ((ao L).take (n+1))++List.replicate (L.length-(n+1)) fC) (ids:=[84]) (Co ?_ rfl) (Cp _ _) ?_
     ·rw[List.map_set,hvw];exact hend _ (by rw[E7])
     ·refine nD aj aa ?_;refine X1 ((n+1:Nat):Int) (wI (by simp) (by omega) (by omega)) ?_;exact ⟨n+1,by omega,by omega,⟨rfl,rfl,rfl,rfl,rfl,HJ⟩,⟨rfl,HJ⟩⟩
  ·have e:n=L.length:=by omega
   subst e;exact ⟨(),HJ,⟨rfl,HJ⟩,⟨aB (by rw[Fj (by rw[bx]; exact EE _)]; simp),HJ⟩⟩
 ·refine nD aj aa ?_;have:L.length=(a8 (ao L)).length:=by rw[aq,bx]
  exact ⟨HJ,r1 rfl,r1 rfl,HJ⟩
end Go.Proofs.YtgceikecdedfcaaGreat.Pv
