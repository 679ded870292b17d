/- Parts of a proof, joined: Scd Sce Cv El Em En Eo Ep. -/
import Derived.Test.YtgceikecdedfcaaGreatLeK
namespace Go.Proofs.YtgceikecdedfcaaGreat.Pv.SrtC
open Go Go.Sort
section
variable {p:El→Bool} {e:Array El} {i j:Nat}
theorem sUp_a (h:¬ i≤j):scanUp p e j i=i:=by rw[scanUp,if_neg (by simp; omega)]
theorem sUp_b (h:p e[i]! = false):scanUp p e j i=i:=by rw[scanUp,if_neg (by simp[h])]
theorem sUp_c (h:i≤j) (h2:p e[i]! = true):scanUp p e j i=scanUp p e j (i+1):=by rw[scanUp,if_pos (by simp[h2]; omega)]
theorem sDn_a (h:¬ i≤j):scanDown p e i j=j:=by
 cases j with
 | zero=>rfl
 | succ j=>rw[scanDown,if_neg (by simp; omega)]
theorem sDn_b (h:p e[j]! = false):scanDown p e i j=j:=by
 cases j with
 | zero=>rfl
 | succ j=>rw[scanDown,if_neg (by simp[h])]
theorem sDn_c (h0:1≤j) (h:i≤j) (h2:p e[j]! = true):scanDown p e i j=scanDown p e i (j-1):=by
 cases j with
 | zero=>omega
 | succ j=>rw[scanDown,if_pos (by simp[h2]; omega)]; rfl
end
variable {cm:El→El→Int}
theorem pEqL {a i j i2 j2:Nat} {e:Array El} (hi2:scanUp (λx=>!lt cm e[a]! x) e j i=i2) (hj2:scanDown (λx=>lt cm e[a]! x) e i2 j=j2):partEqLoop (lt cm) a i j e=if i2>j2 then (i2,e) else if _h:(j2-1)+1-(i2+1)<j+1-i then partEqLoop (lt cm) a (i2+1) (j2-1) (swp e i2 j2) else (i2,e):=by
 subst hi2 hj2;rw[partEqLoop]
theorem pL {a i j i2 j2:Nat} {e:Array El} (hi2:scanUp (λx=>lt cm x e[a]!) e j i=i2) (hj2:scanDown (λx=>!lt cm x e[a]!) e i2 j=j2):partLoop (lt cm) a i j e=if i2>j2 then (j2,e) else if _h:(j2-1)+1-(i2+1)<j+1-i then partLoop (lt cm) a (i2+1) (j2-1) (swp e i2 j2) else (j2,e):=by
 subst hi2 hj2;rw[partLoop]
variable (g:FuncId) (cm)
variable (hc:∀ x y,Ct P g [VL x,VL y] [.c (eI .i64 (cm x y))])
include hc
theorem pEq_ct (d:Array El) (a b p:Nat) (hab:a<b) (hp:p<d.size) (hb:b≤d.size) (hd:d.size≤1000000) :
  CtO P 206 [dO d] [dA d,.c (nI .i64 a),.c (nI .i64 b),.c (nI .i64 p),.c (.fn g [])] [dO (partitionEqual (lt cm) d a b p).2] [.c (nI .i64 (partitionEqual (lt cm) d a b p).1)]:=by
 have key:∀ F:Nat × Array El,partEqLoop (lt cm) a (a+1) (b-1) (swp d a p)=F→CtO P 206 [dO d] [dA d,.c (nI .i64 a),.c (nI .i64 b),.c (nI .i64 p),.c (.fn g [])] [dO F.2] [.c (nI .i64 F.1)]:=by
  intro F hF;refine Ct.io aj aa (N:=90) Tryz.func206 rfl rfl rfl rfl ?_;refine .intro (by omega) (.intro (by omega) (X1 _ (row_get (d:=d) (n:=p) rfl (by omega)) ?_));refine .intro (by omega) (.intro (by omega) (X1 _ (row_get (d:=d) (n:=a) rfl (by omega)) ?_));refine .intro (by omega) (.intro (by omega) (X1 _ (row_get (d:=d) (n:=a) rfl (by omega)) ?_));refine .intro (by omega) (.intro (by omega) (X1 _ (row_get2 (d:=d) (y:=d[p]!) (m:=a) (n:=p) rfl rfl (by omega)) ?_));refine .intro rfl ?_;refine X1 ((a+1:Nat):Int) (wI (by simp) (by omega) (by omega)) ?_;refine X1 ((b-1:Nat):Int) (wI (by omega) (by omega) (by omega)) ?_;refine aw aj aa (G:=Nat × Nat × Array El) (λ(i,j,e)=>partEqLoop (lt cm) a i j e=F∧e.size=d.size∧1≤i∧j<d.size∧i≤j+2) (λ(i,j,_)=>[(0,.c (.ow 1000000 SZ d.size)),(1,.c (nI .i64 a)),(4,.c (.fn g [])),(11,.c (nI .i64 i)),(12,.c (nI .i64 j))]) (λ(_,_,e)=>[(1000000,.row SZ (row e))]) (λ(i,j,_)=>j+1-i)
   (a+1,b-1,swp d a p) ⟨hF,swp_size,by omega,by omega,by omega⟩ ⟨rfl,rfl,rfl,rfl,rfl,HT⟩ ⟨aB (row_swp (m:=a) (n:=p) rfl rfl),HT⟩ (G2:=Nat × Array El) (λ(i,e)=>F=(i,e)) (λ(i,_)=>[(11,.c (nI .i64 i))]) (λ(_,e)=>[(1000000,.row SZ (row e))]) (λ(i,j,e) hi=>?_) (λ(i,e) he=>?_)
  ·obtain ⟨i1,i2,i3,i4,i5⟩:=hi;refine aw aj aa (G:=Nat) (λq=>scanUp (λx=>!lt cm e[a]! x) e j q=scanUp (λx=>!lt cm e[a]! x) e j i∧i≤q∧(q≤j+1∨q=i)) (λq=>[(0,.c (.ow 1000000 SZ d.size)),(1,.c (nI .i64 a)),(4,.c (.fn g [])),(11,.c (nI .i64 q)),(12,.c (nI .i64 j))]) (λ_=>[(1000000,.row SZ (row e))]) (λq=>j+1-q)
    i ⟨rfl,by omega,by omega⟩ ⟨rfl,rfl,rfl,rfl,rfl,HT⟩ ⟨rfl,HT⟩ (G2:=Nat) (λq=>scanUp (λx=>!lt cm e[a]! x) e j i=q∧i≤q∧(q≤j+1∨q=i)) (λq=>[(0,.c (.ow 1000000 SZ d.size)),(1,.c (nI .i64 a)),(4,.c (.fn g [])),(11,.c (nI .i64 q)),(12,.c (nI .i64 j))]) (λ_=>[(1000000,.row SZ (row e))]) (λq hq=>?_) (λk hk=>?_)
   ·obtain ⟨q1,q2,q3⟩:=hq;refine ah (λh6=>?_) (λh6=>?_)
    ·refine .intro (by omega) (.intro (by omega) (X1 _ (row_get (d:=e) (n:=a) rfl (by omega)) ?_));refine .intro (by omega) (.intro (by omega) (X1 _ (row_get (d:=e) (n:=q) rfl (by omega)) ?_));refine X1 _ (hc _ _) ?_;refine .intro rfl ?_;refine aP (λh7=>?_) (λh7=>?_)
     ·have h7p:(!lt cm e[a]! e[q]!)=true:=h7;rw[sUp_c (p:=(λx=>!lt cm e[a]! x)) (e:=e) (i:=q) (by omega) h7p]at q1;refine X1 ((q+1:Nat):Int) (wI (by simp) (by omega) (by omega)) ?_;exact ⟨q+1,⟨q1,by omega,by omega⟩,by show j+1-(q+1)<j+1-q; omega,⟨rfl,rfl,rfl,rfl,rfl,HT⟩,⟨rfl,HT⟩⟩
     ·have h7p:(!lt cm e[a]! e[q]!)=false:=h7;rw[sUp_b (p:=(λx=>!lt cm e[a]! x)) (e:=e) (i:=q) h7p]at q1;exact ⟨q,⟨q1.symm,q2,q3⟩,⟨rfl,rfl,rfl,rfl,rfl,HT⟩,⟨rfl,HT⟩⟩
    ·refine .intro rfl ?_;rw[sUp_a (by omega)]at q1;exact ⟨q,⟨q1.symm,q2,q3⟩,⟨rfl,rfl,rfl,rfl,rfl,HT⟩,⟨rfl,HT⟩⟩
   ·obtain ⟨k1,k2,k3⟩:=hk;refine aw aj aa (G:=Nat) (λq=>scanDown (λx=>lt cm e[a]! x) e k q=scanDown (λx=>lt cm e[a]! x) e k j∧q≤j∧(k≤q+1∨q=j)) (λq=>[(0,.c (.ow 1000000 SZ d.size)),(1,.c (nI .i64 a)),(4,.c (.fn g [])),(11,.c (nI .i64 k)),(12,.c (nI .i64 q))]) (λ_=>[(1000000,.row SZ (row e))]) (λq=>q)
     j ⟨rfl,by omega,by omega⟩ ⟨rfl,rfl,rfl,rfl,rfl,HT⟩ ⟨rfl,HT⟩ (G2:=Nat) (λq=>scanDown (λx=>lt cm e[a]! x) e k j=q∧q≤j∧(k≤q+1∨q=j)) (λq=>[(0,.c (.ow 1000000 SZ d.size)),(1,.c (nI .i64 a)),(4,.c (.fn g [])),(11,.c (nI .i64 k)),(12,.c (nI .i64 q))]) (λ_=>[(1000000,.row SZ (row e))]) (λq hq=>?_) (λr hr=>?_)
    ·obtain ⟨q1,q2,q3⟩:=hq;refine ah (λh6=>?_) (λh6=>?_)
     ·refine .intro (by omega) (.intro (by omega) (X1 _ (row_get (d:=e) (n:=a) rfl (by omega)) ?_));refine .intro (by omega) (.intro (by omega) (X1 _ (row_get (d:=e) (n:=q) rfl (by omega)) ?_));refine X1 _ (hc _ _) ?_;refine .intro rfl ?_;refine aP (λh7=>?_) (λh7=>?_)
      ·have h7p:lt cm e[a]! e[q]! = true:=h7;rw[sDn_c (p:=(λx=>lt cm e[a]! x)) (e:=e) (j:=q) (by omega) (by omega) h7p]at q1;refine X1 ((q-1:Nat):Int) (wI (by omega) (by omega) (by omega)) ?_;exact ⟨q-1,⟨q1,by omega,by omega⟩,by show q-1<q; omega,⟨rfl,rfl,rfl,rfl,rfl,HT⟩,⟨rfl,HT⟩⟩
      ·have h7p:lt cm e[a]! e[q]! = false:=h7;rw[sDn_b (p:=(λx=>lt cm e[a]! x)) (e:=e) (j:=q) h7p]at q1;exact ⟨q,⟨q1.symm,q2,q3⟩,⟨rfl,rfl,rfl,rfl,rfl,HT⟩,⟨rfl,HT⟩⟩
     ·refine .intro rfl ?_;rw[sDn_a (by omega)]at q1;exact ⟨q,⟨q1.symm,q2,q3⟩,⟨rfl,rfl,rfl,rfl,rfl,HT⟩,⟨rfl,HT⟩⟩
    ·obtain ⟨r1',r2',r3'⟩:=hr;rw[pEqL k1 r1']at i1;refine ah (λh8=>?_) (λh8=>?_)
     ·rw[if_pos (by omega)]at i1;exact ⟨(k,e),i1.symm,⟨rfl,HT⟩,⟨rfl,HT⟩⟩
     ·rw[if_neg (by omega),dif_pos (by omega)]at i1;refine .intro (by omega) (.intro (by omega) (X1 _ (row_get (d:=e) (n:=r) rfl (by omega)) ?_));refine .intro (by omega) (.intro (by omega) (X1 _ (row_get (d:=e) (n:=k) rfl (by omega)) ?_));refine .intro (by omega) (.intro (by omega) (X1 _ (row_get (d:=e) (n:=k) rfl (by omega)) ?_));refine .intro (by omega) (.intro (by omega) (X1 _ (row_get2 (d:=e) (y:=e[r]!) (m:=k) (n:=r) rfl rfl (by omega)) ?_));refine .intro rfl ?_;refine X1 ((k+1:Nat):Int) (wI (by simp) (by omega) (by omega)) ?_;refine X1 ((r-1:Nat):Int) (wI (by omega) (by omega) (by omega)) ?_;exact ⟨(k+1,r-1,swp e k r),⟨i1,by rw[swp_size]; exact i2,by omega,by omega,by omega⟩,by show r-1+1-(k+1)<j+1-i; omega,⟨rfl,rfl,rfl,rfl,rfl,HT⟩,⟨aB (row_swp (m:=k) (n:=r) rfl rfl),HT⟩⟩
  ·rw[he];exact ⟨HT,SubO.of (l:=[(1000000,.row _ _)]) ⟨rfl,HT⟩,r1 rfl,HT⟩
 exact key _ rfl
theorem part_ct (d:Array El) (a b p:Nat) (hab:a<b) (hp:p<d.size) (hb:b≤d.size) (hd:d.size≤1000000) :
  CtO P 207 [dO d] [dA d,.c (nI .i64 a),.c (nI .i64 b),.c (nI .i64 p),.c (.fn g [])] [dO (partition (lt cm) d a b p).2.2] [.c (nI .i64 (partition (lt cm) d a b p).1),.c (.sc (.bool (partition (lt cm) d a b p).2.1))]:=by
 have key:∀ e0:Array El,swp d a p=e0→CtO P 207 [dO d] [dA d,.c (nI .i64 a),.c (nI .i64 b),.c (nI .i64 p),.c (.fn g [])] [dO (partition (lt cm) d a b p).2.2] [.c (nI .i64 (partition (lt cm) d a b p).1),.c (.sc (.bool (partition (lt cm) d a b p).2.1))]:=by
  intro e0 he0;have hpt:partition (lt cm) d a b p=(if scanUp (λx=>lt cm x e0[a]!) e0 (b-1) (a+1)>scanDown (λx=>!lt cm x e0[a]!) e0 (scanUp (λx=>lt cm x e0[a]!) e0 (b-1) (a+1)) (b-1) then (scanDown (λx=>!lt cm x e0[a]!) e0 (scanUp (λx=>lt cm x e0[a]!) e0 (b-1) (a+1)) (b-1),true,swp e0 (scanDown (λx=>!lt cm x e0[a]!) e0 (scanUp (λx=>lt cm x e0[a]!) e0 (b-1) (a+1)) (b-1)) a) else
    ((partLoop (lt cm) a (scanUp (λx=>lt cm x e0[a]!) e0 (b-1) (a+1)+1) (scanDown (λx=>!lt cm x e0[a]!) e0 (scanUp (λx=>lt cm x e0[a]!) e0 (b-1) (a+1)) (b-1)-1) (swp e0 (scanUp (λx=>lt cm x e0[a]!) e0 (b-1) (a+1)) (scanDown (λx=>!lt cm x e0[a]!) e0 (scanUp (λx=>lt cm x e0[a]!) e0 (b-1) (a+1)) (b-1)))).1,false,swp (partLoop (lt cm) a (scanUp (λx=>lt cm x e0[a]!) e0 (b-1) (a+1)+1) (scanDown (λx=>!lt cm x e0[a]!) e0 (scanUp (λx=>lt cm x e0[a]!) e0 (b-1) (a+1)) (b-1)-1) (swp e0 (scanUp (λx=>lt cm x e0[a]!) e0 (b-1) (a+1)) (scanDown (λx=>!lt cm x e0[a]!) e0 (scanUp (λx=>lt cm x e0[a]!) e0 (b-1) (a+1)) (b-1)))).2 (partLoop (lt cm) a (scanUp (λx=>lt cm x e0[a]!) e0 (b-1) (a+1)+1) (scanDown (λx=>!lt cm x e0[a]!) e0 (scanUp (λx=>lt cm x e0[a]!) e0 (b-1) (a+1)) (b-1)-1) (swp e0 (scanUp (λx=>lt cm x e0[a]!) e0 (b-1) (a+1)) (scanDown (λx=>!lt cm x e0[a]!) e0 (scanUp (λx=>lt cm x e0[a]!) e0 (b-1) (a+1)) (b-1)))).1 a)):=by
   rw[←he0]; rfl
  have hs0:e0.size=d.size:=by rw[←he0,swp_size]
  refine Ct.io aj aa (N:=178) Tryz.func207 rfl rfl rfl rfl ?_;refine .intro (by omega) (.intro (by omega) (X1 _ (row_get (d:=d) (n:=p) rfl (by omega)) ?_));refine .intro (by omega) (.intro (by omega) (X1 _ (row_get (d:=d) (n:=a) rfl (by omega)) ?_));refine .intro (by omega) (.intro (by omega) (X1 _ (row_get (d:=d) (n:=a) rfl (by omega)) ?_));refine .intro (by omega) (.intro (by omega) (X1 _ (row_get2 (d:=d) (y:=d[p]!) (m:=a) (n:=p) rfl rfl (by omega)) ?_));refine .intro rfl ?_;have hrow:=row_swp (d:=d) (i:=(a:Int)) (j:=(p:Int)) (m:=a) (n:=p) rfl rfl;rw[he0]at hrow;refine X1 ((a+1:Nat):Int) (wI (by simp) (by omega) (by omega)) ?_;refine X1 ((b-1:Nat):Int) (wI (by omega) (by omega) (by omega)) ?_;refine aw aj aa (G:=Nat) (λq=>scanUp (λx=>lt cm x e0[a]!) e0 (b-1) q=scanUp (λx=>lt cm x e0[a]!) e0 (b-1) (a+1)∧(a+1)≤q∧(q≤(b-1)+1∨q=(a+1))) (λq=>[(0,.c (.ow 1000000 SZ d.size)),(1,.c (nI .i64 a)),(4,.c (.fn g [])),(12,.c (nI .i64 q)),(13,.c (nI .i64 (b-1)))]) (λ_=>[(1000000,.row SZ (row e0))]) (λq=>(b-1)+1-q)
   (a+1) ⟨rfl,by omega,by omega⟩ ⟨rfl,rfl,rfl,rfl,rfl,HT⟩ ⟨aB hrow,HT⟩ (G2:=Nat) (λq=>scanUp (λx=>lt cm x e0[a]!) e0 (b-1) (a+1)=q∧(a+1)≤q∧(q≤(b-1)+1∨q=(a+1))) (λq=>[(0,.c (.ow 1000000 SZ d.size)),(1,.c (nI .i64 a)),(4,.c (.fn g [])),(12,.c (nI .i64 q)),(13,.c (nI .i64 (b-1)))]) (λ_=>[(1000000,.row SZ (row e0))]) (λq hq=>?_) (λk hk=>?_)
  ·obtain ⟨q1,q2,q3⟩:=hq;refine ah (λh6=>?_) (λh6=>?_)
   ·refine .intro (by omega) (.intro (by omega) (X1 _ (row_get (d:=e0) (n:=q) rfl (by omega)) ?_));refine .intro (by omega) (.intro (by omega) (X1 _ (row_get (d:=e0) (n:=a) rfl (by omega)) ?_));refine X1 _ (hc _ _) ?_;refine .intro rfl ?_;refine aP (λh7=>?_) (λh7=>?_)
    ·have h7p:lt cm e0[q]! e0[a]! = true:=h7;rw[sUp_c (p:=(λx=>lt cm x e0[a]!)) (e:=e0) (i:=q) (by omega) h7p]at q1;refine X1 ((q+1:Nat):Int) (wI (by simp) (by omega) (by omega)) ?_;exact ⟨q+1,⟨q1,by omega,by omega⟩,by show (b-1)+1-(q+1)<(b-1)+1-q; omega,⟨rfl,rfl,rfl,rfl,rfl,HT⟩,⟨rfl,HT⟩⟩
    ·have h7p:lt cm e0[q]! e0[a]! = false:=h7;rw[sUp_b (p:=(λx=>lt cm x e0[a]!)) (e:=e0) (i:=q) h7p]at q1;exact ⟨q,⟨q1.symm,q2,q3⟩,⟨rfl,rfl,rfl,rfl,rfl,HT⟩,⟨rfl,HT⟩⟩
   ·refine .intro rfl ?_;rw[sUp_a (by omega)]at q1;exact ⟨q,⟨q1.symm,q2,q3⟩,⟨rfl,rfl,rfl,rfl,rfl,HT⟩,⟨rfl,HT⟩⟩
  ·obtain ⟨k1,k2,k3⟩:=hk;refine aw aj aa (G:=Nat) (λq=>scanDown (λx=>!lt cm x e0[a]!) e0 k q=scanDown (λx=>!lt cm x e0[a]!) e0 k (b-1)∧q≤(b-1)∧(k≤q+1∨q=(b-1))) (λq=>[(0,.c (.ow 1000000 SZ d.size)),(1,.c (nI .i64 a)),(4,.c (.fn g [])),(12,.c (nI .i64 k)),(13,.c (nI .i64 q))]) (λ_=>[(1000000,.row SZ (row e0))]) (λq=>q)
    (b-1) ⟨rfl,by omega,by omega⟩ ⟨rfl,rfl,rfl,rfl,rfl,HT⟩ ⟨rfl,HT⟩ (G2:=Nat) (λq=>scanDown (λx=>!lt cm x e0[a]!) e0 k (b-1)=q∧q≤(b-1)∧(k≤q+1∨q=(b-1))) (λq=>[(0,.c (.ow 1000000 SZ d.size)),(1,.c (nI .i64 a)),(4,.c (.fn g [])),(12,.c (nI .i64 k)),(13,.c (nI .i64 q))]) (λ_=>[(1000000,.row SZ (row e0))]) (λq hq=>?_) (λr hr=>?_)
   ·obtain ⟨q1,q2,q3⟩:=hq;refine ah (λh6=>?_) (λh6=>?_)
    ·refine .intro (by omega) (.intro (by omega) (X1 _ (row_get (d:=e0) (n:=q) rfl (by omega)) ?_));refine .intro (by omega) (.intro (by omega) (X1 _ (row_get (d:=e0) (n:=a) rfl (by omega)) ?_));refine X1 _ (hc _ _) ?_;refine .intro rfl ?_;refine aP (λh7=>?_) (λh7=>?_)
     ·have h7p:(!lt cm e0[q]! e0[a]!)=true:=h7;rw[sDn_c (p:=(λx=>!lt cm x e0[a]!)) (e:=e0) (j:=q) (by omega) (by omega) h7p]at q1;refine X1 ((q-1:Nat):Int) (wI (by omega) (by omega) (by omega)) ?_;exact ⟨q-1,⟨q1,by omega,by omega⟩,by show q-1<q; omega,⟨rfl,rfl,rfl,rfl,rfl,HT⟩,⟨rfl,HT⟩⟩
     ·have h7p:(!lt cm e0[q]! e0[a]!)=false:=h7;rw[sDn_b (p:=(λx=>!lt cm x e0[a]!)) (e:=e0) (j:=q) h7p]at q1;exact ⟨q,⟨q1.symm,q2,q3⟩,⟨rfl,rfl,rfl,rfl,rfl,HT⟩,⟨rfl,HT⟩⟩
    ·refine .intro rfl ?_;rw[sDn_a (by omega)]at q1;exact ⟨q,⟨q1.symm,q2,q3⟩,⟨rfl,rfl,rfl,rfl,rfl,HT⟩,⟨rfl,HT⟩⟩
   ·obtain ⟨s1,s2,s3⟩:=hr;rw[k1,s1]at hpt;refine ah (λh8=>?_) (λh8=>?_)
    ·rw[if_pos (by omega)]at hpt;rw[hpt];refine .intro (by omega) (.intro (by omega) (X1 _ (row_get (d:=e0) (n:=a) rfl (by omega)) ?_));refine .intro (by omega) (.intro (by omega) (X1 _ (row_get (d:=e0) (n:=r) rfl (by omega)) ?_));refine .intro (by omega) (.intro (by omega) (X1 _ (row_get (d:=e0) (n:=r) rfl (by omega)) ?_));refine .intro (by omega) (.intro (by omega) (X1 _ (row_get2 (d:=e0) (y:=e0[a]!) (m:=r) (n:=a) rfl rfl (by omega)) ?_));refine .intro rfl ?_;exact ⟨HT,SubO.of (l:=[(1000000,.row _ _)]) ⟨aB (row_swp (m:=r) (n:=a) rfl rfl),HT⟩,r1 rfl,r1 rfl,HT⟩
    ·rw[if_neg (by omega)]at hpt;rw[hpt];refine .intro (by omega) (.intro (by omega) (X1 _ (row_get (d:=e0) (n:=r) rfl (by omega)) ?_));refine .intro (by omega) (.intro (by omega) (X1 _ (row_get (d:=e0) (n:=k) rfl (by omega)) ?_));refine .intro (by omega) (.intro (by omega) (X1 _ (row_get (d:=e0) (n:=k) rfl (by omega)) ?_));refine .intro (by omega) (.intro (by omega) (X1 _ (row_get2 (d:=e0) (y:=e0[r]!) (m:=k) (n:=r) rfl rfl (by omega)) ?_));refine .intro rfl ?_;have hrow2:=row_swp (d:=e0) (i:=(k:Int)) (j:=(r:Int)) (m:=k) (n:=r) rfl rfl;have hs1:(swp e0 k r).size=d.size:=by rw[swp_size]; exact hs0
     generalize swp e0 k r=e1 at *
     generalize hF:partLoop (lt cm) a (k+1) (r-1) e1=F at *
     refine X1 ((k+1:Nat):Int) (wI (by simp) (by omega) (by omega)) ?_;refine X1 ((r-1:Nat):Int) (wI (by omega) (by omega) (by omega)) ?_;refine aw aj aa (G:=Nat × Nat × Array El) (λ(i,j,e)=>partLoop (lt cm) a i j e=F∧e.size=d.size∧1≤i∧j<d.size∧i≤j+2) (λ(i,j,_)=>[(0,.c (.ow 1000000 SZ d.size)),(1,.c (nI .i64 a)),(4,.c (.fn g [])),(12,.c (nI .i64 i)),(13,.c (nI .i64 j))]) (λ(_,_,e)=>[(1000000,.row SZ (row e))]) (λ(i,j,_)=>j+1-i)
      (k+1,r-1,e1) ⟨hF,hs1,by omega,by omega,by omega⟩ ⟨rfl,rfl,rfl,rfl,rfl,HT⟩ ⟨aB hrow2,HT⟩ (G2:=Nat × Array El) (λ(j,e)=>F=(j,e)∧j<d.size∧e.size=d.size) (λ(j,_)=>[(0,.c (.ow 1000000 SZ d.size)),(1,.c (nI .i64 a)),(13,.c (nI .i64 j))]) (λ(_,e)=>[(1000000,.row SZ (row e))]) (λ(i,j,e) hi=>?_) (λ(j,e) he=>?_)
     ·obtain ⟨i1,i2,i3,i4,i5⟩:=hi;refine aw aj aa (G:=Nat) (λq=>scanUp (λx=>lt cm x e[a]!) e j q=scanUp (λx=>lt cm x e[a]!) e j i∧i≤q∧(q≤j+1∨q=i)) (λq=>[(0,.c (.ow 1000000 SZ d.size)),(1,.c (nI .i64 a)),(4,.c (.fn g [])),(12,.c (nI .i64 q)),(13,.c (nI .i64 j))]) (λ_=>[(1000000,.row SZ (row e))]) (λq=>j+1-q)
       i ⟨rfl,by omega,by omega⟩ ⟨rfl,rfl,rfl,rfl,rfl,HT⟩ ⟨rfl,HT⟩ (G2:=Nat) (λq=>scanUp (λx=>lt cm x e[a]!) e j i=q∧i≤q∧(q≤j+1∨q=i)) (λq=>[(0,.c (.ow 1000000 SZ d.size)),(1,.c (nI .i64 a)),(4,.c (.fn g [])),(12,.c (nI .i64 q)),(13,.c (nI .i64 j))]) (λ_=>[(1000000,.row SZ (row e))]) (λq hq=>?_) (λu hu=>?_)
      ·obtain ⟨q1,q2,q3⟩:=hq;refine ah (λh6=>?_) (λh6=>?_)
       ·refine .intro (by omega) (.intro (by omega) (X1 _ (row_get (d:=e) (n:=q) rfl (by omega)) ?_));refine .intro (by omega) (.intro (by omega) (X1 _ (row_get (d:=e) (n:=a) rfl (by omega)) ?_));refine X1 _ (hc _ _) ?_;refine .intro rfl ?_;refine aP (λh7=>?_) (λh7=>?_)
        ·have h7p:lt cm e[q]! e[a]! = true:=h7;rw[sUp_c (p:=(λx=>lt cm x e[a]!)) (e:=e) (i:=q) (by omega) h7p]at q1;refine X1 ((q+1:Nat):Int) (wI (by simp) (by omega) (by omega)) ?_;exact ⟨q+1,⟨q1,by omega,by omega⟩,by show j+1-(q+1)<j+1-q; omega,⟨rfl,rfl,rfl,rfl,rfl,HT⟩,⟨rfl,HT⟩⟩
        ·have h7p:lt cm e[q]! e[a]! = false:=h7;rw[sUp_b (p:=(λx=>lt cm x e[a]!)) (e:=e) (i:=q) h7p]at q1;exact ⟨q,⟨q1.symm,q2,q3⟩,⟨rfl,rfl,rfl,rfl,rfl,HT⟩,⟨rfl,HT⟩⟩
       ·refine .intro rfl ?_;rw[sUp_a (by omega)]at q1;exact ⟨q,⟨q1.symm,q2,q3⟩,⟨rfl,rfl,rfl,rfl,rfl,HT⟩,⟨rfl,HT⟩⟩
      ·obtain ⟨u1,u2,u3⟩:=hu;refine aw aj aa (G:=Nat) (λq=>scanDown (λx=>!lt cm x e[a]!) e u q=scanDown (λx=>!lt cm x e[a]!) e u j∧q≤j∧(u≤q+1∨q=j)) (λq=>[(0,.c (.ow 1000000 SZ d.size)),(1,.c (nI .i64 a)),(4,.c (.fn g [])),(12,.c (nI .i64 u)),(13,.c (nI .i64 q))]) (λ_=>[(1000000,.row SZ (row e))]) (λq=>q)
        j ⟨rfl,by omega,by omega⟩ ⟨rfl,rfl,rfl,rfl,rfl,HT⟩ ⟨rfl,HT⟩ (G2:=Nat) (λq=>scanDown (λx=>!lt cm x e[a]!) e u j=q∧q≤j∧(u≤q+1∨q=j)) (λq=>[(0,.c (.ow 1000000 SZ d.size)),(1,.c (nI .i64 a)),(4,.c (.fn g [])),(12,.c (nI .i64 u)),(13,.c (nI .i64 q))]) (λ_=>[(1000000,.row SZ (row e))]) (λq hq=>?_) (λv hv=>?_)
       ·obtain ⟨q1,q2,q3⟩:=hq;refine ah (λh6=>?_) (λh6=>?_)
        ·refine .intro (by omega) (.intro (by omega) (X1 _ (row_get (d:=e) (n:=q) rfl (by omega)) ?_));refine .intro (by omega) (.intro (by omega) (X1 _ (row_get (d:=e) (n:=a) rfl (by omega)) ?_));refine X1 _ (hc _ _) ?_;refine .intro rfl ?_;refine aP (λh7=>?_) (λh7=>?_)
         ·have h7p:(!lt cm e[q]! e[a]!)=true:=h7;rw[sDn_c (p:=(λx=>!lt cm x e[a]!)) (e:=e) (j:=q) (by omega) (by omega) h7p]at q1;refine X1 ((q-1:Nat):Int) (wI (by omega) (by omega) (by omega)) ?_;exact ⟨q-1,⟨q1,by omega,by omega⟩,by show q-1<q; omega,⟨rfl,rfl,rfl,rfl,rfl,HT⟩,⟨rfl,HT⟩⟩
         ·have h7p:(!lt cm e[q]! e[a]!)=false:=h7;rw[sDn_b (p:=(λx=>!lt cm x e[a]!)) (e:=e) (j:=q) h7p]at q1;exact ⟨q,⟨q1.symm,q2,q3⟩,⟨rfl,rfl,rfl,rfl,rfl,HT⟩,⟨rfl,HT⟩⟩
        ·refine .intro rfl ?_;rw[sDn_a (by omega)]at q1;exact ⟨q,⟨q1.symm,q2,q3⟩,⟨rfl,rfl,rfl,rfl,rfl,HT⟩,⟨rfl,HT⟩⟩
       ·obtain ⟨v1,v2,v3⟩:=hv;rw[pL u1 v1]at i1;refine ah (λh8=>?_) (λh8=>?_)
        ·rw[if_pos (by omega)]at i1;exact ⟨(v,e),⟨i1.symm,by omega,i2⟩,⟨rfl,rfl,rfl,HT⟩,⟨rfl,HT⟩⟩
        ·rw[if_neg (by omega),dif_pos (by omega)]at i1;refine .intro (by omega) (.intro (by omega) (X1 _ (row_get (d:=e) (n:=v) rfl (by omega)) ?_));refine .intro (by omega) (.intro (by omega) (X1 _ (row_get (d:=e) (n:=u) rfl (by omega)) ?_));refine .intro (by omega) (.intro (by omega) (X1 _ (row_get (d:=e) (n:=u) rfl (by omega)) ?_));refine .intro (by omega) (.intro (by omega) (X1 _ (row_get2 (d:=e) (y:=e[v]!) (m:=u) (n:=v) rfl rfl (by omega)) ?_));refine .intro rfl ?_;refine X1 ((u+1:Nat):Int) (wI (by simp) (by omega) (by omega)) ?_;refine X1 ((v-1:Nat):Int) (wI (by omega) (by omega) (by omega)) ?_;exact ⟨(u+1,v-1,swp e u v),⟨i1,by rw[swp_size]; exact i2,by omega,by omega,by omega⟩,by show v-1+1-(u+1)<j+1-i; omega,⟨rfl,rfl,rfl,rfl,rfl,HT⟩,⟨aB (row_swp (m:=u) (n:=v) rfl rfl),HT⟩⟩
     ·obtain ⟨g1,g2,g3⟩:=he;rw[g1];refine .intro (by omega) (.intro (by omega) (X1 _ (row_get (d:=e) (n:=a) rfl (by omega)) ?_));refine .intro (by omega) (.intro (by omega) (X1 _ (row_get (d:=e) (n:=j) rfl (by omega)) ?_));refine .intro (by omega) (.intro (by omega) (X1 _ (row_get (d:=e) (n:=j) rfl (by omega)) ?_));refine .intro (by omega) (.intro (by omega) (X1 _ (row_get2 (d:=e) (y:=e[a]!) (m:=j) (n:=a) rfl rfl (by omega)) ?_));refine .intro rfl ?_;exact ⟨HT,SubO.of (l:=[(1000000,.row _ _)]) ⟨aB (row_swp (m:=j) (n:=a) rfl rfl),HT⟩,r1 rfl,r1 rfl,HT⟩
 exact key _ rfl
end Go.Proofs.YtgceikecdedfcaaGreat.Pv.SrtC
namespace Go.Proofs.YtgceikecdedfcaaGreat.Pv.SrtC
open Go Go.Sort
section
variable {cm:El→El→Int} {a b lim:Nat} {wb wp:Bool} {d:Array El}
theorem pdq_s (h:b-a≤12):pdq (lt cm) d a b lim wb wp=insertionSort (lt cm) d a b:=by rw[pdq,if_pos h]
theorem pdq_h (h:¬ b-a≤12) (h0:lim=0):pdq (lt cm) d a b lim wb wp=heapSort (lt cm) d a b:=by rw[pdq,if_neg h,if_pos h0]
theorem pdq_r (h:¬ b-a≤12) (h0:¬ lim=0) {d1 d2 d3:Array El} {lim1 pv:Nat} {hint:Hint} {done:Bool} (hd1:(if (!wb)=true then breakPatterns d a b else d)=d1) (hl1:(if (!wb)=true then lim-1 else lim)=lim1) (hd2:(if (choosePivot (lt cm) d1 a b).2 = .decreasing then reverseRange d1 a b else d1)=d2)
  (hpv:(if (choosePivot (lt cm) d1 a b).2 = .decreasing then (b-1)-((choosePivot (lt cm) d1 a b).1-a) else (choosePivot (lt cm) d1 a b).1)=pv) (hh:(if (choosePivot (lt cm) d1 a b).2 = .decreasing then Hint.increasing else (choosePivot (lt cm) d1 a b).2)=hint)
  (hp:(if (wb&&wp&&decide (hint = .increasing))=true then partialInsertionSort (lt cm) d2 a b else (d2,false))=(d3,done)) :
  pdq (lt cm) d a b lim wb wp=if done=true then d3 else
   if (decide (a>0) && !(lt cm) d3[a-1]! d3[pv]!)=true then (match partitionEqual (lt cm) d3 a b pv with
    | (mid,d4)=>if _h:a<mid∧mid≤b then pdq (lt cm) d4 mid b lim1 wb wp else d4)
   else match partition (lt cm) d3 a b pv with
    | (mid,ap,d4)=>if _h:a≤mid∧mid<b then
      if mid-a<b-mid then pdq (lt cm) (pdq (lt cm) d4 a mid lim1 true true) (mid+1) b lim1 (decide (mid-a≥(b-a)/8)) ap
      else pdq (lt cm) (pdq (lt cm) d4 (mid+1) b lim1 true true) a mid lim1 (decide (b-mid≥(b-a)/8)) ap
     else d4:=by
 subst hd1 hl1 hd2 hpv hh;rw[pdq,if_neg h,if_neg h0];have e1:=congrArg Prod.fst hp;have e2:=congrArg Prod.snd hp;simp only[]at e1 e2;simp only[e1,e2]
end
theorem quo8 {x:Int} {n:Nat} (h:x=n):x.tdiv 8=((n/8:Nat):Int):=by
 subst h; rw[FS (by omega)]; omega
variable (g:FuncId) (cm:El→El→Int)
variable (hc:∀ x y,Ct P g [VL x,VL y] [.c (eI .i64 (cm x y))]) (hw:SWO (lt cm))
structure Prt (d:Array El) (n a b:Nat):Prop where
 sz:d.size=n
 ab:a≤b
 bn:b≤n
 bel:Below (lt cm) a b d
include hc hw
theorem pdq_ct:∀ (n:Nat) (d:Array El) (a b lim:Nat),b-a≤n→Prt cm d d.size a b→d.size≤1000000→lim≤1000 →
  CtO P 188 [dO d] [dA d,.c (nI .i64 a),.c (nI .i64 b),.c (nI .i64 lim),.c (.fn g [])] [dO (pdq (lt cm) d a b lim true true)] []:=by
 intro n
 induction n using Nat.strongRecOn with
 | _ n ih=>
 intro d0 a0 b0 lim0 hn hprt hsz hlim0;generalize hF:pdq (lt cm) d0 a0 b0 lim0 true true=F;have self:∀ (d:Array El) (a b lim:Nat),b-a<n→Prt cm d d0.size a b→lim≤1000→CtO P 188 [dO d] [.c (.ow 1000000 SZ d0.size),.c (nI .i64 a),.c (nI .i64 b),.c (nI .i64 lim),.c (.fn g [])] [dO (pdq (lt cm) d a b lim true true)] []:=by
  intro d a b lim h1 h2 h3;have:=ih (b-a) h1 d a b lim (EM _) (by rw[h2.sz]; exact h2) (by rw[h2.sz]; exact hsz) h3;rwa [dA,h2.sz]at this
 refine Ct.io aj aa (N:=148) Tryz.func188 rfl rfl rfl rfl ?_;refine y8 (G:=Nat × Nat × Nat × Bool × Bool × Array El) (λ(a,b,lim,wb,wp,d)=>pdq (lt cm) d a b lim wb wp=F∧Prt cm d d0.size a b∧lim≤1000∧b-a≤n) (λ(a,b,lim,wb,wp,_)=>[(0,.c (.ow 1000000 SZ d0.size)),(1,.c (nI .i64 a)),(2,.c (nI .i64 b)),(3,.c (nI .i64 lim)),(4,.c (.fn g [])),(10,.c (.sc (.bool wb))),(11,.c (.sc (.bool wp)))]) (λ(_,_,_,_,_,d)=>[(1000000,.row SZ (row d))]) (λ(a,b,_,_,_,_)=>b-a)
  (a0,b0,lim0,true,true,d0) ⟨hF,hprt,hlim0,hn⟩ ⟨rfl,rfl,rfl,rfl,rfl,rfl,rfl,HT⟩ ⟨rfl,HT⟩ (λ(a,b,lim,wb,wp,d) hi=>?_)
 obtain ⟨i1,i2,i3,i4⟩:=hi;have hds:=i2.sz;have hab:=i2.ab;have hbs:=i2.bn;refine gU ?_;refine dI aj aa ?_;refine X1 ((b-a:Nat):Int) (wI (by omega) (by omega) (by omega)) ?_;refine dI aj aa ?_;refine ah (λh12=>?_) (λh12=>?_)
 ·rw[pdq_s (by omega)]at i1;have hs:=ins_ct g cm hc d a b hab (by omega) (by omega);rw[dA,hds,i1]at hs;refine X2 (.upd 1000000) ?_;refine ⟨_,_,hs,?_⟩;exact ⟨HT,SubO.of (l:=[(1000000,.row _ _)]) ⟨rfl,HT⟩,HT⟩
 refine dI aj aa ?_;refine aT (λhl0=>?_) (λhl0=>?_)
 ·rw[pdq_h (by omega) (by omega)]at i1;have hs:=heap_ct g cm hc d a b (by omega) (by omega) (by omega);rw[dA,hds,i1]at hs;refine X2 (.upd 1000000) ?_;refine ⟨_,_,hs,?_⟩;exact ⟨HT,SubO.of (l:=[(1000000,.row _ _)]) ⟨rfl,HT⟩,HT⟩
 have hstep:=@pdq_r cm a b lim wb wp d (by omega) (by omega);refine mH aj aa (G2:=Nat × Array El) (λ(l1,d1)=>(if (!wb)=true then breakPatterns d a b else d)=d1∧(if (!wb)=true then lim-1 else lim)=l1∧Prt cm d1 d0.size a b∧l1≤1000)
  (λ(l1,_)=>[(0,.c (.ow 1000000 SZ d0.size)),(1,.c (nI .i64 a)),(2,.c (nI .i64 b)),(3,.c (nI .i64 l1)),(4,.c (.fn g [])),(10,.c (.sc (.bool wb))),(11,.c (.sc (.bool wp))),(12,.c (nI .i64 (b-a)))]) (λ(_,d1)=>[(1000000,.row SZ (row d1))]) ?_ (λ(l1,d1) h1=>?_)
 ·refine aP (λhb1=>?_) (λhb1=>?_)
  ·have hp:=breakPatterns_holds d a b hab (by omega);have hs:=break_ct g d a b (by omega) (by omega) (by omega);rw[dA,hds]at hs;refine X2 (.upd 1000000) ?_;refine ⟨_,_,hs,?_⟩;refine X1 ((lim-1:Nat):Int) (wI (by omega) (by omega) (by omega)) ?_;exact ⟨(lim-1,breakPatterns d a b),⟨if_pos hb1,if_pos hb1,⟨by rw[hp.1]; exact hds,hab,hbs,i2.bel.perm (by omega) hp⟩,by omega⟩,⟨rfl,rfl,rfl,rfl,rfl,rfl,rfl,rfl,HT⟩,⟨rfl,HT⟩⟩
  ·exact ⟨(lim,d),⟨if_neg (by rw[hb1]; simp),if_neg (by rw[hb1]; simp),i2,i3⟩,⟨rfl,rfl,rfl,rfl,rfl,rfl,rfl,rfl,HT⟩,⟨rfl,HT⟩⟩
 obtain ⟨e1,e2,p1,l1b⟩:=h1;have hd1s:=p1.sz;refine dI aj aa ?_;have hcp:=choosePivot_holds (lt cm) d1 a b (by omega);have hs:=choose_ct g cm hc d1 a b (by omega) (by omega) (by omega);rw[dA,hd1s]at hs;refine X2 (.upd 1000000) ?_;refine ⟨_,_,hs,?_⟩;have hstep2:=λ(d2 d3:Array El) (pv:Nat) (hint:Hint) (done:Bool)=>@hstep d1 d2 d3 l1 pv hint done e1 e2
 generalize choosePivot (lt cm) d1 a b=cp at *
 obtain ⟨pv0,hint0⟩:=cp;refine mH aj aa (G2:=Nat × Hint × Array El) (λ(pv,hint,d2)=>(if hint0 = .decreasing then reverseRange d1 a b else d1)=d2∧(if hint0 = .decreasing then (b-1)-(pv0-a) else pv0)=pv∧(if hint0 = .decreasing then Hint.increasing else hint0)=hint∧Prt cm d2 d0.size a b∧a≤pv∧pv<b)
  (λ(pv,hint,_)=>[(0,.c (.ow 1000000 SZ d0.size)),(1,.c (nI .i64 a)),(2,.c (nI .i64 b)),(3,.c (nI .i64 l1)),(4,.c (.fn g [])),(10,.c (.sc (.bool wb))),(11,.c (.sc (.bool wp))),(12,.c (nI .i64 (b-a))),(13,.c (nI .i64 pv)),(14,.c (eI .i64 (hV hint)))]) (λ(_,_,d2)=>[(1000000,.row SZ (row d2))]) ?_ (λ(pv,hint,d2) h2=>?_)
 ·refine aT (λhh=>?_) (λhh=>?_)
  ·have hdec:hint0 = .decreasing:=by cases hint0<;>first | rfl | (exfalso; simp only[hV]at hh; omega)
   have hp:=reverseRange_holds d1 a b hab (by omega);have hs:=reverse_ct g d1 a b (by omega) (by omega) (by omega);rw[dA,hd1s]at hs;refine X2 (.upd 1000000) ?_;refine ⟨_,_,hs,?_⟩;simp only at hcp;refine X1 ((b-1:Nat):Int) (wI (by omega) (by omega) (by omega)) ?_;refine X1 ((pv0-a:Nat):Int) (wI (by omega) (by omega) (by omega)) ?_;refine X1 ((b-1-(pv0-a):Nat):Int) (wI (by omega) (by omega) (by omega)) ?_;exact ⟨(b-1-(pv0-a),.increasing,reverseRange d1 a b),⟨if_pos hdec,if_pos hdec,if_pos hdec,⟨by rw[hp.1]; exact hd1s,hab,hbs,p1.bel.perm (by omega) hp⟩,by omega,by omega⟩,⟨rfl,rfl,rfl,rfl,rfl,rfl,rfl,rfl,rfl,rfl,HT⟩,⟨rfl,HT⟩⟩
  ·have hdec:¬ hint0 = .decreasing:=λh=>by subst h; exact hh rfl
   simp only at hcp;exact ⟨(pv0,hint0,d1),⟨if_neg hdec,if_neg hdec,if_neg hdec,p1,hcp.1,hcp.2⟩,⟨rfl,rfl,rfl,rfl,rfl,rfl,rfl,rfl,rfl,rfl,HT⟩,⟨rfl,HT⟩⟩
 obtain ⟨e3,e4,e5,p2,pva,pvb⟩:=h2;have hd2s:=p2.sz;have hstep3:=λ(d3:Array El) (done:Bool)=>hstep2 d2 d3 pv hint done e3 e4 e5
 refine mH aj aa (G2:=Array El) (λd3=>(if (wb&&wp&&decide (hint = .increasing))=true then partialInsertionSort (lt cm) d2 a b else (d2,false))=(d3,false)∧Prt cm d3 d0.size a b)
  (λ_=>[(0,.c (.ow 1000000 SZ d0.size)),(1,.c (nI .i64 a)),(2,.c (nI .i64 b)),(3,.c (nI .i64 l1)),(4,.c (.fn g [])),(10,.c (.sc (.bool wb))),(11,.c (.sc (.bool wp))),(12,.c (nI .i64 (b-a))),(13,.c (nI .i64 pv))]) (λd3=>[(1000000,.row SZ (row d3))]) ?_ (λd3 h3=>?_)
 ·have no:(wb&&wp&&decide (hint = .increasing))=false→∃ g2,((if (wb&&wp&&decide (hint = .increasing))=true then partialInsertionSort (lt cm) d2 a b else (d2,false))=(g2,false)∧Prt cm g2 d0.size a b)∧g2=d2:=λh=>⟨d2,⟨if_neg (by rw[h]; simp),p2⟩,rfl⟩
  refine aP (λhwb=>?_) (λhwb=>?_)
  ·subst hwb;refine aP (λhwp=>?_) (λhwp=>?_)
   ·subst hwp;refine aT (λhh=>?_) (λhh=>?_)
    ·have hinc:hint = .increasing:=by cases hint<;>first | rfl | (exfalso; simp only[hV]at hh; omega)
     have hp:=(partialInsertionSort_holds (lt:=lt cm) hw d2 a b (by omega) (by omega) p2.bel).1;have hs:=pIns_ct g cm hc d2 a b (by omega) (by omega) (by omega);have hcond:(true&&true&&decide (hint = .increasing))=true:=by rw[hinc]; rfl
     rw[if_pos hcond]at hstep3 ⊢;rw[dA,hd2s]at hs;refine X2 (.upd 1000000) ?_;refine ⟨_,_,hs,?_⟩;generalize hpi:partialInsertionSort (lt cm) d2 a b=pi at *
     obtain ⟨d3,done⟩:=pi;refine aP (λhdn=>?_) (λhdn=>?_)
     ·have hdn':done=true:=hdn;have:=hstep3 d3 done rfl;rw[if_pos hdn',i1]at this;rw[this];exact ⟨HT,SubO.of (l:=[(1000000,.row _ _)]) ⟨rfl,HT⟩,HT⟩
     ·have hdn':done=false:=hdn;subst hdn';exact ⟨d3,⟨rfl,⟨by rw[hp.1]; exact hd2s,hab,hbs,p2.bel.perm (by omega) hp⟩⟩,⟨rfl,rfl,rfl,rfl,rfl,rfl,rfl,rfl,rfl,HT⟩,⟨rfl,HT⟩⟩
    ·have hinc:¬ hint = .increasing:=λh=>by subst h; exact hh rfl
     obtain ⟨d3,h1,h2⟩:=no (by simp[hinc]);subst h2;exact ⟨d3,h1,⟨rfl,rfl,rfl,rfl,rfl,rfl,rfl,rfl,rfl,HT⟩,⟨rfl,HT⟩⟩
   ·subst hwp;obtain ⟨d3,h1,h2⟩:=no rfl;subst h2;exact ⟨d3,h1,⟨rfl,rfl,rfl,rfl,rfl,rfl,rfl,rfl,rfl,HT⟩,⟨rfl,HT⟩⟩
  ·subst hwb;obtain ⟨d3,h1,h2⟩:=no rfl;subst h2;exact ⟨d3,h1,⟨rfl,rfl,rfl,rfl,rfl,rfl,rfl,rfl,rfl,HT⟩,⟨rfl,HT⟩⟩
 obtain ⟨e6,p3⟩:=h3;have hd3s:=p3.sz;have hst:=hstep3 d3 false e6;rw[if_neg (by simp),i1]at hst;clear hstep3 hstep2 hstep e6;refine mH aj aa (G2:=Unit) (λ_=>(decide (a>0) && !(lt cm) d3[a-1]! d3[pv]!)=false)
  (λ_=>[(0,.c (.ow 1000000 SZ d0.size)),(1,.c (nI .i64 a)),(2,.c (nI .i64 b)),(3,.c (nI .i64 l1)),(4,.c (.fn g [])),(12,.c (nI .i64 (b-a))),(13,.c (nI .i64 pv))]) (λ_=>[(1000000,.row SZ (row d3))]) ?_ (λ_ h4=>?_)
 ·refine ah (λha=>?_) (λha=>?_)
  ·refine X1 ((a-1:Nat):Int) (wI (by omega) (by omega) (by omega)) ?_;refine .intro (by omega) (.intro (by omega) (X1 _ (row_get (d:=d3) (n:=a-1) rfl (by omega)) ?_));refine .intro (by omega) (.intro (by omega) (X1 _ (row_get (d:=d3) (n:=pv) rfl (by omega)) ?_));refine X1 _ (hc _ _) ?_;refine .intro rfl ?_;refine aP (λhq=>?_) (λhq=>?_)
   ·have hnl:lt cm d3[a-1]! d3[pv]! = false:=by simpa [lt] using hq
    rw[if_pos (by rw[hnl]; simp; omega)]at hst;have hs:=pEq_ct cm g hc d3 a b pv (by omega) (by omega) (by omega) (by omega);rw[dA,hd3s]at hs;generalize hx:partitionEqual (lt cm) d3 a b pv=px at *
    obtain ⟨mid,d4⟩:=px;obtain ⟨r1',r2',r3',r4',_⟩:=round_eq hw (partitionEqual_holds (lt cm)) (by omega) pva pvb (by omega) p3.bel hnl hx;refine X2 (.upd 1000000) ?_;refine ⟨_,_,hs,?_⟩;simp only at hst;rw[dif_pos ⟨r1',r2'⟩]at hst;exact ⟨(mid,b,l1,wb,wp,d4),⟨hst.symm,⟨by rw[r3']; exact hd3s,r2',hbs,r4'⟩,l1b,by omega⟩,by show b-mid<b-a; omega,⟨rfl,rfl,rfl,rfl,rfl,rfl,rfl,HT⟩,⟨rfl,HT⟩⟩
   ·have hnl:lt cm d3[a-1]! d3[pv]! = true:=by simpa [lt] using hq
    exact ⟨(),by rw[hnl]; simp,⟨rfl,rfl,rfl,rfl,rfl,rfl,rfl,HT⟩,⟨rfl,HT⟩⟩
  ·refine .intro rfl ?_;exact ⟨(),by rw[decide_eq_false (by omega)]; rfl,⟨rfl,rfl,rfl,rfl,rfl,rfl,rfl,HT⟩,⟨rfl,HT⟩⟩
 rw[if_neg (by rw[h4]; simp)]at hst;have hs:=part_ct cm g hc d3 a b pv (by omega) (by omega) (by omega) (by omega);rw[dA,hd3s]at hs;generalize hx:partition (lt cm) d3 a b pv=px at *
 obtain ⟨mid,ap,d4⟩:=px;obtain ⟨m1,m2,m3,m4,m5,m6,m7⟩:=round_part hw (partition_holds (lt cm)) pva pvb (by omega) p3.bel hx;simp only at hst;rw[dif_pos ⟨m1,m2⟩]at hst;have hd4s:d4.size=d0.size:=by rw[m3]; exact hd3s
 refine nT aj aa ?_;refine X2 (.upd 1000000) ?_;refine ⟨_,_,hs,?_⟩;refine X1 ((mid-a:Nat):Int) (wI (by omega) (by omega) (by omega)) ?_;refine X1 ((b-mid:Nat):Int) (wI (by omega) (by omega) (by omega)) ?_;refine .intro (by omega) (X1 _ (quo8 rfl) (.intro ⟨by omega,by omega⟩ ?_));refine ah (λhlt=>?_) (λhlt=>?_)
 ·rw[if_pos (by omega)]at hst;have hL:=pdq_sorts (lt cm) hw d4 a mid l1 true true m1 (by omega) m4;have hs:=self d4 a mid l1 (by omega) ⟨hd4s,m1,by omega,m4⟩ l1b;refine X2 (.upd 1000000) ?_;refine ⟨_,_,hs,?_⟩;refine X1 ((mid+1:Nat):Int) (wI (by simp) (by omega) (by omega)) ?_;exact ⟨(mid+1,b,l1,decide (mid-a≥(b-a)/8),ap,pdq (lt cm) d4 a mid l1 true true),⟨hst.symm,⟨by rw[hL.1.1]; exact hd4s,by omega,hbs,(m6 _ hL.1 hL.2).1⟩,l1b,by omega⟩,by show b-(mid+1)<b-a; omega,⟨rfl,rfl,rfl,rfl,rfl,blC (by rw[decide_eq_decide]; omega),rfl,HT⟩,⟨rfl,HT⟩⟩
 ·rw[if_neg (by omega)]at hst;have hL:=pdq_sorts (lt cm) hw d4 (mid+1) b l1 true true (by omega) (by omega) m5;have hs:=self d4 (mid+1) b l1 (by omega) ⟨hd4s,by omega,hbs,m5⟩ l1b;refine X1 ((mid+1:Nat):Int) (wI (by simp) (by omega) (by omega)) ?_;refine X2 (.upd 1000000) ?_;refine ⟨_,_,hs,?_⟩;exact ⟨(a,mid,l1,decide (b-mid≥(b-a)/8),ap,pdq (lt cm) d4 (mid+1) b l1 true true),⟨hst.symm,⟨by rw[hL.1.1]; exact hd4s,m1,by omega,(m7 _ hL.1 hL.2).1⟩,l1b,by omega⟩,by show mid-a<b-a; omega,⟨rfl,rfl,rfl,rfl,rfl,blC (by rw[decide_eq_decide]; omega),rfl,HT⟩,⟨rfl,HT⟩⟩
theorem sortF_ct (d:Array El) (hd:d.size≤1000000):CtO P 171 [dO d] [dA d,.c (.fn g [])] [dO (Sort.sort (lt cm) d)] []:=by
 have hb:=fG hd;have hp:=pdq_ct g cm hc hw d.size d 0 d.size (bitsLen d.size) (by omega) ⟨rfl,by omega,by omega,.inl rfl⟩ hd (by omega);refine Ct.io aj aa (N:=14) Tryz.func171 rfl rfl rfl rfl ?_;refine .intro (by omega) ?_;refine X1 ((d.size:Nat):Int) (wU rfl (by omega) (by omega)) ?_;refine X1 _ (uk d.size (by omega)) ?_;refine X2 (.upd 1000000) ?_;refine ⟨_,_,hp,?_⟩;exact ⟨HT,SubO.of (l:=[(1000000,.row _ _)]) ⟨rfl,HT⟩,HT⟩
theorem sort_spec (d:Array El):(Sort.sort (lt cm) d).toList.Perm d.toList∧SortedIn (lt cm) 0 d.size (Sort.sort (lt cm) d):=by
 have _hc:=hc;obtain ⟨h1,h2⟩:=sort_sorts (lt cm) hw d;refine ⟨?_,h2⟩;have:=h1.2.2;have e:(Sort.sort (lt cm) d).extract 0 d.size=Sort.sort (lt cm) d:=by
  rw[show d.size=(Sort.sort (lt cm) d).size from h1.1.symm]; simp
 rw[e]at this;simpa using this
end Go.Proofs.YtgceikecdedfcaaGreat.Pv.SrtC
namespace Go.Proofs.YtgceikecdedfcaaGreat.Pv
open Go
theorem sv {l:List Int} {j:Nat} (h:j<l.length):l.getD (l.length-1-j) 0=l.reverse.getD j 0:=by
 rw[EK,EK,List.getElem?_reverse h]
theorem sw (l m:List Int) (hl:l.length≤1000000) (hm:m.length≤1000000):Ct P 169 [.c (iSl l),.c (iSl m)] [.c (eI .i64 (aH l.reverse m.reverse))]:=by
 have hmn:(if (m.length:Int)<(l.length:Int) then (m.length:Int) else (l.length:Int))=((min l.length m.length:Nat):Int):=by
  split<;>omega
 refine Ct.go aj aa (N:=39) Tryz.func169 rfl rfl rfl rfl ?_;refine aw aj aa (λj:Nat=>j≤l.length∧j≤m.length∧aH l.reverse m.reverse=aH (l.reverse.drop j) (m.reverse.drop j)) (λj=>[(0,.c (iSl l)),(1,.c (iSl m)),(5,.c (nI .i64 (j+1:Nat)))]) (λ_=>[]) (λj=>l.length-j)
  0 ⟨by omega,by omega,rfl⟩ ⟨rfl,rfl,rfl,HT⟩ HT (λ_:Unit=>aH l.reverse m.reverse=bI l.length m.length) (λ_=>[(0,.c (iSl l)),(1,.c (iSl m))]) (λ_=>[]) (λj hi=>?_) (λ_ he=>?_)
 ·obtain ⟨h1,h2,h3⟩:=hi;refine .intro (by rw[ac]; omega) ?_;refine .intro (by rw[ac]; omega) ?_;rw[ac,ac];refine ah (λh5=>?_) (λh5=>?_)
  ·rw[hmn]at h5;have g1:=sv (l:=l) (j:=j) (by omega);have g2:=sv (l:=m) (j:=j) (by omega);have hd:=h3;rw[fp (l:=l.reverse) (i:=j) (by rw[Gt]; omega),fp (l:=m.reverse) (i:=j) (by rw[Gt]; omega),aH,←g1,←g2]at hd;refine .intro (by rw[ac]; omega) ?_;rw[ac];refine X1 ((l.length-1-j:Nat):Int) (wI (by omega) (by omega) (by omega)) ?_;refine .intro (by omega) (X1 _ (bm rfl (by omega)) ?_);refine .intro (by rw[ac]; omega) ?_;rw[ac];refine X1 ((m.length-1-j:Nat):Int) (wI (by omega) (by omega) (by omega)) ?_;refine .intro (by omega) (X1 _ (bm rfl (by omega)) ?_);refine X1 _ (mP _ _) ?_;refine .intro rfl ?_;refine dE (λh7=>?_) (λh7=>?_)
   ·rw[if_pos h7]at hd;exact ⟨HT,r1 (iE hd.symm),HT⟩
   ·rw[if_neg (λh=>h h7)]at hd;refine X1 ((j+1+1:Nat):Int) (wI (by simp) (by omega) (by omega)) ?_;exact ⟨j+1,⟨by omega,by omega,hd⟩,by omega,⟨rfl,rfl,rfl,HT⟩,HT⟩
  ·rw[hmn]at h5;have he:=nX (l:=l.reverse) (m:=m.reverse) (i:=j) (by rw[Gt]; omega) (by rw[Gt]; omega) (by rw[Gt,Gt]; omega) h3;rw[Gt,Gt]at he;refine ⟨(),?_,⟨rfl,rfl,HT⟩,HT⟩;rw[he,bI];split<;>split<;>(try split)<;>omega
 ·rw[he];refine .intro (by rw[ac]; omega) ?_;refine .intro (by rw[ac]; omega) ?_;rw[ac,ac];refine X1 _ (mP _ _) ?_;exact ⟨HT,r1 rfl,HT⟩
end Go.Proofs.YtgceikecdedfcaaGreat.Pv
namespace Go.Proofs.YtgceikecdedfcaaGreat.Pv
open Go Go.Sort
theorem pD (x:Int):bI x x=0:=by unfold bI; rw[if_neg (by omega),if_neg (by omega)]
theorem um {x y:Int} (h:bI x y=0):x=y:=by unfold bI at h; split at h<;>(try split at h)<;>omega
theorem cmpI_lt {x y:Int}:bI x y<0↔x<y:=by unfold bI; split<;>(try split)<;>omega
theorem y9 (x y:Int):bI y x = - bI x y:=by unfold bI; split<;>split<;>omega
theorem d6:∀ l:List Int,aH l l=0
 | []=>rfl
 | x::l=>by rw[aH,pD,if_neg (by simp)]; exact d6 l
theorem lJ:∀ {l m:List Int},aH l m=0→l=m
 | [],[],_=>rfl
 | [],_::_,h=>by simp[aH]at h
 | _::_,[],h=>by simp[aH]at h
 | x::l,y::m,h=>by
  rw[aH]at h;split at h
  ·contradiction
  ·rename_i h0;have e:=um (x:=x) (y:=y) (by simpa using h0);rw[e,lJ h]
theorem eT:∀ l m:List Int,aH m l = - aH l m
 | [],[]=>rfl
 | [],_::_=>rfl
 | _::_,[]=>rfl
 | x::l,y::m=>by
  rw[aH,aH,y9 x y,eT l m];by_cases h:bI x y=0
  ·rw[h]; simp
  ·rw[if_pos (by omega),if_pos h]
theorem di:∀ {a b c:List Int},aH a b<0→aH b c<0→aH a c<0
 | [],[],_,h,_=>by simp[aH]at h
 | [],_::_,[],_,h=>by simp[aH]at h
 | [],_::_,_::_,_,_=>by simp[aH]
 | _::_,[],_,h,_=>by simp[aH]at h
 | _::_,_::_,[],_,h=>by simp[aH]at h
 | x::a,y::b,z::c,h1,h2=>by
  rw[aH]at h1 h2 ⊢;by_cases e1:bI x y=0
  ·have:=um e1;subst this;rw[if_neg (by omega)]at h1;by_cases e2:bI x z=0
   ·rw[if_neg (by omega)]at h2 ⊢;exact di h1 h2
   ·rw[if_pos e2]at h2 ⊢;exact h2
  ·rw[if_pos e1]at h1;by_cases e2:bI y z=0
   ·have:=um e2;subst this;rw[if_pos e1];exact h1
   ·rw[if_pos e2]at h2;have h3:=cmpI_lt.1 h1;have h4:=cmpI_lt.1 h2;have h5:bI x z<0:=cmpI_lt.2 (by omega);rw[if_pos (by omega)];exact h5
theorem swo_of {α:Type} (f:α→List Int):SWO (λx y:α=>decide (aH (f x) (f y)<0)) where
 irrefl x:=by simp[d6]
 trans x y z h1 h2:=by
  simp only[decide_eq_true_eq]at h1 h2 ⊢;exact di h1 h2
 ntrans x y z h1 h2:=by
  simp only[decide_eq_false_iff_not]at h1 h2 ⊢;intro h;by_cases e1:aH (f x) (f y)=0
  ·rw[lJ e1]at h; exact h2 h
  ·have h3:aH (f y) (f x)<0:=by rw[eT (f x) (f y)]; omega
   exact h2 (di h3 h)
theorem iY (l:List Int) (hl:l.length≤1000000):Ct P 46 [.c (iSl l)] [.c (iSl l)]:=by
 refine Ct.go aj aa (N:=8) Tryz.func46 rfl rfl rfl rfl ?_;intro b hb
 cases b with
 | true=>
  have:l=[]:=Fd.1 (by have:=hb rfl; rwa [ac]at this);subst this;exact ⟨HT,⟨_,rfl,.inr ⟨rfl,1,rfl⟩⟩,HT⟩
 | false=>
  refine ⟨rfl,by rw[ac]; show (0+l.length+768)*8≤_; omega,by rw[ac]; show 0+l.length≤_; omega,bj,aQ,?_⟩;exact ⟨HT,r1 rfl,HT⟩
theorem kI (x y:SrtI.El):Ct P 168 [SrtI.VL x,SrtI.VL y] [.c (eI .i64 (aH x.1.reverse y.1.reverse))]:=by
 refine Ct.go aj aa (N:=8) Tryz.func168 rfl rfl rfl rfl ?_;refine X1 _ (sw x.1 y.1 x.2 y.2) ?_;exact ⟨HT,r1 rfl,HT⟩
theorem kJ (x y:SrtC.El):Ct P 172 [SrtC.VL x,SrtC.VL y] [.c (eI .i64 (aH x.1.1 y.1.1))]:=by
 refine Ct.go aj aa (N:=10) Tryz.func172 rfl rfl rfl rfl ?_;refine X1 _ (fT x.1.1 y.1.1 x.2 y.2) ?_;exact ⟨HT,r1 rfl,HT⟩
def mI (o:List Cnt) (g:List Int):List Cnt:=match o.getLast? with
 | some x=>if x.1=g then o.dropLast++[(g,x.2+1)] else o++[(g,1)]
 | none=>[(g,1)]
def grp (s:List (List Int)):List Cnt:=s.foldl mI []
theorem kK (s:List (List Int)) (g:List Int):grp (s++[g])=mI (grp s) g:=by unfold grp; rw[G1]; rfl
theorem mT:∀ (n:Nat) (s:List (List Int)),s.length=n→(grp s).length≤n∧∀ x,x∈grp s→1≤x.2∧x.2≤n
 | 0,s,h=>by
  have:=Fd.1 h;subst this;exact ⟨by simp[grp],λx hx=>by simp[grp]at hx⟩
 | n+1,s,h=>by
  obtain ⟨s',g,rfl⟩:∃ s' g,s=s'++[g]:=⟨s.dropLast,s.getLast (by intro e; subst e; simp at h),(Gm _).symm⟩;obtain ⟨h1,h2⟩:=mT n s' (by simpa using h);rw[kK];unfold mI;split
  ·rename_i x hx;have hm:=List.mem_of_getLast? hx;have h3:=h2 x hm;split
   ·refine ⟨by simp; omega,λy hy=>?_⟩;rcases Fu.1 hy with hy | hy
    ·have:=h2 y (List.dropLast_sublist _ |>.subset hy); omega
    ·rw[FA.1 hy]; simp only; omega
   ·refine ⟨by simp; omega,λy hy=>?_⟩;rcases Fu.1 hy with hy | hy
    ·have:=h2 y hy; omega
    ·rw[FA.1 hy]; simp only; omega
  ·exact ⟨by simp,λy hy=>by rw[FA.1 hy]; simp only; omega⟩
abbrev lK (s:List (List Int)):List (List PC):=s.map λg=>[iSl g]
def mkI (s:List (List Int)) (h:∀ g,g∈s→g.length≤1000000):Array SrtI.El:=(s.pmap (λg hg=>⟨g,hg⟩) h).toArray
def mkC (s:List Cnt) (h:∀ x,x∈s→x.1.length≤1000000):Array SrtC.El:=(s.pmap (λg hg=>⟨g,hg⟩) h).toArray
theorem sx {s:List (List Int)} {h:∀ g,g∈s→g.length≤1000000}:(mkI s h).size=s.length:=by simp[mkI]
theorem sy {s:List Cnt} {h:∀ x,x∈s→x.1.length≤1000000}:(mkC s h).size=s.length:=by simp[mkC]
theorem vd {s:List (List Int)} {h:∀ g,g∈s→g.length≤1000000}:(mkI s h).toList.map (·.1)=s:=by simp[mkI,List.map_pmap]
theorem ve {s:List Cnt} {h:∀ x,x∈s→x.1.length≤1000000}:(mkC s h).toList.map (·.1)=s:=by simp[mkC,List.map_pmap]
theorem D2 (d:Array SrtI.El):SrtI.row d=lK (d.toList.map (·.1)):=by unfold SrtI.row lK; rw[List.map_map]; rfl
theorem Cz (d:Array SrtC.El):SrtC.row d=cr (d.toList.map (·.1)):=by simp[SrtC.row,cr]
abbrev cmE (x y:SrtI.El):Int:=aH x.1.reverse y.1.reverse
abbrev cmG (x y:SrtC.El):Int:=aH x.1.1 y.1.1
def er (s:List (List Int)) (h:∀ g,g∈s→g.length≤1000000):List (List Int):=(Sort.sort (SrtI.lt cmE) (mkI s h)).toList.map (·.1)
def kL (s:List Cnt) (h:∀ x,x∈s→x.1.length≤1000000):List Cnt:=(Sort.sort (SrtC.lt cmG) (mkC s h)).toList.map (·.1)
theorem za (s:List (List Int)) (h:∀ g,g∈s→g.length≤1000000) (hl:s.length≤1000000):CtO P 167 [(1000000,some (.row 1 (lK s)))] [.c (.ow 1000000 1 s.length),.c (.fn 168 [])] [(1000000,some (.row 1 (lK (er s h))))] []:=by
 have:=SrtI.sortF_ct 168 cmE kI (swo_of λx:SrtI.El=>x.1.reverse) (mkI s h) (by rw[sx]; exact hl);rw[SrtI.dO,SrtI.dO,SrtI.dA,D2,D2,vd,sx]at this;exact this
theorem zb (s:List Cnt) (h:∀ x,x∈s→x.1.length≤1000000) (hl:s.length≤1000000):CtO P 171 [(1000000,some (.row 2 (cr s)))] [.c (.ow 1000000 2 s.length),.c (.fn 172 [])] [(1000000,some (.row 2 (cr (kL s h))))] []:=by
 have:=SrtC.sortF_ct 172 cmG kJ (swo_of λx:SrtC.El=>x.1.1) (mkC s h) (by rw[sy]; exact hl);rw[SrtC.dO,SrtC.dO,SrtC.dA,Cz,Cz,ve,sy]at this;exact this
theorem jI (s:List (List Int)) (h:∀ g,g∈s→g.length≤1000000):(er s h).Perm s:=by
 have:=(SrtI.sort_spec 168 cmE kI (swo_of λx:SrtI.El=>x.1.reverse) (mkI s h)).1.map (·.1);rwa [vd]at this
theorem un (s:List Cnt) (h:∀ x,x∈s→x.1.length≤1000000):(kL s h).Perm s:=by
 have:=(SrtC.sort_spec 172 cmG kJ (swo_of λx:SrtC.El=>x.1.1) (mkC s h)).1.map (·.1);rwa [ve]at this
theorem zc {s:List (List Int)} {i:Int} {n:Nat} (h0:i=n) (h:n<s.length):(lK s)[i.toNat]? = some [iSl s[n]]:=by
 subst h0;simp[lK,h]
abbrev fH:List PC:=[.sc (.slice none 0 0)]
theorem Br {s:List (List Int)} {g:List Int} {m:Nat} {i:Int} (hi:i=s.length) (hm:1≤m):(lK s++List.replicate m fH).set i.toNat [iSl g]=lK (s++[g])++List.replicate (m-1) fH:=by
 subst hi;obtain ⟨m,rfl⟩:∃ k,m=k+1:=⟨m-1,by omega⟩;rw[List.replicate_succ,List.set_append_right _ _ (by simp)];simp[lK]
theorem Bs {s:List (List Int)} {m:Nat} {i:Int} (hi:i=s.length) (hm:1≤m):(lK s++List.replicate m fH)[i.toNat]? = some fH:=by
 subst hi;obtain ⟨m,rfl⟩:∃ k,m=k+1:=⟨m-1,by omega⟩;rw[ET (by simp)];simp
abbrev bV (l:List Cnt):List (List Int):=l.map λx=>x.1.drop 1
theorem aY {l:List Cnt} (hl:CLim l):∀ g,g∈bV l→g.length≤1000000:=λg hg=>by
 obtain ⟨x,hx,rfl⟩:=Fn.1 hg;have:=hl.g x hx;rw[Fv]; omega
theorem qx:∀ (n:Nat) (s:List (List Int)),s.length=n→∀ x,x∈grp s→x.1∈s
 | 0,s,h=>by
  have:=Fd.1 h;subst this;intro x hx; simp[grp]at hx
 | n+1,s,h=>by
  obtain ⟨s',g,rfl⟩:∃ s' g,s=s'++[g]:=⟨s.dropLast,s.getLast (by intro e; subst e; simp at h),(Gm _).symm⟩;have ih:=qx n s' (by simpa using h);rw[kK];intro y hy;unfold mI at hy;split at hy
  ·split at hy
   ·rcases Fu.1 hy with hy | hy
    ·exact F4 _ (ih y (List.dropLast_sublist _ |>.subset hy))
    ·rw[FA.1 hy]; simp
   ·rcases Fu.1 hy with hy | hy
    ·exact F4 _ (ih y hy)
    ·rw[FA.1 hy]; simp
  ·rw[FA.1 hy]; simp
theorem fk {l:List Cnt} (hl:CLim l):∀ x,x∈grp (er (bV l) (aY hl))→x.1.length≤1000000:=λx hx=>
 aY hl _ ((jI _ _).subset (qx _ _ rfl x hx))
def sA (l:List Cnt) (hl:CLim l):List Cnt:=kL (grp (er (bV l) (aY hl))) (fk hl)
theorem zd (l:List Cnt) (hl:CLim l) (h1:∀ x,x∈l→1≤x.1.length):Ct P 128 [.c (cSl l)] [.c (cSl (sA l hl))]:=by
 have hll:=hl.len;have hsI:=za (bV l) (aY hl) (by simp; exact hll);have hpI:=jI (bV l) (aY hl);have hsC:=zb (grp (er (bV l) (aY hl))) (fk hl) (EQ (mT _ _ rfl).1 (by rw[hpI.length_eq]; simp; exact hll));have hE:sA l hl=kL (grp (er (bV l) (aY hl))) (fk hl):=rfl;rw[hE];have hgm:∀ g,g∈er (bV l) (aY hl)→g.length≤1000000:=λg hg=>aY hl _ (hpI.subset hg)
 have hsl:(er (bV l) (aY hl)).length=l.length:=by rw[hpI.length_eq]; simp
 generalize kL (grp (er (bV l) (aY hl))) (fk hl)=E at *
 generalize er (bV l) (aY hl)=s at *
 rw[FD]at hsI;refine Ct.go aj aa (N:=71) Tryz.func128 rfl rfl rfl rfl ?_;refine .intro (by rw[cRow_len]; omega) ?_;rw[cRow_len];refine .intro (by omega) (.intro (by omega) (.intro (by omega) (.intro ?_ ?_)))
 ·exact .inr (by show (l.length:Int)*24≤_; omega)
 refine .intro (by rw[cRow_len]; omega) ?_;rw[cRow_len];refine aw aj aa (λi:Nat=>i≤l.length) (λi=>[(3,.c (.ow 12 1 l.length)),(13,.c (cSl l)),(14,.c (nI .i64 l.length)),(15,.c (nI .i64 i))]) (λi=>[(12,.row 1 (lK (bV (l.take i))++List.replicate (l.length-i) fH))]) (λi=>l.length-i)
  0 (by omega) ⟨by rw[Fi]; rfl,rfl,rfl,rfl,HT⟩ ⟨by rw[Fi]; rfl,HT⟩ (λ_:Unit=>True) (λ_=>[(3,.c (.ow 12 1 l.length))]) (λ_=>[(12,.row 1 (lK (bV l)))]) (λi hi=>?_) (λ_ _=>?_)
 ·refine ah (λh5=>?_) (λh5=>?_)
  ·have hi':i<l.length:=by omega
   have hxl:=hl.at' hi';have hx1:=h1 l[i] (EY hi');have hx:=bs (l:=l) (i:=(i:Int)) (n:=i) rfl hi';have hs:bV (l.take (i+1))=bV (l.take i)++[l[i].1.drop 1]:=by
    rw[ER hi']; unfold bV; rw[FW]; rfl
   have htl:(bV (l.take i)).length=i:=by simp; omega
   generalize l[i]=x at *
   refine .intro (by omega) (X1 _ hx ?_);refine ⟨1,x.1.length,by simp,by simp[ac],by omega,by rw[ac]; omega,?_⟩;rw[iRow_sub,Fs (show (x.1.drop 1).length≤x.1.length-1 by rw[Fv]; exact EM _)];refine .intro (by omega) (.intro (by omega) (X1 _ (Bs (by rw[htl]) (by omega)) ?_));refine X1 ((i+1:Nat):Int) (wI1 (by omega)) ?_;exact ⟨i+1,by omega,by omega,⟨rfl,rfl,rfl,rfl,HT⟩,⟨aB (by rw[hs,show l.length-(i+1)=l.length-i-1 by omega]; exact Br (by rw[htl]) (by omega)),HT⟩⟩
  ·have e:i=l.length:=by omega
   subst e;exact ⟨(),HT,⟨rfl,HT⟩,⟨aB (by rw[Fp]; simp),HT⟩⟩
 ·refine X2 (.upd 12) ?_;refine ⟨_,_,hsI,?_⟩;refine .intro (by omega) ?_;refine .intro (by omega) (.intro (by omega) (.intro (by omega) (.intro ?_ ?_)))
  ·exact .inr (by show (l.length:Int)*32≤_; omega)
  refine .intro (by omega) ?_;refine aw aj aa (λi:Nat=>i≤l.length) (λi=>[(6,.c (.ow 31 2 (grp (s.take i)).length)),(32,.c (.ow 12 1 l.length)),(33,.c (nI .i64 l.length)),(34,.c (nI .i64 i))]) (λi=>[(12,.row 1 (lK s)),(31,.row 2 (cr (grp (s.take i))))]) (λi=>l.length-i)
   0 (by omega) ⟨rfl,rfl,rfl,rfl,HT⟩ ⟨rfl,rfl,HT⟩ (λ_:Unit=>True) (λ_=>[(6,.c (.ow 31 2 (grp s).length))]) (λ_=>[(31,.row 2 (cr (grp s)))]) (λi hi=>?_) (λ_ _=>?_)
  ·refine ah (λh5=>?_) (λh5=>?_)
   ·have hi':i<s.length:=by omega
    have hgs:grp (s.take (i+1))=mI (grp (s.take i)) s[i]:=by rw[ER hi',kK]
    have hgl:=mT i (s.take i) (by rw[E3]; omega);have hglm:=qx i (s.take i) (by rw[E3]; omega);have hgl1:=hgm s[i] (EY hi');have hget:=zc (s:=s) (i:=(i:Int)) (n:=i) rfl hi';have hom:∀ x,x∈grp (s.take i)→x.1.length≤1000000:=λx hx=>hgm _ (Gi (hglm x hx))
    generalize s[i]=g at *
    generalize grp (s.take i)=o at *
    refine .intro (by omega) (.intro (by omega) (X1 _ hget ?_));refine .intro (by have:=hgl.1; omega) ?_;have ho:=hgl.1;have app:mI o g=o++[(g,1)]→(o.length=(cr o).length∧((cr o).length+1+768)*32≤17592186044416∧(cr o).length+1≤35184372088832):=λ_=>⟨cRow_len.symm,by rw[cRow_len]; omega,by rw[cRow_len]; omega⟩
    refine ah (λh6=>?_) (λh6=>?_)
    ·have hlast:o.getLast? = some (o[o.length-1]'(by omega)):=by rw[List.getLast?_eq_getElem?,Fc (by omega)]
     have hxm:(o[o.length-1]'(by omega))∈o:=EY _;have hcg:=bs (l:=o) (i:=((o.length-1:Nat):Int)) (n:=o.length-1) rfl (by omega);have hset:∀ y:Cnt,(cr o).set ((o.length-1:Nat):Int).toNat [iSl y.1,eI .i64 y.2]=cr (o.dropLast++[y]):=λy=>by
      have e:∃ z,o=o.dropLast++[z]:=⟨o.getLast (by intro e; subst e; simp at h6),(Gm _).symm⟩;obtain ⟨z,hz⟩:=e;have hl':o.dropLast.length=o.length-1:=List.length_dropLast;have:((o.length-1:Nat):Int).toNat=(cr o.dropLast).length:=by rw[cRow_len,hl']; simp
      rw[this]
      conv=>lhs; rw[hz]
      rw[←eQ,List.dropLast_concat,List.set_append_right _ _ (EM _)];simp[cr]
     have hx2:=hgl.2 _ hxm;have hx1:=hom _ hxm;generalize (o[o.length-1]'(by omega))=x at *
     refine X1 ((o.length-1:Nat):Int) (wI (by omega) (by omega) (by omega)) ?_;refine .intro (by omega) (.intro (by omega) (X1 _ hcg ?_));refine X1 _ (rW x.1 g hx1 hgl1) ?_;refine ah (λh7=>?_) (λh7=>?_)
     ·have hst:mI o g=o.dropLast++[(g,x.2+1)]:=by
       unfold mI; rw[hlast]; exact if_pos h7
      refine X1 ((o.length-1:Nat):Int) (wI (by omega) (by omega) (by omega)) ?_;refine .intro (by omega) (.intro (by omega) (X1 _ hcg ?_));refine X1 (x.2+1) (wI rfl (by omega) (by omega)) ?_;refine .intro (by omega) (.intro (by omega) (X1 _ hcg ?_));refine X1 ((i+1:Nat):Int) (wI1 (by omega)) ?_;refine ⟨i+1,by omega,by omega,⟨owE ?_,rfl,rfl,rfl,HT⟩,⟨rfl,aB ?_,HT⟩⟩
      ·rw[hgs,hst]; simp; omega
      ·rw[hgs,hst,←h7]; exact hset (x.1,x.2+1)
     ·have hst:mI o g=o++[(g,1)]:=by
       unfold mI; rw[hlast]; exact if_neg h7
      obtain ⟨a1,a2,a3⟩:=app hst;refine X1 _ (iY g hgl1) ?_;refine ⟨a1,a2,a3,bu,aq rfl,?_⟩;refine X1 ((i+1:Nat):Int) (wI1 (by omega)) ?_;exact ⟨i+1,by omega,by omega,⟨owE (by rw[hgs,hst,EL,EL,cRow_len]; rfl),rfl,rfl,rfl,HT⟩,⟨rfl,aB (by rw[hgs,hst,←eQ]; rfl),HT⟩⟩
    ·have hnil:o=[]:=Fd.1 (by omega);have hst:mI o g=o++[(g,1)]:=by rw[hnil]; rfl
     obtain ⟨a1,a2,a3⟩:=app hst;refine X1 _ (iY g hgl1) ?_;refine ⟨a1,a2,a3,bu,aq rfl,?_⟩;refine X1 ((i+1:Nat):Int) (wI1 (by omega)) ?_;exact ⟨i+1,by omega,by omega,⟨owE (by rw[hgs,hst,EL,EL,cRow_len]; rfl),rfl,rfl,rfl,HT⟩,⟨rfl,aB (by rw[hgs,hst,←eQ]; rfl),HT⟩⟩
   ·have e:i=l.length:=by omega
    subst e;have:s.take l.length=s:=Fs (by omega);exact ⟨(),HT,⟨owE (by rw[this]),HT⟩,⟨aB (by rw[this]),HT⟩⟩
  ·refine X2 (.upd 31) ?_;refine ⟨_,_,hsC,?_⟩;exact ⟨HT,r1 rfl,HT⟩
abbrev d7 (l:List Cnt):Prop:=l.Pairwise λx y=>aH x.1 y.1<0
theorem lL {n:Nat}:∀ {l:List Cnt} {p:Option (List Int)},cT n p l=0→(∀ x,x∈l→x.1.length=n+1∧1≤x.2)∧d7 l∧∀ q,p=some q→∀ x,x∈l→aH q x.1<0
 | [],p,_=>⟨λx hx=>by simp at hx,.nil,λq _ x hx=>by simp at hx⟩
 | x::l,p,h=>by
  rw[iz]at h;by_cases h1:(x.1.length:Int)≠n+1
  ·rw[if_pos h1]at h; omega
  rw[if_neg h1]at h;by_cases h2:x.2<1
  ·rw[if_pos h2]at h; omega
  rw[if_neg h2]at h;have h3:∀ q,p=some q→¬ aH q x.1≥0:=λq hq hge=>by
   subst hq;rw[if_pos (decide_eq_true hge)]at h;omega
  rw[if_neg (by cases p with | none=>simp | some q=>simpa using h3 q rfl)]at h;obtain ⟨g1,g2,g3⟩:=lL h;have hp:∀ q,p=some q→aH q x.1<0:=λq hq=>by
   have:=h3 q hq; omega
  refine ⟨λy hy=>?_,List.Pairwise.cons (λy hy=>g3 x.1 rfl y hy) g2,λq hq y hy=>?_⟩
  ·rcases Fq.1 hy with rfl | hy
   ·exact ⟨by omega,by omega⟩
   ·exact g1 y hy
  ·rcases Fq.1 hy with rfl | hy
   ·exact hp q hq
   ·exact di (hp q hq) (g3 x.1 rfl y hy)
structure CCOk (L:List (List Cnt)):Prop where
 len0:1≤L.length
 len8:L.length≤8
 form:∀ (n:Nat) (h:n<L.length) (x:Cnt),x∈L[n]→x.1.length=n+1∧1≤x.2
 rises:∀ (n:Nat) (h:n<L.length),d7 L[n]
theorem oe:∀ (k:Nat) {n:Nat} {L:List (List Cnt)},L.length=n+k→cX n (L.drop n)=0→∀ (m:Nat) (h:m<L.length),n≤m→cT m none L[m]=0
 | 0,n,L,hk,_,m,hm,hn=>by omega
 | k+1,n,L,hk,h,m,hm,hn=>by
  have h0:cT n none (L[n]'(by omega))=0:=Classical.byContradiction λhne=>hne ((nZ (by omega) rfl hne).symm.trans h)
  by_cases e:m=n
  ·subst e; exact h0
  ·exact oe k (n:=n+1) (by omega) ((kz (by omega) h0).symm.trans h) m hm (by omega)
theorem sB {L:List (List Cnt)} (h:fD L=0):CCOk L:=by
 unfold fD at h;split at h
 ·omega
 ·rename_i h1;have key:=oe L.length (n:=0) (L:=L) (by omega) h;exact ⟨by omega,by omega,λn hn x hx=>(lL (key n hn (by omega))).1 x hx,λn hn=>(lL (key n hn (by omega))).2.1⟩
theorem CCOk.ccform {L:List (List Cnt)} (h:CCOk L) (hl:CCLim L):CCForm L:=⟨hl,λn hn i hi=>(h.form n hn _ (EY hi)).1⟩
abbrev rlt (a b:List Int):Prop:=aH a.reverse b.reverse<0
theorem wr {a b:List Int} (h:¬ rlt b a) (hne:a≠b):rlt a b:=by
 apply Classical.byContradiction;intro h2;have h3:=eT a.reverse b.reverse;have h4:aH a.reverse b.reverse=0:=by unfold rlt at h h2; omega
 exact hne (List.reverse_inj.1 (lJ h4))
theorem mU (a:List Int):¬ rlt a a:=by unfold rlt; rw[d6]; omega
structure Grp (s:List (List Int)) (o:List Cnt):Prop where
 up:o.Pairwise λx y=>rlt x.1 y.1
 cnt:∀ x,x∈o→x.1∈s∧x.2=(s.count x.1:Int)
 all:∀ g,g∈s→∃ x,x∈o∧x.1=g
theorem ze:∀ (n:Nat) (s:List (List Int)),s.length=n→s.Pairwise (λa b=>¬ rlt b a)→Grp s (grp s)
 | 0,s,h,_=>by
  have:=Fd.1 h;subst this;exact ⟨.nil,λx hx=>by simp[grp]at hx,λg hg=>by simp at hg⟩
 | n+1,s,h,hp=>by
  obtain ⟨s',g,rfl⟩:∃ s' g,s=s'++[g]:=⟨s.dropLast,s.getLast (by intro e; subst e; simp at h),(Gm _).symm⟩;rw[Hn]at hp;obtain ⟨p1,_,p3⟩:=hp;have ih:=ze n s' (by simpa using h) p1;have hge:∀ a,a∈s'→¬ rlt g a:=λa ha=>p3 a ha g (by simp)
  rw[kK];generalize grp s'=o at *
  have cg:∀ y:List Int,(s'++[g]).count y=s'.count y+(if g=y then 1 else 0):=λy=>by
   rw[List.count_append,List.count_singleton];congr 1;by_cases e:g=y
   ·subst e; simp
   ·simp[e]
  have nong:∀ y,y∈o→y.1≠g→y.1∈s'++[g]∧y.2=((s'++[g]).count y.1:Int):=λy hy hne=>by
   have:=ih.cnt y hy;rw[cg,if_neg (λe=>hne e.symm)];exact ⟨F4 _ this.1,by rw[this.2]; simp⟩
  unfold mI;split
  ·rename_i x hx;obtain ⟨o',rfl⟩:∃ o',o=o'++[x]:=by
    have hne:o≠[]:=λe=>by subst e; simp at hx
    refine ⟨o.dropLast,?_⟩;have e:o.getLast hne=x:=by
     have:=List.getLast?_eq_some_getLast hne;rw[this]at hx;simpa using hx
    rw[←e];exact (Gm hne).symm
   have hup:=Hn.1 ih.up;have hxm:=ih.cnt x (by simp);split
   ·rename_i he;rw[List.dropLast_concat];refine ⟨Hn.2 ⟨hup.1,List.pairwise_singleton _ _,λy hy z hz=>?_⟩,λy hy=>?_,λa ha=>?_⟩
    ·rw[FA.1 hz];simp only;rw[←he];exact hup.2.2 y hy x (by simp)
    ·rcases Fu.1 hy with hy | hy
     ·refine nong y (F4 _ hy) λe=>?_
      have:=hup.2.2 y hy x (by simp);rw[e,←he]at this;exact mU _ this
     ·rw[FA.1 hy];simp only;rw[cg,if_pos rfl,hxm.2,he];exact ⟨by simp,by simp⟩
    ·rcases Fu.1 ha with ha | ha
     ·obtain ⟨y,hy,hya⟩:=ih.all a ha;rcases Fu.1 hy with hy | hy
      ·exact ⟨y,F4 _ hy,hya⟩
      ·rw[FA.1 hy]at hya;exact ⟨(g,x.2+1),by simp,by rw[←hya,←he]⟩
     ·exact ⟨(g,x.2+1),by simp,(FA.1 ha).symm⟩
   ·rename_i he;have hxg:rlt x.1 g:=wr (hge _ hxm.1) he;have hall:∀ y,y∈o'++[x]→rlt y.1 g:=λy hy=>by
     rcases Fu.1 hy with hy | hy
     ·exact di (hup.2.2 y hy x (by simp)) hxg
     ·rw[FA.1 hy]; exact hxg
    refine ⟨Hn.2 ⟨ih.up,List.pairwise_singleton _ _,λy hy z hz=>?_⟩,λy hy=>?_,λa ha=>?_⟩
    ·rw[FA.1 hz]; exact hall y hy
    ·rcases Fu.1 hy with hy | hy
     ·refine nong y hy λe=>?_
      have:=hall y hy;rw[e]at this;exact mU _ this
     ·rw[FA.1 hy];simp only;have:s'.count g=0:=List.count_eq_zero.2 λhg=>by
       obtain ⟨y,hy,hyg⟩:=ih.all g hg;have:=hall y hy;rw[hyg]at this;exact mU _ this
      rw[cg,if_pos rfl,this];exact ⟨by simp,by simp⟩
    ·rcases Fu.1 ha with ha | ha
     ·obtain ⟨y,hy,hya⟩:=ih.all a ha;exact ⟨y,F4 _ hy,hya⟩
     ·exact ⟨(g,1),by simp,(FA.1 ha).symm⟩
  ·rename_i hx;have:o=[]:=List.getLast?_eq_none_iff.1 hx;subst this;have hs:s'=[]:=by
    cases s' with
    | nil=>rfl
    | cons a l=>obtain ⟨y,hy,_⟩:=ih.all a (by simp); simp at hy
   subst hs;exact ⟨List.pairwise_singleton _ _,λy hy=>by rw[FA.1 hy]; exact ⟨by simp,by simp⟩,λa ha=>⟨(g,1),by simp,by simp at ha; exact ha.symm⟩⟩
theorem place (g:List Int):∀ (l:List Cnt),d7 l→∃ k,k≤l.length∧(∀ (i:Nat) (hi:i<l.length),i<k→aH l[i].1 g<0)∧∀ (i:Nat) (hi:i<l.length),k≤i→¬ aH l[i].1 g<0
 | [],_=>⟨0,by simp,λi hi=>by simp at hi,λi hi=>by simp at hi⟩
 | x::l,hr=>by
  obtain ⟨k,h0,h1,h2⟩:=place g l (List.Pairwise.of_cons hr);by_cases hx:aH x.1 g<0
  ·refine ⟨k+1,by simp; omega,λi hi hik=>?_,λi hi hik=>?_⟩
   ·cases i with
    | zero=>exact hx
    | succ i=>exact h1 i (by simpa using hi) (by omega)
   ·cases i with
    | zero=>omega
    | succ i=>exact h2 i (by simpa using hi) (by omega)
  ·refine ⟨0,by simp,λi hi hik=>by omega,λi hi _ hlt=>?_⟩
   cases i with
   | zero=>exact hx hlt
   | succ i=>exact hx (di ((Gp.1 hr).1 _ (EY (by simpa using hi))) hlt)
theorem pG (l:List Cnt) (g:List Int) (hl:CLim l) (hg:g.length≤1000000) (hr:d7 l):Ct P 129 [.c (cSl l),.c (iSl g)] [.c (eI .i64 (cv g l))]:=by
 obtain ⟨k,h0,h1,h2⟩:=place g l hr;have e:(if atK l g k=true then (k:Int) else -1)=cv g l:=by
  unfold atK;rcases FB k l.length with hk | hk
  ·rw[Fc hk];simp only[beq_iff_eq];split
   ·rename_i h;have hkg:=lJ h;exact (lD g l k hk (λj hj he=>by
     have:=h1 j (by omega) hj;rw[he,d6]at this; omega) hkg).symm
   ·rename_i h;refine (fq g l λj hj he=>?_).symm;rcases Ga j k with hjk | hjk | hjk
    ·have:=h1 j hj hjk;rw[he,d6]at this; omega
    ·subst hjk;rw[he,d6]at h; exact h rfl
    ·have:=(List.pairwise_iff_getElem.1 hr) k j hk hj hjk;rw[he]at this;exact h2 k hk (EM _) this
  ·rw[E7 hk];refine (if_neg (by simp)).trans (fq g l λj hj he=>?_).symm;have:=h1 j hj (by omega);rw[he,d6]at this; omega
 rw[←e];exact y7 l g k hl hg h0 h1 h2
theorem sC (g:List Int):∀ {l:List Cnt},(∃ x,x∈l∧x.1=g)→∃ (i:Nat) (hi:i<l.length),cv g l=i∧l[i].1=g
 | [],⟨x,hx,_⟩=>by simp at hx
 | y::l,⟨x,hx,he⟩=>by
  by_cases h:y.1=g
  ·exact ⟨0,by simp,by rw[cv,if_pos h]; rfl,h⟩
  ·rcases Fq.1 hx with rfl | hx
   ·exact absurd he h
   ·obtain ⟨i,hi,h1,h2⟩:=sC g ⟨x,hx,he⟩;exact ⟨i+1,by simp; omega,by rw[cv,if_neg h,h1,if_neg (by omega)]; simp,h2⟩
theorem sD {α:Type} [Inhabited α] {ltf:α→α→Bool} {d:Array α} (h:SortedIn ltf 0 d.size d):d.toList.Pairwise λx y=>ltf y x=false:=by
 rw[List.pairwise_iff_getElem];intro i j hi hj hij;have hi':i<d.size:=by simpa using hi
 have hj':j<d.size:=by simpa using hj
 have:=h i j (by omega) hij hj';simpa [hi',hj'] using this
theorem zf (s:List (List Int)) (h:∀ g,g∈s→g.length≤1000000):(er s h).Pairwise λa b=>¬ rlt b a:=by
 have h1:=(SrtI.sort_spec 168 cmE kI (swo_of λx:SrtI.El=>x.1.reverse) (mkI s h)).2;have h2:=(SrtI.sort_spec 168 cmE kI (swo_of λx:SrtI.El=>x.1.reverse) (mkI s h)).1.length_eq;unfold er;rw[show (mkI s h).size=(Sort.sort (SrtI.lt cmE) (mkI s h)).size by simpa using h2.symm]at h1;refine List.pairwise_map.2 ((sD h1).imp λ{a b} hab=>?_);simpa [SrtI.lt] using hab
theorem zg (s:List Cnt) (h:∀ x,x∈s→x.1.length≤1000000):(kL s h).Pairwise λa b=>¬ aH b.1 a.1<0:=by
 have h1:=(SrtC.sort_spec 172 cmG kJ (swo_of λx:SrtC.El=>x.1.1) (mkC s h)).2;have h2:=(SrtC.sort_spec 172 cmG kJ (swo_of λx:SrtC.El=>x.1.1) (mkC s h)).1.length_eq;unfold kL;rw[show (mkC s h).size=(Sort.sort (SrtC.lt cmG) (mkC s h)).size by simpa using h2.symm]at h1;refine List.pairwise_map.2 ((sD h1).imp λ{a b} hab=>?_);simpa [SrtC.lt] using hab
structure EndsOk (l E:List Cnt):Prop where
 lim:CLim E
 rises:d7 E
 cnt:∀ x,x∈E→x.2=((bV l).count x.1:Int)
 all:∀ g,g∈bV l→∃ x,x∈E∧x.1=g
 only:∀ x,x∈E→x.1∈bV l
theorem zh (l:List Cnt) (hl:CLim l):EndsOk l (sA l hl):=by
 have hg:=ze _ _ rfl (zf (bV l) (aY hl));have hlen:=(mT _ (er (bV l) (aY hl)) rfl).1;have hpI:=jI (bV l) (aY hl);have hpC:=un (grp (er (bV l) (aY hl))) (fk hl);have hup:=zg (grp (er (bV l) (aY hl))) (fk hl);have hlim:=fk hl;have hE:sA l hl=kL (grp (er (bV l) (aY hl))) (fk hl):=rfl;rw[hE];generalize kL (grp (er (bV l) (aY hl))) (fk hl)=E at *
 have hsl:(er (bV l) (aY hl)).length=l.length:=by rw[hpI.length_eq]; simp
 generalize er (bV l) (aY hl)=s at *
 have hll:=hl.len;refine ⟨⟨by rw[hpC.length_eq]; omega,λx hx=>hlim x (hpC.subset hx)⟩,?_,λx hx=>?_,λg hgm=>?_,λx hx=>?_⟩
 ·have hne:E.Pairwise λx y=>x.1≠y.1:=(List.Perm.pairwise_iff (λ{a b} (h:a.1≠b.1)=>h.symm) hpC).2 (hg.up.imp λ{a b} h e=>by rw[e]at h; exact mU _ h)
  refine (hup.and hne).imp λ{a b} h=>?_
  have h1:=h.1;have h3:=eT a.1 b.1;apply Classical.byContradiction;intro h2;exact h.2 (lJ (by omega))
 ·rw[(hg.cnt x (hpC.subset hx)).2,hpI.count_eq]
 ·obtain ⟨x,hx,he⟩:=hg.all g (hpI.mem_iff.2 hgm);exact ⟨x,hpC.mem_iff.2 hx,he⟩
 ·exact hpI.mem_iff.1 (hg.cnt x (hpC.subset hx)).1
theorem sF {l:List Cnt} {n:Nat} (hf:∀ x,x∈l→x.1.length=n+1) {g:List Int} (hg:g.length=n):(bV l).count g=ahead l g:=by
 unfold bV ahead;rw[List.count_eq_countP,List.countP_map,List.countP_eq_length_filter];congr 1;refine List.filter_congr λx hx=>?_
 rw[decide_eq_true (show x.1.length=g.length+1 by rw[hf x hx,hg]),Hq];simp only[Function.comp];by_cases h:x.1.drop 1=g
 ·rw[decide_eq_true h]; simpa using h
 ·rw[decide_eq_false h]; simpa using h
theorem wt {l E:List Cnt} (hE:EndsOk l E) {n:Nat} (hf:∀ x,x∈l→x.1.length=n+1) {g:List Int} (hg:g.length=n) :
  (∃ (i:Nat) (hi:i<E.length),cv g E=i∧E[i].2=(ahead l g:Int))∨(cv g E = -1∧ahead l g=0):=by
 rw[←sF hf hg];by_cases h:g∈bV l
 ·obtain ⟨i,hi,h1,h2⟩:=sC g (hE.all g h);exact .inl ⟨i,hi,h1,by rw[hE.cnt _ (EY hi),h2]⟩
 ·refine .inr ⟨fq g E λj hj he=>h (he▸hE.only _ (EY hj)),List.count_eq_zero.2 h⟩
theorem CA {sz:Nat} {a b:List (List PC)} {i j:List Nat} (h:a=b) (h2:i=j):(some (.rowO sz a i):Option Ob)=some (.rowO sz b j):=by rw[h,h2]
theorem EA {A:List (List Cnt)} {l:List Cnt} {m:Nat} (hm:1≤m):(a8 A++List.replicate m fH).set A.length [cSl l]=a8 (A++[l])++List.replicate (m-1) fH:=by
 obtain ⟨m,rfl⟩:∃ k,m=k+1:=⟨m-1,by omega⟩;rw[List.replicate_succ,List.set_append_right _ _ (by simp[a8])];simp[a8]
theorem EB {A:List (List Cnt)} {m:Nat} (hm:1≤m):(a8 A++List.replicate m fH)[A.length]? = some fH:=by
 obtain ⟨m,rfl⟩:∃ k,m=k+1:=⟨m-1,by omega⟩;rw[ET (by simp[a8])];simp[a8]
theorem CB (A:List (List Cnt)) (m:Nat):ax (a8 A++List.replicate m fH):=by
 intro el h;rcases Fu.1 h with h | h
 ·exact kA el h
 ·rw[FG h]; rfl
theorem EC {base:List (List PC)} {n k r sz q:Nat} {el':List PC} (hbc:ax base) (hbl:n<base.length) (he:el'∈((base.set n [.ow k r sz]).set n (spl [.ow k r sz] 0 (List.replicate 1 .dead)))) (hm:cV q el'=true):bF q []=true:=by
 have e:spl [PC.ow k r sz] 0 (List.replicate 1 .dead)=[PC.dead]:=rfl;rw[HI,e]at he;rcases G4 he with he | he
 ·rw[cV,closedL_ment (hbc el' he)]at hm; cases hm
 ·subst he; cases hm
theorem ED {base:List (List PC)} {n:Nat} {a b c:List PC}:((base.set n a).set n b).set n c=base.set n c:=by rw[HI,HI]
theorem C7 (V:Objs) (A:List (List Cnt)) (m:Nat):(a8 A++List.replicate m fH).map (·.map (ed 3 V))=a8 A++List.replicate m fH:=by
 rw[FW,List.map_replicate];congr 1;unfold a8;rw[List.map_map];rfl
theorem bz (L:List (List Cnt)):(ao L).length=L.length:=by simp[ao]
theorem pH {L:List (List Cnt)} {n:Nat} (h:n<L.length):(ao L)[n]'(by rw[bz]; exact h)=L[n].map (cL L n):=by
 simp[ao,h]
theorem sG {L:List (List Cnt)} {n:Nat} (h:n<L.length):(ao L).take (n+1)=(ao L).take n++[L[n].map (cL L n)]:=by
 rw[ER (by rw[bz]; exact h),pH h]
theorem uo (L:List (List Cnt)) (hL:CCLim L) (h:fD L=0):Ct P 83 [.c (cK L)] [.c (cK (ao L)),.c (eI .i64 0)]:=by
 have hok:=sB h;have h8:=hok.len8;refine Ct.go aj aa (N:=89) Tryz.func83 rfl rfl rfl rfl ?_;refine X1 _ (wj L hL) ?_;refine dE (λh2=>absurd h h2) (λ_=>?_);refine .intro (by rw[ar]; omega) ?_;rw[ar];refine .intro (by omega) (.intro (by omega) (.intro (by omega) (.intro ?_ ?_)))
 ·exact .inr (by show (L.length:Int)*24≤_; omega)
 refine .intro (by rw[ar]; omega) ?_;rw[ar];refine jH (λn:Nat=>n≤L.length) (λn=>[(0,.c (cK L)),(5,.c (.ow 20 1 L.length)),(21,.c (cK L)),(22,.c (nI .i64 L.length)),(23,.c (nI .i64 n))]) (λn=>[(20,.row 1 (a8 ((ao L).take n)++List.replicate (L.length-n) fH))]) (λn=>L.length-n)
  0 (by omega) ⟨rfl,by rw[Fi]; rfl,rfl,rfl,rfl,HT⟩ ⟨by rw[Fi]; rfl,HT⟩ (λ_:Unit=>True) (λ_=>[(5,.c (.ow 20 1 L.length))]) (λ_=>[(20,.row 1 (a8 (ao L)))]) (λn hn=>?_) (λ_ _=>?_)
 ·refine dI aj aa ?_;refine dI aj aa ?_;refine ah (λh5=>?_) (λh5=>?_)
  ·have hn':n<L.length:=by omega
   have hLn:=hL.at' hn';have hff:=hok.form n hn';refine jG (gU ?_);refine dI aj aa ?_;refine .intro (by omega) (X1 _ (bJ rfl hn') ?_);refine dI aj aa ?_;refine AD (t:=8) (sz:=2) rfl ?_;refine mH aj aa (G2:=List Cnt) (λv=>n+1<L.length→EndsOk (L.getD (n+1) []) v)
    (λv=>[(0,.c (cK L)),(5,.c (.ow 20 1 L.length)),(6,.c (nI .i64 n)),(7,.c (cSl L[n])),(8,.c (cSl v)),(21,.c (cK L)),(22,.c (nI .i64 L.length)),(23,.c (nI .i64 n))]) (λ_=>[(20,.row 1 (a8 ((ao L).take n)++List.replicate (L.length-n) fH))]) ?_ (λv hv=>?_)
   ·refine X1 ((n+1:Nat):Int) (wI (by simp) (by omega) (by omega)) ?_;refine .intro (by rw[ar]; omega) ?_;rw[ar];refine ah (λh6=>?_) (λh6=>?_)
    ·have hn1:n+1<L.length:=by omega
     refine X1 ((n+1:Nat):Int) (wI (by simp) (by omega) (by omega)) ?_;refine .intro (by omega) (X1 _ (bJ rfl hn1) ?_);refine X1 _ (zd L[n+1] (hL.at' hn1) (λx hx=>by have:=(hok.form (n+1) hn1 x hx).1; omega)) ?_;exact ⟨sA L[n+1] (hL.at' hn1),λ_=>by rw[show L.getD (n+1) []=L[n+1] by simp[EK,hn1]]; exact zh L[n+1] (hL.at' hn1),⟨rfl,rfl,rfl,rfl,rfl,rfl,rfl,rfl,HT⟩,⟨rfl,HT⟩⟩
    ·exact ⟨[],λh=>absurd h (by omega),⟨rfl,rfl,rfl,rfl,rfl,rfl,rfl,rfl,HT⟩,⟨rfl,HT⟩⟩
   ·have hbl:n<(a8 ((ao L).take n)++List.replicate (L.length-n) fH).length:=by
     rw[EL,ar,E3,bz,Gf]; omega
    have hct:((ao L).take n).length=n:=by rw[E3,bz]; omega
    have hbg:(a8 ((ao L).take n)++List.replicate (L.length-n) fH)[n]? = some fH:=by
     have:=EB (A:=(ao L).take n) (m:=L.length-n) (by omega);rwa [hct]at this
    have hbc:=CB ((ao L).take n) (L.length-n);have hend:∀ l':List Cnt,l'=L[n].map (cL L n)→(a8 ((ao L).take n)++List.replicate (L.length-n) fH).set n [cSl l']=a8 ((ao L).take (n+1))++List.replicate (L.length-(n+1)) fH:=λl' hl'=>by
     have:=EA (A:=(ao L).take n) (l:=l') (m:=L.length-n) (by omega);rw[hct]at this;rw[this,hl',sG hn'];rfl
    have hvw:∀ V:Objs,(a8 ((ao L).take n)++List.replicate (L.length-n) fH).map (·.map (ed 3 V))=a8 ((ao L).take n)++List.replicate (L.length-n) fH:=λV=>C7 V _ _
    have hahd:n+1<L.length→∀ x,x∈L.getD (n+1) []→x.1.length=n+2:=λhn1 x hx=>by
     rw[show L.getD (n+1) []=L[n+1] by simp[EK,hn1]]at hx;exact (hok.form (n+1) hn1 x hx).1
    have hahl:n+1<L.length→(L.getD (n+1) []).length≤1000000:=λhn1=>by
     rw[show L.getD (n+1) []=L[n+1] by simp[EK,hn1]];exact (hL.at' hn1).len
    generalize L[n]=l at *
    generalize (a8 ((ao L).take n)++List.replicate (L.length-n) fH)=base at *
    have hll:=hLn.len;refine DZ (r:=84) (k:=20) (sz':=2) rfl (by omega) rfl hbg hbc ?_;refine dI aj aa ?_;refine .intro (by rw[cRow_len]; omega) ?_;rw[cRow_len];refine y8 (λj:Nat=>j≤l.length) (λj=>[(0,.c (cK L)),(5,.c (.ow 20 1 L.length)),(6,.c (nI .i64 n)),(8,.c (cSl v)),(21,.c (cK L)),(22,.c (nI .i64 L.length)),(23,.c (nI .i64 n)),(39,.c (cSl l)),(40,.c (nI .i64 l.length)),(41,.c (nI .i64 j))])
     (λj=>[(20,.rowO 1 (base.set n [.ow 84 2 j]) [84]),(84,.row 2 (cr ((l.take j).map (cL L n))))]) (λj=>l.length-j)
     0 (by omega) ⟨rfl,rfl,rfl,rfl,rfl,rfl,rfl,rfl,rfl,rfl,HT⟩ ⟨rfl,rfl,HT⟩ (λj hj=>?_)
    refine dI aj aa ?_;refine dI aj aa ?_;refine ah (λh7=>?_) (λh7=>?_)
    ·have hj':j<l.length:=by omega
     have hsn:l.take (j+1)=l.take j++[l[j]]:=ER hj';have hx:=bs (l:=l) (i:=(j:Int)) (n:=j) rfl hj';have hxf:=hff l[j] (EY hj');have hxl:=hLn.at' hj';have hcj:(l.take j).length=j:=by rw[E3]; omega
     generalize l[j]=x at *
     refine jG (gU ?_);refine dI aj aa ?_;refine .intro (by omega) (X1 _ hx ?_);refine dI aj aa ?_;refine X1 _ (iY x.1 hxl) ?_;refine .intro rfl ?_;refine mH aj aa (G2:=Cnt) (λc=>c=cL L n x) (λ_=>[(0,.c (cK L)),(5,.c (.ow 20 1 L.length)),(6,.c (nI .i64 n)),(8,.c (cSl v)),(11,.c (.ad 11 0)),(21,.c (cK L)),(22,.c (nI .i64 L.length)),(23,.c (nI .i64 n)),(39,.c (cSl l)),(40,.c (nI .i64 l.length)),(41,.c (nI .i64 j))])
      (λc=>[(11,.var [iSl c.1,eI .i64 c.2]),(20,.rowO 1 (base.set n [.ow 84 2 j]) [84]),(84,.row 2 (cr ((l.take j).map (cL L n))))]) ?_ (λc hce=>?_)
     ·refine X1 ((n+1:Nat):Int) (wI (by simp) (by omega) (by omega)) ?_;refine .intro (by rw[ar]; omega) ?_;rw[ar];refine ah (λh6=>?_) (λh6=>?_)
      ·have hn1:n+1<L.length:=by omega
       have hE:=hv hn1;refine .intro (by omega) (X1 _ (bm (n:=0) rfl (by omega)) ?_);refine dE (λh9=>?_) (λh9=>?_)
       ·have hce:cL L n x=(x.1,(ahead (L.getD (n+1) []) x.1:Int)):=if_pos ⟨hn1,by simpa using h9⟩;have hfi:=wt hE (n:=n+1) (hahd hn1) (g:=x.1) (by omega);refine X1 _ (pG v x.1 hE.lim hxl hE.rises) ?_;rcases hfi with ⟨i,hi,f1,f2⟩ | ⟨f1,f2⟩
        ·rw[f1];refine .intro (by omega) (X1 _ (bs (n:=i) rfl hi) ?_);rw[f2];exact ⟨(x.1,(ahead (L.getD (n+1) []) x.1:Int)),hce.symm,⟨rfl,rfl,rfl,rfl,rfl,rfl,rfl,rfl,rfl,rfl,rfl,HT⟩,⟨rfl,rfl,rfl,HT⟩⟩
        ·rw[f1];rw[f2]at hce;exact ⟨(x.1,0),hce.symm,⟨rfl,rfl,rfl,rfl,rfl,rfl,rfl,rfl,rfl,rfl,rfl,HT⟩,⟨rfl,rfl,rfl,HT⟩⟩
       ·have hce:cL L n x=x:=if_neg (λh=>h.2 (by simpa using h9));exact ⟨x,hce.symm,⟨rfl,rfl,rfl,rfl,rfl,rfl,rfl,rfl,rfl,rfl,rfl,HT⟩,⟨rfl,rfl,rfl,HT⟩⟩
      ·have hce:cL L n x=x:=if_neg (λh=>h6 (by omega));exact ⟨x,hce.symm,⟨rfl,rfl,rfl,rfl,rfl,rfl,rfl,rfl,rfl,rfl,rfl,HT⟩,⟨rfl,rfl,rfl,HT⟩⟩
     ·refine nT (Ty.own_ok [1000001,1000002] aj) aa ?_;refine .intro (by omega) (.intro (by omega) (X1 _ (List.getElem?_set_self hbl) ?_));refine X1 [] (λel' q he hm=>EC hbc hbl he hm) ?_;refine ⟨by rw[cRow_len]; simp; omega,by rw[cRow_len]; simp only[FD,E3]; show (min j l.length+1+768)*32≤_; omega,by rw[cRow_len]; simp only[FD,E3]; show min j l.length+1≤_; omega,bu,aq rfl,?_⟩;refine .intro (by omega) (.intro (by omega) (X1 _ (List.getElem?_set_self (by rw[GM]; exact hbl)) ?_));refine .intro rfl ?_;refine nT aj aa ?_;refine X1 ((j+1:Nat):Int) (wI (by simp) (by omega) (by omega)) ?_;exact ⟨j+1,by omega,by omega,⟨rfl,rfl,rfl,rfl,rfl,rfl,rfl,rfl,rfl,rfl,HT⟩,⟨CA ((ED (base:=base) (n:=n) (a:=[PC.ow 84 2 j]) (b:=[PC.dead]) (c:=[PC.ow 84 2 _])).trans (congrArg (λk=>base.set n [PC.ow 84 2 k]) (by rw[EL,cRow_len,FD,hcj]; rfl))) rfl,aB (by rw[hsn,FW,←eQ]; simp only[Fw,Hj]; rw[←hce]; rfl),HT⟩⟩
    ·have hje:j=l.length:=by omega
     subst hje;refine ul [84] ?_;refine DY (k:=20) (sz:=1) (els:=a8 ((ao L).take (n+1))++List.replicate (L.length-(n+1)) fH) (ids:=[84]) (CA ?_ rfl) (CB _ _) ?_
     ·rw[List.map_set,hvw];exact hend _ (by rw[Fp])
     ·refine nT aj aa ?_;refine X1 ((n+1:Nat):Int) (wI (by simp) (by omega) (by omega)) ?_;exact ⟨n+1,by omega,by omega,⟨rfl,rfl,rfl,rfl,rfl,HT⟩,⟨rfl,HT⟩⟩
  ·have e:n=L.length:=by omega
   subst e;exact ⟨(),HT,⟨rfl,HT⟩,⟨aB (by rw[Fs (by rw[bz]; exact EM _)]; simp),HT⟩⟩
 ·refine nT aj aa ?_;have:L.length=(a8 (ao L)).length:=by rw[ar,bz]
  exact ⟨HT,r1 rfl,r1 rfl,HT⟩
end Go.Proofs.YtgceikecdedfcaaGreat.Pv
