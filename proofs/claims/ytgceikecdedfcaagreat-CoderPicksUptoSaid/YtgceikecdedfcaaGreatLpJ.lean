/- Parts of a proof, joined: Sid PvZ Sie Sca Scb. -/
import Derived.Test.YtgceikecdedfcaaGreatLpI
import Derived.Sort.AssemblyPlain
namespace Go.Proofs.YtgceikecdedfcaaGreat.Pv.SrtI
open Go Go.Sort
section
variable {p:El→Bool} {e:Array El} {i j:Nat}
theorem sUp_a (h:¬ i≤j):scanUp p e j i=i:=by rw[scanUp,if_neg (by simp; omega)]
theorem sUp_b (h:p e[i]! = false):scanUp p e j i=i:=by rw[scanUp,if_neg (by simp[h])]
theorem sUp_c (h:i≤j) (h2:p e[i]! = true):scanUp p e j i=scanUp p e j (i+1):=by rw[scanUp,if_pos (by simp[h2]; omega)]
theorem sDn_a (h:¬ i≤j):scanDown p e i j=j:=by
 cases j with
 | zero=>rfl
 | succ j=>rw[scanDown,if_neg (by simp; omega)]
theorem sDn_b (h:p e[j]! = false):scanDown p e i j=j:=by
 cases j with
 | zero=>rfl
 | succ j=>rw[scanDown,if_neg (by simp[h])]
theorem sDn_c (h0:1≤j) (h:i≤j) (h2:p e[j]! = true):scanDown p e i j=scanDown p e i (j-1):=by
 cases j with
 | zero=>omega
 | succ j=>rw[scanDown,if_pos (by simp[h2]; omega)]; rfl
end
variable {cm:El→El→Int}
theorem pEqL {a i j i2 j2:Nat} {e:Array El} (hi2:scanUp (λx=>!lt cm e[a]! x) e j i=i2) (hj2:scanDown (λx=>lt cm e[a]! x) e i2 j=j2):partEqLoop (lt cm) a i j e=if i2>j2 then (i2,e) else if _h:(j2-1)+1-(i2+1)<j+1-i then partEqLoop (lt cm) a (i2+1) (j2-1) (swp e i2 j2) else (i2,e):=by
 subst hi2 hj2;rw[partEqLoop]
theorem pL {a i j i2 j2:Nat} {e:Array El} (hi2:scanUp (λx=>lt cm x e[a]!) e j i=i2) (hj2:scanDown (λx=>!lt cm x e[a]!) e i2 j=j2):partLoop (lt cm) a i j e=if i2>j2 then (j2,e) else if _h:(j2-1)+1-(i2+1)<j+1-i then partLoop (lt cm) a (i2+1) (j2-1) (swp e i2 j2) else (j2,e):=by
 subst hi2 hj2;rw[partLoop]
variable (g:FuncId) (cm)
variable (hc:∀ x y,Ct P g [VL x,VL y] [.c (eI .i64 (cm x y))])
include hc
theorem pEq_ct (d:Array El) (a b p:Nat) (hab:a<b) (hp:p<d.size) (hb:b≤d.size) (hd:d.size≤1000000) :
  CtO P 197 [dO d] [dA d,.c (nI .i64 a),.c (nI .i64 b),.c (nI .i64 p),.c (.fn g [])] [dO (partitionEqual (lt cm) d a b p).2] [.c (nI .i64 (partitionEqual (lt cm) d a b p).1)]:=by
 have key:∀ F:Nat × Array El,partEqLoop (lt cm) a (a+1) (b-1) (swp d a p)=F→CtO P 197 [dO d] [dA d,.c (nI .i64 a),.c (nI .i64 b),.c (nI .i64 p),.c (.fn g [])] [dO F.2] [.c (nI .i64 F.1)]:=by
  intro F hF;refine Ct.io aj aa (N:=90) Tryz.func197 rfl rfl rfl rfl ?_;refine .intro (by omega) (.intro (by omega) (X1 _ (row_get (d:=d) (n:=p) rfl (by omega)) ?_));refine .intro (by omega) (.intro (by omega) (X1 _ (row_get (d:=d) (n:=a) rfl (by omega)) ?_));refine .intro (by omega) (.intro (by omega) (X1 _ (row_get (d:=d) (n:=a) rfl (by omega)) ?_));refine .intro (by omega) (.intro (by omega) (X1 _ (row_get2 (d:=d) (y:=d[p]!) (m:=a) (n:=p) rfl rfl (by omega)) ?_));refine .intro rfl ?_;refine X1 ((a+1:Nat):Int) (wI (by simp) (by omega) (by omega)) ?_;refine X1 ((b-1:Nat):Int) (wI (by omega) (by omega) (by omega)) ?_;refine ax aj aa (G:=Nat × Nat × Array El) (λ(i,j,e)=>partEqLoop (lt cm) a i j e=F∧e.size=d.size∧1≤i∧j<d.size∧i≤j+2) (λ(i,j,_)=>[(0,.c (.ow 1000000 SZ d.size)),(1,.c (nI .i64 a)),(4,.c (.fn g [])),(11,.c (nI .i64 i)),(12,.c (nI .i64 j))]) (λ(_,_,e)=>[(1000000,.row SZ (row e))]) (λ(i,j,_)=>j+1-i)
   (a+1,b-1,swp d a p) ⟨hF,swp_size,by omega,by omega,by omega⟩ ⟨rfl,rfl,rfl,rfl,rfl,HB⟩ ⟨aB (row_swp (m:=a) (n:=p) rfl rfl),HB⟩ (G2:=Nat × Array El) (λ(i,e)=>F=(i,e)) (λ(i,_)=>[(11,.c (nI .i64 i))]) (λ(_,e)=>[(1000000,.row SZ (row e))]) (λ(i,j,e) hi=>?_) (λ(i,e) he=>?_)
  ·obtain ⟨i1,i2,i3,i4,i5⟩:=hi;refine ax aj aa (G:=Nat) (λq=>scanUp (λx=>!lt cm e[a]! x) e j q=scanUp (λx=>!lt cm e[a]! x) e j i∧i≤q∧(q≤j+1∨q=i)) (λq=>[(0,.c (.ow 1000000 SZ d.size)),(1,.c (nI .i64 a)),(4,.c (.fn g [])),(11,.c (nI .i64 q)),(12,.c (nI .i64 j))]) (λ_=>[(1000000,.row SZ (row e))]) (λq=>j+1-q)
    i ⟨rfl,by omega,by omega⟩ ⟨rfl,rfl,rfl,rfl,rfl,HB⟩ ⟨rfl,HB⟩ (G2:=Nat) (λq=>scanUp (λx=>!lt cm e[a]! x) e j i=q∧i≤q∧(q≤j+1∨q=i)) (λq=>[(0,.c (.ow 1000000 SZ d.size)),(1,.c (nI .i64 a)),(4,.c (.fn g [])),(11,.c (nI .i64 q)),(12,.c (nI .i64 j))]) (λ_=>[(1000000,.row SZ (row e))]) (λq hq=>?_) (λk hk=>?_)
   ·obtain ⟨q1,q2,q3⟩:=hq;refine ae (λh6=>?_) (λh6=>?_)
    ·refine .intro (by omega) (.intro (by omega) (X1 _ (row_get (d:=e) (n:=a) rfl (by omega)) ?_));refine .intro (by omega) (.intro (by omega) (X1 _ (row_get (d:=e) (n:=q) rfl (by omega)) ?_));refine X1 _ (hc _ _) ?_;refine .intro rfl ?_;refine aP (λh7=>?_) (λh7=>?_)
     ·have h7p:(!lt cm e[a]! e[q]!)=true:=h7;rw[sUp_c (p:=(λx=>!lt cm e[a]! x)) (e:=e) (i:=q) (by omega) h7p]at q1;refine X1 ((q+1:Nat):Int) (wI (by simp) (by omega) (by omega)) ?_;exact ⟨q+1,⟨q1,by omega,by omega⟩,by show j+1-(q+1)<j+1-q; omega,⟨rfl,rfl,rfl,rfl,rfl,HB⟩,⟨rfl,HB⟩⟩
     ·have h7p:(!lt cm e[a]! e[q]!)=false:=h7;rw[sUp_b (p:=(λx=>!lt cm e[a]! x)) (e:=e) (i:=q) h7p]at q1;exact ⟨q,⟨q1.symm,q2,q3⟩,⟨rfl,rfl,rfl,rfl,rfl,HB⟩,⟨rfl,HB⟩⟩
    ·refine .intro rfl ?_;rw[sUp_a (by omega)]at q1;exact ⟨q,⟨q1.symm,q2,q3⟩,⟨rfl,rfl,rfl,rfl,rfl,HB⟩,⟨rfl,HB⟩⟩
   ·obtain ⟨k1,k2,k3⟩:=hk;refine ax aj aa (G:=Nat) (λq=>scanDown (λx=>lt cm e[a]! x) e k q=scanDown (λx=>lt cm e[a]! x) e k j∧q≤j∧(k≤q+1∨q=j)) (λq=>[(0,.c (.ow 1000000 SZ d.size)),(1,.c (nI .i64 a)),(4,.c (.fn g [])),(11,.c (nI .i64 k)),(12,.c (nI .i64 q))]) (λ_=>[(1000000,.row SZ (row e))]) (λq=>q)
     j ⟨rfl,by omega,by omega⟩ ⟨rfl,rfl,rfl,rfl,rfl,HB⟩ ⟨rfl,HB⟩ (G2:=Nat) (λq=>scanDown (λx=>lt cm e[a]! x) e k j=q∧q≤j∧(k≤q+1∨q=j)) (λq=>[(0,.c (.ow 1000000 SZ d.size)),(1,.c (nI .i64 a)),(4,.c (.fn g [])),(11,.c (nI .i64 k)),(12,.c (nI .i64 q))]) (λ_=>[(1000000,.row SZ (row e))]) (λq hq=>?_) (λr hr=>?_)
    ·obtain ⟨q1,q2,q3⟩:=hq;refine ae (λh6=>?_) (λh6=>?_)
     ·refine .intro (by omega) (.intro (by omega) (X1 _ (row_get (d:=e) (n:=a) rfl (by omega)) ?_));refine .intro (by omega) (.intro (by omega) (X1 _ (row_get (d:=e) (n:=q) rfl (by omega)) ?_));refine X1 _ (hc _ _) ?_;refine .intro rfl ?_;refine aP (λh7=>?_) (λh7=>?_)
      ·have h7p:lt cm e[a]! e[q]! = true:=h7;rw[sDn_c (p:=(λx=>lt cm e[a]! x)) (e:=e) (j:=q) (by omega) (by omega) h7p]at q1;refine X1 ((q-1:Nat):Int) (wI (by omega) (by omega) (by omega)) ?_;exact ⟨q-1,⟨q1,by omega,by omega⟩,by show q-1<q; omega,⟨rfl,rfl,rfl,rfl,rfl,HB⟩,⟨rfl,HB⟩⟩
      ·have h7p:lt cm e[a]! e[q]! = false:=h7;rw[sDn_b (p:=(λx=>lt cm e[a]! x)) (e:=e) (j:=q) h7p]at q1;exact ⟨q,⟨q1.symm,q2,q3⟩,⟨rfl,rfl,rfl,rfl,rfl,HB⟩,⟨rfl,HB⟩⟩
     ·refine .intro rfl ?_;rw[sDn_a (by omega)]at q1;exact ⟨q,⟨q1.symm,q2,q3⟩,⟨rfl,rfl,rfl,rfl,rfl,HB⟩,⟨rfl,HB⟩⟩
    ·obtain ⟨r1',r2',r3'⟩:=hr;rw[pEqL k1 r1']at i1;refine ae (λh8=>?_) (λh8=>?_)
     ·rw[if_pos (by omega)]at i1;exact ⟨(k,e),i1.symm,⟨rfl,HB⟩,⟨rfl,HB⟩⟩
     ·rw[if_neg (by omega),dif_pos (by omega)]at i1;refine .intro (by omega) (.intro (by omega) (X1 _ (row_get (d:=e) (n:=r) rfl (by omega)) ?_));refine .intro (by omega) (.intro (by omega) (X1 _ (row_get (d:=e) (n:=k) rfl (by omega)) ?_));refine .intro (by omega) (.intro (by omega) (X1 _ (row_get (d:=e) (n:=k) rfl (by omega)) ?_));refine .intro (by omega) (.intro (by omega) (X1 _ (row_get2 (d:=e) (y:=e[r]!) (m:=k) (n:=r) rfl rfl (by omega)) ?_));refine .intro rfl ?_;refine X1 ((k+1:Nat):Int) (wI (by simp) (by omega) (by omega)) ?_;refine X1 ((r-1:Nat):Int) (wI (by omega) (by omega) (by omega)) ?_;exact ⟨(k+1,r-1,swp e k r),⟨i1,by rw[swp_size]; exact i2,by omega,by omega,by omega⟩,by show r-1+1-(k+1)<j+1-i; omega,⟨rfl,rfl,rfl,rfl,rfl,HB⟩,⟨aB (row_swp (m:=k) (n:=r) rfl rfl),HB⟩⟩
  ·rw[he];exact ⟨HB,SubO.of (l:=[(1000000,.row _ _)]) ⟨rfl,HB⟩,r1 rfl,HB⟩
 exact key _ rfl
theorem part_ct (d:Array El) (a b p:Nat) (hab:a<b) (hp:p<d.size) (hb:b≤d.size) (hd:d.size≤1000000) :
  CtO P 198 [dO d] [dA d,.c (nI .i64 a),.c (nI .i64 b),.c (nI .i64 p),.c (.fn g [])] [dO (partition (lt cm) d a b p).2.2] [.c (nI .i64 (partition (lt cm) d a b p).1),.c (.sc (.bool (partition (lt cm) d a b p).2.1))]:=by
 have key:∀ e0:Array El,swp d a p=e0→CtO P 198 [dO d] [dA d,.c (nI .i64 a),.c (nI .i64 b),.c (nI .i64 p),.c (.fn g [])] [dO (partition (lt cm) d a b p).2.2] [.c (nI .i64 (partition (lt cm) d a b p).1),.c (.sc (.bool (partition (lt cm) d a b p).2.1))]:=by
  intro e0 he0;have hpt:partition (lt cm) d a b p=(if scanUp (λx=>lt cm x e0[a]!) e0 (b-1) (a+1)>scanDown (λx=>!lt cm x e0[a]!) e0 (scanUp (λx=>lt cm x e0[a]!) e0 (b-1) (a+1)) (b-1) then (scanDown (λx=>!lt cm x e0[a]!) e0 (scanUp (λx=>lt cm x e0[a]!) e0 (b-1) (a+1)) (b-1),true,swp e0 (scanDown (λx=>!lt cm x e0[a]!) e0 (scanUp (λx=>lt cm x e0[a]!) e0 (b-1) (a+1)) (b-1)) a) else
    ((partLoop (lt cm) a (scanUp (λx=>lt cm x e0[a]!) e0 (b-1) (a+1)+1) (scanDown (λx=>!lt cm x e0[a]!) e0 (scanUp (λx=>lt cm x e0[a]!) e0 (b-1) (a+1)) (b-1)-1) (swp e0 (scanUp (λx=>lt cm x e0[a]!) e0 (b-1) (a+1)) (scanDown (λx=>!lt cm x e0[a]!) e0 (scanUp (λx=>lt cm x e0[a]!) e0 (b-1) (a+1)) (b-1)))).1,false,swp (partLoop (lt cm) a (scanUp (λx=>lt cm x e0[a]!) e0 (b-1) (a+1)+1) (scanDown (λx=>!lt cm x e0[a]!) e0 (scanUp (λx=>lt cm x e0[a]!) e0 (b-1) (a+1)) (b-1)-1) (swp e0 (scanUp (λx=>lt cm x e0[a]!) e0 (b-1) (a+1)) (scanDown (λx=>!lt cm x e0[a]!) e0 (scanUp (λx=>lt cm x e0[a]!) e0 (b-1) (a+1)) (b-1)))).2 (partLoop (lt cm) a (scanUp (λx=>lt cm x e0[a]!) e0 (b-1) (a+1)+1) (scanDown (λx=>!lt cm x e0[a]!) e0 (scanUp (λx=>lt cm x e0[a]!) e0 (b-1) (a+1)) (b-1)-1) (swp e0 (scanUp (λx=>lt cm x e0[a]!) e0 (b-1) (a+1)) (scanDown (λx=>!lt cm x e0[a]!) e0 (scanUp (λx=>lt cm x e0[a]!) e0 (b-1) (a+1)) (b-1)))).1 a)):=by
   rw[←he0]; rfl
  have hs0:e0.size=d.size:=by rw[←he0,swp_size]
  refine Ct.io aj aa (N:=178) Tryz.func198 rfl rfl rfl rfl ?_;refine .intro (by omega) (.intro (by omega) (X1 _ (row_get (d:=d) (n:=p) rfl (by omega)) ?_));refine .intro (by omega) (.intro (by omega) (X1 _ (row_get (d:=d) (n:=a) rfl (by omega)) ?_));refine .intro (by omega) (.intro (by omega) (X1 _ (row_get (d:=d) (n:=a) rfl (by omega)) ?_));refine .intro (by omega) (.intro (by omega) (X1 _ (row_get2 (d:=d) (y:=d[p]!) (m:=a) (n:=p) rfl rfl (by omega)) ?_));refine .intro rfl ?_;have hrow:=row_swp (d:=d) (i:=(a:Int)) (j:=(p:Int)) (m:=a) (n:=p) rfl rfl;rw[he0]at hrow;refine X1 ((a+1:Nat):Int) (wI (by simp) (by omega) (by omega)) ?_;refine X1 ((b-1:Nat):Int) (wI (by omega) (by omega) (by omega)) ?_;refine ax aj aa (G:=Nat) (λq=>scanUp (λx=>lt cm x e0[a]!) e0 (b-1) q=scanUp (λx=>lt cm x e0[a]!) e0 (b-1) (a+1)∧(a+1)≤q∧(q≤(b-1)+1∨q=(a+1))) (λq=>[(0,.c (.ow 1000000 SZ d.size)),(1,.c (nI .i64 a)),(4,.c (.fn g [])),(12,.c (nI .i64 q)),(13,.c (nI .i64 (b-1)))]) (λ_=>[(1000000,.row SZ (row e0))]) (λq=>(b-1)+1-q)
   (a+1) ⟨rfl,by omega,by omega⟩ ⟨rfl,rfl,rfl,rfl,rfl,HB⟩ ⟨aB hrow,HB⟩ (G2:=Nat) (λq=>scanUp (λx=>lt cm x e0[a]!) e0 (b-1) (a+1)=q∧(a+1)≤q∧(q≤(b-1)+1∨q=(a+1))) (λq=>[(0,.c (.ow 1000000 SZ d.size)),(1,.c (nI .i64 a)),(4,.c (.fn g [])),(12,.c (nI .i64 q)),(13,.c (nI .i64 (b-1)))]) (λ_=>[(1000000,.row SZ (row e0))]) (λq hq=>?_) (λk hk=>?_)
  ·obtain ⟨q1,q2,q3⟩:=hq;refine ae (λh6=>?_) (λh6=>?_)
   ·refine .intro (by omega) (.intro (by omega) (X1 _ (row_get (d:=e0) (n:=q) rfl (by omega)) ?_));refine .intro (by omega) (.intro (by omega) (X1 _ (row_get (d:=e0) (n:=a) rfl (by omega)) ?_));refine X1 _ (hc _ _) ?_;refine .intro rfl ?_;refine aP (λh7=>?_) (λh7=>?_)
    ·have h7p:lt cm e0[q]! e0[a]! = true:=h7;rw[sUp_c (p:=(λx=>lt cm x e0[a]!)) (e:=e0) (i:=q) (by omega) h7p]at q1;refine X1 ((q+1:Nat):Int) (wI (by simp) (by omega) (by omega)) ?_;exact ⟨q+1,⟨q1,by omega,by omega⟩,by show (b-1)+1-(q+1)<(b-1)+1-q; omega,⟨rfl,rfl,rfl,rfl,rfl,HB⟩,⟨rfl,HB⟩⟩
    ·have h7p:lt cm e0[q]! e0[a]! = false:=h7;rw[sUp_b (p:=(λx=>lt cm x e0[a]!)) (e:=e0) (i:=q) h7p]at q1;exact ⟨q,⟨q1.symm,q2,q3⟩,⟨rfl,rfl,rfl,rfl,rfl,HB⟩,⟨rfl,HB⟩⟩
   ·refine .intro rfl ?_;rw[sUp_a (by omega)]at q1;exact ⟨q,⟨q1.symm,q2,q3⟩,⟨rfl,rfl,rfl,rfl,rfl,HB⟩,⟨rfl,HB⟩⟩
  ·obtain ⟨k1,k2,k3⟩:=hk;refine ax aj aa (G:=Nat) (λq=>scanDown (λx=>!lt cm x e0[a]!) e0 k q=scanDown (λx=>!lt cm x e0[a]!) e0 k (b-1)∧q≤(b-1)∧(k≤q+1∨q=(b-1))) (λq=>[(0,.c (.ow 1000000 SZ d.size)),(1,.c (nI .i64 a)),(4,.c (.fn g [])),(12,.c (nI .i64 k)),(13,.c (nI .i64 q))]) (λ_=>[(1000000,.row SZ (row e0))]) (λq=>q)
    (b-1) ⟨rfl,by omega,by omega⟩ ⟨rfl,rfl,rfl,rfl,rfl,HB⟩ ⟨rfl,HB⟩ (G2:=Nat) (λq=>scanDown (λx=>!lt cm x e0[a]!) e0 k (b-1)=q∧q≤(b-1)∧(k≤q+1∨q=(b-1))) (λq=>[(0,.c (.ow 1000000 SZ d.size)),(1,.c (nI .i64 a)),(4,.c (.fn g [])),(12,.c (nI .i64 k)),(13,.c (nI .i64 q))]) (λ_=>[(1000000,.row SZ (row e0))]) (λq hq=>?_) (λr hr=>?_)
   ·obtain ⟨q1,q2,q3⟩:=hq;refine ae (λh6=>?_) (λh6=>?_)
    ·refine .intro (by omega) (.intro (by omega) (X1 _ (row_get (d:=e0) (n:=q) rfl (by omega)) ?_));refine .intro (by omega) (.intro (by omega) (X1 _ (row_get (d:=e0) (n:=a) rfl (by omega)) ?_));refine X1 _ (hc _ _) ?_;refine .intro rfl ?_;refine aP (λh7=>?_) (λh7=>?_)
     ·have h7p:(!lt cm e0[q]! e0[a]!)=true:=h7;rw[sDn_c (p:=(λx=>!lt cm x e0[a]!)) (e:=e0) (j:=q) (by omega) (by omega) h7p]at q1;refine X1 ((q-1:Nat):Int) (wI (by omega) (by omega) (by omega)) ?_;exact ⟨q-1,⟨q1,by omega,by omega⟩,by show q-1<q; omega,⟨rfl,rfl,rfl,rfl,rfl,HB⟩,⟨rfl,HB⟩⟩
     ·have h7p:(!lt cm e0[q]! e0[a]!)=false:=h7;rw[sDn_b (p:=(λx=>!lt cm x e0[a]!)) (e:=e0) (j:=q) h7p]at q1;exact ⟨q,⟨q1.symm,q2,q3⟩,⟨rfl,rfl,rfl,rfl,rfl,HB⟩,⟨rfl,HB⟩⟩
    ·refine .intro rfl ?_;rw[sDn_a (by omega)]at q1;exact ⟨q,⟨q1.symm,q2,q3⟩,⟨rfl,rfl,rfl,rfl,rfl,HB⟩,⟨rfl,HB⟩⟩
   ·obtain ⟨s1,s2,s3⟩:=hr;rw[k1,s1]at hpt;refine ae (λh8=>?_) (λh8=>?_)
    ·rw[if_pos (by omega)]at hpt;rw[hpt];refine .intro (by omega) (.intro (by omega) (X1 _ (row_get (d:=e0) (n:=a) rfl (by omega)) ?_));refine .intro (by omega) (.intro (by omega) (X1 _ (row_get (d:=e0) (n:=r) rfl (by omega)) ?_));refine .intro (by omega) (.intro (by omega) (X1 _ (row_get (d:=e0) (n:=r) rfl (by omega)) ?_));refine .intro (by omega) (.intro (by omega) (X1 _ (row_get2 (d:=e0) (y:=e0[a]!) (m:=r) (n:=a) rfl rfl (by omega)) ?_));refine .intro rfl ?_;exact ⟨HB,SubO.of (l:=[(1000000,.row _ _)]) ⟨aB (row_swp (m:=r) (n:=a) rfl rfl),HB⟩,r1 rfl,r1 rfl,HB⟩
    ·rw[if_neg (by omega)]at hpt;rw[hpt];refine .intro (by omega) (.intro (by omega) (X1 _ (row_get (d:=e0) (n:=r) rfl (by omega)) ?_));refine .intro (by omega) (.intro (by omega) (X1 _ (row_get (d:=e0) (n:=k) rfl (by omega)) ?_));refine .intro (by omega) (.intro (by omega) (X1 _ (row_get (d:=e0) (n:=k) rfl (by omega)) ?_));refine .intro (by omega) (.intro (by omega) (X1 _ (row_get2 (d:=e0) (y:=e0[r]!) (m:=k) (n:=r) rfl rfl (by omega)) ?_));refine .intro rfl ?_;have hrow2:=row_swp (d:=e0) (i:=(k:Int)) (j:=(r:Int)) (m:=k) (n:=r) rfl rfl;have hs1:(swp e0 k r).size=d.size:=by rw[swp_size]; exact hs0
     generalize swp e0 k r=e1 at *
     generalize hF:partLoop (lt cm) a (k+1) (r-1) e1=F at *
     refine X1 ((k+1:Nat):Int) (wI (by simp) (by omega) (by omega)) ?_;refine X1 ((r-1:Nat):Int) (wI (by omega) (by omega) (by omega)) ?_;refine ax aj aa (G:=Nat × Nat × Array El) (λ(i,j,e)=>partLoop (lt cm) a i j e=F∧e.size=d.size∧1≤i∧j<d.size∧i≤j+2) (λ(i,j,_)=>[(0,.c (.ow 1000000 SZ d.size)),(1,.c (nI .i64 a)),(4,.c (.fn g [])),(12,.c (nI .i64 i)),(13,.c (nI .i64 j))]) (λ(_,_,e)=>[(1000000,.row SZ (row e))]) (λ(i,j,_)=>j+1-i)
      (k+1,r-1,e1) ⟨hF,hs1,by omega,by omega,by omega⟩ ⟨rfl,rfl,rfl,rfl,rfl,HB⟩ ⟨aB hrow2,HB⟩ (G2:=Nat × Array El) (λ(j,e)=>F=(j,e)∧j<d.size∧e.size=d.size) (λ(j,_)=>[(0,.c (.ow 1000000 SZ d.size)),(1,.c (nI .i64 a)),(13,.c (nI .i64 j))]) (λ(_,e)=>[(1000000,.row SZ (row e))]) (λ(i,j,e) hi=>?_) (λ(j,e) he=>?_)
     ·obtain ⟨i1,i2,i3,i4,i5⟩:=hi;refine ax aj aa (G:=Nat) (λq=>scanUp (λx=>lt cm x e[a]!) e j q=scanUp (λx=>lt cm x e[a]!) e j i∧i≤q∧(q≤j+1∨q=i)) (λq=>[(0,.c (.ow 1000000 SZ d.size)),(1,.c (nI .i64 a)),(4,.c (.fn g [])),(12,.c (nI .i64 q)),(13,.c (nI .i64 j))]) (λ_=>[(1000000,.row SZ (row e))]) (λq=>j+1-q)
       i ⟨rfl,by omega,by omega⟩ ⟨rfl,rfl,rfl,rfl,rfl,HB⟩ ⟨rfl,HB⟩ (G2:=Nat) (λq=>scanUp (λx=>lt cm x e[a]!) e j i=q∧i≤q∧(q≤j+1∨q=i)) (λq=>[(0,.c (.ow 1000000 SZ d.size)),(1,.c (nI .i64 a)),(4,.c (.fn g [])),(12,.c (nI .i64 q)),(13,.c (nI .i64 j))]) (λ_=>[(1000000,.row SZ (row e))]) (λq hq=>?_) (λu hu=>?_)
      ·obtain ⟨q1,q2,q3⟩:=hq;refine ae (λh6=>?_) (λh6=>?_)
       ·refine .intro (by omega) (.intro (by omega) (X1 _ (row_get (d:=e) (n:=q) rfl (by omega)) ?_));refine .intro (by omega) (.intro (by omega) (X1 _ (row_get (d:=e) (n:=a) rfl (by omega)) ?_));refine X1 _ (hc _ _) ?_;refine .intro rfl ?_;refine aP (λh7=>?_) (λh7=>?_)
        ·have h7p:lt cm e[q]! e[a]! = true:=h7;rw[sUp_c (p:=(λx=>lt cm x e[a]!)) (e:=e) (i:=q) (by omega) h7p]at q1;refine X1 ((q+1:Nat):Int) (wI (by simp) (by omega) (by omega)) ?_;exact ⟨q+1,⟨q1,by omega,by omega⟩,by show j+1-(q+1)<j+1-q; omega,⟨rfl,rfl,rfl,rfl,rfl,HB⟩,⟨rfl,HB⟩⟩
        ·have h7p:lt cm e[q]! e[a]! = false:=h7;rw[sUp_b (p:=(λx=>lt cm x e[a]!)) (e:=e) (i:=q) h7p]at q1;exact ⟨q,⟨q1.symm,q2,q3⟩,⟨rfl,rfl,rfl,rfl,rfl,HB⟩,⟨rfl,HB⟩⟩
       ·refine .intro rfl ?_;rw[sUp_a (by omega)]at q1;exact ⟨q,⟨q1.symm,q2,q3⟩,⟨rfl,rfl,rfl,rfl,rfl,HB⟩,⟨rfl,HB⟩⟩
      ·obtain ⟨u1,u2,u3⟩:=hu;refine ax aj aa (G:=Nat) (λq=>scanDown (λx=>!lt cm x e[a]!) e u q=scanDown (λx=>!lt cm x e[a]!) e u j∧q≤j∧(u≤q+1∨q=j)) (λq=>[(0,.c (.ow 1000000 SZ d.size)),(1,.c (nI .i64 a)),(4,.c (.fn g [])),(12,.c (nI .i64 u)),(13,.c (nI .i64 q))]) (λ_=>[(1000000,.row SZ (row e))]) (λq=>q)
        j ⟨rfl,by omega,by omega⟩ ⟨rfl,rfl,rfl,rfl,rfl,HB⟩ ⟨rfl,HB⟩ (G2:=Nat) (λq=>scanDown (λx=>!lt cm x e[a]!) e u j=q∧q≤j∧(u≤q+1∨q=j)) (λq=>[(0,.c (.ow 1000000 SZ d.size)),(1,.c (nI .i64 a)),(4,.c (.fn g [])),(12,.c (nI .i64 u)),(13,.c (nI .i64 q))]) (λ_=>[(1000000,.row SZ (row e))]) (λq hq=>?_) (λv hv=>?_)
       ·obtain ⟨q1,q2,q3⟩:=hq;refine ae (λh6=>?_) (λh6=>?_)
        ·refine .intro (by omega) (.intro (by omega) (X1 _ (row_get (d:=e) (n:=q) rfl (by omega)) ?_));refine .intro (by omega) (.intro (by omega) (X1 _ (row_get (d:=e) (n:=a) rfl (by omega)) ?_));refine X1 _ (hc _ _) ?_;refine .intro rfl ?_;refine aP (λh7=>?_) (λh7=>?_)
         ·have h7p:(!lt cm e[q]! e[a]!)=true:=h7;rw[sDn_c (p:=(λx=>!lt cm x e[a]!)) (e:=e) (j:=q) (by omega) (by omega) h7p]at q1;refine X1 ((q-1:Nat):Int) (wI (by omega) (by omega) (by omega)) ?_;exact ⟨q-1,⟨q1,by omega,by omega⟩,by show q-1<q; omega,⟨rfl,rfl,rfl,rfl,rfl,HB⟩,⟨rfl,HB⟩⟩
         ·have h7p:(!lt cm e[q]! e[a]!)=false:=h7;rw[sDn_b (p:=(λx=>!lt cm x e[a]!)) (e:=e) (j:=q) h7p]at q1;exact ⟨q,⟨q1.symm,q2,q3⟩,⟨rfl,rfl,rfl,rfl,rfl,HB⟩,⟨rfl,HB⟩⟩
        ·refine .intro rfl ?_;rw[sDn_a (by omega)]at q1;exact ⟨q,⟨q1.symm,q2,q3⟩,⟨rfl,rfl,rfl,rfl,rfl,HB⟩,⟨rfl,HB⟩⟩
       ·obtain ⟨v1,v2,v3⟩:=hv;rw[pL u1 v1]at i1;refine ae (λh8=>?_) (λh8=>?_)
        ·rw[if_pos (by omega)]at i1;exact ⟨(v,e),⟨i1.symm,by omega,i2⟩,⟨rfl,rfl,rfl,HB⟩,⟨rfl,HB⟩⟩
        ·rw[if_neg (by omega),dif_pos (by omega)]at i1;refine .intro (by omega) (.intro (by omega) (X1 _ (row_get (d:=e) (n:=v) rfl (by omega)) ?_));refine .intro (by omega) (.intro (by omega) (X1 _ (row_get (d:=e) (n:=u) rfl (by omega)) ?_));refine .intro (by omega) (.intro (by omega) (X1 _ (row_get (d:=e) (n:=u) rfl (by omega)) ?_));refine .intro (by omega) (.intro (by omega) (X1 _ (row_get2 (d:=e) (y:=e[v]!) (m:=u) (n:=v) rfl rfl (by omega)) ?_));refine .intro rfl ?_;refine X1 ((u+1:Nat):Int) (wI (by simp) (by omega) (by omega)) ?_;refine X1 ((v-1:Nat):Int) (wI (by omega) (by omega) (by omega)) ?_;exact ⟨(u+1,v-1,swp e u v),⟨i1,by rw[swp_size]; exact i2,by omega,by omega,by omega⟩,by show v-1+1-(u+1)<j+1-i; omega,⟨rfl,rfl,rfl,rfl,rfl,HB⟩,⟨aB (row_swp (m:=u) (n:=v) rfl rfl),HB⟩⟩
     ·obtain ⟨g1,g2,g3⟩:=he;rw[g1];refine .intro (by omega) (.intro (by omega) (X1 _ (row_get (d:=e) (n:=a) rfl (by omega)) ?_));refine .intro (by omega) (.intro (by omega) (X1 _ (row_get (d:=e) (n:=j) rfl (by omega)) ?_));refine .intro (by omega) (.intro (by omega) (X1 _ (row_get (d:=e) (n:=j) rfl (by omega)) ?_));refine .intro (by omega) (.intro (by omega) (X1 _ (row_get2 (d:=e) (y:=e[a]!) (m:=j) (n:=a) rfl rfl (by omega)) ?_));refine .intro rfl ?_;exact ⟨HB,SubO.of (l:=[(1000000,.row _ _)]) ⟨aB (row_swp (m:=j) (n:=a) rfl rfl),HB⟩,r1 rfl,r1 rfl,HB⟩
 exact key _ rfl
end Go.Proofs.YtgceikecdedfcaaGreat.Pv.SrtI
namespace Go.Proofs.YtgceikecdedfcaaGreat.Pv
open Go
section
variable {P:Program} {T:Ty} {N:Nx} {E:Env} {O:Objs} {c x y:Code} {Q:PQ}
theorem yL {i:Nat} {G:Type} (inv:G→Prop) (sE:G→List (Nat × AV)) (sO:G→List (Nat × Ob)) (m:G→Nat) (g0:G) (h0:inv g0) (hE:cf E (sE g0)) (hO:bs O (sO g0))
  (round:∀ g,inv g→WI P N (c8 (sE g)) (ce (sO g)) c (jt i (λE' O'=>∃ g',inv g'∧m g'<m g∧cf E' (sE g')∧bs O' (sO g')) (λE' O'=>Q .normal E' O') Q)):WI P N E O (.block i (.loop c)) Q:=by
 refine .of (W.block (W.loop inv sE sO m g0 h0 hE hO λg hg=>(round g hg).out.mono λe E O h=>?_))
 cases e with
 | exit j=>
  simp only[jt]at h;show bY i _ (.exit j) E O
  simp only[bY]
  cases hb:Nat.beq j i with
  | true=>rw[hb]at h; exact h
  | false=>rw[hb]at h; exact h
 | _=>exact h
theorem nT {i:Nat} (h:WI P N E O c (bY i Q)):WI P N E O (.block i c) Q:=.of (W.block h.out)
theorem dR (hT:T.ok P) (hm:P.follows .mixedOrders=true) (h:bS P T N x E O (gi (λE O=>WI P N E O y Q) Q)):WI P N E O (.seq x y) Q:=
 .of (W.seq ((aL hT hm x E O _ h).mono λe E O hq=>by
  cases e with
  | normal=>exact WI.out hq
  | _=>exact hq))
theorem kD (hT:T.ok P) (hm:P.follows .mixedOrders=true) {G2:Type} (post:G2→Prop) (pE:G2→List (Nat × AV)) (pO:G2→List (Nat × Ob))
  (h:bS P T N x E O (gi (λE' O'=>∃ g2,post g2∧cf E' (pE g2)∧bs O' (pO g2)) Q)) (hy:∀ g2,post g2→WI P N (c8 (pE g2)) (ce (pO g2)) y Q):WI P N E O (.seq x y) Q:=
 .of (W.seq ((aL hT hm x E O _ h).mono λe E O hq=>by
  cases e with
  | normal=>
   obtain ⟨g2,hp,h1,h2⟩:=hq;exact W.weak (Sub.of h1) (SubO.of h2) (hy g2 hp).out
  | _=>exact hq))
theorem vZ (h:WI P N E O x (gi (λE O=>WI P N E O y Q) Q)):WI P N E O (.seq x y) Q:=
 .of (W.seq (h.out.mono λe E O hq=>by
  cases e with
  | normal=>exact WI.out hq
  | _=>exact hq))
theorem yM {i:Nat} {G:Type} (inv:G→Prop) (sE:G→List (Nat × AV)) (sO:G→List (Nat × Ob)) (m:G→Nat) (g0:G) (h0:inv g0) (hE:cf E (sE g0)) (hO:bs O (sO g0))
  {G2:Type} (post:G2→Prop) (pE:G2→List (Nat × AV)) (pO:G2→List (Nat × Ob))
  (round:∀ g,inv g→WI P N (c8 (sE g)) (ce (sO g)) c (jt i (λE' O'=>∃ g',inv g'∧m g'<m g∧cf E' (sE g')∧bs O' (sO g')) (λE' O'=>∃ g2,post g2∧cf E' (pE g2)∧bs O' (pO g2)) Q))
  (after:∀ g2,post g2→WI P N (c8 (pE g2)) (ce (pO g2)) y Q):WI P N E O (.block i (.loop c)) (gi (λE O=>WI P N E O y Q) Q):=by
 refine .of (W.block (W.loop inv sE sO m g0 h0 hE hO λg hg=>(round g hg).out.mono λe E O h=>?_))
 cases e with
 | normal=>exact h
 | exit j=>
  simp only[jt]at h;show bY i _ (.exit j) E O
  simp only[bY]
  cases hb:Nat.beq j i with
  | true=>
   rw[hb]at h;obtain ⟨g2,hp,h1,h2⟩:=h;exact .of (W.weak (Sub.of h1) (SubO.of h2) (after g2 hp).out)
  | false=>rw[hb]at h; exact h
 | ret=>exact h
 | goto _=>exact h
 | panic _=>exact h
 | outgrown=>exact h
theorem DJ (ks:List Nat) (h:WI P N (.vw (O.only ks)::E) (O.froze ks (O.only ks)) c Q):WI P N E O c Q:=
 WI.step (λ_ K _ _ _ hs=>⟨K,_,hs.view ks⟩) h
theorem DK {k sz:Nat} {els:List (List PC)} {ids:List Nat} (hk:O.get k=some (.rowO sz els ids)) (hc:aA els) (h:WI P N E (O.set k (.row sz els)) c Q):WI P N E O c Q:=
 WI.step (λX K ok w a hs=>⟨K,ok,hs.less hk λhob=>by
  rcases hob.2 with h0 | ⟨b,cs,e,fr,a1,a2,a3,a4,a5,a6,a7⟩
  ·exact .inl h0
  ·exact .inr ⟨b,cs,e,fr,a1,a2,a3,a4,a5,a6,λj i el x hj hi=>by
    obtain ⟨u,hu,hr⟩:=a7 j i el x hj hi;exact ⟨u,hu,hr.closed (ba (hc el (E6 hj)) i x hi)⟩⟩⟩) h
mutual
theorem sd {r:Nat}:∀ {x:PC},x.closed=true→x.ment r=false
 | .fn _ caps,h=>closedL_ment (l:=caps) (by simpa [PC.closed] using h)
 | .sc _,_=>rfl
 | .sl _ _,_=>rfl
 | .rd _,_=>rfl
 | .cb _,_=>rfl
 | .dead,_=>rfl
 | .ow _ _ _,h=>by cases h
 | .os _ _ _ _,h=>by cases h
 | .ad _ _,h=>by cases h
 | .ea _ _ _ _,h=>by cases h
 | .mp _,h=>by cases h
theorem closedL_ment {r:Nat}:∀ {l:List PC},closedL l=true→PC.ment.mentL r l=false
 | [],_=>rfl
 | x::l,h=>by
  simp only[closedL,Ex]at h;simp only[PC.ment.mentL];rw[sd h.1,closedL_ment h.2]; rfl
end
theorem DL {r k sz sz' i:Nat} {els:List (List PC)} (hr:eN r (O.set k (.row sz els))=true) (hrk:r≠k) (hk:O.get k=some (.row sz els)) (hi:els[i]? = some [.sc (.slice none 0 0)]) (hc:aA els)
  (h:WI P N (.k r::E) ((O.set r (.row sz' [])).set k (.rowO sz (els.set i [.ow r sz' 0]) [r])) c Q):WI P N E O c Q:=by
 have hO:∀ t o,O.get t=some o→(O.set k (.row sz els)).get t=some o:=λt o h=>by
  rw[Objs.get_set];split
  ·rename_i e; subst e; rw[hk]at h; exact h
  ·exact h
 have hnm:NoM r O:=⟨(NoM.of (aQ hr)).1,λt o h=>(NoM.of (aQ hr)).2 t o (hO t o h)⟩;refine WI.step (λX K ok w a hs=>?_) h;obtain ⟨h1,h2⟩:=hs.putNone (sz:=sz') hnm;have hk':(O.set r (.row sz' [])).get k=some (.row sz els):=by rw[Objs.get_set,if_neg hrk]; exact hk
 have hl:HOb (K.put r none) ok w k (.row sz els)→HOb (K.put r none) ok w k (.rowO sz (els.set i [.ow r sz' 0]) [r]):=λhob=>by
  have hilt:=(Ez.1 hi).1;refine ⟨λel q he hm=>?_,?_⟩
  ·rcases GN he with he | he
   ·have:=closedL_ment (r:=q) (hc el he);rw[cW,this]at hm; cases hm
   ·subst he;have:q=r:=by
     simp only[cW,PC.ment.mentL,PC.ment,Hv]at hm;exact (Eu hm).symm
    subst this;simp[bF]
  ·rcases hob with ⟨a1,a2⟩ | ⟨b,cs,e,fr,a1,a2,a3,a4,a5,a6,a7⟩
   ·subst a2; simp at hi
   ·refine .inr ⟨b,cs,e,fr,by simpa using a1,a2,a3,by simpa using a4,by simpa using a5,λj el hj=>?_,λj q el x hj hq=>?_⟩
    ·rw[FJ]at hj;split at hj
     ·rename_i e1;subst e1;cases hj;have:=a6 i _ hi;simpa using this
     ·exact a6 j el hj
    ·rw[FJ]at hj;split at hj
     ·rename_i e1;subst e1;cases hj
      cases q with
      | succ q=>simp at hq
      | zero=>
       simp at hq;subst hq;obtain ⟨u,hu,hru⟩:=a7 i 0 _ _ hi rfl;refine ⟨u,hu,?_⟩
       cases hru with
       | sc _=>exact .owN (K.put_self r _)
     ·obtain ⟨u,hu,hru⟩:=a7 j q el x hj hq;exact ⟨u,hu,.cl hru⟩
 obtain ⟨h3,h4⟩:=h1.less hk' hl;exact ⟨_,ok,h3,h2.trans h4⟩
end
theorem DM {P:Program} {N:Nx} {E:Env} {O:Objs} {c:Code} {Q:PQ} {r q k i sz n:Nat} {els:List (List PC)} {cells:List PC} (hq:eN q O=true) (hqr:q≠r) (hqk:q≠k) (hrk:r≠k) (hr:O.get r=some (.row sz els)) (hk:O.get k=some (.var cells)) (hi:cells[i]? = some (.ow r sz n))
  (h:WI P N (.k q::E) (((O.del r).set q (.row sz els)).set k (.var (cells.set i (.ow q sz n)))) c Q):WI P N E O c Q:=
 WI.step (λX K ok w a hs=>by
  have hn:NoM q O:=NoM.of (aQ hq);have hKne:∀ {t:Nat},t≠q→(K.put q (K r)) t=K t:=λh=>K.put_ne _ h
  have hKe:(K.put q (K r)) q=K r:=K.put_self q _;have hcs:∀ t o,(((O.del r).set q (.row sz els)).set k (.var (cells.set i (.ow q sz n)))).get t=some o→(t=k∧o = .var (cells.set i (.ow q sz n)))∨(t=q∧o = .row sz els)∨(t≠k∧t≠q∧t≠r∧O.get t=some o):=λt o g=>by
   rw[Objs.get_set]at g;split at g
   ·rename_i e; exact .inl ⟨e.symm,(Gc g).symm⟩
   ·rename_i e1;rw[Objs.get_set]at g;split at g
    ·rename_i e; exact .inr (.inl ⟨e.symm,(Gc g).symm⟩)
    ·rename_i e2;obtain ⟨g1,g2⟩:=Objs.get_del O r t o g;exact .inr (.inr ⟨λe=>e1 e.symm,λe=>e2 e.symm,λe=>g1 e.symm,g2⟩)
  have hsh:∀ t,t≠q→Shp K (K.put q (K r)) w w t:=λt ht=>⟨hKne ht,λb _ _ cs e fr hc=>⟨cs,e,fr,hc,rfl⟩⟩
  -- each object's block is the block of an old one
  have hown:∀ t o b L,(((O.del r).set q (.row sz els)).set k (.var (cells.set i (.ow q sz n)))).get t=some o→(K.put q (K r)) t=some (b,L)→∃ t0 o0,O.get t0=some o0∧K t0=some (b,L)∧(t=q→t0=r)∧(t≠q→t0=t∧t≠r):=λt o b L g e=>by
   rcases hcs t o g with ⟨rfl,rfl⟩ | ⟨rfl,rfl⟩ | ⟨h1,h2,h3,h4⟩
   ·rw[hKne (λe=>hqk e.symm)]at e;exact ⟨t,_,hk,e,λe=>absurd e.symm hqk,λ_=>⟨rfl,λe=>hrk e.symm⟩⟩
   ·rw[hKe]at e;exact ⟨r,_,hr,e,λ_=>rfl,λe=>absurd rfl e⟩
   ·rw[hKne h2]at e;exact ⟨t,_,h4,e,λe=>absurd e h2,λ_=>⟨rfl,h3⟩⟩
  refine ⟨K.put q (K r),ok,⟨hs.size,hs.defers,hs.base,hs.rnd,hs.old,⟨λt o g=>?_,λt t' o o' b L L' g1 g2 e1 e2=>?_,λt o b L g e=>?_,hs.hp.lt,hs.hp.hlt,hs.hp.hok,λt o b L g e=>?_⟩,λt av g=>?_⟩,
   ⟨Ew _,λ_ _ _ _=>rfl,λ_ h=>h,λ_ h=>.inl h,λt o b L g e=>?_,rfl,rfl,rfl,λ_ o h=>⟨o,h,SK.refl o⟩,λt ht=>hKne (by have:=hn.1; omega),λ_ h=>.inl h⟩⟩
  ·rcases hcs t o g with ⟨rfl,rfl⟩ | ⟨rfl,rfl⟩ | ⟨h1,h2,h3,h4⟩
   ·obtain ⟨b,cs,e,fr,a1,a2,a3,a4⟩:=hs.hp.obs t _ hk;have hnc:cW q cells=false:=hn.get hk;refine ⟨b,cs,e,fr,(hKne (λe=>hqk e.symm)).trans a1,a2,a3,by simpa using a4.len,λj x hx=>?_⟩;rw[FJ]at hx;split at hx
    ·rename_i e;subst e;split at hx
     ·cases hx;obtain ⟨u,hu,hru⟩:=a4.get i _ hi;refine ⟨u,hu,?_⟩
      cases hru with
      | cl hru=>cases hru
      | ow h1 h2 h3 h4=>exact .ow (hKe.trans h1) h2 h3 h4
      | owN h1=>exact .owN (hKe.trans h1)
     ·cases hx
    ·obtain ⟨u,hu,hru⟩:=a4.get j x hx;refine ⟨u,hu,hru.mono (λ_ h=>h) (λ_ _ _=>rfl) (Ew _) λt' ht'=>hsh t' λe=>?_⟩;subst e;rw[gf hnc j x hx]at ht'; cases ht'
   ·rcases hs.hp.obs r _ hr with ⟨h1,h2⟩ | ⟨b,cs,e,fr,a1,rest⟩
    ·exact .inl ⟨hKe.trans h1,h2⟩
    ·exact .inr ⟨b,cs,e,fr,hKe.trans a1,rest⟩
   ·refine (hs.hp.obs t o h4).mono (λ_ h=>h) (λ_ _ _=>rfl) (Ew _) (hKne h2) (λ_ _ _=>rfl) (λ_ _=>⟨rfl,λ_ _=>rfl,rfl,rfl,rfl,CSh.same λ_ _=>rfl⟩) λt' ht'=>hsh t' λe=>?_
    subst e; exact ht' (hn.get h4)
  ·obtain ⟨t0,o0,p1,p2,p3,p4⟩:=hown t o b L g1 e1;obtain ⟨t0',o0',p1',p2',p3',p4'⟩:=hown t' o' b L' g2 e2;have e:=hs.hp.inj t0 t0' o0 o0' b L L' p1 p1' p2 p2';by_cases h1:t=q
   ·by_cases h2:t'=q
    ·rw[h1,h2]
    ·exfalso; obtain ⟨q1,q2⟩:=p4' h2; rw[p3 h1,q1]at e; exact q2 e.symm
   ·by_cases h2:t'=q
    ·exfalso; obtain ⟨q1,q2⟩:=p4 h1; rw[p3' h2,q1]at e; exact q2 e
    ·rw[(p4 h1).1,(p4' h2).1]at e; exact e
  ·obtain ⟨t0,o0,p1,p2,_⟩:=hown t o b L g e; exact hs.hp.apart t0 o0 b L p1 p2
  ·obtain ⟨t0,o0,p1,p2,_⟩:=hown t o b L g e; exact hs.hp.how t0 o0 b L p1 p2
  ·obtain ⟨g1,g2⟩:=lf (E:=E) (r:=q) (t:=t) (x:=av) g;obtain ⟨v,hv,hrv⟩:=hs.env t av g1;refine ⟨v,hv,hrv.mono (λ_ h=>h) (λ_ _ _=>rfl) (Ew _) λt' ht'=>hsh t' λe=>?_⟩;subst e; rw[g2]at ht'; cases ht'
  ·obtain ⟨t0,o0,p1,p2,_⟩:=hown t o b L g e; exact .inr ⟨t0,o0,L,p1,p2⟩) h
section
variable {P:Program} {T:Ty} {N:Nx} {E:Env} {O:Objs} {c x y:Code} {Q:PQ}
theorem yN {o:Operand} {b:Bool} (h:E.ev o=some (.c (.sc (.bool b)))) (ht:b=true→WI P N E O x Q) (hf:b=false→WI P N E O y Q):WI P N E O (.cond o x y) Q:=
 .of (W.cond h (λe=>(ht e).out) (λe=>(hf e).out))
theorem DN (h:Q .ret E O):WI P N E O .ret Q:=.of (W.ret h)
theorem yO (h:Q .normal E O):WI P N E O .skip Q:=.of (W.skip h)
theorem kE (hT:T.ok P) (hm:P.follows .mixedOrders=true) (h:bS P T N c E O Q):WI P N E O c Q:=.of (aL hT hm _ _ _ _ h)
theorem Ct.keepI (hT:T.ok P) (ks:List Nat) {f:FuncId} {fn:Func} {args res:List A1} {O':Objs} (hf:P.funcs[f]? = some fn) (hb:fn.body=some c) (hn:(fn.name == "runtime.NumGoroutine")=false) (hN:fn.ntmps=N.n) (hl:Nat.ble args.length N.n=true)
  (h:WI P N (ka 0 args) O c (Cb T fn.results.toList ks O' res)) (hfz:N.fz=[]:=by rfl):CtO P f O args O' res:=
 Ct.fin (some ks) hf hb hn hN hl (h.out.mono λ_ _ _ ⟨h1,h2,h3⟩=>⟨h1,h2,eE hT h3⟩) hfz
end
theorem Eg {P:Program} {N:Nx} {E:Env} {O:Objs} {c:Code} {Q:PQ} {t r sz n:Nat} (ht:E.get t=some (.c (.ow r sz n))) (h0:0<n) (h:WI P N (.s t (some (.c (.os r sz 0 n)))::E) O c Q):WI P N E O c Q:=
 WI.step (λX K ok w a hs=>⟨K,ok,hs.put (by
  obtain ⟨v,hv,hr⟩:=hs.env t _ ht;refine ⟨v,hv,?_⟩
  cases hr with
  | o hr=>cases hr with
   | c hr=>
    refine .o (.c ?_)
    cases hr with
    | cl hr=>cases hr
    | ow h1 h2 h3 h4=>have:=RelO.os (ok:=ok) (lo:=0) h1 h2 (by rw[Fn]; exact h3) h4 (by omega); rwa [Hm]at this
    | owN h1=>omega),Fr.refl _ _ _ _⟩) h
end Go.Proofs.YtgceikecdedfcaaGreat.Pv
namespace Go.Proofs.YtgceikecdedfcaaGreat.Pv.SrtI
open Go Go.Sort
section
variable {cm:El→El→Int} {a b lim:Nat} {wb wp:Bool} {d:Array El}
theorem pdq_s (h:b-a≤12):pdq (lt cm) d a b lim wb wp=insertionSort (lt cm) d a b:=by rw[pdq,if_pos h]
theorem pdq_h (h:¬ b-a≤12) (h0:lim=0):pdq (lt cm) d a b lim wb wp=heapSort (lt cm) d a b:=by rw[pdq,if_neg h,if_pos h0]
theorem pdq_r (h:¬ b-a≤12) (h0:¬ lim=0) {d1 d2 d3:Array El} {lim1 pv:Nat} {hint:Hint} {done:Bool} (hd1:(if (!wb)=true then breakPatterns d a b else d)=d1) (hl1:(if (!wb)=true then lim-1 else lim)=lim1) (hd2:(if (choosePivot (lt cm) d1 a b).2 = .decreasing then reverseRange d1 a b else d1)=d2)
  (hpv:(if (choosePivot (lt cm) d1 a b).2 = .decreasing then (b-1)-((choosePivot (lt cm) d1 a b).1-a) else (choosePivot (lt cm) d1 a b).1)=pv) (hh:(if (choosePivot (lt cm) d1 a b).2 = .decreasing then Hint.increasing else (choosePivot (lt cm) d1 a b).2)=hint)
  (hp:(if (wb&&wp&&decide (hint = .increasing))=true then partialInsertionSort (lt cm) d2 a b else (d2,false))=(d3,done)) :
  pdq (lt cm) d a b lim wb wp=if done=true then d3 else
   if (decide (a>0) && !(lt cm) d3[a-1]! d3[pv]!)=true then (match partitionEqual (lt cm) d3 a b pv with
    | (mid,d4)=>if _h:a<mid∧mid≤b then pdq (lt cm) d4 mid b lim1 wb wp else d4)
   else match partition (lt cm) d3 a b pv with
    | (mid,ap,d4)=>if _h:a≤mid∧mid<b then
      if mid-a<b-mid then pdq (lt cm) (pdq (lt cm) d4 a mid lim1 true true) (mid+1) b lim1 (decide (mid-a≥(b-a)/8)) ap
      else pdq (lt cm) (pdq (lt cm) d4 (mid+1) b lim1 true true) a mid lim1 (decide (b-mid≥(b-a)/8)) ap
     else d4:=by
 subst hd1 hl1 hd2 hpv hh;rw[pdq,if_neg h,if_neg h0];have e1:=congrArg Prod.fst hp;have e2:=congrArg Prod.snd hp;simp only[]at e1 e2;simp only[e1,e2]
end
theorem quo8 {x:Int} {n:Nat} (h:x=n):x.tdiv 8=((n/8:Nat):Int):=by
 subst h; rw[FB (by omega)]; omega
variable (g:FuncId) (cm:El→El→Int)
variable (hc:∀ x y,Ct P g [VL x,VL y] [.c (eI .i64 (cm x y))]) (hw:SWO (lt cm))
structure Prt (d:Array El) (n a b:Nat):Prop where
 sz:d.size=n
 ab:a≤b
 bn:b≤n
 bel:Below (lt cm) a b d
include hc hw
theorem pdq_ct:∀ (n:Nat) (d:Array El) (a b lim:Nat),b-a≤n→Prt cm d d.size a b→d.size≤1000000→lim≤1000 →
  CtO P 186 [dO d] [dA d,.c (nI .i64 a),.c (nI .i64 b),.c (nI .i64 lim),.c (.fn g [])] [dO (pdq (lt cm) d a b lim true true)] []:=by
 intro n
 induction n using Nat.strongRecOn with
 | _ n ih=>
 intro d0 a0 b0 lim0 hn hprt hsz hlim0;generalize hF:pdq (lt cm) d0 a0 b0 lim0 true true=F;have self:∀ (d:Array El) (a b lim:Nat),b-a<n→Prt cm d d0.size a b→lim≤1000→CtO P 186 [dO d] [.c (.ow 1000000 SZ d0.size),.c (nI .i64 a),.c (nI .i64 b),.c (nI .i64 lim),.c (.fn g [])] [dO (pdq (lt cm) d a b lim true true)] []:=by
  intro d a b lim h1 h2 h3;have:=ih (b-a) h1 d a b lim (Ew _) (by rw[h2.sz]; exact h2) (by rw[h2.sz]; exact hsz) h3;rwa [dA,h2.sz]at this
 refine Ct.io aj aa (N:=148) Tryz.func186 rfl rfl rfl rfl ?_;refine yL (G:=Nat × Nat × Nat × Bool × Bool × Array El) (λ(a,b,lim,wb,wp,d)=>pdq (lt cm) d a b lim wb wp=F∧Prt cm d d0.size a b∧lim≤1000∧b-a≤n) (λ(a,b,lim,wb,wp,_)=>[(0,.c (.ow 1000000 SZ d0.size)),(1,.c (nI .i64 a)),(2,.c (nI .i64 b)),(3,.c (nI .i64 lim)),(4,.c (.fn g [])),(10,.c (.sc (.bool wb))),(11,.c (.sc (.bool wp)))]) (λ(_,_,_,_,_,d)=>[(1000000,.row SZ (row d))]) (λ(a,b,_,_,_,_)=>b-a)
  (a0,b0,lim0,true,true,d0) ⟨hF,hprt,hlim0,hn⟩ ⟨rfl,rfl,rfl,rfl,rfl,rfl,rfl,HB⟩ ⟨rfl,HB⟩ (λ(a,b,lim,wb,wp,d) hi=>?_)
 obtain ⟨i1,i2,i3,i4⟩:=hi;have hds:=i2.sz;have hab:=i2.ab;have hbs:=i2.bn;refine nT ?_;refine dR aj aa ?_;refine X1 ((b-a:Nat):Int) (wI (by omega) (by omega) (by omega)) ?_;refine dR aj aa ?_;refine ae (λh12=>?_) (λh12=>?_)
 ·rw[pdq_s (by omega)]at i1;have hs:=ins_ct g cm hc d a b hab (by omega) (by omega);rw[dA,hds,i1]at hs;refine X2 (.upd 1000000) ?_;refine ⟨_,_,hs,?_⟩;exact ⟨HB,SubO.of (l:=[(1000000,.row _ _)]) ⟨rfl,HB⟩,HB⟩
 refine dR aj aa ?_;refine aT (λhl0=>?_) (λhl0=>?_)
 ·rw[pdq_h (by omega) (by omega)]at i1;have hs:=heap_ct g cm hc d a b (by omega) (by omega) (by omega);rw[dA,hds,i1]at hs;refine X2 (.upd 1000000) ?_;refine ⟨_,_,hs,?_⟩;exact ⟨HB,SubO.of (l:=[(1000000,.row _ _)]) ⟨rfl,HB⟩,HB⟩
 have hstep:=@pdq_r cm a b lim wb wp d (by omega) (by omega);refine kD aj aa (G2:=Nat × Array El) (λ(l1,d1)=>(if (!wb)=true then breakPatterns d a b else d)=d1∧(if (!wb)=true then lim-1 else lim)=l1∧Prt cm d1 d0.size a b∧l1≤1000)
  (λ(l1,_)=>[(0,.c (.ow 1000000 SZ d0.size)),(1,.c (nI .i64 a)),(2,.c (nI .i64 b)),(3,.c (nI .i64 l1)),(4,.c (.fn g [])),(10,.c (.sc (.bool wb))),(11,.c (.sc (.bool wp))),(12,.c (nI .i64 (b-a)))]) (λ(_,d1)=>[(1000000,.row SZ (row d1))]) ?_ (λ(l1,d1) h1=>?_)
 ·refine aP (λhb1=>?_) (λhb1=>?_)
  ·have hp:=breakPatterns_holds d a b hab (by omega);have hs:=break_ct g d a b (by omega) (by omega) (by omega);rw[dA,hds]at hs;refine X2 (.upd 1000000) ?_;refine ⟨_,_,hs,?_⟩;refine X1 ((lim-1:Nat):Int) (wI (by omega) (by omega) (by omega)) ?_;exact ⟨(lim-1,breakPatterns d a b),⟨if_pos hb1,if_pos hb1,⟨by rw[hp.1]; exact hds,hab,hbs,i2.bel.perm (by omega) hp⟩,by omega⟩,⟨rfl,rfl,rfl,rfl,rfl,rfl,rfl,rfl,HB⟩,⟨rfl,HB⟩⟩
  ·exact ⟨(lim,d),⟨if_neg (by rw[hb1]; simp),if_neg (by rw[hb1]; simp),i2,i3⟩,⟨rfl,rfl,rfl,rfl,rfl,rfl,rfl,rfl,HB⟩,⟨rfl,HB⟩⟩
 obtain ⟨e1,e2,p1,l1b⟩:=h1;have hd1s:=p1.sz;refine dR aj aa ?_;have hcp:=choosePivot_holds (lt cm) d1 a b (by omega);have hs:=choose_ct g cm hc d1 a b (by omega) (by omega) (by omega);rw[dA,hd1s]at hs;refine X2 (.upd 1000000) ?_;refine ⟨_,_,hs,?_⟩;have hstep2:=λ(d2 d3:Array El) (pv:Nat) (hint:Hint) (done:Bool)=>@hstep d1 d2 d3 l1 pv hint done e1 e2
 generalize choosePivot (lt cm) d1 a b=cp at *
 obtain ⟨pv0,hint0⟩:=cp;refine kD aj aa (G2:=Nat × Hint × Array El) (λ(pv,hint,d2)=>(if hint0 = .decreasing then reverseRange d1 a b else d1)=d2∧(if hint0 = .decreasing then (b-1)-(pv0-a) else pv0)=pv∧(if hint0 = .decreasing then Hint.increasing else hint0)=hint∧Prt cm d2 d0.size a b∧a≤pv∧pv<b)
  (λ(pv,hint,_)=>[(0,.c (.ow 1000000 SZ d0.size)),(1,.c (nI .i64 a)),(2,.c (nI .i64 b)),(3,.c (nI .i64 l1)),(4,.c (.fn g [])),(10,.c (.sc (.bool wb))),(11,.c (.sc (.bool wp))),(12,.c (nI .i64 (b-a))),(13,.c (nI .i64 pv)),(14,.c (eI .i64 (hV hint)))]) (λ(_,_,d2)=>[(1000000,.row SZ (row d2))]) ?_ (λ(pv,hint,d2) h2=>?_)
 ·refine aT (λhh=>?_) (λhh=>?_)
  ·have hdec:hint0 = .decreasing:=by cases hint0<;>first | rfl | (exfalso; simp only[hV]at hh; omega)
   have hp:=reverseRange_holds d1 a b hab (by omega);have hs:=reverse_ct g d1 a b (by omega) (by omega) (by omega);rw[dA,hd1s]at hs;refine X2 (.upd 1000000) ?_;refine ⟨_,_,hs,?_⟩;simp only at hcp;refine X1 ((b-1:Nat):Int) (wI (by omega) (by omega) (by omega)) ?_;refine X1 ((pv0-a:Nat):Int) (wI (by omega) (by omega) (by omega)) ?_;refine X1 ((b-1-(pv0-a):Nat):Int) (wI (by omega) (by omega) (by omega)) ?_;exact ⟨(b-1-(pv0-a),.increasing,reverseRange d1 a b),⟨if_pos hdec,if_pos hdec,if_pos hdec,⟨by rw[hp.1]; exact hd1s,hab,hbs,p1.bel.perm (by omega) hp⟩,by omega,by omega⟩,⟨rfl,rfl,rfl,rfl,rfl,rfl,rfl,rfl,rfl,rfl,HB⟩,⟨rfl,HB⟩⟩
  ·have hdec:¬ hint0 = .decreasing:=λh=>by subst h; exact hh rfl
   simp only at hcp;exact ⟨(pv0,hint0,d1),⟨if_neg hdec,if_neg hdec,if_neg hdec,p1,hcp.1,hcp.2⟩,⟨rfl,rfl,rfl,rfl,rfl,rfl,rfl,rfl,rfl,rfl,HB⟩,⟨rfl,HB⟩⟩
 obtain ⟨e3,e4,e5,p2,pva,pvb⟩:=h2;have hd2s:=p2.sz;have hstep3:=λ(d3:Array El) (done:Bool)=>hstep2 d2 d3 pv hint done e3 e4 e5
 refine kD aj aa (G2:=Array El) (λd3=>(if (wb&&wp&&decide (hint = .increasing))=true then partialInsertionSort (lt cm) d2 a b else (d2,false))=(d3,false)∧Prt cm d3 d0.size a b)
  (λ_=>[(0,.c (.ow 1000000 SZ d0.size)),(1,.c (nI .i64 a)),(2,.c (nI .i64 b)),(3,.c (nI .i64 l1)),(4,.c (.fn g [])),(10,.c (.sc (.bool wb))),(11,.c (.sc (.bool wp))),(12,.c (nI .i64 (b-a))),(13,.c (nI .i64 pv))]) (λd3=>[(1000000,.row SZ (row d3))]) ?_ (λd3 h3=>?_)
 ·have no:(wb&&wp&&decide (hint = .increasing))=false→∃ g2,((if (wb&&wp&&decide (hint = .increasing))=true then partialInsertionSort (lt cm) d2 a b else (d2,false))=(g2,false)∧Prt cm g2 d0.size a b)∧g2=d2:=λh=>⟨d2,⟨if_neg (by rw[h]; simp),p2⟩,rfl⟩
  refine aP (λhwb=>?_) (λhwb=>?_)
  ·subst hwb;refine aP (λhwp=>?_) (λhwp=>?_)
   ·subst hwp;refine aT (λhh=>?_) (λhh=>?_)
    ·have hinc:hint = .increasing:=by cases hint<;>first | rfl | (exfalso; simp only[hV]at hh; omega)
     have hp:=(partialInsertionSort_holds (lt:=lt cm) hw d2 a b (by omega) (by omega) p2.bel).1;have hs:=pIns_ct g cm hc d2 a b (by omega) (by omega) (by omega);have hcond:(true&&true&&decide (hint = .increasing))=true:=by rw[hinc]; rfl
     rw[if_pos hcond]at hstep3 ⊢;rw[dA,hd2s]at hs;refine X2 (.upd 1000000) ?_;refine ⟨_,_,hs,?_⟩;generalize hpi:partialInsertionSort (lt cm) d2 a b=pi at *
     obtain ⟨d3,done⟩:=pi;refine aP (λhdn=>?_) (λhdn=>?_)
     ·have hdn':done=true:=hdn;have:=hstep3 d3 done rfl;rw[if_pos hdn',i1]at this;rw[this];exact ⟨HB,SubO.of (l:=[(1000000,.row _ _)]) ⟨rfl,HB⟩,HB⟩
     ·have hdn':done=false:=hdn;subst hdn';exact ⟨d3,⟨rfl,⟨by rw[hp.1]; exact hd2s,hab,hbs,p2.bel.perm (by omega) hp⟩⟩,⟨rfl,rfl,rfl,rfl,rfl,rfl,rfl,rfl,rfl,HB⟩,⟨rfl,HB⟩⟩
    ·have hinc:¬ hint = .increasing:=λh=>by subst h; exact hh rfl
     obtain ⟨d3,h1,h2⟩:=no (by simp[hinc]);subst h2;exact ⟨d3,h1,⟨rfl,rfl,rfl,rfl,rfl,rfl,rfl,rfl,rfl,HB⟩,⟨rfl,HB⟩⟩
   ·subst hwp;obtain ⟨d3,h1,h2⟩:=no rfl;subst h2;exact ⟨d3,h1,⟨rfl,rfl,rfl,rfl,rfl,rfl,rfl,rfl,rfl,HB⟩,⟨rfl,HB⟩⟩
  ·subst hwb;obtain ⟨d3,h1,h2⟩:=no rfl;subst h2;exact ⟨d3,h1,⟨rfl,rfl,rfl,rfl,rfl,rfl,rfl,rfl,rfl,HB⟩,⟨rfl,HB⟩⟩
 obtain ⟨e6,p3⟩:=h3;have hd3s:=p3.sz;have hst:=hstep3 d3 false e6;rw[if_neg (by simp),i1]at hst;clear hstep3 hstep2 hstep e6;refine kD aj aa (G2:=Unit) (λ_=>(decide (a>0) && !(lt cm) d3[a-1]! d3[pv]!)=false)
  (λ_=>[(0,.c (.ow 1000000 SZ d0.size)),(1,.c (nI .i64 a)),(2,.c (nI .i64 b)),(3,.c (nI .i64 l1)),(4,.c (.fn g [])),(12,.c (nI .i64 (b-a))),(13,.c (nI .i64 pv))]) (λ_=>[(1000000,.row SZ (row d3))]) ?_ (λ_ h4=>?_)
 ·refine ae (λha=>?_) (λha=>?_)
  ·refine X1 ((a-1:Nat):Int) (wI (by omega) (by omega) (by omega)) ?_;refine .intro (by omega) (.intro (by omega) (X1 _ (row_get (d:=d3) (n:=a-1) rfl (by omega)) ?_));refine .intro (by omega) (.intro (by omega) (X1 _ (row_get (d:=d3) (n:=pv) rfl (by omega)) ?_));refine X1 _ (hc _ _) ?_;refine .intro rfl ?_;refine aP (λhq=>?_) (λhq=>?_)
   ·have hnl:lt cm d3[a-1]! d3[pv]! = false:=by simpa [lt] using hq
    rw[if_pos (by rw[hnl]; simp; omega)]at hst;have hs:=pEq_ct cm g hc d3 a b pv (by omega) (by omega) (by omega) (by omega);rw[dA,hd3s]at hs;generalize hx:partitionEqual (lt cm) d3 a b pv=px at *
    obtain ⟨mid,d4⟩:=px;obtain ⟨r1',r2',r3',r4',_⟩:=round_eq hw (partitionEqual_holds (lt cm)) (by omega) pva pvb (by omega) p3.bel hnl hx;refine X2 (.upd 1000000) ?_;refine ⟨_,_,hs,?_⟩;simp only at hst;rw[dif_pos ⟨r1',r2'⟩]at hst;exact ⟨(mid,b,l1,wb,wp,d4),⟨hst.symm,⟨by rw[r3']; exact hd3s,r2',hbs,r4'⟩,l1b,by omega⟩,by show b-mid<b-a; omega,⟨rfl,rfl,rfl,rfl,rfl,rfl,rfl,HB⟩,⟨rfl,HB⟩⟩
   ·have hnl:lt cm d3[a-1]! d3[pv]! = true:=by simpa [lt] using hq
    exact ⟨(),by rw[hnl]; simp,⟨rfl,rfl,rfl,rfl,rfl,rfl,rfl,HB⟩,⟨rfl,HB⟩⟩
  ·refine .intro rfl ?_;exact ⟨(),by rw[decide_eq_false (by omega)]; rfl,⟨rfl,rfl,rfl,rfl,rfl,rfl,rfl,HB⟩,⟨rfl,HB⟩⟩
 rw[if_neg (by rw[h4]; simp)]at hst;have hs:=part_ct cm g hc d3 a b pv (by omega) (by omega) (by omega) (by omega);rw[dA,hd3s]at hs;generalize hx:partition (lt cm) d3 a b pv=px at *
 obtain ⟨mid,ap,d4⟩:=px;obtain ⟨m1,m2,m3,m4,m5,m6,m7⟩:=round_part hw (partition_holds (lt cm)) pva pvb (by omega) p3.bel hx;simp only at hst;rw[dif_pos ⟨m1,m2⟩]at hst;have hd4s:d4.size=d0.size:=by rw[m3]; exact hd3s
 refine nH aj aa ?_;refine X2 (.upd 1000000) ?_;refine ⟨_,_,hs,?_⟩;refine X1 ((mid-a:Nat):Int) (wI (by omega) (by omega) (by omega)) ?_;refine X1 ((b-mid:Nat):Int) (wI (by omega) (by omega) (by omega)) ?_;refine .intro (by omega) (X1 _ (quo8 rfl) (.intro ⟨by omega,by omega⟩ ?_));refine ae (λhlt=>?_) (λhlt=>?_)
 ·rw[if_pos (by omega)]at hst;have hL:=pdq_sorts (lt cm) hw d4 a mid l1 true true m1 (by omega) m4;have hs:=self d4 a mid l1 (by omega) ⟨hd4s,m1,by omega,m4⟩ l1b;refine X2 (.upd 1000000) ?_;refine ⟨_,_,hs,?_⟩;refine X1 ((mid+1:Nat):Int) (wI (by simp) (by omega) (by omega)) ?_;exact ⟨(mid+1,b,l1,decide (mid-a≥(b-a)/8),ap,pdq (lt cm) d4 a mid l1 true true),⟨hst.symm,⟨by rw[hL.1.1]; exact hd4s,by omega,hbs,(m6 _ hL.1 hL.2).1⟩,l1b,by omega⟩,by show b-(mid+1)<b-a; omega,⟨rfl,rfl,rfl,rfl,rfl,blC (by rw[decide_eq_decide]; omega),rfl,HB⟩,⟨rfl,HB⟩⟩
 ·rw[if_neg (by omega)]at hst;have hL:=pdq_sorts (lt cm) hw d4 (mid+1) b l1 true true (by omega) (by omega) m5;have hs:=self d4 (mid+1) b l1 (by omega) ⟨hd4s,by omega,hbs,m5⟩ l1b;refine X1 ((mid+1:Nat):Int) (wI (by simp) (by omega) (by omega)) ?_;refine X2 (.upd 1000000) ?_;refine ⟨_,_,hs,?_⟩;exact ⟨(a,mid,l1,decide (b-mid≥(b-a)/8),ap,pdq (lt cm) d4 (mid+1) b l1 true true),⟨hst.symm,⟨by rw[hL.1.1]; exact hd4s,m1,by omega,(m7 _ hL.1 hL.2).1⟩,l1b,by omega⟩,by show mid-a<b-a; omega,⟨rfl,rfl,rfl,rfl,rfl,blC (by rw[decide_eq_decide]; omega),rfl,HB⟩,⟨rfl,HB⟩⟩
theorem sortF_ct (d:Array El) (hd:d.size≤1000000):CtO P 167 [dO d] [dA d,.c (.fn g [])] [dO (Sort.sort (lt cm) d)] []:=by
 have hb:=fF hd;have hp:=pdq_ct g cm hc hw d.size d 0 d.size (bitsLen d.size) (by omega) ⟨rfl,by omega,by omega,.inl rfl⟩ hd (by omega);refine Ct.io aj aa (N:=14) Tryz.func167 rfl rfl rfl rfl ?_;refine .intro (by omega) ?_;refine X1 ((d.size:Nat):Int) (wU rfl (by omega) (by omega)) ?_;refine X1 _ (tV d.size (by omega)) ?_;refine X2 (.upd 1000000) ?_;refine ⟨_,_,hp,?_⟩;exact ⟨HB,SubO.of (l:=[(1000000,.row _ _)]) ⟨rfl,HB⟩,HB⟩
theorem sort_spec (d:Array El):(Sort.sort (lt cm) d).toList.Perm d.toList∧SortedIn (lt cm) 0 d.size (Sort.sort (lt cm) d):=by
 have _hc:=hc;obtain ⟨h1,h2⟩:=sort_sorts (lt cm) hw d;refine ⟨?_,h2⟩;have:=h1.2.2;have e:(Sort.sort (lt cm) d).extract 0 d.size=Sort.sort (lt cm) d:=by
  rw[show d.size=(Sort.sort (lt cm) d).size from h1.1.symm]; simp
 rw[e]at this;simpa using this
end Go.Proofs.YtgceikecdedfcaaGreat.Pv.SrtI
namespace Go.Proofs.YtgceikecdedfcaaGreat.Pv.SrtC
open Go Go.Sort
abbrev El:={c:Cnt // c.1.length≤1000000}
instance:Inhabited El:=⟨⟨([],0),by simp⟩⟩
def SZ:Nat:=2
abbrev EN (x:El):List PC:=[iSl x.1.1,eI .i64 x.1.2]
abbrev VL (x:El):A1:=.ag [iSl x.1.1,eI .i64 x.1.2]
variable (g:FuncId) (cm:El→El→Int)
abbrev lt (cm:El→El→Int) (x y:El):Bool:=decide (cm x y<0)
def row (d:Array El):List (List PC):=d.toList.map EN
theorem row_len {d:Array El}:(row d).length=d.size:=by simp[row]
theorem row_get {d:Array El} {i:Int} {n:Nat} (h0:i=n) (h:n<d.size):(row d)[i.toNat]? = some (EN d[n]!):=by
 subst h0;simp[row,h]
theorem row_set {d:Array El} {i:Int} {n:Nat} {y:El} (h0:i=n):(row d).set i.toNat (EN y)=row (d.setIfInBounds n y):=by
 subst h0;simp[row,List.map_set]
theorem row_closed {d:Array El}:aA (row d):=by
 intro el h;obtain ⟨x,_,rfl⟩:=Fb.1 h;rfl
theorem swp_size {d:Array El} {i j:Nat}:(swp d i j).size=d.size:=by simp[swp]
theorem row_swp {d:Array El} {i j:Int} {m n:Nat} (h1:i=m) (h2:j=n):((row d).set i.toNat (EN d[n]!)).set j.toNat (EN d[m]!)=row (swp d m n):=by
 rw[row_set h1,row_set h2]; rfl
abbrev dO (d:Array El):Nat × Option Ob:=(1000000,some (.row SZ (row d)))
abbrev dA (d:Array El):A1:=.c (.ow 1000000 SZ d.size)
abbrev sO (s:Nat):Nat × Option Ob:=(1000001,some (.var [nI .i64 s]))
theorem row_get2 {d:Array El} {i j:Int} {m n:Nat} {y:El} (h0:i=m) (h1:j=n) (h:n<d.size):((row d).set i.toNat (EN y))[j.toNat]? = some (EN (d.setIfInBounds m y)[n]!):=by
 rw[row_set h0]; exact row_get h1 (by simpa using h)
theorem order2_le (d:Array El) (a b s:Nat):(order2 (lt cm) d a b s).2.2≤s+1∧((order2 (lt cm) d a b s).1=a∧(order2 (lt cm) d a b s).2.1=b∨(order2 (lt cm) d a b s).1=b∧(order2 (lt cm) d a b s).2.1=a):=by
 unfold order2; split<;>simp
variable (hc:∀ x y,Ct P g [VL x,VL y] [.c (eI .i64 (cm x y))])
include hc
theorem order2_ct (d:Array El) (a b s:Nat) (ha:a<d.size) (hb:b<d.size) (hd:d.size≤1000000) (hs:s≤1000000) :
  CtO P 220 [dO d,sO s] [dA d,.c (nI .i64 a),.c (nI .i64 b),.c (.ad 1000001 0),.c (.fn g [])] [dO d,sO (order2 (lt cm) d a b s).2.2] [.c (nI .i64 (order2 (lt cm) d a b s).1),.c (nI .i64 (order2 (lt cm) d a b s).2.1)]:=by
 refine Ct.io aj aa (N:=32) Tryz.func220 rfl rfl rfl rfl ?_;refine .intro (by omega) (.intro (by omega) (X1 _ (row_get rfl hb) ?_));refine .intro (by omega) (.intro (by omega) (X1 _ (row_get rfl ha) ?_));refine X1 _ (hc _ _) ?_;refine .intro rfl ?_;refine ae (λh=>?_) (λh=>?_)
 ·have e:order2 (lt cm) d a b s=(b,a,s+1):=if_pos (decide_eq_true h);rw[e];refine X1 ((s+1:Nat):Int) (wI (by simp) (by omega) (by omega)) ?_;exact ⟨HB,SubO.of (l:=[(1000000,.row _ _),(1000001,.var _)]) ⟨rfl,rfl,HB⟩,r1 rfl,r1 rfl,HB⟩
 ·have e:order2 (lt cm) d a b s=(a,b,s):=if_neg (by simpa using h);rw[e];exact ⟨HB,SubO.of (l:=[(1000000,.row _ _),(1000001,.var _)]) ⟨rfl,rfl,HB⟩,r1 rfl,r1 rfl,HB⟩
theorem median_ct (d:Array El) (a b c s:Nat) (ha:a<d.size) (hb:b<d.size) (hcc:c<d.size) (hd:d.size≤1000000) (hs:s≤1000) :
  CtO P 218 [dO d,sO s] [dA d,.c (nI .i64 a),.c (nI .i64 b),.c (nI .i64 c),.c (.ad 1000001 0),.c (.fn g [])] [dO d,sO (median (lt cm) d a b c s).2] [.c (nI .i64 (median (lt cm) d a b c s).1)]:=by
 have l1:=order2_le (cm:=cm) d a b s;have e:median (lt cm) d a b c s=((order2 (lt cm) d (order2 (lt cm) d a b s).1 (order2 (lt cm) d (order2 (lt cm) d a b s).2.1 c (order2 (lt cm) d a b s).2.2).1 (order2 (lt cm) d (order2 (lt cm) d a b s).2.1 c (order2 (lt cm) d a b s).2.2).2.2).2.1,(order2 (lt cm) d (order2 (lt cm) d a b s).1 (order2 (lt cm) d (order2 (lt cm) d a b s).2.1 c (order2 (lt cm) d a b s).2.2).1 (order2 (lt cm) d (order2 (lt cm) d a b s).2.1 c (order2 (lt cm) d a b s).2.2).2.2).2.2):=rfl;rw[e];have c1:=order2_ct g cm hc d a b s ha hb hd (by omega);generalize order2 (lt cm) d a b s=p1 at *
 have l2:=order2_le (cm:=cm) d p1.2.1 c p1.2.2;have c2:=order2_ct g cm hc d p1.2.1 c p1.2.2 (by omega) hcc hd (by omega);generalize order2 (lt cm) d p1.2.1 c p1.2.2=p2 at *
 have l3:=order2_le (cm:=cm) d p1.1 p2.1 p2.2.2;have c3:=order2_ct g cm hc d p1.1 p2.1 p2.2.2 (by omega) (by omega) hd (by omega);generalize order2 (lt cm) d p1.1 p2.1 p2.2.2=p3 at *
 refine Ct.io aj aa (N:=41) Tryz.func218 rfl rfl rfl rfl ?_;refine X2 (.own [(1000000,1000000),(1000001,1000001)] [(1000000,1000000),(1000001,1000001)]) ?_;refine ⟨_,_,c1,?_⟩;refine X2 (.own [(1000000,1000000),(1000001,1000001)] [(1000000,1000000),(1000001,1000001)]) ?_;refine ⟨_,_,c2,?_⟩;refine X2 (.own [(1000000,1000000),(1000001,1000001)] [(1000000,1000000),(1000001,1000001)]) ?_;refine ⟨_,_,c3,?_⟩;exact ⟨HB,SubO.of (l:=[(1000000,.row _ _),(1000001,.var _)]) ⟨rfl,rfl,HB⟩,r1 rfl,HB⟩
theorem medAdj_ct (d:Array El) (a s:Nat) (ha:1≤a) (hb:a+1<d.size) (hd:d.size≤1000000) (hs:s≤1000) :
  CtO P 217 [dO d,sO s] [dA d,.c (nI .i64 a),.c (.ad 1000001 0),.c (.fn g [])] [dO d,sO (medianAdjacent (lt cm) d a s).2] [.c (nI .i64 (medianAdjacent (lt cm) d a s).1)]:=by
 have c1:=median_ct g cm hc d (a-1) a (a+1) s (by omega) (by omega) (by omega) hd hs;refine Ct.io aj aa (N:=18) Tryz.func217 rfl rfl rfl rfl ?_;refine X1 ((a-1:Nat):Int) (wI (by omega) (by omega) (by omega)) ?_;refine X1 ((a+1:Nat):Int) (wI (by simp) (by omega) (by omega)) ?_;refine X2 (.own [(1000000,1000000),(1000001,1000001)] [(1000000,1000000),(1000001,1000001)]) ?_;refine ⟨_,_,c1,?_⟩;exact ⟨HB,SubO.of (l:=[(1000000,.row _ _),(1000001,.var _)]) ⟨rfl,rfl,HB⟩,r1 rfl,HB⟩
omit hc
def hV:Hint→Int
 | .unknown=>0
 | .increasing=>1
 | .decreasing=>2
theorem median_le (d:Array El) (a b c s:Nat):(median (lt cm) d a b c s).2≤s+3∧((median (lt cm) d a b c s).1=a∨(median (lt cm) d a b c s).1=b∨(median (lt cm) d a b c s).1=c):=by
 have l1:=order2_le cm d a b s;unfold median;generalize order2 (lt cm) d a b s=p1 at *
 have l2:=order2_le cm d p1.2.1 c p1.2.2;simp only;generalize order2 (lt cm) d p1.2.1 c p1.2.2=p2 at *
 have l3:=order2_le cm d p1.1 p2.1 p2.2.2;generalize order2 (lt cm) d p1.1 p2.1 p2.2.2=p3 at *
 exact ⟨by omega,by omega⟩
theorem quo4 {x:Int} {n:Nat} (h:x=n):x.tdiv 4=((n/4:Nat):Int):=by
 subst h; rw[FB (by omega)]; omega
include hc
theorem choose_ct (d:Array El) (a b:Nat) (hab:a<b) (hb:b≤d.size) (hd:d.size≤1000000) :
  CtO P 203 [dO d] [dA d,.c (nI .i64 a),.c (nI .i64 b),.c (.fn g [])] [dO d] [.c (nI .i64 (choosePivot (lt cm) d a b).1),.c (eI .i64 (hV (choosePivot (lt cm) d a b).2))]:=by
 refine Ct.io aj aa (N:=63) Tryz.func203 rfl rfl rfl rfl ?_;refine X1 ((b-a:Nat):Int) (wI (by omega) (by omega) (by omega)) ?_;refine .intro (by omega) (X1 _ (quo4 rfl) (.intro ⟨by omega,by omega⟩ ?_));refine X1 (((b-a)/4*1:Nat):Int) (wI (by simp) (by omega) (by omega)) ?_;refine X1 ((a+(b-a)/4*1:Nat):Int) (wI (by simp) (by omega) (by omega)) ?_;refine .intro (by omega) (X1 _ (quo4 rfl) (.intro ⟨by omega,by omega⟩ ?_));refine X1 (((b-a)/4*2:Nat):Int) (wI (by simp) (by omega) (by omega)) ?_;refine X1 ((a+(b-a)/4*2:Nat):Int) (wI (by simp) (by omega) (by omega)) ?_;refine .intro (by omega) (X1 _ (quo4 rfl) (.intro ⟨by omega,by omega⟩ ?_));refine X1 (((b-a)/4*3:Nat):Int) (wI (by simp) (by omega) (by omega)) ?_;refine X1 ((a+(b-a)/4*3:Nat):Int) (wI (by simp) (by omega) (by omega)) ?_;refine ae (λh8=>?_) (λh8=>?_)
 ·refine ae (λh50=>?_) (λh50=>?_)
  ·have e:choosePivot (lt cm) d a b=((median (lt cm) d (medianAdjacent (lt cm) d (a+(b-a)/4*1) 0).1 (medianAdjacent (lt cm) d (a+(b-a)/4*2) (medianAdjacent (lt cm) d (a+(b-a)/4*1) 0).2).1 (medianAdjacent (lt cm) d (a+(b-a)/4*3) (medianAdjacent (lt cm) d (a+(b-a)/4*2) (medianAdjacent (lt cm) d (a+(b-a)/4*1) 0).2).2).1 (medianAdjacent (lt cm) d (a+(b-a)/4*3) (medianAdjacent (lt cm) d (a+(b-a)/4*2) (medianAdjacent (lt cm) d (a+(b-a)/4*1) 0).2).2).2).1,
     if (median (lt cm) d (medianAdjacent (lt cm) d (a+(b-a)/4*1) 0).1 (medianAdjacent (lt cm) d (a+(b-a)/4*2) (medianAdjacent (lt cm) d (a+(b-a)/4*1) 0).2).1 (medianAdjacent (lt cm) d (a+(b-a)/4*3) (medianAdjacent (lt cm) d (a+(b-a)/4*2) (medianAdjacent (lt cm) d (a+(b-a)/4*1) 0).2).2).1 (medianAdjacent (lt cm) d (a+(b-a)/4*3) (medianAdjacent (lt cm) d (a+(b-a)/4*2) (medianAdjacent (lt cm) d (a+(b-a)/4*1) 0).2).2).2).2=0 then .increasing else
     if (median (lt cm) d (medianAdjacent (lt cm) d (a+(b-a)/4*1) 0).1 (medianAdjacent (lt cm) d (a+(b-a)/4*2) (medianAdjacent (lt cm) d (a+(b-a)/4*1) 0).2).1 (medianAdjacent (lt cm) d (a+(b-a)/4*3) (medianAdjacent (lt cm) d (a+(b-a)/4*2) (medianAdjacent (lt cm) d (a+(b-a)/4*1) 0).2).2).1 (medianAdjacent (lt cm) d (a+(b-a)/4*3) (medianAdjacent (lt cm) d (a+(b-a)/4*2) (medianAdjacent (lt cm) d (a+(b-a)/4*1) 0).2).2).2).2=12 then .decreasing else .unknown):=by
    simp only[choosePivot,if_pos (show b-a≥8 by omega),if_pos (show b-a≥50 by omega)]
   rw[e];have m1:=median_le cm d (a+(b-a)/4*1-1) (a+(b-a)/4*1) (a+(b-a)/4*1+1) 0;change (medianAdjacent (lt cm) d (a+(b-a)/4*1) 0).2≤_∧_ at m1;have c1:=medAdj_ct g cm hc d (a+(b-a)/4*1) 0 (by omega) (by omega) hd (by omega);have m1':(medianAdjacent (lt cm) d (a+(b-a)/4*1) 0).1<d.size:=by
    show (median (lt cm) d _ _ _ _).1<_
    have:=m1.2; omega
   have m1'':=m1.1;generalize medianAdjacent (lt cm) d (a+(b-a)/4*1) 0=p1 at *
   have m2:=median_le cm d (a+(b-a)/4*2-1) (a+(b-a)/4*2) (a+(b-a)/4*2+1) p1.2;have c2:=medAdj_ct g cm hc d (a+(b-a)/4*2) p1.2 (by omega) (by omega) hd (by omega);have m2':(medianAdjacent (lt cm) d (a+(b-a)/4*2) p1.2).1<d.size:=by
    show (median (lt cm) d _ _ _ _).1<_
    have:=m2.2; omega
   have m2'':(medianAdjacent (lt cm) d (a+(b-a)/4*2) p1.2).2≤p1.2+3:=m2.1;generalize medianAdjacent (lt cm) d (a+(b-a)/4*2) p1.2=p2 at *
   have m3:=median_le cm d (a+(b-a)/4*3-1) (a+(b-a)/4*3) (a+(b-a)/4*3+1) p2.2;have c3:=medAdj_ct g cm hc d (a+(b-a)/4*3) p2.2 (by omega) (by omega) hd (by omega);have m3':(medianAdjacent (lt cm) d (a+(b-a)/4*3) p2.2).1<d.size:=by
    show (median (lt cm) d _ _ _ _).1<_
    have:=m3.2; omega
   have m3'':(medianAdjacent (lt cm) d (a+(b-a)/4*3) p2.2).2≤p2.2+3:=m3.1;generalize medianAdjacent (lt cm) d (a+(b-a)/4*3) p2.2=p3 at *
   have c4:=median_ct g cm hc d p1.1 p2.1 p3.1 p3.2 m1' m2' m3' hd (by omega);generalize median (lt cm) d p1.1 p2.1 p3.1 p3.2=p4 at *
   refine X2 (.own [(1000000,1000000),(11,1000001)] [(1000000,1000000),(1000001,11)]) ?_;refine ⟨_,_,c1,?_⟩;refine X2 (.own [(1000000,1000000),(11,1000001)] [(1000000,1000000),(1000001,11)]) ?_;refine ⟨_,_,c2,?_⟩;refine X2 (.own [(1000000,1000000),(11,1000001)] [(1000000,1000000),(1000001,11)]) ?_;refine ⟨_,_,c3,?_⟩;refine X2 (.own [(1000000,1000000),(11,1000001)] [(1000000,1000000),(1000001,11)]) ?_;refine ⟨_,_,c4,?_⟩;refine aT (λh0=>?_) (λh0=>?_)
   ·rw[if_pos (by omega)];exact ⟨HB,SubO.of (l:=[(1000000,.row _ _)]) ⟨rfl,HB⟩,r1 rfl,r1 rfl,HB⟩
   ·rw[if_neg (by omega)];refine aT (λh1=>?_) (λh1=>?_)
    ·rw[if_pos (by omega)];exact ⟨HB,SubO.of (l:=[(1000000,.row _ _)]) ⟨rfl,HB⟩,r1 rfl,r1 rfl,HB⟩
    ·rw[if_neg (by omega)];exact ⟨HB,SubO.of (l:=[(1000000,.row _ _)]) ⟨rfl,HB⟩,r1 rfl,r1 rfl,HB⟩
  ·have e:choosePivot (lt cm) d a b=((median (lt cm) d (a+(b-a)/4*1) (a+(b-a)/4*2) (a+(b-a)/4*3) 0).1,if (median (lt cm) d (a+(b-a)/4*1) (a+(b-a)/4*2) (a+(b-a)/4*3) 0).2=0 then .increasing else if (median (lt cm) d (a+(b-a)/4*1) (a+(b-a)/4*2) (a+(b-a)/4*3) 0).2=12 then .decreasing else .unknown):=by
    simp only[choosePivot,if_pos (show b-a≥8 by omega),if_neg (show ¬ (b-a≥50) by omega)]
   rw[e];have c1:=median_ct g cm hc d (a+(b-a)/4*1) (a+(b-a)/4*2) (a+(b-a)/4*3) 0 (by omega) (by omega) (by omega) hd (by omega);generalize median (lt cm) d (a+(b-a)/4*1) (a+(b-a)/4*2) (a+(b-a)/4*3) 0=p4 at *
   refine X2 (.own [(1000000,1000000),(11,1000001)] [(1000000,1000000),(1000001,11)]) ?_;refine ⟨_,_,c1,?_⟩;refine aT (λh0=>?_) (λh0=>?_)
   ·rw[if_pos (by omega)];exact ⟨HB,SubO.of (l:=[(1000000,.row _ _)]) ⟨rfl,HB⟩,r1 rfl,r1 rfl,HB⟩
   ·rw[if_neg (by omega)];refine aT (λh1=>?_) (λh1=>?_)
    ·rw[if_pos (by omega)];exact ⟨HB,SubO.of (l:=[(1000000,.row _ _)]) ⟨rfl,HB⟩,r1 rfl,r1 rfl,HB⟩
    ·rw[if_neg (by omega)];exact ⟨HB,SubO.of (l:=[(1000000,.row _ _)]) ⟨rfl,HB⟩,r1 rfl,r1 rfl,HB⟩
 ·have e:choosePivot (lt cm) d a b=(a+(b-a)/4*2,.increasing):=by
   simp only[choosePivot,if_neg (show ¬ (b-a≥8) by omega),if_true]
  rw[e];exact ⟨HB,SubO.of (l:=[(1000000,.row _ _)]) ⟨rfl,HB⟩,r1 rfl,r1 rfl,HB⟩
omit hc
theorem reverse_ct (d:Array El) (a b:Nat) (hab:a<b) (hb:b≤d.size) (hd:d.size≤1000000) :
  CtO P 204 [dO d] [dA d,.c (nI .i64 a),.c (nI .i64 b),.c (.fn g [])] [dO (reverseRange d a b)] []:=by
 refine Ct.io aj aa (N:=34) Tryz.func204 rfl rfl rfl rfl ?_;refine X1 ((b-1:Nat):Int) (wI (by omega) (by omega) (by omega)) ?_;refine b8 aj aa (G:=Nat × Nat × Array El) (λ(i,j,d')=>reverseLoop i j d'=reverseRange d a b∧d'.size=d.size∧j<d.size) (λ(i,j,_)=>[(0,.c (.ow 1000000 SZ d.size)),(8,.c (nI .i64 i)),(9,.c (nI .i64 j))]) (λ(_,_,d')=>[(1000000,.row SZ (row d'))]) (λ(i,j,_)=>j-i)
  (a,b-1,d) ⟨rfl,rfl,by omega⟩ ⟨rfl,rfl,rfl,HB⟩ ⟨rfl,HB⟩ (λ(i,j,d') hi=>?_)
 obtain ⟨i1,i2,i3⟩:=hi;refine ae (λh5=>?_) (λh5=>?_)
 ·rw[reverseLoop,if_pos (by omega)]at i1;refine .intro (by omega) (.intro (by omega) (X1 _ (row_get (n:=j) rfl (by omega)) ?_));refine .intro (by omega) (.intro (by omega) (X1 _ (row_get (n:=i) rfl (by omega)) ?_));refine .intro (by omega) (.intro (by omega) (X1 _ (row_get (n:=i) rfl (by omega)) ?_));refine .intro (by omega) (.intro (by omega) (X1 _ (row_get2 (y:=d'[j]!) (m:=i) (n:=j) rfl rfl (by omega)) ?_));refine .intro rfl ?_;refine X1 ((i+1:Nat):Int) (wI1 (by omega)) ?_;refine X1 ((j-1:Nat):Int) (wI (by omega) (by omega) (by omega)) ?_;exact ⟨(i+1,j-1,swp d' i j),⟨i1,by rw[swp_size]; exact i2,by omega⟩,by show j-1-(i+1)<j-i; omega,⟨rfl,rfl,rfl,HB⟩,⟨aB (row_swp (m:=i) (n:=j) rfl rfl),HB⟩⟩
 ·rw[reverseLoop,if_neg (by omega)]at i1;rw[←i1];exact ⟨HB,SubO.of (l:=[(1000000,.row _ _)]) ⟨rfl,HB⟩,HB⟩
end Go.Proofs.YtgceikecdedfcaaGreat.Pv.SrtC
namespace Go.Proofs.YtgceikecdedfcaaGreat.Pv.SrtC
open Go Go.Sort
section
variable {cm:El→El→Int} {a b:Nat}
theorem insInner_a {j:Nat} {e:Array El} (h:j≤a):insInner (lt cm) a j e=e:=by
 cases j with
 | zero=>rfl
 | succ j=>rw[insInner,if_neg (by simp; omega)]
theorem insInner_b {j:Nat} {e:Array El} (h:¬ cm e[j]! e[j-1]! < 0):insInner (lt cm) a j e=e:=by
 cases j with
 | zero=>rfl
 | succ j=>rw[insInner,if_neg (by simp at h; simp[lt,h])]
theorem insInner_c {j:Nat} {e:Array El} (h:j>a) (h2:cm e[j]! e[j-1]! < 0):insInner (lt cm) a j e=insInner (lt cm) a (j-1) (swp e j (j-1)):=by
 cases j with
 | zero=>omega
 | succ j=>
  simp only[FS]at h2 ⊢;rw[insInner,if_pos (by simp[lt,h2]; omega)]
end
variable (g:FuncId) (cm:El→El→Int)
variable (hc:∀ x y,Ct P g [VL x,VL y] [.c (eI .i64 (cm x y))])
include hc
theorem ins_ct (d:Array El) (a b:Nat) (hab:a≤b) (hb:b≤d.size) (hd:d.size≤1000000) :
  CtO P 200 [dO d] [dA d,.c (nI .i64 a),.c (nI .i64 b),.c (.fn g [])] [dO (insertionSort (lt cm) d a b)] []:=by
 refine Ct.io aj aa (N:=53) Tryz.func200 rfl rfl rfl rfl ?_;refine X1 ((a+1:Nat):Int) (wI (by simp) (by omega) (by omega)) ?_;refine b8 aj aa (G:=Nat × Array El) (λ(i,e)=>insOuter (lt cm) a b i e=insertionSort (lt cm) d a b∧e.size=d.size∧a+1≤i) (λ(i,_)=>[(0,.c (.ow 1000000 SZ d.size)),(1,.c (nI .i64 a)),(2,.c (nI .i64 b)),(3,.c (.fn g [])),(8,.c (nI .i64 i))]) (λ(_,e)=>[(1000000,.row SZ (row e))]) (λ(i,_)=>b-i)
  (a+1,d) ⟨rfl,rfl,by omega⟩ ⟨rfl,rfl,rfl,rfl,rfl,HB⟩ ⟨rfl,HB⟩ (λ(i,e0) hi=>?_)
 obtain ⟨i1,i2,i3⟩:=hi;refine ae (λh5=>?_) (λh5=>?_)
 ·rw[insOuter,if_pos (by omega)]at i1;have hib:i<b:=by omega
  have done:∀ e:Array El,insInner (lt cm) a i e0=e→e.size=d.size→insOuter (lt cm) a b (i+1) e=insertionSort (lt cm) d a b∧e.size=d.size∧a+1≤i+1:=λe h1 h2=>⟨by rw[←h1]; exact i1,h2,by omega⟩
  refine b8 aj aa (G:=Nat × Array El) (λ(j,e)=>insInner (lt cm) a j e=insInner (lt cm) a i e0∧e.size=d.size∧j≤i) (λ(j,_)=>[(0,.c (.ow 1000000 SZ d.size)),(1,.c (nI .i64 a)),(2,.c (nI .i64 b)),(3,.c (.fn g [])),(8,.c (nI .i64 i)),(9,.c (nI .i64 j))]) (λ(_,e)=>[(1000000,.row SZ (row e))]) (λ(j,_)=>j)
   (i,e0) ⟨rfl,i2,by omega⟩ ⟨rfl,rfl,rfl,rfl,rfl,rfl,HB⟩ ⟨rfl,HB⟩ (λ(j,e) hj=>?_)
  obtain ⟨j1,j2,j3⟩:=hj;refine ae (λh6=>?_) (λh6=>?_)
  ·refine .intro (by omega) (.intro (by omega) (X1 _ (row_get (n:=j) rfl (by omega)) ?_));refine X1 ((j-1:Nat):Int) (wI (by omega) (by omega) (by omega)) ?_;refine .intro (by omega) (.intro (by omega) (X1 _ (row_get (n:=j-1) rfl (by omega)) ?_));refine X1 _ (hc _ _) ?_;refine .intro rfl ?_;refine ae (λh7=>?_) (λh7=>?_)
   ·rw[insInner_c (by omega) h7]at j1;refine X1 ((j-1:Nat):Int) (wI (by omega) (by omega) (by omega)) ?_;refine X1 ((j-1:Nat):Int) (wI (by omega) (by omega) (by omega)) ?_;refine .intro (by omega) (.intro (by omega) (X1 _ (row_get (d:=e) (n:=j-1) rfl (by omega)) ?_));refine .intro (by omega) (.intro (by omega) (X1 _ (row_get (d:=e) (n:=j) rfl (by omega)) ?_));refine .intro (by omega) (.intro (by omega) (X1 _ (row_get (d:=e) (n:=j) rfl (by omega)) ?_));refine .intro (by omega) (.intro (by omega) (X1 _ (row_get2 (d:=e) (y:=e[j-1]!) (m:=j) (n:=j-1) rfl rfl (by omega)) ?_));refine .intro rfl ?_;refine X1 ((j-1:Nat):Int) (wI (by omega) (by omega) (by omega)) ?_;exact ⟨(j-1,swp e j (j-1)),⟨j1,by rw[swp_size]; exact j2,by omega⟩,by show j-1<j; omega,⟨rfl,rfl,rfl,rfl,rfl,rfl,HB⟩,⟨aB (row_swp (m:=j) (n:=j-1) rfl rfl),HB⟩⟩
   ·rw[insInner_b h7]at j1;refine X1 ((i+1:Nat):Int) (wI1 (by omega)) ?_;exact ⟨(i+1,e),done e j1.symm j2,by show b-(i+1)<b-i; omega,⟨rfl,rfl,rfl,rfl,rfl,HB⟩,⟨rfl,HB⟩⟩
  ·refine .intro rfl ?_;rw[insInner_a (by omega)]at j1;refine X1 ((i+1:Nat):Int) (wI1 (by omega)) ?_;exact ⟨(i+1,e),done e j1.symm j2,by show b-(i+1)<b-i; omega,⟨rfl,rfl,rfl,rfl,rfl,HB⟩,⟨rfl,HB⟩⟩
 ·rw[insOuter,if_neg (by omega)]at i1;rw[←i1];exact ⟨HB,SubO.of (l:=[(1000000,.row _ _)]) ⟨rfl,HB⟩,HB⟩
omit hc
section
variable {cm:El→El→Int} {hi f r:Nat} {e:Array El}
theorem sift_end (h:¬ 2*r+1<hi):siftDown (lt cm) hi f r e=e:=by rw[siftDown,dif_pos (by omega)]
theorem sift_r (h:2*r+2<hi) (h2:cm e[f+(2*r+1)]! e[f+(2*r+2)]! < 0):siftDown (lt cm) hi f r e=if cm e[f+r]! e[f+(2*r+2)]! < 0 then siftDown (lt cm) hi f (2*r+2) (swp e (f+r) (f+(2*r+2))) else e:=by
 rw[siftDown,dif_neg (by omega)];have e1:f+(2*r+1)+1=f+(2*r+2):=by omega
 rw[e1,if_pos (by simp[lt,h2]; omega)];by_cases h3:cm e[f+r]! e[f+(2*r+2)]! < 0
 ·rw[if_pos h3,if_neg (by simp[lt,h3]),dif_pos h]
 ·rw[if_neg h3,if_pos (by simp[lt]; omega)]
theorem sift_l (h:2*r+1<hi) (h2:¬ (2*r+2<hi∧cm e[f+(2*r+1)]! e[f+(2*r+2)]! < 0)):siftDown (lt cm) hi f r e=if cm e[f+r]! e[f+(2*r+1)]! < 0 then siftDown (lt cm) hi f (2*r+1) (swp e (f+r) (f+(2*r+1))) else e:=by
 rw[siftDown,dif_neg (by omega)];have e1:f+(2*r+1)+1=f+(2*r+2):=by omega
 rw[e1,if_neg (by simp[lt]; omega)];by_cases h3:cm e[f+r]! e[f+(2*r+1)]! < 0
 ·rw[if_pos h3,if_neg (by simp[lt,h3])]
 ·rw[if_neg h3,if_pos (by simp[lt]; omega)]
end
include hc
theorem sift_ct (d:Array El) (lo hi f:Nat) (il ih:Int) (hil:il=lo) (hih:ih=hi) (hb:f+hi≤d.size) (hlo:lo≤1000000) (hd:d.size≤1000000) :
  CtO P 216 [dO d] [dA d,.c (eI .i64 il),.c (eI .i64 ih),.c (nI .i64 f),.c (.fn g [])] [dO (siftDown (lt cm) hi f lo d)] []:=by
 subst hil hih;refine Ct.io aj aa (N:=82) Tryz.func216 rfl rfl rfl rfl ?_;refine b8 aj aa (G:=Nat × Array El) (λ(r,e)=>siftDown (lt cm) hi f r e=siftDown (lt cm) hi f lo d∧e.size=d.size∧r≤1000000) (λ(r,_)=>[(0,.c (.ow 1000000 SZ d.size)),(2,.c (nI .i64 hi)),(3,.c (nI .i64 f)),(4,.c (.fn g [])),(10,.c (nI .i64 r))]) (λ(_,e)=>[(1000000,.row SZ (row e))]) (λ(r,_)=>hi-r)
  (lo,d) ⟨rfl,rfl,hlo⟩ ⟨rfl,rfl,rfl,rfl,rfl,HB⟩ ⟨rfl,HB⟩ (λ(r,e) hinv=>?_)
 obtain ⟨i1,i2,i3⟩:=hinv;refine X1 ((2*r:Nat):Int) (wI (by simp) (by omega) (by omega)) ?_;refine X1 ((2*r+1:Nat):Int) (wI (by simp) (by omega) (by omega)) ?_;refine ae (λh5=>?_) (λh5=>?_)
 ·rw[sift_end (by omega)]at i1;rw[←i1];exact ⟨HB,SubO.of (l:=[(1000000,.row _ _)]) ⟨rfl,HB⟩,HB⟩
 ·refine X1 ((2*r+2:Nat):Int) (wI (by simp; omega) (by omega) (by omega)) ?_;refine ae (λh6=>?_) (λh6=>?_)
  ·refine X1 ((f+(2*r+1):Nat):Int) (wI (by simp) (by omega) (by omega)) ?_;refine .intro (by omega) (.intro (by omega) (X1 _ (row_get (n:=f+(2*r+1)) rfl (by omega)) ?_));refine X1 ((f+(2*r+1):Nat):Int) (wI (by simp) (by omega) (by omega)) ?_;refine X1 ((f+(2*r+2):Nat):Int) (wI (by omega) (by omega) (by omega)) ?_;refine .intro (by omega) (.intro (by omega) (X1 _ (row_get (n:=f+(2*r+2)) rfl (by omega)) ?_));refine X1 _ (hc _ _) ?_;refine .intro rfl ?_;refine ae (λh7=>?_) (λh7=>?_)
   ·rw[sift_r (by omega) h7]at i1;refine X1 ((2*r+2:Nat):Int) (wI (by simp; omega) (by omega) (by omega)) ?_;refine X1 ((f+r:Nat):Int) (wI (by simp) (by omega) (by omega)) ?_;refine .intro (by omega) (.intro (by omega) (X1 _ (row_get (n:=f+r) rfl (by omega)) ?_));refine X1 ((f+(2*r+2):Nat):Int) (wI (by simp) (by omega) (by omega)) ?_;refine .intro (by omega) (.intro (by omega) (X1 _ (row_get (n:=f+(2*r+2)) rfl (by omega)) ?_));refine X1 _ (hc _ _) ?_;refine .intro rfl ?_;refine aP (λh9=>?_) (λh9=>?_)
    ·have h9':¬ cm e[f+r]! e[f+(2*r+2)]! < 0:=by simpa using h9
     rw[if_neg h9']at i1;rw[←i1];exact ⟨HB,SubO.of (l:=[(1000000,.row _ _)]) ⟨rfl,HB⟩,HB⟩
    ·have h9':cm e[f+r]! e[f+(2*r+2)]! < 0:=by simpa using h9
     rw[if_pos h9']at i1;refine X1 ((f+r:Nat):Int) (wI (by simp) (by omega) (by omega)) ?_;refine X1 ((f+(2*r+2):Nat):Int) (wI (by simp) (by omega) (by omega)) ?_;refine X1 ((f+(2*r+2):Nat):Int) (wI (by simp) (by omega) (by omega)) ?_;refine .intro (by omega) (.intro (by omega) (X1 _ (row_get (n:=f+(2*r+2)) rfl (by omega)) ?_));refine X1 ((f+r:Nat):Int) (wI (by simp) (by omega) (by omega)) ?_;refine .intro (by omega) (.intro (by omega) (X1 _ (row_get (n:=f+r) rfl (by omega)) ?_));refine .intro (by omega) (.intro (by omega) (X1 _ (row_get (n:=f+r) rfl (by omega)) ?_));refine .intro (by omega) (.intro (by omega) (X1 _ (row_get2 (y:=e[f+(2*r+2)]!) (m:=f+r) (n:=f+(2*r+2)) rfl rfl (by omega)) ?_));refine .intro rfl ?_;exact ⟨(2*r+2,swp e (f+r) (f+(2*r+2))),⟨i1,by rw[swp_size]; exact i2,by omega⟩,by show hi-(2*r+2)<hi-r; omega,⟨rfl,rfl,rfl,rfl,rfl,HB⟩,⟨aB (row_swp (m:=f+r) (n:=f+(2*r+2)) rfl rfl),HB⟩⟩
   ·rw[sift_l (by omega) (λh=>h7 h.2)]at i1;refine X1 ((f+r:Nat):Int) (wI (by simp) (by omega) (by omega)) ?_;refine .intro (by omega) (.intro (by omega) (X1 _ (row_get (n:=f+r) rfl (by omega)) ?_));refine X1 ((f+(2*r+1):Nat):Int) (wI (by simp) (by omega) (by omega)) ?_;refine .intro (by omega) (.intro (by omega) (X1 _ (row_get (n:=f+(2*r+1)) rfl (by omega)) ?_));refine X1 _ (hc _ _) ?_;refine .intro rfl ?_;refine aP (λh9=>?_) (λh9=>?_)
    ·have h9':¬ cm e[f+r]! e[f+(2*r+1)]! < 0:=by simpa using h9
     rw[if_neg h9']at i1;rw[←i1];exact ⟨HB,SubO.of (l:=[(1000000,.row _ _)]) ⟨rfl,HB⟩,HB⟩
    ·have h9':cm e[f+r]! e[f+(2*r+1)]! < 0:=by simpa using h9
     rw[if_pos h9']at i1;refine X1 ((f+r:Nat):Int) (wI (by simp) (by omega) (by omega)) ?_;refine X1 ((f+(2*r+1):Nat):Int) (wI (by simp) (by omega) (by omega)) ?_;refine X1 ((f+(2*r+1):Nat):Int) (wI (by simp) (by omega) (by omega)) ?_;refine .intro (by omega) (.intro (by omega) (X1 _ (row_get (n:=f+(2*r+1)) rfl (by omega)) ?_));refine X1 ((f+r:Nat):Int) (wI (by simp) (by omega) (by omega)) ?_;refine .intro (by omega) (.intro (by omega) (X1 _ (row_get (n:=f+r) rfl (by omega)) ?_));refine .intro (by omega) (.intro (by omega) (X1 _ (row_get (n:=f+r) rfl (by omega)) ?_));refine .intro (by omega) (.intro (by omega) (X1 _ (row_get2 (y:=e[f+(2*r+1)]!) (m:=f+r) (n:=f+(2*r+1)) rfl rfl (by omega)) ?_));refine .intro rfl ?_;exact ⟨(2*r+1,swp e (f+r) (f+(2*r+1))),⟨i1,by rw[swp_size]; exact i2,by omega⟩,by show hi-(2*r+1)<hi-r; omega,⟨rfl,rfl,rfl,rfl,rfl,HB⟩,⟨aB (row_swp (m:=f+r) (n:=f+(2*r+1)) rfl rfl),HB⟩⟩
  ·refine .intro rfl ?_;rw[sift_l (by omega) (λh=>h6 (by omega))]at i1;refine X1 ((f+r:Nat):Int) (wI (by simp) (by omega) (by omega)) ?_;refine .intro (by omega) (.intro (by omega) (X1 _ (row_get (n:=f+r) rfl (by omega)) ?_));refine X1 ((f+(2*r+1):Nat):Int) (wI (by simp) (by omega) (by omega)) ?_;refine .intro (by omega) (.intro (by omega) (X1 _ (row_get (n:=f+(2*r+1)) rfl (by omega)) ?_));refine X1 _ (hc _ _) ?_;refine .intro rfl ?_;refine aP (λh9=>?_) (λh9=>?_)
   ·have h9':¬ cm e[f+r]! e[f+(2*r+1)]! < 0:=by simpa using h9
    rw[if_neg h9']at i1;rw[←i1];exact ⟨HB,SubO.of (l:=[(1000000,.row _ _)]) ⟨rfl,HB⟩,HB⟩
   ·have h9':cm e[f+r]! e[f+(2*r+1)]! < 0:=by simpa using h9
    rw[if_pos h9']at i1;refine X1 ((f+r:Nat):Int) (wI (by simp) (by omega) (by omega)) ?_;refine X1 ((f+(2*r+1):Nat):Int) (wI (by simp) (by omega) (by omega)) ?_;refine X1 ((f+(2*r+1):Nat):Int) (wI (by simp) (by omega) (by omega)) ?_;refine .intro (by omega) (.intro (by omega) (X1 _ (row_get (n:=f+(2*r+1)) rfl (by omega)) ?_));refine X1 ((f+r:Nat):Int) (wI (by simp) (by omega) (by omega)) ?_;refine .intro (by omega) (.intro (by omega) (X1 _ (row_get (n:=f+r) rfl (by omega)) ?_));refine .intro (by omega) (.intro (by omega) (X1 _ (row_get (n:=f+r) rfl (by omega)) ?_));refine .intro (by omega) (.intro (by omega) (X1 _ (row_get2 (y:=e[f+(2*r+1)]!) (m:=f+r) (n:=f+(2*r+1)) rfl rfl (by omega)) ?_));refine .intro rfl ?_;exact ⟨(2*r+1,swp e (f+r) (f+(2*r+1))),⟨i1,by rw[swp_size]; exact i2,by omega⟩,by show hi-(2*r+1)<hi-r; omega,⟨rfl,rfl,rfl,rfl,rfl,HB⟩,⟨aB (row_swp (m:=f+r) (n:=f+(2*r+1)) rfl rfl),HB⟩⟩
theorem sift_size (hi f:Nat):∀ (n r:Nat) (e:Array El),hi-r≤n→(siftDown (lt cm) hi f r e).size=e.size:=by
 have _hc:=hc;intro n
 induction n with
 | zero=>intro r e h; rw[sift_end (by omega)]
 | succ n ih=>
  intro r e h;by_cases h1:2*r+1<hi
  ·by_cases h2:2*r+2<hi∧cm e[f+(2*r+1)]! e[f+(2*r+2)]! < 0
   ·rw[sift_r h2.1 h2.2]; split
    ·rw[ih _ _ (by omega),swp_size]
    ·rfl
   ·rw[sift_l h1 h2]; split
    ·rw[ih _ _ (by omega),swp_size]
    ·rfl
  ·rw[sift_end h1]
theorem heap_ct (d:Array El) (a b:Nat) (hab:a<b) (hb:b≤d.size) (hd:d.size≤1000000) :
  CtO P 201 [dO d] [dA d,.c (nI .i64 a),.c (nI .i64 b),.c (.fn g [])] [dO (heapSort (lt cm) d a b)] []:=by
 refine Ct.io aj aa (N:=60) Tryz.func201 rfl rfl rfl rfl ?_;refine X1 ((b-a:Nat):Int) (wI (by omega) (by omega) (by omega)) ?_;refine X1 ((b-a-1:Nat):Int) (wI (by omega) (by omega) (by omega)) ?_;have q2:((b-a-1:Nat):Int).tdiv 2=(((b-a-1)/2+1:Nat):Int)-1:=by
  rw[FB (by omega)]; omega
 refine .intro (by omega) (X1 _ q2 (.intro ⟨by omega,by omega⟩ ?_));refine ax aj aa (G:=Nat × Array El) (λ(k,e)=>heapBuild (lt cm) (b-a) a k e=heapBuild (lt cm) (b-a) a ((b-a-1)/2+1) d∧e.size=d.size∧k≤1000000) (λ(k,_)=>[(0,.c (.ow 1000000 SZ d.size)),(3,.c (.fn g [])),(8,.c (nI .i64 a)),(9,.c (eI .i64 0)),(10,.c (nI .i64 (b-a))),(11,.c (eI .i64 ((k:Int)-1)))]) (λ(_,e)=>[(1000000,.row SZ (row e))]) (λ(k,_)=>k)
  ((b-a-1)/2+1,d) ⟨rfl,rfl,by omega⟩ ⟨rfl,rfl,rfl,rfl,rfl,rfl,HB⟩ ⟨rfl,HB⟩
  (G2:=Array El) (λe=>e=heapBuild (lt cm) (b-a) a ((b-a-1)/2+1) d∧e.size=d.size) (λ_=>[(0,.c (.ow 1000000 SZ d.size)),(3,.c (.fn g [])),(8,.c (nI .i64 a)),(9,.c (eI .i64 0)),(10,.c (nI .i64 (b-a)))]) (λe=>[(1000000,.row SZ (row e))]) (λ(k,e) hi=>?_) (λe0 he=>?_)
 ·obtain ⟨i1,i2,i3⟩:=hi;refine ae (λh5=>?_) (λh5=>?_)
  ·cases k with
   | zero=>omega
   | succ k=>
    refine X2 (.upd 1000000) ?_;have hs:=sift_ct g cm hc e k (b-a) a (((k+1:Nat):Int)-1) ((b-a:Nat):Int) (by omega) rfl (by omega) (by omega) (by omega);rw[dA,i2]at hs;refine ⟨_,_,hs,?_⟩;refine X1 ((k:Int)-1) (wI (by omega) (by omega) (by omega)) ?_;rw[heapBuild]at i1;exact ⟨(k,siftDown (lt cm) (b-a) a k e),⟨i1,by rw[sift_size g cm hc (b-a) a _ k e (Ew _)]; exact i2,by omega⟩,by show k<k+1; omega,⟨rfl,rfl,rfl,rfl,rfl,rfl,HB⟩,⟨rfl,HB⟩⟩
  ·have hk:k=0:=by omega
   subst hk;exact ⟨e,⟨i1,i2⟩,⟨rfl,rfl,rfl,rfl,rfl,HB⟩,⟨rfl,HB⟩⟩
 ·obtain ⟨e1,e2⟩:=he;have hpop:heapSort (lt cm) d a b=heapPop (lt cm) a (b-a) e0:=by rw[e1]; rfl
  rw[hpop];refine X1 (((b-a:Nat):Int)-1) (wI (by omega) (by omega) (by omega)) ?_;refine b8 aj aa (G:=Nat × Array El) (λ(k,e)=>heapPop (lt cm) a k e=heapPop (lt cm) a (b-a) e0∧e.size=d.size∧k≤b-a) (λ(k,_)=>[(0,.c (.ow 1000000 SZ d.size)),(3,.c (.fn g [])),(8,.c (nI .i64 a)),(9,.c (eI .i64 0)),(12,.c (eI .i64 ((k:Int)-1)))]) (λ(_,e)=>[(1000000,.row SZ (row e))]) (λ(k,_)=>k)
   (b-a,e0) ⟨rfl,e2,by omega⟩ ⟨rfl,rfl,rfl,rfl,rfl,HB⟩ ⟨rfl,HB⟩ (λ(k,e) hi=>?_)
  obtain ⟨i1,i2,i3⟩:=hi;refine ae (λh5=>?_) (λh5=>?_)
  ·cases k with
   | zero=>omega
   | succ k=>
    refine X1 ((a+k:Nat):Int) (wI (by omega) (by omega) (by omega)) ?_;refine X1 ((a+k:Nat):Int) (wI (by omega) (by omega) (by omega)) ?_;refine .intro (by omega) (.intro (by omega) (X1 _ (row_get (d:=e) (n:=a+k) rfl (by omega)) ?_));refine .intro (by omega) (.intro (by omega) (X1 _ (row_get (d:=e) (n:=a) rfl (by omega)) ?_));refine .intro (by omega) (.intro (by omega) (X1 _ (row_get (d:=e) (n:=a) rfl (by omega)) ?_));refine .intro (by omega) (.intro (by omega) (X1 _ (row_get2 (d:=e) (y:=e[a+k]!) (m:=a) (n:=a+k) rfl rfl (by omega)) ?_));refine .intro rfl ?_;have hs:=sift_ct g cm hc (swp e a (a+k)) 0 k a 0 (((k+1:Nat):Int)-1) rfl (by omega) (by rw[swp_size]; omega) (by omega) (by rw[swp_size]; omega);rw[dA,swp_size,i2,dO,←row_swp (i:=(a:Int)) (j:=((a+k:Nat):Int)) rfl rfl]at hs;refine X2 (.upd 1000000) ?_;refine ⟨_,_,hs,?_⟩;refine X1 ((k:Int)-1) (wI (by omega) (by omega) (by omega)) ?_;rw[heapPop]at i1;exact ⟨(k,siftDown (lt cm) k a 0 (swp e a (a+k))),⟨i1,by rw[sift_size g cm hc k a _ 0 _ (Ew _),swp_size]; exact i2,by omega⟩,by show k<k+1; omega,⟨rfl,rfl,rfl,rfl,rfl,HB⟩,⟨rfl,HB⟩⟩
  ·have hk:k=0:=by omega
   subst hk;rw[←i1];exact ⟨HB,SubO.of (l:=[(1000000,.row _ _)]) ⟨rfl,HB⟩,HB⟩
end Go.Proofs.YtgceikecdedfcaaGreat.Pv.SrtC
