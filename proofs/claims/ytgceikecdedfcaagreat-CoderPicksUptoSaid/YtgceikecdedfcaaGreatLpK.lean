/- Parts of a proof, joined: Scc Scd Sce Cv El Em En. -/
import Derived.Test.YtgceikecdedfcaaGreatLpJ
namespace Go.Proofs.YtgceikecdedfcaaGreat.Pv.SrtC
open Go Go.Sort
variable (g:FuncId) (cm:El→El→Int)
def bst (a len m i0:Nat) (d:Array El):Nat→UInt64 × Array El
 | 0=>(UInt64.ofNat len,d)
 | t+1=>breakStep a len m (bst a len m i0 d t) (i0+t)
theorem bst_size (a len m i0:Nat) (d:Array El):∀ t,(bst a len m i0 d t).2.size=d.size
 | 0=>rfl
 | t+1=>by rw[bst,breakStep,swp_size]; exact bst_size a len m i0 d t
theorem break_ct (d:Array El) (a b:Nat) (hab:a+8≤b) (hb:b≤d.size) (hd:d.size≤1000000) :
  CtO P 202 [dO d] [dA d,.c (nI .i64 a),.c (nI .i64 b),.c (.fn g [])] [dO (breakPatterns d a b)] []:=by
 have hbits:=fF (n:=b-a) (by omega);have hm1:1<<<bitsLen (b-a)=2^bitsLen (b-a):=Nat.one_shiftLeft _;have hm2:2^bitsLen (b-a)≤2*(b-a):=by
  rw[iW];have h1:=ql (n:=b-a) (by omega);have h2:blen (b-a)≠0:=λh=>by
   have:=fh (b-a); rw[h]at this; omega
  have h3:2^blen (b-a)=2*2^(blen (b-a)-1):=by
   rw[←Nat.pow_succ']; congr 1; omega
  omega
 have hm3:0<2^bitsLen (b-a):=Fo _;have hbp:breakPatterns d a b=(bst a (b-a) (1<<<bitsLen (b-a)) (a+(b-a)/4*2-1) d 3).2:=by
  simp only[breakPatterns,if_pos (show b-a≥8 by omega)]; rfl
 have hms:∀ m,m=1<<<bitsLen (b-a)→0<m∧m≤2*(b-a):=λm hm=>by rw[hm,hm1]; exact ⟨hm3,hm2⟩
 refine Ct.io aj aa (N:=67) Tryz.func202 rfl rfl rfl rfl ?_;refine X1 ((b-a:Nat):Int) (wI (by omega) (by omega) (by omega)) ?_;refine ae (λh8=>?_) (λh8=>absurd (show ((b-a:Nat):Int)≥8 by omega) h8);have hlen:(UInt64.ofNat (b-a)).toNat=b-a:=by rw[UInt64.toNat_ofNat']; omega
 refine X1 ((UInt64.ofNat (b-a)).toNat:Int) (by rw[hlen]; exact wU rfl (by omega) (by omega)) ?_;refine X1 _ (uP (b-a) (by omega)) ?_;rw[hbp];have hms':=hms _ rfl;generalize 1<<<bitsLen (b-a)=m at *
 have q4:((b-a:Nat):Int).tdiv 4=(((b-a)/4:Nat):Int):=quo4 rfl;refine .intro (by omega) (X1 _ q4 (.intro ⟨by omega,by omega⟩ ?_));refine X1 (((b-a)/4*2:Nat):Int) (wI (by simp) (by omega) (by omega)) ?_;refine X1 ((a+(b-a)/4*2:Nat):Int) (wI (by simp) (by omega) (by omega)) ?_;refine X1 ((a+(b-a)/4*2-1:Nat):Int) (wI (by omega) (by omega) (by omega)) ?_;refine b8 aj aa (G:=Nat) (λt=>t≤3) (λt=>[(0,.c (.ow 1000000 SZ d.size)),(1,.c (nI .i64 a)),(8,.c (nI .i64 (b-a))),(9,.c (.ad 9 0)),(10,.c (nI .u64 m)),(11,.c (nI .i64 (a+(b-a)/4*2-1+t)))]) (λt=>[(9,.var [nI .u64 (bst a (b-a) m (a+(b-a)/4*2-1) d t).1.toNat]),(1000000,.row SZ (row (bst a (b-a) m (a+(b-a)/4*2-1) d t).2))]) (λt=>3-t)
  0 (by omega) ⟨rfl,rfl,rfl,rfl,rfl,rfl,HB⟩ ⟨rfl,rfl,HB⟩ (λt ht=>?_)
 have hs:=bst_size a (b-a) m (a+(b-a)/4*2-1) d t;have hst:bst a (b-a) m (a+(b-a)/4*2-1) d (t+1)=breakStep a (b-a) m (bst a (b-a) m (a+(b-a)/4*2-1) d t) (a+(b-a)/4*2-1+t):=rfl;have hend:t=3→(bst a (b-a) m (a+(b-a)/4*2-1) d t).2=(bst a (b-a) m (a+(b-a)/4*2-1) d 3).2:=λh=>by rw[h]
 generalize hst':bst a (b-a) m (a+(b-a)/4*2-1) d t=st at *
 obtain ⟨r,e⟩:=st;simp only at hs;refine .intro (by omega) (X1 _ q4 (.intro ⟨by omega,by omega⟩ ?_));refine X1 (((b-a)/4*2:Nat):Int) (wI (by simp) (by omega) (by omega)) ?_;refine X1 ((a+(b-a)/4*2:Nat):Int) (wI (by simp) (by omega) (by omega)) ?_;refine X1 ((a+(b-a)/4*2+1:Nat):Int) (wI (by simp) (by omega) (by omega)) ?_;refine ae (λh5=>?_) (λh5=>?_)
 ·refine X2 (.upd 9) ?_;refine ⟨_,_,uQ r,?_⟩;refine X1 ((m-1:Nat):Int) (wU (by omega) (by omega) (by omega)) ?_;refine X1 _ (DI (xorNext r) (n:=m-1) (by omega)) ?_;have hle:(xorNext r).toNat&&&(m-1)≤m-1:=Nat.and_le_right;rw[breakStep]at hst;simp only at hst;generalize (xorNext r).toNat&&&(m-1)=o at *
  refine X1 ((o:Nat):Int) (wI rfl (by omega) (by omega)) ?_;refine ae (λh6=>?_) (λh6=>?_)
  ·rw[if_pos (by omega)]at hst;refine X1 ((o-(b-a):Nat):Int) (wI (by omega) (by omega) (by omega)) ?_;refine X1 ((a+(o-(b-a)):Nat):Int) (wI (by omega) (by omega) (by omega)) ?_;refine X1 ((a+(o-(b-a)):Nat):Int) (wI (by omega) (by omega) (by omega)) ?_;refine .intro (by omega) (.intro (by omega) (X1 _ (row_get (d:=e) (n:=a+(o-(b-a))) rfl (by omega)) ?_));refine .intro (by omega) (.intro (by omega) (X1 _ (row_get (d:=e) (n:=a+(b-a)/4*2-1+t) rfl (by omega)) ?_));refine .intro (by omega) (.intro (by omega) (X1 _ (row_get (d:=e) (n:=a+(b-a)/4*2-1+t) rfl (by omega)) ?_));refine .intro (by omega) (.intro (by omega) (X1 _ (row_get2 (d:=e) (y:=e[a+(o-(b-a))]!) (m:=a+(b-a)/4*2-1+t) (n:=a+(o-(b-a))) rfl rfl (by omega)) ?_));refine .intro rfl ?_;refine X1 ((a+(b-a)/4*2-1+(t+1):Nat):Int) (wI (by omega) (by omega) (by omega)) ?_;exact ⟨t+1,by omega,by show 3-(t+1)<3-t; omega,⟨rfl,rfl,rfl,rfl,rfl,rfl,HB⟩,⟨by rw[hst]; rfl,aB (by rw[hst]; exact row_swp (m:=a+(b-a)/4*2-1+t) (n:=a+(o-(b-a))) rfl rfl),HB⟩⟩
  ·rw[if_neg (by omega)]at hst;refine X1 ((a+o:Nat):Int) (wI (by omega) (by omega) (by omega)) ?_;refine X1 ((a+o:Nat):Int) (wI (by omega) (by omega) (by omega)) ?_;refine .intro (by omega) (.intro (by omega) (X1 _ (row_get (d:=e) (n:=a+o) rfl (by omega)) ?_));refine .intro (by omega) (.intro (by omega) (X1 _ (row_get (d:=e) (n:=a+(b-a)/4*2-1+t) rfl (by omega)) ?_));refine .intro (by omega) (.intro (by omega) (X1 _ (row_get (d:=e) (n:=a+(b-a)/4*2-1+t) rfl (by omega)) ?_));refine .intro (by omega) (.intro (by omega) (X1 _ (row_get2 (d:=e) (y:=e[a+o]!) (m:=a+(b-a)/4*2-1+t) (n:=a+o) rfl rfl (by omega)) ?_));refine .intro rfl ?_;refine X1 ((a+(b-a)/4*2-1+(t+1):Nat):Int) (wI (by omega) (by omega) (by omega)) ?_;exact ⟨t+1,by omega,by show 3-(t+1)<3-t; omega,⟨rfl,rfl,rfl,rfl,rfl,rfl,HB⟩,⟨by rw[hst]; rfl,aB (by rw[hst]; exact row_swp (m:=a+(b-a)/4*2-1+t) (n:=a+o) rfl rfl),HB⟩⟩
 ·rw[←hend (by omega)];exact ⟨HB,SubO.of (l:=[(1000000,.row _ _)]) ⟨rfl,HB⟩,HB⟩
section
variable {cm:El→El→Int} {a b i j:Nat} {e:Array El}
theorem scanS_a (h:¬ i<b):scanSorted (lt cm) e b i=i:=by rw[scanSorted,if_neg (by simp; omega)]
theorem scanS_b (h:cm e[i]! e[i-1]! < 0):scanSorted (lt cm) e b i=i:=by rw[scanSorted,if_neg (by simp[lt,h])]
theorem scanS_c (h:i<b) (h2:¬ cm e[i]! e[i-1]! < 0):scanSorted (lt cm) e b i=scanSorted (lt cm) e b (i+1):=by rw[scanSorted,if_pos (by simp[lt]; omega)]
theorem shD_a (h:j<1):shiftDown (lt cm) j e=e:=by
 have:j=0:=by omega
 subst this; rfl
theorem shD_b (h:¬ cm e[j]! e[j-1]! < 0):shiftDown (lt cm) j e=e:=by
 cases j with
 | zero=>rfl
 | succ j=>simp only[FS]at h; rw[shiftDown,if_pos (by simp[lt]; omega)]
theorem shD_c (h0:1≤j) (h:cm e[j]! e[j-1]! < 0):shiftDown (lt cm) j e=shiftDown (lt cm) (j-1) (swp e j (j-1)):=by
 cases j with
 | zero=>omega
 | succ j=>simp only[FS]at h ⊢; rw[shiftDown,if_neg (by simp[lt,h])]
theorem shU_a (h:¬ j<b):shiftUp (lt cm) b j e=e:=by rw[shiftUp,if_neg h]
theorem shU_b (h0:j<b) (h:¬ cm e[j]! e[j-1]! < 0):shiftUp (lt cm) b j e=e:=by rw[shiftUp,if_pos h0,if_pos (by simp[lt]; omega)]
theorem shU_c (h0:j<b) (h:cm e[j]! e[j-1]! < 0):shiftUp (lt cm) b j e=shiftUp (lt cm) b (j+1) (swp e j (j-1)):=by rw[shiftUp,if_pos h0,if_neg (by simp[lt,h])]
end
variable (hc:∀ x y,Ct P g [VL x,VL y] [.c (eI .i64 (cm x y))])
include hc
theorem pIns_ct (d:Array El) (a b:Nat) (hab:a<b) (hb:b≤d.size) (hd:d.size≤1000000) :
  CtO P 205 [dO d] [dA d,.c (nI .i64 a),.c (nI .i64 b),.c (.fn g [])] [dO (partialInsertionSort (lt cm) d a b).1] [.c (.sc (.bool (partialInsertionSort (lt cm) d a b).2))]:=by
 have key:∀ F:Array El × Bool,partialIns (lt cm) a b 5 (a+1) d=F→CtO P 205 [dO d] [dA d,.c (nI .i64 a),.c (nI .i64 b),.c (.fn g [])] [dO F.1] [.c (.sc (.bool F.2))]:=by
  intro F hF;refine Ct.io aj aa (N:=141) Tryz.func205 rfl rfl rfl rfl ?_;refine X1 ((a+1:Nat):Int) (wI (by simp) (by omega) (by omega)) ?_;refine ax aj aa (G:=Nat × Nat × Array El) (λ(s,i,e)=>s≤5∧partialIns (lt cm) a b (5-s) i e=F∧e.size=d.size∧a+1≤i∧i≤b) (λ(s,i,_)=>[(0,.c (.ow 1000000 SZ d.size)),(1,.c (nI .i64 a)),(2,.c (nI .i64 b)),(3,.c (.fn g [])),(9,.c (nI .i64 i)),(10,.c (nI .i64 s))]) (λ(_,_,e)=>[(1000000,.row SZ (row e))]) (λ(s,_,_)=>5-s)
   (0,a+1,d) ⟨by omega,hF,rfl,by omega,by omega⟩ ⟨rfl,rfl,rfl,rfl,rfl,rfl,HB⟩ ⟨rfl,HB⟩ (G2:=Array El) (λe=>F=(e,false)) (λ_=>[]) (λe=>[(1000000,.row SZ (row e))]) (λ(s,i,e0) hi=>?_) (λe he=>?_)
  ·obtain ⟨i1,i2,i3,i4,i5⟩:=hi;refine ae (λh5=>?_) (λh5=>?_)
   ·rw[show 5-s=(4-s)+1 by omega,partialIns]at i2;refine ax aj aa (G:=Nat) (λj=>scanSorted (lt cm) e0 b j=scanSorted (lt cm) e0 b i∧i≤j∧j≤b) (λj=>[(0,.c (.ow 1000000 SZ d.size)),(1,.c (nI .i64 a)),(2,.c (nI .i64 b)),(3,.c (.fn g [])),(9,.c (nI .i64 j)),(10,.c (nI .i64 s))]) (λ_=>[(1000000,.row SZ (row e0))]) (λj=>b-j)
     i ⟨rfl,by omega,by omega⟩ ⟨rfl,rfl,rfl,rfl,rfl,rfl,HB⟩ ⟨rfl,HB⟩ (G2:=Nat) (λj=>scanSorted (lt cm) e0 b i=j∧i≤j∧j≤b) (λj=>[(0,.c (.ow 1000000 SZ d.size)),(1,.c (nI .i64 a)),(2,.c (nI .i64 b)),(3,.c (.fn g [])),(9,.c (nI .i64 j)),(10,.c (nI .i64 s))]) (λ_=>[(1000000,.row SZ (row e0))]) (λj hj=>?_) (λk hk=>?_)
    ·obtain ⟨j1,j2,j3⟩:=hj;refine ae (λh6=>?_) (λh6=>?_)
     ·refine .intro (by omega) (.intro (by omega) (X1 _ (row_get (n:=j) rfl (by omega)) ?_));refine X1 ((j-1:Nat):Int) (wI (by omega) (by omega) (by omega)) ?_;refine .intro (by omega) (.intro (by omega) (X1 _ (row_get (n:=j-1) rfl (by omega)) ?_));refine X1 _ (hc _ _) ?_;refine .intro rfl ?_;refine aP (λh7=>?_) (λh7=>?_)
      ·have h7':¬ cm e0[j]! e0[j-1]! < 0:=by simpa using h7
       rw[scanS_c (by omega) h7']at j1;refine X1 ((j+1:Nat):Int) (wI (by simp) (by omega) (by omega)) ?_;exact ⟨j+1,⟨j1,by omega,by omega⟩,by omega,⟨rfl,rfl,rfl,rfl,rfl,rfl,HB⟩,⟨rfl,HB⟩⟩
      ·have h7':cm e0[j]! e0[j-1]! < 0:=by simpa using h7
       rw[scanS_b h7']at j1;exact ⟨j,⟨j1.symm,j2,j3⟩,⟨rfl,rfl,rfl,rfl,rfl,rfl,HB⟩,⟨rfl,HB⟩⟩
     ·refine .intro rfl ?_;rw[scanS_a (by omega)]at j1;exact ⟨j,⟨j1.symm,j2,j3⟩,⟨rfl,rfl,rfl,rfl,rfl,rfl,HB⟩,⟨rfl,HB⟩⟩
    ·obtain ⟨k1,k2,k3⟩:=hk;simp only[k1]at i2;refine aT (λh6=>?_) (λh6=>?_)
     ·rw[if_pos (by omega)]at i2;rw[←i2];exact ⟨HB,SubO.of (l:=[(1000000,.row _ _)]) ⟨rfl,HB⟩,r1 rfl,HB⟩
     ·rw[if_neg (by omega)]at i2;refine X1 ((b-a:Nat):Int) (wI (by omega) (by omega) (by omega)) ?_;refine ae (λh7=>?_) (λh7=>?_)
      ·rw[if_pos (by omega)]at i2;rw[←i2];exact ⟨HB,SubO.of (l:=[(1000000,.row _ _)]) ⟨rfl,HB⟩,r1 rfl,HB⟩
      ·rw[if_neg (by omega)]at i2;refine X1 ((k-1:Nat):Int) (wI (by omega) (by omega) (by omega)) ?_;refine X1 ((k-1:Nat):Int) (wI (by omega) (by omega) (by omega)) ?_;refine .intro (by omega) (.intro (by omega) (X1 _ (row_get (d:=e0) (n:=k-1) rfl (by omega)) ?_));refine .intro (by omega) (.intro (by omega) (X1 _ (row_get (d:=e0) (n:=k) rfl (by omega)) ?_));refine .intro (by omega) (.intro (by omega) (X1 _ (row_get (d:=e0) (n:=k) rfl (by omega)) ?_));refine .intro (by omega) (.intro (by omega) (X1 _ (row_get2 (d:=e0) (y:=e0[k-1]!) (m:=k) (n:=k-1) rfl rfl (by omega)) ?_));refine .intro rfl ?_;have hrow:=row_swp (d:=e0) (i:=(k:Int)) (j:=((k-1:Nat):Int)) (m:=k) (n:=k-1) rfl rfl;have hsz:(swp e0 k (k-1)).size=d.size:=by rw[swp_size]; exact i3
       generalize swp e0 k (k-1)=e1 at *
       refine X1 ((k-a:Nat):Int) (wI (by omega) (by omega) (by omega)) ?_;refine ae (λh8=>?_) (λh8=>?_)
       ·rw[if_pos (show k-a≥2 by omega)]at i2;refine X1 ((k-1:Nat):Int) (wI (by omega) (by omega) (by omega)) ?_;refine b8 aj aa (G:=Nat × Array El) (λ(j,e)=>shiftDown (lt cm) j e=shiftDown (lt cm) (k-1) e1∧e.size=d.size∧j≤k-1) (λ(j,_)=>[(0,.c (.ow 1000000 SZ d.size)),(1,.c (nI .i64 a)),(2,.c (nI .i64 b)),(3,.c (.fn g [])),(9,.c (nI .i64 k)),(10,.c (nI .i64 s)),(11,.c (nI .i64 j))]) (λ(_,e)=>[(1000000,.row SZ (row e))]) (λ(j,_)=>j)
         (k-1,e1) ⟨rfl,hsz,by omega⟩ ⟨rfl,rfl,rfl,rfl,rfl,rfl,rfl,HB⟩ ⟨aB hrow,HB⟩ (λ(j,e) hj=>?_)
        obtain ⟨j1,j2,j3⟩:=hj;refine ae (λh9=>?_) (λh9=>?_)
        ·refine .intro (by omega) (.intro (by omega) (X1 _ (row_get (n:=j) rfl (by omega)) ?_));refine X1 ((j-1:Nat):Int) (wI (by omega) (by omega) (by omega)) ?_;refine .intro (by omega) (.intro (by omega) (X1 _ (row_get (n:=j-1) rfl (by omega)) ?_));refine X1 _ (hc _ _) ?_;refine .intro rfl ?_;refine aP (λha=>?_) (λha=>?_)
         ·have ha':¬ cm e[j]! e[j-1]! < 0:=by simpa using ha
          rw[shD_b ha']at j1;rw[←j1]at i2;refine X1 ((b-k:Nat):Int) (wI (by omega) (by omega) (by omega)) ?_;refine ae (λhb8=>?_) (λhb8=>?_)
          ·rw[if_pos (show b-k≥2 by omega)]at i2;refine X1 ((k+1:Nat):Int) (wI (by simp) (by omega) (by omega)) ?_;refine b8 aj aa (G:=Nat × Array El) (λ(j,e')=>shiftUp (lt cm) b j e'=shiftUp (lt cm) b (k+1) e∧e'.size=d.size∧k+1≤j∧j≤b) (λ(j,_)=>[(0,.c (.ow 1000000 SZ d.size)),(1,.c (nI .i64 a)),(2,.c (nI .i64 b)),(3,.c (.fn g [])),(9,.c (nI .i64 k)),(10,.c (nI .i64 s)),(12,.c (nI .i64 j))]) (λ(_,e')=>[(1000000,.row SZ (row e'))]) (λ(j,_)=>b-j)
            (k+1,e) ⟨rfl,j2,by omega,by omega⟩ ⟨rfl,rfl,rfl,rfl,rfl,rfl,rfl,HB⟩ ⟨rfl,HB⟩ (λ(q,e') hq=>?_)
           obtain ⟨q1,q2,q3,q4⟩:=hq;have fin:∀ e2:Array El,shiftUp (lt cm) b (k+1) e=e2→e2.size=d.size→s+1≤5∧partialIns (lt cm) a b (5-(s+1)) k e2=F∧e2.size=d.size∧a+1≤k∧k≤b:=λe2 g1 g2=>⟨by omega,by rw[←g1,show 5-(s+1)=4-s by omega]; exact i2,g2,by omega,by omega⟩
           refine ae (λhb9=>?_) (λhb9=>?_)
           ·refine .intro (by omega) (.intro (by omega) (X1 _ (row_get (n:=q) rfl (by omega)) ?_));refine X1 ((q-1:Nat):Int) (wI (by omega) (by omega) (by omega)) ?_;refine .intro (by omega) (.intro (by omega) (X1 _ (row_get (n:=q-1) rfl (by omega)) ?_));refine X1 _ (hc _ _) ?_;refine .intro rfl ?_;refine aP (λhba=>?_) (λhba=>?_)
            ·have hba':¬ cm e'[q]! e'[q-1]! < 0:=by simpa using hba
             rw[shU_b (by omega) hba']at q1;refine X1 ((s+1:Nat):Int) (wI (by simp) (by omega) (by omega)) ?_;exact ⟨(s+1,k,e'),fin e' q1.symm q2,by show 5-(s+1)<5-s; omega,⟨rfl,rfl,rfl,rfl,rfl,rfl,HB⟩,⟨rfl,HB⟩⟩
            ·have hba':cm e'[q]! e'[q-1]! < 0:=by simpa using hba
             rw[shU_c (by omega) hba']at q1;refine X1 ((q-1:Nat):Int) (wI (by omega) (by omega) (by omega)) ?_;refine X1 ((q-1:Nat):Int) (wI (by omega) (by omega) (by omega)) ?_;refine .intro (by omega) (.intro (by omega) (X1 _ (row_get (d:=e') (n:=q-1) rfl (by omega)) ?_));refine .intro (by omega) (.intro (by omega) (X1 _ (row_get (d:=e') (n:=q) rfl (by omega)) ?_));refine .intro (by omega) (.intro (by omega) (X1 _ (row_get (d:=e') (n:=q) rfl (by omega)) ?_));refine .intro (by omega) (.intro (by omega) (X1 _ (row_get2 (d:=e') (y:=e'[q-1]!) (m:=q) (n:=q-1) rfl rfl (by omega)) ?_));refine .intro rfl ?_;refine X1 ((q+1:Nat):Int) (wI (by simp) (by omega) (by omega)) ?_;exact ⟨(q+1,swp e' q (q-1)),⟨q1,by rw[swp_size]; exact q2,by omega,by omega⟩,by show b-(q+1)<b-q; omega,⟨rfl,rfl,rfl,rfl,rfl,rfl,rfl,HB⟩,⟨aB (row_swp (m:=q) (n:=q-1) rfl rfl),HB⟩⟩
           ·rw[shU_a (by omega)]at q1;refine X1 ((s+1:Nat):Int) (wI (by simp) (by omega) (by omega)) ?_;exact ⟨(s+1,k,e'),fin e' q1.symm q2,by show 5-(s+1)<5-s; omega,⟨rfl,rfl,rfl,rfl,rfl,rfl,HB⟩,⟨rfl,HB⟩⟩
          ·rw[if_neg (show ¬ b-k≥2 by omega)]at i2;refine X1 ((s+1:Nat):Int) (wI (by simp) (by omega) (by omega)) ?_;exact ⟨(s+1,k,e),⟨by omega,by rw[show 5-(s+1)=4-s by omega]; exact i2,j2,by omega,by omega⟩,by show 5-(s+1)<5-s; omega,⟨rfl,rfl,rfl,rfl,rfl,rfl,HB⟩,⟨rfl,HB⟩⟩
         ·have ha':cm e[j]! e[j-1]! < 0:=by simpa using ha
          rw[shD_c (by omega) ha']at j1;refine X1 ((j-1:Nat):Int) (wI (by omega) (by omega) (by omega)) ?_;refine X1 ((j-1:Nat):Int) (wI (by omega) (by omega) (by omega)) ?_;refine .intro (by omega) (.intro (by omega) (X1 _ (row_get (d:=e) (n:=j-1) rfl (by omega)) ?_));refine .intro (by omega) (.intro (by omega) (X1 _ (row_get (d:=e) (n:=j) rfl (by omega)) ?_));refine .intro (by omega) (.intro (by omega) (X1 _ (row_get (d:=e) (n:=j) rfl (by omega)) ?_));refine .intro (by omega) (.intro (by omega) (X1 _ (row_get2 (d:=e) (y:=e[j-1]!) (m:=j) (n:=j-1) rfl rfl (by omega)) ?_));refine .intro rfl ?_;refine X1 ((j-1:Nat):Int) (wI (by omega) (by omega) (by omega)) ?_;exact ⟨(j-1,swp e j (j-1)),⟨j1,by rw[swp_size]; exact j2,by omega⟩,by show j-1<j; omega,⟨rfl,rfl,rfl,rfl,rfl,rfl,rfl,HB⟩,⟨aB (row_swp (m:=j) (n:=j-1) rfl rfl),HB⟩⟩
        ·rw[shD_a (by omega)]at j1;rw[←j1]at i2;refine X1 ((b-k:Nat):Int) (wI (by omega) (by omega) (by omega)) ?_;refine ae (λhb8=>?_) (λhb8=>?_)
         ·rw[if_pos (show b-k≥2 by omega)]at i2;refine X1 ((k+1:Nat):Int) (wI (by simp) (by omega) (by omega)) ?_;refine b8 aj aa (G:=Nat × Array El) (λ(j,e')=>shiftUp (lt cm) b j e'=shiftUp (lt cm) b (k+1) e∧e'.size=d.size∧k+1≤j∧j≤b) (λ(j,_)=>[(0,.c (.ow 1000000 SZ d.size)),(1,.c (nI .i64 a)),(2,.c (nI .i64 b)),(3,.c (.fn g [])),(9,.c (nI .i64 k)),(10,.c (nI .i64 s)),(12,.c (nI .i64 j))]) (λ(_,e')=>[(1000000,.row SZ (row e'))]) (λ(j,_)=>b-j)
           (k+1,e) ⟨rfl,j2,by omega,by omega⟩ ⟨rfl,rfl,rfl,rfl,rfl,rfl,rfl,HB⟩ ⟨rfl,HB⟩ (λ(q,e') hq=>?_)
          obtain ⟨q1,q2,q3,q4⟩:=hq;have fin:∀ e2:Array El,shiftUp (lt cm) b (k+1) e=e2→e2.size=d.size→s+1≤5∧partialIns (lt cm) a b (5-(s+1)) k e2=F∧e2.size=d.size∧a+1≤k∧k≤b:=λe2 g1 g2=>⟨by omega,by rw[←g1,show 5-(s+1)=4-s by omega]; exact i2,g2,by omega,by omega⟩
          refine ae (λhb9=>?_) (λhb9=>?_)
          ·refine .intro (by omega) (.intro (by omega) (X1 _ (row_get (n:=q) rfl (by omega)) ?_));refine X1 ((q-1:Nat):Int) (wI (by omega) (by omega) (by omega)) ?_;refine .intro (by omega) (.intro (by omega) (X1 _ (row_get (n:=q-1) rfl (by omega)) ?_));refine X1 _ (hc _ _) ?_;refine .intro rfl ?_;refine aP (λhba=>?_) (λhba=>?_)
           ·have hba':¬ cm e'[q]! e'[q-1]! < 0:=by simpa using hba
            rw[shU_b (by omega) hba']at q1;refine X1 ((s+1:Nat):Int) (wI (by simp) (by omega) (by omega)) ?_;exact ⟨(s+1,k,e'),fin e' q1.symm q2,by show 5-(s+1)<5-s; omega,⟨rfl,rfl,rfl,rfl,rfl,rfl,HB⟩,⟨rfl,HB⟩⟩
           ·have hba':cm e'[q]! e'[q-1]! < 0:=by simpa using hba
            rw[shU_c (by omega) hba']at q1;refine X1 ((q-1:Nat):Int) (wI (by omega) (by omega) (by omega)) ?_;refine X1 ((q-1:Nat):Int) (wI (by omega) (by omega) (by omega)) ?_;refine .intro (by omega) (.intro (by omega) (X1 _ (row_get (d:=e') (n:=q-1) rfl (by omega)) ?_));refine .intro (by omega) (.intro (by omega) (X1 _ (row_get (d:=e') (n:=q) rfl (by omega)) ?_));refine .intro (by omega) (.intro (by omega) (X1 _ (row_get (d:=e') (n:=q) rfl (by omega)) ?_));refine .intro (by omega) (.intro (by omega) (X1 _ (row_get2 (d:=e') (y:=e'[q-1]!) (m:=q) (n:=q-1) rfl rfl (by omega)) ?_));refine .intro rfl ?_;refine X1 ((q+1:Nat):Int) (wI (by simp) (by omega) (by omega)) ?_;exact ⟨(q+1,swp e' q (q-1)),⟨q1,by rw[swp_size]; exact q2,by omega,by omega⟩,by show b-(q+1)<b-q; omega,⟨rfl,rfl,rfl,rfl,rfl,rfl,rfl,HB⟩,⟨aB (row_swp (m:=q) (n:=q-1) rfl rfl),HB⟩⟩
          ·rw[shU_a (by omega)]at q1;refine X1 ((s+1:Nat):Int) (wI (by simp) (by omega) (by omega)) ?_;exact ⟨(s+1,k,e'),fin e' q1.symm q2,by show 5-(s+1)<5-s; omega,⟨rfl,rfl,rfl,rfl,rfl,rfl,HB⟩,⟨rfl,HB⟩⟩
         ·rw[if_neg (show ¬ b-k≥2 by omega)]at i2;refine X1 ((s+1:Nat):Int) (wI (by simp) (by omega) (by omega)) ?_;exact ⟨(s+1,k,e),⟨by omega,by rw[show 5-(s+1)=4-s by omega]; exact i2,j2,by omega,by omega⟩,by show 5-(s+1)<5-s; omega,⟨rfl,rfl,rfl,rfl,rfl,rfl,HB⟩,⟨rfl,HB⟩⟩
       ·rw[if_neg (show ¬ k-a≥2 by omega)]at i2;refine X1 ((b-k:Nat):Int) (wI (by omega) (by omega) (by omega)) ?_;refine ae (λhb8=>?_) (λhb8=>?_)
        ·rw[if_pos (show b-k≥2 by omega)]at i2;refine X1 ((k+1:Nat):Int) (wI (by simp) (by omega) (by omega)) ?_;refine b8 aj aa (G:=Nat × Array El) (λ(j,e')=>shiftUp (lt cm) b j e'=shiftUp (lt cm) b (k+1) e1∧e'.size=d.size∧k+1≤j∧j≤b) (λ(j,_)=>[(0,.c (.ow 1000000 SZ d.size)),(1,.c (nI .i64 a)),(2,.c (nI .i64 b)),(3,.c (.fn g [])),(9,.c (nI .i64 k)),(10,.c (nI .i64 s)),(12,.c (nI .i64 j))]) (λ(_,e')=>[(1000000,.row SZ (row e'))]) (λ(j,_)=>b-j)
          (k+1,e1) ⟨rfl,hsz,by omega,by omega⟩ ⟨rfl,rfl,rfl,rfl,rfl,rfl,rfl,HB⟩ ⟨aB hrow,HB⟩ (λ(q,e') hq=>?_)
         obtain ⟨q1,q2,q3,q4⟩:=hq;have fin:∀ e2:Array El,shiftUp (lt cm) b (k+1) e1=e2→e2.size=d.size→s+1≤5∧partialIns (lt cm) a b (5-(s+1)) k e2=F∧e2.size=d.size∧a+1≤k∧k≤b:=λe2 g1 g2=>⟨by omega,by rw[←g1,show 5-(s+1)=4-s by omega]; exact i2,g2,by omega,by omega⟩
         refine ae (λhb9=>?_) (λhb9=>?_)
         ·refine .intro (by omega) (.intro (by omega) (X1 _ (row_get (n:=q) rfl (by omega)) ?_));refine X1 ((q-1:Nat):Int) (wI (by omega) (by omega) (by omega)) ?_;refine .intro (by omega) (.intro (by omega) (X1 _ (row_get (n:=q-1) rfl (by omega)) ?_));refine X1 _ (hc _ _) ?_;refine .intro rfl ?_;refine aP (λhba=>?_) (λhba=>?_)
          ·have hba':¬ cm e'[q]! e'[q-1]! < 0:=by simpa using hba
           rw[shU_b (by omega) hba']at q1;refine X1 ((s+1:Nat):Int) (wI (by simp) (by omega) (by omega)) ?_;exact ⟨(s+1,k,e'),fin e' q1.symm q2,by show 5-(s+1)<5-s; omega,⟨rfl,rfl,rfl,rfl,rfl,rfl,HB⟩,⟨rfl,HB⟩⟩
          ·have hba':cm e'[q]! e'[q-1]! < 0:=by simpa using hba
           rw[shU_c (by omega) hba']at q1;refine X1 ((q-1:Nat):Int) (wI (by omega) (by omega) (by omega)) ?_;refine X1 ((q-1:Nat):Int) (wI (by omega) (by omega) (by omega)) ?_;refine .intro (by omega) (.intro (by omega) (X1 _ (row_get (d:=e') (n:=q-1) rfl (by omega)) ?_));refine .intro (by omega) (.intro (by omega) (X1 _ (row_get (d:=e') (n:=q) rfl (by omega)) ?_));refine .intro (by omega) (.intro (by omega) (X1 _ (row_get (d:=e') (n:=q) rfl (by omega)) ?_));refine .intro (by omega) (.intro (by omega) (X1 _ (row_get2 (d:=e') (y:=e'[q-1]!) (m:=q) (n:=q-1) rfl rfl (by omega)) ?_));refine .intro rfl ?_;refine X1 ((q+1:Nat):Int) (wI (by simp) (by omega) (by omega)) ?_;exact ⟨(q+1,swp e' q (q-1)),⟨q1,by rw[swp_size]; exact q2,by omega,by omega⟩,by show b-(q+1)<b-q; omega,⟨rfl,rfl,rfl,rfl,rfl,rfl,rfl,HB⟩,⟨aB (row_swp (m:=q) (n:=q-1) rfl rfl),HB⟩⟩
         ·rw[shU_a (by omega)]at q1;refine X1 ((s+1:Nat):Int) (wI (by simp) (by omega) (by omega)) ?_;exact ⟨(s+1,k,e'),fin e' q1.symm q2,by show 5-(s+1)<5-s; omega,⟨rfl,rfl,rfl,rfl,rfl,rfl,HB⟩,⟨rfl,HB⟩⟩
        ·rw[if_neg (show ¬ b-k≥2 by omega)]at i2;refine X1 ((s+1:Nat):Int) (wI (by simp) (by omega) (by omega)) ?_;exact ⟨(s+1,k,e1),⟨by omega,by rw[show 5-(s+1)=4-s by omega]; exact i2,hsz,by omega,by omega⟩,by show 5-(s+1)<5-s; omega,⟨rfl,rfl,rfl,rfl,rfl,rfl,HB⟩,⟨aB hrow,HB⟩⟩
   ·rw[show 5-s=0 by omega,partialIns]at i2;exact ⟨e0,i2.symm,HB,⟨rfl,HB⟩⟩
  ·rw[he];exact ⟨HB,SubO.of (l:=[(1000000,.row _ _)]) ⟨rfl,HB⟩,r1 rfl,HB⟩
 exact key _ rfl
end Go.Proofs.YtgceikecdedfcaaGreat.Pv.SrtC
namespace Go.Proofs.YtgceikecdedfcaaGreat.Pv.SrtC
open Go Go.Sort
section
variable {p:El→Bool} {e:Array El} {i j:Nat}
theorem sUp_a (h:¬ i≤j):scanUp p e j i=i:=by rw[scanUp,if_neg (by simp; omega)]
theorem sUp_b (h:p e[i]! = false):scanUp p e j i=i:=by rw[scanUp,if_neg (by simp[h])]
theorem sUp_c (h:i≤j) (h2:p e[i]! = true):scanUp p e j i=scanUp p e j (i+1):=by rw[scanUp,if_pos (by simp[h2]; omega)]
theorem sDn_a (h:¬ i≤j):scanDown p e i j=j:=by
 cases j with
 | zero=>rfl
 | succ j=>rw[scanDown,if_neg (by simp; omega)]
theorem sDn_b (h:p e[j]! = false):scanDown p e i j=j:=by
 cases j with
 | zero=>rfl
 | succ j=>rw[scanDown,if_neg (by simp[h])]
theorem sDn_c (h0:1≤j) (h:i≤j) (h2:p e[j]! = true):scanDown p e i j=scanDown p e i (j-1):=by
 cases j with
 | zero=>omega
 | succ j=>rw[scanDown,if_pos (by simp[h2]; omega)]; rfl
end
variable {cm:El→El→Int}
theorem pEqL {a i j i2 j2:Nat} {e:Array El} (hi2:scanUp (λx=>!lt cm e[a]! x) e j i=i2) (hj2:scanDown (λx=>lt cm e[a]! x) e i2 j=j2):partEqLoop (lt cm) a i j e=if i2>j2 then (i2,e) else if _h:(j2-1)+1-(i2+1)<j+1-i then partEqLoop (lt cm) a (i2+1) (j2-1) (swp e i2 j2) else (i2,e):=by
 subst hi2 hj2;rw[partEqLoop]
theorem pL {a i j i2 j2:Nat} {e:Array El} (hi2:scanUp (λx=>lt cm x e[a]!) e j i=i2) (hj2:scanDown (λx=>!lt cm x e[a]!) e i2 j=j2):partLoop (lt cm) a i j e=if i2>j2 then (j2,e) else if _h:(j2-1)+1-(i2+1)<j+1-i then partLoop (lt cm) a (i2+1) (j2-1) (swp e i2 j2) else (j2,e):=by
 subst hi2 hj2;rw[partLoop]
variable (g:FuncId) (cm)
variable (hc:∀ x y,Ct P g [VL x,VL y] [.c (eI .i64 (cm x y))])
include hc
theorem pEq_ct (d:Array El) (a b p:Nat) (hab:a<b) (hp:p<d.size) (hb:b≤d.size) (hd:d.size≤1000000) :
  CtO P 206 [dO d] [dA d,.c (nI .i64 a),.c (nI .i64 b),.c (nI .i64 p),.c (.fn g [])] [dO (partitionEqual (lt cm) d a b p).2] [.c (nI .i64 (partitionEqual (lt cm) d a b p).1)]:=by
 have key:∀ F:Nat × Array El,partEqLoop (lt cm) a (a+1) (b-1) (swp d a p)=F→CtO P 206 [dO d] [dA d,.c (nI .i64 a),.c (nI .i64 b),.c (nI .i64 p),.c (.fn g [])] [dO F.2] [.c (nI .i64 F.1)]:=by
  intro F hF;refine Ct.io aj aa (N:=90) Tryz.func206 rfl rfl rfl rfl ?_;refine .intro (by omega) (.intro (by omega) (X1 _ (row_get (d:=d) (n:=p) rfl (by omega)) ?_));refine .intro (by omega) (.intro (by omega) (X1 _ (row_get (d:=d) (n:=a) rfl (by omega)) ?_));refine .intro (by omega) (.intro (by omega) (X1 _ (row_get (d:=d) (n:=a) rfl (by omega)) ?_));refine .intro (by omega) (.intro (by omega) (X1 _ (row_get2 (d:=d) (y:=d[p]!) (m:=a) (n:=p) rfl rfl (by omega)) ?_));refine .intro rfl ?_;refine X1 ((a+1:Nat):Int) (wI (by simp) (by omega) (by omega)) ?_;refine X1 ((b-1:Nat):Int) (wI (by omega) (by omega) (by omega)) ?_;refine ax aj aa (G:=Nat × Nat × Array El) (λ(i,j,e)=>partEqLoop (lt cm) a i j e=F∧e.size=d.size∧1≤i∧j<d.size∧i≤j+2) (λ(i,j,_)=>[(0,.c (.ow 1000000 SZ d.size)),(1,.c (nI .i64 a)),(4,.c (.fn g [])),(11,.c (nI .i64 i)),(12,.c (nI .i64 j))]) (λ(_,_,e)=>[(1000000,.row SZ (row e))]) (λ(i,j,_)=>j+1-i)
   (a+1,b-1,swp d a p) ⟨hF,swp_size,by omega,by omega,by omega⟩ ⟨rfl,rfl,rfl,rfl,rfl,HB⟩ ⟨aB (row_swp (m:=a) (n:=p) rfl rfl),HB⟩ (G2:=Nat × Array El) (λ(i,e)=>F=(i,e)) (λ(i,_)=>[(11,.c (nI .i64 i))]) (λ(_,e)=>[(1000000,.row SZ (row e))]) (λ(i,j,e) hi=>?_) (λ(i,e) he=>?_)
  ·obtain ⟨i1,i2,i3,i4,i5⟩:=hi;refine ax aj aa (G:=Nat) (λq=>scanUp (λx=>!lt cm e[a]! x) e j q=scanUp (λx=>!lt cm e[a]! x) e j i∧i≤q∧(q≤j+1∨q=i)) (λq=>[(0,.c (.ow 1000000 SZ d.size)),(1,.c (nI .i64 a)),(4,.c (.fn g [])),(11,.c (nI .i64 q)),(12,.c (nI .i64 j))]) (λ_=>[(1000000,.row SZ (row e))]) (λq=>j+1-q)
    i ⟨rfl,by omega,by omega⟩ ⟨rfl,rfl,rfl,rfl,rfl,HB⟩ ⟨rfl,HB⟩ (G2:=Nat) (λq=>scanUp (λx=>!lt cm e[a]! x) e j i=q∧i≤q∧(q≤j+1∨q=i)) (λq=>[(0,.c (.ow 1000000 SZ d.size)),(1,.c (nI .i64 a)),(4,.c (.fn g [])),(11,.c (nI .i64 q)),(12,.c (nI .i64 j))]) (λ_=>[(1000000,.row SZ (row e))]) (λq hq=>?_) (λk hk=>?_)
   ·obtain ⟨q1,q2,q3⟩:=hq;refine ae (λh6=>?_) (λh6=>?_)
    ·refine .intro (by omega) (.intro (by omega) (X1 _ (row_get (d:=e) (n:=a) rfl (by omega)) ?_));refine .intro (by omega) (.intro (by omega) (X1 _ (row_get (d:=e) (n:=q) rfl (by omega)) ?_));refine X1 _ (hc _ _) ?_;refine .intro rfl ?_;refine aP (λh7=>?_) (λh7=>?_)
     ·have h7p:(!lt cm e[a]! e[q]!)=true:=h7;rw[sUp_c (p:=(λx=>!lt cm e[a]! x)) (e:=e) (i:=q) (by omega) h7p]at q1;refine X1 ((q+1:Nat):Int) (wI (by simp) (by omega) (by omega)) ?_;exact ⟨q+1,⟨q1,by omega,by omega⟩,by show j+1-(q+1)<j+1-q; omega,⟨rfl,rfl,rfl,rfl,rfl,HB⟩,⟨rfl,HB⟩⟩
     ·have h7p:(!lt cm e[a]! e[q]!)=false:=h7;rw[sUp_b (p:=(λx=>!lt cm e[a]! x)) (e:=e) (i:=q) h7p]at q1;exact ⟨q,⟨q1.symm,q2,q3⟩,⟨rfl,rfl,rfl,rfl,rfl,HB⟩,⟨rfl,HB⟩⟩
    ·refine .intro rfl ?_;rw[sUp_a (by omega)]at q1;exact ⟨q,⟨q1.symm,q2,q3⟩,⟨rfl,rfl,rfl,rfl,rfl,HB⟩,⟨rfl,HB⟩⟩
   ·obtain ⟨k1,k2,k3⟩:=hk;refine ax aj aa (G:=Nat) (λq=>scanDown (λx=>lt cm e[a]! x) e k q=scanDown (λx=>lt cm e[a]! x) e k j∧q≤j∧(k≤q+1∨q=j)) (λq=>[(0,.c (.ow 1000000 SZ d.size)),(1,.c (nI .i64 a)),(4,.c (.fn g [])),(11,.c (nI .i64 k)),(12,.c (nI .i64 q))]) (λ_=>[(1000000,.row SZ (row e))]) (λq=>q)
     j ⟨rfl,by omega,by omega⟩ ⟨rfl,rfl,rfl,rfl,rfl,HB⟩ ⟨rfl,HB⟩ (G2:=Nat) (λq=>scanDown (λx=>lt cm e[a]! x) e k j=q∧q≤j∧(k≤q+1∨q=j)) (λq=>[(0,.c (.ow 1000000 SZ d.size)),(1,.c (nI .i64 a)),(4,.c (.fn g [])),(11,.c (nI .i64 k)),(12,.c (nI .i64 q))]) (λ_=>[(1000000,.row SZ (row e))]) (λq hq=>?_) (λr hr=>?_)
    ·obtain ⟨q1,q2,q3⟩:=hq;refine ae (λh6=>?_) (λh6=>?_)
     ·refine .intro (by omega) (.intro (by omega) (X1 _ (row_get (d:=e) (n:=a) rfl (by omega)) ?_));refine .intro (by omega) (.intro (by omega) (X1 _ (row_get (d:=e) (n:=q) rfl (by omega)) ?_));refine X1 _ (hc _ _) ?_;refine .intro rfl ?_;refine aP (λh7=>?_) (λh7=>?_)
      ·have h7p:lt cm e[a]! e[q]! = true:=h7;rw[sDn_c (p:=(λx=>lt cm e[a]! x)) (e:=e) (j:=q) (by omega) (by omega) h7p]at q1;refine X1 ((q-1:Nat):Int) (wI (by omega) (by omega) (by omega)) ?_;exact ⟨q-1,⟨q1,by omega,by omega⟩,by show q-1<q; omega,⟨rfl,rfl,rfl,rfl,rfl,HB⟩,⟨rfl,HB⟩⟩
      ·have h7p:lt cm e[a]! e[q]! = false:=h7;rw[sDn_b (p:=(λx=>lt cm e[a]! x)) (e:=e) (j:=q) h7p]at q1;exact ⟨q,⟨q1.symm,q2,q3⟩,⟨rfl,rfl,rfl,rfl,rfl,HB⟩,⟨rfl,HB⟩⟩
     ·refine .intro rfl ?_;rw[sDn_a (by omega)]at q1;exact ⟨q,⟨q1.symm,q2,q3⟩,⟨rfl,rfl,rfl,rfl,rfl,HB⟩,⟨rfl,HB⟩⟩
    ·obtain ⟨r1',r2',r3'⟩:=hr;rw[pEqL k1 r1']at i1;refine ae (λh8=>?_) (λh8=>?_)
     ·rw[if_pos (by omega)]at i1;exact ⟨(k,e),i1.symm,⟨rfl,HB⟩,⟨rfl,HB⟩⟩
     ·rw[if_neg (by omega),dif_pos (by omega)]at i1;refine .intro (by omega) (.intro (by omega) (X1 _ (row_get (d:=e) (n:=r) rfl (by omega)) ?_));refine .intro (by omega) (.intro (by omega) (X1 _ (row_get (d:=e) (n:=k) rfl (by omega)) ?_));refine .intro (by omega) (.intro (by omega) (X1 _ (row_get (d:=e) (n:=k) rfl (by omega)) ?_));refine .intro (by omega) (.intro (by omega) (X1 _ (row_get2 (d:=e) (y:=e[r]!) (m:=k) (n:=r) rfl rfl (by omega)) ?_));refine .intro rfl ?_;refine X1 ((k+1:Nat):Int) (wI (by simp) (by omega) (by omega)) ?_;refine X1 ((r-1:Nat):Int) (wI (by omega) (by omega) (by omega)) ?_;exact ⟨(k+1,r-1,swp e k r),⟨i1,by rw[swp_size]; exact i2,by omega,by omega,by omega⟩,by show r-1+1-(k+1)<j+1-i; omega,⟨rfl,rfl,rfl,rfl,rfl,HB⟩,⟨aB (row_swp (m:=k) (n:=r) rfl rfl),HB⟩⟩
  ·rw[he];exact ⟨HB,SubO.of (l:=[(1000000,.row _ _)]) ⟨rfl,HB⟩,r1 rfl,HB⟩
 exact key _ rfl
theorem part_ct (d:Array El) (a b p:Nat) (hab:a<b) (hp:p<d.size) (hb:b≤d.size) (hd:d.size≤1000000) :
  CtO P 207 [dO d] [dA d,.c (nI .i64 a),.c (nI .i64 b),.c (nI .i64 p),.c (.fn g [])] [dO (partition (lt cm) d a b p).2.2] [.c (nI .i64 (partition (lt cm) d a b p).1),.c (.sc (.bool (partition (lt cm) d a b p).2.1))]:=by
 have key:∀ e0:Array El,swp d a p=e0→CtO P 207 [dO d] [dA d,.c (nI .i64 a),.c (nI .i64 b),.c (nI .i64 p),.c (.fn g [])] [dO (partition (lt cm) d a b p).2.2] [.c (nI .i64 (partition (lt cm) d a b p).1),.c (.sc (.bool (partition (lt cm) d a b p).2.1))]:=by
  intro e0 he0;have hpt:partition (lt cm) d a b p=(if scanUp (λx=>lt cm x e0[a]!) e0 (b-1) (a+1)>scanDown (λx=>!lt cm x e0[a]!) e0 (scanUp (λx=>lt cm x e0[a]!) e0 (b-1) (a+1)) (b-1) then (scanDown (λx=>!lt cm x e0[a]!) e0 (scanUp (λx=>lt cm x e0[a]!) e0 (b-1) (a+1)) (b-1),true,swp e0 (scanDown (λx=>!lt cm x e0[a]!) e0 (scanUp (λx=>lt cm x e0[a]!) e0 (b-1) (a+1)) (b-1)) a) else
    ((partLoop (lt cm) a (scanUp (λx=>lt cm x e0[a]!) e0 (b-1) (a+1)+1) (scanDown (λx=>!lt cm x e0[a]!) e0 (scanUp (λx=>lt cm x e0[a]!) e0 (b-1) (a+1)) (b-1)-1) (swp e0 (scanUp (λx=>lt cm x e0[a]!) e0 (b-1) (a+1)) (scanDown (λx=>!lt cm x e0[a]!) e0 (scanUp (λx=>lt cm x e0[a]!) e0 (b-1) (a+1)) (b-1)))).1,false,swp (partLoop (lt cm) a (scanUp (λx=>lt cm x e0[a]!) e0 (b-1) (a+1)+1) (scanDown (λx=>!lt cm x e0[a]!) e0 (scanUp (λx=>lt cm x e0[a]!) e0 (b-1) (a+1)) (b-1)-1) (swp e0 (scanUp (λx=>lt cm x e0[a]!) e0 (b-1) (a+1)) (scanDown (λx=>!lt cm x e0[a]!) e0 (scanUp (λx=>lt cm x e0[a]!) e0 (b-1) (a+1)) (b-1)))).2 (partLoop (lt cm) a (scanUp (λx=>lt cm x e0[a]!) e0 (b-1) (a+1)+1) (scanDown (λx=>!lt cm x e0[a]!) e0 (scanUp (λx=>lt cm x e0[a]!) e0 (b-1) (a+1)) (b-1)-1) (swp e0 (scanUp (λx=>lt cm x e0[a]!) e0 (b-1) (a+1)) (scanDown (λx=>!lt cm x e0[a]!) e0 (scanUp (λx=>lt cm x e0[a]!) e0 (b-1) (a+1)) (b-1)))).1 a)):=by
   rw[←he0]; rfl
  have hs0:e0.size=d.size:=by rw[←he0,swp_size]
  refine Ct.io aj aa (N:=178) Tryz.func207 rfl rfl rfl rfl ?_;refine .intro (by omega) (.intro (by omega) (X1 _ (row_get (d:=d) (n:=p) rfl (by omega)) ?_));refine .intro (by omega) (.intro (by omega) (X1 _ (row_get (d:=d) (n:=a) rfl (by omega)) ?_));refine .intro (by omega) (.intro (by omega) (X1 _ (row_get (d:=d) (n:=a) rfl (by omega)) ?_));refine .intro (by omega) (.intro (by omega) (X1 _ (row_get2 (d:=d) (y:=d[p]!) (m:=a) (n:=p) rfl rfl (by omega)) ?_));refine .intro rfl ?_;have hrow:=row_swp (d:=d) (i:=(a:Int)) (j:=(p:Int)) (m:=a) (n:=p) rfl rfl;rw[he0]at hrow;refine X1 ((a+1:Nat):Int) (wI (by simp) (by omega) (by omega)) ?_;refine X1 ((b-1:Nat):Int) (wI (by omega) (by omega) (by omega)) ?_;refine ax aj aa (G:=Nat) (λq=>scanUp (λx=>lt cm x e0[a]!) e0 (b-1) q=scanUp (λx=>lt cm x e0[a]!) e0 (b-1) (a+1)∧(a+1)≤q∧(q≤(b-1)+1∨q=(a+1))) (λq=>[(0,.c (.ow 1000000 SZ d.size)),(1,.c (nI .i64 a)),(4,.c (.fn g [])),(12,.c (nI .i64 q)),(13,.c (nI .i64 (b-1)))]) (λ_=>[(1000000,.row SZ (row e0))]) (λq=>(b-1)+1-q)
   (a+1) ⟨rfl,by omega,by omega⟩ ⟨rfl,rfl,rfl,rfl,rfl,HB⟩ ⟨aB hrow,HB⟩ (G2:=Nat) (λq=>scanUp (λx=>lt cm x e0[a]!) e0 (b-1) (a+1)=q∧(a+1)≤q∧(q≤(b-1)+1∨q=(a+1))) (λq=>[(0,.c (.ow 1000000 SZ d.size)),(1,.c (nI .i64 a)),(4,.c (.fn g [])),(12,.c (nI .i64 q)),(13,.c (nI .i64 (b-1)))]) (λ_=>[(1000000,.row SZ (row e0))]) (λq hq=>?_) (λk hk=>?_)
  ·obtain ⟨q1,q2,q3⟩:=hq;refine ae (λh6=>?_) (λh6=>?_)
   ·refine .intro (by omega) (.intro (by omega) (X1 _ (row_get (d:=e0) (n:=q) rfl (by omega)) ?_));refine .intro (by omega) (.intro (by omega) (X1 _ (row_get (d:=e0) (n:=a) rfl (by omega)) ?_));refine X1 _ (hc _ _) ?_;refine .intro rfl ?_;refine aP (λh7=>?_) (λh7=>?_)
    ·have h7p:lt cm e0[q]! e0[a]! = true:=h7;rw[sUp_c (p:=(λx=>lt cm x e0[a]!)) (e:=e0) (i:=q) (by omega) h7p]at q1;refine X1 ((q+1:Nat):Int) (wI (by simp) (by omega) (by omega)) ?_;exact ⟨q+1,⟨q1,by omega,by omega⟩,by show (b-1)+1-(q+1)<(b-1)+1-q; omega,⟨rfl,rfl,rfl,rfl,rfl,HB⟩,⟨rfl,HB⟩⟩
    ·have h7p:lt cm e0[q]! e0[a]! = false:=h7;rw[sUp_b (p:=(λx=>lt cm x e0[a]!)) (e:=e0) (i:=q) h7p]at q1;exact ⟨q,⟨q1.symm,q2,q3⟩,⟨rfl,rfl,rfl,rfl,rfl,HB⟩,⟨rfl,HB⟩⟩
   ·refine .intro rfl ?_;rw[sUp_a (by omega)]at q1;exact ⟨q,⟨q1.symm,q2,q3⟩,⟨rfl,rfl,rfl,rfl,rfl,HB⟩,⟨rfl,HB⟩⟩
  ·obtain ⟨k1,k2,k3⟩:=hk;refine ax aj aa (G:=Nat) (λq=>scanDown (λx=>!lt cm x e0[a]!) e0 k q=scanDown (λx=>!lt cm x e0[a]!) e0 k (b-1)∧q≤(b-1)∧(k≤q+1∨q=(b-1))) (λq=>[(0,.c (.ow 1000000 SZ d.size)),(1,.c (nI .i64 a)),(4,.c (.fn g [])),(12,.c (nI .i64 k)),(13,.c (nI .i64 q))]) (λ_=>[(1000000,.row SZ (row e0))]) (λq=>q)
    (b-1) ⟨rfl,by omega,by omega⟩ ⟨rfl,rfl,rfl,rfl,rfl,HB⟩ ⟨rfl,HB⟩ (G2:=Nat) (λq=>scanDown (λx=>!lt cm x e0[a]!) e0 k (b-1)=q∧q≤(b-1)∧(k≤q+1∨q=(b-1))) (λq=>[(0,.c (.ow 1000000 SZ d.size)),(1,.c (nI .i64 a)),(4,.c (.fn g [])),(12,.c (nI .i64 k)),(13,.c (nI .i64 q))]) (λ_=>[(1000000,.row SZ (row e0))]) (λq hq=>?_) (λr hr=>?_)
   ·obtain ⟨q1,q2,q3⟩:=hq;refine ae (λh6=>?_) (λh6=>?_)
    ·refine .intro (by omega) (.intro (by omega) (X1 _ (row_get (d:=e0) (n:=q) rfl (by omega)) ?_));refine .intro (by omega) (.intro (by omega) (X1 _ (row_get (d:=e0) (n:=a) rfl (by omega)) ?_));refine X1 _ (hc _ _) ?_;refine .intro rfl ?_;refine aP (λh7=>?_) (λh7=>?_)
     ·have h7p:(!lt cm e0[q]! e0[a]!)=true:=h7;rw[sDn_c (p:=(λx=>!lt cm x e0[a]!)) (e:=e0) (j:=q) (by omega) (by omega) h7p]at q1;refine X1 ((q-1:Nat):Int) (wI (by omega) (by omega) (by omega)) ?_;exact ⟨q-1,⟨q1,by omega,by omega⟩,by show q-1<q; omega,⟨rfl,rfl,rfl,rfl,rfl,HB⟩,⟨rfl,HB⟩⟩
     ·have h7p:(!lt cm e0[q]! e0[a]!)=false:=h7;rw[sDn_b (p:=(λx=>!lt cm x e0[a]!)) (e:=e0) (j:=q) h7p]at q1;exact ⟨q,⟨q1.symm,q2,q3⟩,⟨rfl,rfl,rfl,rfl,rfl,HB⟩,⟨rfl,HB⟩⟩
    ·refine .intro rfl ?_;rw[sDn_a (by omega)]at q1;exact ⟨q,⟨q1.symm,q2,q3⟩,⟨rfl,rfl,rfl,rfl,rfl,HB⟩,⟨rfl,HB⟩⟩
   ·obtain ⟨s1,s2,s3⟩:=hr;rw[k1,s1]at hpt;refine ae (λh8=>?_) (λh8=>?_)
    ·rw[if_pos (by omega)]at hpt;rw[hpt];refine .intro (by omega) (.intro (by omega) (X1 _ (row_get (d:=e0) (n:=a) rfl (by omega)) ?_));refine .intro (by omega) (.intro (by omega) (X1 _ (row_get (d:=e0) (n:=r) rfl (by omega)) ?_));refine .intro (by omega) (.intro (by omega) (X1 _ (row_get (d:=e0) (n:=r) rfl (by omega)) ?_));refine .intro (by omega) (.intro (by omega) (X1 _ (row_get2 (d:=e0) (y:=e0[a]!) (m:=r) (n:=a) rfl rfl (by omega)) ?_));refine .intro rfl ?_;exact ⟨HB,SubO.of (l:=[(1000000,.row _ _)]) ⟨aB (row_swp (m:=r) (n:=a) rfl rfl),HB⟩,r1 rfl,r1 rfl,HB⟩
    ·rw[if_neg (by omega)]at hpt;rw[hpt];refine .intro (by omega) (.intro (by omega) (X1 _ (row_get (d:=e0) (n:=r) rfl (by omega)) ?_));refine .intro (by omega) (.intro (by omega) (X1 _ (row_get (d:=e0) (n:=k) rfl (by omega)) ?_));refine .intro (by omega) (.intro (by omega) (X1 _ (row_get (d:=e0) (n:=k) rfl (by omega)) ?_));refine .intro (by omega) (.intro (by omega) (X1 _ (row_get2 (d:=e0) (y:=e0[r]!) (m:=k) (n:=r) rfl rfl (by omega)) ?_));refine .intro rfl ?_;have hrow2:=row_swp (d:=e0) (i:=(k:Int)) (j:=(r:Int)) (m:=k) (n:=r) rfl rfl;have hs1:(swp e0 k r).size=d.size:=by rw[swp_size]; exact hs0
     generalize swp e0 k r=e1 at *
     generalize hF:partLoop (lt cm) a (k+1) (r-1) e1=F at *
     refine X1 ((k+1:Nat):Int) (wI (by simp) (by omega) (by omega)) ?_;refine X1 ((r-1:Nat):Int) (wI (by omega) (by omega) (by omega)) ?_;refine ax aj aa (G:=Nat × Nat × Array El) (λ(i,j,e)=>partLoop (lt cm) a i j e=F∧e.size=d.size∧1≤i∧j<d.size∧i≤j+2) (λ(i,j,_)=>[(0,.c (.ow 1000000 SZ d.size)),(1,.c (nI .i64 a)),(4,.c (.fn g [])),(12,.c (nI .i64 i)),(13,.c (nI .i64 j))]) (λ(_,_,e)=>[(1000000,.row SZ (row e))]) (λ(i,j,_)=>j+1-i)
      (k+1,r-1,e1) ⟨hF,hs1,by omega,by omega,by omega⟩ ⟨rfl,rfl,rfl,rfl,rfl,HB⟩ ⟨aB hrow2,HB⟩ (G2:=Nat × Array El) (λ(j,e)=>F=(j,e)∧j<d.size∧e.size=d.size) (λ(j,_)=>[(0,.c (.ow 1000000 SZ d.size)),(1,.c (nI .i64 a)),(13,.c (nI .i64 j))]) (λ(_,e)=>[(1000000,.row SZ (row e))]) (λ(i,j,e) hi=>?_) (λ(j,e) he=>?_)
     ·obtain ⟨i1,i2,i3,i4,i5⟩:=hi;refine ax aj aa (G:=Nat) (λq=>scanUp (λx=>lt cm x e[a]!) e j q=scanUp (λx=>lt cm x e[a]!) e j i∧i≤q∧(q≤j+1∨q=i)) (λq=>[(0,.c (.ow 1000000 SZ d.size)),(1,.c (nI .i64 a)),(4,.c (.fn g [])),(12,.c (nI .i64 q)),(13,.c (nI .i64 j))]) (λ_=>[(1000000,.row SZ (row e))]) (λq=>j+1-q)
       i ⟨rfl,by omega,by omega⟩ ⟨rfl,rfl,rfl,rfl,rfl,HB⟩ ⟨rfl,HB⟩ (G2:=Nat) (λq=>scanUp (λx=>lt cm x e[a]!) e j i=q∧i≤q∧(q≤j+1∨q=i)) (λq=>[(0,.c (.ow 1000000 SZ d.size)),(1,.c (nI .i64 a)),(4,.c (.fn g [])),(12,.c (nI .i64 q)),(13,.c (nI .i64 j))]) (λ_=>[(1000000,.row SZ (row e))]) (λq hq=>?_) (λu hu=>?_)
      ·obtain ⟨q1,q2,q3⟩:=hq;refine ae (λh6=>?_) (λh6=>?_)
       ·refine .intro (by omega) (.intro (by omega) (X1 _ (row_get (d:=e) (n:=q) rfl (by omega)) ?_));refine .intro (by omega) (.intro (by omega) (X1 _ (row_get (d:=e) (n:=a) rfl (by omega)) ?_));refine X1 _ (hc _ _) ?_;refine .intro rfl ?_;refine aP (λh7=>?_) (λh7=>?_)
        ·have h7p:lt cm e[q]! e[a]! = true:=h7;rw[sUp_c (p:=(λx=>lt cm x e[a]!)) (e:=e) (i:=q) (by omega) h7p]at q1;refine X1 ((q+1:Nat):Int) (wI (by simp) (by omega) (by omega)) ?_;exact ⟨q+1,⟨q1,by omega,by omega⟩,by show j+1-(q+1)<j+1-q; omega,⟨rfl,rfl,rfl,rfl,rfl,HB⟩,⟨rfl,HB⟩⟩
        ·have h7p:lt cm e[q]! e[a]! = false:=h7;rw[sUp_b (p:=(λx=>lt cm x e[a]!)) (e:=e) (i:=q) h7p]at q1;exact ⟨q,⟨q1.symm,q2,q3⟩,⟨rfl,rfl,rfl,rfl,rfl,HB⟩,⟨rfl,HB⟩⟩
       ·refine .intro rfl ?_;rw[sUp_a (by omega)]at q1;exact ⟨q,⟨q1.symm,q2,q3⟩,⟨rfl,rfl,rfl,rfl,rfl,HB⟩,⟨rfl,HB⟩⟩
      ·obtain ⟨u1,u2,u3⟩:=hu;refine ax aj aa (G:=Nat) (λq=>scanDown (λx=>!lt cm x e[a]!) e u q=scanDown (λx=>!lt cm x e[a]!) e u j∧q≤j∧(u≤q+1∨q=j)) (λq=>[(0,.c (.ow 1000000 SZ d.size)),(1,.c (nI .i64 a)),(4,.c (.fn g [])),(12,.c (nI .i64 u)),(13,.c (nI .i64 q))]) (λ_=>[(1000000,.row SZ (row e))]) (λq=>q)
        j ⟨rfl,by omega,by omega⟩ ⟨rfl,rfl,rfl,rfl,rfl,HB⟩ ⟨rfl,HB⟩ (G2:=Nat) (λq=>scanDown (λx=>!lt cm x e[a]!) e u j=q∧q≤j∧(u≤q+1∨q=j)) (λq=>[(0,.c (.ow 1000000 SZ d.size)),(1,.c (nI .i64 a)),(4,.c (.fn g [])),(12,.c (nI .i64 u)),(13,.c (nI .i64 q))]) (λ_=>[(1000000,.row SZ (row e))]) (λq hq=>?_) (λv hv=>?_)
       ·obtain ⟨q1,q2,q3⟩:=hq;refine ae (λh6=>?_) (λh6=>?_)
        ·refine .intro (by omega) (.intro (by omega) (X1 _ (row_get (d:=e) (n:=q) rfl (by omega)) ?_));refine .intro (by omega) (.intro (by omega) (X1 _ (row_get (d:=e) (n:=a) rfl (by omega)) ?_));refine X1 _ (hc _ _) ?_;refine .intro rfl ?_;refine aP (λh7=>?_) (λh7=>?_)
         ·have h7p:(!lt cm e[q]! e[a]!)=true:=h7;rw[sDn_c (p:=(λx=>!lt cm x e[a]!)) (e:=e) (j:=q) (by omega) (by omega) h7p]at q1;refine X1 ((q-1:Nat):Int) (wI (by omega) (by omega) (by omega)) ?_;exact ⟨q-1,⟨q1,by omega,by omega⟩,by show q-1<q; omega,⟨rfl,rfl,rfl,rfl,rfl,HB⟩,⟨rfl,HB⟩⟩
         ·have h7p:(!lt cm e[q]! e[a]!)=false:=h7;rw[sDn_b (p:=(λx=>!lt cm x e[a]!)) (e:=e) (j:=q) h7p]at q1;exact ⟨q,⟨q1.symm,q2,q3⟩,⟨rfl,rfl,rfl,rfl,rfl,HB⟩,⟨rfl,HB⟩⟩
        ·refine .intro rfl ?_;rw[sDn_a (by omega)]at q1;exact ⟨q,⟨q1.symm,q2,q3⟩,⟨rfl,rfl,rfl,rfl,rfl,HB⟩,⟨rfl,HB⟩⟩
       ·obtain ⟨v1,v2,v3⟩:=hv;rw[pL u1 v1]at i1;refine ae (λh8=>?_) (λh8=>?_)
        ·rw[if_pos (by omega)]at i1;exact ⟨(v,e),⟨i1.symm,by omega,i2⟩,⟨rfl,rfl,rfl,HB⟩,⟨rfl,HB⟩⟩
        ·rw[if_neg (by omega),dif_pos (by omega)]at i1;refine .intro (by omega) (.intro (by omega) (X1 _ (row_get (d:=e) (n:=v) rfl (by omega)) ?_));refine .intro (by omega) (.intro (by omega) (X1 _ (row_get (d:=e) (n:=u) rfl (by omega)) ?_));refine .intro (by omega) (.intro (by omega) (X1 _ (row_get (d:=e) (n:=u) rfl (by omega)) ?_));refine .intro (by omega) (.intro (by omega) (X1 _ (row_get2 (d:=e) (y:=e[v]!) (m:=u) (n:=v) rfl rfl (by omega)) ?_));refine .intro rfl ?_;refine X1 ((u+1:Nat):Int) (wI (by simp) (by omega) (by omega)) ?_;refine X1 ((v-1:Nat):Int) (wI (by omega) (by omega) (by omega)) ?_;exact ⟨(u+1,v-1,swp e u v),⟨i1,by rw[swp_size]; exact i2,by omega,by omega,by omega⟩,by show v-1+1-(u+1)<j+1-i; omega,⟨rfl,rfl,rfl,rfl,rfl,HB⟩,⟨aB (row_swp (m:=u) (n:=v) rfl rfl),HB⟩⟩
     ·obtain ⟨g1,g2,g3⟩:=he;rw[g1];refine .intro (by omega) (.intro (by omega) (X1 _ (row_get (d:=e) (n:=a) rfl (by omega)) ?_));refine .intro (by omega) (.intro (by omega) (X1 _ (row_get (d:=e) (n:=j) rfl (by omega)) ?_));refine .intro (by omega) (.intro (by omega) (X1 _ (row_get (d:=e) (n:=j) rfl (by omega)) ?_));refine .intro (by omega) (.intro (by omega) (X1 _ (row_get2 (d:=e) (y:=e[a]!) (m:=j) (n:=a) rfl rfl (by omega)) ?_));refine .intro rfl ?_;exact ⟨HB,SubO.of (l:=[(1000000,.row _ _)]) ⟨aB (row_swp (m:=j) (n:=a) rfl rfl),HB⟩,r1 rfl,r1 rfl,HB⟩
 exact key _ rfl
end Go.Proofs.YtgceikecdedfcaaGreat.Pv.SrtC
namespace Go.Proofs.YtgceikecdedfcaaGreat.Pv.SrtC
open Go Go.Sort
section
variable {cm:El→El→Int} {a b lim:Nat} {wb wp:Bool} {d:Array El}
theorem pdq_s (h:b-a≤12):pdq (lt cm) d a b lim wb wp=insertionSort (lt cm) d a b:=by rw[pdq,if_pos h]
theorem pdq_h (h:¬ b-a≤12) (h0:lim=0):pdq (lt cm) d a b lim wb wp=heapSort (lt cm) d a b:=by rw[pdq,if_neg h,if_pos h0]
theorem pdq_r (h:¬ b-a≤12) (h0:¬ lim=0) {d1 d2 d3:Array El} {lim1 pv:Nat} {hint:Hint} {done:Bool} (hd1:(if (!wb)=true then breakPatterns d a b else d)=d1) (hl1:(if (!wb)=true then lim-1 else lim)=lim1) (hd2:(if (choosePivot (lt cm) d1 a b).2 = .decreasing then reverseRange d1 a b else d1)=d2)
  (hpv:(if (choosePivot (lt cm) d1 a b).2 = .decreasing then (b-1)-((choosePivot (lt cm) d1 a b).1-a) else (choosePivot (lt cm) d1 a b).1)=pv) (hh:(if (choosePivot (lt cm) d1 a b).2 = .decreasing then Hint.increasing else (choosePivot (lt cm) d1 a b).2)=hint)
  (hp:(if (wb&&wp&&decide (hint = .increasing))=true then partialInsertionSort (lt cm) d2 a b else (d2,false))=(d3,done)) :
  pdq (lt cm) d a b lim wb wp=if done=true then d3 else
   if (decide (a>0) && !(lt cm) d3[a-1]! d3[pv]!)=true then (match partitionEqual (lt cm) d3 a b pv with
    | (mid,d4)=>if _h:a<mid∧mid≤b then pdq (lt cm) d4 mid b lim1 wb wp else d4)
   else match partition (lt cm) d3 a b pv with
    | (mid,ap,d4)=>if _h:a≤mid∧mid<b then
      if mid-a<b-mid then pdq (lt cm) (pdq (lt cm) d4 a mid lim1 true true) (mid+1) b lim1 (decide (mid-a≥(b-a)/8)) ap
      else pdq (lt cm) (pdq (lt cm) d4 (mid+1) b lim1 true true) a mid lim1 (decide (b-mid≥(b-a)/8)) ap
     else d4:=by
 subst hd1 hl1 hd2 hpv hh;rw[pdq,if_neg h,if_neg h0];have e1:=congrArg Prod.fst hp;have e2:=congrArg Prod.snd hp;simp only[]at e1 e2;simp only[e1,e2]
end
theorem quo8 {x:Int} {n:Nat} (h:x=n):x.tdiv 8=((n/8:Nat):Int):=by
 subst h; rw[FB (by omega)]; omega
variable (g:FuncId) (cm:El→El→Int)
variable (hc:∀ x y,Ct P g [VL x,VL y] [.c (eI .i64 (cm x y))]) (hw:SWO (lt cm))
structure Prt (d:Array El) (n a b:Nat):Prop where
 sz:d.size=n
 ab:a≤b
 bn:b≤n
 bel:Below (lt cm) a b d
include hc hw
theorem pdq_ct:∀ (n:Nat) (d:Array El) (a b lim:Nat),b-a≤n→Prt cm d d.size a b→d.size≤1000000→lim≤1000 →
  CtO P 188 [dO d] [dA d,.c (nI .i64 a),.c (nI .i64 b),.c (nI .i64 lim),.c (.fn g [])] [dO (pdq (lt cm) d a b lim true true)] []:=by
 intro n
 induction n using Nat.strongRecOn with
 | _ n ih=>
 intro d0 a0 b0 lim0 hn hprt hsz hlim0;generalize hF:pdq (lt cm) d0 a0 b0 lim0 true true=F;have self:∀ (d:Array El) (a b lim:Nat),b-a<n→Prt cm d d0.size a b→lim≤1000→CtO P 188 [dO d] [.c (.ow 1000000 SZ d0.size),.c (nI .i64 a),.c (nI .i64 b),.c (nI .i64 lim),.c (.fn g [])] [dO (pdq (lt cm) d a b lim true true)] []:=by
  intro d a b lim h1 h2 h3;have:=ih (b-a) h1 d a b lim (Ew _) (by rw[h2.sz]; exact h2) (by rw[h2.sz]; exact hsz) h3;rwa [dA,h2.sz]at this
 refine Ct.io aj aa (N:=148) Tryz.func188 rfl rfl rfl rfl ?_;refine yL (G:=Nat × Nat × Nat × Bool × Bool × Array El) (λ(a,b,lim,wb,wp,d)=>pdq (lt cm) d a b lim wb wp=F∧Prt cm d d0.size a b∧lim≤1000∧b-a≤n) (λ(a,b,lim,wb,wp,_)=>[(0,.c (.ow 1000000 SZ d0.size)),(1,.c (nI .i64 a)),(2,.c (nI .i64 b)),(3,.c (nI .i64 lim)),(4,.c (.fn g [])),(10,.c (.sc (.bool wb))),(11,.c (.sc (.bool wp)))]) (λ(_,_,_,_,_,d)=>[(1000000,.row SZ (row d))]) (λ(a,b,_,_,_,_)=>b-a)
  (a0,b0,lim0,true,true,d0) ⟨hF,hprt,hlim0,hn⟩ ⟨rfl,rfl,rfl,rfl,rfl,rfl,rfl,HB⟩ ⟨rfl,HB⟩ (λ(a,b,lim,wb,wp,d) hi=>?_)
 obtain ⟨i1,i2,i3,i4⟩:=hi;have hds:=i2.sz;have hab:=i2.ab;have hbs:=i2.bn;refine nT ?_;refine dR aj aa ?_;refine X1 ((b-a:Nat):Int) (wI (by omega) (by omega) (by omega)) ?_;refine dR aj aa ?_;refine ae (λh12=>?_) (λh12=>?_)
 ·rw[pdq_s (by omega)]at i1;have hs:=ins_ct g cm hc d a b hab (by omega) (by omega);rw[dA,hds,i1]at hs;refine X2 (.upd 1000000) ?_;refine ⟨_,_,hs,?_⟩;exact ⟨HB,SubO.of (l:=[(1000000,.row _ _)]) ⟨rfl,HB⟩,HB⟩
 refine dR aj aa ?_;refine aT (λhl0=>?_) (λhl0=>?_)
 ·rw[pdq_h (by omega) (by omega)]at i1;have hs:=heap_ct g cm hc d a b (by omega) (by omega) (by omega);rw[dA,hds,i1]at hs;refine X2 (.upd 1000000) ?_;refine ⟨_,_,hs,?_⟩;exact ⟨HB,SubO.of (l:=[(1000000,.row _ _)]) ⟨rfl,HB⟩,HB⟩
 have hstep:=@pdq_r cm a b lim wb wp d (by omega) (by omega);refine kD aj aa (G2:=Nat × Array El) (λ(l1,d1)=>(if (!wb)=true then breakPatterns d a b else d)=d1∧(if (!wb)=true then lim-1 else lim)=l1∧Prt cm d1 d0.size a b∧l1≤1000)
  (λ(l1,_)=>[(0,.c (.ow 1000000 SZ d0.size)),(1,.c (nI .i64 a)),(2,.c (nI .i64 b)),(3,.c (nI .i64 l1)),(4,.c (.fn g [])),(10,.c (.sc (.bool wb))),(11,.c (.sc (.bool wp))),(12,.c (nI .i64 (b-a)))]) (λ(_,d1)=>[(1000000,.row SZ (row d1))]) ?_ (λ(l1,d1) h1=>?_)
 ·refine aP (λhb1=>?_) (λhb1=>?_)
  ·have hp:=breakPatterns_holds d a b hab (by omega);have hs:=break_ct g d a b (by omega) (by omega) (by omega);rw[dA,hds]at hs;refine X2 (.upd 1000000) ?_;refine ⟨_,_,hs,?_⟩;refine X1 ((lim-1:Nat):Int) (wI (by omega) (by omega) (by omega)) ?_;exact ⟨(lim-1,breakPatterns d a b),⟨if_pos hb1,if_pos hb1,⟨by rw[hp.1]; exact hds,hab,hbs,i2.bel.perm (by omega) hp⟩,by omega⟩,⟨rfl,rfl,rfl,rfl,rfl,rfl,rfl,rfl,HB⟩,⟨rfl,HB⟩⟩
  ·exact ⟨(lim,d),⟨if_neg (by rw[hb1]; simp),if_neg (by rw[hb1]; simp),i2,i3⟩,⟨rfl,rfl,rfl,rfl,rfl,rfl,rfl,rfl,HB⟩,⟨rfl,HB⟩⟩
 obtain ⟨e1,e2,p1,l1b⟩:=h1;have hd1s:=p1.sz;refine dR aj aa ?_;have hcp:=choosePivot_holds (lt cm) d1 a b (by omega);have hs:=choose_ct g cm hc d1 a b (by omega) (by omega) (by omega);rw[dA,hd1s]at hs;refine X2 (.upd 1000000) ?_;refine ⟨_,_,hs,?_⟩;have hstep2:=λ(d2 d3:Array El) (pv:Nat) (hint:Hint) (done:Bool)=>@hstep d1 d2 d3 l1 pv hint done e1 e2
 generalize choosePivot (lt cm) d1 a b=cp at *
 obtain ⟨pv0,hint0⟩:=cp;refine kD aj aa (G2:=Nat × Hint × Array El) (λ(pv,hint,d2)=>(if hint0 = .decreasing then reverseRange d1 a b else d1)=d2∧(if hint0 = .decreasing then (b-1)-(pv0-a) else pv0)=pv∧(if hint0 = .decreasing then Hint.increasing else hint0)=hint∧Prt cm d2 d0.size a b∧a≤pv∧pv<b)
  (λ(pv,hint,_)=>[(0,.c (.ow 1000000 SZ d0.size)),(1,.c (nI .i64 a)),(2,.c (nI .i64 b)),(3,.c (nI .i64 l1)),(4,.c (.fn g [])),(10,.c (.sc (.bool wb))),(11,.c (.sc (.bool wp))),(12,.c (nI .i64 (b-a))),(13,.c (nI .i64 pv)),(14,.c (eI .i64 (hV hint)))]) (λ(_,_,d2)=>[(1000000,.row SZ (row d2))]) ?_ (λ(pv,hint,d2) h2=>?_)
 ·refine aT (λhh=>?_) (λhh=>?_)
  ·have hdec:hint0 = .decreasing:=by cases hint0<;>first | rfl | (exfalso; simp only[hV]at hh; omega)
   have hp:=reverseRange_holds d1 a b hab (by omega);have hs:=reverse_ct g d1 a b (by omega) (by omega) (by omega);rw[dA,hd1s]at hs;refine X2 (.upd 1000000) ?_;refine ⟨_,_,hs,?_⟩;simp only at hcp;refine X1 ((b-1:Nat):Int) (wI (by omega) (by omega) (by omega)) ?_;refine X1 ((pv0-a:Nat):Int) (wI (by omega) (by omega) (by omega)) ?_;refine X1 ((b-1-(pv0-a):Nat):Int) (wI (by omega) (by omega) (by omega)) ?_;exact ⟨(b-1-(pv0-a),.increasing,reverseRange d1 a b),⟨if_pos hdec,if_pos hdec,if_pos hdec,⟨by rw[hp.1]; exact hd1s,hab,hbs,p1.bel.perm (by omega) hp⟩,by omega,by omega⟩,⟨rfl,rfl,rfl,rfl,rfl,rfl,rfl,rfl,rfl,rfl,HB⟩,⟨rfl,HB⟩⟩
  ·have hdec:¬ hint0 = .decreasing:=λh=>by subst h; exact hh rfl
   simp only at hcp;exact ⟨(pv0,hint0,d1),⟨if_neg hdec,if_neg hdec,if_neg hdec,p1,hcp.1,hcp.2⟩,⟨rfl,rfl,rfl,rfl,rfl,rfl,rfl,rfl,rfl,rfl,HB⟩,⟨rfl,HB⟩⟩
 obtain ⟨e3,e4,e5,p2,pva,pvb⟩:=h2;have hd2s:=p2.sz;have hstep3:=λ(d3:Array El) (done:Bool)=>hstep2 d2 d3 pv hint done e3 e4 e5
 refine kD aj aa (G2:=Array El) (λd3=>(if (wb&&wp&&decide (hint = .increasing))=true then partialInsertionSort (lt cm) d2 a b else (d2,false))=(d3,false)∧Prt cm d3 d0.size a b)
  (λ_=>[(0,.c (.ow 1000000 SZ d0.size)),(1,.c (nI .i64 a)),(2,.c (nI .i64 b)),(3,.c (nI .i64 l1)),(4,.c (.fn g [])),(10,.c (.sc (.bool wb))),(11,.c (.sc (.bool wp))),(12,.c (nI .i64 (b-a))),(13,.c (nI .i64 pv))]) (λd3=>[(1000000,.row SZ (row d3))]) ?_ (λd3 h3=>?_)
 ·have no:(wb&&wp&&decide (hint = .increasing))=false→∃ g2,((if (wb&&wp&&decide (hint = .increasing))=true then partialInsertionSort (lt cm) d2 a b else (d2,false))=(g2,false)∧Prt cm g2 d0.size a b)∧g2=d2:=λh=>⟨d2,⟨if_neg (by rw[h]; simp),p2⟩,rfl⟩
  refine aP (λhwb=>?_) (λhwb=>?_)
  ·subst hwb;refine aP (λhwp=>?_) (λhwp=>?_)
   ·subst hwp;refine aT (λhh=>?_) (λhh=>?_)
    ·have hinc:hint = .increasing:=by cases hint<;>first | rfl | (exfalso; simp only[hV]at hh; omega)
     have hp:=(partialInsertionSort_holds (lt:=lt cm) hw d2 a b (by omega) (by omega) p2.bel).1;have hs:=pIns_ct g cm hc d2 a b (by omega) (by omega) (by omega);have hcond:(true&&true&&decide (hint = .increasing))=true:=by rw[hinc]; rfl
     rw[if_pos hcond]at hstep3 ⊢;rw[dA,hd2s]at hs;refine X2 (.upd 1000000) ?_;refine ⟨_,_,hs,?_⟩;generalize hpi:partialInsertionSort (lt cm) d2 a b=pi at *
     obtain ⟨d3,done⟩:=pi;refine aP (λhdn=>?_) (λhdn=>?_)
     ·have hdn':done=true:=hdn;have:=hstep3 d3 done rfl;rw[if_pos hdn',i1]at this;rw[this];exact ⟨HB,SubO.of (l:=[(1000000,.row _ _)]) ⟨rfl,HB⟩,HB⟩
     ·have hdn':done=false:=hdn;subst hdn';exact ⟨d3,⟨rfl,⟨by rw[hp.1]; exact hd2s,hab,hbs,p2.bel.perm (by omega) hp⟩⟩,⟨rfl,rfl,rfl,rfl,rfl,rfl,rfl,rfl,rfl,HB⟩,⟨rfl,HB⟩⟩
    ·have hinc:¬ hint = .increasing:=λh=>by subst h; exact hh rfl
     obtain ⟨d3,h1,h2⟩:=no (by simp[hinc]);subst h2;exact ⟨d3,h1,⟨rfl,rfl,rfl,rfl,rfl,rfl,rfl,rfl,rfl,HB⟩,⟨rfl,HB⟩⟩
   ·subst hwp;obtain ⟨d3,h1,h2⟩:=no rfl;subst h2;exact ⟨d3,h1,⟨rfl,rfl,rfl,rfl,rfl,rfl,rfl,rfl,rfl,HB⟩,⟨rfl,HB⟩⟩
  ·subst hwb;obtain ⟨d3,h1,h2⟩:=no rfl;subst h2;exact ⟨d3,h1,⟨rfl,rfl,rfl,rfl,rfl,rfl,rfl,rfl,rfl,HB⟩,⟨rfl,HB⟩⟩
 obtain ⟨e6,p3⟩:=h3;have hd3s:=p3.sz;have hst:=hstep3 d3 false e6;rw[if_neg (by simp),i1]at hst;clear hstep3 hstep2 hstep e6;refine kD aj aa (G2:=Unit) (λ_=>(decide (a>0) && !(lt cm) d3[a-1]! d3[pv]!)=false)
  (λ_=>[(0,.c (.ow 1000000 SZ d0.size)),(1,.c (nI .i64 a)),(2,.c (nI .i64 b)),(3,.c (nI .i64 l1)),(4,.c (.fn g [])),(12,.c (nI .i64 (b-a))),(13,.c (nI .i64 pv))]) (λ_=>[(1000000,.row SZ (row d3))]) ?_ (λ_ h4=>?_)
 ·refine ae (λha=>?_) (λha=>?_)
  ·refine X1 ((a-1:Nat):Int) (wI (by omega) (by omega) (by omega)) ?_;refine .intro (by omega) (.intro (by omega) (X1 _ (row_get (d:=d3) (n:=a-1) rfl (by omega)) ?_));refine .intro (by omega) (.intro (by omega) (X1 _ (row_get (d:=d3) (n:=pv) rfl (by omega)) ?_));refine X1 _ (hc _ _) ?_;refine .intro rfl ?_;refine aP (λhq=>?_) (λhq=>?_)
   ·have hnl:lt cm d3[a-1]! d3[pv]! = false:=by simpa [lt] using hq
    rw[if_pos (by rw[hnl]; simp; omega)]at hst;have hs:=pEq_ct cm g hc d3 a b pv (by omega) (by omega) (by omega) (by omega);rw[dA,hd3s]at hs;generalize hx:partitionEqual (lt cm) d3 a b pv=px at *
    obtain ⟨mid,d4⟩:=px;obtain ⟨r1',r2',r3',r4',_⟩:=round_eq hw (partitionEqual_holds (lt cm)) (by omega) pva pvb (by omega) p3.bel hnl hx;refine X2 (.upd 1000000) ?_;refine ⟨_,_,hs,?_⟩;simp only at hst;rw[dif_pos ⟨r1',r2'⟩]at hst;exact ⟨(mid,b,l1,wb,wp,d4),⟨hst.symm,⟨by rw[r3']; exact hd3s,r2',hbs,r4'⟩,l1b,by omega⟩,by show b-mid<b-a; omega,⟨rfl,rfl,rfl,rfl,rfl,rfl,rfl,HB⟩,⟨rfl,HB⟩⟩
   ·have hnl:lt cm d3[a-1]! d3[pv]! = true:=by simpa [lt] using hq
    exact ⟨(),by rw[hnl]; simp,⟨rfl,rfl,rfl,rfl,rfl,rfl,rfl,HB⟩,⟨rfl,HB⟩⟩
  ·refine .intro rfl ?_;exact ⟨(),by rw[decide_eq_false (by omega)]; rfl,⟨rfl,rfl,rfl,rfl,rfl,rfl,rfl,HB⟩,⟨rfl,HB⟩⟩
 rw[if_neg (by rw[h4]; simp)]at hst;have hs:=part_ct cm g hc d3 a b pv (by omega) (by omega) (by omega) (by omega);rw[dA,hd3s]at hs;generalize hx:partition (lt cm) d3 a b pv=px at *
 obtain ⟨mid,ap,d4⟩:=px;obtain ⟨m1,m2,m3,m4,m5,m6,m7⟩:=round_part hw (partition_holds (lt cm)) pva pvb (by omega) p3.bel hx;simp only at hst;rw[dif_pos ⟨m1,m2⟩]at hst;have hd4s:d4.size=d0.size:=by rw[m3]; exact hd3s
 refine nH aj aa ?_;refine X2 (.upd 1000000) ?_;refine ⟨_,_,hs,?_⟩;refine X1 ((mid-a:Nat):Int) (wI (by omega) (by omega) (by omega)) ?_;refine X1 ((b-mid:Nat):Int) (wI (by omega) (by omega) (by omega)) ?_;refine .intro (by omega) (X1 _ (quo8 rfl) (.intro ⟨by omega,by omega⟩ ?_));refine ae (λhlt=>?_) (λhlt=>?_)
 ·rw[if_pos (by omega)]at hst;have hL:=pdq_sorts (lt cm) hw d4 a mid l1 true true m1 (by omega) m4;have hs:=self d4 a mid l1 (by omega) ⟨hd4s,m1,by omega,m4⟩ l1b;refine X2 (.upd 1000000) ?_;refine ⟨_,_,hs,?_⟩;refine X1 ((mid+1:Nat):Int) (wI (by simp) (by omega) (by omega)) ?_;exact ⟨(mid+1,b,l1,decide (mid-a≥(b-a)/8),ap,pdq (lt cm) d4 a mid l1 true true),⟨hst.symm,⟨by rw[hL.1.1]; exact hd4s,by omega,hbs,(m6 _ hL.1 hL.2).1⟩,l1b,by omega⟩,by show b-(mid+1)<b-a; omega,⟨rfl,rfl,rfl,rfl,rfl,blC (by rw[decide_eq_decide]; omega),rfl,HB⟩,⟨rfl,HB⟩⟩
 ·rw[if_neg (by omega)]at hst;have hL:=pdq_sorts (lt cm) hw d4 (mid+1) b l1 true true (by omega) (by omega) m5;have hs:=self d4 (mid+1) b l1 (by omega) ⟨hd4s,by omega,hbs,m5⟩ l1b;refine X1 ((mid+1:Nat):Int) (wI (by simp) (by omega) (by omega)) ?_;refine X2 (.upd 1000000) ?_;refine ⟨_,_,hs,?_⟩;exact ⟨(a,mid,l1,decide (b-mid≥(b-a)/8),ap,pdq (lt cm) d4 (mid+1) b l1 true true),⟨hst.symm,⟨by rw[hL.1.1]; exact hd4s,m1,by omega,(m7 _ hL.1 hL.2).1⟩,l1b,by omega⟩,by show mid-a<b-a; omega,⟨rfl,rfl,rfl,rfl,rfl,blC (by rw[decide_eq_decide]; omega),rfl,HB⟩,⟨rfl,HB⟩⟩
theorem sortF_ct (d:Array El) (hd:d.size≤1000000):CtO P 171 [dO d] [dA d,.c (.fn g [])] [dO (Sort.sort (lt cm) d)] []:=by
 have hb:=fF hd;have hp:=pdq_ct g cm hc hw d.size d 0 d.size (bitsLen d.size) (by omega) ⟨rfl,by omega,by omega,.inl rfl⟩ hd (by omega);refine Ct.io aj aa (N:=14) Tryz.func171 rfl rfl rfl rfl ?_;refine .intro (by omega) ?_;refine X1 ((d.size:Nat):Int) (wU rfl (by omega) (by omega)) ?_;refine X1 _ (tV d.size (by omega)) ?_;refine X2 (.upd 1000000) ?_;refine ⟨_,_,hp,?_⟩;exact ⟨HB,SubO.of (l:=[(1000000,.row _ _)]) ⟨rfl,HB⟩,HB⟩
theorem sort_spec (d:Array El):(Sort.sort (lt cm) d).toList.Perm d.toList∧SortedIn (lt cm) 0 d.size (Sort.sort (lt cm) d):=by
 have _hc:=hc;obtain ⟨h1,h2⟩:=sort_sorts (lt cm) hw d;refine ⟨?_,h2⟩;have:=h1.2.2;have e:(Sort.sort (lt cm) d).extract 0 d.size=Sort.sort (lt cm) d:=by
  rw[show d.size=(Sort.sort (lt cm) d).size from h1.1.symm]; simp
 rw[e]at this;simpa using this
end Go.Proofs.YtgceikecdedfcaaGreat.Pv.SrtC
namespace Go.Proofs.YtgceikecdedfcaaGreat.Pv
open Go
theorem se {l:List Int} {j:Nat} (h:j<l.length):l.getD (l.length-1-j) 0=l.reverse.getD j 0:=by
 rw[Ev,Ev,List.getElem?_reverse h]
theorem sf (l m:List Int) (hl:l.length≤1000000) (hm:m.length≤1000000):Ct P 169 [.c (iSl l),.c (iSl m)] [.c (eI .i64 (aG l.reverse m.reverse))]:=by
 have hmn:(if (m.length:Int)<(l.length:Int) then (m.length:Int) else (l.length:Int))=((min l.length m.length:Nat):Int):=by
  split<;>omega
 refine Ct.go aj aa (N:=39) Tryz.func169 rfl rfl rfl rfl ?_;refine ax aj aa (λj:Nat=>j≤l.length∧j≤m.length∧aG l.reverse m.reverse=aG (l.reverse.drop j) (m.reverse.drop j)) (λj=>[(0,.c (iSl l)),(1,.c (iSl m)),(5,.c (nI .i64 (j+1:Nat)))]) (λ_=>[]) (λj=>l.length-j)
  0 ⟨by omega,by omega,rfl⟩ ⟨rfl,rfl,rfl,HB⟩ HB (λ_:Unit=>aG l.reverse m.reverse=bC l.length m.length) (λ_=>[(0,.c (iSl l)),(1,.c (iSl m))]) (λ_=>[]) (λj hi=>?_) (λ_ he=>?_)
 ·obtain ⟨h1,h2,h3⟩:=hi;refine .intro (by rw[ac]; omega) ?_;refine .intro (by rw[ac]; omega) ?_;rw[ac,ac];refine ae (λh5=>?_) (λh5=>?_)
  ·rw[hmn]at h5;have g1:=se (l:=l) (j:=j) (by omega);have g2:=se (l:=m) (j:=j) (by omega);have hd:=h3;rw[fm (l:=l.reverse) (i:=j) (by rw[Gb]; omega),fm (l:=m.reverse) (i:=j) (by rw[Gb]; omega),aG,←g1,←g2]at hd;refine .intro (by rw[ac]; omega) ?_;rw[ac];refine X1 ((l.length-1-j:Nat):Int) (wI (by omega) (by omega) (by omega)) ?_;refine .intro (by omega) (X1 _ (bl rfl (by omega)) ?_);refine .intro (by rw[ac]; omega) ?_;rw[ac];refine X1 ((m.length-1-j:Nat):Int) (wI (by omega) (by omega) (by omega)) ?_;refine .intro (by omega) (X1 _ (bl rfl (by omega)) ?_);refine X1 _ (mF _ _) ?_;refine .intro rfl ?_;refine ez (λh7=>?_) (λh7=>?_)
   ·rw[if_pos h7]at hd;exact ⟨HB,r1 (iE hd.symm),HB⟩
   ·rw[if_neg (λh=>h h7)]at hd;refine X1 ((j+1+1:Nat):Int) (wI (by simp) (by omega) (by omega)) ?_;exact ⟨j+1,⟨by omega,by omega,hd⟩,by omega,⟨rfl,rfl,rfl,HB⟩,HB⟩
  ·rw[hmn]at h5;have he:=nL (l:=l.reverse) (m:=m.reverse) (i:=j) (by rw[Gb]; omega) (by rw[Gb]; omega) (by rw[Gb,Gb]; omega) h3;rw[Gb,Gb]at he;refine ⟨(),?_,⟨rfl,rfl,HB⟩,HB⟩;rw[he,bC];split<;>split<;>(try split)<;>omega
 ·rw[he];refine .intro (by rw[ac]; omega) ?_;refine .intro (by rw[ac]; omega) ?_;rw[ac,ac];refine X1 _ (mF _ _) ?_;exact ⟨HB,r1 rfl,HB⟩
end Go.Proofs.YtgceikecdedfcaaGreat.Pv
namespace Go.Proofs.YtgceikecdedfcaaGreat.Pv
open Go Go.Sort
theorem pm (x:Int):bC x x=0:=by unfold bC; rw[if_neg (by omega),if_neg (by omega)]
theorem tW {x y:Int} (h:bC x y=0):x=y:=by unfold bC at h; split at h<;>(try split at h)<;>omega
theorem cmpI_lt {x y:Int}:bC x y<0↔x<y:=by unfold bC; split<;>(try split)<;>omega
theorem yP (x y:Int):bC y x = - bC x y:=by unfold bC; split<;>split<;>omega
theorem dX:∀ l:List Int,aG l l=0
 | []=>rfl
 | x::l=>by rw[aG,pm,if_neg (by simp)]; exact dX l
theorem lA:∀ {l m:List Int},aG l m=0→l=m
 | [],[],_=>rfl
 | [],_::_,h=>by simp[aG]at h
 | _::_,[],h=>by simp[aG]at h
 | x::l,y::m,h=>by
  rw[aG]at h;split at h
  ·contradiction
  ·rename_i h0;have e:=tW (x:=x) (y:=y) (by simpa using h0);rw[e,lA h]
theorem eR:∀ l m:List Int,aG m l = - aG l m
 | [],[]=>rfl
 | [],_::_=>rfl
 | _::_,[]=>rfl
 | x::l,y::m=>by
  rw[aG,aG,yP x y,eR l m];by_cases h:bC x y=0
  ·rw[h]; simp
  ·rw[if_pos (by omega),if_pos h]
theorem dj:∀ {a b c:List Int},aG a b<0→aG b c<0→aG a c<0
 | [],[],_,h,_=>by simp[aG]at h
 | [],_::_,[],_,h=>by simp[aG]at h
 | [],_::_,_::_,_,_=>by simp[aG]
 | _::_,[],_,h,_=>by simp[aG]at h
 | _::_,_::_,[],_,h=>by simp[aG]at h
 | x::a,y::b,z::c,h1,h2=>by
  rw[aG]at h1 h2 ⊢;by_cases e1:bC x y=0
  ·have:=tW e1;subst this;rw[if_neg (by omega)]at h1;by_cases e2:bC x z=0
   ·rw[if_neg (by omega)]at h2 ⊢;exact dj h1 h2
   ·rw[if_pos e2]at h2 ⊢;exact h2
  ·rw[if_pos e1]at h1;by_cases e2:bC y z=0
   ·have:=tW e2;subst this;rw[if_pos e1];exact h1
   ·rw[if_pos e2]at h2;have h3:=cmpI_lt.1 h1;have h4:=cmpI_lt.1 h2;have h5:bC x z<0:=cmpI_lt.2 (by omega);rw[if_pos (by omega)];exact h5
theorem swo_of {α:Type} (f:α→List Int):SWO (λx y:α=>decide (aG (f x) (f y)<0)) where
 irrefl x:=by simp[dX]
 trans x y z h1 h2:=by
  simp only[decide_eq_true_eq]at h1 h2 ⊢;exact dj h1 h2
 ntrans x y z h1 h2:=by
  simp only[decide_eq_false_iff_not]at h1 h2 ⊢;intro h;by_cases e1:aG (f x) (f y)=0
  ·rw[lA e1]at h; exact h2 h
  ·have h3:aG (f y) (f x)<0:=by rw[eR (f x) (f y)]; omega
   exact h2 (dj h3 h)
theorem iX (l:List Int) (hl:l.length≤1000000):Ct P 46 [.c (iSl l)] [.c (iSl l)]:=by
 refine Ct.go aj aa (N:=8) Tryz.func46 rfl rfl rfl rfl ?_;intro b hb
 cases b with
 | true=>
  have:l=[]:=EZ.1 (by have:=hb rfl; rwa [ac]at this);subst this;exact ⟨HB,⟨_,rfl,.inr ⟨rfl,1,rfl⟩⟩,HB⟩
 | false=>
  refine ⟨rfl,by rw[ac]; show (0+l.length+768)*8≤_; omega,by rw[ac]; show 0+l.length≤_; omega,b9,bc,?_⟩;exact ⟨HB,r1 rfl,HB⟩
theorem kF (x y:SrtI.El):Ct P 168 [SrtI.VL x,SrtI.VL y] [.c (eI .i64 (aG x.1.reverse y.1.reverse))]:=by
 refine Ct.go aj aa (N:=8) Tryz.func168 rfl rfl rfl rfl ?_;refine X1 _ (sf x.1 y.1 x.2 y.2) ?_;exact ⟨HB,r1 rfl,HB⟩
theorem kG (x y:SrtC.El):Ct P 172 [SrtC.VL x,SrtC.VL y] [.c (eI .i64 (aG x.1.1 y.1.1))]:=by
 refine Ct.go aj aa (N:=10) Tryz.func172 rfl rfl rfl rfl ?_;refine X1 _ (fU x.1.1 y.1.1 x.2 y.2) ?_;exact ⟨HB,r1 rfl,HB⟩
def mw (o:List Cnt) (g:List Int):List Cnt:=match o.getLast? with
 | some x=>if x.1=g then o.dropLast++[(g,x.2+1)] else o++[(g,1)]
 | none=>[(g,1)]
def grp (s:List (List Int)):List Cnt:=s.foldl mw []
theorem kH (s:List (List Int)) (g:List Int):grp (s++[g])=mw (grp s) g:=by unfold grp; rw[GL]; rfl
theorem mI:∀ (n:Nat) (s:List (List Int)),s.length=n→(grp s).length≤n∧∀ x,x∈grp s→1≤x.2∧x.2≤n
 | 0,s,h=>by
  have:=EZ.1 h;subst this;exact ⟨by simp[grp],λx hx=>by simp[grp]at hx⟩
 | n+1,s,h=>by
  obtain ⟨s',g,rfl⟩:∃ s' g,s=s'++[g]:=⟨s.dropLast,s.getLast (by intro e; subst e; simp at h),(F5 _).symm⟩;obtain ⟨h1,h2⟩:=mI n s' (by simpa using h);rw[kH];unfold mw;split
  ·rename_i x hx;have hm:=List.mem_of_getLast? hx;have h3:=h2 x hm;split
   ·refine ⟨by simp; omega,λy hy=>?_⟩;rcases Fe.1 hy with hy | hy
    ·have:=h2 y (List.dropLast_sublist _ |>.subset hy); omega
    ·rw[Fk.1 hy]; simp only; omega
   ·refine ⟨by simp; omega,λy hy=>?_⟩;rcases Fe.1 hy with hy | hy
    ·have:=h2 y hy; omega
    ·rw[Fk.1 hy]; simp only; omega
  ·exact ⟨by simp,λy hy=>by rw[Fk.1 hy]; simp only; omega⟩
abbrev lB (s:List (List Int)):List (List PC):=s.map λg=>[iSl g]
def mkI (s:List (List Int)) (h:∀ g,g∈s→g.length≤1000000):Array SrtI.El:=(s.pmap (λg hg=>⟨g,hg⟩) h).toArray
def mkC (s:List Cnt) (h:∀ x,x∈s→x.1.length≤1000000):Array SrtC.El:=(s.pmap (λg hg=>⟨g,hg⟩) h).toArray
theorem sg {s:List (List Int)} {h:∀ g,g∈s→g.length≤1000000}:(mkI s h).size=s.length:=by simp[mkI]
theorem sh {s:List Cnt} {h:∀ x,x∈s→x.1.length≤1000000}:(mkC s h).size=s.length:=by simp[mkC]
theorem uR {s:List (List Int)} {h:∀ g,g∈s→g.length≤1000000}:(mkI s h).toList.map (·.1)=s:=by simp[mkI,List.map_pmap]
theorem uS {s:List Cnt} {h:∀ x,x∈s→x.1.length≤1000000}:(mkC s h).toList.map (·.1)=s:=by simp[mkC,List.map_pmap]
theorem DO (d:Array SrtI.El):SrtI.row d=lB (d.toList.map (·.1)):=by unfold SrtI.row lB; rw[List.map_map]; rfl
theorem Cj (d:Array SrtC.El):SrtC.row d=cj (d.toList.map (·.1)):=by simp[SrtC.row,cj]
abbrev cmE (x y:SrtI.El):Int:=aG x.1.reverse y.1.reverse
abbrev cmG (x y:SrtC.El):Int:=aG x.1.1 y.1.1
def ek (s:List (List Int)) (h:∀ g,g∈s→g.length≤1000000):List (List Int):=(Sort.sort (SrtI.lt cmE) (mkI s h)).toList.map (·.1)
def kI (s:List Cnt) (h:∀ x,x∈s→x.1.length≤1000000):List Cnt:=(Sort.sort (SrtC.lt cmG) (mkC s h)).toList.map (·.1)
theorem yQ (s:List (List Int)) (h:∀ g,g∈s→g.length≤1000000) (hl:s.length≤1000000):CtO P 167 [(1000000,some (.row 1 (lB s)))] [.c (.ow 1000000 1 s.length),.c (.fn 168 [])] [(1000000,some (.row 1 (lB (ek s h))))] []:=by
 have:=SrtI.sortF_ct 168 cmE kF (swo_of λx:SrtI.El=>x.1.reverse) (mkI s h) (by rw[sg]; exact hl);rw[SrtI.dO,SrtI.dO,SrtI.dA,DO,DO,uR,sg]at this;exact this
theorem yR (s:List Cnt) (h:∀ x,x∈s→x.1.length≤1000000) (hl:s.length≤1000000):CtO P 171 [(1000000,some (.row 2 (cj s)))] [.c (.ow 1000000 2 s.length),.c (.fn 172 [])] [(1000000,some (.row 2 (cj (kI s h))))] []:=by
 have:=SrtC.sortF_ct 172 cmG kG (swo_of λx:SrtC.El=>x.1.1) (mkC s h) (by rw[sh]; exact hl);rw[SrtC.dO,SrtC.dO,SrtC.dA,Cj,Cj,uS,sh]at this;exact this
theorem jJ (s:List (List Int)) (h:∀ g,g∈s→g.length≤1000000):(ek s h).Perm s:=by
 have:=(SrtI.sort_spec 168 cmE kF (swo_of λx:SrtI.El=>x.1.reverse) (mkI s h)).1.map (·.1);rwa [uR]at this
theorem tX (s:List Cnt) (h:∀ x,x∈s→x.1.length≤1000000):(kI s h).Perm s:=by
 have:=(SrtC.sort_spec 172 cmG kG (swo_of λx:SrtC.El=>x.1.1) (mkC s h)).1.map (·.1);rwa [uS]at this
theorem yS {s:List (List Int)} {i:Int} {n:Nat} (h0:i=n) (h:n<s.length):(lB s)[i.toNat]? = some [iSl s[n]]:=by
 subst h0;simp[lB,h]
abbrev fG:List PC:=[.sc (.slice none 0 0)]
theorem Be {s:List (List Int)} {g:List Int} {m:Nat} {i:Int} (hi:i=s.length) (hm:1≤m):(lB s++List.replicate m fG).set i.toNat [iSl g]=lB (s++[g])++List.replicate (m-1) fG:=by
 subst hi;obtain ⟨m,rfl⟩:∃ k,m=k+1:=⟨m-1,by omega⟩;rw[List.replicate_succ,List.set_append_right _ _ (by simp)];simp[lB]
theorem Bf {s:List (List Int)} {m:Nat} {i:Int} (hi:i=s.length) (hm:1≤m):(lB s++List.replicate m fG)[i.toNat]? = some fG:=by
 subst hi;obtain ⟨m,rfl⟩:∃ k,m=k+1:=⟨m-1,by omega⟩;rw[ED (by simp)];simp
abbrev bU (l:List Cnt):List (List Int):=l.map λx=>x.1.drop 1
theorem aX {l:List Cnt} (hl:CLim l):∀ g,g∈bU l→g.length≤1000000:=λg hg=>by
 obtain ⟨x,hx,rfl⟩:=Fb.1 hg;have:=hl.g x hx;rw[E8]; omega
theorem qm:∀ (n:Nat) (s:List (List Int)),s.length=n→∀ x,x∈grp s→x.1∈s
 | 0,s,h=>by
  have:=EZ.1 h;subst this;intro x hx; simp[grp]at hx
 | n+1,s,h=>by
  obtain ⟨s',g,rfl⟩:∃ s' g,s=s'++[g]:=⟨s.dropLast,s.getLast (by intro e; subst e; simp at h),(F5 _).symm⟩;have ih:=qm n s' (by simpa using h);rw[kH];intro y hy;unfold mw at hy;split at hy
  ·split at hy
   ·rcases Fe.1 hy with hy | hy
    ·exact FK _ (ih y (List.dropLast_sublist _ |>.subset hy))
    ·rw[Fk.1 hy]; simp
   ·rcases Fe.1 hy with hy | hy
    ·exact FK _ (ih y hy)
    ·rw[Fk.1 hy]; simp
  ·rw[Fk.1 hy]; simp
theorem fj {l:List Cnt} (hl:CLim l):∀ x,x∈grp (ek (bU l) (aX hl))→x.1.length≤1000000:=λx hx=>
 aX hl _ ((jJ _ _).subset (qm _ _ rfl x hx))
def si (l:List Cnt) (hl:CLim l):List Cnt:=kI (grp (ek (bU l) (aX hl))) (fj hl)
theorem yT (l:List Cnt) (hl:CLim l) (h1:∀ x,x∈l→1≤x.1.length):Ct P 128 [.c (cSl l)] [.c (cSl (si l hl))]:=by
 have hll:=hl.len;have hsI:=yQ (bU l) (aX hl) (by simp; exact hll);have hpI:=jJ (bU l) (aX hl);have hsC:=yR (grp (ek (bU l) (aX hl))) (fj hl) (EA (mI _ _ rfl).1 (by rw[hpI.length_eq]; simp; exact hll));have hE:si l hl=kI (grp (ek (bU l) (aX hl))) (fj hl):=rfl;rw[hE];have hgm:∀ g,g∈ek (bU l) (aX hl)→g.length≤1000000:=λg hg=>aX hl _ (hpI.subset hg)
 have hsl:(ek (bU l) (aX hl)).length=l.length:=by rw[hpI.length_eq]; simp
 generalize kI (grp (ek (bU l) (aX hl))) (fj hl)=E at *
 generalize ek (bU l) (aX hl)=s at *
 rw[Fl]at hsI;refine Ct.go aj aa (N:=71) Tryz.func128 rfl rfl rfl rfl ?_;refine .intro (by rw[cRow_len]; omega) ?_;rw[cRow_len];refine .intro (by omega) (.intro (by omega) (.intro (by omega) (.intro ?_ ?_)))
 ·exact .inr (by show (l.length:Int)*24≤_; omega)
 refine .intro (by rw[cRow_len]; omega) ?_;rw[cRow_len];refine ax aj aa (λi:Nat=>i≤l.length) (λi=>[(3,.c (.ow 12 1 l.length)),(13,.c (cSl l)),(14,.c (nI .i64 l.length)),(15,.c (nI .i64 i))]) (λi=>[(12,.row 1 (lB (bU (l.take i))++List.replicate (l.length-i) fG))]) (λi=>l.length-i)
  0 (by omega) ⟨by rw[EX]; rfl,rfl,rfl,rfl,HB⟩ ⟨by rw[EX]; rfl,HB⟩ (λ_:Unit=>True) (λ_=>[(3,.c (.ow 12 1 l.length))]) (λ_=>[(12,.row 1 (lB (bU l)))]) (λi hi=>?_) (λ_ _=>?_)
 ·refine ae (λh5=>?_) (λh5=>?_)
  ·have hi':i<l.length:=by omega
   have hxl:=hl.at' hi';have hx1:=h1 l[i] (EI hi');have hx:=bq (l:=l) (i:=(i:Int)) (n:=i) rfl hi';have hs:bU (l.take (i+1))=bU (l.take i)++[l[i].1.drop 1]:=by
    rw[EB hi']; unfold bU; rw[FG]; rfl
   have htl:(bU (l.take i)).length=i:=by simp; omega
   generalize l[i]=x at *
   refine .intro (by omega) (X1 _ hx ?_);refine ⟨1,x.1.length,by simp,by simp[ac],by omega,by rw[ac]; omega,?_⟩;rw[iRow_sub,E3 (show (x.1.drop 1).length≤x.1.length-1 by rw[E8]; exact Ew _)];refine .intro (by omega) (.intro (by omega) (X1 _ (Bf (by rw[htl]) (by omega)) ?_));refine X1 ((i+1:Nat):Int) (wI1 (by omega)) ?_;exact ⟨i+1,by omega,by omega,⟨rfl,rfl,rfl,rfl,HB⟩,⟨aB (by rw[hs,show l.length-(i+1)=l.length-i-1 by omega]; exact Be (by rw[htl]) (by omega)),HB⟩⟩
  ·have e:i=l.length:=by omega
   subst e;exact ⟨(),HB,⟨rfl,HB⟩,⟨aB (by rw[Fd]; simp),HB⟩⟩
 ·refine X2 (.upd 12) ?_;refine ⟨_,_,hsI,?_⟩;refine .intro (by omega) ?_;refine .intro (by omega) (.intro (by omega) (.intro (by omega) (.intro ?_ ?_)))
  ·exact .inr (by show (l.length:Int)*32≤_; omega)
  refine .intro (by omega) ?_;refine ax aj aa (λi:Nat=>i≤l.length) (λi=>[(6,.c (.ow 31 2 (grp (s.take i)).length)),(32,.c (.ow 12 1 l.length)),(33,.c (nI .i64 l.length)),(34,.c (nI .i64 i))]) (λi=>[(12,.row 1 (lB s)),(31,.row 2 (cj (grp (s.take i))))]) (λi=>l.length-i)
   0 (by omega) ⟨rfl,rfl,rfl,rfl,HB⟩ ⟨rfl,rfl,HB⟩ (λ_:Unit=>True) (λ_=>[(6,.c (.ow 31 2 (grp s).length))]) (λ_=>[(31,.row 2 (cj (grp s)))]) (λi hi=>?_) (λ_ _=>?_)
  ·refine ae (λh5=>?_) (λh5=>?_)
   ·have hi':i<s.length:=by omega
    have hgs:grp (s.take (i+1))=mw (grp (s.take i)) s[i]:=by rw[EB hi',kH]
    have hgl:=mI i (s.take i) (by rw[EJ]; omega);have hglm:=qm i (s.take i) (by rw[EJ]; omega);have hgl1:=hgm s[i] (EI hi');have hget:=yS (s:=s) (i:=(i:Int)) (n:=i) rfl hi';have hom:∀ x,x∈grp (s.take i)→x.1.length≤1000000:=λx hx=>hgm _ (FZ (hglm x hx))
    generalize s[i]=g at *
    generalize grp (s.take i)=o at *
    refine .intro (by omega) (.intro (by omega) (X1 _ hget ?_));refine .intro (by have:=hgl.1; omega) ?_;have ho:=hgl.1;have app:mw o g=o++[(g,1)]→(o.length=(cj o).length∧((cj o).length+1+768)*32≤17592186044416∧(cj o).length+1≤35184372088832):=λ_=>⟨cRow_len.symm,by rw[cRow_len]; omega,by rw[cRow_len]; omega⟩
    refine ae (λh6=>?_) (λh6=>?_)
    ·have hlast:o.getLast? = some (o[o.length-1]'(by omega)):=by rw[List.getLast?_eq_getElem?,ES (by omega)]
     have hxm:(o[o.length-1]'(by omega))∈o:=EI _;have hcg:=bq (l:=o) (i:=((o.length-1:Nat):Int)) (n:=o.length-1) rfl (by omega);have hset:∀ y:Cnt,(cj o).set ((o.length-1:Nat):Int).toNat [iSl y.1,eI .i64 y.2]=cj (o.dropLast++[y]):=λy=>by
      have e:∃ z,o=o.dropLast++[z]:=⟨o.getLast (by intro e; subst e; simp at h6),(F5 _).symm⟩;obtain ⟨z,hz⟩:=e;have hl':o.dropLast.length=o.length-1:=List.length_dropLast;have:((o.length-1:Nat):Int).toNat=(cj o.dropLast).length:=by rw[cRow_len,hl']; simp
      rw[this]
      conv=>lhs; rw[hz]
      rw[←eP,List.dropLast_concat,List.set_append_right _ _ (Ew _)];simp[cj]
     have hx2:=hgl.2 _ hxm;have hx1:=hom _ hxm;generalize (o[o.length-1]'(by omega))=x at *
     refine X1 ((o.length-1:Nat):Int) (wI (by omega) (by omega) (by omega)) ?_;refine .intro (by omega) (.intro (by omega) (X1 _ hcg ?_));refine X1 _ (rL x.1 g hx1 hgl1) ?_;refine ae (λh7=>?_) (λh7=>?_)
     ·have hst:mw o g=o.dropLast++[(g,x.2+1)]:=by
       unfold mw; rw[hlast]; exact if_pos h7
      refine X1 ((o.length-1:Nat):Int) (wI (by omega) (by omega) (by omega)) ?_;refine .intro (by omega) (.intro (by omega) (X1 _ hcg ?_));refine X1 (x.2+1) (wI rfl (by omega) (by omega)) ?_;refine .intro (by omega) (.intro (by omega) (X1 _ hcg ?_));refine X1 ((i+1:Nat):Int) (wI1 (by omega)) ?_;refine ⟨i+1,by omega,by omega,⟨owE ?_,rfl,rfl,rfl,HB⟩,⟨rfl,aB ?_,HB⟩⟩
      ·rw[hgs,hst]; simp; omega
      ·rw[hgs,hst,←h7]; exact hset (x.1,x.2+1)
     ·have hst:mw o g=o++[(g,1)]:=by
       unfold mw; rw[hlast]; exact if_neg h7
      obtain ⟨a1,a2,a3⟩:=app hst;refine X1 _ (iX g hgl1) ?_;refine ⟨a1,a2,a3,br,aw rfl,?_⟩;refine X1 ((i+1:Nat):Int) (wI1 (by omega)) ?_;exact ⟨i+1,by omega,by omega,⟨owE (by rw[hgs,hst,Ey,Ey,cRow_len]; rfl),rfl,rfl,rfl,HB⟩,⟨rfl,aB (by rw[hgs,hst,←eP]; rfl),HB⟩⟩
    ·have hnil:o=[]:=EZ.1 (by omega);have hst:mw o g=o++[(g,1)]:=by rw[hnil]; rfl
     obtain ⟨a1,a2,a3⟩:=app hst;refine X1 _ (iX g hgl1) ?_;refine ⟨a1,a2,a3,br,aw rfl,?_⟩;refine X1 ((i+1:Nat):Int) (wI1 (by omega)) ?_;exact ⟨i+1,by omega,by omega,⟨owE (by rw[hgs,hst,Ey,Ey,cRow_len]; rfl),rfl,rfl,rfl,HB⟩,⟨rfl,aB (by rw[hgs,hst,←eP]; rfl),HB⟩⟩
   ·have e:i=l.length:=by omega
    subst e;have:s.take l.length=s:=E3 (by omega);exact ⟨(),HB,⟨owE (by rw[this]),HB⟩,⟨aB (by rw[this]),HB⟩⟩
  ·refine X2 (.upd 31) ?_;refine ⟨_,_,hsC,?_⟩;exact ⟨HB,r1 rfl,HB⟩
abbrev dY (l:List Cnt):Prop:=l.Pairwise λx y=>aG x.1 y.1<0
theorem lC {n:Nat}:∀ {l:List Cnt} {p:Option (List Int)},cU n p l=0→(∀ x,x∈l→x.1.length=n+1∧1≤x.2)∧dY l∧∀ q,p=some q→∀ x,x∈l→aG q x.1<0
 | [],p,_=>⟨λx hx=>by simp at hx,.nil,λq _ x hx=>by simp at hx⟩
 | x::l,p,h=>by
  rw[iu]at h;by_cases h1:(x.1.length:Int)≠n+1
  ·rw[if_pos h1]at h; omega
  rw[if_neg h1]at h;by_cases h2:x.2<1
  ·rw[if_pos h2]at h; omega
  rw[if_neg h2]at h;have h3:∀ q,p=some q→¬ aG q x.1≥0:=λq hq hge=>by
   subst hq;rw[if_pos (decide_eq_true hge)]at h;omega
  rw[if_neg (by cases p with | none=>simp | some q=>simpa using h3 q rfl)]at h;obtain ⟨g1,g2,g3⟩:=lC h;have hp:∀ q,p=some q→aG q x.1<0:=λq hq=>by
   have:=h3 q hq; omega
  refine ⟨λy hy=>?_,List.Pairwise.cons (λy hy=>g3 x.1 rfl y hy) g2,λq hq y hy=>?_⟩
  ·rcases E9.1 hy with rfl | hy
   ·exact ⟨by omega,by omega⟩
   ·exact g1 y hy
  ·rcases E9.1 hy with rfl | hy
   ·exact hp q hq
   ·exact dj (hp q hq) (g3 x.1 rfl y hy)
structure CCOk (L:List (List Cnt)):Prop where
 len0:1≤L.length
 len8:L.length≤8
 form:∀ (n:Nat) (h:n<L.length) (x:Cnt),x∈L[n]→x.1.length=n+1∧1≤x.2
 rises:∀ (n:Nat) (h:n<L.length),dY L[n]
theorem nU:∀ (k:Nat) {n:Nat} {L:List (List Cnt)},L.length=n+k→cY n (L.drop n)=0→∀ (m:Nat) (h:m<L.length),n≤m→cU m none L[m]=0
 | 0,n,L,hk,_,m,hm,hn=>by omega
 | k+1,n,L,hk,h,m,hm,hn=>by
  have h0:cU n none (L[n]'(by omega))=0:=Classical.byContradiction λhne=>hne ((nN (by omega) rfl hne).symm.trans h)
  by_cases e:m=n
  ·subst e; exact h0
  ·exact nU k (n:=n+1) (by omega) ((ky (by omega) h0).symm.trans h) m hm (by omega)
theorem sj {L:List (List Cnt)} (h:fD L=0):CCOk L:=by
 unfold fD at h;split at h
 ·omega
 ·rename_i h1;have key:=nU L.length (n:=0) (L:=L) (by omega) h;exact ⟨by omega,by omega,λn hn x hx=>(lC (key n hn (by omega))).1 x hx,λn hn=>(lC (key n hn (by omega))).2.1⟩
theorem CCOk.ccform {L:List (List Cnt)} (h:CCOk L) (hl:CCLim L):CCForm L:=⟨hl,λn hn i hi=>(h.form n hn _ (EI hi)).1⟩
abbrev rlt (a b:List Int):Prop:=aG a.reverse b.reverse<0
theorem v4 {a b:List Int} (h:¬ rlt b a) (hne:a≠b):rlt a b:=by
 apply Classical.byContradiction;intro h2;have h3:=eR a.reverse b.reverse;have h4:aG a.reverse b.reverse=0:=by unfold rlt at h h2; omega
 exact hne (List.reverse_inj.1 (lA h4))
theorem mJ (a:List Int):¬ rlt a a:=by unfold rlt; rw[dX]; omega
structure Grp (s:List (List Int)) (o:List Cnt):Prop where
 up:o.Pairwise λx y=>rlt x.1 y.1
 cnt:∀ x,x∈o→x.1∈s∧x.2=(s.count x.1:Int)
 all:∀ g,g∈s→∃ x,x∈o∧x.1=g
theorem yU:∀ (n:Nat) (s:List (List Int)),s.length=n→s.Pairwise (λa b=>¬ rlt b a)→Grp s (grp s)
 | 0,s,h,_=>by
  have:=EZ.1 h;subst this;exact ⟨.nil,λx hx=>by simp[grp]at hx,λg hg=>by simp at hg⟩
 | n+1,s,h,hp=>by
  obtain ⟨s',g,rfl⟩:∃ s' g,s=s'++[g]:=⟨s.dropLast,s.getLast (by intro e; subst e; simp at h),(F5 _).symm⟩;rw[G6]at hp;obtain ⟨p1,_,p3⟩:=hp;have ih:=yU n s' (by simpa using h) p1;have hge:∀ a,a∈s'→¬ rlt g a:=λa ha=>p3 a ha g (by simp)
  rw[kH];generalize grp s'=o at *
  have cg:∀ y:List Int,(s'++[g]).count y=s'.count y+(if g=y then 1 else 0):=λy=>by
   rw[List.count_append,List.count_singleton];congr 1;by_cases e:g=y
   ·subst e; simp
   ·simp[e]
  have nong:∀ y,y∈o→y.1≠g→y.1∈s'++[g]∧y.2=((s'++[g]).count y.1:Int):=λy hy hne=>by
   have:=ih.cnt y hy;rw[cg,if_neg (λe=>hne e.symm)];exact ⟨FK _ this.1,by rw[this.2]; simp⟩
  unfold mw;split
  ·rename_i x hx;obtain ⟨o',rfl⟩:∃ o',o=o'++[x]:=by
    have hne:o≠[]:=λe=>by subst e; simp at hx
    refine ⟨o.dropLast,?_⟩;have e:o.getLast hne=x:=by
     have:=List.getLast?_eq_some_getLast hne;rw[this]at hx;simpa using hx
    rw[←e];exact (F5 hne).symm
   have hup:=G6.1 ih.up;have hxm:=ih.cnt x (by simp);split
   ·rename_i he;rw[List.dropLast_concat];refine ⟨G6.2 ⟨hup.1,List.pairwise_singleton _ _,λy hy z hz=>?_⟩,λy hy=>?_,λa ha=>?_⟩
    ·rw[Fk.1 hz];simp only;rw[←he];exact hup.2.2 y hy x (by simp)
    ·rcases Fe.1 hy with hy | hy
     ·refine nong y (FK _ hy) λe=>?_
      have:=hup.2.2 y hy x (by simp);rw[e,←he]at this;exact mJ _ this
     ·rw[Fk.1 hy];simp only;rw[cg,if_pos rfl,hxm.2,he];exact ⟨by simp,by simp⟩
    ·rcases Fe.1 ha with ha | ha
     ·obtain ⟨y,hy,hya⟩:=ih.all a ha;rcases Fe.1 hy with hy | hy
      ·exact ⟨y,FK _ hy,hya⟩
      ·rw[Fk.1 hy]at hya;exact ⟨(g,x.2+1),by simp,by rw[←hya,←he]⟩
     ·exact ⟨(g,x.2+1),by simp,(Fk.1 ha).symm⟩
   ·rename_i he;have hxg:rlt x.1 g:=v4 (hge _ hxm.1) he;have hall:∀ y,y∈o'++[x]→rlt y.1 g:=λy hy=>by
     rcases Fe.1 hy with hy | hy
     ·exact dj (hup.2.2 y hy x (by simp)) hxg
     ·rw[Fk.1 hy]; exact hxg
    refine ⟨G6.2 ⟨ih.up,List.pairwise_singleton _ _,λy hy z hz=>?_⟩,λy hy=>?_,λa ha=>?_⟩
    ·rw[Fk.1 hz]; exact hall y hy
    ·rcases Fe.1 hy with hy | hy
     ·refine nong y hy λe=>?_
      have:=hall y hy;rw[e]at this;exact mJ _ this
     ·rw[Fk.1 hy];simp only;have:s'.count g=0:=List.count_eq_zero.2 λhg=>by
       obtain ⟨y,hy,hyg⟩:=ih.all g hg;have:=hall y hy;rw[hyg]at this;exact mJ _ this
      rw[cg,if_pos rfl,this];exact ⟨by simp,by simp⟩
    ·rcases Fe.1 ha with ha | ha
     ·obtain ⟨y,hy,hya⟩:=ih.all a ha;exact ⟨y,FK _ hy,hya⟩
     ·exact ⟨(g,1),by simp,(Fk.1 ha).symm⟩
  ·rename_i hx;have:o=[]:=List.getLast?_eq_none_iff.1 hx;subst this;have hs:s'=[]:=by
    cases s' with
    | nil=>rfl
    | cons a l=>obtain ⟨y,hy,_⟩:=ih.all a (by simp); simp at hy
   subst hs;exact ⟨List.pairwise_singleton _ _,λy hy=>by rw[Fk.1 hy]; exact ⟨by simp,by simp⟩,λa ha=>⟨(g,1),by simp,by simp at ha; exact ha.symm⟩⟩
end Go.Proofs.YtgceikecdedfcaaGreat.Pv
