/- Parts of a proof, joined: Ej Sia Cd Ek Sib Sic. -/
import Derived.Test.YtgceikecdedfcaaGreatLpH
import Derived.Sort.AssemblyPlain
namespace Go.Proofs.YtgceikecdedfcaaGreat.Pv
open Go
def kU (g:List Int):List UInt8:=g.flatMap λv=>[UInt8.ofNat (v.toNat/65536),UInt8.ofNat (v.toNat/256),UInt8.ofNat v.toNat]
def qk (g:List Int):ByteArray:=⟨(kU g).toArray⟩
def bR (l:List UInt8):List (List PC):=l.map λb=>[.sc (.int .u8 (b.toNat:Int))]
theorem CQ (l:List UInt8):(bR l).length=l.length:=by simp[bR]
theorem tT:∀ (g:List Int),(kU g).length=3*g.length
 | []=>rfl
 | v::g=>by
  have:kU (v::g)=[UInt8.ofNat (v.toNat/65536),UInt8.ofNat (v.toNat/256),UInt8.ofNat v.toNat]++kU g:=rfl;rw[this,Ey,tT g];simp; omega
theorem Bc (g:List Int) (v:Int):kU (g++[v])=kU g++[UInt8.ofNat (v.toNat/65536),UInt8.ofNat (v.toNat/256),UInt8.ofNat v.toNat]:=by
 unfold kU; rw[List.flatMap_append]; simp
theorem pk (l:List UInt8):aA (bR l):=by
 intro el h;obtain ⟨x,_,rfl⟩:=Fb.1 h;rfl
def dy (g:List Int):Bool:=g.all λv=>decide (0≤v)&&decide (v<16777216)
theorem u8w (n:Nat):IntKind.u8.wrap (n:Int)=((UInt8.ofNat n).toNat:Int):=by
 simp[IntKind.wrap,IntKind.signed,IntKind.bits]
theorem DG {v:Int} (h:0≤v):v.fdiv (2^min (16:Int).toNat 64)=((v.toNat/65536:Nat):Int):=by
 rw[GJ _ (by decide)];show v/65536=_
 omega
theorem Ee {v:Int} (h:0≤v):v.fdiv (2^min (8:Int).toNat 64)=((v.toNat/256:Nat):Int):=by
 rw[GJ _ (by decide)];show v/256=_
 omega
theorem mH (g:List Int) (hg:g.length≤1000000):Ct P 182 [.c (iSl g)] [.c (.sc (.string (if dy g=true then qk g else .empty))),.c (eI .i64 (if dy g=true then 0 else 8))]:=by
 refine Ct.go aj aa (N:=37) Tryz.func182 rfl rfl rfl rfl ?_;refine .intro (by rw[ac]; omega) ?_;rw[ac];refine X1 ((3*g.length:Nat):Int) (wI (by simp) (by omega) (by omega)) ?_;refine .intro (by omega) (.intro (by omega) (.intro (by omega) (.intro (.inl (by decide)) ?_)));refine .intro (by rw[ac]; omega) ?_;rw[ac];refine ax aj aa (λi:Nat=>i≤g.length∧dy (g.take i)=true) (λi=>[(2,.c (.sc (.string .empty))),(3,.c (eI .i64 0)),(4,.c (.ow 10 1 (3*i))),(11,.c (iSl g)),(12,.c (nI .i64 g.length)),(13,.c (nI .i64 i))])
  (λi=>[(10,.row 1 (bR (kU (g.take i))))]) (λi=>g.length-i)
  0 ⟨by omega,rfl⟩ ⟨rfl,rfl,rfl,rfl,rfl,rfl,HB⟩ ⟨rfl,HB⟩ (λ_:Unit=>dy g=true) (λ_=>[(4,.c (.ow 10 1 (3*g.length)))]) (λ_=>[(10,.row 1 (bR (kU g)))]) (λi hi=>?_) (λ_ ho=>?_)
 ·obtain ⟨i1,i2⟩:=hi;refine ae (λh5=>?_) (λh5=>?_)
  ·have hi':i<g.length:=by omega
   have hs:g.take (i+1)=g.take i++[g[i]]:=EB hi';have hx:g.getD i 0=g[i]:=by simp[Ev,hi']
   have hmem:g[i]∈g:=EI hi';have hno:¬ (0≤g[i]∧g[i]<16777216)→¬ dy g=true:=λh hk=>by
    unfold dy at hk;rw[Fq]at hk;have:=hk _ hmem;simp only[Ex,decide_eq_true_eq]at this;exact h this
   refine .intro (by omega) (X1 _ (bl (n:=i) rfl hi') ?_);rw[hx];generalize g[i]=v at *
   refine ae (λh6=>?_) (λh6=>?_)
   ·have hn:=hno (by omega);rw[if_neg hn,if_neg hn];exact ⟨HB,r1 rfl,r1 rfl,HB⟩
   ·refine ae (λh7=>?_) (λh7=>?_)
    ·have hn:=hno (by omega);rw[if_neg hn,if_neg hn];exact ⟨HB,r1 rfl,r1 rfl,HB⟩
    ·refine .intro (by omega) (X1 _ (DG (by omega)) (.intro ⟨by omega,by omega⟩ ?_));refine X1 _ (u8w (v.toNat/65536)) ?_;refine .intro (by omega) (X1 _ (Ee (by omega)) (.intro ⟨by omega,by omega⟩ ?_));refine X1 _ (u8w (v.toNat/256)) ?_;have hv:v=((v.toNat:Nat):Int):=by omega
     refine X1 ((UInt8.ofNat v.toNat).toNat:Int) (by rw[hv]; exact u8w v.toNat) ?_;have hl:(bR (kU (g.take i))).length=3*i:=by rw[CQ,tT,EJ]; omega
     refine ⟨hl.symm,by rw[hl]; show (3*i+3+768)*1≤_; omega,by rw[hl]; show 3*i+3≤_; omega,pk _,pk [UInt8.ofNat (v.toNat/65536),UInt8.ofNat (v.toNat/256),UInt8.ofNat v.toNat],?_⟩;refine X1 ((i+1:Nat):Int) (wI1 (by omega)) ?_;refine ⟨i+1,⟨by omega,?_⟩,by omega,⟨rfl,rfl,owE ?_,rfl,rfl,rfl,HB⟩,⟨aB ?_,HB⟩⟩
     ·rw[hs];unfold dy at i2 ⊢;rw[List.all_append,i2];simp; omega
     ·rw[Ey,hl]; show 3*i+3=_; omega
     ·rw[hs,Bc]; unfold bR; rw[FG]; rfl
  ·have e:i=g.length:=by omega
   subst e;rw[Fd]at i2 ⊢;exact ⟨(),i2,⟨rfl,HB⟩,⟨rfl,HB⟩⟩
 ·rw[if_pos ho,if_pos ho];refine X1 (qk g) rfl (.intro ?_ ?_)
  ·show (kU g).toArray.size≤_
   simp[tT]; omega
  ·exact ⟨HB,r1 rfl,r1 rfl,HB⟩
end Go.Proofs.YtgceikecdedfcaaGreat.Pv
namespace Go.Proofs.YtgceikecdedfcaaGreat.Pv.SrtI
open Go Go.Sort
abbrev El:={l:List Int // l.length≤1000000}
instance:Inhabited El:=⟨⟨[],by simp⟩⟩
def SZ:Nat:=1
abbrev EN (x:El):List PC:=[iSl x.1]
abbrev VL (x:El):A1:=.c (iSl x.1)
variable (g:FuncId) (cm:El→El→Int)
abbrev lt (cm:El→El→Int) (x y:El):Bool:=decide (cm x y<0)
def row (d:Array El):List (List PC):=d.toList.map EN
theorem row_len {d:Array El}:(row d).length=d.size:=by simp[row]
theorem row_get {d:Array El} {i:Int} {n:Nat} (h0:i=n) (h:n<d.size):(row d)[i.toNat]? = some (EN d[n]!):=by
 subst h0;simp[row,h]
theorem row_set {d:Array El} {i:Int} {n:Nat} {y:El} (h0:i=n):(row d).set i.toNat (EN y)=row (d.setIfInBounds n y):=by
 subst h0;simp[row,List.map_set]
theorem row_closed {d:Array El}:aA (row d):=by
 intro el h;obtain ⟨x,_,rfl⟩:=Fb.1 h;rfl
theorem swp_size {d:Array El} {i j:Nat}:(swp d i j).size=d.size:=by simp[swp]
theorem row_swp {d:Array El} {i j:Int} {m n:Nat} (h1:i=m) (h2:j=n):((row d).set i.toNat (EN d[n]!)).set j.toNat (EN d[m]!)=row (swp d m n):=by
 rw[row_set h1,row_set h2]; rfl
abbrev dO (d:Array El):Nat × Option Ob:=(1000000,some (.row SZ (row d)))
abbrev dA (d:Array El):A1:=.c (.ow 1000000 SZ d.size)
abbrev sO (s:Nat):Nat × Option Ob:=(1000001,some (.var [nI .i64 s]))
theorem row_get2 {d:Array El} {i j:Int} {m n:Nat} {y:El} (h0:i=m) (h1:j=n) (h:n<d.size):((row d).set i.toNat (EN y))[j.toNat]? = some (EN (d.setIfInBounds m y)[n]!):=by
 rw[row_set h0]; exact row_get h1 (by simpa using h)
theorem order2_le (d:Array El) (a b s:Nat):(order2 (lt cm) d a b s).2.2≤s+1∧((order2 (lt cm) d a b s).1=a∧(order2 (lt cm) d a b s).2.1=b∨(order2 (lt cm) d a b s).1=b∧(order2 (lt cm) d a b s).2.1=a):=by
 unfold order2; split<;>simp
variable (hc:∀ x y,Ct P g [VL x,VL y] [.c (eI .i64 (cm x y))])
include hc
theorem order2_ct (d:Array El) (a b s:Nat) (ha:a<d.size) (hb:b<d.size) (hd:d.size≤1000000) (hs:s≤1000000) :
  CtO P 219 [dO d,sO s] [dA d,.c (nI .i64 a),.c (nI .i64 b),.c (.ad 1000001 0),.c (.fn g [])] [dO d,sO (order2 (lt cm) d a b s).2.2] [.c (nI .i64 (order2 (lt cm) d a b s).1),.c (nI .i64 (order2 (lt cm) d a b s).2.1)]:=by
 refine Ct.io aj aa (N:=32) Tryz.func219 rfl rfl rfl rfl ?_;refine .intro (by omega) (.intro (by omega) (X1 _ (row_get rfl hb) ?_));refine .intro (by omega) (.intro (by omega) (X1 _ (row_get rfl ha) ?_));refine X1 _ (hc _ _) ?_;refine .intro rfl ?_;refine ae (λh=>?_) (λh=>?_)
 ·have e:order2 (lt cm) d a b s=(b,a,s+1):=if_pos (decide_eq_true h);rw[e];refine X1 ((s+1:Nat):Int) (wI (by simp) (by omega) (by omega)) ?_;exact ⟨HB,SubO.of (l:=[(1000000,.row _ _),(1000001,.var _)]) ⟨rfl,rfl,HB⟩,r1 rfl,r1 rfl,HB⟩
 ·have e:order2 (lt cm) d a b s=(a,b,s):=if_neg (by simpa using h);rw[e];exact ⟨HB,SubO.of (l:=[(1000000,.row _ _),(1000001,.var _)]) ⟨rfl,rfl,HB⟩,r1 rfl,r1 rfl,HB⟩
theorem median_ct (d:Array El) (a b c s:Nat) (ha:a<d.size) (hb:b<d.size) (hcc:c<d.size) (hd:d.size≤1000000) (hs:s≤1000) :
  CtO P 215 [dO d,sO s] [dA d,.c (nI .i64 a),.c (nI .i64 b),.c (nI .i64 c),.c (.ad 1000001 0),.c (.fn g [])] [dO d,sO (median (lt cm) d a b c s).2] [.c (nI .i64 (median (lt cm) d a b c s).1)]:=by
 have l1:=order2_le (cm:=cm) d a b s;have e:median (lt cm) d a b c s=((order2 (lt cm) d (order2 (lt cm) d a b s).1 (order2 (lt cm) d (order2 (lt cm) d a b s).2.1 c (order2 (lt cm) d a b s).2.2).1 (order2 (lt cm) d (order2 (lt cm) d a b s).2.1 c (order2 (lt cm) d a b s).2.2).2.2).2.1,(order2 (lt cm) d (order2 (lt cm) d a b s).1 (order2 (lt cm) d (order2 (lt cm) d a b s).2.1 c (order2 (lt cm) d a b s).2.2).1 (order2 (lt cm) d (order2 (lt cm) d a b s).2.1 c (order2 (lt cm) d a b s).2.2).2.2).2.2):=rfl;rw[e];have c1:=order2_ct g cm hc d a b s ha hb hd (by omega);generalize order2 (lt cm) d a b s=p1 at *
 have l2:=order2_le (cm:=cm) d p1.2.1 c p1.2.2;have c2:=order2_ct g cm hc d p1.2.1 c p1.2.2 (by omega) hcc hd (by omega);generalize order2 (lt cm) d p1.2.1 c p1.2.2=p2 at *
 have l3:=order2_le (cm:=cm) d p1.1 p2.1 p2.2.2;have c3:=order2_ct g cm hc d p1.1 p2.1 p2.2.2 (by omega) (by omega) hd (by omega);generalize order2 (lt cm) d p1.1 p2.1 p2.2.2=p3 at *
 refine Ct.io aj aa (N:=41) Tryz.func215 rfl rfl rfl rfl ?_;refine X2 (.own [(1000000,1000000),(1000001,1000001)] [(1000000,1000000),(1000001,1000001)]) ?_;refine ⟨_,_,c1,?_⟩;refine X2 (.own [(1000000,1000000),(1000001,1000001)] [(1000000,1000000),(1000001,1000001)]) ?_;refine ⟨_,_,c2,?_⟩;refine X2 (.own [(1000000,1000000),(1000001,1000001)] [(1000000,1000000),(1000001,1000001)]) ?_;refine ⟨_,_,c3,?_⟩;exact ⟨HB,SubO.of (l:=[(1000000,.row _ _),(1000001,.var _)]) ⟨rfl,rfl,HB⟩,r1 rfl,HB⟩
theorem medAdj_ct (d:Array El) (a s:Nat) (ha:1≤a) (hb:a+1<d.size) (hd:d.size≤1000000) (hs:s≤1000) :
  CtO P 214 [dO d,sO s] [dA d,.c (nI .i64 a),.c (.ad 1000001 0),.c (.fn g [])] [dO d,sO (medianAdjacent (lt cm) d a s).2] [.c (nI .i64 (medianAdjacent (lt cm) d a s).1)]:=by
 have c1:=median_ct g cm hc d (a-1) a (a+1) s (by omega) (by omega) (by omega) hd hs;refine Ct.io aj aa (N:=18) Tryz.func214 rfl rfl rfl rfl ?_;refine X1 ((a-1:Nat):Int) (wI (by omega) (by omega) (by omega)) ?_;refine X1 ((a+1:Nat):Int) (wI (by simp) (by omega) (by omega)) ?_;refine X2 (.own [(1000000,1000000),(1000001,1000001)] [(1000000,1000000),(1000001,1000001)]) ?_;refine ⟨_,_,c1,?_⟩;exact ⟨HB,SubO.of (l:=[(1000000,.row _ _),(1000001,.var _)]) ⟨rfl,rfl,HB⟩,r1 rfl,HB⟩
omit hc
def hV:Hint→Int
 | .unknown=>0
 | .increasing=>1
 | .decreasing=>2
theorem median_le (d:Array El) (a b c s:Nat):(median (lt cm) d a b c s).2≤s+3∧((median (lt cm) d a b c s).1=a∨(median (lt cm) d a b c s).1=b∨(median (lt cm) d a b c s).1=c):=by
 have l1:=order2_le cm d a b s;unfold median;generalize order2 (lt cm) d a b s=p1 at *
 have l2:=order2_le cm d p1.2.1 c p1.2.2;simp only;generalize order2 (lt cm) d p1.2.1 c p1.2.2=p2 at *
 have l3:=order2_le cm d p1.1 p2.1 p2.2.2;generalize order2 (lt cm) d p1.1 p2.1 p2.2.2=p3 at *
 exact ⟨by omega,by omega⟩
theorem quo4 {x:Int} {n:Nat} (h:x=n):x.tdiv 4=((n/4:Nat):Int):=by
 subst h; rw[FB (by omega)]; omega
include hc
theorem choose_ct (d:Array El) (a b:Nat) (hab:a<b) (hb:b≤d.size) (hd:d.size≤1000000) :
  CtO P 194 [dO d] [dA d,.c (nI .i64 a),.c (nI .i64 b),.c (.fn g [])] [dO d] [.c (nI .i64 (choosePivot (lt cm) d a b).1),.c (eI .i64 (hV (choosePivot (lt cm) d a b).2))]:=by
 refine Ct.io aj aa (N:=63) Tryz.func194 rfl rfl rfl rfl ?_;refine X1 ((b-a:Nat):Int) (wI (by omega) (by omega) (by omega)) ?_;refine .intro (by omega) (X1 _ (quo4 rfl) (.intro ⟨by omega,by omega⟩ ?_));refine X1 (((b-a)/4*1:Nat):Int) (wI (by simp) (by omega) (by omega)) ?_;refine X1 ((a+(b-a)/4*1:Nat):Int) (wI (by simp) (by omega) (by omega)) ?_;refine .intro (by omega) (X1 _ (quo4 rfl) (.intro ⟨by omega,by omega⟩ ?_));refine X1 (((b-a)/4*2:Nat):Int) (wI (by simp) (by omega) (by omega)) ?_;refine X1 ((a+(b-a)/4*2:Nat):Int) (wI (by simp) (by omega) (by omega)) ?_;refine .intro (by omega) (X1 _ (quo4 rfl) (.intro ⟨by omega,by omega⟩ ?_));refine X1 (((b-a)/4*3:Nat):Int) (wI (by simp) (by omega) (by omega)) ?_;refine X1 ((a+(b-a)/4*3:Nat):Int) (wI (by simp) (by omega) (by omega)) ?_;refine ae (λh8=>?_) (λh8=>?_)
 ·refine ae (λh50=>?_) (λh50=>?_)
  ·have e:choosePivot (lt cm) d a b=((median (lt cm) d (medianAdjacent (lt cm) d (a+(b-a)/4*1) 0).1 (medianAdjacent (lt cm) d (a+(b-a)/4*2) (medianAdjacent (lt cm) d (a+(b-a)/4*1) 0).2).1 (medianAdjacent (lt cm) d (a+(b-a)/4*3) (medianAdjacent (lt cm) d (a+(b-a)/4*2) (medianAdjacent (lt cm) d (a+(b-a)/4*1) 0).2).2).1 (medianAdjacent (lt cm) d (a+(b-a)/4*3) (medianAdjacent (lt cm) d (a+(b-a)/4*2) (medianAdjacent (lt cm) d (a+(b-a)/4*1) 0).2).2).2).1,
     if (median (lt cm) d (medianAdjacent (lt cm) d (a+(b-a)/4*1) 0).1 (medianAdjacent (lt cm) d (a+(b-a)/4*2) (medianAdjacent (lt cm) d (a+(b-a)/4*1) 0).2).1 (medianAdjacent (lt cm) d (a+(b-a)/4*3) (medianAdjacent (lt cm) d (a+(b-a)/4*2) (medianAdjacent (lt cm) d (a+(b-a)/4*1) 0).2).2).1 (medianAdjacent (lt cm) d (a+(b-a)/4*3) (medianAdjacent (lt cm) d (a+(b-a)/4*2) (medianAdjacent (lt cm) d (a+(b-a)/4*1) 0).2).2).2).2=0 then .increasing else
     if (median (lt cm) d (medianAdjacent (lt cm) d (a+(b-a)/4*1) 0).1 (medianAdjacent (lt cm) d (a+(b-a)/4*2) (medianAdjacent (lt cm) d (a+(b-a)/4*1) 0).2).1 (medianAdjacent (lt cm) d (a+(b-a)/4*3) (medianAdjacent (lt cm) d (a+(b-a)/4*2) (medianAdjacent (lt cm) d (a+(b-a)/4*1) 0).2).2).1 (medianAdjacent (lt cm) d (a+(b-a)/4*3) (medianAdjacent (lt cm) d (a+(b-a)/4*2) (medianAdjacent (lt cm) d (a+(b-a)/4*1) 0).2).2).2).2=12 then .decreasing else .unknown):=by
    simp only[choosePivot,if_pos (show b-a≥8 by omega),if_pos (show b-a≥50 by omega)]
   rw[e];have m1:=median_le cm d (a+(b-a)/4*1-1) (a+(b-a)/4*1) (a+(b-a)/4*1+1) 0;change (medianAdjacent (lt cm) d (a+(b-a)/4*1) 0).2≤_∧_ at m1;have c1:=medAdj_ct g cm hc d (a+(b-a)/4*1) 0 (by omega) (by omega) hd (by omega);have m1':(medianAdjacent (lt cm) d (a+(b-a)/4*1) 0).1<d.size:=by
    show (median (lt cm) d _ _ _ _).1<_
    have:=m1.2; omega
   have m1'':=m1.1;generalize medianAdjacent (lt cm) d (a+(b-a)/4*1) 0=p1 at *
   have m2:=median_le cm d (a+(b-a)/4*2-1) (a+(b-a)/4*2) (a+(b-a)/4*2+1) p1.2;have c2:=medAdj_ct g cm hc d (a+(b-a)/4*2) p1.2 (by omega) (by omega) hd (by omega);have m2':(medianAdjacent (lt cm) d (a+(b-a)/4*2) p1.2).1<d.size:=by
    show (median (lt cm) d _ _ _ _).1<_
    have:=m2.2; omega
   have m2'':(medianAdjacent (lt cm) d (a+(b-a)/4*2) p1.2).2≤p1.2+3:=m2.1;generalize medianAdjacent (lt cm) d (a+(b-a)/4*2) p1.2=p2 at *
   have m3:=median_le cm d (a+(b-a)/4*3-1) (a+(b-a)/4*3) (a+(b-a)/4*3+1) p2.2;have c3:=medAdj_ct g cm hc d (a+(b-a)/4*3) p2.2 (by omega) (by omega) hd (by omega);have m3':(medianAdjacent (lt cm) d (a+(b-a)/4*3) p2.2).1<d.size:=by
    show (median (lt cm) d _ _ _ _).1<_
    have:=m3.2; omega
   have m3'':(medianAdjacent (lt cm) d (a+(b-a)/4*3) p2.2).2≤p2.2+3:=m3.1;generalize medianAdjacent (lt cm) d (a+(b-a)/4*3) p2.2=p3 at *
   have c4:=median_ct g cm hc d p1.1 p2.1 p3.1 p3.2 m1' m2' m3' hd (by omega);generalize median (lt cm) d p1.1 p2.1 p3.1 p3.2=p4 at *
   refine X2 (.own [(1000000,1000000),(11,1000001)] [(1000000,1000000),(1000001,11)]) ?_;refine ⟨_,_,c1,?_⟩;refine X2 (.own [(1000000,1000000),(11,1000001)] [(1000000,1000000),(1000001,11)]) ?_;refine ⟨_,_,c2,?_⟩;refine X2 (.own [(1000000,1000000),(11,1000001)] [(1000000,1000000),(1000001,11)]) ?_;refine ⟨_,_,c3,?_⟩;refine X2 (.own [(1000000,1000000),(11,1000001)] [(1000000,1000000),(1000001,11)]) ?_;refine ⟨_,_,c4,?_⟩;refine aT (λh0=>?_) (λh0=>?_)
   ·rw[if_pos (by omega)];exact ⟨HB,SubO.of (l:=[(1000000,.row _ _)]) ⟨rfl,HB⟩,r1 rfl,r1 rfl,HB⟩
   ·rw[if_neg (by omega)];refine aT (λh1=>?_) (λh1=>?_)
    ·rw[if_pos (by omega)];exact ⟨HB,SubO.of (l:=[(1000000,.row _ _)]) ⟨rfl,HB⟩,r1 rfl,r1 rfl,HB⟩
    ·rw[if_neg (by omega)];exact ⟨HB,SubO.of (l:=[(1000000,.row _ _)]) ⟨rfl,HB⟩,r1 rfl,r1 rfl,HB⟩
  ·have e:choosePivot (lt cm) d a b=((median (lt cm) d (a+(b-a)/4*1) (a+(b-a)/4*2) (a+(b-a)/4*3) 0).1,if (median (lt cm) d (a+(b-a)/4*1) (a+(b-a)/4*2) (a+(b-a)/4*3) 0).2=0 then .increasing else if (median (lt cm) d (a+(b-a)/4*1) (a+(b-a)/4*2) (a+(b-a)/4*3) 0).2=12 then .decreasing else .unknown):=by
    simp only[choosePivot,if_pos (show b-a≥8 by omega),if_neg (show ¬ (b-a≥50) by omega)]
   rw[e];have c1:=median_ct g cm hc d (a+(b-a)/4*1) (a+(b-a)/4*2) (a+(b-a)/4*3) 0 (by omega) (by omega) (by omega) hd (by omega);generalize median (lt cm) d (a+(b-a)/4*1) (a+(b-a)/4*2) (a+(b-a)/4*3) 0=p4 at *
   refine X2 (.own [(1000000,1000000),(11,1000001)] [(1000000,1000000),(1000001,11)]) ?_;refine ⟨_,_,c1,?_⟩;refine aT (λh0=>?_) (λh0=>?_)
   ·rw[if_pos (by omega)];exact ⟨HB,SubO.of (l:=[(1000000,.row _ _)]) ⟨rfl,HB⟩,r1 rfl,r1 rfl,HB⟩
   ·rw[if_neg (by omega)];refine aT (λh1=>?_) (λh1=>?_)
    ·rw[if_pos (by omega)];exact ⟨HB,SubO.of (l:=[(1000000,.row _ _)]) ⟨rfl,HB⟩,r1 rfl,r1 rfl,HB⟩
    ·rw[if_neg (by omega)];exact ⟨HB,SubO.of (l:=[(1000000,.row _ _)]) ⟨rfl,HB⟩,r1 rfl,r1 rfl,HB⟩
 ·have e:choosePivot (lt cm) d a b=(a+(b-a)/4*2,.increasing):=by
   simp only[choosePivot,if_neg (show ¬ (b-a≥8) by omega),if_true]
  rw[e];exact ⟨HB,SubO.of (l:=[(1000000,.row _ _)]) ⟨rfl,HB⟩,r1 rfl,r1 rfl,HB⟩
omit hc
theorem reverse_ct (d:Array El) (a b:Nat) (hab:a<b) (hb:b≤d.size) (hd:d.size≤1000000) :
  CtO P 195 [dO d] [dA d,.c (nI .i64 a),.c (nI .i64 b),.c (.fn g [])] [dO (reverseRange d a b)] []:=by
 refine Ct.io aj aa (N:=34) Tryz.func195 rfl rfl rfl rfl ?_;refine X1 ((b-1:Nat):Int) (wI (by omega) (by omega) (by omega)) ?_;refine b8 aj aa (G:=Nat × Nat × Array El) (λ(i,j,d')=>reverseLoop i j d'=reverseRange d a b∧d'.size=d.size∧j<d.size) (λ(i,j,_)=>[(0,.c (.ow 1000000 SZ d.size)),(8,.c (nI .i64 i)),(9,.c (nI .i64 j))]) (λ(_,_,d')=>[(1000000,.row SZ (row d'))]) (λ(i,j,_)=>j-i)
  (a,b-1,d) ⟨rfl,rfl,by omega⟩ ⟨rfl,rfl,rfl,HB⟩ ⟨rfl,HB⟩ (λ(i,j,d') hi=>?_)
 obtain ⟨i1,i2,i3⟩:=hi;refine ae (λh5=>?_) (λh5=>?_)
 ·rw[reverseLoop,if_pos (by omega)]at i1;refine .intro (by omega) (.intro (by omega) (X1 _ (row_get (n:=j) rfl (by omega)) ?_));refine .intro (by omega) (.intro (by omega) (X1 _ (row_get (n:=i) rfl (by omega)) ?_));refine .intro (by omega) (.intro (by omega) (X1 _ (row_get (n:=i) rfl (by omega)) ?_));refine .intro (by omega) (.intro (by omega) (X1 _ (row_get2 (y:=d'[j]!) (m:=i) (n:=j) rfl rfl (by omega)) ?_));refine .intro rfl ?_;refine X1 ((i+1:Nat):Int) (wI1 (by omega)) ?_;refine X1 ((j-1:Nat):Int) (wI (by omega) (by omega) (by omega)) ?_;exact ⟨(i+1,j-1,swp d' i j),⟨i1,by rw[swp_size]; exact i2,by omega⟩,by show j-1-(i+1)<j-i; omega,⟨rfl,rfl,rfl,HB⟩,⟨aB (row_swp (m:=i) (n:=j) rfl rfl),HB⟩⟩
 ·rw[reverseLoop,if_neg (by omega)]at i1;rw[←i1];exact ⟨HB,SubO.of (l:=[(1000000,.row _ _)]) ⟨rfl,HB⟩,HB⟩
end Go.Proofs.YtgceikecdedfcaaGreat.Pv.SrtI
namespace Go.Proofs.YtgceikecdedfcaaGreat.Pv
open Go
def blen (n:Nat):Nat:=(dg 2 n).length
theorem blen_zero:blen 0=0:=by rw[blen,bE]; rfl
theorem rZ {n:Nat} (h:n≠0):blen n=1+blen (n/2):=by rw[blen,gJ (by omega) h,E7,GS]; rfl
theorem cH:∀ (k:Nat) {n:Nat},2^k≤n→blen n=k+blen (n/2^k)
 | 0,n,_=>by simp
 | k+1,n,h=>by
  rw[Ff]at h;have hp:0<2^k:=Fo k;rw[rZ (by omega),cH k (n:=n/2) (by omega),GB,Ff,EQ 2];omega
theorem fh (n:Nat):n<2^blen n:=bA (by omega) n
theorem iV {n k:Nat} (h:n<2^k):blen n≤k:=cr (by omega) h
theorem ql {n:Nat} (h:n≠0):2^(blen n-1)≤n:=mE (by omega) h
def len8 (n:Nat):Nat:=if n<1 then 0 else if n<2 then 1 else if n<4 then 2 else if n<8 then 3 else if n<16 then 4 else if n<32 then 5 else if n<64 then 6 else if n<128 then 7 else 8
theorem fV (n:Nat):len8 n≤8:=by
 unfold len8
 repeat' split
 all_goals omega
theorem fi {n k:Nat} (h1:2^k≤n) (h2:n<2^(k+1)):blen n=k+1:=by
 have h3:=iV h2;have h4:=fh n;apply Hn h3;apply FD;intro hlt;have:2^blen n≤2^k:=EK (by omega) (by omega);omega
theorem dW {n:Nat} (h:n<256):len8 n=blen n:=by
 unfold len8;split
 ·have:n=0:=by omega
  subst this; exact blen_zero.symm
 ·split
  ·exact (fi (k:=0) (by omega) (by omega)).symm
  ·split
   ·exact (fi (k:=1) (by omega) (by omega)).symm
   ·split
    ·exact (fi (k:=2) (by omega) (by omega)).symm
    ·split
     ·exact (fi (k:=3) (by omega) (by omega)).symm
     ·split
      ·exact (fi (k:=4) (by omega) (by omega)).symm
      ·split
       ·exact (fi (k:=5) (by omega) (by omega)).symm
       ·split
        ·exact (fi (k:=6) (by omega) (by omega)).symm
        ·exact (fi (k:=7) (by omega) (by omega)).symm
def Ef (l:List UInt8):Bool:=l==(List.range 256).map λi=>UInt8.ofNat (len8 i)
theorem r9 {d:Array UInt8} (h:Ef d.toList=true) {x:Nat} (hx:x<256):d[((x:Nat):Int).toNat]? = some (UInt8.ofNat (len8 x)):=by
 have e:=eq_of_beq h;rw[EX,←Array.getElem?_toList,e];simp[hx]
theorem u8n {n:Nat} (h:n<256):((UInt8.ofNat n).toNat:Int)=n:=by
 rw[UInt8.toNat_ofNat_of_lt' (by simpa using h)]
theorem gb {x k:Nat} (h:k≤64):(x:Int).fdiv (2^min ((k:Nat):Int).toNat 64)=((x/2^k:Nat):Int):=by
 rw[EX,F1 h,GJ _ (Int.le_of_lt (Int.pow_pos (by omega)))];simp
set_option maxRecDepth 100000 in
theorem kC (v:Nat) (hv:v<18446744073709551616):Ct P 102 [.c (nI .u64 v)] [.c (nI .i64 (blen v))]:=by
 refine Ct.go aj aa (N:=25) Tryz.func102 rfl rfl rfl rfl ?_;refine ae (λh0=>?_) (λh0=>?_)
 ·obtain ⟨x1,e0⟩:∃ x1,x1=v/2^32:=⟨_,rfl⟩;have b0:blen v=32+blen x1:=by rw[e0]; exact cH _ (by omega)
  refine .intro (by omega) (X1 ((x1:Nat):Int) (by rw[e0]; exact gb (k:=32) (by decide)) (.intro ⟨by omega,by omega⟩ ?_));refine ae (λh1=>?_) (λh1=>?_)
  ·obtain ⟨x2,e1⟩:∃ x2,x2=x1/2^16:=⟨_,rfl⟩;have b1:blen x1=16+blen x2:=by rw[e1]; exact cH _ (by omega)
   refine .intro (by omega) (X1 ((x2:Nat):Int) (by rw[e1]; exact gb (k:=16) (by decide)) (.intro ⟨by omega,by omega⟩ ?_));refine X1 ((32+16:Nat):Int) (wI (by simp) (by omega) (by omega)) ?_;refine ae (λh2=>?_) (λh2=>?_)
   ·obtain ⟨x3,e2⟩:∃ x3,x3=x2/2^8:=⟨_,rfl⟩;have b2:blen x2=8+blen x3:=by rw[e2]; exact cH _ (by omega)
    refine .intro (by omega) (X1 ((x3:Nat):Int) (by rw[e2]; exact gb (k:=8) (by decide)) (.intro ⟨by omega,by omega⟩ ?_));refine X1 ((32+16+8:Nat):Int) (wI (by simp) (by omega) (by omega)) ?_;have hx8:x3<256:=by omega
    refine X1 ((x3:Nat):Int) (aY ⟨by omega,by omega⟩) ?_;refine .intro (by omega) (X1 (UInt8.ofNat (len8 x3)) (r9 (by rfl) hx8) ?_);have hb:=fV x3;refine X1 ((len8 x3:Nat):Int) (wI (by rw[u8n (by omega)]) (by omega) (by omega)) ?_;refine X1 (((32+16+8)+len8 x3:Nat):Int) (wI (by simp) (by omega) (by omega)) ?_;rw[dW hx8] at *
    exact ⟨HB,r1 (iE (by rw[show blen v=32+16+8+blen x3 by omega])),HB⟩
   ·skip
    have hx8:x2<256:=by omega
    refine X1 ((x2:Nat):Int) (aY ⟨by omega,by omega⟩) ?_;refine .intro (by omega) (X1 (UInt8.ofNat (len8 x2)) (r9 (by rfl) hx8) ?_);have hb:=fV x2;refine X1 ((len8 x2:Nat):Int) (wI (by rw[u8n (by omega)]) (by omega) (by omega)) ?_;refine X1 (((32+16)+len8 x2:Nat):Int) (wI (by simp) (by omega) (by omega)) ?_;rw[dW hx8] at *
    exact ⟨HB,r1 (iE (by rw[show blen v=32+16+blen x2 by omega])),HB⟩
  ·skip
   refine ae (λh2=>?_) (λh2=>?_)
   ·obtain ⟨x3,e2⟩:∃ x3,x3=x1/2^8:=⟨_,rfl⟩;have b2:blen x1=8+blen x3:=by rw[e2]; exact cH _ (by omega)
    refine .intro (by omega) (X1 ((x3:Nat):Int) (by rw[e2]; exact gb (k:=8) (by decide)) (.intro ⟨by omega,by omega⟩ ?_));refine X1 ((32+8:Nat):Int) (wI (by simp) (by omega) (by omega)) ?_;have hx8:x3<256:=by omega
    refine X1 ((x3:Nat):Int) (aY ⟨by omega,by omega⟩) ?_;refine .intro (by omega) (X1 (UInt8.ofNat (len8 x3)) (r9 (by rfl) hx8) ?_);have hb:=fV x3;refine X1 ((len8 x3:Nat):Int) (wI (by rw[u8n (by omega)]) (by omega) (by omega)) ?_;refine X1 (((32+8)+len8 x3:Nat):Int) (wI (by simp) (by omega) (by omega)) ?_;rw[dW hx8] at *
    exact ⟨HB,r1 (iE (by rw[show blen v=32+8+blen x3 by omega])),HB⟩
   ·skip
    have hx8:x1<256:=by omega
    refine X1 ((x1:Nat):Int) (aY ⟨by omega,by omega⟩) ?_;refine .intro (by omega) (X1 (UInt8.ofNat (len8 x1)) (r9 (by rfl) hx8) ?_);have hb:=fV x1;refine X1 ((len8 x1:Nat):Int) (wI (by rw[u8n (by omega)]) (by omega) (by omega)) ?_;refine X1 (((32)+len8 x1:Nat):Int) (wI (by simp) (by omega) (by omega)) ?_;rw[dW hx8] at *
    exact ⟨HB,r1 (iE (by rw[show blen v=32+blen x1 by omega])),HB⟩
 ·skip
  refine ae (λh1=>?_) (λh1=>?_)
  ·obtain ⟨x2,e1⟩:∃ x2,x2=v/2^16:=⟨_,rfl⟩;have b1:blen v=16+blen x2:=by rw[e1]; exact cH _ (by omega)
   refine .intro (by omega) (X1 ((x2:Nat):Int) (by rw[e1]; exact gb (k:=16) (by decide)) (.intro ⟨by omega,by omega⟩ ?_));refine X1 ((0+16:Nat):Int) (wI (by simp) (by omega) (by omega)) ?_;refine ae (λh2=>?_) (λh2=>?_)
   ·obtain ⟨x3,e2⟩:∃ x3,x3=x2/2^8:=⟨_,rfl⟩;have b2:blen x2=8+blen x3:=by rw[e2]; exact cH _ (by omega)
    refine .intro (by omega) (X1 ((x3:Nat):Int) (by rw[e2]; exact gb (k:=8) (by decide)) (.intro ⟨by omega,by omega⟩ ?_));refine X1 ((0+16+8:Nat):Int) (wI (by simp) (by omega) (by omega)) ?_;have hx8:x3<256:=by omega
    refine X1 ((x3:Nat):Int) (aY ⟨by omega,by omega⟩) ?_;refine .intro (by omega) (X1 (UInt8.ofNat (len8 x3)) (r9 (by rfl) hx8) ?_);have hb:=fV x3;refine X1 ((len8 x3:Nat):Int) (wI (by rw[u8n (by omega)]) (by omega) (by omega)) ?_;refine X1 (((0+16+8)+len8 x3:Nat):Int) (wI (by simp) (by omega) (by omega)) ?_;rw[dW hx8] at *
    exact ⟨HB,r1 (iE (by rw[show blen v=0+16+8+blen x3 by omega])),HB⟩
   ·skip
    have hx8:x2<256:=by omega
    refine X1 ((x2:Nat):Int) (aY ⟨by omega,by omega⟩) ?_;refine .intro (by omega) (X1 (UInt8.ofNat (len8 x2)) (r9 (by rfl) hx8) ?_);have hb:=fV x2;refine X1 ((len8 x2:Nat):Int) (wI (by rw[u8n (by omega)]) (by omega) (by omega)) ?_;refine X1 (((0+16)+len8 x2:Nat):Int) (wI (by simp) (by omega) (by omega)) ?_;rw[dW hx8] at *
    exact ⟨HB,r1 (iE (by rw[show blen v=0+16+blen x2 by omega])),HB⟩
  ·skip
   refine ae (λh2=>?_) (λh2=>?_)
   ·obtain ⟨x3,e2⟩:∃ x3,x3=v/2^8:=⟨_,rfl⟩;have b2:blen v=8+blen x3:=by rw[e2]; exact cH _ (by omega)
    refine .intro (by omega) (X1 ((x3:Nat):Int) (by rw[e2]; exact gb (k:=8) (by decide)) (.intro ⟨by omega,by omega⟩ ?_));refine X1 ((0+8:Nat):Int) (wI (by simp) (by omega) (by omega)) ?_;have hx8:x3<256:=by omega
    refine X1 ((x3:Nat):Int) (aY ⟨by omega,by omega⟩) ?_;refine .intro (by omega) (X1 (UInt8.ofNat (len8 x3)) (r9 (by rfl) hx8) ?_);have hb:=fV x3;refine X1 ((len8 x3:Nat):Int) (wI (by rw[u8n (by omega)]) (by omega) (by omega)) ?_;refine X1 (((0+8)+len8 x3:Nat):Int) (wI (by simp) (by omega) (by omega)) ?_;rw[dW hx8] at *
    exact ⟨HB,r1 (iE (by rw[show blen v=0+8+blen x3 by omega])),HB⟩
   ·skip
    have hx8:v<256:=by omega
    refine X1 ((v:Nat):Int) (aY ⟨by omega,by omega⟩) ?_;refine .intro (by omega) (X1 (UInt8.ofNat (len8 v)) (r9 (by rfl) hx8) ?_);have hb:=fV v;refine X1 ((len8 v:Nat):Int) (wI (by rw[u8n (by omega)]) (by omega) (by omega)) ?_;refine X1 (((0)+len8 v:Nat):Int) (wI (by simp) (by omega) (by omega)) ?_;rw[dW hx8] at *
    exact ⟨HB,r1 (iE (by simp)),HB⟩
theorem uO (v:Nat) (hv:v<18446744073709551616):Ct P 153 [.c (nI .u64 v)] [.c (nI .i64 (64-blen v))]:=by
 have h:=iV (n:=v) (k:=64) hv;refine Ct.go aj aa (N:=6) Tryz.func153 rfl rfl rfl rfl ?_;refine X1 _ (kC v hv) ?_;refine X1 ((64-blen v:Nat):Int) (wI (by omega) (by omega) (by omega)) ?_;exact ⟨HB,r1 rfl,HB⟩
theorem nQ (k:Nat):18446744073709551616^k=2^(64*k):=by rw[Nat.pow_mul]
theorem sa {n:Nat} (h:n≠0):blen n=64*((dg 18446744073709551616 n).length-1)+blen ((dg 18446744073709551616 n).getD ((dg 18446744073709551616 n).length-1) 0):=by
 obtain ⟨m,hm⟩:∃ m,(dg 18446744073709551616 n).length=m+1:=⟨(dg 18446744073709551616 n).length-1,by
  have:(dg 18446744073709551616 n).length≠0:=λh0=>h ((iq (by omega)).1 (EZ.1 h0))
  omega⟩
 have h1:=aC 18446744073709551616 (dg 18446744073709551616 n) m;rw[aU (by omega),bp (by omega)]at h1;have h2:=eg (by omega:0<18446744073709551616) ((bw (B:=18446744073709551616) (by omega) n).take (n:=m));rw[EJ,F1 (by omega)]at h2;have h3:=mE (B:=18446744073709551616) (by omega) h;rw[hm,FS]at h3 ⊢;have h4:n/18446744073709551616^m=(dg 18446744073709551616 n).getD m 0:=by
  conv=>lhs; rw[h1]
  rw[GP _ _ (Nat.pow_pos (by omega)),Ga h2,Fn]
 rw[←h4];rw[nQ]at h3 ⊢;exact cH _ h3
theorem nR (n:Nat):blen n≤64*(dg 18446744073709551616 n).length:=by
 apply iV;rw[←nQ];exact bA (by omega) n
theorem nS (n:Nat) (hn:(dg 18446744073709551616 n).length≤1000000):Ct P 80 [nV n] [.c (nI .i64 (blen n))]:=by
 refine Ct.go aj aa (N:=22) Tryz.func80 rfl rfl rfl rfl ?_;refine .intro (by rw[ai]; omega) ?_;rw[ai];refine aT (λh=>?_) (λh=>?_)
 ·have:n=0:=(iq (B:=18446744073709551616) (by omega)).1 (EZ.1 (by omega));subst this;exact ⟨HB,r1 (iE (by rw[blen_zero]; rfl)),HB⟩
 ·have h0:n≠0:=λh0=>h (by rw[h0,bE]; rfl)
  refine .intro (by rw[ai]; omega) ?_;rw[ai];refine X1 (((dg 18446744073709551616 n).length-1:Nat):Int) (wI (by omega) (by omega) (by omega)) ?_;refine X1 ((64*((dg 18446744073709551616 n).length-1):Nat):Int) (wI (by omega) (by omega) (by omega)) ?_;refine .intro (by rw[ai]; omega) ?_;rw[ai];refine X1 (((dg 18446744073709551616 n).length-1:Nat):Int) (wI (by omega) (by omega) (by omega)) ?_;refine .intro (by omega) (X1 _ (al rfl (by omega)) ?_);have hd:=(bw (B:=18446744073709551616) (by omega) n).getD (by omega) ((dg 18446744073709551616 n).length-1);refine X1 _ (kC _ hd) ?_;have hb:=sa h0;have hle:=nR n;refine X1 ((blen n:Nat):Int) (wI (by omega) (by omega) (by omega)) ?_;refine .intro rfl ?_;exact ⟨HB,r1 rfl,HB⟩
theorem tU (a b:Nat) (ha:(dg 18446744073709551616 a).length≤1000000) (hb:(dg 18446744073709551616 b).length≤1000000):Ct P 144 [.c (.fn 80 []),nV a,nV b] [nV (if blen a<blen b then b else a),nV (if blen a<blen b then a else b)]:=by
 refine Ct.go aj aa (N:=19) Tryz.func144 rfl rfl rfl rfl ?_;refine X1 _ (nS a ha) ?_;refine X1 _ (nS b hb) ?_;refine .intro rfl ?_;refine ae (λh=>?_) (λh=>?_)
 ·refine .intro rfl ?_;rw[if_pos (by omega),if_pos (by omega)];exact ⟨HB,rc rfl,rc rfl,HB⟩
 ·refine .intro rfl ?_;rw[if_neg (by omega),if_neg (by omega)];exact ⟨HB,rc rfl,rc rfl,HB⟩
end Go.Proofs.YtgceikecdedfcaaGreat.Pv
namespace Go.Proofs.YtgceikecdedfcaaGreat.Pv
open Go Go.Sort
theorem iW (n:Nat):bitsLen n=blen n:=by
 unfold bitsLen;split
 ·rename_i h; subst h; exact blen_zero.symm
 ·rename_i h;exact (fi (Nat.log2_self_le h) Nat.lt_log2_self).symm
theorem tV (n:Nat) (hn:n<18446744073709551616):Ct P 187 [.c (nI .u64 n)] [.c (nI .i64 (bitsLen n))]:=by
 rw[iW];refine Ct.go aj aa (N:=8) Tryz.func187 rfl rfl rfl rfl ?_;refine X1 _ (kC n hn) ?_;exact ⟨HB,r1 rfl,HB⟩
theorem fF {n:Nat} (h:n≤1000000):bitsLen n≤20:=by rw[iW]; exact iV (by omega)
theorem uP (n:Nat) (hn:n≤1000000):Ct P 212 [.c (nI .i64 n)] [.c (nI .u64 (1<<<bitsLen n))]:=by
 refine Ct.go aj aa (N:=7) Tryz.func212 rfl rfl rfl rfl ?_;have hb:=fF hn;refine X1 _ (wU (b:=(n:Int)) rfl (by omega) (by omega)) ?_;refine X1 _ (tV n (by omega)) ?_;have hp:2^bitsLen n≤2^20:=EK (by omega) hb;refine .intro (by omega) (X1 ((1<<<bitsLen n:Nat):Int) ?_ ?_)
 ·rw[Nat.one_shiftLeft];have e:(1:Int)*2^min ((bitsLen n:Nat):Int).toNat IntKind.u64.bits=((2^bitsLen n:Nat):Int):=by
   have:min ((bitsLen n:Nat):Int).toNat IntKind.u64.bits=bitsLen n:=by
    show min ((bitsLen n:Nat):Int).toNat 64=_
    omega
   rw[this]; simp
  generalize 2^bitsLen n=m at *
  exact wU e (by omega) (by omega)
 ·exact ⟨HB,r1 rfl,HB⟩
theorem sb (x:UInt64):x.toNat<18446744073709551616:=x.toNat_lt
theorem DH (x:UInt64) (k:Nat) (y:UInt64) (hk:k<64) (h:y.toNat=x.toNat*2^k%18446744073709551616):IntKind.u64.wrap ((x.toNat:Int)*2^min ((k:Nat):Int).toNat IntKind.u64.bits)=(y.toNat:Int):=by
 have e:min ((k:Nat):Int).toNat IntKind.u64.bits=k:=by show min ((k:Nat):Int).toNat 64=_; omega
 rw[e,h];have e2:(x.toNat:Int)*2^k=((x.toNat*2^k:Nat):Int):=by simp
 rw[e2];simp[IntKind.wrap,IntKind.signed,IntKind.bits]
theorem CR (x y:UInt64):IntKind.u64.wrap ((BitVec.ofInt IntKind.u64.bits (x.toNat:Int) ^^^ BitVec.ofInt IntKind.u64.bits (y.toNat:Int)).toNat:Int)=((x ^^^ y).toNat:Int):=by
 have hx:=sb x;have hy:=sb y;have e:(BitVec.ofInt IntKind.u64.bits (x.toNat:Int) ^^^ BitVec.ofInt IntKind.u64.bits (y.toNat:Int)).toNat=(x ^^^ y).toNat:=by
  show (BitVec.ofInt 64 (x.toNat:Int) ^^^ BitVec.ofInt 64 (y.toNat:Int)).toNat=_
  rw[BitVec.ofInt_natCast,BitVec.ofInt_natCast,BitVec.toNat_xor,BitVec.toNat_ofNat,BitVec.toNat_ofNat,Fc (by omega:x.toNat<2^64),Fc (by omega:y.toNat<2^64),UInt64.toNat_xor]
 rw[e];have:=sb (x ^^^ y);exact wU rfl (by omega) (by omega)
theorem DI (x:UInt64) {n:Nat} (hn:n<18446744073709551616):IntKind.u64.wrap ((BitVec.ofInt IntKind.u64.bits (x.toNat:Int)&&&BitVec.ofInt IntKind.u64.bits (n:Int)).toNat:Int)=((x.toNat&&&n:Nat):Int):=by
 have hx:=sb x;have e:(BitVec.ofInt IntKind.u64.bits (x.toNat:Int)&&&BitVec.ofInt IntKind.u64.bits (n:Int)).toNat=x.toNat&&&n:=by
  show (BitVec.ofInt 64 (x.toNat:Int)&&&BitVec.ofInt 64 (n:Int)).toNat=_
  rw[BitVec.ofInt_natCast,BitVec.ofInt_natCast,BitVec.toNat_and,BitVec.toNat_ofNat,BitVec.toNat_ofNat,Fc (by omega:x.toNat<2^64),Fc (by omega:n<2^64)]
 rw[e];have:x.toNat&&&n≤n:=Nat.and_le_right;exact wU rfl (by omega) (by omega)
theorem uQ (r:UInt64):CtO P 213 [(1000000,some (.var [nI .u64 r.toNat]))] [.c (.ad 1000000 0)] [(1000000,some (.var [nI .u64 (xorNext r).toNat]))] [.c (nI .u64 (xorNext r).toNat)]:=by
 refine Ct.io aj aa (N:=33) Tryz.func213 rfl rfl rfl rfl ?_;refine .intro (by decide) (X1 ((r<<<13).toNat:Int) (DH r 13 (r<<<13) (by omega) ?_) ?_)
 ·rw[UInt64.toNat_shiftLeft]; simp[GR]
 refine X1 _ (CR r (r<<<13)) ?_;refine .intro rfl ?_;generalize hr1:r ^^^ (r<<<13)=s1;have q1:=sb (s1>>>7);refine .intro (by decide) (X1 ((s1>>>7).toNat:Int) ?_ (.intro ⟨by omega,by omega⟩ ?_))
 ·rw[UInt64.toNat_shiftRight];show (s1.toNat:Int).fdiv (2^min ((7:Nat):Int).toNat 64)=_
  rw[gb (by omega),Nat.shiftRight_eq_div_pow]; rfl
 refine X1 _ (CR s1 (s1>>>7)) ?_;refine .intro rfl ?_;generalize hr2:s1 ^^^ (s1>>>7)=s2;refine .intro (by decide) (X1 ((s2<<<17).toNat:Int) (DH s2 17 (s2<<<17) (by omega) ?_) ?_)
 ·rw[UInt64.toNat_shiftLeft]; simp[GR]
 refine X1 _ (CR s2 (s2<<<17)) ?_;refine .intro rfl ?_;have e:xorNext r=s2 ^^^ (s2<<<17):=by rw[←hr2,←hr1]; rfl
 rw[e];exact ⟨HB,SubO.of (l:=[(1000000,.var _)]) ⟨rfl,HB⟩,r1 rfl,HB⟩
end Go.Proofs.YtgceikecdedfcaaGreat.Pv
namespace Go.Proofs.YtgceikecdedfcaaGreat.Pv.SrtI
open Go Go.Sort
section
variable {cm:El→El→Int} {a b:Nat}
theorem insInner_a {j:Nat} {e:Array El} (h:j≤a):insInner (lt cm) a j e=e:=by
 cases j with
 | zero=>rfl
 | succ j=>rw[insInner,if_neg (by simp; omega)]
theorem insInner_b {j:Nat} {e:Array El} (h:¬ cm e[j]! e[j-1]! < 0):insInner (lt cm) a j e=e:=by
 cases j with
 | zero=>rfl
 | succ j=>rw[insInner,if_neg (by simp at h; simp[lt,h])]
theorem insInner_c {j:Nat} {e:Array El} (h:j>a) (h2:cm e[j]! e[j-1]! < 0):insInner (lt cm) a j e=insInner (lt cm) a (j-1) (swp e j (j-1)):=by
 cases j with
 | zero=>omega
 | succ j=>
  simp only[FS]at h2 ⊢;rw[insInner,if_pos (by simp[lt,h2]; omega)]
end
variable (g:FuncId) (cm:El→El→Int)
variable (hc:∀ x y,Ct P g [VL x,VL y] [.c (eI .i64 (cm x y))])
include hc
theorem ins_ct (d:Array El) (a b:Nat) (hab:a≤b) (hb:b≤d.size) (hd:d.size≤1000000) :
  CtO P 191 [dO d] [dA d,.c (nI .i64 a),.c (nI .i64 b),.c (.fn g [])] [dO (insertionSort (lt cm) d a b)] []:=by
 refine Ct.io aj aa (N:=53) Tryz.func191 rfl rfl rfl rfl ?_;refine X1 ((a+1:Nat):Int) (wI (by simp) (by omega) (by omega)) ?_;refine b8 aj aa (G:=Nat × Array El) (λ(i,e)=>insOuter (lt cm) a b i e=insertionSort (lt cm) d a b∧e.size=d.size∧a+1≤i) (λ(i,_)=>[(0,.c (.ow 1000000 SZ d.size)),(1,.c (nI .i64 a)),(2,.c (nI .i64 b)),(3,.c (.fn g [])),(8,.c (nI .i64 i))]) (λ(_,e)=>[(1000000,.row SZ (row e))]) (λ(i,_)=>b-i)
  (a+1,d) ⟨rfl,rfl,by omega⟩ ⟨rfl,rfl,rfl,rfl,rfl,HB⟩ ⟨rfl,HB⟩ (λ(i,e0) hi=>?_)
 obtain ⟨i1,i2,i3⟩:=hi;refine ae (λh5=>?_) (λh5=>?_)
 ·rw[insOuter,if_pos (by omega)]at i1;have hib:i<b:=by omega
  have done:∀ e:Array El,insInner (lt cm) a i e0=e→e.size=d.size→insOuter (lt cm) a b (i+1) e=insertionSort (lt cm) d a b∧e.size=d.size∧a+1≤i+1:=λe h1 h2=>⟨by rw[←h1]; exact i1,h2,by omega⟩
  refine b8 aj aa (G:=Nat × Array El) (λ(j,e)=>insInner (lt cm) a j e=insInner (lt cm) a i e0∧e.size=d.size∧j≤i) (λ(j,_)=>[(0,.c (.ow 1000000 SZ d.size)),(1,.c (nI .i64 a)),(2,.c (nI .i64 b)),(3,.c (.fn g [])),(8,.c (nI .i64 i)),(9,.c (nI .i64 j))]) (λ(_,e)=>[(1000000,.row SZ (row e))]) (λ(j,_)=>j)
   (i,e0) ⟨rfl,i2,by omega⟩ ⟨rfl,rfl,rfl,rfl,rfl,rfl,HB⟩ ⟨rfl,HB⟩ (λ(j,e) hj=>?_)
  obtain ⟨j1,j2,j3⟩:=hj;refine ae (λh6=>?_) (λh6=>?_)
  ·refine .intro (by omega) (.intro (by omega) (X1 _ (row_get (n:=j) rfl (by omega)) ?_));refine X1 ((j-1:Nat):Int) (wI (by omega) (by omega) (by omega)) ?_;refine .intro (by omega) (.intro (by omega) (X1 _ (row_get (n:=j-1) rfl (by omega)) ?_));refine X1 _ (hc _ _) ?_;refine .intro rfl ?_;refine ae (λh7=>?_) (λh7=>?_)
   ·rw[insInner_c (by omega) h7]at j1;refine X1 ((j-1:Nat):Int) (wI (by omega) (by omega) (by omega)) ?_;refine X1 ((j-1:Nat):Int) (wI (by omega) (by omega) (by omega)) ?_;refine .intro (by omega) (.intro (by omega) (X1 _ (row_get (d:=e) (n:=j-1) rfl (by omega)) ?_));refine .intro (by omega) (.intro (by omega) (X1 _ (row_get (d:=e) (n:=j) rfl (by omega)) ?_));refine .intro (by omega) (.intro (by omega) (X1 _ (row_get (d:=e) (n:=j) rfl (by omega)) ?_));refine .intro (by omega) (.intro (by omega) (X1 _ (row_get2 (d:=e) (y:=e[j-1]!) (m:=j) (n:=j-1) rfl rfl (by omega)) ?_));refine .intro rfl ?_;refine X1 ((j-1:Nat):Int) (wI (by omega) (by omega) (by omega)) ?_;exact ⟨(j-1,swp e j (j-1)),⟨j1,by rw[swp_size]; exact j2,by omega⟩,by show j-1<j; omega,⟨rfl,rfl,rfl,rfl,rfl,rfl,HB⟩,⟨aB (row_swp (m:=j) (n:=j-1) rfl rfl),HB⟩⟩
   ·rw[insInner_b h7]at j1;refine X1 ((i+1:Nat):Int) (wI1 (by omega)) ?_;exact ⟨(i+1,e),done e j1.symm j2,by show b-(i+1)<b-i; omega,⟨rfl,rfl,rfl,rfl,rfl,HB⟩,⟨rfl,HB⟩⟩
  ·refine .intro rfl ?_;rw[insInner_a (by omega)]at j1;refine X1 ((i+1:Nat):Int) (wI1 (by omega)) ?_;exact ⟨(i+1,e),done e j1.symm j2,by show b-(i+1)<b-i; omega,⟨rfl,rfl,rfl,rfl,rfl,HB⟩,⟨rfl,HB⟩⟩
 ·rw[insOuter,if_neg (by omega)]at i1;rw[←i1];exact ⟨HB,SubO.of (l:=[(1000000,.row _ _)]) ⟨rfl,HB⟩,HB⟩
omit hc
section
variable {cm:El→El→Int} {hi f r:Nat} {e:Array El}
theorem sift_end (h:¬ 2*r+1<hi):siftDown (lt cm) hi f r e=e:=by rw[siftDown,dif_pos (by omega)]
theorem sift_r (h:2*r+2<hi) (h2:cm e[f+(2*r+1)]! e[f+(2*r+2)]! < 0):siftDown (lt cm) hi f r e=if cm e[f+r]! e[f+(2*r+2)]! < 0 then siftDown (lt cm) hi f (2*r+2) (swp e (f+r) (f+(2*r+2))) else e:=by
 rw[siftDown,dif_neg (by omega)];have e1:f+(2*r+1)+1=f+(2*r+2):=by omega
 rw[e1,if_pos (by simp[lt,h2]; omega)];by_cases h3:cm e[f+r]! e[f+(2*r+2)]! < 0
 ·rw[if_pos h3,if_neg (by simp[lt,h3]),dif_pos h]
 ·rw[if_neg h3,if_pos (by simp[lt]; omega)]
theorem sift_l (h:2*r+1<hi) (h2:¬ (2*r+2<hi∧cm e[f+(2*r+1)]! e[f+(2*r+2)]! < 0)):siftDown (lt cm) hi f r e=if cm e[f+r]! e[f+(2*r+1)]! < 0 then siftDown (lt cm) hi f (2*r+1) (swp e (f+r) (f+(2*r+1))) else e:=by
 rw[siftDown,dif_neg (by omega)];have e1:f+(2*r+1)+1=f+(2*r+2):=by omega
 rw[e1,if_neg (by simp[lt]; omega)];by_cases h3:cm e[f+r]! e[f+(2*r+1)]! < 0
 ·rw[if_pos h3,if_neg (by simp[lt,h3])]
 ·rw[if_neg h3,if_pos (by simp[lt]; omega)]
end
include hc
theorem sift_ct (d:Array El) (lo hi f:Nat) (il ih:Int) (hil:il=lo) (hih:ih=hi) (hb:f+hi≤d.size) (hlo:lo≤1000000) (hd:d.size≤1000000) :
  CtO P 211 [dO d] [dA d,.c (eI .i64 il),.c (eI .i64 ih),.c (nI .i64 f),.c (.fn g [])] [dO (siftDown (lt cm) hi f lo d)] []:=by
 subst hil hih;refine Ct.io aj aa (N:=82) Tryz.func211 rfl rfl rfl rfl ?_;refine b8 aj aa (G:=Nat × Array El) (λ(r,e)=>siftDown (lt cm) hi f r e=siftDown (lt cm) hi f lo d∧e.size=d.size∧r≤1000000) (λ(r,_)=>[(0,.c (.ow 1000000 SZ d.size)),(2,.c (nI .i64 hi)),(3,.c (nI .i64 f)),(4,.c (.fn g [])),(10,.c (nI .i64 r))]) (λ(_,e)=>[(1000000,.row SZ (row e))]) (λ(r,_)=>hi-r)
  (lo,d) ⟨rfl,rfl,hlo⟩ ⟨rfl,rfl,rfl,rfl,rfl,HB⟩ ⟨rfl,HB⟩ (λ(r,e) hinv=>?_)
 obtain ⟨i1,i2,i3⟩:=hinv;refine X1 ((2*r:Nat):Int) (wI (by simp) (by omega) (by omega)) ?_;refine X1 ((2*r+1:Nat):Int) (wI (by simp) (by omega) (by omega)) ?_;refine ae (λh5=>?_) (λh5=>?_)
 ·rw[sift_end (by omega)]at i1;rw[←i1];exact ⟨HB,SubO.of (l:=[(1000000,.row _ _)]) ⟨rfl,HB⟩,HB⟩
 ·refine X1 ((2*r+2:Nat):Int) (wI (by simp; omega) (by omega) (by omega)) ?_;refine ae (λh6=>?_) (λh6=>?_)
  ·refine X1 ((f+(2*r+1):Nat):Int) (wI (by simp) (by omega) (by omega)) ?_;refine .intro (by omega) (.intro (by omega) (X1 _ (row_get (n:=f+(2*r+1)) rfl (by omega)) ?_));refine X1 ((f+(2*r+1):Nat):Int) (wI (by simp) (by omega) (by omega)) ?_;refine X1 ((f+(2*r+2):Nat):Int) (wI (by omega) (by omega) (by omega)) ?_;refine .intro (by omega) (.intro (by omega) (X1 _ (row_get (n:=f+(2*r+2)) rfl (by omega)) ?_));refine X1 _ (hc _ _) ?_;refine .intro rfl ?_;refine ae (λh7=>?_) (λh7=>?_)
   ·rw[sift_r (by omega) h7]at i1;refine X1 ((2*r+2:Nat):Int) (wI (by simp; omega) (by omega) (by omega)) ?_;refine X1 ((f+r:Nat):Int) (wI (by simp) (by omega) (by omega)) ?_;refine .intro (by omega) (.intro (by omega) (X1 _ (row_get (n:=f+r) rfl (by omega)) ?_));refine X1 ((f+(2*r+2):Nat):Int) (wI (by simp) (by omega) (by omega)) ?_;refine .intro (by omega) (.intro (by omega) (X1 _ (row_get (n:=f+(2*r+2)) rfl (by omega)) ?_));refine X1 _ (hc _ _) ?_;refine .intro rfl ?_;refine aP (λh9=>?_) (λh9=>?_)
    ·have h9':¬ cm e[f+r]! e[f+(2*r+2)]! < 0:=by simpa using h9
     rw[if_neg h9']at i1;rw[←i1];exact ⟨HB,SubO.of (l:=[(1000000,.row _ _)]) ⟨rfl,HB⟩,HB⟩
    ·have h9':cm e[f+r]! e[f+(2*r+2)]! < 0:=by simpa using h9
     rw[if_pos h9']at i1;refine X1 ((f+r:Nat):Int) (wI (by simp) (by omega) (by omega)) ?_;refine X1 ((f+(2*r+2):Nat):Int) (wI (by simp) (by omega) (by omega)) ?_;refine X1 ((f+(2*r+2):Nat):Int) (wI (by simp) (by omega) (by omega)) ?_;refine .intro (by omega) (.intro (by omega) (X1 _ (row_get (n:=f+(2*r+2)) rfl (by omega)) ?_));refine X1 ((f+r:Nat):Int) (wI (by simp) (by omega) (by omega)) ?_;refine .intro (by omega) (.intro (by omega) (X1 _ (row_get (n:=f+r) rfl (by omega)) ?_));refine .intro (by omega) (.intro (by omega) (X1 _ (row_get (n:=f+r) rfl (by omega)) ?_));refine .intro (by omega) (.intro (by omega) (X1 _ (row_get2 (y:=e[f+(2*r+2)]!) (m:=f+r) (n:=f+(2*r+2)) rfl rfl (by omega)) ?_));refine .intro rfl ?_;exact ⟨(2*r+2,swp e (f+r) (f+(2*r+2))),⟨i1,by rw[swp_size]; exact i2,by omega⟩,by show hi-(2*r+2)<hi-r; omega,⟨rfl,rfl,rfl,rfl,rfl,HB⟩,⟨aB (row_swp (m:=f+r) (n:=f+(2*r+2)) rfl rfl),HB⟩⟩
   ·rw[sift_l (by omega) (λh=>h7 h.2)]at i1;refine X1 ((f+r:Nat):Int) (wI (by simp) (by omega) (by omega)) ?_;refine .intro (by omega) (.intro (by omega) (X1 _ (row_get (n:=f+r) rfl (by omega)) ?_));refine X1 ((f+(2*r+1):Nat):Int) (wI (by simp) (by omega) (by omega)) ?_;refine .intro (by omega) (.intro (by omega) (X1 _ (row_get (n:=f+(2*r+1)) rfl (by omega)) ?_));refine X1 _ (hc _ _) ?_;refine .intro rfl ?_;refine aP (λh9=>?_) (λh9=>?_)
    ·have h9':¬ cm e[f+r]! e[f+(2*r+1)]! < 0:=by simpa using h9
     rw[if_neg h9']at i1;rw[←i1];exact ⟨HB,SubO.of (l:=[(1000000,.row _ _)]) ⟨rfl,HB⟩,HB⟩
    ·have h9':cm e[f+r]! e[f+(2*r+1)]! < 0:=by simpa using h9
     rw[if_pos h9']at i1;refine X1 ((f+r:Nat):Int) (wI (by simp) (by omega) (by omega)) ?_;refine X1 ((f+(2*r+1):Nat):Int) (wI (by simp) (by omega) (by omega)) ?_;refine X1 ((f+(2*r+1):Nat):Int) (wI (by simp) (by omega) (by omega)) ?_;refine .intro (by omega) (.intro (by omega) (X1 _ (row_get (n:=f+(2*r+1)) rfl (by omega)) ?_));refine X1 ((f+r:Nat):Int) (wI (by simp) (by omega) (by omega)) ?_;refine .intro (by omega) (.intro (by omega) (X1 _ (row_get (n:=f+r) rfl (by omega)) ?_));refine .intro (by omega) (.intro (by omega) (X1 _ (row_get (n:=f+r) rfl (by omega)) ?_));refine .intro (by omega) (.intro (by omega) (X1 _ (row_get2 (y:=e[f+(2*r+1)]!) (m:=f+r) (n:=f+(2*r+1)) rfl rfl (by omega)) ?_));refine .intro rfl ?_;exact ⟨(2*r+1,swp e (f+r) (f+(2*r+1))),⟨i1,by rw[swp_size]; exact i2,by omega⟩,by show hi-(2*r+1)<hi-r; omega,⟨rfl,rfl,rfl,rfl,rfl,HB⟩,⟨aB (row_swp (m:=f+r) (n:=f+(2*r+1)) rfl rfl),HB⟩⟩
  ·refine .intro rfl ?_;rw[sift_l (by omega) (λh=>h6 (by omega))]at i1;refine X1 ((f+r:Nat):Int) (wI (by simp) (by omega) (by omega)) ?_;refine .intro (by omega) (.intro (by omega) (X1 _ (row_get (n:=f+r) rfl (by omega)) ?_));refine X1 ((f+(2*r+1):Nat):Int) (wI (by simp) (by omega) (by omega)) ?_;refine .intro (by omega) (.intro (by omega) (X1 _ (row_get (n:=f+(2*r+1)) rfl (by omega)) ?_));refine X1 _ (hc _ _) ?_;refine .intro rfl ?_;refine aP (λh9=>?_) (λh9=>?_)
   ·have h9':¬ cm e[f+r]! e[f+(2*r+1)]! < 0:=by simpa using h9
    rw[if_neg h9']at i1;rw[←i1];exact ⟨HB,SubO.of (l:=[(1000000,.row _ _)]) ⟨rfl,HB⟩,HB⟩
   ·have h9':cm e[f+r]! e[f+(2*r+1)]! < 0:=by simpa using h9
    rw[if_pos h9']at i1;refine X1 ((f+r:Nat):Int) (wI (by simp) (by omega) (by omega)) ?_;refine X1 ((f+(2*r+1):Nat):Int) (wI (by simp) (by omega) (by omega)) ?_;refine X1 ((f+(2*r+1):Nat):Int) (wI (by simp) (by omega) (by omega)) ?_;refine .intro (by omega) (.intro (by omega) (X1 _ (row_get (n:=f+(2*r+1)) rfl (by omega)) ?_));refine X1 ((f+r:Nat):Int) (wI (by simp) (by omega) (by omega)) ?_;refine .intro (by omega) (.intro (by omega) (X1 _ (row_get (n:=f+r) rfl (by omega)) ?_));refine .intro (by omega) (.intro (by omega) (X1 _ (row_get (n:=f+r) rfl (by omega)) ?_));refine .intro (by omega) (.intro (by omega) (X1 _ (row_get2 (y:=e[f+(2*r+1)]!) (m:=f+r) (n:=f+(2*r+1)) rfl rfl (by omega)) ?_));refine .intro rfl ?_;exact ⟨(2*r+1,swp e (f+r) (f+(2*r+1))),⟨i1,by rw[swp_size]; exact i2,by omega⟩,by show hi-(2*r+1)<hi-r; omega,⟨rfl,rfl,rfl,rfl,rfl,HB⟩,⟨aB (row_swp (m:=f+r) (n:=f+(2*r+1)) rfl rfl),HB⟩⟩
theorem sift_size (hi f:Nat):∀ (n r:Nat) (e:Array El),hi-r≤n→(siftDown (lt cm) hi f r e).size=e.size:=by
 have _hc:=hc;intro n
 induction n with
 | zero=>intro r e h; rw[sift_end (by omega)]
 | succ n ih=>
  intro r e h;by_cases h1:2*r+1<hi
  ·by_cases h2:2*r+2<hi∧cm e[f+(2*r+1)]! e[f+(2*r+2)]! < 0
   ·rw[sift_r h2.1 h2.2]; split
    ·rw[ih _ _ (by omega),swp_size]
    ·rfl
   ·rw[sift_l h1 h2]; split
    ·rw[ih _ _ (by omega),swp_size]
    ·rfl
  ·rw[sift_end h1]
theorem heap_ct (d:Array El) (a b:Nat) (hab:a<b) (hb:b≤d.size) (hd:d.size≤1000000) :
  CtO P 192 [dO d] [dA d,.c (nI .i64 a),.c (nI .i64 b),.c (.fn g [])] [dO (heapSort (lt cm) d a b)] []:=by
 refine Ct.io aj aa (N:=60) Tryz.func192 rfl rfl rfl rfl ?_;refine X1 ((b-a:Nat):Int) (wI (by omega) (by omega) (by omega)) ?_;refine X1 ((b-a-1:Nat):Int) (wI (by omega) (by omega) (by omega)) ?_;have q2:((b-a-1:Nat):Int).tdiv 2=(((b-a-1)/2+1:Nat):Int)-1:=by
  rw[FB (by omega)]; omega
 refine .intro (by omega) (X1 _ q2 (.intro ⟨by omega,by omega⟩ ?_));refine ax aj aa (G:=Nat × Array El) (λ(k,e)=>heapBuild (lt cm) (b-a) a k e=heapBuild (lt cm) (b-a) a ((b-a-1)/2+1) d∧e.size=d.size∧k≤1000000) (λ(k,_)=>[(0,.c (.ow 1000000 SZ d.size)),(3,.c (.fn g [])),(8,.c (nI .i64 a)),(9,.c (eI .i64 0)),(10,.c (nI .i64 (b-a))),(11,.c (eI .i64 ((k:Int)-1)))]) (λ(_,e)=>[(1000000,.row SZ (row e))]) (λ(k,_)=>k)
  ((b-a-1)/2+1,d) ⟨rfl,rfl,by omega⟩ ⟨rfl,rfl,rfl,rfl,rfl,rfl,HB⟩ ⟨rfl,HB⟩
  (G2:=Array El) (λe=>e=heapBuild (lt cm) (b-a) a ((b-a-1)/2+1) d∧e.size=d.size) (λ_=>[(0,.c (.ow 1000000 SZ d.size)),(3,.c (.fn g [])),(8,.c (nI .i64 a)),(9,.c (eI .i64 0)),(10,.c (nI .i64 (b-a)))]) (λe=>[(1000000,.row SZ (row e))]) (λ(k,e) hi=>?_) (λe0 he=>?_)
 ·obtain ⟨i1,i2,i3⟩:=hi;refine ae (λh5=>?_) (λh5=>?_)
  ·cases k with
   | zero=>omega
   | succ k=>
    refine X2 (.upd 1000000) ?_;have hs:=sift_ct g cm hc e k (b-a) a (((k+1:Nat):Int)-1) ((b-a:Nat):Int) (by omega) rfl (by omega) (by omega) (by omega);rw[dA,i2]at hs;refine ⟨_,_,hs,?_⟩;refine X1 ((k:Int)-1) (wI (by omega) (by omega) (by omega)) ?_;rw[heapBuild]at i1;exact ⟨(k,siftDown (lt cm) (b-a) a k e),⟨i1,by rw[sift_size g cm hc (b-a) a _ k e (Ew _)]; exact i2,by omega⟩,by show k<k+1; omega,⟨rfl,rfl,rfl,rfl,rfl,rfl,HB⟩,⟨rfl,HB⟩⟩
  ·have hk:k=0:=by omega
   subst hk;exact ⟨e,⟨i1,i2⟩,⟨rfl,rfl,rfl,rfl,rfl,HB⟩,⟨rfl,HB⟩⟩
 ·obtain ⟨e1,e2⟩:=he;have hpop:heapSort (lt cm) d a b=heapPop (lt cm) a (b-a) e0:=by rw[e1]; rfl
  rw[hpop];refine X1 (((b-a:Nat):Int)-1) (wI (by omega) (by omega) (by omega)) ?_;refine b8 aj aa (G:=Nat × Array El) (λ(k,e)=>heapPop (lt cm) a k e=heapPop (lt cm) a (b-a) e0∧e.size=d.size∧k≤b-a) (λ(k,_)=>[(0,.c (.ow 1000000 SZ d.size)),(3,.c (.fn g [])),(8,.c (nI .i64 a)),(9,.c (eI .i64 0)),(12,.c (eI .i64 ((k:Int)-1)))]) (λ(_,e)=>[(1000000,.row SZ (row e))]) (λ(k,_)=>k)
   (b-a,e0) ⟨rfl,e2,by omega⟩ ⟨rfl,rfl,rfl,rfl,rfl,HB⟩ ⟨rfl,HB⟩ (λ(k,e) hi=>?_)
  obtain ⟨i1,i2,i3⟩:=hi;refine ae (λh5=>?_) (λh5=>?_)
  ·cases k with
   | zero=>omega
   | succ k=>
    refine X1 ((a+k:Nat):Int) (wI (by omega) (by omega) (by omega)) ?_;refine X1 ((a+k:Nat):Int) (wI (by omega) (by omega) (by omega)) ?_;refine .intro (by omega) (.intro (by omega) (X1 _ (row_get (d:=e) (n:=a+k) rfl (by omega)) ?_));refine .intro (by omega) (.intro (by omega) (X1 _ (row_get (d:=e) (n:=a) rfl (by omega)) ?_));refine .intro (by omega) (.intro (by omega) (X1 _ (row_get (d:=e) (n:=a) rfl (by omega)) ?_));refine .intro (by omega) (.intro (by omega) (X1 _ (row_get2 (d:=e) (y:=e[a+k]!) (m:=a) (n:=a+k) rfl rfl (by omega)) ?_));refine .intro rfl ?_;have hs:=sift_ct g cm hc (swp e a (a+k)) 0 k a 0 (((k+1:Nat):Int)-1) rfl (by omega) (by rw[swp_size]; omega) (by omega) (by rw[swp_size]; omega);rw[dA,swp_size,i2,dO,←row_swp (i:=(a:Int)) (j:=((a+k:Nat):Int)) rfl rfl]at hs;refine X2 (.upd 1000000) ?_;refine ⟨_,_,hs,?_⟩;refine X1 ((k:Int)-1) (wI (by omega) (by omega) (by omega)) ?_;rw[heapPop]at i1;exact ⟨(k,siftDown (lt cm) k a 0 (swp e a (a+k))),⟨i1,by rw[sift_size g cm hc k a _ 0 _ (Ew _),swp_size]; exact i2,by omega⟩,by show k<k+1; omega,⟨rfl,rfl,rfl,rfl,rfl,HB⟩,⟨rfl,HB⟩⟩
  ·have hk:k=0:=by omega
   subst hk;rw[←i1];exact ⟨HB,SubO.of (l:=[(1000000,.row _ _)]) ⟨rfl,HB⟩,HB⟩
end Go.Proofs.YtgceikecdedfcaaGreat.Pv.SrtI
namespace Go.Proofs.YtgceikecdedfcaaGreat.Pv.SrtI
open Go Go.Sort
variable (g:FuncId) (cm:El→El→Int)
def bst (a len m i0:Nat) (d:Array El):Nat→UInt64 × Array El
 | 0=>(UInt64.ofNat len,d)
 | t+1=>breakStep a len m (bst a len m i0 d t) (i0+t)
theorem bst_size (a len m i0:Nat) (d:Array El):∀ t,(bst a len m i0 d t).2.size=d.size
 | 0=>rfl
 | t+1=>by rw[bst,breakStep,swp_size]; exact bst_size a len m i0 d t
theorem break_ct (d:Array El) (a b:Nat) (hab:a+8≤b) (hb:b≤d.size) (hd:d.size≤1000000) :
  CtO P 193 [dO d] [dA d,.c (nI .i64 a),.c (nI .i64 b),.c (.fn g [])] [dO (breakPatterns d a b)] []:=by
 have hbits:=fF (n:=b-a) (by omega);have hm1:1<<<bitsLen (b-a)=2^bitsLen (b-a):=Nat.one_shiftLeft _;have hm2:2^bitsLen (b-a)≤2*(b-a):=by
  rw[iW];have h1:=ql (n:=b-a) (by omega);have h2:blen (b-a)≠0:=λh=>by
   have:=fh (b-a); rw[h]at this; omega
  have h3:2^blen (b-a)=2*2^(blen (b-a)-1):=by
   rw[←Nat.pow_succ']; congr 1; omega
  omega
 have hm3:0<2^bitsLen (b-a):=Fo _;have hbp:breakPatterns d a b=(bst a (b-a) (1<<<bitsLen (b-a)) (a+(b-a)/4*2-1) d 3).2:=by
  simp only[breakPatterns,if_pos (show b-a≥8 by omega)]; rfl
 have hms:∀ m,m=1<<<bitsLen (b-a)→0<m∧m≤2*(b-a):=λm hm=>by rw[hm,hm1]; exact ⟨hm3,hm2⟩
 refine Ct.io aj aa (N:=67) Tryz.func193 rfl rfl rfl rfl ?_;refine X1 ((b-a:Nat):Int) (wI (by omega) (by omega) (by omega)) ?_;refine ae (λh8=>?_) (λh8=>absurd (show ((b-a:Nat):Int)≥8 by omega) h8);have hlen:(UInt64.ofNat (b-a)).toNat=b-a:=by rw[UInt64.toNat_ofNat']; omega
 refine X1 ((UInt64.ofNat (b-a)).toNat:Int) (by rw[hlen]; exact wU rfl (by omega) (by omega)) ?_;refine X1 _ (uP (b-a) (by omega)) ?_;rw[hbp];have hms':=hms _ rfl;generalize 1<<<bitsLen (b-a)=m at *
 have q4:((b-a:Nat):Int).tdiv 4=(((b-a)/4:Nat):Int):=quo4 rfl;refine .intro (by omega) (X1 _ q4 (.intro ⟨by omega,by omega⟩ ?_));refine X1 (((b-a)/4*2:Nat):Int) (wI (by simp) (by omega) (by omega)) ?_;refine X1 ((a+(b-a)/4*2:Nat):Int) (wI (by simp) (by omega) (by omega)) ?_;refine X1 ((a+(b-a)/4*2-1:Nat):Int) (wI (by omega) (by omega) (by omega)) ?_;refine b8 aj aa (G:=Nat) (λt=>t≤3) (λt=>[(0,.c (.ow 1000000 SZ d.size)),(1,.c (nI .i64 a)),(8,.c (nI .i64 (b-a))),(9,.c (.ad 9 0)),(10,.c (nI .u64 m)),(11,.c (nI .i64 (a+(b-a)/4*2-1+t)))]) (λt=>[(9,.var [nI .u64 (bst a (b-a) m (a+(b-a)/4*2-1) d t).1.toNat]),(1000000,.row SZ (row (bst a (b-a) m (a+(b-a)/4*2-1) d t).2))]) (λt=>3-t)
  0 (by omega) ⟨rfl,rfl,rfl,rfl,rfl,rfl,HB⟩ ⟨rfl,rfl,HB⟩ (λt ht=>?_)
 have hs:=bst_size a (b-a) m (a+(b-a)/4*2-1) d t;have hst:bst a (b-a) m (a+(b-a)/4*2-1) d (t+1)=breakStep a (b-a) m (bst a (b-a) m (a+(b-a)/4*2-1) d t) (a+(b-a)/4*2-1+t):=rfl;have hend:t=3→(bst a (b-a) m (a+(b-a)/4*2-1) d t).2=(bst a (b-a) m (a+(b-a)/4*2-1) d 3).2:=λh=>by rw[h]
 generalize hst':bst a (b-a) m (a+(b-a)/4*2-1) d t=st at *
 obtain ⟨r,e⟩:=st;simp only at hs;refine .intro (by omega) (X1 _ q4 (.intro ⟨by omega,by omega⟩ ?_));refine X1 (((b-a)/4*2:Nat):Int) (wI (by simp) (by omega) (by omega)) ?_;refine X1 ((a+(b-a)/4*2:Nat):Int) (wI (by simp) (by omega) (by omega)) ?_;refine X1 ((a+(b-a)/4*2+1:Nat):Int) (wI (by simp) (by omega) (by omega)) ?_;refine ae (λh5=>?_) (λh5=>?_)
 ·refine X2 (.upd 9) ?_;refine ⟨_,_,uQ r,?_⟩;refine X1 ((m-1:Nat):Int) (wU (by omega) (by omega) (by omega)) ?_;refine X1 _ (DI (xorNext r) (n:=m-1) (by omega)) ?_;have hle:(xorNext r).toNat&&&(m-1)≤m-1:=Nat.and_le_right;rw[breakStep]at hst;simp only at hst;generalize (xorNext r).toNat&&&(m-1)=o at *
  refine X1 ((o:Nat):Int) (wI rfl (by omega) (by omega)) ?_;refine ae (λh6=>?_) (λh6=>?_)
  ·rw[if_pos (by omega)]at hst;refine X1 ((o-(b-a):Nat):Int) (wI (by omega) (by omega) (by omega)) ?_;refine X1 ((a+(o-(b-a)):Nat):Int) (wI (by omega) (by omega) (by omega)) ?_;refine X1 ((a+(o-(b-a)):Nat):Int) (wI (by omega) (by omega) (by omega)) ?_;refine .intro (by omega) (.intro (by omega) (X1 _ (row_get (d:=e) (n:=a+(o-(b-a))) rfl (by omega)) ?_));refine .intro (by omega) (.intro (by omega) (X1 _ (row_get (d:=e) (n:=a+(b-a)/4*2-1+t) rfl (by omega)) ?_));refine .intro (by omega) (.intro (by omega) (X1 _ (row_get (d:=e) (n:=a+(b-a)/4*2-1+t) rfl (by omega)) ?_));refine .intro (by omega) (.intro (by omega) (X1 _ (row_get2 (d:=e) (y:=e[a+(o-(b-a))]!) (m:=a+(b-a)/4*2-1+t) (n:=a+(o-(b-a))) rfl rfl (by omega)) ?_));refine .intro rfl ?_;refine X1 ((a+(b-a)/4*2-1+(t+1):Nat):Int) (wI (by omega) (by omega) (by omega)) ?_;exact ⟨t+1,by omega,by show 3-(t+1)<3-t; omega,⟨rfl,rfl,rfl,rfl,rfl,rfl,HB⟩,⟨by rw[hst]; rfl,aB (by rw[hst]; exact row_swp (m:=a+(b-a)/4*2-1+t) (n:=a+(o-(b-a))) rfl rfl),HB⟩⟩
  ·rw[if_neg (by omega)]at hst;refine X1 ((a+o:Nat):Int) (wI (by omega) (by omega) (by omega)) ?_;refine X1 ((a+o:Nat):Int) (wI (by omega) (by omega) (by omega)) ?_;refine .intro (by omega) (.intro (by omega) (X1 _ (row_get (d:=e) (n:=a+o) rfl (by omega)) ?_));refine .intro (by omega) (.intro (by omega) (X1 _ (row_get (d:=e) (n:=a+(b-a)/4*2-1+t) rfl (by omega)) ?_));refine .intro (by omega) (.intro (by omega) (X1 _ (row_get (d:=e) (n:=a+(b-a)/4*2-1+t) rfl (by omega)) ?_));refine .intro (by omega) (.intro (by omega) (X1 _ (row_get2 (d:=e) (y:=e[a+o]!) (m:=a+(b-a)/4*2-1+t) (n:=a+o) rfl rfl (by omega)) ?_));refine .intro rfl ?_;refine X1 ((a+(b-a)/4*2-1+(t+1):Nat):Int) (wI (by omega) (by omega) (by omega)) ?_;exact ⟨t+1,by omega,by show 3-(t+1)<3-t; omega,⟨rfl,rfl,rfl,rfl,rfl,rfl,HB⟩,⟨by rw[hst]; rfl,aB (by rw[hst]; exact row_swp (m:=a+(b-a)/4*2-1+t) (n:=a+o) rfl rfl),HB⟩⟩
 ·rw[←hend (by omega)];exact ⟨HB,SubO.of (l:=[(1000000,.row _ _)]) ⟨rfl,HB⟩,HB⟩
section
variable {cm:El→El→Int} {a b i j:Nat} {e:Array El}
theorem scanS_a (h:¬ i<b):scanSorted (lt cm) e b i=i:=by rw[scanSorted,if_neg (by simp; omega)]
theorem scanS_b (h:cm e[i]! e[i-1]! < 0):scanSorted (lt cm) e b i=i:=by rw[scanSorted,if_neg (by simp[lt,h])]
theorem scanS_c (h:i<b) (h2:¬ cm e[i]! e[i-1]! < 0):scanSorted (lt cm) e b i=scanSorted (lt cm) e b (i+1):=by rw[scanSorted,if_pos (by simp[lt]; omega)]
theorem shD_a (h:j<1):shiftDown (lt cm) j e=e:=by
 have:j=0:=by omega
 subst this; rfl
theorem shD_b (h:¬ cm e[j]! e[j-1]! < 0):shiftDown (lt cm) j e=e:=by
 cases j with
 | zero=>rfl
 | succ j=>simp only[FS]at h; rw[shiftDown,if_pos (by simp[lt]; omega)]
theorem shD_c (h0:1≤j) (h:cm e[j]! e[j-1]! < 0):shiftDown (lt cm) j e=shiftDown (lt cm) (j-1) (swp e j (j-1)):=by
 cases j with
 | zero=>omega
 | succ j=>simp only[FS]at h ⊢; rw[shiftDown,if_neg (by simp[lt,h])]
theorem shU_a (h:¬ j<b):shiftUp (lt cm) b j e=e:=by rw[shiftUp,if_neg h]
theorem shU_b (h0:j<b) (h:¬ cm e[j]! e[j-1]! < 0):shiftUp (lt cm) b j e=e:=by rw[shiftUp,if_pos h0,if_pos (by simp[lt]; omega)]
theorem shU_c (h0:j<b) (h:cm e[j]! e[j-1]! < 0):shiftUp (lt cm) b j e=shiftUp (lt cm) b (j+1) (swp e j (j-1)):=by rw[shiftUp,if_pos h0,if_neg (by simp[lt,h])]
end
variable (hc:∀ x y,Ct P g [VL x,VL y] [.c (eI .i64 (cm x y))])
include hc
theorem pIns_ct (d:Array El) (a b:Nat) (hab:a<b) (hb:b≤d.size) (hd:d.size≤1000000) :
  CtO P 196 [dO d] [dA d,.c (nI .i64 a),.c (nI .i64 b),.c (.fn g [])] [dO (partialInsertionSort (lt cm) d a b).1] [.c (.sc (.bool (partialInsertionSort (lt cm) d a b).2))]:=by
 have key:∀ F:Array El × Bool,partialIns (lt cm) a b 5 (a+1) d=F→CtO P 196 [dO d] [dA d,.c (nI .i64 a),.c (nI .i64 b),.c (.fn g [])] [dO F.1] [.c (.sc (.bool F.2))]:=by
  intro F hF;refine Ct.io aj aa (N:=141) Tryz.func196 rfl rfl rfl rfl ?_;refine X1 ((a+1:Nat):Int) (wI (by simp) (by omega) (by omega)) ?_;refine ax aj aa (G:=Nat × Nat × Array El) (λ(s,i,e)=>s≤5∧partialIns (lt cm) a b (5-s) i e=F∧e.size=d.size∧a+1≤i∧i≤b) (λ(s,i,_)=>[(0,.c (.ow 1000000 SZ d.size)),(1,.c (nI .i64 a)),(2,.c (nI .i64 b)),(3,.c (.fn g [])),(9,.c (nI .i64 i)),(10,.c (nI .i64 s))]) (λ(_,_,e)=>[(1000000,.row SZ (row e))]) (λ(s,_,_)=>5-s)
   (0,a+1,d) ⟨by omega,hF,rfl,by omega,by omega⟩ ⟨rfl,rfl,rfl,rfl,rfl,rfl,HB⟩ ⟨rfl,HB⟩ (G2:=Array El) (λe=>F=(e,false)) (λ_=>[]) (λe=>[(1000000,.row SZ (row e))]) (λ(s,i,e0) hi=>?_) (λe he=>?_)
  ·obtain ⟨i1,i2,i3,i4,i5⟩:=hi;refine ae (λh5=>?_) (λh5=>?_)
   ·rw[show 5-s=(4-s)+1 by omega,partialIns]at i2;refine ax aj aa (G:=Nat) (λj=>scanSorted (lt cm) e0 b j=scanSorted (lt cm) e0 b i∧i≤j∧j≤b) (λj=>[(0,.c (.ow 1000000 SZ d.size)),(1,.c (nI .i64 a)),(2,.c (nI .i64 b)),(3,.c (.fn g [])),(9,.c (nI .i64 j)),(10,.c (nI .i64 s))]) (λ_=>[(1000000,.row SZ (row e0))]) (λj=>b-j)
     i ⟨rfl,by omega,by omega⟩ ⟨rfl,rfl,rfl,rfl,rfl,rfl,HB⟩ ⟨rfl,HB⟩ (G2:=Nat) (λj=>scanSorted (lt cm) e0 b i=j∧i≤j∧j≤b) (λj=>[(0,.c (.ow 1000000 SZ d.size)),(1,.c (nI .i64 a)),(2,.c (nI .i64 b)),(3,.c (.fn g [])),(9,.c (nI .i64 j)),(10,.c (nI .i64 s))]) (λ_=>[(1000000,.row SZ (row e0))]) (λj hj=>?_) (λk hk=>?_)
    ·obtain ⟨j1,j2,j3⟩:=hj;refine ae (λh6=>?_) (λh6=>?_)
     ·refine .intro (by omega) (.intro (by omega) (X1 _ (row_get (n:=j) rfl (by omega)) ?_));refine X1 ((j-1:Nat):Int) (wI (by omega) (by omega) (by omega)) ?_;refine .intro (by omega) (.intro (by omega) (X1 _ (row_get (n:=j-1) rfl (by omega)) ?_));refine X1 _ (hc _ _) ?_;refine .intro rfl ?_;refine aP (λh7=>?_) (λh7=>?_)
      ·have h7':¬ cm e0[j]! e0[j-1]! < 0:=by simpa using h7
       rw[scanS_c (by omega) h7']at j1;refine X1 ((j+1:Nat):Int) (wI (by simp) (by omega) (by omega)) ?_;exact ⟨j+1,⟨j1,by omega,by omega⟩,by omega,⟨rfl,rfl,rfl,rfl,rfl,rfl,HB⟩,⟨rfl,HB⟩⟩
      ·have h7':cm e0[j]! e0[j-1]! < 0:=by simpa using h7
       rw[scanS_b h7']at j1;exact ⟨j,⟨j1.symm,j2,j3⟩,⟨rfl,rfl,rfl,rfl,rfl,rfl,HB⟩,⟨rfl,HB⟩⟩
     ·refine .intro rfl ?_;rw[scanS_a (by omega)]at j1;exact ⟨j,⟨j1.symm,j2,j3⟩,⟨rfl,rfl,rfl,rfl,rfl,rfl,HB⟩,⟨rfl,HB⟩⟩
    ·obtain ⟨k1,k2,k3⟩:=hk;simp only[k1]at i2;refine aT (λh6=>?_) (λh6=>?_)
     ·rw[if_pos (by omega)]at i2;rw[←i2];exact ⟨HB,SubO.of (l:=[(1000000,.row _ _)]) ⟨rfl,HB⟩,r1 rfl,HB⟩
     ·rw[if_neg (by omega)]at i2;refine X1 ((b-a:Nat):Int) (wI (by omega) (by omega) (by omega)) ?_;refine ae (λh7=>?_) (λh7=>?_)
      ·rw[if_pos (by omega)]at i2;rw[←i2];exact ⟨HB,SubO.of (l:=[(1000000,.row _ _)]) ⟨rfl,HB⟩,r1 rfl,HB⟩
      ·rw[if_neg (by omega)]at i2;refine X1 ((k-1:Nat):Int) (wI (by omega) (by omega) (by omega)) ?_;refine X1 ((k-1:Nat):Int) (wI (by omega) (by omega) (by omega)) ?_;refine .intro (by omega) (.intro (by omega) (X1 _ (row_get (d:=e0) (n:=k-1) rfl (by omega)) ?_));refine .intro (by omega) (.intro (by omega) (X1 _ (row_get (d:=e0) (n:=k) rfl (by omega)) ?_));refine .intro (by omega) (.intro (by omega) (X1 _ (row_get (d:=e0) (n:=k) rfl (by omega)) ?_));refine .intro (by omega) (.intro (by omega) (X1 _ (row_get2 (d:=e0) (y:=e0[k-1]!) (m:=k) (n:=k-1) rfl rfl (by omega)) ?_));refine .intro rfl ?_;have hrow:=row_swp (d:=e0) (i:=(k:Int)) (j:=((k-1:Nat):Int)) (m:=k) (n:=k-1) rfl rfl;have hsz:(swp e0 k (k-1)).size=d.size:=by rw[swp_size]; exact i3
       generalize swp e0 k (k-1)=e1 at *
       refine X1 ((k-a:Nat):Int) (wI (by omega) (by omega) (by omega)) ?_;refine ae (λh8=>?_) (λh8=>?_)
       ·rw[if_pos (show k-a≥2 by omega)]at i2;refine X1 ((k-1:Nat):Int) (wI (by omega) (by omega) (by omega)) ?_;refine b8 aj aa (G:=Nat × Array El) (λ(j,e)=>shiftDown (lt cm) j e=shiftDown (lt cm) (k-1) e1∧e.size=d.size∧j≤k-1) (λ(j,_)=>[(0,.c (.ow 1000000 SZ d.size)),(1,.c (nI .i64 a)),(2,.c (nI .i64 b)),(3,.c (.fn g [])),(9,.c (nI .i64 k)),(10,.c (nI .i64 s)),(11,.c (nI .i64 j))]) (λ(_,e)=>[(1000000,.row SZ (row e))]) (λ(j,_)=>j)
         (k-1,e1) ⟨rfl,hsz,by omega⟩ ⟨rfl,rfl,rfl,rfl,rfl,rfl,rfl,HB⟩ ⟨aB hrow,HB⟩ (λ(j,e) hj=>?_)
        obtain ⟨j1,j2,j3⟩:=hj;refine ae (λh9=>?_) (λh9=>?_)
        ·refine .intro (by omega) (.intro (by omega) (X1 _ (row_get (n:=j) rfl (by omega)) ?_));refine X1 ((j-1:Nat):Int) (wI (by omega) (by omega) (by omega)) ?_;refine .intro (by omega) (.intro (by omega) (X1 _ (row_get (n:=j-1) rfl (by omega)) ?_));refine X1 _ (hc _ _) ?_;refine .intro rfl ?_;refine aP (λha=>?_) (λha=>?_)
         ·have ha':¬ cm e[j]! e[j-1]! < 0:=by simpa using ha
          rw[shD_b ha']at j1;rw[←j1]at i2;refine X1 ((b-k:Nat):Int) (wI (by omega) (by omega) (by omega)) ?_;refine ae (λhb8=>?_) (λhb8=>?_)
          ·rw[if_pos (show b-k≥2 by omega)]at i2;refine X1 ((k+1:Nat):Int) (wI (by simp) (by omega) (by omega)) ?_;refine b8 aj aa (G:=Nat × Array El) (λ(j,e')=>shiftUp (lt cm) b j e'=shiftUp (lt cm) b (k+1) e∧e'.size=d.size∧k+1≤j∧j≤b) (λ(j,_)=>[(0,.c (.ow 1000000 SZ d.size)),(1,.c (nI .i64 a)),(2,.c (nI .i64 b)),(3,.c (.fn g [])),(9,.c (nI .i64 k)),(10,.c (nI .i64 s)),(12,.c (nI .i64 j))]) (λ(_,e')=>[(1000000,.row SZ (row e'))]) (λ(j,_)=>b-j)
            (k+1,e) ⟨rfl,j2,by omega,by omega⟩ ⟨rfl,rfl,rfl,rfl,rfl,rfl,rfl,HB⟩ ⟨rfl,HB⟩ (λ(q,e') hq=>?_)
           obtain ⟨q1,q2,q3,q4⟩:=hq;have fin:∀ e2:Array El,shiftUp (lt cm) b (k+1) e=e2→e2.size=d.size→s+1≤5∧partialIns (lt cm) a b (5-(s+1)) k e2=F∧e2.size=d.size∧a+1≤k∧k≤b:=λe2 g1 g2=>⟨by omega,by rw[←g1,show 5-(s+1)=4-s by omega]; exact i2,g2,by omega,by omega⟩
           refine ae (λhb9=>?_) (λhb9=>?_)
           ·refine .intro (by omega) (.intro (by omega) (X1 _ (row_get (n:=q) rfl (by omega)) ?_));refine X1 ((q-1:Nat):Int) (wI (by omega) (by omega) (by omega)) ?_;refine .intro (by omega) (.intro (by omega) (X1 _ (row_get (n:=q-1) rfl (by omega)) ?_));refine X1 _ (hc _ _) ?_;refine .intro rfl ?_;refine aP (λhba=>?_) (λhba=>?_)
            ·have hba':¬ cm e'[q]! e'[q-1]! < 0:=by simpa using hba
             rw[shU_b (by omega) hba']at q1;refine X1 ((s+1:Nat):Int) (wI (by simp) (by omega) (by omega)) ?_;exact ⟨(s+1,k,e'),fin e' q1.symm q2,by show 5-(s+1)<5-s; omega,⟨rfl,rfl,rfl,rfl,rfl,rfl,HB⟩,⟨rfl,HB⟩⟩
            ·have hba':cm e'[q]! e'[q-1]! < 0:=by simpa using hba
             rw[shU_c (by omega) hba']at q1;refine X1 ((q-1:Nat):Int) (wI (by omega) (by omega) (by omega)) ?_;refine X1 ((q-1:Nat):Int) (wI (by omega) (by omega) (by omega)) ?_;refine .intro (by omega) (.intro (by omega) (X1 _ (row_get (d:=e') (n:=q-1) rfl (by omega)) ?_));refine .intro (by omega) (.intro (by omega) (X1 _ (row_get (d:=e') (n:=q) rfl (by omega)) ?_));refine .intro (by omega) (.intro (by omega) (X1 _ (row_get (d:=e') (n:=q) rfl (by omega)) ?_));refine .intro (by omega) (.intro (by omega) (X1 _ (row_get2 (d:=e') (y:=e'[q-1]!) (m:=q) (n:=q-1) rfl rfl (by omega)) ?_));refine .intro rfl ?_;refine X1 ((q+1:Nat):Int) (wI (by simp) (by omega) (by omega)) ?_;exact ⟨(q+1,swp e' q (q-1)),⟨q1,by rw[swp_size]; exact q2,by omega,by omega⟩,by show b-(q+1)<b-q; omega,⟨rfl,rfl,rfl,rfl,rfl,rfl,rfl,HB⟩,⟨aB (row_swp (m:=q) (n:=q-1) rfl rfl),HB⟩⟩
           ·rw[shU_a (by omega)]at q1;refine X1 ((s+1:Nat):Int) (wI (by simp) (by omega) (by omega)) ?_;exact ⟨(s+1,k,e'),fin e' q1.symm q2,by show 5-(s+1)<5-s; omega,⟨rfl,rfl,rfl,rfl,rfl,rfl,HB⟩,⟨rfl,HB⟩⟩
          ·rw[if_neg (show ¬ b-k≥2 by omega)]at i2;refine X1 ((s+1:Nat):Int) (wI (by simp) (by omega) (by omega)) ?_;exact ⟨(s+1,k,e),⟨by omega,by rw[show 5-(s+1)=4-s by omega]; exact i2,j2,by omega,by omega⟩,by show 5-(s+1)<5-s; omega,⟨rfl,rfl,rfl,rfl,rfl,rfl,HB⟩,⟨rfl,HB⟩⟩
         ·have ha':cm e[j]! e[j-1]! < 0:=by simpa using ha
          rw[shD_c (by omega) ha']at j1;refine X1 ((j-1:Nat):Int) (wI (by omega) (by omega) (by omega)) ?_;refine X1 ((j-1:Nat):Int) (wI (by omega) (by omega) (by omega)) ?_;refine .intro (by omega) (.intro (by omega) (X1 _ (row_get (d:=e) (n:=j-1) rfl (by omega)) ?_));refine .intro (by omega) (.intro (by omega) (X1 _ (row_get (d:=e) (n:=j) rfl (by omega)) ?_));refine .intro (by omega) (.intro (by omega) (X1 _ (row_get (d:=e) (n:=j) rfl (by omega)) ?_));refine .intro (by omega) (.intro (by omega) (X1 _ (row_get2 (d:=e) (y:=e[j-1]!) (m:=j) (n:=j-1) rfl rfl (by omega)) ?_));refine .intro rfl ?_;refine X1 ((j-1:Nat):Int) (wI (by omega) (by omega) (by omega)) ?_;exact ⟨(j-1,swp e j (j-1)),⟨j1,by rw[swp_size]; exact j2,by omega⟩,by show j-1<j; omega,⟨rfl,rfl,rfl,rfl,rfl,rfl,rfl,HB⟩,⟨aB (row_swp (m:=j) (n:=j-1) rfl rfl),HB⟩⟩
        ·rw[shD_a (by omega)]at j1;rw[←j1]at i2;refine X1 ((b-k:Nat):Int) (wI (by omega) (by omega) (by omega)) ?_;refine ae (λhb8=>?_) (λhb8=>?_)
         ·rw[if_pos (show b-k≥2 by omega)]at i2;refine X1 ((k+1:Nat):Int) (wI (by simp) (by omega) (by omega)) ?_;refine b8 aj aa (G:=Nat × Array El) (λ(j,e')=>shiftUp (lt cm) b j e'=shiftUp (lt cm) b (k+1) e∧e'.size=d.size∧k+1≤j∧j≤b) (λ(j,_)=>[(0,.c (.ow 1000000 SZ d.size)),(1,.c (nI .i64 a)),(2,.c (nI .i64 b)),(3,.c (.fn g [])),(9,.c (nI .i64 k)),(10,.c (nI .i64 s)),(12,.c (nI .i64 j))]) (λ(_,e')=>[(1000000,.row SZ (row e'))]) (λ(j,_)=>b-j)
           (k+1,e) ⟨rfl,j2,by omega,by omega⟩ ⟨rfl,rfl,rfl,rfl,rfl,rfl,rfl,HB⟩ ⟨rfl,HB⟩ (λ(q,e') hq=>?_)
          obtain ⟨q1,q2,q3,q4⟩:=hq;have fin:∀ e2:Array El,shiftUp (lt cm) b (k+1) e=e2→e2.size=d.size→s+1≤5∧partialIns (lt cm) a b (5-(s+1)) k e2=F∧e2.size=d.size∧a+1≤k∧k≤b:=λe2 g1 g2=>⟨by omega,by rw[←g1,show 5-(s+1)=4-s by omega]; exact i2,g2,by omega,by omega⟩
          refine ae (λhb9=>?_) (λhb9=>?_)
          ·refine .intro (by omega) (.intro (by omega) (X1 _ (row_get (n:=q) rfl (by omega)) ?_));refine X1 ((q-1:Nat):Int) (wI (by omega) (by omega) (by omega)) ?_;refine .intro (by omega) (.intro (by omega) (X1 _ (row_get (n:=q-1) rfl (by omega)) ?_));refine X1 _ (hc _ _) ?_;refine .intro rfl ?_;refine aP (λhba=>?_) (λhba=>?_)
           ·have hba':¬ cm e'[q]! e'[q-1]! < 0:=by simpa using hba
            rw[shU_b (by omega) hba']at q1;refine X1 ((s+1:Nat):Int) (wI (by simp) (by omega) (by omega)) ?_;exact ⟨(s+1,k,e'),fin e' q1.symm q2,by show 5-(s+1)<5-s; omega,⟨rfl,rfl,rfl,rfl,rfl,rfl,HB⟩,⟨rfl,HB⟩⟩
           ·have hba':cm e'[q]! e'[q-1]! < 0:=by simpa using hba
            rw[shU_c (by omega) hba']at q1;refine X1 ((q-1:Nat):Int) (wI (by omega) (by omega) (by omega)) ?_;refine X1 ((q-1:Nat):Int) (wI (by omega) (by omega) (by omega)) ?_;refine .intro (by omega) (.intro (by omega) (X1 _ (row_get (d:=e') (n:=q-1) rfl (by omega)) ?_));refine .intro (by omega) (.intro (by omega) (X1 _ (row_get (d:=e') (n:=q) rfl (by omega)) ?_));refine .intro (by omega) (.intro (by omega) (X1 _ (row_get (d:=e') (n:=q) rfl (by omega)) ?_));refine .intro (by omega) (.intro (by omega) (X1 _ (row_get2 (d:=e') (y:=e'[q-1]!) (m:=q) (n:=q-1) rfl rfl (by omega)) ?_));refine .intro rfl ?_;refine X1 ((q+1:Nat):Int) (wI (by simp) (by omega) (by omega)) ?_;exact ⟨(q+1,swp e' q (q-1)),⟨q1,by rw[swp_size]; exact q2,by omega,by omega⟩,by show b-(q+1)<b-q; omega,⟨rfl,rfl,rfl,rfl,rfl,rfl,rfl,HB⟩,⟨aB (row_swp (m:=q) (n:=q-1) rfl rfl),HB⟩⟩
          ·rw[shU_a (by omega)]at q1;refine X1 ((s+1:Nat):Int) (wI (by simp) (by omega) (by omega)) ?_;exact ⟨(s+1,k,e'),fin e' q1.symm q2,by show 5-(s+1)<5-s; omega,⟨rfl,rfl,rfl,rfl,rfl,rfl,HB⟩,⟨rfl,HB⟩⟩
         ·rw[if_neg (show ¬ b-k≥2 by omega)]at i2;refine X1 ((s+1:Nat):Int) (wI (by simp) (by omega) (by omega)) ?_;exact ⟨(s+1,k,e),⟨by omega,by rw[show 5-(s+1)=4-s by omega]; exact i2,j2,by omega,by omega⟩,by show 5-(s+1)<5-s; omega,⟨rfl,rfl,rfl,rfl,rfl,rfl,HB⟩,⟨rfl,HB⟩⟩
       ·rw[if_neg (show ¬ k-a≥2 by omega)]at i2;refine X1 ((b-k:Nat):Int) (wI (by omega) (by omega) (by omega)) ?_;refine ae (λhb8=>?_) (λhb8=>?_)
        ·rw[if_pos (show b-k≥2 by omega)]at i2;refine X1 ((k+1:Nat):Int) (wI (by simp) (by omega) (by omega)) ?_;refine b8 aj aa (G:=Nat × Array El) (λ(j,e')=>shiftUp (lt cm) b j e'=shiftUp (lt cm) b (k+1) e1∧e'.size=d.size∧k+1≤j∧j≤b) (λ(j,_)=>[(0,.c (.ow 1000000 SZ d.size)),(1,.c (nI .i64 a)),(2,.c (nI .i64 b)),(3,.c (.fn g [])),(9,.c (nI .i64 k)),(10,.c (nI .i64 s)),(12,.c (nI .i64 j))]) (λ(_,e')=>[(1000000,.row SZ (row e'))]) (λ(j,_)=>b-j)
          (k+1,e1) ⟨rfl,hsz,by omega,by omega⟩ ⟨rfl,rfl,rfl,rfl,rfl,rfl,rfl,HB⟩ ⟨aB hrow,HB⟩ (λ(q,e') hq=>?_)
         obtain ⟨q1,q2,q3,q4⟩:=hq;have fin:∀ e2:Array El,shiftUp (lt cm) b (k+1) e1=e2→e2.size=d.size→s+1≤5∧partialIns (lt cm) a b (5-(s+1)) k e2=F∧e2.size=d.size∧a+1≤k∧k≤b:=λe2 g1 g2=>⟨by omega,by rw[←g1,show 5-(s+1)=4-s by omega]; exact i2,g2,by omega,by omega⟩
         refine ae (λhb9=>?_) (λhb9=>?_)
         ·refine .intro (by omega) (.intro (by omega) (X1 _ (row_get (n:=q) rfl (by omega)) ?_));refine X1 ((q-1:Nat):Int) (wI (by omega) (by omega) (by omega)) ?_;refine .intro (by omega) (.intro (by omega) (X1 _ (row_get (n:=q-1) rfl (by omega)) ?_));refine X1 _ (hc _ _) ?_;refine .intro rfl ?_;refine aP (λhba=>?_) (λhba=>?_)
          ·have hba':¬ cm e'[q]! e'[q-1]! < 0:=by simpa using hba
           rw[shU_b (by omega) hba']at q1;refine X1 ((s+1:Nat):Int) (wI (by simp) (by omega) (by omega)) ?_;exact ⟨(s+1,k,e'),fin e' q1.symm q2,by show 5-(s+1)<5-s; omega,⟨rfl,rfl,rfl,rfl,rfl,rfl,HB⟩,⟨rfl,HB⟩⟩
          ·have hba':cm e'[q]! e'[q-1]! < 0:=by simpa using hba
           rw[shU_c (by omega) hba']at q1;refine X1 ((q-1:Nat):Int) (wI (by omega) (by omega) (by omega)) ?_;refine X1 ((q-1:Nat):Int) (wI (by omega) (by omega) (by omega)) ?_;refine .intro (by omega) (.intro (by omega) (X1 _ (row_get (d:=e') (n:=q-1) rfl (by omega)) ?_));refine .intro (by omega) (.intro (by omega) (X1 _ (row_get (d:=e') (n:=q) rfl (by omega)) ?_));refine .intro (by omega) (.intro (by omega) (X1 _ (row_get (d:=e') (n:=q) rfl (by omega)) ?_));refine .intro (by omega) (.intro (by omega) (X1 _ (row_get2 (d:=e') (y:=e'[q-1]!) (m:=q) (n:=q-1) rfl rfl (by omega)) ?_));refine .intro rfl ?_;refine X1 ((q+1:Nat):Int) (wI (by simp) (by omega) (by omega)) ?_;exact ⟨(q+1,swp e' q (q-1)),⟨q1,by rw[swp_size]; exact q2,by omega,by omega⟩,by show b-(q+1)<b-q; omega,⟨rfl,rfl,rfl,rfl,rfl,rfl,rfl,HB⟩,⟨aB (row_swp (m:=q) (n:=q-1) rfl rfl),HB⟩⟩
         ·rw[shU_a (by omega)]at q1;refine X1 ((s+1:Nat):Int) (wI (by simp) (by omega) (by omega)) ?_;exact ⟨(s+1,k,e'),fin e' q1.symm q2,by show 5-(s+1)<5-s; omega,⟨rfl,rfl,rfl,rfl,rfl,rfl,HB⟩,⟨rfl,HB⟩⟩
        ·rw[if_neg (show ¬ b-k≥2 by omega)]at i2;refine X1 ((s+1:Nat):Int) (wI (by simp) (by omega) (by omega)) ?_;exact ⟨(s+1,k,e1),⟨by omega,by rw[show 5-(s+1)=4-s by omega]; exact i2,hsz,by omega,by omega⟩,by show 5-(s+1)<5-s; omega,⟨rfl,rfl,rfl,rfl,rfl,rfl,HB⟩,⟨aB hrow,HB⟩⟩
   ·rw[show 5-s=0 by omega,partialIns]at i2;exact ⟨e0,i2.symm,HB,⟨rfl,HB⟩⟩
  ·rw[he];exact ⟨HB,SubO.of (l:=[(1000000,.row _ _)]) ⟨rfl,HB⟩,r1 rfl,HB⟩
 exact key _ rfl
end Go.Proofs.YtgceikecdedfcaaGreat.Pv.SrtI
