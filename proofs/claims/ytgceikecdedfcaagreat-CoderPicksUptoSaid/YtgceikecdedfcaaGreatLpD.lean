/- Parts of a proof, joined: PvJ PvK PvU. -/
import Derived.Test.YtgceikecdedfcaaGreatLpC
namespace Go.Proofs.YtgceikecdedfcaaGreat.Pv
open Go
section
inductive UD where
 | sl (e:Nat)
 | arr (n e:Nat)
 | st (fs:List (Nat × Nat × Nat))
 | str
 | int (k:IntKind)
 | bool
 | ptr (e:Nat)
 | mp (k e:Nat) (D:TypeDesc) (agg:Bool)
 | oth
structure TD where
 und:UD
 sz:Nat
 bt:Nat
 agg:Bool
 z:List Value
inductive Ty where
 | leaf
 | node (k:Nat) (v:TD) (l r:Ty)
 | own (fs:List Nat) (T:Ty)
def Ty.get:Ty→Nat→Option TD
 | .leaf,_=>none
 | .own _ T,t=>Ty.get T t
 | .node k v l r,t=>bif Nat.beq k t then some v else bif Nat.blt t k then Ty.get l t else Ty.get r t
def UD.ok (P:Program) (t:Nat):UD→Prop
 | .sl e=>TSl P t e
 | .arr n e=>TArr P t n e
 | .st fs=>(∀ f off ft n,fs[f]? = some (off,ft,n)→TFld P t f off ft n)∧TPl P t (fs.map λx=>(x.1,x.2.2))
 | .str=>P.underlying t=some .string
 | .int k=>P.underlying t=some (.int k)
 | .bool=>P.underlying t=some .bool
 | .ptr e=>P.underlying t=some (.pointer e)
 | .mp k e D agg=>TMap P t k e∧P.underlying k=some D∧TZ P e agg
 | .oth=>True
def TD.ok (P:Program) (t:Nat) (d:TD):Prop:=TI P t d.sz d.bt d.agg d.z∧d.und.ok P t
def Ty.ok (P:Program) (T:Ty):Prop:=∀ t d,T.get t=some d→d.ok P t
def Ty.All (P:Program):Ty→Prop
 | .leaf=>True
 | .node k v l r=>v.ok P k∧l.All P∧r.All P
 | .own _ T=>T.All P
theorem Ty.ok_of {P:Program}:∀ {T:Ty},T.All P→T.ok P
 | .leaf,_,t,d,h=>by simp[Ty.get]at h
 | .own _ T,ha,t,d,h=>Ty.ok_of (T:=T) ha t d h
 | .node k v l r,ha,t,d,h=>by
  simp only[Ty.get]at h
  cases hb:Nat.beq k t with
  | true=>rw[hb]at h; cases h; rw[←Eu hb]; exact ha.1
  | false=>
   rw[hb]at h
   cases hl:Nat.blt t k with
   | true=>rw[hl]at h; exact Ty.ok_of ha.2.1 t d h
   | false=>rw[hl]at h; exact Ty.ok_of ha.2.2 t d h
theorem Ty.own_ok {P:Program} {T:Ty} (fs:List Nat) (h:T.ok P):(Ty.own fs T).ok P:=h
def vF:Ty→Nat→Bool
 | .own fs _,f=>bF f fs
 | _,_=>false
def kEq:IntKind→IntKind→Bool
 | .i8,.i8=>true | .i16,.i16=>true | .i32,.i32=>true | .i64,.i64=>true
 | .u8,.u8=>true | .u16,.u16=>true | .u32,.u32=>true | .u64,.u64=>true
 | _,_=>false
theorem nj {a b:IntKind} (h:kEq a b=true):a=b:=by cases a<;>cases b<;>first | rfl | cases h
abbrev Kt:=Option AV→Eff→Prop
def ak (_:String):Prop:=False
def BM (X Y:Prop) (b:Bool):Prop:=match b with | true=>X | false=>Y
theorem BM.out {b:Bool} {X Y:Prop} (h:BM X Y b):(b=true→X)∧(b=false→Y):=by
 cases b with
 | true=>exact ⟨λ_=>h,λh=>by cases h⟩
 | false=>exact ⟨λh=>(by cases h),λ_=>h⟩
theorem aP {b:Bool} {X Y:Prop} (h1:b=true→X) (h2:b=false→Y):BM X Y b:=by
 cases b with
 | true=>exact h1 rfl
 | false=>exact h2 rfl
theorem ae {p:Prop} [Decidable p] {X Y:Prop} (h1:p→X) (h2:¬ p→Y):BM X Y (decide p):=aP (λh=>h1 (of_decide_eq_true h)) (λh=>h2 (of_decide_eq_false h))
theorem aT {m n:Int} {X Y:Prop} (h1:m=n→X) (h2:m≠n→Y):BM X Y (m==n):=aP (λh=>h1 (by simpa using h)) (λh=>h2 (by simpa using h))
theorem ez {m n:Int} {X Y:Prop} (h1:m≠n→X) (h2:m=n→Y):BM X Y (m != n):=aP (λh=>h1 (by simpa using h)) (λh=>h2 (by simpa using h))
theorem DB {b:Bool} {X Y:Prop} (hb:b=true) (h:X):BM X Y b:=by subst hb; exact h
theorem tx {b:Bool} {X Y:Prop} (hb:b=false) (h:Y):BM X Y b:=by subst hb; exact h
theorem X1 {α:Type} {p q:α→Prop} (a:α) (h1:p a) (h2:q a):∃ a,p a∧q a:=⟨a,h1,h2⟩
theorem wr {k:IntKind} {n:Int} (h:inR k n):k.wrap n=n:=aY h
theorem wi {n:Int} (h1:-9223372036854775808≤n) (h2:n≤9223372036854775807):IntKind.i64.wrap n=n:=aY ⟨h1,h2⟩
def Cw (E:Env) (op:BinOp) (x y:Operand) (K:Kt):Prop:=
 match E.ev x,E.ev y with
 | some (.c (.sc (.int k m))),some (.c (.sc (.int k' n)))=>
  bif kEq k k' then
   match op with
   | .add=>∃ r,k.wrap (m+n)=r∧K (some (.c (.sc (.int k r)))) .no
   | .sub=>∃ r,k.wrap (m-n)=r∧K (some (.c (.sc (.int k r)))) .no
   | .mul=>∃ r,k.wrap (m*n)=r∧K (some (.c (.sc (.int k r)))) .no
   | .quo=>n≠0∧∃ r,m.tdiv n=r∧inR k r∧K (some (.c (.sc (.int k r)))) .no
   | .rem=>n≠0∧∃ r,m.tmod n=r∧inR k r∧K (some (.c (.sc (.int k r)))) .no
   | .and=>∃ r,k.wrap (BitVec.ofInt k.bits m&&&BitVec.ofInt k.bits n).toNat=r∧K (some (.c (.sc (.int k r)))) .no
   | .or=>∃ r,k.wrap (BitVec.ofInt k.bits m|||BitVec.ofInt k.bits n).toNat=r∧K (some (.c (.sc (.int k r)))) .no
   | .xor=>∃ r,k.wrap (BitVec.ofInt k.bits m ^^^ BitVec.ofInt k.bits n).toNat=r∧K (some (.c (.sc (.int k r)))) .no
   | .andNot=>∃ r,k.wrap (BitVec.ofInt k.bits m &&& ~~~ BitVec.ofInt k.bits n).toNat=r∧K (some (.c (.sc (.int k r)))) .no
   | .eql=>K (some (.c (.sc (.bool (m==n))))) .no
   | .neq=>K (some (.c (.sc (.bool (m != n))))) .no
   | .lss=>K (some (.c (.sc (.bool (decide (m<n)))))) .no
   | .leq=>K (some (.c (.sc (.bool (decide (m≤n)))))) .no
   | .gtr=>K (some (.c (.sc (.bool (decide (m>n)))))) .no
   | .geq=>K (some (.c (.sc (.bool (decide (m≥n)))))) .no
   | .shl=>0≤n∧∃ r,k.wrap (m*2^min n.toNat k.bits)=r∧K (some (.c (.sc (.int k r)))) .no
   | .shr=>0≤n∧∃ r,m.fdiv (2^min n.toNat k.bits)=r∧inR k r∧K (some (.c (.sc (.int k r)))) .no
  else
   match op with
   | .shl=>0≤n∧∃ r,k.wrap (m*2^min n.toNat k.bits)=r∧K (some (.c (.sc (.int k r)))) .no
   | .shr=>0≤n∧∃ r,m.fdiv (2^min n.toNat k.bits)=r∧inR k r∧K (some (.c (.sc (.int k r)))) .no
   | _=>ak "kinds"
 | some (.c (.sc (.string p))),some (.c (.sc (.string q)))=>
  match op with
  | .eql=>K (some (.c (.sc (.bool (p.toList==q.toList))))) .no
  | .neq=>K (some (.c (.sc (.bool (!(p.toList==q.toList)))))) .no
  | .add=>p.size+q.size≤140737488355328∧K (some (.c (.sc (.string (p++q))))) .no
  | .lss=>K (some (.c (.sc (.bool (Op.bytesLess p.toList q.toList))))) .no
  | _=>ak "strings"
 | _,_=>ak "binOp"
def rt (T:Ty) (E:Env) (O:Objs) (t:Nat) (x:Operand) (K:Kt):Prop:=
 match T.get t,E.ev x with
 | some td,some (.c (.ea r sz i off))=>match O.get r with
  | some (.row sz' els)=>bif Nat.beq sz sz' then ∃ el,els[i]? = some el∧(match mkA td.agg ((el.drop off).take td.sz) with
   | some y=>bif Nat.ble td.sz (el.drop off).length then K (some (.o y)) .no else ak "load"
   | none=>ak "load") else ak "load"
  | some (.rowO sz' els _)=>bif Nat.beq sz sz' then ∃ el,els[i]? = some el∧(match mkA td.agg ((el.drop off).take td.sz) with
   | some y=>bif Nat.ble td.sz (el.drop off).length then K (some (.o y)) .no else ak "load"
   | none=>ak "load") else ak "load"
  | _=>ak "load"
 | some td,some (.c p)=>match atC O p with
  | some xs=>match mkA td.agg (xs.take td.sz) with
   | some y=>bif Nat.ble td.sz xs.length then K (some (.o y)) .no else ak "load"
   | none=>ak "load"
  | none=>ak "load"
 | _,_=>ak "load"
def tz (T:Ty) (E:Env) (O:Objs) (t:Nat) (x v:Operand) (K:Kt):Prop:=
 match T.get t,E.ev x,E.ev v with
 | some td,some (.c (.ad k off)),some (.o y)=>match O.get k with
  | some (.var cells)=>bif Nat.beq y.cells.length td.sz&&Nat.ble (off+td.sz) cells.length then K none (.upd k (.var (spl cells off y.cells))) else ak "store"
  | _=>ak "store"
 | some td,some (.c (.ea r sz i off)),some (.o y)=>match O.get r with
  | some (.row sz' els)=>bif Nat.beq sz sz'&&Nat.beq y.cells.length td.sz&&Nat.ble (off+td.sz) sz&&closedL y.cells then ∃ el,els[i]? = some el∧K none (.upd r (.row sz (els.set i (spl el off y.cells)))) else ak "store"
  | some (.rowO sz' els ids)=>bif Nat.beq sz sz'&&Nat.beq y.cells.length td.sz&&Nat.ble (off+td.sz) sz then ∃ el,els[i]? = some el∧K none (.upd r (.rowO sz (els.set i (spl el off y.cells)) (idsL y.cells++ids))) else ak "store"
  | _=>ak "store"
 | _,_,_=>ak "store"
def eN (r:Nat):Objs→Bool
 | []=>Nat.blt r 1000000
 | (_,none)::O=>eN r O
 | (_,some (.var cells))::O=>!(cW r cells)&&eN r O
 | (_,some (.rowO _ _ ids))::O=>!(bF r ids)&&eN r O
 | (_,some _)::O=>eN r O
theorem aQ {r:Nat}:∀ {O:Objs},eN r O=true→NoML r O
 | [],h=>EG (G5 _) (ER h)
 | (_,none)::O,h=>aQ (O:=O) h
 | (_,some (.var cells))::O,h=>by
  simp only[eN,Ex,FO]at h;exact ⟨h.1,aQ h.2⟩
 | (_,some (.rowO _ _ ids))::O,h=>by
  simp only[eN,Ex,FO]at h;exact ⟨h.1,aQ h.2⟩
 | (_,some (.row _ _))::O,h=>⟨HB,aQ (O:=O) h⟩
 | (_,some (.mp _ _ _))::O,h=>⟨HB,aQ (O:=O) h⟩
 | (_,some (.me _ _))::O,h=>⟨HB,aQ (O:=O) h⟩
 | (_,some (.abs _))::O,h=>⟨HB,aQ (O:=O) h⟩
def tA (T:Ty) (E:Env) (t:Nat) (x y:Operand) (K:Kt):Prop:=
 match T.get t,E.ev x,E.ev y with
 | some ⟨.sl e,_,_,_,_⟩,some (.c (.sl sz els)),some (.c (.sc (.int _ i)))=>match T.get e with
  | some td=>bif Nat.beq sz td.sz then 0≤i∧∃ el,els[i.toNat]? = some el∧K (some (.c (.rd el))) .no else ak "index"
  | none=>ak "index"
 | some ⟨.sl e,_,_,_,_⟩,some (.c (.ow r sz n)),some (.c (.sc (.int _ i)))=>match T.get e with
  | some td=>bif Nat.beq sz td.sz then 0≤i∧i<n∧K (some (.c (.ea r sz i.toNat 0))) .no else ak "index"
  | none=>ak "index"
 | some ⟨.sl e,_,_,_,_⟩,some (.c (.os r sz lo n)),some (.c (.sc (.int _ i)))=>match T.get e with
  | some td=>bif Nat.beq sz td.sz then 0≤i∧i<n∧K (some (.c (.ea r sz (lo+i.toNat) 0))) .no else ak "index"
  | none=>ak "index"
 | some ⟨.arr n e,_,_,_,_⟩,some (.c (.ad q off)),some (.c (.sc (.int _ i)))=>match T.get e with
  | some td=>0≤i∧i<n∧K (some (.c (.ad q (off+i.toNat*td.sz)))) .no
  | none=>ak "index"
 | some ⟨.arr n e,_,_,_,_⟩,some (.c (.rd cells)),some (.c (.sc (.int _ i)))=>match T.get e with
  | some td=>0≤i∧i<n∧K (some (.c (.rd (cells.drop (i.toNat*td.sz))))) .no
  | none=>ak "index"
 | _,_,_=>ak "index"
def jB (T:Ty) (E:Env) (s:Nat) (x:Operand) (f:Nat) (K:Kt):Prop:=
 match T.get s,E.ev x with
 | some ⟨.st fs,_,_,_,_⟩,some (.c p)=>match fs[f]? with
  | some (off,_,n+1)=>match p with
   | .ad k o=>K (some (.c (.ad k (o+off)))) .no
   | .ea r sz i o=>K (some (.c (.ea r sz i (o+off)))) .no
   | .rd cells=>K (some (.c (.rd (cells.drop off)))) .no
   | _=>ak "fieldAddr"
  | _=>ak "fieldAddr"
 | _,_=>ak "fieldAddr"
def tB (T:Ty) (E:Env) (t:Nat) (x:Operand) (lo hi:Option Operand) (K:Kt):Prop:=
 match T.get t,E.ev x,dz E lo,dz E hi with
 | some ⟨.sl e,_,_,_,_⟩,some (.c (.sl sz els)),some l,some h=>match T.get e with
  | some td=>bif Nat.beq sz td.sz then ∃ l' h':Nat,l.getD 0=l'∧h.getD els.length=h'∧l'≤h'∧h'≤els.length∧K (some (.c (.sl sz ((els.drop l').take (h'-l'))))) .no else ak "slice"
  | none=>ak "slice"
 | some ⟨.sl e,_,_,_,_⟩,some (.c (.ow r sz n)),some l,some h=>match T.get e with
  | some td=>bif Nat.beq sz td.sz then ∃ l' h':Nat,l.getD 0=l'∧h.getD n=h'∧h'≤n∧0<n∧((l'=h'∧K (some (.c (.sl sz []))) .no)∨(l'<h'∧K (some (.c (.os r sz l' (h'-l')))) .no)) else ak "slice"
  | none=>ak "slice"
 | some ⟨.sl e,_,_,_,_⟩,some (.c (.os r sz lo0 n)),some l,some h=>match T.get e with
  | some td=>bif Nat.beq sz td.sz then ∃ l' h':Nat,l.getD 0=l'∧h.getD n=h'∧h'≤n∧((l'=h'∧K (some (.c (.sl sz []))) .no)∨(l'<h'∧K (some (.c (.os r sz (lo0+l') (h'-l')))) .no)) else ak "slice"
  | none=>ak "slice"
 | some ⟨.str,_,_,_,_⟩,some (.c (.sc (.string s))),some l,some h=>∃ l' h':Nat,l.getD 0=l'∧h.getD s.size=h'∧l'≤h'∧h'≤s.size∧K (some (.c (.sc (.string (s.extract l' h'))))) .no
 | _,_,_,_=>ak "slice"
def nk (T:Ty) (E:Env) (O:Objs) (b:Builtin) (args:List Operand) (ts:List Nat) (K:Kt):Prop:=
 match b,args,ts with
 | .len,[x],[t]=>match T.get t,E.ev x with
  | some ⟨.sl _,_,_,_,_⟩,some (.c p)=>match nc p with
   | some n=>n≤140737488355328∧K (some (.c (.sc (.int .i64 n)))) .no
   | none=>ak "len"
  | some ⟨.str,_,_,_,_⟩,some (.c (.sc (.string s)))=>K (some (.c (.sc (.int .i64 s.size)))) .no
  | _,_=>ak "len"
 | .append,[x,y],[t,t2]=>match T.get t,T.get t2,E.ev x,E.ev y with
  | some ⟨.sl e,_,_,_,_⟩,some ⟨.sl _,_,_,_,_⟩,some (.c (.ow r sz n)),some (.c p2)=>match T.get e,O.get r,slC O sz p2 with
   | some td,some (.row sz' els),some els2=>bif Nat.beq sz sz'&&Nat.beq sz td.sz&&Nat.beq td.z.length sz&&eN r O then
     n=els.length∧(els.length+els2.length+768)*td.bt≤17592186044416∧els.length+els2.length≤35184372088832∧aA els∧aA els2∧K (some (.c (.ow r sz (els++els2).length))) (.app r (.row sz (els++els2))) else ak "append"
   | _,_,_=>ak "append"
  | _,_,_,_=>ak "append"
 | .max,[x,y],_=>match E.ev x,E.ev y with
  | some (.c (.sc (.int k m))),some (.c (.sc (.int k' n)))=>bif kEq k k' then K (some (.c (.sc (.int k (if n>m then n else m))))) .no else ak "max"
  | _,_=>ak "max"
 | .min,[x,y],_=>match E.ev x,E.ev y with
  | some (.c (.sc (.int k m))),some (.c (.sc (.int k' n)))=>bif kEq k k' then K (some (.c (.sc (.int k (if n<m then n else m))))) .no else ak "min"
  | _,_=>ak "min"
 | _,_,_=>ak "builtin"
def callS (P:Program) (E:Env) (O:Objs) (f:FuncId) (more:List A1) (args:List Operand) (K:Kt):Prop:=
 match E.evs args with
 | some l=>bif az (l++more) then ∃ res,Ct P f (l++more) res∧(bif az res then K (some (cw res)) .no else ak "call")
  else ∃ res,Ct P f ((l++more).map (ng O)) res∧(bif res.all rq then K (some (cw res)) .no else ak "call")
 | none=>ak "call"
def nl (sz:Nat):List A1→Bool
 | []=>true
 | y::l=>Nat.beq y.cells.length sz&&closedL y.cells&&nl sz l
theorem fQ {sz:Nat}:∀ {l:List A1},nl sz l=true→∀ y,y∈l→y.cells.length=sz∧closedL y.cells=true
 | [],_,y,h=>by simp at h
 | x::l,h,y,hy=>by
  simp only[nl,Ex]at h;simp only[E9]at hy;rcases hy with rfl | hy
  ·exact ⟨Eu h.1.1,h.1.2⟩
  ·exact fQ h.2 y hy
def kb:Nat→List Nat→Bool
 | _,[]=>true
 | n,i::l=>Nat.beq i n&&kb (n+1) l
theorem gG:∀ {l:List Nat} {n:Nat},kb n l=true→l=List.range' n l.length
 | [],_,_=>rfl
 | i::l,n,h=>by
  simp only[kb,Ex]at h;rw[E7,List.range'_succ,←gG h.2,Eu h.1]
def opS (P:Program) (T:Ty) (E:Env) (O:Objs) (d:Option Tmp) (op:Op) (K:Kt):Prop:=
 match op with
 | .move x=>match E.ev x with | some a=>K (some a) .no | none=>ak "move"
 | .assign x=>match E.ev x with | some a=>K (some a) .no | none=>ak "assign"
 | .pick c x y=>match E.ev c with
  | some (.c (.sc (.bool b)))=>BM (b:=b) (match E.ev x with | some a=>K (some a) .no | none=>ak "pick") (match E.ev y with | some a=>K (some a) .no | none=>ak "pick")
  | _=>ak "pick"
 | .alloc t=>match T.get t,d with
  | some td,some k=>bif d9 td.z&&eN k O then K (some (.c (.ad k 0))) (.new k (.var (cz td.z))) else ak "alloc"
  | _,_=>ak "alloc"
 | .box _ x=>match E.ev x,d with
  | some (.o y),some k=>bif !(y.ment k)&&eN k O then K (some (.c (.ad k 0))) (.new k (.var y.cells)) else ak "box"
  | _,_=>ak "box"
 | .build t parts=>match T.get t,E.evs (parts.toList.map (·.2)) with
  | some ⟨.st fs,_,_,true,z⟩,some l=>match lU ((fs.map λx=>(x.1,x.2.2))[·]?) (cz z) ((parts.toList.map (·.1)).zip l) with
   | some r=>bif d9 z then K (some (.ag r)) .no else ak "build"
   | none=>ak "build"
  | _,_=>ak "build"
 | .buildSlice t len parts=>match T.get t,E.evs (parts.toList.map (·.2)),d with
  | some ⟨.sl e,_,_,_,_⟩,some l,some k=>match T.get e with
   | some td=>bif kb 0 (parts.toList.map (·.1))&&Nat.beq l.length len&&Nat.beq td.z.length td.sz&&nl td.sz l&&Nat.ble (len*td.sz) 16777216&&Nat.ble len 16777216&&eN k O then
     K (some (.c (.ow k td.sz (l.map A1.cells).length))) (.new k (.row td.sz (l.map A1.cells))) else ak "buildSlice"
   | none=>ak "buildSlice"
  | _,_,_=>ak "buildSlice"
 | .makeSlice t x y=>match T.get t,E.ev x,E.ev y,d with
  | some ⟨.sl e,_,_,_,_⟩,some (.c (.sc (.int .i64 n))),some (.c (.sc (.int .i64 c))),some k=>match T.get e with
   | some td=>bif d9 td.z&&Nat.beq td.z.length td.sz&&eN k O then 0≤n∧n≤c∧c≤35184372088832∧(td.bt≤8∨c*td.bt≤281474976710656)∧K (some (.c (.ow k td.sz n.toNat))) (.new k (.row td.sz (List.replicate n.toNat (cz td.z)))) else ak "makeSlice"
   | none=>ak "makeSlice"
  | _,_,_,_=>ak "makeSlice"
 | .load t x=>rt T E O t x K
 | .store t x v=>tz T E O t x v K
 | .nilCheck x=>match E.ev x with
  | some (.c p)=>bif B5 p then K (some (.c p)) .no else ak "nilCheck"
  | _=>ak "nilCheck"
 | .binOp op _ x y _=>Cw E op x y K
 | .unOp .not _ x=>match E.ev x with
  | some (.c (.sc (.bool b)))=>K (some (.c (.sc (.bool (!b))))) .no
  | _=>ak "not"
 | .unOp .neg _ x=>match E.ev x with
  | some (.c (.sc (.int k n)))=>∃ r,0-n=r∧inR k r∧K (some (.c (.sc (.int k r)))) .no
  | _=>ak "neg"
 | .convert s t x=>match T.get s,T.get t,E.ev x with
  | some ⟨.int _,_,_,_,_⟩,some ⟨.int k',_,_,_,_⟩,some (.c (.sc (.int _ n)))=>∃ r,k'.wrap n=r∧K (some (.c (.sc (.int k' r)))) .no
  | _,_,_=>ak "convert"
 | .makeFunc (.func f) first caps=>match first.toList,E.evs caps.toList with
  | [],some l=>∃ xs:List PC,l=xs.map .c∧K (some (.c (.fn f xs))) .no
  | _,_=>ak "makeFunc"
 | .slice t x lo hi none=>tB T E t x lo hi K
 | .fieldAddr s x f=>jB T E s x f K
 | .field s x f=>match T.get s,E.ev x with
  | some ⟨.st fs,_,_,_,_⟩,some (.o (.ag l))=>match fs[f]? with
   | some (off,ft,_)=>match T.get ft with
    | some td=>match mkA td.agg ((l.drop off).take td.sz) with
     | some y=>bif Nat.ble (off+td.sz) l.length then K (some (.o y)) .no else ak "field"
     | none=>ak "field"
    | none=>ak "field"
   | none=>ak "field"
  | _,_=>ak "field"
 | .indexAddr t x y=>tA T E t x y K
 | .index t x y=>match T.get t,E.ev x,E.ev y with
  | some ⟨.str,_,_,_,_⟩,some (.c (.sc (.string s))),some (.c (.sc (.int _ i)))=>0≤i∧∃ b,s.data[i.toNat]? = some b∧K (some (.c (.sc (.int .u8 b.toNat)))) .no
  | _,_,_=>ak "index"
 | .extract x i=>match E.ev x with
  | some (.tup l)=>match l[i]? with | some y=>K (some (.o y)) .no | none=>ak "extract"
  | _=>ak "extract"
 | .call ⟨.builtin b,args,ts⟩=>nk T E O b args.toList ts.toList K
 | .call ⟨.value (.func f),args,_⟩=>callS P E O f [] args.toList K
 | .call ⟨.value (.tmp t),args,_⟩=>match E.get t,E.evs args.toList with
  | some (.c (.fn f caps)),some l=>∃ res,Ct P f (l++caps.map .c) res∧(bif az res then K (some (cw res)) .no else ak "call")
  | _,_=>ak "callV"
 | _=>ak "op"
end
section
section
variable {P:Program} {T:Ty} {E:Env} {O:Objs} {d:Option Tmp} {ty:TypeId} {pos:String} {af:Array Edge} {g:Option (Nat × Bool)} {K:Kt}
def tC:Op→Bool
 | .move _=>false
 | .assign _=>false
 | .pick _ _ _=>false
 | .extract _ _=>false
 | .binOp _ _ _ _ _=>false
 | .fieldAddr _ _ _=>false
 | .indexAddr _ _ _=>false
 | .slice _ _ _ _ _=>false
 | _=>true
def Eff.prs:Eff→List (Nat × Ob)
 | .no=>[]
 | .new k o=>[(k,o)]
 | .upd k o=>[(k,o)]
 | .app k o=>[(k,o)]
 | .apk r o j oj=>[(j,oj),(r,o)]
def Eff.keys (eff:Eff):List Nat:=eff.prs.map (·.1)
def ed (q:Nat):List (Nat × Ob)→Option Ob
 | []=>none
 | (k,o)::l=>bif Nat.beq k q then some o else ed q l
def Eff.at' (eff:Eff) (q:Nat):Option Ob:=ed q eff.prs
def Eff.hk (eff:Eff) (q:Nat):Prop:=(eff.at' q).isSome=true
instance (eff:Eff) (q:Nat):Decidable (eff.hk q):=inferInstanceAs (Decidable (_=true))
theorem o6 {q:Nat}:∀ {l:List (Nat × Ob)},(ed q l).isSome=true→q∈l.map (·.1)
 | [],h=>by cases h
 | (k,o)::l,h=>by
  simp only[ed]at h
  cases hb:Nat.beq k q with
  | true=>rw[←Eu hb]; simp
  | false=>rw[hb]at h; exact EV _ (o6 h)
theorem o7 {q:Nat}:∀ {l:List (Nat × Ob)},q∈l.map (·.1)→(ed q l).isSome=true
 | [],h=>by simp at h
 | (k,o)::l,h=>by
  simp only[ed]
  cases hb:Nat.beq k q with
  | true=>rfl
  | false=>
   simp only[Fg,E9]at h;rcases h with h | h
   ·rw[h,EP]at hb; cases hb
   ·exact o7 h
theorem Eff.hk_mem {eff:Eff} {q:Nat} (h:eff.hk q):q∈eff.keys:=o6 h
theorem Eff.mem_hk {eff:Eff} {q:Nat} (h:q∈eff.keys):eff.hk q:=o7 h
def Eff.sk:Eff→Option Nat
 | .apk _ _ j _=>some j
 | _=>none
def Eff.cut (O:Objs):Eff→Objs
 | .apk _ _ j oj=>O.set j oj
 | _=>O
structure Agr (E:Env) (O:Objs) (E':Env) (O':Objs) (op:Op) (eff:Eff):Prop where
 e:∀ x a,x∈op.operands.toList→E.ev x=some a→E'.ev x=some a
 o:tC op=true→∀ x a k,x∈op.operands.toList→E.ev x=some a→a.ment k=true→O'.get k=O.get k
 n:∀ k,eff.id=some k→NoM k (eff.cut O')
 u:∀ k,eff.hk k→O'.get k=O.get k
theorem Agr.refl {op:Op} {eff:Eff} (h:∀ k,eff.id=some k→NoM k (eff.cut O)):Agr E O E O op eff:=⟨λ_ _ _ h=>h,λ_ _ _ _ _ _ _=>rfl,h,λ_ _=>rfl⟩
def Out (P:Program) (E:Env) (O:Objs) (o:Oper) (K:Kt):Prop:=
 ∃ av eff,(∀ E' O',Agr E O E' O' o.op eff→Step P E' O' o av eff)∧(∀ k,eff.id=some k→NoM k (eff.cut O))∧K av eff
theorem nn {k:Nat} (h:Eff.id .no=some k):NoM k (Eff.cut O .no):=by cases h
theorem nu {k q:Nat} {o:Ob} (h:Eff.id (.upd q o)=some k):NoM k (Eff.cut O (.upd q o)):=by cases h
theorem nw {k q:Nat} {o:Ob} (hm:NoM q O) (h:Eff.id (.new q o)=some k):NoM k (Eff.cut O (.new q o)):=by cases h; exact hm
theorem na {k q:Nat} {o:Ob} (hm:NoM q O) (h:Eff.id (.app q o)=some k):NoM k (Eff.cut O (.app q o)):=by cases h; exact hm
theorem ln {O':Objs} {p:PC} (h:∀ k,p.ment k=true→O'.get k=O.get k):atC O' p=atC O p:=by
 cases p with
 | ad k off=>simp only[atC,h k (EP _)]
 | ea r sz i off=>simp only[atC,h r (EP _)]
 | _=>rfl
theorem iQ {O':Objs} {p:PC} {sz:Nat} (h:∀ k,p.ment k=true→O'.get k=O.get k):slC O' sz p=slC O sz p:=by
 cases p with
 | ow r sz n=>simp only[slC,h r (EP _)]
 | os r sz lo n=>simp only[slC,h r (EP _)]
 | sc v=>cases v<;>first | rfl | (rename_i a n c; cases a<;>cases n<;>cases c<;>rfl)
 | _=>rfl
theorem lW {O':Objs} {p:PC} (h:∀ k,p.ment k=true→O'.get k=O.get k):eM O' p=eM O p:=by
 cases p with
 | ow r sz n=>simp only[eM,h r (EP _)]
 | os r sz lo n=>simp only[eM,h r (EP _)]
 | ad k off=>simp only[eM,h k (EP _)]
 | _=>rfl
theorem dq {E':Env}:∀ {xs:List Operand} {l:List A1},(∀ x a,x∈xs→E.ev x=some a→E'.ev x=some a)→E.evs xs=some l→E'.evs xs=some l
 | [],_,_,h=>h
 | x::xs,l,h,hl=>by
  simp only[Env.evs]at hl ⊢
  cases hx:E.ev x with
  | none=>rw[hx]at hl; simp at hl
  | some a=>
   cases a with
   | tup _=>rw[hx]at hl; simp at hl
   | o a=>
    cases hxs:E.evs xs with
    | none=>rw[hx,hxs]at hl; simp at hl
    | some l'=>rw[h x _ (by simp) hx,dq (λy b hy=>h y b (by simp[hy])) hxs]; rw[hx,hxs]at hl; exact hl
theorem bG {E':Env} {x:Option Operand} {n:Option Int} (h:∀ y a,x=some y→E.ev y=some a→E'.ev y=some a) (hb:dz E x=some n):dz E' x=some n:=by
 cases x with
 | none=>exact hb
 | some y=>
  cases hy:E.ev y with
  | none=>simp[dz,hy]at hb
  | some a=>simp only[dz,h y a rfl hy,hy]at hb ⊢; exact hb
theorem ru {r:Nat}:∀ {l:List PC} {x:PC},x∈l→x.ment r=true→cW r l=true
 | y::l,x,hx,hm=>by
  simp only[cW,PC.ment.mentL,Fs];simp only[E9]at hx;rcases hx with rfl | hx
  ·exact .inl hm
  ·exact .inr (ru hx hm)
theorem lX {O':Objs} {y:A1} (h:∀ k,y.ment k=true→O'.get k=O.get k):ng O' y=ng O y:=by
 cases y with
 | c x=>simp only[A1.map,lW (O:=O) (O':=O') (p:=x) h]
 | ag l=>
  simp only[A1.map];congr 1;exact GT λx hx=>lW λk hk=>h k (ru hx hk)
theorem de {c:Bool} {A B:Prop} (h:bif c then A else B):(c=true∧A)∨(c=false∧B):=by
 cases c with
 | true=>exact .inl ⟨rfl,h⟩
 | false=>exact .inr ⟨rfl,h⟩
theorem aD {c:Bool} {A:Prop} {s:String} (h:bif c then A else ak s):c=true∧A:=by
 rcases de h with h | h
 ·exact h
 ·exact h.2.elim
theorem o8 {op:BinOp} {t t':TypeId} {x y:Operand} {k k':IntKind} {m n:Int} {r:Value} (hx:E.ev x=some (.c (.sc (.int k m)))) (hy:E.ev y=some (.c (.sc (.int k' n))))
  (ho:op = .shl∨op = .shr) (h:∀ w,(Op.shift op k m k' n).run P w = .ok r w) (hr:jw r):Step P E O ⟨d,.binOp op t x y t',ty,pos,af,g⟩ (some (.c (.sc r))) .no:=
 .val λ_ K ok w a hs=>by
  have e1:=(hs.ev hx).sc.1;have e2:=(hs.ev hy).sc.1;refine ⟨r,?_,.ofSc hr⟩;have hg:(eqGuard op t x y (.int k m) (.int k' n)).run P w = .ok () w:=by
   unfold eqGuard;rcases ho with rfl | rfl<;>rfl
  have hb:(binOp op t (.int k m) (.int k' n)).run P w = .ok r w:=by
   have:binOp op t (.int k m) (.int k' n)=Op.shift op k m k' n:=by rcases ho with rfl | rfl<;>rfl
   rw[this]; exact h w
  simp[execOp,e1,e2,hg,hb]
theorem tD {op:BinOp} {t t':TypeId} {x y:Operand} (h:Cw E op x y K):Out P E O ⟨d,.binOp op t x y t',ty,pos,af,g⟩ K:=by
 unfold Cw at h;have shl:∀ {E:Env} {O:Objs} {k k':IntKind} {m n r:Int},E.ev x=some (.c (.sc (.int k m)))→E.ev y=some (.c (.sc (.int k' n)))→0≤n→k.wrap (m*2^min n.toNat k.bits)=r→Step P E O ⟨d,.binOp .shl t x y t',ty,pos,af,g⟩ (some (.c (.sc (.int k r)))) .no:=
  λ{E O k k' m n r} hx hy h0 h1=>o8 hx hy (.inl rfl) (λw=>by have hn:¬ n<0:=(by omega); simp[Op.shift,hn,h1]) (by rw[←h1]; exact jQ _ _)
 have shr:∀ {E:Env} {O:Objs} {k k':IntKind} {m n r:Int},E.ev x=some (.c (.sc (.int k m)))→E.ev y=some (.c (.sc (.int k' n)))→0≤n→m.fdiv (2^min n.toNat k.bits)=r→inR k r→Step P E O ⟨d,.binOp .shr t x y t',ty,pos,af,g⟩ (some (.c (.sc (.int k r)))) .no:=
  λ{E O k k' m n r} hx hy h0 h1 h2=>o8 hx hy (.inr rfl) (λw=>by have hn:¬ n<0:=(by omega); simp[Op.shift,hn,h1]) h2
 split at h
 ·rename_i k m k' n hx hy;have hq:=de h; clear h; rcases hq with ⟨hk,h⟩ | ⟨hk,h⟩
  ·have e:=nj hk;subst e;have bits:∀ {E':Env} {O':Objs} {op:BinOp},Agr E O E' O' (.binOp op t x y t') .no→∀ (o:BinOp) (r:Int),(∀ w,(binOp o t (.int k m) (.int k n)).run P w = .ok (.int k (k.wrap r)) w)→Step P E' O' ⟨d,.binOp o t x y t',ty,pos,af,g⟩ (some (.c (.sc (.int k (k.wrap r))))) .no:=λA o r h=>.bin (A.e _ _ (by simp[Op.operands,Call.operands]) hx) (A.e _ _ (by simp[Op.operands,Call.operands]) hy) h (jQ _ _)
   cases op<;>simp only at h
   case add=>obtain ⟨r,hr,h⟩:=h; subst hr; exact ⟨_,_,λE' O' A=>.arithW (A.e _ _ (by simp[Op.operands,Call.operands]) hx) (A.e _ _ (by simp[Op.operands,Call.operands]) hy) rfl,λ_=>nn,h⟩
   case sub=>obtain ⟨r,hr,h⟩:=h; subst hr; exact ⟨_,_,λE' O' A=>.arithW (A.e _ _ (by simp[Op.operands,Call.operands]) hx) (A.e _ _ (by simp[Op.operands,Call.operands]) hy) rfl,λ_=>nn,h⟩
   case mul=>obtain ⟨r,hr,h⟩:=h; subst hr; exact ⟨_,_,λE' O' A=>.arithW (A.e _ _ (by simp[Op.operands,Call.operands]) hx) (A.e _ _ (by simp[Op.operands,Call.operands]) hy) rfl,λ_=>nn,h⟩
   case quo=>obtain ⟨hn,r,hr,hi,h⟩:=h; subst hr; exact ⟨_,_,λE' O' A=>.quo (A.e _ _ (by simp[Op.operands,Call.operands]) hx) (A.e _ _ (by simp[Op.operands,Call.operands]) hy) hn hi,λ_=>nn,h⟩
   case rem=>obtain ⟨hn,r,hr,hi,h⟩:=h; subst hr; exact ⟨_,_,λE' O' A=>.rem (A.e _ _ (by simp[Op.operands,Call.operands]) hx) (A.e _ _ (by simp[Op.operands,Call.operands]) hy) hn hi,λ_=>nn,h⟩
   case and=>obtain ⟨r,hr,h⟩:=h; subst hr; exact ⟨_,_,λE' O' A=>bits A .and _ (λw=>by simp[binOp,Op.intBits]),λ_=>nn,h⟩
   case or=>obtain ⟨r,hr,h⟩:=h; subst hr; exact ⟨_,_,λE' O' A=>bits A .or _ (λw=>by simp[binOp,Op.intBits]),λ_=>nn,h⟩
   case xor=>obtain ⟨r,hr,h⟩:=h; subst hr; exact ⟨_,_,λE' O' A=>bits A .xor _ (λw=>by simp[binOp,Op.intBits]),λ_=>nn,h⟩
   case andNot=>obtain ⟨r,hr,h⟩:=h; subst hr; exact ⟨_,_,λE' O' A=>bits A .andNot _ (λw=>by simp[binOp,Op.intBits]),λ_=>nn,h⟩
   case shl=>obtain ⟨h0,r,hr,h⟩:=h; exact ⟨_,_,λE' O' A=>shl (A.e _ _ (by simp[Op.operands,Call.operands]) hx) (A.e _ _ (by simp[Op.operands,Call.operands]) hy) h0 hr,λ_=>nn,h⟩
   case shr=>obtain ⟨h0,r,hr,hi,h⟩:=h; exact ⟨_,_,λE' O' A=>shr (A.e _ _ (by simp[Op.operands,Call.operands]) hx) (A.e _ _ (by simp[Op.operands,Call.operands]) hy) h0 hr hi,λ_=>nn,h⟩
   all_goals exact ⟨_,_,λE' O' A=>.cmp (A.e _ _ (by simp[Op.operands,Call.operands]) hx) (A.e _ _ (by simp[Op.operands,Call.operands]) hy) rfl,λ_=>nn,h⟩
  ·cases op<;>simp only at h
   case shl=>obtain ⟨h0,r,hr,h⟩:=h; exact ⟨_,_,λE' O' A=>shl (A.e _ _ (by simp[Op.operands,Call.operands]) hx) (A.e _ _ (by simp[Op.operands,Call.operands]) hy) h0 hr,λ_=>nn,h⟩
   case shr=>obtain ⟨h0,r,hr,hi,h⟩:=h; exact ⟨_,_,λE' O' A=>shr (A.e _ _ (by simp[Op.operands,Call.operands]) hx) (A.e _ _ (by simp[Op.operands,Call.operands]) hy) h0 hr hi,λ_=>nn,h⟩
   all_goals exact h.elim
 ·rename_i p q hx hy;cases op<;>simp only at h
  case add=>exact ⟨_,_,λE' O' A=>.strAdd (A.e _ _ (by simp[Op.operands,Call.operands]) hx) (A.e _ _ (by simp[Op.operands,Call.operands]) hy) h.1,λ_=>nn,h.2⟩
  case eql=>exact ⟨_,_,λE' O' A=>.strEq (A.e _ _ (by simp[Op.operands,Call.operands]) hx) (A.e _ _ (by simp[Op.operands,Call.operands]) hy),λ_=>nn,h⟩
  case neq=>exact ⟨_,_,λE' O' A=>.strNe (A.e _ _ (by simp[Op.operands,Call.operands]) hx) (A.e _ _ (by simp[Op.operands,Call.operands]) hy),λ_=>nn,h⟩
  case lss=>exact ⟨_,_,λE' O' A=>.strOp (A.e _ _ (by simp[Op.operands,Call.operands]) hx) (A.e _ _ (by simp[Op.operands,Call.operands]) hy) (λ_=>rfl) trivial,λ_=>nn,h⟩
  all_goals exact h.elim
 ·exact h.elim
theorem rv (hT:T.ok P) {t:Nat} {x:Operand} (h:rt T E O t x K):Out P E O ⟨d,.load t x,ty,pos,af,g⟩ K:=by
 unfold rt at h;split at h
 ·rename_i td r sz i off ht hx;have hti:=(hT _ _ ht).1;split at h
  ·rename_i sz' els ho;have hq:=aD h; clear h; obtain ⟨hb,el,hel,h⟩:=hq;split at h
   ·rename_i y hy;have hq:=aD h; clear h; obtain ⟨hl,h⟩:=hq;exact ⟨_,_,λE' O' A=>Step.load (P:=P) (t:=t) (A.e _ _ (by simp[Op.operands,Call.operands]) hx) ((ln (λk hk=>A.o rfl _ _ k (by simp[Op.operands,Call.operands]) hx hk)).trans (by simp only[atC,ho,hb,cond_true,hel,FI])) (ER hl) hy,λ_=>nn,h⟩
   ·exact h.elim
  ·rename_i sz' els ids ho;have hq:=aD h; clear h; obtain ⟨hb,el,hel,h⟩:=hq;split at h
   ·rename_i y hy;have hq:=aD h; clear h; obtain ⟨hl,h⟩:=hq;exact ⟨_,_,λE' O' A=>Step.load (P:=P) (t:=t) (A.e _ _ (by simp[Op.operands,Call.operands]) hx) ((ln (λk hk=>A.o rfl _ _ k (by simp[Op.operands,Call.operands]) hx hk)).trans (by simp only[atC,ho,hb,cond_true,hel,FI])) (ER hl) hy,λ_=>nn,h⟩
   ·exact h.elim
  ·exact h.elim
 ·rename_i td p hneg ht hx;have hti:=(hT _ _ ht).1;split at h
  ·rename_i xs hxs;split at h
   ·rename_i y hy;have hq:=aD h; clear h; obtain ⟨hl,h⟩:=hq;exact ⟨_,_,λE' O' A=>Step.load (P:=P) (t:=t) (A.e _ _ (by simp[Op.operands,Call.operands]) hx) ((ln (λk hk=>A.o rfl _ _ k (by simp[Op.operands,Call.operands]) hx hk)).trans hxs) (ER hl) hy,λ_=>nn,h⟩
   ·exact h.elim
  ·exact h.elim
 ·exact h.elim
theorem p8 (hT:T.ok P) {t:Nat} {x v:Operand} (h:tz T E O t x v K):Out P E O ⟨d,.store t x v,ty,pos,af,g⟩ K:=by
 unfold tz at h;split at h
 ·rename_i td k off y ht hx hv;have hti:=(hT _ _ ht).1;split at h
  ·rename_i cells ho;have hq:=aD h; clear h; obtain ⟨hb,h⟩:=hq;simp only[Ex]at hb;exact ⟨_,_,λE' O' A=>Step.storeAd (P:=P) (t:=t) (A.e _ _ (by simp[Op.operands,Call.operands]) hx) ((A.o rfl _ _ _ (by simp[Op.operands]) hx (EP _)).trans ho) (A.e _ _ (by simp[Op.operands,Call.operands]) hv) (Eu hb.1) (ER hb.2),λ_=>nu,h⟩
  ·exact h.elim
 ·rename_i td r sz i off y ht hx hv;have hti:=(hT _ _ ht).1;split at h
  ·rename_i sz' els ho;have hq:=aD h; clear h; obtain ⟨hb,el,hel,h⟩:=hq;simp only[Ex]at hb;have e:=Eu hb.1.1.1;subst e;exact ⟨_,_,λE' O' A=>Step.storeEa (P:=P) (t:=t) (A.e _ _ (by simp[Op.operands,Call.operands]) hx) ((A.o rfl _ _ _ (by simp[Op.operands]) hx (EP _)).trans ho) (A.e _ _ (by simp[Op.operands,Call.operands]) hv) hel (Eu hb.1.1.2) (ER hb.1.2) hb.2,λ_=>nu,h⟩
  ·rename_i sz' els ids ho;have hq:=aD h; clear h; obtain ⟨hb,el,hel,h⟩:=hq;simp only[Ex]at hb;have e:=Eu hb.1.1;subst e;exact ⟨_,_,λE' O' A=>Step.storeEaO (P:=P) (t:=t) (A.e _ _ (by simp[Op.operands,Call.operands]) hx) ((A.o rfl _ _ _ (by simp[Op.operands]) hx (EP _)).trans ho) (A.e _ _ (by simp[Op.operands,Call.operands]) hv) hel (Eu hb.1.2) (ER hb.2),λ_=>nu,h⟩
  ·exact h.elim
 ·exact h.elim
theorem p9 (hT:T.ok P) {t:Nat} {x y:Operand} (h:tA T E t x y K):Out P E O ⟨d,.indexAddr t x y,ty,pos,af,g⟩ K:=by
 unfold tA at h;split at h
 ·rename_i e _ _ _ _ sz els k i ht hx hy;have hs:TSl P t e:=(hT _ _ ht).2;split at h
  ·rename_i td he;have hti:=(hT _ _ he).1;have hq:=aD h; clear h; obtain ⟨hb,h0,el,hel,h⟩:=hq;have e1:=Eu hb;subst e1;exact ⟨_,_,λE' O' A=>Step.indexSl (P:=P) (A.e _ _ (by simp[Op.operands,Call.operands]) hx) (A.e _ _ (by simp[Op.operands,Call.operands]) hy) h0 hel,λ_=>nn,h⟩
  ·exact h.elim
 ·rename_i e _ _ _ _ r sz n k i ht hx hy;have hs:TSl P t e:=(hT _ _ ht).2;split at h
  ·rename_i td he;have hti:=(hT _ _ he).1;have hq:=aD h; clear h; obtain ⟨hb,h0,h1,h⟩:=hq;have e1:=Eu hb;subst e1;exact ⟨_,_,λE' O' A=>Step.indexOw (P:=P) (A.e _ _ (by simp[Op.operands,Call.operands]) hx) (A.e _ _ (by simp[Op.operands,Call.operands]) hy) h0 h1,λ_=>nn,h⟩
  ·exact h.elim
 ·rename_i e _ _ _ _ r sz lo n k i ht hx hy;have hs:TSl P t e:=(hT _ _ ht).2;split at h
  ·rename_i td he;have hti:=(hT _ _ he).1;have hq:=aD h; clear h; obtain ⟨hb,h0,h1,h⟩:=hq;have e1:=Eu hb;subst e1;exact ⟨_,_,λE' O' A=>Step.indexOs (P:=P) (A.e _ _ (by simp[Op.operands,Call.operands]) hx) (A.e _ _ (by simp[Op.operands,Call.operands]) hy) h0 h1,λ_=>nn,h⟩
  ·exact h.elim
 ·rename_i n e _ _ _ _ q off k i ht hx hy;have hs:TArr P t n e:=(hT _ _ ht).2;split at h
  ·rename_i td he;have hti:=(hT _ _ he).1;obtain ⟨h0,h1,h⟩:=h;exact ⟨_,_,λE' O' A=>Step.indexArrAd (P:=P) (A.e _ _ (by simp[Op.operands,Call.operands]) hx) (A.e _ _ (by simp[Op.operands,Call.operands]) hy) h0 h1,λ_=>nn,h⟩
  ·exact h.elim
 ·rename_i n e _ _ _ _ cells k i ht hx hy;have hs:TArr P t n e:=(hT _ _ ht).2;split at h
  ·rename_i td he;have hti:=(hT _ _ he).1;obtain ⟨h0,h1,h⟩:=h;exact ⟨_,_,λE' O' A=>Step.indexArrRd (P:=P) (A.e _ _ (by simp[Op.operands,Call.operands]) hx) (A.e _ _ (by simp[Op.operands,Call.operands]) hy) h0 h1,λ_=>nn,h⟩
  ·exact h.elim
 ·exact h.elim
theorem lp (hT:T.ok P) {s f:Nat} {x:Operand} (h:jB T E s x f K):Out P E O ⟨d,.fieldAddr s x f,ty,pos,af,g⟩ K:=by
 unfold jB at h;split at h
 ·rename_i fs _ _ _ _ p ht hx;have hs:=((hT _ _ ht).2:UD.ok P s (.st fs)).1;split at h
  ·rename_i off ft n hf;have:=hs _ _ _ _ hf;split at h
   ·exact ⟨_,_,λE' O' A=>Step.fieldAd (P:=P) (Nat.succ_ne_zero n) (A.e _ _ (by simp[Op.operands,Call.operands]) hx),λ_=>nn,h⟩
   ·exact ⟨_,_,λE' O' A=>Step.fieldEa (P:=P) (Nat.succ_ne_zero n) (A.e _ _ (by simp[Op.operands,Call.operands]) hx),λ_=>nn,h⟩
   ·exact ⟨_,_,λE' O' A=>Step.fieldRd (P:=P) (Nat.succ_ne_zero n) (A.e _ _ (by simp[Op.operands,Call.operands]) hx),λ_=>nn,h⟩
   ·exact h.elim
  ·exact h.elim
 ·exact h.elim
theorem qa (hT:T.ok P) {t:Nat} {x:Operand} {lo hi:Option Operand} (h:tB T E t x lo hi K):Out P E O ⟨d,.slice t x lo hi none,ty,pos,af,g⟩ K:=by
 unfold tB at h;split at h
 ·rename_i e _ _ _ _ sz els l hh ht hx hl hhi;have hs:TSl P t e:=(hT _ _ ht).2;split at h
  ·rename_i td he;have hti:=(hT _ _ he).1;have hq:=aD h; clear h; obtain ⟨hb,l',h',e1,e2,h1,h2,h⟩:=hq;have e3:=Eu hb;subst e3;exact ⟨_,_,λE' O' A=>Step.sliceSl (P:=P) (A.e _ _ (by simp[Op.operands,Call.operands]) hx) (bG (λy _ hy=>A.e _ _ (by simp[Op.operands,hy])) hl) (bG (λy _ hy=>A.e _ _ (by simp[Op.operands,hy])) hhi) e1 e2 h1 h2,λ_=>nn,h⟩
  ·exact h.elim
 ·rename_i e _ _ _ _ r sz n l hh ht hx hl hhi;have hs:TSl P t e:=(hT _ _ ht).2;split at h
  ·rename_i td he;have hti:=(hT _ _ he).1;have hq:=aD h; clear h; obtain ⟨hb,l',h',e1,e2,h2,h3,h⟩:=hq;have e4:=Eu hb;subst e4;rcases h with ⟨h1,h⟩ | ⟨h1,h⟩
   ·exact ⟨_,_,λE' O' A=>(by
     have:=Step.sliceOw (P:=P) (E:=E') (O:=O') (t:=t) (e:=e) (bt:=td.bt) (agg:=td.agg) (z:=td.z) (d:=d) (ty:=ty) (pos:=pos) (af:=af) (g:=g) (A.e _ _ (by simp[Op.operands,Call.operands]) hx) (bG (λy _ hy=>A.e _ _ (by simp[Op.operands,hy])) hl) (bG (λy _ hy=>A.e _ _ (by simp[Op.operands,hy])) hhi) e1 e2 (by omega) h2 h3;rwa [h1,EP,cond_true]at this),λ_=>nn,h⟩
   ·have hne:Nat.beq l' h'=false:=by
     cases hbb:Nat.beq l' h' with
     | false=>rfl
     | true=>have:=Eu hbb; omega
    exact ⟨_,_,λE' O' A=>(by
     have:=Step.sliceOw (P:=P) (E:=E') (O:=O') (t:=t) (e:=e) (bt:=td.bt) (agg:=td.agg) (z:=td.z) (d:=d) (ty:=ty) (pos:=pos) (af:=af) (g:=g) (A.e _ _ (by simp[Op.operands,Call.operands]) hx) (bG (λy _ hy=>A.e _ _ (by simp[Op.operands,hy])) hl) (bG (λy _ hy=>A.e _ _ (by simp[Op.operands,hy])) hhi) e1 e2 (by omega) h2 h3;rwa [hne,cond_false]at this),λ_=>nn,h⟩
  ·exact h.elim
 ·rename_i e _ _ _ _ r sz lo0 n l hh ht hx hl hhi;have hs:TSl P t e:=(hT _ _ ht).2;split at h
  ·rename_i td he;have hti:=(hT _ _ he).1;have hq:=aD h; clear h; obtain ⟨hb,l',h',e1,e2,h2,h⟩:=hq;have e4:=Eu hb;subst e4;rcases h with ⟨h1,h⟩ | ⟨h1,h⟩
   ·exact ⟨_,_,λE' O' A=>(by
     have:=Step.sliceOs (P:=P) (E:=E') (O:=O') (t:=t) (e:=e) (bt:=td.bt) (agg:=td.agg) (z:=td.z) (d:=d) (ty:=ty) (pos:=pos) (af:=af) (g:=g) (A.e _ _ (by simp[Op.operands,Call.operands]) hx) (bG (λy _ hy=>A.e _ _ (by simp[Op.operands,hy])) hl) (bG (λy _ hy=>A.e _ _ (by simp[Op.operands,hy])) hhi) e1 e2 (by omega) h2;rwa [h1,EP,cond_true]at this),λ_=>nn,h⟩
   ·have hne:Nat.beq l' h'=false:=by
     cases hbb:Nat.beq l' h' with
     | false=>rfl
     | true=>have:=Eu hbb; omega
    exact ⟨_,_,λE' O' A=>(by
     have:=Step.sliceOs (P:=P) (E:=E') (O:=O') (t:=t) (e:=e) (bt:=td.bt) (agg:=td.agg) (z:=td.z) (d:=d) (ty:=ty) (pos:=pos) (af:=af) (g:=g) (A.e _ _ (by simp[Op.operands,Call.operands]) hx) (bG (λy _ hy=>A.e _ _ (by simp[Op.operands,hy])) hl) (bG (λy _ hy=>A.e _ _ (by simp[Op.operands,hy])) hhi) e1 e2 (by omega) h2;rwa [hne,cond_false]at this),λ_=>nn,h⟩
  ·exact h.elim
 ·rename_i _ _ _ _ s l hh ht hx hl hhi;obtain ⟨l',h',e1,e2,h1,h2,h⟩:=h;exact ⟨_,_,λE' O' A=>Step.sliceStr (P:=P) (hT _ _ ht).2 (A.e _ _ (by simp[Op.operands,Call.operands]) hx) (bG (λy _ hy=>A.e _ _ (by simp[Op.operands,hy])) hl) (bG (λy _ hy=>A.e _ _ (by simp[Op.operands,hy])) hhi) e1 e2 h1 h2,λ_=>nn,h⟩
 ·exact h.elim
theorem vG {α:Type} {a:Array α} {x:α} (h:a.toList=[x]):a = #[x]:=by cases a; simp at h; rw[h]
theorem rx {α:Type} {a:Array α} {x y:α} (h:a.toList=[x,y]):a = #[x,y]:=by cases a; simp at h; rw[h]
theorem nm (hT:T.ok P) {b:Builtin} {args:Array Operand} {ts:Array TypeId} (h:nk T E O b args.toList ts.toList K):Out P E O ⟨d,.call ⟨.builtin b,args,ts⟩,ty,pos,af,g⟩ K:=by
 unfold nk at h;split at h
 ·rename_i x t ha hts;rw[vG ha,vG hts];split at h
  ·rename_i e _ _ _ _ p ht hx;have hs:TSl P t e:=(hT _ _ ht).2;split at h
   ·rename_i n hn;exact ⟨_,_,λE' O' A=>Step.len (P:=P) (A.e _ _ (by simp[Op.operands,Call.operands]) hx) hn (by omega),λ_=>nn,h.2⟩
   ·exact h.elim
  ·rename_i _ _ _ _ s ht hx;exact ⟨_,_,λE' O' A=>Step.lenS (P:=P) (hT _ _ ht).2 (A.e _ _ (by simp[Op.operands,Call.operands]) hx),λ_=>nn,h⟩
  ·exact h.elim
 ·rename_i x y t t2 ha hts;rw[rx ha,rx hts];split at h
  ·rename_i e _ _ _ _ e2 _ _ _ _ r sz n p2 ht ht2 hx hy;have hs:TSl P t e:=(hT _ _ ht).2;have hs2:TSl P t2 e2:=(hT _ _ ht2).2;split at h
   ·rename_i td sz' els els2 he ho h2;have hti:=(hT _ _ he).1;have hq:=aD h; clear h; obtain ⟨hb,hn,h3,h4,h5,h6,h⟩:=hq;simp only[Ex]at hb;have e1:=Eu hb.1.1.1;have e2:=Eu hb.1.1.2;subst e1;subst e2;exact ⟨_,_,λE' O' A=>Step.appOw (P:=P) (A.e _ _ (by simp[Op.operands,Call.operands]) hx) ((A.o rfl _ _ _ (by simp[Op.operands,Call.operands]) hx (EP _)).trans ho) (A.e _ _ (by simp[Op.operands,Call.operands]) hy) ((iQ (λk hk=>A.o rfl _ _ k (by simp[Op.operands,Call.operands]) hy hk)).trans h2) hn (Eu hb.1.2) h3 h4 (A.n _ rfl) h5 h6,λ_=>na (NoM.of (aQ hb.2)),h⟩
   ·exact h.elim
  ·exact h.elim
 ·rename_i x y ts ha;rw[rx ha];split at h
  ·rename_i k m k' n hx hy;have hq:=aD h; clear h; obtain ⟨hk,h⟩:=hq;have e:=nj hk;subst e;exact ⟨_,_,λE' O' A=>Step.max2 (A.e _ _ (by simp[Op.operands,Call.operands]) hx) (A.e _ _ (by simp[Op.operands,Call.operands]) hy),λ_=>nn,h⟩
  ·exact h.elim
 ·rename_i x y ts ha;rw[rx ha];split at h
  ·rename_i k m k' n hx hy;have hq:=aD h; clear h; obtain ⟨hk,h⟩:=hq;have e:=nj hk;subst e;exact ⟨_,_,λE' O' A=>Step.min2 (A.e _ _ (by simp[Op.operands,Call.operands]) hx) (A.e _ _ (by simp[Op.operands,Call.operands]) hy),λ_=>nn,h⟩
  ·exact h.elim
 ·exact h.elim
theorem mA:∀ {xs:List Operand} {l:List A1},E.evs xs=some l→l.length=xs.length
 | [],l,h=>by simp only[Env.evs,EM]at h; subst h; rfl
 | x::xs,l,h=>by
  simp only[Env.evs]at h;split at h
  ·cases hl:Env.evs E xs with
   | none=>rw[hl]at h; cases h
   | some l'=>rw[hl]at h; simp only[FI,EM]at h; subst h; simp[mA hl]
  ·cases h
theorem uD:∀ {xs:List Operand} {l:List A1},E.evs xs=some l→∀ (i:Nat) (x:Operand),xs[i]? = some x→∃ y,l[i]? = some y∧E.ev x=some (.o y)
 | [],l,h,i,x,hx=>by simp at hx
 | x::xs,l,h,i,x',hx=>by
  simp only[Env.evs]at h;split at h
  ·rename_i y hy
   cases hl:Env.evs E xs with
   | none=>rw[hl]at h; cases h
   | some l'=>
    rw[hl]at h;simp only[FI,EM]at h;subst h
    cases i with
    | zero=>simp at hx; subst hx; exact ⟨y,rfl,hy⟩
    | succ i=>simp at hx; simpa using uD hl i x' hx
  ·cases h
theorem qb:∀ {xs:List Operand} {l:List A1},E.evs xs=some l→∀ (i:Nat) (y:A1),l[i]? = some y→∃ x,xs[i]? = some x∧E.ev x=some (.o y)
 | [],l,h,i,y,hy=>by simp only[Env.evs,EM]at h; subst h; simp at hy
 | x::xs,l,h,i,y',hy'=>by
  simp only[Env.evs]at h;split at h
  ·rename_i y hy
   cases hl:Env.evs E xs with
   | none=>rw[hl]at h; cases h
   | some l'=>
    rw[hl]at h;simp only[FI,EM]at h;subst h
    cases i with
    | zero=>simp at hy'; subst hy'; exact ⟨x,rfl,hy⟩
    | succ i=>simp at hy'; simpa using qb hl i y' hy'
  ·cases h
theorem ry {f:FuncId} {args:Array Operand} {ts:Array TypeId} (h:callS P E O f [] args.toList K):Out P E O ⟨d,.call ⟨.value (.func f),args,ts⟩,ty,pos,af,g⟩ K:=by
 unfold callS at h;split at h
 ·rename_i l hl;simp only[Gh]at h;have hq:=de h; clear h; rcases hq with ⟨_,res,hct,h⟩ | ⟨_,res,hct,h⟩
  ·have hq:=aD h; clear h; obtain ⟨hc,h⟩:=hq;exact ⟨_,_,λE' O' A=>Step.call (dq (λy _ hy=>A.e _ _ (by simp[Op.operands,Call.operands]; simp at hy; try simp[hy])) hl) hct hc,λ_=>nn,h⟩
  ·have hq:=aD h; clear h; obtain ⟨hc,h⟩:=hq;exact ⟨_,_,λE' O' A=>Step.callS (dq (λy _ hy=>A.e _ _ (by simp[Op.operands,Call.operands]; simp at hy; try simp[hy])) hl) (GT λy hy=>lX λk hk=>by obtain ⟨i,hi⟩:=Gp.1 hy; obtain ⟨x,hx,he⟩:=qb hl i y hi; exact A.o rfl x _ k (by have:=E6 hx; simp[Op.operands,Call.operands]; simp at this; simp[this]) he hk) hct hc,λ_=>nn,h⟩
 ·exact h.elim
theorem cQ (hT:T.ok P) {op:Op} (h:opS P T E O d op K):Out P E O ⟨d,op,ty,pos,af,g⟩ K:=by
 unfold opS at h;split at h
 ·split at h
  ·rename_i a ha; exact ⟨_,_,λE' O' A=>.move (A.e _ _ (by simp[Op.operands,Call.operands]) ha),λ_=>nn,h⟩
  ·exact h.elim
 ·split at h
  ·rename_i a ha; exact ⟨_,_,λE' O' A=>.assign (A.e _ _ (by simp[Op.operands,Call.operands]) ha),λ_=>nn,h⟩
  ·exact h.elim
 ·split at h
  ·rename_i b hc
   cases b with
   | true=>
    have h:=h.out.1 rfl;split at h
    ·rename_i a ha; exact ⟨_,_,λE' O' A=>.pick (A.e _ _ (by simp[Op.operands,Call.operands]) hc) (λ_=>(A.e _ _ (by simp[Op.operands,Call.operands]) ha)) (λh=>by cases h),λ_=>nn,h⟩
    ·exact h.elim
   | false=>
    have h:=h.out.2 rfl;split at h
    ·rename_i a ha; exact ⟨_,_,λE' O' A=>.pick (A.e _ _ (by simp[Op.operands,Call.operands]) hc) (λh=>by cases h) (λ_=>(A.e _ _ (by simp[Op.operands,Call.operands]) ha)),λ_=>nn,h⟩
    ·exact h.elim
  ·exact h.elim
 ·split at h
  ·rename_i td k ht;have hti:=(hT _ _ ht).1;have hq:=aD h; clear h; obtain ⟨hb,h⟩:=hq;simp only[Ex]at hb;exact ⟨_,_,λE' O' A=>Step.alloc (P:=P) hb.1 (A.n _ rfl),λ_=>nw (NoM.of (aQ hb.2)),h⟩
  ·exact h.elim
 ·split at h
  ·rename_i y k hx;have hq:=aD h; clear h; obtain ⟨hb,h⟩:=hq;simp only[Ex,FO]at hb;exact ⟨_,_,λE' O' A=>Step.box (P:=P) (A.e _ _ (by simp[Op.operands,Call.operands]) hx) hb.1 (A.n _ rfl),λ_=>nw (NoM.of (aQ hb.2)),h⟩
  ·exact h.elim
 ·split at h
  ·rename_i fs sz bt z l ht hl;have hti:TI P _ sz bt true z:=(hT _ _ ht).1;have hpl:TPl P _ (fs.map λx=>(x.1,x.2.2)):=And.right (hT _ _ ht).2;split at h
   ·rename_i r hr;have hq:=aD h; clear h; obtain ⟨hb,h⟩:=hq;exact ⟨_,_,λE' O' A=>Step.build (P:=P) hb (dq (λy _ hy=>A.e _ _ (by simp only[Op.operands]; exact hy)) hl) hr,λ_=>nn,h⟩
   ·exact h.elim
  ·exact h.elim
 ·split at h
  ·rename_i parts _ _ _ e _ _ _ _ l k ht hl;have hs:TSl P _ e:=(hT _ _ ht).2;split at h
   ·rename_i td he;have hti:=(hT _ _ he).1;have hq:=aD h; clear h; obtain ⟨hb,h⟩:=hq;simp only[Ex]at hb;obtain ⟨⟨⟨⟨⟨⟨b1,b2⟩,b3⟩,b4⟩,b5⟩,b6⟩,b7⟩:=hb;have b2':=Eu b2;have hal:=fQ b4;have hlen:(parts.toList.map (·.1)).length=l.length:=by rw[mA hl]; simp
    exact ⟨_,_,λE' O' A=>Step.buildSlice (P:=P) (dq (λy _ hy=>A.e _ _ (by simp only[Op.operands]; exact hy)) hl) (by rw[←hlen]; exact gG b1) b2' (Eu b3) (λy hy=>(hal y hy).1) (λy hy=>(hal y hy).2) (ER b5) (ER b6) (A.n _ rfl),λ_=>nw (NoM.of (aQ b7)),h⟩
   ·exact h.elim
  ·exact h.elim
 ·split at h
  ·rename_i e _ _ _ _ n c k ht hx hy;have hs:TSl P _ e:=(hT _ _ ht).2;split at h
   ·rename_i td he;have hti:=(hT _ _ he).1;have hq:=aD h; clear h; obtain ⟨hb,h0,h1,h2,h3,h⟩:=hq;simp only[Ex]at hb;exact ⟨_,_,λE' O' A=>Step.makeSlice (P:=P) (A.e _ _ (by simp[Op.operands,Call.operands]) hx) (A.e _ _ (by simp[Op.operands,Call.operands]) hy) hb.1.1 (Eu hb.1.2) h0 h1 h2 h3 (A.n _ rfl),λ_=>nw (NoM.of (aQ hb.2)),h⟩
   ·exact h.elim
  ·exact h.elim
 ·exact rv hT h
 ·exact p8 hT h
 ·split at h
  ·rename_i p hx;have hq:=aD h; clear h; obtain ⟨hb,h⟩:=hq;exact ⟨_,_,λE' O' A=>.nilCheck (A.e _ _ (by simp[Op.operands,Call.operands]) hx) hb,λ_=>nn,h⟩
  ·exact h.elim
 ·exact tD h
 ·split at h
  ·rename_i b hx; exact ⟨_,_,λE' O' A=>.not (A.e _ _ (by simp[Op.operands,Call.operands]) hx),λ_=>nn,h⟩
  ·exact h.elim
 ·split at h
  ·rename_i k n hx;obtain ⟨r,hr,hi,h⟩:=h;subst hr;exact ⟨_,_,λE' O' A=>.neg (A.e _ _ (by simp[Op.operands,Call.operands]) hx) hi,λ_=>nn,h⟩
  ·exact h.elim
 ·split at h
  ·rename_i k1 _ _ _ _ k' _ _ _ _ k n hs ht hx;obtain ⟨r,hr,h⟩:=h;exact ⟨_,_,λE' O' A=>Step.convInt (P:=P) (show P.underlying _=some (.int k1) from (hT _ _ hs).2) (hT _ _ ht).2 (A.e _ _ (by simp[Op.operands,Call.operands]) hx) hr,λ_=>nn,h⟩
  ·exact h.elim
 ·split at h
  ·rename_i f first caps _ _ l hf hl
   obtain ⟨xs,rfl,h⟩:=h;have:first = #[]:=by cases first; simpa using hf
   subst this;refine ⟨_,_,λE' O' A=>Step.makeFunc (P:=P) (λi x hx=>?_) (by have:=mA hl; simpa using this),λ_=>nn,h⟩;obtain ⟨y,hy,he⟩:=uD hl i x hx;simp only[EH,EC]at hy;obtain ⟨y',hy',rfl⟩:=hy;exact ⟨y',hy',A.e _ _ (by have:=E6 hx; simp[Op.operands]; simpa using this) he⟩
  ·exact h.elim
 ·exact qa hT h
 ·exact lp hT h
 ·split at h
  ·rename_i fs _ _ _ _ l ht hx;have hs:=And.left (show _∧TPl P _ (fs.map λx=>(x.1,x.2.2)) from (hT _ _ ht).2);split at h
   ·rename_i off ft n hf;have hfl:=hs _ _ _ _ hf;split at h
    ·rename_i td htd;have hti:=(hT _ _ htd).1;split at h
     ·rename_i y hy;have hq:=aD h; clear h; obtain ⟨hb,h⟩:=hq;exact ⟨_,_,λE' O' A=>Step.field (P:=P) (A.e _ _ (by simp[Op.operands,Call.operands]) hx) (ER hb) hy,λ_=>nn,h⟩
     ·exact h.elim
    ·exact h.elim
   ·exact h.elim
  ·exact h.elim
 ·exact p9 hT h
 ·split at h
  ·rename_i _ _ _ _ s k i ht hx hy;obtain ⟨h0,b,hb,h⟩:=h;exact ⟨_,_,λE' O' A=>Step.indexStr (P:=P) (hT _ _ ht).2 (A.e _ _ (by simp[Op.operands,Call.operands]) hx) (A.e _ _ (by simp[Op.operands,Call.operands]) hy) h0 hb,λ_=>nn,h⟩
  ·exact h.elim
 ·split at h
  ·rename_i l hx;split at h
   ·rename_i y hy; exact ⟨_,_,λE' O' A=>.extract (A.e _ _ (by simp[Op.operands,Call.operands]) hx) hy,λ_=>nn,h⟩
   ·exact h.elim
  ·exact h.elim
 ·exact nm hT h
 ·exact ry h
 ·split at h
  ·rename_i f caps l hf hl;obtain ⟨res,hct,h⟩:=h;have hq:=aD h; clear h; obtain ⟨hc,h⟩:=hq;exact ⟨_,_,λE' O' A=>Step.callV (A.e (.tmp _) _ (by simp[Op.operands,Call.operands]) hf) (dq (λy _ hy=>A.e _ _ (by simp[Op.operands,Call.operands]; simp at hy; simp[hy])) hl) hct hc,λ_=>nn,h⟩
  ·exact h.elim
 ·exact h.elim
end
end
section
def Ar (op:BinOp) (p q:PC) (n:Nat) (K:Kt):Prop:=
 match wZ p,wZ q,w8 p,w8 q with
 | some b,some c,some n1,some n2=>bif (b||c)&&(Nat.beq n1 n&&Nat.beq n2 n) then
   (match op with
    | .eql=>K (some (.c (.sc (.bool (b&&c))))) .no
    | .neq=>K (some (.c (.sc (.bool (!(b&&c)))))) .no
    | _=>ak "nil") else ak "nil"
 | _,_,_,_=>ak "nil"
def opN (P:Program) (T:Ty) (E:Env) (O:Objs) (d:Option Tmp) (op:Op) (K:Kt):Prop:=
 match op with
 | .binOp bo t x y t'=>match T.get t with
  | some ⟨.ptr _,_,_,_,_⟩=>match E.ev x,E.ev y with
   | some (.c p),some (.c q)=>Ar bo p q 0 K
   | _,_=>ak "nil"
  | some ⟨.mp _ _ _ _,_,_,_,_⟩=>match E.ev x,E.ev y with
   | some (.c p),some (.c q)=>Ar bo p q 1 K
   | _,_=>ak "nil"
  | some ⟨.bool,_,_,_,_⟩=>match E.ev x,E.ev y,bo with
   | some (.c (.sc (.bool p))),some (.c (.sc (.bool q))),.eql=>K (some (.c (.sc (.bool (p==q))))) .no
   | some (.c (.sc (.bool p))),some (.c (.sc (.bool q))),.neq=>K (some (.c (.sc (.bool (p != q))))) .no
   | _,_,_=>ak "bools"
  | _=>opS P T E O d (.binOp bo t x y t') K
 | .convert s t x=>match T.get s,T.get t with
  | some ⟨.sl e,_,_,_,_⟩,some ⟨.str,_,_,_,_⟩=>match T.get e,E.ev x with
   | some ⟨.int .u8,_,_,_,_⟩,some (.c p)=>match slC O 1 p with
    | some els=>∃ s:ByteArray,els=jA s∧s.size≤140737488355328∧K (some (.c (.sc (.string s)))) .no
    | none=>ak "string"
   | _,_=>ak "string"
  | some ⟨.str,_,_,_,_⟩,some ⟨.sl e,_,_,_,_⟩=>match T.get e,E.ev x,d with
   | some ⟨.int .u8,1,_,_,_⟩,some (.c (.sc (.string s))),some k=>bif eN k O then K (some (.c (.ow k 1 s.size))) (.new k (.row 1 (jA s))) else ak "bytes"
   | _,_,_=>ak "bytes"
  | _,_=>opS P T E O d (.convert s t x) K
 | .slice t x lo (some hi) (some mx)=>match T.get t,E.ev x,dz E lo,E.ev hi,E.ev mx,d with
  | some ⟨.sl e,_,_,_,_⟩,some (.c p),some l,some (.c (.sc (.int _ 0))),some (.c (.sc (.int _ 0))),some k=>match T.get e,nc p with
   | some td,some _=>bif eN k O then l.getD 0=0∧K (some (.c (.ow k td.sz 0))) (.new k (.row td.sz [])) else ak "slice3"
   | _,_=>ak "slice3"
  | _,_,_,_,_,_=>ak "slice3"
 | .slice t x none (some hi) none=>match T.get t,E.ev x,E.ev hi with
  | some ⟨.sl e,_,_,_,_⟩,some (.c (.sc (.slice none 0 0))),some (.c (.sc (.int _ n)))=>match T.get e with
   | some _=>n=0∧K (some (.c (.sc (.slice none 0 0)))) .no
   | none=>ak "nil cut"
  | _,_,_=>opS P T E O d (.slice t x none (some hi) none) K
 | .call ⟨.builtin .append,args,ts⟩=>match args.toList,ts.toList,d with
  | [x,y],[t,t2],some k=>match E.ev x with
   | some (.c (.sc (.slice none 0 0)))=>match T.get t,T.get t2,E.ev y with
    | some ⟨.sl e,_,_,_,_⟩,some ⟨.sl _,_,_,_,_⟩,some (.c p2)=>match T.get e with
     | some td=>match slC O td.sz p2 with
      | some els2=>bif Nat.beq td.z.length td.sz&&eN k O then
        (els2.length+768)*td.bt≤17592186044416∧els2.length≤35184372088832∧aA els2∧K (some (.c (.ow k td.sz els2.length))) (.new k (.row td.sz els2)) else ak "append nil"
      | none=>ak "append nil"
     | none=>ak "append nil"
    | some ⟨.sl e,_,_,_,_⟩,some ⟨.int _,_,_,_,_⟩,some (.c (.sc (.int .i64 n)))=>match T.get e with
     | some td=>bif d9 td.z&&(Nat.beq td.z.length td.sz&&(Nat.blt 0 td.sz&&(Nat.ble td.bt 1000&&eN k O))) then
        0<n∧n≤1000000∧K (some (.c (.ow k td.sz n.toNat))) (.new k (.row td.sz (List.replicate n.toNat (cz td.z)))) else ak "append make"
     | none=>ak "append make"
    | _,_,_=>ak "append nil"
   | _=>opS P T E O d (.call ⟨.builtin .append,args,ts⟩) K
  | _,_,_=>opS P T E O d (.call ⟨.builtin .append,args,ts⟩) K
 | .call ⟨.builtin .cap,args,ts⟩=>match args.toList,ts.toList with
  | [x],[t]=>match T.get t,E.ev x with
   | some ⟨.sl _,_,_,_,_⟩,some (.c (.sc (.slice none 0 0)))=>K (some (.c (.sc (.int .i64 0)))) .no
   | _,_=>ak "cap"
  | _,_=>ak "cap"
 | .call ⟨.builtin .copy,args,ts⟩=>match args.toList,ts.toList with
  | [x,y],[t,t2]=>match T.get t,T.get t2,E.ev x,E.ev y with
   | some ⟨.sl e,_,_,_,_⟩,some ⟨.sl _,_,_,_,_⟩,some (.c p1),some (.c p2)=>match T.get e,(match p1 with | .ow r sz n=>some (r,sz,0,n) | .os r sz lo n=>some (r,sz,lo,n) | _=>none) with
    | some td,some (r,sz,lo,n)=>match O.get r,slC O sz p2 with
     | some (.row sz' els),some els2=>bif Nat.beq sz sz'&&Nat.beq sz td.sz then
       ∃ m,m=min els2.length n∧lo+m≤els.length∧aA els2∧K (some (.c (.sc (.int .i64 (m:Nat))))) (.upd r (.row sz (els.take lo++(els2.take m++els.drop (lo+m))))) else ak "copy"
     | _,_=>ak "copy"
    | _,_=>ak "copy"
   | _,_,_,_=>ak "copy"
  | _,_=>ak "copy"
 | .call ⟨.builtin .len,args,ts⟩=>match args.toList,ts.toList with
  | [x],[t]=>match T.get t,E.ev x with
   | some ⟨.mp _ _ _ _,_,_,_,_⟩,some (.c (.mp r))=>match O.get r with
    | some (.mp _ ks _)=>ks.length≤140737488355328∧K (some (.c (.sc (.int .i64 ks.length)))) .no
    | _=>ak "len map"
   | _,_=>opS P T E O d (.call ⟨.builtin .len,args,ts⟩) K
  | _,_=>opS P T E O d (.call ⟨.builtin .len,args,ts⟩) K
 | .makeMap t x=>match T.get t,d with
  | some ⟨.mp _ _ _ agg,_,_,_,_⟩,some k=>bif eN k O&&(match x with | none=>true | some x=>match E.ev x with | some (.c (.sc (.int _ _)))=>true | _=>false) then K (some (.c (.mp k))) (.new k (.mp agg [] [])) else ak "makeMap"
  | _,_=>ak "makeMap"
 | .lookup t x y co=>match T.get t,E.ev x,E.ev y with
  | some ⟨.mp _ e D agg,_,_,_,_⟩,some (.c (.mp r)),some (.c (.sc key))=>match T.get e,O.get r with
   | some td,some (.mp agg' ks vs)=>bif vD D&&(d9 td.z&&((agg==td.agg)&&(agg'==td.agg))) then
     ∃ res u,ic D key ks 0=some res∧Aq vs td.agg td.z res u ∧
      K (some (match co with | true=>.tup [u,.c (.sc (.bool (fnd res)))] | false=>.o u)) .no else ak "lookup"
   | _,_=>ak "lookup"
  | _,_,_=>ak "lookup"
 | .mapUpdate t x y q=>match T.get t,E.ev x,E.ev y,E.ev q with
  | some ⟨.mp _ _ D _,_,_,_,_⟩,some (.c (.mp r)),some (.c (.sc key)),some (.o u)=>match O.get r with
   | some (.mp agg ks vs)=>bif vD D&&closedL u.cells then ∃ res,ic D key ks 0=some res∧mkA agg u.cells=some u∧K none (.upd r (uB agg ks vs key u.cells res)) else ak "mapUpdate"
   | _=>ak "mapUpdate"
  | _,_,_,_=>ak "mapUpdate"
 | .insert t x y q=>match T.get t,E.ev x,E.ev y,E.ev q with
  | some ⟨.mp _ _ D _,_,_,_,_⟩,some (.c (.mp r)),some (.c (.sc key)),some (.o u)=>match O.get r with
   | some (.mp agg ks vs)=>bif vD D&&closedL u.cells then ∃ res,ic D key ks 0=some res∧mkA agg u.cells=some u∧K none (.upd r (uB agg ks vs key u.cells res)) else ak "insert"
   | _=>ak "insert"
  | _,_,_,_=>ak "insert"
 | .index t x y=>match T.get t with
  | some ⟨.arr n e,_,_,_,_⟩=>match E.ev x,E.ev y,T.get e with
   | some (.ag l),some (.c (.sc (.int _ i))),some td=>0≤i∧i<n∧∃ u,mkA td.agg ((l.drop (i.toNat*td.sz)).take td.sz)=some u∧i.toNat*td.sz+td.sz≤l.length∧K (some (.o u)) .no
   | _,_,_=>ak "index"
  | _=>opS P T E O d (.index t x y) K
 | .build t parts=>match T.get t with
  | some ⟨.arr n e,_,_,true,z⟩=>match T.get e,E.evs (parts.toList.map (·.2)) with
   | some td,some l=>match lU (λi=>some (i*td.sz,td.sz)) (cz z) ((parts.toList.map (·.1)).zip l) with
    | some r=>bif d9 z then K (some (.ag r)) .no else ak "build array"
    | none=>ak "build array"
   | _,_=>ak "build array"
  | _=>opS P T E O d (.build t parts) K
 | op=>opS P T E O d op K
section
variable {P:Program} {T:Ty} {E:Env} {O:Objs} {d:Option Tmp} {ty:TypeId} {pos:String} {af:Array Edge} {g:Option (Nat × Bool)} {K:Kt}
theorem tE {t t':TypeId} {x y:Operand} {p q:Bool} (ht:P.underlying t=some .bool) (hx:E.ev x=some (.c (.sc (.bool p)))) (hy:E.ev y=some (.c (.sc (.bool q)))):Step P E O ⟨d,.binOp .eql t x y t',ty,pos,af,g⟩ (some (.c (.sc (.bool (p==q))))) .no:=
 .val λ_ K ok w a hs=>by
  have e1:=(hs.ev hx).sc.1;have e2:=(hs.ev hy).sc.1;refine ⟨.bool (p==q),?_,.ofSc trivial⟩;have heq:(Op.equal t (.bool p) (.bool q)).run P w = .ok (p==q) w:=by
   unfold Op.equal Op.maxDepth Op.equalIn;simp[ah ht]
  have hg:(eqGuard .eql t x y (.bool p) (.bool q)).run P w = .ok () w:=rfl;have hb:binOp .eql t (.bool p) (.bool q)=(do pure (.bool (←Op.equal t (.bool p) (.bool q)))):=rfl;simp[execOp,e1,e2,hg,hb,heq]
theorem tF {t t':TypeId} {x y:Operand} {p q:Bool} (ht:P.underlying t=some .bool) (hx:E.ev x=some (.c (.sc (.bool p)))) (hy:E.ev y=some (.c (.sc (.bool q)))):Step P E O ⟨d,.binOp .neq t x y t',ty,pos,af,g⟩ (some (.c (.sc (.bool (p != q))))) .no:=
 .val λ_ K ok w a hs=>by
  have e1:=(hs.ev hx).sc.1;have e2:=(hs.ev hy).sc.1;refine ⟨.bool (p != q),?_,.ofSc trivial⟩;have heq:(Op.equal t (.bool p) (.bool q)).run P w = .ok (p==q) w:=by
   unfold Op.equal Op.maxDepth Op.equalIn;simp[ah ht]
  have hg:(eqGuard .neq t x y (.bool p) (.bool q)).run P w = .ok () w:=rfl;have hb:binOp .neq t (.bool p) (.bool q)=(do pure (.bool (!(←Op.equal t (.bool p) (.bool q))))):=rfl;simp[execOp,e1,e2,hg,hb,heq];cases p<;>cases q<;>rfl
theorem np {bo:BinOp} {t t':TypeId} {D:TypeDesc} {x y:Operand} {p q:PC} {n:Nat} (ht:P.underlying t=some D) (hD:Ap D=some n) (hx:E.ev x=some (.c p)) (hy:E.ev y=some (.c q)) (h:Ar bo p q n K):Out P E O ⟨d,.binOp bo t x y t',ty,pos,af,g⟩ K:=by
 unfold Ar at h;split at h
 ·rename_i b c n1 n2 hb hc h1 h2;have hq:=aD h; clear h; obtain ⟨hh,h⟩:=hq;simp only[Ex,Fs]at hh;have e1:=Eu hh.2.1;have e2:=Eu hh.2.2;subst e1;subst e2;split at h
  ·exact ⟨_,_,λE' O' A=>Step.isNil (op:=.eql) ht hD (A.e _ _ (by simp[Op.operands]) hx) (A.e _ _ (by simp[Op.operands]) hy) hb hc h1 h2 hh.1 (.inl rfl),λ_=>nn,h⟩
  ·exact ⟨_,_,λE' O' A=>Step.isNil (op:=.neq) ht hD (A.e _ _ (by simp[Op.operands]) hx) (A.e _ _ (by simp[Op.operands]) hy) hb hc h1 h2 hh.1 (.inr rfl),λ_=>nn,h⟩
  ·exact h.elim
 ·exact h.elim
theorem bW (hT:T.ok P) {op:Op} (h:opN P T E O d op K):Out P E O ⟨d,op,ty,pos,af,g⟩ K:=by
 unfold opN at h;split at h
 ·-- binOp
  split at h
  ·rename_i ht;split at h
   ·rename_i hx hy;exact np (hT _ _ ht).2 rfl hx hy h
   ·exact h.elim
  ·rename_i ht;split at h
   ·rename_i hx hy;exact np (And.left (hT _ _ ht).2).u rfl hx hy h
   ·exact h.elim
  ·rename_i ht;have hu:=(hT _ _ ht).2;split at h
   ·rename_i hx hy;exact ⟨_,_,λE' O' A=>tE hu (A.e _ _ (by simp[Op.operands]) hx) (A.e _ _ (by simp[Op.operands]) hy),λ_=>nn,h⟩
   ·rename_i hx hy;exact ⟨_,_,λE' O' A=>tF hu (A.e _ _ (by simp[Op.operands]) hx) (A.e _ _ (by simp[Op.operands]) hy),λ_=>nn,h⟩
   ·exact h.elim
  ·exact cQ hT h
 ·-- convert
  split at h
  ·rename_i e _ _ _ _ _ _ _ _ hs ht;have hsl:TSl P _ e:=(hT _ _ hs).2;split at h
   ·rename_i sz bt ag z p he hx;have hti:TI P e sz bt ag z:=(hT _ _ he).1;split at h
    ·rename_i els hsl';obtain ⟨s,rfl,hsz,h⟩:=h;exact ⟨_,_,λE' O' A=>Step.strOfBytes (P:=P) (hT _ _ he).2 (hT _ _ ht).2 (A.e _ _ (by simp[Op.operands]) hx) ((iQ (λk hk=>A.o rfl _ _ k (by simp[Op.operands]) hx hk)).trans hsl') (by simpa [dP] using hsz),λ_=>nn,h⟩
    ·exact h.elim
   ·exact h.elim
  ·rename_i _ _ _ _ e _ _ _ _ hs ht;have hsl:TSl P _ e:=(hT _ _ ht).2;split at h
   ·rename_i bt ag z s k he hx;have hti:TI P e 1 bt ag z:=(hT _ _ he).1;have hq:=aD h; clear h; obtain ⟨hb,h⟩:=hq;exact ⟨_,_,λE' O' A=>Step.bytesOfStr (P:=P) (hT _ _ he).2 (hT _ _ hs).2 (A.e _ _ (by simp[Op.operands]) hx) (A.n _ rfl),λ_=>nw (NoM.of (aQ hb)),h⟩
   ·exact h.elim
  ·exact cQ hT h
 ·-- slice with three bounds
  split at h
  ·rename_i e _ _ _ _ p l k2 k3 k ht hx hl hh hm;have hsl:TSl P _ e:=(hT _ _ ht).2;split at h
   ·rename_i td n he hn;have hti:=(hT _ _ he).1;have hq:=aD h; clear h; obtain ⟨hb,el,h⟩:=hq;exact ⟨_,_,λE' O' A=>Step.slice3 (P:=P) (A.e _ _ (by simp[Op.operands]) hx) hn (bG (λy a hy he=>A.e _ _ (by simp[Op.operands,hy]) he) hl) el (A.e _ _ (by simp[Op.operands]) hh) (A.e _ _ (by simp[Op.operands]) hm) (A.n _ rfl),λ_=>nw (NoM.of (aQ hb)),h⟩
   ·exact h.elim
  ·exact h.elim
 ·-- nil,cut
  split at h
  ·rename_i e _ _ _ _ kk n ht hx hh;have hsl:TSl P _ e:=(hT _ _ ht).2;split at h
   ·rename_i td he;have hti:=(hT _ _ he).1;obtain ⟨rfl,h⟩:=h;exact ⟨_,_,λE' O' A=>Step.cutNil (P:=P) (A.e _ _ (by simp[Op.operands]) hx) (h:=some 0) (by simp only[dz]; rw[A.e _ _ (by simp[Op.operands]) hh]) rfl,λ_=>nn,h⟩
   ·exact h.elim
  ·exact cQ hT h
 ·-- append
  split at h
  ·rename_i args ts x y t t2 k ha hts;rw[rx ha,rx hts] at *
   split at h
   ·rename_i hx;split at h
    ·rename_i e _ _ _ _ e2 _ _ _ _ p2 ht ht2 hy;have hs:TSl P t e:=(hT _ _ ht).2;have hs2:TSl P t2 e2:=(hT _ _ ht2).2;split at h
     ·rename_i td he;have hti:=(hT _ _ he).1;split at h
      ·rename_i els2 h2;have hq:=aD h; clear h; obtain ⟨hb,h3,h4,h5,h⟩:=hq;simp only[Ex]at hb;exact ⟨_,_,λE' O' A=>Step.appNil (P:=P) (A.e _ _ (by simp[Op.operands,Call.operands]) hx) (A.e _ _ (by simp[Op.operands,Call.operands]) hy) ((iQ (λk hk=>A.o rfl _ _ k (by simp[Op.operands,Call.operands]) hy hk)).trans h2) (Eu hb.1) h3 h4 (A.n _ rfl) h5,λ_=>nw (NoM.of (aQ hb.2)),h⟩
      ·exact h.elim
     ·exact h.elim
    ·rename_i e _ _ _ _ kd _ _ _ _ n ht ht2 hy;have hs:TSl P t e:=(hT _ _ ht).2;have hi:P.underlying t2=some (.int kd):=(hT _ _ ht2).2;split at h
     ·rename_i td he;have hti:=(hT _ _ he).1;have hq:=aD h; clear h; obtain ⟨hb,h3,h4,h⟩:=hq;simp only[Ex]at hb;exact ⟨_,_,λE' O' A=>Step.appMake (P:=P) hi (A.e _ _ (by simp[Op.operands,Call.operands]) hx) (A.e _ _ (by simp[Op.operands,Call.operands]) hy) hb.1 (Eu hb.2.1) (ER hb.2.2.1) h3 h4 (ER hb.2.2.2.1) (A.n _ rfl),λ_=>nw (NoM.of (aQ hb.2.2.2.2)),h⟩
     ·exact h.elim
    ·exact h.elim
   ·exact cQ hT h
  ·exact cQ hT h
 ·-- cap
  split at h
  ·rename_i args ts x t ha hts;rw[vG ha,vG hts] at *
   split at h
   ·rename_i e _ _ _ _ ht hx;have hs:TSl P t e:=(hT _ _ ht).2;refine ⟨_,_,λE' O' A=>Step.val λ_ K ok w a hsim=>?_,λ_=>nn,h⟩;have e1:=(hsim.ev (A.e _ _ (by simp[Op.operands,Call.operands]) hx)).sc.1;exact ⟨.int .i64 0,by simp[execOp,resolve,invoke,builtin,Builtin.cap_,e1,ah hs.u,goInt],.ofSc ⟨by omega,by omega⟩⟩
   ·exact h.elim
  ·exact h.elim
 ·-- copy
  split at h
  ·rename_i args ts x y t t2 ha hts;rw[rx ha,rx hts] at *
   split at h
   ·rename_i e _ _ _ _ e2 _ _ _ _ p1 p2 ht ht2 hx hy;have hs:TSl P t e:=(hT _ _ ht).2;have hs2:TSl P t2 e2:=(hT _ _ ht2).2;split at h
    ·rename_i td r sz lo n he hp1;have hti:=(hT _ _ he).1;split at h
     ·rename_i sz' els els2 ho h2;have hq:=aD h; clear h; obtain ⟨hb,m,hm,hle,hc2,h⟩:=hq;simp only[Ex]at hb;have e1:=Eu hb.1;have e3:=Eu hb.2;subst e1;subst e3;have hp1':(p1 = .ow r td.sz n∧lo=0)∨p1 = .os r td.sz lo n:=by
       split at hp1
       ·cases hp1; exact .inl ⟨rfl,rfl⟩
       ·cases hp1; exact .inr rfl
       ·cases hp1
      have hment:p1.ment r=true:=by rcases hp1' with ⟨rfl,_⟩ | rfl<;>exact EP _
      exact ⟨_,_,λE' O' A=>Step.copyOw (P:=P) (A.e _ _ (by simp[Op.operands,Call.operands]) hx) hp1' ((A.o rfl _ _ r (by simp[Op.operands,Call.operands]) hx hment).trans ho) (A.e _ _ (by simp[Op.operands,Call.operands]) hy) ((iQ (λk hk=>A.o rfl _ _ k (by simp[Op.operands,Call.operands]) hy hk)).trans h2) hm hle hc2,λ_=>nu,h⟩
     ·exact h.elim
    ·exact h.elim
   ·exact h.elim
  ·exact h.elim
 ·-- len
  split at h
  ·rename_i args ts x t ha hts;rw[vG ha,vG hts] at *
   split at h
   ·rename_i k e D agg _ _ _ _ r ht hx;have hM:TMap P t k e:=And.left (hT _ _ ht).2;split at h
    ·rename_i ks _ ho;exact ⟨_,_,λE' O' A=>Step.lenMap (P:=P) (A.e _ _ (by simp[Op.operands,Call.operands]) hx) ((A.o rfl _ _ r (by simp[Op.operands,Call.operands]) hx (EP _)).trans ho) (by simpa [dP] using h.1),λ_=>nn,h.2⟩
    ·exact h.elim
   ·exact cQ hT h
  ·exact cQ hT h
 ·-- makeMap
  split at h
  ·rename_i t x _ _ k e D agg _ _ _ _ q ht;have hM:TMap P t k e:=And.left (hT _ _ ht).2;have hq:=aD h; clear h; obtain ⟨hb,h⟩:=hq;simp only[Ex]at hb
   cases x with
   | none=>exact ⟨_,_,λE' O' A=>Step.makeMap (P:=P) (A.n _ rfl),λ_=>nw (NoM.of (aQ hb.1)),h⟩
   | some x=>
    have hx:∃ ki n,E.ev x=some (.c (.sc (.int ki n))):=by
     have:=hb.2;simp only at this;split at this
     ·rename_i ki n hx; exact ⟨ki,n,hx⟩
     ·cases this
    obtain ⟨ki,n,hx⟩:=hx;exact ⟨_,_,λE' O' A=>Step.makeMapN (P:=P) (A.e _ _ (by simp[Op.operands]) hx) (A.n _ rfl),λ_=>nw (NoM.of (aQ hb.1)),h⟩
  ·exact h.elim
 ·-- lookup
  split at h
  ·rename_i t x y co _ _ _ k e D agg _ _ _ _ r key ht hx hy;obtain ⟨hM,hD,hZ⟩:=(hT _ _ ht).2;split at h
   ·rename_i td agg' ks vs he ho;have hti:=(hT _ _ he).1;have hq:=aD h; clear h; obtain ⟨hb,res,u,hf,hu,h⟩:=hq;simp only[Ex,beq_iff_eq]at hb;obtain ⟨b1,b2,b3,b4⟩:=hb;subst b4;rw[b3]at hZ;exact ⟨_,_,λE' O' A=>Step.lookup (P:=P) hD b1 (A.e _ _ (by simp[Op.operands]) hx) ((A.o rfl _ _ r (by simp[Op.operands]) hx (EP _)).trans ho) (A.e _ _ (by simp[Op.operands]) hy) hf b2 hu,λ_=>nn,h⟩
   ·exact h.elim
  ·exact h.elim
 ·-- mapUpdate
  split at h
  ·rename_i t x y q _ _ _ _ k e D agg0 _ _ _ _ r key u ht hx hy hq;obtain ⟨hM,hD,hZ⟩:=(hT _ _ ht).2;split at h
   ·rename_i agg ks vs ho;have hq':=aD h; clear h; obtain ⟨hb,res,hf,hu,h⟩:=hq';simp only[Ex]at hb;exact ⟨_,_,λE' O' A=>Step.mapUpdate (P:=P) (ins:=false) hD hb.1 (A.e _ _ (by simp[Op.operands]) hx) ((A.o rfl _ _ r (by simp[Op.operands]) hx (EP _)).trans ho) (A.e _ _ (by simp[Op.operands]) hy) (A.e _ _ (by simp[Op.operands]) hq) hu hb.2 hf,λ_=>nu,h⟩
   ·exact h.elim
  ·exact h.elim
 ·-- insert
  split at h
  ·rename_i t x y q _ _ _ _ k e D agg0 _ _ _ _ r key u ht hx hy hq;obtain ⟨hM,hD,hZ⟩:=(hT _ _ ht).2;split at h
   ·rename_i agg ks vs ho;have hq':=aD h; clear h; obtain ⟨hb,res,hf,hu,h⟩:=hq';simp only[Ex]at hb;exact ⟨_,_,λE' O' A=>Step.mapUpdate (P:=P) (ins:=true) hD hb.1 (A.e _ _ (by simp[Op.operands]) hx) ((A.o rfl _ _ r (by simp[Op.operands]) hx (EP _)).trans ho) (A.e _ _ (by simp[Op.operands]) hy) (A.e _ _ (by simp[Op.operands]) hq) hu hb.2 hf,λ_=>nu,h⟩
   ·exact h.elim
  ·exact h.elim
 ·-- index
  split at h
  ·rename_i t x y _ n e _ _ _ _ ht;have ha:TArr P t n e:=(hT _ _ ht).2;split at h
   ·rename_i l k i td hx hy he;have hti:=(hT _ _ he).1;obtain ⟨h0,h1,u,hu,hl,h⟩:=h;exact ⟨_,_,λE' O' A=>Step.indexAgg (P:=P) (A.e _ _ (by simp[Op.operands]) hx) (A.e _ _ (by simp[Op.operands]) hy) h0 h1 hl hu,λ_=>nn,h⟩
   ·exact h.elim
  ·exact cQ hT h
 ·-- array
  split at h
  ·rename_i t parts _ n e sz bt z ht;have ha:TArr P t n e:=(hT _ _ ht).2;have hti:TI P t sz bt true z:=(hT _ _ ht).1;split at h
   ·rename_i td l he hl;have htd:=(hT _ _ he).1;split at h
    ·rename_i r hr;have hq:=aD h; clear h; obtain ⟨hb,h⟩:=hq;exact ⟨_,_,λE' O' A=>Step.buildArr (P:=P) hb (dq (λy _ hy=>A.e _ _ (by simp only[Op.operands]; exact hy)) hl) hr,λ_=>nn,h⟩
    ·exact h.elim
   ·exact h.elim
  ·exact cQ hT h
 ·exact cQ hT h
end
end
end Go.Proofs.YtgceikecdedfcaaGreat.Pv
