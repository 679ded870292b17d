/- Parts of a proof, joined: PvV PvO PvP. -/
import Derived.Test.YtgceikecdedfcaaGreatLpE
import Derived.TacticsIn
namespace Go.Proofs.YtgceikecdedfcaaGreat.Pv
open Go
section
structure FrY (F:Nat→Prop) (w:World) (F':Nat→Prop) (w':World):Prop where
 size:w.heap.size≤w'.heap.size
 keep:∀ b,b<w.heap.size→¬ F b→w'.heap[b]? = w.heap[b]?
 grow:∀ b,F' b→F b∨w.heap.size≤b
 lt:∀ b,F' b→b<w'.heap.size
 os:w'.os=w.os
 tape:w'.tape=w.tape
 output:w'.output=w.output
 kind:∀ (b:Nat) (o:Obj),w.heap[b]? = some o→∃ o',w'.heap[b]? = some o'∧SK o o'
def CA (P:Program) (v:Value) (vs:Array Value) (w:World) (Q:Ending→World→Prop):Prop:=
 ∃ l f tmps assign body,v = .func (.yield l) #[] #[]∧(Instr.yield l vs).run P w = .ok (.round l f tmps assign body) w∧RoundIn Fence.wide 0 P l f tmps assign body w Q
abbrev St:=(Nat→Prop)→(Nat→Prop)→World→Prop
structure Yields (P:Program) (v:Value) (items:List (List A1)) (I:Nat→St) (X:St):Prop where
 st:∀ i,k8 (I i)
 stX:k8 X
 call:∀ (i:Nat) (args:List A1),items[i]? = some args→∀ (ok F:Nat→Prop) (w:World) (K:Km) (vs:List Value),I i ok F w→(∀ b,ok b→b<w.heap.size)→(∀ b,F b→¬ ok b)→(∀ b,F b→b<w.heap.size)→RelAs K ok w args vs →
  CA P v vs.toArray w λe w'=>∃ b F',e = .returned (.bool b)∧FrY F w F' w'∧(b=true→I (i+1) ok F' w')∧(b=false→X ok F' w')
def CtIO (P:Program) (f:FuncId) (OT:Objs) (args:List A1) (items:List (List A1)) (OE:Objs):Prop:=
 ∀ (v:Value) (I:Nat→St) (X:St),one v=true→Yields P v items I X→CtO P f ((2000000,some (.abs (I 0)))::OT) (.c (.cb v)::args) ((2000000,some (.abs λok F w=>I items.length ok F w∨X ok F w))::OE) []
abbrev CtI (P:Program) (f:FuncId) (args:List A1) (items:List (List A1)):Prop:=CtIO P f [] args items []
def yJ (I:Nat→St) (X:St) (i:Nat):Bool→St
 | true=>I (i+1)
 | false=>X
section
variable {P:Program} {N:Cx} {K:Km} {ok:Nat→Prop} {w:World} {E:Env} {O:Objs} {a:Act} {d:Option Tmp} {ty:TypeId} {pos:String} {af:Array Edge} {g:Option (Nat × Bool)}
theorem xt (hs:Sim N K ok w E O a) {t:Tmp} {v:Value} {args:Array Operand} {ts:Array TypeId} {l:List A1} {items:List (List A1)} {I:Nat→St} {X:St} {i:Nat} {next:Act→World→Prop} {Q:Exit→Act→World→Prop}
  (ht:E.get t=some (.c (.cb v))) (hl:E.evs args.toList=some l) (hY:Yields P v items I X) (ho:O.get 2000000=some (.abs (I i))) (hno:fS (O.del 2000000)=true) (hi:items[i]? = some l) (hd:∀ t,d=some t→t<N.s.n∧t∉N.s.fz)
  (hn:∀ b K' w',Sim N K' ok w' (bN d (some (.c (.sc (.bool b)))) E) (O.set 2000000 (.abs (yJ I X i b))) (a.put d (.bool b))→Fr K ok w O K' ok w' (O.set 2000000 (.abs (yJ I X i b)))→next (a.put d (.bool b)) w') :
  Oper.wpIn (FR N.R) 0 P ⟨d,.call ⟨.value (.tmp t),args,ts⟩,ty,pos,af,g⟩ a w next Q:=by
 have hv:=(hs.ev (x:=.tmp t) ht).one;generalize hev:a.eval (.tmp t)=u at hv;have:u=v:=by
  cases hv with
  | cl h=>cases h; rfl
 subst this;obtain ⟨hK0,hst,hI⟩:=hs.hp.obs 2000000 _ ho;have hrel:=cX hs hl;obtain ⟨ll,f,tmps,as_,body,rfl,hy,hr⟩:=hY.call i l hi ok K.hid w K _ hI hs.hp.lt hs.hp.hok hs.hp.hlt hrel;refine ⟨λ_ _=>trivial,?_⟩;rw[Oper.semAt_eq _ _ _ (by intro c h; cases h)];have hy':(Instr.yield ll (args.map a.eval)).run P w = .ok (.round ll f tmps as_ body) w:=by
  have:(args.toList.map a.eval).toArray=args.map a.eval:=by apply GA; simp
  rw[←this]; exact hy
 have hexec:(execOp a.eval ⟨d,.call ⟨.value (.tmp t),args,ts⟩,ty,pos,af,g⟩).run P w = .ok (.round ll f tmps as_ body) w:=by
  simp[execOp,resolve,hev,Deferred.ofValue,invoke,hy']
 rw[hexec,Oper.uponIn_round];refine ⟨λh=>(by cases h),RoundIn.mono (show RoundIn (FR N.R) (0-1) P ll f tmps as_ body w _ from hr) λe w' h=>?_⟩;obtain ⟨b,F',rfl,hf,h1,h2⟩:=h;have hJ:(yJ I X i b) ok F' w':=by
  cases b with
  | true=>exact h1 rfl
  | false=>exact h2 rfl
 have hS:k8 (yJ I X i b):=by
  cases b with
  | true=>exact hY.st _
  | false=>exact hY.stX
 generalize hJe:(yJ I X i b)=J at hJ hS;have old:∀ k' o',(O.set 2000000 (.abs J)).get k'=some o'→k'≠2000000→O.get k'=some o'∧(O.del 2000000).get k'=some o':=by
  intro k' o' h hne;rw[Objs.get_set,if_neg (λe=>hne e.symm)]at h;exact ⟨h,Objs.get_del_ne (λe=>hne e.symm) h⟩
 let K':Km:=⟨K.at_,F'⟩
 have hkeepOwn:∀ k o b L,O.get k=some o→K k=some (b,L)→w'.heap[b]? = w.heap[b]?:=λk o b L g1 g2=>hf.keep b (db hs.hp g1 g2) (hs.hp.how k o b L g1 g2)
 have hkeepOk:∀ b,ok b→b<w.heap.size→w'.heap[b]? = w.heap[b]?:=λb hb hlt=>hf.keep b hlt λh=>hs.hp.hok b h hb
 have hK2:∀ {k o b L},(O.set 2000000 (.abs J)).get k=some o→K' k=some (b,L)→k≠2000000:=λ{k o b L} _ g2 e=>by
  subst e;have:K 2000000=some (b,L):=g2;rw[hK0]at this; cases this
 have hfr:Fr K ok w O K' ok w' (O.set 2000000 (.abs J)):=
  ⟨hf.size,λb hb _ h=>hf.keep b hb h,λ_ h=>h,λ_ h=>.inl h,λk o b L g1 g2=>.inr ⟨k,o,L,(old k o g1 (hK2 g1 g2)).1,g2⟩,hf.os,hf.tape,hf.output,hf.kind,λ_ _=>rfl,hf.grow⟩
 have hp2:Hp K' ok w' (O.set 2000000 (.abs J)):=by
  refine ⟨λk o h=>?_,λk k' o o' b L L' g1 g2 e1 e2=>hs.hp.inj k k' o o' b L L' (old k o g1 (hK2 g1 e1)).1 (old k' o' g2 (hK2 g2 e2)).1 e1 e2,λk o b L g1 e=>hs.hp.apart k o b L (old k o g1 (hK2 g1 e)).1 e,λb h=>EG (hs.hp.lt b h) hf.size,hf.lt,λb h hok=>?_,λk o b L g1 e h=>?_⟩
  ·by_cases hk:k=2000000
   ·subst hk;rw[Objs.get_set,if_pos rfl]at h;cases h;exact ⟨hK0,hS,hJ⟩
   ·obtain ⟨g1,g2⟩:=old k o h hk;refine HOb.mono (K:=K) (K':=K') (λ_ h=>h) hkeepOk hf.size rfl (λb L hK=>hkeepOwn k o b L g1 hK) (λJ hJ=>?_) (λr _=>⟨rfl,λb _ _ cs e fr hb=>?_⟩) (hs.hp.obs k o g1)
    ·subst hJ; exact absurd g2 (gp hno)
    ·obtain ⟨o',g1,c',e',f',rfl,g2⟩:=hf.kind b _ hb;exact ⟨c',e',f',g1,g2⟩
  ·rcases hf.grow b h with h1 | h1
   ·exact hs.hp.hok b h1 hok
   ·have:=hs.hp.lt b hok; omega
  ·have g1':=(old k o g1 (hK2 g1 e)).1;rcases hf.grow b h with h1 | h1
   ·exact hs.hp.how k o b L g1' e h1
   ·have:=db hs.hp g1' e; omega
 have hsim:Sim N K' ok w' E (O.set 2000000 (.abs J)) a:=
  ⟨hs.size,hs.defers' hfr,EA hs.base hf.size,hs.rnd' hfr,hs.old,hp2,λt av h=>by
   obtain ⟨u,hu,hr⟩:=hs.env t av h;refine ⟨u,hu,RelV.mono (K:=K) (K':=K') (λ_ h=>h) hkeepOk hf.size hr λr _=>⟨rfl,λb _ _ cs e fr hb=>?_⟩⟩;obtain ⟨o',g1,c',e',f',rfl,g2⟩:=hf.kind b _ hb;exact ⟨c',e',f',g1,g2⟩⟩
 have hsp:SP K' ok w' (O.set 2000000 (.abs J)) (some (.c (.sc (.bool b)))) .no (.bool b) K' ok w':=⟨λx hx=>by cases hx; exact .ofSc trivial,hp2,Fr.refl _ _ _ _,λ_ _=>rfl⟩;have:=hn b K' w';rw[hJe]at this;exact this (hsp.sim hsim hd) hfr
end
end
section
inductive How where
 | look
 | upd (k:Nat)
 | frz
 | own (σ ν:List (Nat × Nat))
 | two (k1 k2:Nat)
 | same (σ:List (Nat × Nat)) (k:Nat)
 | fzo (ks:List Nat) (σ ν:List (Nat × Nat))
def xu:Ob→Bool
 | .abs _=>false
 | _=>true
theorem X2 {q:How→Prop} (h:How) (hh:q h):∃ h,q h:=⟨h,hh⟩
def tgt (E:Env) (c:Operand) (args:List Operand):Option (FuncId × List A1):=
 match c with
 | .func f=>match E.evs args with | some l=>some (f,l) | none=>none
 | .tmp t=>match E.get t,E.evs args with
  | some (.c (.fn f caps)),some l=>some (f,l++caps.map .c)
  | _,_=>none
 | _=>none
def pc (k:Nat) (x:PC):PC:=bif x.ment k then .dead else x
def fy (k:Nat):Ob→Ob
 | .var cells=>bif cW k cells then .var (cells.map (pc k)) else .var cells
 | .rowO sz els ids=>bif bF k ids then .rowO sz (els.map (·.map (pc k))) (ids.filter λr=>!(Nat.beq r k)) else .rowO sz els ids
 | ob=>ob
def Objs.kill (k:Nat):Objs→Objs
 | []=>[]
 | (q,o)::O=>(q,o.map (fy k))::Objs.kill k O
theorem pd {K:Km} {ok:Nat→Prop} {w:World} {k:Nat} {x:PC} {v:Value} (h:RelO K ok w x v):RelO K ok w (pc k x) v:=by
 unfold pc
 cases x.ment k with
 | true=>exact .dead h.one
 | false=>exact h
theorem nE {k r:Nat}:∀ {l:List PC},PC.ment.mentL r (l.map (pc k))=true→PC.ment.mentL r l=true∧r≠k
 | [],h=>by cases h
 | x::l,h=>by
  simp only[Fg,PC.ment.mentL,Fs]at h ⊢;rcases h with h | h
  ·unfold pc at h
   cases hm:x.ment k with
   | true=>rw[hm]at h; cases h
   | false=>
    rw[hm]at h;simp only[cond_false]at h;exact ⟨.inl h,λe=>by subst e; rw[hm]at h; cases h⟩
  ·obtain ⟨h1,h2⟩:=nE h; exact ⟨.inr h1,h2⟩
theorem HOb.kill {K:Km} {ok:Nat→Prop} {w:World} {k q:Nat} {ob:Ob} (h:HOb K ok w q ob):HOb K ok w q (fy k ob):=by
 cases ob with
 | var cells=>
  simp only[fy]
  cases cW k cells with
  | false=>exact h
  | true=>
   obtain ⟨b,cs,e,fr,a1,a2,a3,a4⟩:=h;exact ⟨b,cs,e,fr,a1,a2,a3,by simp[a4.len],λi x hx=>by
    simp only[EH,EC]at hx;obtain ⟨y,hy,rfl⟩:=hx;obtain ⟨u,hu,hr⟩:=a4.get i y hy;exact ⟨u,hu,pd hr⟩⟩
 | rowO sz els ids=>
  simp only[fy]
  cases bF k ids with
  | false=>exact h
  | true=>
   obtain ⟨h0,h⟩:=h;refine ⟨λel r hel hm=>?_,?_⟩
   ·obtain ⟨el',hel',rfl⟩:=Fb.1 hel;obtain ⟨h1,h2⟩:=nE hm;refine iL (Hc.2 ⟨gl (h0 el' r hel' h1),?_⟩)
    cases hb:Nat.beq r k with
    | false=>rfl
    | true=>exact absurd (Eu hb) h2
   ·rcases h with ⟨h1,h2⟩ | ⟨b,cs,e,fr,a1,a2,a3,a4,a5,a6,a7⟩
    ·exact .inl ⟨h1,by simp[h2]⟩
    ·refine .inr ⟨b,cs,e,fr,by simpa using a1,a2,a3,by simpa using a4,by simpa using a5,λj el hj=>?_,λj i el x hj hi=>?_⟩
     ·simp only[EH,EC]at hj;obtain ⟨el',hj',rfl⟩:=hj;simpa using a6 j el' hj'
     ·simp only[EH,EC]at hj;obtain ⟨el',hj',rfl⟩:=hj;simp only[EH,EC]at hi;obtain ⟨y,hy,rfl⟩:=hi;obtain ⟨u,hu,hr⟩:=a7 j i el' y hj' hy;exact ⟨u,hu,pd hr⟩
 | row _ _=>exact h
 | mp _ _ _=>exact h
 | me _ _=>exact h
 | abs _=>exact h
section
variable {E:Env} {O:Objs}
theorem Sim.less {X:Cx} {K:Km} {ok:Nat→Prop} {w:World} {a:Act} {k:Nat} {ob ob':Ob} (hs:Sim X K ok w E O a) (hk:O.get k=some ob) (hl:HOb K ok w k ob→HOb K ok w k ob'):Sim X K ok w E (O.set k ob') a∧Fr K ok w O K ok w (O.set k ob'):=by
 have hsub:∀ t o,(O.set k ob').get t=some o→∃ o',O.get t=some o':=λt o h=>by
  rw[Objs.get_set]at h;split at h
  ·rename_i e; subst e; exact ⟨_,hk⟩
  ·exact ⟨o,h⟩
 refine ⟨⟨hs.size,hs.defers,hs.base,hs.rnd,hs.old,⟨λt o g=>?_,λt t' o o' b L L' g1 g2=>?_,λt o b L g=>?_,hs.hp.lt,hs.hp.hlt,hs.hp.hok,λt o b L g=>?_⟩,hs.env⟩,
  Ew _,λ_ _ _ _=>rfl,λ_ h=>h,λ_ h=>.inl h,λt o b L g1 g2=>by obtain ⟨o',g3⟩:=hsub t o g1; exact .inr ⟨t,o',L,g3,g2⟩,rfl,rfl,rfl,λ_ o h=>⟨o,h,SK.refl o⟩,λ_ _=>rfl,λ_ h=>.inl h⟩
 ·rw[Objs.get_set]at g;split at g
  ·rename_i e; subst e; cases g; exact hl (hs.hp.obs k ob hk)
  ·exact hs.hp.obs t o g
 ·obtain ⟨p,q1⟩:=hsub t o g1;obtain ⟨p',q2⟩:=hsub t' o' g2;exact hs.hp.inj t t' p p' b L L' q1 q2
 ·obtain ⟨p,q1⟩:=hsub t o g; exact hs.hp.apart t p b L q1
 ·obtain ⟨p,q1⟩:=hsub t o g; exact hs.hp.how t p b L q1
end
def At (E:Env):List Operand→Option Nat
 | x::_=>match E.ev x with
  | some (.c (.ow r _ _))=>some r
  | _=>none
 | []=>none
def xv (r:Nat):Objs→Option Nat
 | []=>none
 | (q,some ob)::O=>bif ns r (some ob) then xv r O else some q
 | (_,none)::O=>xv r O
def DC (j:Nat) (oj:Ob) (K:Kt):Kt:=λav eff=>match eff with
 | .app r o=>bif Nat.beq j r then ak "apk" else K av (.apk r o j oj)
 | _=>ak "apk"
theorem Step.apk {P:Program} {E:Env} {O:Objs} {o:Oper} {av:Option AV} {r j:Nat} {ob oj obr:Ob} (hj:j≠r) (h:Step P E (O.set j oj) o av (.app r obr)) (ho:O.get j=some ob) (hl:∀ K ok w,HOb K ok w j ob→HOb K ok w j oj):Step P E O o av (.apk r obr j oj):=by
 intro N K ok w a next Q hs hn;obtain ⟨h1,h2⟩:=hs.less ho (hl K ok w);refine h N K ok w a next Q h1 λv K' ok' w' hsp=>hn v K' ok' w' ?_
 have hsub:SubO ((O.set r obr).set j oj) ((O.set j oj).set r obr):=λt o h=>by
  rw[Objs.get_set,Objs.get_set]at h ⊢;by_cases e1:j=t
  ·subst e1; rw[if_pos rfl]at h; rw[if_neg (Ne.symm hj),if_pos rfl]; exact h
  ·rw[if_neg e1]at h; rw[if_neg e1]; exact h
 exact ⟨hsp.val,hsp.hp.sub hsub,(h2.trans hsp.fr).trans (Fr.weak hsub),hsp.km⟩
def opT (P:Program) (T:Ty) (E:Env) (O:Objs) (d:Option Tmp) (op:Op) (K:Kt):Prop:=
 match op with
 | .buildSlice t len parts=>bif vF T 1000001 then (match T.get t,E.evs (parts.toList.map (·.2)) with
  | some ⟨.sl e,_,_,_,_⟩,some l=>match T.get e with
   | some td=>bif kb 0 (parts.toList.map (·.1))&&Nat.beq l.length len&&Nat.beq td.z.length td.sz&&nl td.sz l&&Nat.ble (len*td.sz) 16777216&&Nat.ble len 16777216 then
     K (some (.c (.sl td.sz (l.map A1.cells)))) .no else ak "buildSlice"
   | none=>ak "buildSlice"
  | _,_=>ak "buildSlice") else opN P T E O d (.buildSlice t len parts) K
 | .load t x=>bif vF T 1000002 then (match T.get t,E.ev x with
  | some td,some (.c (.ad k off))=>match O.get k with
   | some (.var cells)=>match mkA td.agg ((cells.drop off).take td.sz) with
    | some y=>bif Nat.ble (off+td.sz) cells.length then (bif closedL y.cells then K (some (.o y)) .no else K (some (.o y)) (.upd k (.var (spl cells off (List.replicate td.sz .dead))))) else ak "load"
    | none=>ak "load"
   | _=>opN P T E O d (.load t x) K
  | some td,some (.c (.ea r sz i off))=>match O.get r with
   | some (.rowO sz' els ids)=>bif Nat.beq sz sz' then ∃ el,els[i]? = some el∧(match mkA td.agg ((el.drop off).take td.sz) with
    | some y=>bif Nat.ble (off+td.sz) el.length then (bif closedL y.cells then K (some (.o y)) .no else ∃ ids',(∀ el' q,el'∈els.set i (spl el off (List.replicate td.sz .dead))→cW q el'=true→bF q ids'=true)∧K (some (.o y)) (.upd r (.rowO sz (els.set i (spl el off (List.replicate td.sz .dead))) ids'))) else ak "load"
    | none=>ak "load") else ak "load"
   | _=>opN P T E O d (.load t x) K
  | _,_=>opN P T E O d (.load t x) K) else opN P T E O d (.load t x) K
 | .call ⟨.value (.func f),args,_⟩=>match E.evs args.toList with
  | some l=>bif az l && !(vF T f) then ∃ res,Ct P f l res∧(bif az res then K (some (cw res)) .no else ak "call") else
   ∃ h:How,match h with
   | .look=>∃ res,Ct P f (l.map (ng O)) res∧(bif res.all rq then K (some (cw res)) .no else ak "look")
   | .upd k=>match O.get k with
    | some ob=>bif l.any (A1.ment k)&&ci ob then ∃ ob' res,CtO P f [(1000000,some ob)] (l.map (f9 [(k,1000000)])) [(1000000,some ob')] res∧(bif ci ob'&&az res then K (some (cw res)) (.upd k ob') else ak "upd") else ak "upd"
    | none=>ak "upd"
   | .two k1 k2=>match O.get k1,O.get k2 with
    | some ob1,some ob2=>bif !(Nat.beq k1 k2)&&(l.any (A1.ment k1)&&(ci ob2&&xu ob1)) then dx [(1000000,k1),(1000001,k2)] (dx [(k1,1000000),(k2,1000001)] ob1)=ob1∧∃ ob2' res,CtO P f [(1000000,some (dx [(k1,1000000),(k2,1000001)] ob1)),(1000001,some ob2)] (l.map (f9 [(k1,1000000),(k2,1000001)])) [(1000000,some (dx [(k1,1000000),(k2,1000001)] ob1)),(1000001,some ob2')] res ∧
      (bif ci ob2'&&az res then K (some (cw res)) (.upd k2 ob2') else ak "two") else ak "two"
    | _,_=>ak "two"
   | .same σ k=>match O.get k with
    | some ob=>bif mr σ&&(mt σ (df σ) [] (bQ σ O σ)&&(!(bv σ O)&&(fS (bQ σ O σ)&&σ.all λp=>Nat.beq p.1 k||l.any (A1.ment p.1)))) then d7 (df σ) (bQ σ O σ)=σ.map (λp=>(p.1,O.get p.1))∧∃ res,CtO P f (bQ σ O σ) (l.map (f9 σ)) (bQ σ O σ) res ∧
      (bif az res then K (some (cw res)) (.upd k ob) else ak "same") else ak "same"
    | none=>ak "same"
   | _=>False
  | none=>ak "args"
 | .call ⟨.builtin .append,args,ts⟩=>match At E args.toList with
  | some r=>bif eN r O then opN P T E O d (.call ⟨.builtin .append,args,ts⟩) K else (match xv r O with
   | some j=>(match O.get j with
    | some ob=>opN P T E (O.set j (fy r ob)) d (.call ⟨.builtin .append,args,ts⟩) (DC j (fy r ob) K)
    | none=>ak "apk")
   | none=>ak "apk")
  | none=>opN P T E O d (.call ⟨.builtin .append,args,ts⟩) K
 | op=>opN P T E O d op K
def Ca (P:Program) (T:Ty) (E:Env) (O:Objs) (d:Option Tmp) (c:Operand) (args:List Operand) (f:FuncId) (l:List A1) (C:Env→Objs→Prop):Prop:=
 bif az l && !(vF T f) then ∃ res,Ct P f l res∧(bif az res then C (bN d (some (cw res)) E) O else ak "call") else
  ∃ h:How,match h with
  | .look=>∃ res,Ct P f (l.map (ng O)) res∧(bif res.all rq then C (bN d (some (cw res)) E) O else ak "look")
  | .upd k=>match O.get k with
   | some ob=>bif l.any (A1.ment k)&&ci ob then ∃ ob' res,CtO P f [(1000000,some ob)] (l.map (f9 [(k,1000000)])) [(1000000,some ob')] res∧(bif ci ob'&&az res then C (bN d (some (cw res)) E) (O.set k ob') else ak "upd") else ak "upd"
   | none=>ak "upd"
  | .frz=>match tgt (.vw (O.only (jR l))::E) c args with
   | some (f1,l1)=>bif az l1&&Nat.beq f1 f then ∃ res,Ct P f l1 res∧(bif az res then C (bN d (some (cw res)) (.vw (O.only (jR l))::E)) (O.froze (jR l) (O.only (jR l))) else ak "call") else ak "frz"
   | none=>ak "frz"
  | .own σ ν=>bif mr σ then ∃ Oout res,CtO P f (bQ σ O σ) (l.map (f9 σ)) Oout res∧(bif mt σ ν O Oout&&kg σ O Oout then C (bN d (some (cw (res.map (f9 ν)))) (kh ν E)) (d7 ν Oout++O.delL (σ.map (·.1))) else ak "own") else ak "own"
  | .two _ _=>False
  | .same _ _=>False
  | .fzo ks σ ν=>match tgt (.vw (O.only ks)::E) c args with
   | some (f1,l1)=>bif mr σ&&Nat.beq f1 f then ∃ Oout res,CtO P f (bQ σ (O.froze ks (O.only ks)) σ) (l1.map (f9 σ)) Oout res∧(bif mt σ ν (O.froze ks (O.only ks)) Oout&&kg σ (O.froze ks (O.only ks)) Oout then C (bN d (some (cw (res.map (f9 ν)))) (kh ν (.vw (O.only ks)::E))) (d7 ν Oout++(O.froze ks (O.only ks)).delL (σ.map (·.1))) else ak "own") else ak "own"
   | none=>ak "own"
def cbR (P:Program) (E:Env) (O:Objs) (d:Option Tmp) (c:Operand) (args:List Operand) (C:Env→Objs→Prop):Prop:=
 match c with
 | .tmp t=>match E.get t,E.evs args with
  | some (.c (.cb v)),some l=>∃ (items:List (List A1)) (I:Nat→St) (X:St) (i:Nat),Yields P v items I X∧O.get 2000000=some (.abs (I i))∧items[i]? = some l ∧
    (bif fS (O.del 2000000) then C (bN d (some (.c (.sc (.bool true)))) E) (O.set 2000000 (.abs (I (i+1))))∧C (bN d (some (.c (.sc (.bool false)))) E) (O.set 2000000 (.abs X)) else ak "yield")
  | _,_=>ak "callee"
 | _=>ak "callee"
def DD (E:Env) (d:Option Tmp) (op:Op):Option Nat:=
 match op with
 | .alloc _=>d
 | .box _ _=>d
 | .buildSlice _ _ _=>d
 | .makeSlice _ _ _=>d
 | .makeMap _ _=>d
 | .call ⟨.builtin .append,args,_⟩=>match args.toList with
  | x::_=>match E.ev x with
   | some (.c (.ow r _ _))=>some r
   | _=>d
  | []=>none
 | _=>none
def xw (T:Ty) (E:Env) (O:Objs) (d:Option Tmp) (t:Nat) (r sz n:Nat) (lo hi:Option Operand) (C:Env→Objs→Prop):Prop:=
 match T.get t,dz E lo,dz E hi,O.get r with
 | some ⟨.sl e,_,_,_,_⟩,some l,some h,some (.row sz' els)=>match T.get e with
  | some td=>bif Nat.beq sz sz'&&(Nat.beq sz td.sz&&eN r (O.kill r)) then ∃ h':Nat,l.getD 0=0∧h.getD n=h'∧n=els.length∧h'≤n∧C (bN d (some (.c (.ow r sz h'))) (.k r::E)) ((O.kill r).set r (.row sz (els.take h'))) else ak "trunc"
  | none=>ak "trunc"
 | _,_,_,_=>ak "trunc"
def opR (P:Program) (T:Ty) (E:Env) (O:Objs) (d:Option Tmp) (op:Op) (C:Env→Objs→Prop):Prop:=
 match op with
 | .call ⟨.value c,args,_⟩=>match tgt E c args.toList with
  | some (f,l)=>Ca P T E O d c args.toList f l C
  | none=>cbR P E O d c args.toList C
 | .slice t x lo hi none=>match E.ev x with
  | some (.c (.ow r sz n))=>opN P T E O d (.slice t x lo hi none) (λav eff=>C (bN d av (eff.E E)) (eff.O O))∨xw T E O d t r sz n lo hi C
  | _=>opN P T E O d (.slice t x lo hi none) (λav eff=>C (bN d av (eff.E E)) (eff.O O))
 | .binOp bo t x y t'=>match T.get t,E.ev y with
  | some ⟨.sl _,_,_,_,_⟩,some (.c (.sc (.slice none 0 0)))=>match E.ev x with
   | some (.c (.sc (.slice none 0 0)))=>(match bo with
    | .eql=>C (bN d (some (.c (.sc (.bool true)))) E) O
    | .neq=>C (bN d (some (.c (.sc (.bool false)))) E) O
    | _=>ak "nil slice")
   | some (.c p)=>match nc p with
    | some n=>(match bo with
     | .eql=>∀ b:Bool,(b=true→n=0)→C (bN d (some (.c (.sc (.bool b)))) E) O
     | .neq=>∀ b:Bool,(b=true→n=0)→C (bN d (some (.c (.sc (.bool (!b))))) E) O
     | _=>ak "nil slice")
    | none=>ak "nil slice"
   | _=>ak "nil slice"
  | _,_=>opN P T E O d (.binOp bo t x y t') (λav eff=>C (bN d av (eff.E E)) (eff.O O))
 | .mapUpdate t x y q=>match E.ev q with
  | some (.o u)=>bif closedL u.cells then opN P T E O d (.mapUpdate t x y q) (λav eff=>C (bN d av (eff.E E)) (eff.O O)) else
    ∃ ks:List Nat,opN P T (.vw (O.only ks)::E) (O.froze ks (O.only ks)) d (.mapUpdate t x y q) (λav eff=>C (bN d av (eff.E (.vw (O.only ks)::E))) (eff.O (O.froze ks (O.only ks))))
  | _=>ak "mapUpdate"
 | .buildSlice t len parts=>bif vF T 1000003 then opT P T E O d (.buildSlice t len parts) (λav eff=>C (bN d av (eff.E E)) (eff.O O)) else (match d with
  | some k=>bif eN k O then opN P T E O d (.buildSlice t len parts) (λav eff=>C (bN d av (eff.E E)) (eff.O O)) else opN P T E (O.kill k) d (.buildSlice t len parts) (λav eff=>C (bN d av (eff.E E)) (eff.O (O.kill k)))
  | none=>opN P T E O d (.buildSlice t len parts) (λav eff=>C (bN d av (eff.E E)) (eff.O O)))
 | op=>match DD E d op with
  | some k=>bif eN k O then opN P T E O d op (λav eff=>C (bN d av (eff.E E)) (eff.O O)) else opN P T E (O.kill k) d op (λav eff=>C (bN d av (eff.E E)) (eff.O (O.kill k)))
  | none=>opN P T E O d op (λav eff=>C (bN d av (eff.E E)) (eff.O O))
section
variable {P:Program} {T:Ty} {E:Env} {O:Objs} {d:Option Tmp} {ty:TypeId} {pos:String} {af:Array Edge} {g:Option (Nat × Bool)} {K:Kt}
theorem md {op:Op} (h:opN P T E O d op K) (c:Call):op ≠ .defer c:=by rintro rfl; exact h
theorem mf {op:Op} (h:opT P T E O d op K) (c:Call):op ≠ .defer c:=by rintro rfl; exact h
theorem SP.less {Km' K':Km} {ok ok':Nat→Prop} {w w':World} {av:Option AV} {v:Value} {k:Nat} {ob ob':Ob} (h:SP Km' ok w O av .no v K' ok' w') (ho:O.get k=some ob) (hl:HOb K' ok' w' k ob→HOb K' ok' w' k ob'):SP Km' ok w O av (.upd k ob') v K' ok' w':=by
 have hsub:∀ t o,(O.set k ob').get t=some o→∃ o',O.get t=some o':=λt o h=>by
  rw[Objs.get_set]at h;split at h
  ·rename_i e; subst e; exact ⟨_,ho⟩
  ·exact ⟨o,h⟩
 have hp:Hp K' ok' w' O:=h.hp;have hfr:Fr K' ok' w' O K' ok' w' (O.set k ob'):=
  ⟨Ew _,λ_ _ _ _=>rfl,λ_ h=>h,λ_ h=>.inl h,λt o b L g1 g2=>by obtain ⟨o',g3⟩:=hsub t o g1; exact .inr ⟨t,o',L,g3,g2⟩,rfl,rfl,rfl,λ_ o h=>⟨o,h,SK.refl o⟩,λ_ _=>rfl,λ_ h=>.inl h⟩
 refine ⟨h.val,⟨λt o g=>?_,λt t' o o' b L L' g1 g2=>?_,λt o b L g=>?_,hp.lt,hp.hlt,hp.hok,λt o b L g=>?_⟩,h.fr.trans hfr,λr hr=>h.km r (by intro e; cases e)⟩
 ·change (O.set k ob').get t=some o at g;rw[Objs.get_set]at g;split at g
  ·rename_i e; subst e; cases g; exact hl (hp.obs k ob ho)
  ·exact hp.obs t o g
 ·obtain ⟨p,q1⟩:=hsub t o g1;obtain ⟨p',q2⟩:=hsub t' o' g2;exact hp.inj t t' p p' b L L' q1 q2
 ·obtain ⟨p,q1⟩:=hsub t o g; exact hp.apart t p b L q1
 ·obtain ⟨p,q1⟩:=hsub t o g; exact hp.how t p b L q1
theorem Step.less {o:Oper} {av:Option AV} {k:Nat} {ob ob':Ob} (h:Step P E O o av .no) (ho:O.get k=some ob) (hl:∀ K ok w,HOb K ok w k ob→HOb K ok w k ob'):Step P E O o av (.upd k ob'):=by
 intro N K ok w a next Q hs hn;exact h N K ok w a next Q hs λv K' ok' w' hsp=>hn v K' ok' w' (hsp.less ho (hl K' ok' w'))
theorem rH {cells:List PC} {off n i:Nat} {x:PC} (hb:off+n≤cells.length) (hx:(spl cells off (List.replicate n .dead))[i]? = some x):∃ y,cells[i]? = some y∧(x=y∨x = .dead):=by
 unfold spl at hx;rcases Fm i off with h | h
 ·rw[EF (by simp; omega),Fy,if_pos h]at hx;exact ⟨x,hx,.inl rfl⟩
 ·rw[ED (by simp; omega)]at hx;have e1:(cells.take off).length=off:=by simp; omega
  rw[e1]at hx;rcases Fm (i-off) n with h2 | h2
  ·rw[EF (by simp; omega)]at hx;have hi:i<cells.length:=by omega
   refine ⟨cells[i],by simp[hi],.inr ?_⟩;have:=E6 hx;exact Fv this
  ·rw[ED (by simp; omega),GE,Fj]at hx;rw[show off+n+(i-off-n)=i by omega]at hx;exact ⟨x,hx,.inl rfl⟩
theorem rI {cells:List PC} {off n:Nat} (hb:off+n≤cells.length):(spl cells off (List.replicate n .dead)).length=cells.length:=by
 unfold spl; simp; omega
theorem Au {K:Km} {ok:Nat→Prop} {w:World} {cells:List PC} {off n:Nat} {vs:List Value} (hb:off+n≤cells.length) (h:RelCs K ok w cells vs):RelCs K ok w (spl cells off (List.replicate n .dead)) vs:=by
 refine ⟨by rw[h.len,rI hb],λi x hx=>?_⟩;obtain ⟨y,hy,hxy⟩:=rH hb hx;obtain ⟨u,hu,hr⟩:=h.get i y hy;refine ⟨u,hu,?_⟩;rcases hxy with rfl | rfl
 ·exact hr
 ·exact .dead hr.one
theorem HOb.deadVar {K:Km} {ok:Nat→Prop} {w:World} {k:Nat} {cells:List PC} {off n:Nat} (hb:off+n≤cells.length) (h:HOb K ok w k (.var cells)):HOb K ok w k (.var (spl cells off (List.replicate n .dead))):=by
 obtain ⟨b,cs,e,fr,a1,a2,a3,a4⟩:=h;exact ⟨b,cs,e,fr,a1,a2,a3,Au hb a4⟩
theorem HOb.deadRow {K:Km} {ok:Nat→Prop} {w:World} {k sz i off n:Nat} {els:List (List PC)} {el:List PC} {ids ids':List Nat} (hi:els[i]? = some el) (hb:off+n≤el.length) (hids:∀ el' q,el'∈els.set i (spl el off (List.replicate n .dead))→cW q el'=true→bF q ids'=true) (h:HOb K ok w k (.rowO sz els ids)) :
  HOb K ok w k (.rowO sz (els.set i (spl el off (List.replicate n .dead))) ids'):=by
 have hilt:=(Ez.1 hi).1;refine ⟨λel' r he hm=>hids el' r he hm,?_⟩;rcases h.2 with ⟨a1,a2⟩ | ⟨b,cs,e,fr,a1,a2,a3,a4,a5,a6,a7⟩
 ·subst a2; simp at hi
 ·have get:∀ (j:Nat) (el':List PC),(els.set i (spl el off (List.replicate n .dead)))[j]? = some el'→∃ el0,els[j]? = some el0∧el'.length=el0.length∧∀ (q:Nat) (x:PC),el'[q]? = some x→∃ y,el0[q]? = some y∧(x=y∨x = .dead):=by
   intro j el' hj;rw[FJ]at hj;by_cases hij:i=j
   ·subst hij;simp only[if_true,hilt]at hj;cases hj;exact ⟨el,hi,rI hb,λq x hx=>rH hb hx⟩
   ·rw[if_neg hij]at hj;exact ⟨el',hj,rfl,λq x hx=>⟨x,hx,.inl rfl⟩⟩
  refine .inr ⟨b,cs,e,fr,by simpa using a1,a2,a3,by simpa using a4,by simpa using a5,λj el' hj=>?_,λj q el' x hj hq=>?_⟩
  ·obtain ⟨el0,h1,h2,_⟩:=get j el' hj;rw[h2]; exact a6 j el0 h1
  ·obtain ⟨el0,h1,_,h3⟩:=get j el' hj;obtain ⟨y,hy,hxy⟩:=h3 q x hq;obtain ⟨u,hu,hr⟩:=a7 j q el0 y h1 hy;refine ⟨u,hu,?_⟩;rcases hxy with rfl | rfl
   ·exact hr
   ·exact .dead hr.one
theorem Step.rowC {o:Oper} {sz:Nat} {els:List (List PC)} (h:∀ N K ok w a,Sim N K ok w E O a→∃ (cs:Array Value) (e:TypeId) (c:Nat),(execOp a.eval o).run P w = .ok (.value (.slice (some ⟨w.heap.size,0,none⟩) els.length c)) (w.alloc (.cells cs e))∧els.length≤c∧els.length≤BIG ∧
   (∀ (j:Nat) (el:List PC),els[j]? = some el→el.length=sz)∧∀ (j i:Nat) (el:List PC) (x:PC),els[j]? = some el→el[i]? = some x→∃ u,cs[j*sz+i]? = some u∧Rel ok w x u):Step P E O o (some (.c (.sl sz els))) .no:=by
 intro N K ok w a next Q hs hn;obtain ⟨cs,e,c,h1,h2,h3,h4,h5⟩:=h N K ok w a hs;unfold Oper.wp;rw[h1];have hsz:(w.alloc (.cells cs e)).heap.size=w.heap.size+1:=by simp
 have hkeep:∀ b,b<w.heap.size→(w.alloc (.cells cs e)).heap[b]? = w.heap[b]?:=λb hb=>jx (ok:=λ_=>True) _ b trivial hb
 have hnew:(w.alloc (.cells cs e)).heap[w.heap.size]? = some (.cells cs e (0,0)):=bV _ _;refine hn _ K (λb=>ok b∨b=w.heap.size) _ ⟨λx hx=>?_,?_,?_,λ_ _=>rfl⟩
 ·cases hx;refine .o (.c (.cl (.sl (λj i=>cs[j*sz+i]?.getD undef) h2 h3 (.inr rfl) (by omega) h4 (λj i el x hj hi=>?_) λj i el x hj hi=>?_)))
  ·obtain ⟨u,hu,_⟩:=h5 j i el x hj hi;rw[Fn,dF hnew hu,hu]; rfl
  ·obtain ⟨u,hu,hr⟩:=h5 j i el x hj hi;rw[hu];exact hr.mono (λ_ h=>.inl h) (λb _ hlt=>hkeep b hlt) (by omega)
 ·exact hs.hp.over (by omega) hkeep (λ_ h=>.inl h) (λb hb=>hb.imp_right λe=>by omega) (λb hb=>by
   rcases hb with hb | hb
   ·have:=hs.hp.lt b hb; omega
   ·omega) ⟨rfl,rfl,rfl⟩
 ·exact ⟨by omega,λb hb _ _=>hkeep b hb,λ_ h=>.inl h,λb hb=>hb.imp_right λe=>.inl (by omega),λk o b L h1 h2=>.inr ⟨k,o,L,h1,h2⟩,rfl,rfl,rfl,k9 hkeep,λ_ _=>rfl,λ_ h=>.inl h⟩
theorem Step.buildSliceC {t e sz bt len:Nat} {agg:Bool} {z:List Value} [hs:TSl P t e] [TI P e sz bt agg z] {parts:Array (Nat × Operand)} {l:List A1} (he:E.evs (parts.toList.map (·.2))=some l)
  (hi:parts.toList.map (·.1)=List.range' 0 l.length) (hln:l.length=len) (hz:z.length=sz) (hl:∀ y,y∈l→y.cells.length=sz) (hc:∀ y,y∈l→closedL y.cells=true) (hb:len*sz≤16777216) (hb2:len≤16777216) :
  Step P E O ⟨d,.buildSlice t len parts,ty,pos,af,g⟩ (some (.c (.sl sz (l.map A1.cells)))) .no:=
 .rowC λ_ K ok w a hsim=>by
  subst hln;have hsz:=aJ (P:=P) (t:=e) w;obtain ⟨zv,hz1,hz2⟩:=bJ (P:=P) (t:=e) w;have hrel:=cX hsim he
  let cs0:Array Value:=(Array.range (l.length*sz)).map (λq=>(if l.length*sz=0 then (#[]:Array Value) else z.toArray)[q%(if l.length*sz=0 then (#[]:Array Value) else z.toArray).size]!)
  have hcs0:cs0.size=l.length*sz:=by simp[cs0]
  obtain ⟨rs,r1,r2,r3,r4⟩:=jy (K:=K) (ok:=ok) (w:=w) sz ((parts.map λp=>(p.1,a.eval p.2)).toList) l 0 cs0 (by rw[←hi]; simp[Gg]) (by simpa [Gg] using hrel) hl (by rw[Fn,hcs0]; exact Ew _);have hno:¬ (16777216<l.length*sz):=by omega
  refine ⟨rs,e,l.length,?_,by simp,by simp[dP]; omega,λj el hj=>?_,λj i el x hj hi'=>?_⟩
  ·rw[Fl];have hrun:(Instr.buildSlice t l.length (parts.map λp=>(p.1,a.eval p.2))).run P w = .ok (.slice (some ⟨w.heap.size,0,none⟩) l.length l.length) (w.alloc (.cells rs e)):=by
    by_cases hzero:l.length*sz=0
    ·have r1':=r1;simp only[cs0,hzero,if_true]at r1';simp only[Instr.buildSlice,Sem.run_bind,ah hs.u,Result.andThen_ok,hsz];simp[hzero]at r1' ⊢;rw[r1'];simp[newRow]
    ·have r1':=r1;simp only[cs0,if_neg hzero]at r1';simp only[Instr.buildSlice,Sem.run_bind,ah hs.u,Result.andThen_ok,hsz];simp[hzero,hno,hz1,hz2]at r1' ⊢;rw[r1'];simp[newRow]
   simp only[execOp,Sem.run_bind,hrun,Result.andThen_ok,Sem.run_pure]
  ·simp only[EH,EC]at hj;obtain ⟨y,hy,rfl⟩:=hj;exact hl y (E6 hy)
  ·simp only[EH,EC]at hj;obtain ⟨y,hy,rfl⟩:=hj;obtain ⟨u,hu,hr⟩:=r4 j i y x hy hi';rw[Fn]at hu;exact ⟨u,hu,hr.closed (ba (hc y (E6 hy)) i x hi')⟩
theorem Step.callO2 {f:FuncId} {args:Array Operand} {ts:Array TypeId} {l res:List A1} {k1 k2:Nat} {ob1 ob2 ob2':Ob} (hx:E.evs args.toList=some l) (ho1:O.get k1=some ob1) (ho2:O.get k2=some ob2) (hne:Nat.beq k1 k2=false) (hna:xu ob1=true) (hoc:ci ob2=true) (hoc':ci ob2'=true)
  (hren:dx [(1000000,k1),(1000001,k2)] (dx [(k1,1000000),(k2,1000001)] ob1)=ob1)
  (hct:CtO P f [(1000000,some (dx [(k1,1000000),(k2,1000001)] ob1)),(1000001,some ob2)] (l.map (f9 [(k1,1000000),(k2,1000001)])) [(1000000,some (dx [(k1,1000000),(k2,1000001)] ob1)),(1000001,some ob2')] res) (hcl:az res=true) :
  Step P E O ⟨d,.call ⟨.value (.func f),args,ts⟩,ty,pos,af,g⟩ (some (cw res)) (.upd k2 ob2'):=by
 intro N K ok w a next Q hs hn;have he:(execOp a.eval ⟨d,.call ⟨.value (.func f),args,ts⟩,ty,pos,af,g⟩).run P w=(callFunc f (args.toList.map a.eval).toArray).run P w:=by
  have:(args.toList.map a.eval).toArray=args.map a.eval:=by apply GA ; simp
  rw[this];simp[execOp,resolve,Act.eval,Deferred.ofValue,invoke]
 have hne2:Nat.beq k2 k1=false:=by
  cases hb:Nat.beq k2 k1 with
  | false=>rfl
  | true=>rw[Eu hb,EP]at hne; cases hne
 have l1:Nat.beq 1000001 1000000=false:=rfl;have l2:Nat.beq 1000000 1000001=false:=rfl;have hna1:∀ σ,nD (some (dx σ ob1))=false:=λσ=>by cases ob1<;>first | rfl | cases hna
 have hna0:nD (some ob1)=false:=by cases ob1<;>first | rfl | cases hna
 have hab:bv [(k1,1000000),(k2,1000001)] O=false:=by simp[bv,ho1,ho2,ff hoc,hna0]
 refine CallR.oper he ((qf (σ:=[(k1,1000000),(k2,1000001)]) (ν:=[(1000000,k1),(1000001,k2)]) (Oout:=[(1000000,some (dx [(k1,1000000),(k2,1000001)] ob1)),(1000001,some ob2')]) (res:=res) hs (cX hs hx) ?_ ?_ ?_ ?_).mono λe w' h=>?_)
 ·simp[mr,jn,bF,hne,hne2,l1,l2]
 ·simp[mt,jn,bF,lk,Cz,xq,eqO,hne,hne2,l1,l2]
 ·simp[kg,hab,fS,ff hoc',hna1]
 ·simpa [bQ,ho1,ho2,fe hoc] using hct
 ·obtain ⟨v,K2,ok',rfl,hp2,hfr,hval,_,hsame⟩:=h;have hkne:k1≠k2:=λe=>by rw[e,EP]at hne; cases hne
  have hsub:SubO (O.set k2 ob2') (d7 [(1000000,k1),(1000001,k2)] [(1000000,some (dx [(k1,1000000),(k2,1000001)] ob1)),(1000001,some ob2')]++O.delL ([(k1,1000000),(k2,1000001)].map (·.1))):=by
   have hout:d7 [(1000000,k1),(1000001,k2)] [(1000000,some (dx [(k1,1000000),(k2,1000001)] ob1)),(1000001,some ob2')]=[(k1,some ob1),(k2,some ob2')]:=by
    simp[d7,lk,hren,fe hoc',l1,l2]
   rw[hout];intro t o h;rw[Objs.get_set]at h;simp only[F9,GV,Objs.get,Fg,G0,Objs.delL];by_cases h2:k2=t
   ·subst h2;rw[if_pos rfl]at h;rw[hne];simpa using h
   ·rw[if_neg h2]at h;by_cases h1:k1=t
    ·subst h1;rw[ho1]at h;simpa using h
    ·have b1:Nat.beq k1 t=false:=by
      cases hb:Nat.beq k1 t with
      | false=>rfl
      | true=>exact absurd (Eu hb) h1
     have b2:Nat.beq k2 t=false:=by
      cases hb:Nat.beq k2 t with
      | false=>rfl
      | true=>exact absurd (Eu hb) h2
     rw[b1,b2];simp only[cond_false];exact Objs.get_del_ne h2 (Objs.get_del_ne h1 h)
  rw[ef hcl]at hval;refine ⟨v,rfl,hn v K2 ok' w' ⟨λx hx=>by cases hx; exact hval,hp2.sub hsub,hfr.trans (Fr.weak hsub),λr _=>hsame r λq hq=>?_⟩⟩;simp only[E9,Prod.mk.injEq,List.not_mem_nil,or_false]at hq;omega
theorem mg {σ:List (Nat × Nat)} {O O':Objs}:∀ {l:List (Nat × Nat)},(∀ p,p∈l→O'.get p.1=O.get p.1)→bQ σ O' l=bQ σ O l
 | [],_=>rfl
 | (k,q)::l,h=>by
  simp only[bQ];rw[h (k,q) (by simp),mg λp hp=>h p (EV _ hp)]
theorem xx {O B:Objs} {t:Nat} {o:Ob} (ho:O.get t=some o):∀ σ:List (Nat × Nat),(t∈σ.map (·.1)∨B.get t=some o)→Objs.get (σ.map (λp=>(p.1,O.get p.1))++B) t=some o
 | [],h=>by
  rcases h with h | h
  ·simp at h
  ·exact h
 | (k,q)::σ,h=>by
  simp only[Fg,F9,Objs.get]
  cases hb:Nat.beq k t with
  | true=>rw[Eu hb]; exact ho
  | false=>
   refine xx ho σ ?_;rcases h with h | h
   ·simp only[Fg,E9]at h;rcases h with h | h
    ·rw[h,EP]at hb; cases hb
    ·exact .inl h
   ·exact .inr h
theorem uH:∀ {l:List Nat} {O:Objs} {t:Nat} {o:Ob},t∉l→O.get t=some o→(O.delL l).get t=some o
 | [],_,_,_,_,h=>h
 | k::l,O,t,o,hn,h=>by
  simp only[E9,not_or]at hn;exact uH (l:=l) hn.2 (Objs.get_del_ne (λe=>hn.1 e.symm) h)
theorem Av {σ ν:List (Nat × Nat)} {O Oout:Objs} (hv:∀ p,p∈ν→Nat.ble 1000000 p.1=true) (h:mt σ ν [] Oout=true):mt σ ν O Oout=true:=by
 simp only[mt,Ex,Fq]at h ⊢;obtain ⟨h1,h2,h3,h4,h5⟩:=h;refine ⟨h1,h2,h3,h4,λp hp=>?_⟩;have:=h5 p hp;rw[hv p hp]at this ⊢;exact this
theorem Step.callSame {f:FuncId} {args:Array Operand} {ts:Array TypeId} {l res:List A1} {σ:List (Nat × Nat)} {k:Nat} {ob:Ob} (hx:E.evs args.toList=some l) (ho:O.get k=some ob) (hi:mr σ=true) (hn:mt σ (df σ) [] (bQ σ O σ)=true) (ha:bv σ O=false) (hna:fS (bQ σ O σ)=true)
  (hback:d7 (df σ) (bQ σ O σ)=σ.map λp=>(p.1,O.get p.1)) (hct:CtO P f (bQ σ O σ) (l.map (f9 σ)) (bQ σ O σ) res) (hcl:az res=true) :
  Step P E O ⟨d,.call ⟨.value (.func f),args,ts⟩,ty,pos,af,g⟩ (some (cw res)) (.upd k ob):=by
 intro N K ok w a next Q hs hnx;have he:(execOp a.eval ⟨d,.call ⟨.value (.func f),args,ts⟩,ty,pos,af,g⟩).run P w=(callFunc f (args.toList.map a.eval).toArray).run P w:=by
  have:(args.toList.map a.eval).toArray=args.map a.eval:=by apply GA ; simp
  rw[this];simp[execOp,resolve,Act.eval,Deferred.ofValue,invoke]
 have hge:∀ p,p∈df σ→Nat.ble 1000000 p.1=true:=λp hp=>by
  simp only[mr,Ex,Fq]at hi;exact hi.2.2 (p.2,p.1) (swap_mem.1 hp)
 refine CallR.oper he ((qf (σ:=σ) (ν:=df σ) (Oout:=bQ σ O σ) (res:=res) hs (cX hs hx) hi (Av hge hn) (by rw[kg,ha]; exact hna) hct).mono λe w' h=>?_);obtain ⟨v,K2,ok',rfl,hp2,hfr,hval,_,hsame⟩:=h;rw[hback]at hp2 hfr;have hsub:SubO (O.set k ob) (σ.map (λp=>(p.1,O.get p.1))++O.delL (σ.map (·.1))):=by
  intro t o h;have ht:O.get t=some o:=by
   rw[Objs.get_set]at h;split at h
   ·rename_i e; subst e; rw[ho]; exact h
   ·exact h
  refine xx ht σ ?_;by_cases hm:t∈σ.map (·.1)
  ·exact .inl hm
  ·exact .inr (uH hm ht)
 rw[ef hcl]at hval;exact ⟨v,rfl,hnx v K2 ok' w' ⟨λx hx=>by cases hx; exact hval,hp2.sub hsub,hfr.trans (Fr.weak hsub),λr _=>hsame r λq hq=>ER (hge _ hq)⟩⟩
theorem pf (hT:T.ok P) {op:Op} (h:opT P T E O d op K):Out P E O ⟨d,op,ty,pos,af,g⟩ K:=by
 unfold opT at h;split at h
 ·rename_i t0 len parts;have hq:=de h; clear h; rcases hq with ⟨_,h⟩ | ⟨_,h⟩
  ·split at h
   ·rename_i e _ _ _ _ l ht hl;have hsl:TSl P _ e:=(hT _ _ ht).2;split at h
    ·rename_i td he;have hti:=(hT _ _ he).1;have hq:=aD h; clear h; obtain ⟨hb,h⟩:=hq;simp only[Ex]at hb;obtain ⟨⟨⟨⟨⟨b1,b2⟩,b3⟩,b4⟩,b5⟩,b6⟩:=hb;have hlen:=Eu b2;exact ⟨_,_,λE' O' A=>Step.buildSliceC (P:=P) (dq (λy _ hy=>A.e _ _ (by simp only[Op.operands]; exact hy)) hl) (by rw[show l.length=(parts.toList.map (·.1)).length by rw[mA hl]; simp]; exact gG b1) hlen (Eu b3) (λy hy=>(fQ b4 y hy).1) (λy hy=>(fQ b4 y hy).2) (ER b5) (ER b6),λ_=>nn,h⟩
    ·exact h.elim
   ·exact h.elim
  ·exact bW hT h
 ·rename_i t x;have mem:∀ {y:Operand},y=x→y∈(Op.load t x).operands.toList:=λhy=>by subst hy; simp[Op.operands]
  have hq:=de h; clear h; rcases hq with ⟨_,h⟩ | ⟨_,h⟩
  ·split at h
   ·rename_i td k off ht hx;split at h
    ·rename_i cells ho;split at h
     ·rename_i y hy;have hq:=aD h; clear h; obtain ⟨hb,h⟩:=hq;have hle:=ER hb;have hb2:Nat.ble td.sz (cells.drop off).length=true:=Nat.ble_eq_true_of_le (by rw[E8]; omega);have h0:opN P T E O d (.load t x) (λav eff=>av=some (.o y)∧eff = .no):=by
       simp only[opN,opS,rt,ht,hx,atC,ho,hy,hb2,cond_true];exact ⟨HB,HB⟩
      obtain ⟨av,eff,hst,hnm,rfl,rfl⟩:=bW (ty:=ty) (pos:=pos) (af:=af) (g:=g) hT h0;have hq:=de h; clear h; rcases hq with ⟨_,h⟩ | ⟨_,h⟩
      ·exact ⟨_,_,hst,hnm,h⟩
      ·exact ⟨_,_,λE' O' A=>Step.less (hst E' O' ⟨A.e,A.o,λk hk=>(by cases hk),λk hk=>(by cases hk)⟩) ((A.o rfl x _ k (mem rfl) hx (EP _)).trans ho) (λK ok w hob=>HOb.deadVar hle hob),λ_=>nu,h⟩
     ·exact h.elim
    ·exact bW hT h
   ·rename_i td r sz i off ht hx;split at h
    ·rename_i sz' els ids ho;have hq:=aD h; clear h; obtain ⟨hsz,el,hel,h⟩:=hq;split at h
     ·rename_i y hy;have hq:=aD h; clear h; obtain ⟨hb,h⟩:=hq;have hle:=ER hb;have hb2:Nat.ble td.sz (el.drop off).length=true:=Nat.ble_eq_true_of_le (by rw[E8]; omega);have h0:opN P T E O d (.load t x) (λav eff=>av=some (.o y)∧eff = .no):=by
       simp only[opN,opS,rt,ht,hx,ho,hsz,cond_true];exact ⟨el,hel,by simp only[hy,hb2,cond_true]; exact ⟨HB,HB⟩⟩
      obtain ⟨av,eff,hst,hnm,rfl,rfl⟩:=bW (ty:=ty) (pos:=pos) (af:=af) (g:=g) hT h0;have hq:=de h; clear h; rcases hq with ⟨_,h⟩ | ⟨_,ids',hids,h⟩
      ·exact ⟨_,_,hst,hnm,h⟩
      ·have e:=Eu hsz;subst e;exact ⟨_,_,λE' O' A=>Step.less (hst E' O' ⟨A.e,A.o,λk hk=>(by cases hk),λk hk=>(by cases hk)⟩) ((A.o rfl x _ r (mem rfl) hx (EP _)).trans ho) (λK ok w hob=>HOb.deadRow hel hle hids hob),λ_=>nu,h⟩
     ·exact h.elim
    ·exact bW hT h
   ·exact bW hT h
  ·exact bW hT h
 ·rename_i f args ts;have mem:∀ {x:Operand},x∈args.toList→x∈(Op.call ⟨.value (.func f),args,ts⟩).operands.toList:=λhy=>by simp[Op.operands,Call.operands]; simp at hy; simp[hy]
  split at h
  ·rename_i l hl;have ev:∀ {E':Env} {O':Objs} {eff:Eff},Agr E O E' O' (.call ⟨.value (.func f),args,ts⟩) eff→E'.evs args.toList=some l:=λA=>dq (λy _ hy=>A.e _ _ (mem hy)) hl
   have obj:∀ {E':Env} {O':Objs} {eff:Eff},Agr E O E' O' (.call ⟨.value (.func f),args,ts⟩) eff→∀ y,y∈l→∀ k,y.ment k=true→O'.get k=O.get k:=λA y hy k hk=>by
    obtain ⟨i,hi⟩:=Gp.1 hy;obtain ⟨x,hx,he⟩:=qb hl i y hi;exact A.o rfl x _ k (mem (E6 hx)) he hk
   have hq:=de h; clear h; rcases hq with ⟨_,res,hct,h⟩ | ⟨_,how,h⟩
   ·have hq:=aD h; clear h; obtain ⟨hc,h⟩:=hq;exact ⟨_,_,λE' O' A=>Step.call (ev A) hct hc,λ_=>nn,h⟩
   ·cases how with
    | look=>
     obtain ⟨res,hct,h⟩:=h;have hq:=aD h; clear h; obtain ⟨hc,h⟩:=hq;exact ⟨_,_,λE' O' A=>Step.callS (ev A) (GT λy hy=>lX λk hk=>obj A y hy k hk) hct hc,λ_=>nn,h⟩
    | upd k=>
     simp only at h;split at h
     ·rename_i ob ho;have hq:=aD h; clear h; obtain ⟨hb,ob',res,hct,h⟩:=hq;have hq:=aD h; clear h; obtain ⟨hb',h⟩:=hq;simp only[Ex]at hb hb';obtain ⟨y,hy,hm⟩:=FN.1 hb.1;exact ⟨_,_,λE' O' A=>Step.callO (ev A) ((obj A y hy k hm).trans ho) hb.2 hb'.1 rfl hct hb'.2,λ_=>nu,h⟩
     ·exact h.elim
    | frz=>exact h.elim
    | own _ _=>exact h.elim
    | fzo _ _ _=>exact h.elim
    | two k1 k2=>
     simp only at h;split at h
     ·rename_i ob1 ob2 ho1 ho2;have hq:=aD h; clear h; obtain ⟨hb,hren,ob2',res,hct,h⟩:=hq;have hq:=aD h; clear h; obtain ⟨hb',h⟩:=hq;simp only[Ex,FO]at hb hb';obtain ⟨hne,hmem,hoc,hna⟩:=hb;obtain ⟨y,hy,hm⟩:=FN.1 hmem;exact ⟨_,_,λE' O' A=>Step.callO2 (ev A) ((obj A y hy k1 hm).trans ho1) ((A.u k2 (Eff.mem_hk (by simp[Eff.keys,Eff.prs]))).trans ho2) hne hna hoc hb'.1 hren hct hb'.2,λ_=>nu,h⟩
     ·exact h.elim
    | same σ k=>
     simp only at h;split at h
     ·rename_i ob ho;have hq:=aD h; clear h; obtain ⟨hb,hback,res,hct,h⟩:=hq;have hq:=aD h; clear h; obtain ⟨hc,h⟩:=hq;simp only[Ex,FO,Fq]at hb;obtain ⟨hi,hn,ha,hna,hall⟩:=hb;refine ⟨_,_,λE' O' A=>?_,λ_=>nu,h⟩;have hk:O'.get k=O.get k:=A.u k (Eff.mem_hk (by simp[Eff.keys,Eff.prs]));have hag:∀ p,p∈σ→O'.get p.1=O.get p.1:=λp hp=>by
       have:=hall p hp;rw[Fs]at this;rcases this with e | e
       ·rw[Eu e]; exact hk
       ·obtain ⟨y,hy,hm⟩:=FN.1 e;exact obj A y hy p.1 hm
      have ht:=mg (σ:=σ) hag;have hab:bv σ O'=false:=by
       cases hq:bv σ O' with
       | false=>rfl
       | true=>
        obtain ⟨p,hp,hq⟩:=FN.1 hq;rw[hag p hp]at hq;have:bv σ O=true:=FN.2 ⟨p,hp,hq⟩;rw[ha]at this; cases this
      have hmap:σ.map (λp=>(p.1,O'.get p.1))=σ.map (λp=>(p.1,O.get p.1)):=GT λp hp=>by rw[hag p hp]
      exact Step.callSame (ev A) (hk.trans ho) hi (by rw[ht]; exact hn) hab (by rw[ht]; exact hna) (by rw[ht,hmap]; exact hback) (by rw[ht]; exact hct) hc
     ·exact h.elim
  ·exact h.elim
 ·rename_i args ts;split at h
  ·rename_i r _;have hq:=de h; clear h; rcases hq with ⟨_,h⟩ | ⟨_,h⟩
   ·exact bW hT h
   ·split at h
    ·rename_i j _;split at h
     ·rename_i ob ho;obtain ⟨av,eff,hst,hnm,hk⟩:=bW (ty:=ty) (pos:=pos) (af:=af) (g:=g) hT h;unfold DC at hk;split at hk
      ·rename_i r' obr;have hq:=de hk; clear hk; rcases hq with ⟨_,hk⟩ | ⟨hb,hk⟩
       ·exact hk.elim
       ·have hne:j≠r':=λe=>by subst e; rw[EP]at hb; cases hb
        refine ⟨av,.apk r' obr j (fy r ob),λE' O' A=>?_,λk hk'=>hnm k hk',hk⟩;have gset:∀ q,O'.get q=O.get q→(O'.set j (fy r ob)).get q=(O.set j (fy r ob)).get q:=λq hq=>by rw[Objs.get_set,Objs.get_set,hq]
        refine Step.apk hne (hst E' _ ⟨A.e,λhr x a k hx he hm=>gset k (A.o hr x a k hx he hm),A.n,λk hk=>gset k (A.u k (Eff.mem_hk ?_))⟩) ((A.u j (Eff.mem_hk (by simp[Eff.keys,Eff.prs]))).trans ho) (λ_ _ _ h=>h.kill);have:=Eff.hk_mem hk;simp only[Eff.keys,Eff.prs,Fg,G0,E9,List.not_mem_nil,or_false]at this ⊢;exact .inr this
      ·exact hk.elim
     ·exact h.elim
    ·exact h.elim
  ·exact bW hT h
 ·exact bW hT h
end
theorem Objs.kill_get {k:Nat}:∀ {O:Objs} {t:Nat} {o:Ob},(O.kill k).get t=some o→∃ o',O.get t=some o'∧o=fy k o'
 | [],_,_,h=>by simp[Objs.kill,Objs.get]at h
 | (q,o')::O,t,o,h=>by
  simp only[Objs.kill,Objs.get]at h ⊢
  cases hb:Nat.beq q t with
  | true=>
   rw[hb]at h;simp only[cond_true,EC]at h ⊢;obtain ⟨p,h1,h2⟩:=h;exact ⟨p,h1,h2.symm⟩
  | false=>rw[hb]at h; exact Objs.kill_get h
theorem Sim.kill {N:Cx} {K:Km} {ok:Nat→Prop} {w:World} {E:Env} {O:Objs} {a:Act} (hs:Sim N K ok w E O a) (k:Nat):Sim N K ok w E (O.kill k) a∧Fr K ok w O K ok w (O.kill k):=by
 have g:∀ {t o},(O.kill k).get t=some o→∃ o',O.get t=some o'∧o=fy k o':=λh=>Objs.kill_get h
 refine ⟨⟨hs.size,hs.defers,hs.base,hs.rnd,hs.old,⟨λt o h=>?_,λt t' o o' b L L' h1 h2=>?_,λt o b L h=>?_,hs.hp.lt,hs.hp.hlt,hs.hp.hok,λt o b L h=>?_⟩,hs.env⟩,
  Ew _,λ_ _ _ _=>rfl,λ_ h=>h,λ_ h=>.inl h,λt o b L h1 h2=>?_,rfl,rfl,rfl,λ_ o h=>⟨o,h,SK.refl o⟩,λ_ _=>rfl,λ_ h=>.inl h⟩
 ·obtain ⟨o',h1,rfl⟩:=g h; exact (hs.hp.obs t o' h1).kill
 ·obtain ⟨p,g1,_⟩:=g h1;obtain ⟨p',g2,_⟩:=g h2;exact hs.hp.inj t t' p p' b L L' g1 g2
 ·obtain ⟨p,g1,_⟩:=g h; exact hs.hp.apart t p b L g1
 ·obtain ⟨p,g1,_⟩:=g h; exact hs.hp.how t p b L g1
 ·obtain ⟨p,g1,_⟩:=g h1; exact .inr ⟨t,p,L,g1,h2⟩
section
variable {P:Program} {T:Ty} {E:Env} {O:Objs} {d:Option Tmp} {ty:TypeId} {pos:String} {af:Array Edge} {g:Option (Nat × Bool)} {K:Kt}
theorem kj {N:Cx} {K:Km} {ok:Nat→Prop} {w:World} {a:Act} (hs:Sim N K ok w E O a) {c:Operand} {args:Array Operand} {ts:Array TypeId} {f:FuncId} {l:List A1} (h:tgt E c args.toList=some (f,l)) :
  ∃ vs:List Value,RelAs K ok w l vs∧(execOp a.eval ⟨d,.call ⟨.value c,args,ts⟩,ty,pos,af,g⟩).run P w=(callFunc f vs.toArray).run P w:=by
 unfold tgt at h;split at h
 ·split at h
  ·rename_i f' l' hl;cases h;refine ⟨args.toList.map a.eval,cX hs hl,?_⟩;have:(args.toList.map a.eval).toArray=args.map a.eval:=by apply GA ; simp
   rw[this];simp[execOp,resolve,Act.eval,Deferred.ofValue,invoke]
  ·cases h
 ·rename_i t;split at h
  ·rename_i f' caps l' hf hl;cases h;have hrel:=cX hs hl;have hfv:=(hs.ev (x:=.tmp t) hf).one;generalize hev:a.eval (.tmp t)=v at hfv;have key:∃ vcs:List Value,v = .func (.func f) #[] vcs.toArray∧RelAs K ok w (caps.map .c) vcs:=by
    cases hfv with
    | cl h=>
     cases h with
     | fn gg hg=>
      refine ⟨_,rfl,⟨by simp,λi x hx=>?_⟩⟩;simp only[EH,EC]at hx;obtain ⟨y,hy,rfl⟩:=hx;have hlt:i<caps.length:=(Ez.1 hy).1;exact ⟨gg i,by simp[hlt],.c (.cl (hg i y hy))⟩
    | fn gg hg=>
     refine ⟨_,rfl,⟨by simp,λi x hx=>?_⟩⟩;simp only[EH,EC]at hx;obtain ⟨y,hy,rfl⟩:=hx;have hlt:i<caps.length:=(Ez.1 hy).1;exact ⟨gg i,by simp[hlt],.c (hg i y hy)⟩
   obtain ⟨vcs,rfl,hcr⟩:=key;refine ⟨args.toList.map a.eval++vcs,⟨by rw[Ey,Ey,hrel.len,hcr.len],λi x hx=>?_⟩,?_⟩
   ·rcases Fm i l'.length with hi | hi
    ·rw[EF hi]at hx;rw[EF (by rw[hrel.len]; exact hi)];exact hrel.get i x hx
    ·rw[ED hi]at hx;rw[ED (by rw[hrel.len]; exact hi),hrel.len];exact hcr.get _ x hx
   ·have:(args.toList.map a.eval++vcs).toArray=args.map a.eval++vcs.toArray:=by apply GA ; simp
    rw[this];simp[execOp,resolve,hev,Deferred.ofValue,invoke]
  ·cases h
 ·cases h
theorem Fr.of {X:Cx} {K:Km} {ok:Nat→Prop} {w:World} {a:Act} {av:Option AV} {eff:Eff} {v:Value} {K':Km} {ok':Nat→Prop} {w':World} (hs:Sim X K ok w E O a) (h:SP K ok w O av eff v K' ok' w') (hd:∀ t,d=some t→t<X.s.n∧t∉X.s.fz) :
  Sim X K' ok' w' (bN d av (eff.E E)) (eff.O O) (a.put d v)∧Fr K ok w O K' ok' w' (eff.O O):=⟨h.sim hs hd,h.fr⟩
def vM:BinOp→Bool→Bool
 | .eql,b=>b
 | _,b=>!b
theorem xy {K:Km} {ok:Nat→Prop} {w:World} {p:PC} {v:Value} {n:Nat} (h:RelO K ok w p v) (hn:nc p=some n):∃ A c,v = .slice A n c∧(A.isNone=true→n=0):=by
 cases h with
 | cl h=>
  cases h with
  | sc h=>
   unfold nc at hn;split at hn<;>rename_i hh<;>first | (cases hn; done) | (exfalso; injection hh; done) | skip
   injection hh with hh;subst hh;cases hn;exact ⟨_,_,rfl,λ_=>rfl⟩
  | sl0=>cases hn; exact ⟨_,_,rfl,λ_=>rfl⟩
  | sl=>cases hn; exact ⟨_,_,rfl,λh=>by simp at h⟩
  | _=>cases hn
 | ow=>cases hn; exact ⟨_,_,rfl,λh=>by simp at h⟩
 | owN=>cases hn; exact ⟨_,_,rfl,λ_=>rfl⟩
 | os=>cases hn; exact ⟨_,_,rfl,λh=>by simp at h⟩
 | _=>cases hn
theorem vN {t e t':TypeId} [hs2:TSl P t e] {x y:Operand} {X:Cx} {K:Km} {ok:Nat→Prop} {w:World} {a:Act} {p:PC} {n:Nat} {op:BinOp} (hs:Sim X K ok w E O a) (hx:E.ev x=some (.c p)) (hn:nc p=some n) (hy:E.ev y=some (.c (.sc (.slice none 0 0)))) (ho:op = .eql∨op = .neq) :
  ∃ b:Bool,(b=true→n=0)∧(p = .sc (.slice none 0 0)→b=true)∧(execOp a.eval ⟨d,.binOp op t x y t',ty,pos,af,g⟩).run P w = .ok (.value (.bool (vM op b))) w:=by
 obtain ⟨A,c,hv,h0⟩:=xy (hs.ev hx).one hn;have hy':=(hs.ev hy).sc.1;refine ⟨A.isNone,h0,λh=>?_,?_⟩
 ·subst h;have:=(hs.ev hx).sc.1;rw[hv]at this;injection this with h1;rw[h1]; rfl
 ·have heq:(Op.equal t (.slice A n c) (.slice none 0 0)).run P w = .ok A.isNone w:=by
   unfold Op.equal Op.maxDepth Op.equalIn;cases A<;>simp[ah hs2.u]
  rcases ho with rfl | rfl
  ·have hg:(eqGuard .eql t x y (.slice A n c) (.slice none 0 0)).run P w = .ok () w:=rfl;have hb:binOp .eql t (.slice A n c) (.slice none 0 0)=(do pure (.bool (←Op.equal t (.slice A n c) (.slice none 0 0)))):=rfl;simp[execOp,hv,hy',hg,hb,heq,vM]
  ·have hg:(eqGuard .neq t x y (.slice A n c) (.slice none 0 0)).run P w = .ok () w:=rfl;have hb:binOp .neq t (.slice A n c) (.slice none 0 0)=(do pure (.bool (!(←Op.equal t (.slice A n c) (.slice none 0 0))))):=rfl;simp[execOp,hv,hy',hg,hb,heq,vM]
theorem vO {X:Cx} (hT:T.ok P) {op:Op} {C:Env→Objs→Prop} (h:opR P T E O d op C) (hd:∀ t,d=some t→t<X.s.n∧t∉X.s.fz) :
  ∀ Km ok w a (next:Act→World→Prop) (Q:Exit→Act→World→Prop),Sim X Km ok w E O a→(∀ v E' O' K' ok' w',C E' O'→Sim X K' ok' w' E' O' (a.put d v)→Fr Km ok w O K' ok' w' O'→next (a.put d v) w')→Oper.wpIn (FR X.R) 0 P ⟨d,op,ty,pos,af,g⟩ a w next Q:=by
 intro Km ok w a next Q hs hn;have fin:∀ {E1:Env} {O1:Objs} {av:Option AV} {eff:Eff} {ok1:Nat→Prop},(∀ c,op ≠ .defer c)→Sim X Km ok1 w E1 O1 a→Fr Km ok w O Km ok1 w O1→Step P E1 O1 ⟨d,op,ty,pos,af,g⟩ av eff→C (bN d av (eff.E E1)) (eff.O O1)→Oper.wpIn (FR X.R) 0 P ⟨d,op,ty,pos,af,g⟩ a w next Q:=
  λhnd hs1 hf1 hst hc=>jV X.R hnd (hst X Km _ w a next Q hs1 λv K' ok' w' hsp=>hn v _ _ K' ok' w' hc (hsp.sim hs1 hd) (hf1.trans hsp.fr))
 have finN:∀ {O1:Objs},Sim X Km ok w E O1 a→Fr Km ok w O Km ok w O1→opN P T E O1 d op (λav eff=>C (bN d av (eff.E E)) (eff.O O1))→Oper.wpIn (FR X.R) 0 P ⟨d,op,ty,pos,af,g⟩ a w next Q:=by
  intro O1 hs1 hf1 h;obtain ⟨av,eff,hst,hnm,hr⟩:=bW (ty:=ty) (pos:=pos) (af:=af) (g:=g) hT h;exact fin (md h) hs1 hf1 (hst E O1 (Agr.refl hnm)) hr
 unfold opR at h;split at h
 ·rename_i c args ts;split at h
  ·rename_i f l hl;have hnd:∀ c',(Op.call ⟨.value c,args,ts⟩) ≠ .defer c':=λ_ h=>by cases h
   -- a closed call
   have closedCall:∀ {E1:Env} {O1:Objs} {ok1:Nat→Prop} {l1 res:List A1},Sim X Km ok1 w E1 O1 a→Fr Km ok w O Km ok1 w O1→tgt E1 c args.toList=some (f,l1)→Ct P f l1 res→az res=true→C (bN d (some (cw res)) E1) O1→Oper.wpIn (FR X.R) 0 P ⟨d,.call ⟨.value c,args,ts⟩,ty,pos,af,g⟩ a w next Q:=by
    intro E1 O1 ok1 l1 res hs1 hf1 ht hct hc hC;refine fin (eff:=.no) hnd hs1 hf1 ?_ hC;intro N K ok w a next Q hs hn;obtain ⟨vs,hrel,he⟩:=kj (P:=P) (d:=d) (ty:=ty) (pos:=pos) (af:=af) (g:=g) (ts:=ts) hs ht;refine CallR.oper he ((hct.run K.bare ok w _ (Hp.nil hs.hp.lt) hrel.bare).mono λe w' h=>?_);obtain ⟨v,K',ok',rfl,hr,hp',hf⟩:=h;exact ⟨v,rfl,hn v K ok' w' (SP.ofCall hs.hp hr hc hp' hf)⟩
   unfold Ca at h;have hq:=de h; clear h; rcases hq with ⟨_,res,hct,h⟩ | ⟨_,how,h⟩
   ·have hq:=aD h; clear h; obtain ⟨hc,h⟩:=hq;exact closedCall hs (Fr.refl _ _ _ _) hl hct hc h
   ·cases how with
    | look=>
     obtain ⟨res,hct,h⟩:=h;have hq:=aD h; clear h; obtain ⟨hc,h⟩:=hq;refine fin (eff:=.no) (av:=some (cw res)) hnd hs (Fr.refl _ _ _ _) ?_ h;intro N K ok w a next Q hs hn;obtain ⟨vs,hrel,he⟩:=kj (P:=P) (d:=d) (ty:=ty) (pos:=pos) (af:=af) (g:=g) (ts:=ts) hs hl;exact Step.callS_core hs (nh hs.hp hrel) hct hc he hn
    | upd k=>
     simp only at h;split at h
     ·rename_i ob ho;have hq:=aD h; clear h; obtain ⟨hb,ob',res,hct,h⟩:=hq;have hq:=aD h; clear h; obtain ⟨hb',h⟩:=hq;simp only[Ex]at hb hb';refine fin (eff:=.upd k ob') (av:=some (cw res)) hnd hs (Fr.refl _ _ _ _) ?_ h;intro N K ok w a next Q hs hn;obtain ⟨vs,hrel,he⟩:=kj (P:=P) (d:=d) (ty:=ty) (pos:=pos) (af:=af) (g:=g) (ts:=ts) hs hl;exact Step.callO_core hs hrel ho hb.2 hb'.1 hct hb'.2 he hn
     ·exact h.elim
    | frz=>
     simp only at h;split at h
     ·rename_i f1 l1 hl1;have hq:=aD h; clear h; obtain ⟨hb,res,hct,h⟩:=hq;have hq:=aD h; clear h; obtain ⟨hc,h⟩:=hq;simp only[Ex]at hb;have e:=Eu hb.2;subst e;obtain ⟨h1,h2⟩:=hs.view (jR l);exact closedCall h1 h2 hl1 hct hc h
     ·exact h.elim
    | own σ ν=>
     simp only at h;have hq:=aD h; clear h; obtain ⟨hi,Oout,res,hct,h⟩:=hq;have hq:=aD h; clear h; obtain ⟨hok,h⟩:=hq;simp only[Ex]at hok;obtain ⟨vs,hrel,he⟩:=kj (P:=P) (d:=d) (ty:=ty) (pos:=pos) (af:=af) (g:=g) (ts:=ts) hs hl;refine jV X.R hnd (CallR.oper he ((B9 hs hrel hi hok.1 hok.2 hct hd).mono λe w' hh=>?_));obtain ⟨v,K2,ok',rfl,h1,h2⟩:=hh;exact ⟨v,rfl,hn v _ _ K2 ok' w' h h1 h2⟩
    | two _ _=>exact h.elim
    | same _ _=>exact h.elim
    | fzo ks σ ν=>
     simp only at h;split at h
     ·rename_i f1 l1 hl1;have hq:=aD h; clear h; obtain ⟨hi,Oout,res,hct,h⟩:=hq;have hq:=aD h; clear h; obtain ⟨hok,h⟩:=hq;simp only[Ex]at hi hok;have e:=Eu hi.2;subst e;obtain ⟨v1,v2⟩:=hs.view ks;obtain ⟨vs,hrel,he⟩:=kj (P:=P) (d:=d) (ty:=ty) (pos:=pos) (af:=af) (g:=g) (ts:=ts) v1 hl1;refine jV X.R hnd (CallR.oper he ((B9 v1 hrel hi.1 hok.1 hok.2 hct hd).mono λe w' hh=>?_));obtain ⟨v,K2,ok',rfl,h1,h2⟩:=hh;exact ⟨v,rfl,hn v _ _ K2 ok' w' h h1 (v2.trans h2)⟩
     ·exact h.elim
  ·unfold cbR at h;split at h
   ·split at h
    ·rename_i t v l ht hl;obtain ⟨items,I,X',i,hY,ho,hi,h⟩:=h;have hq:=aD h; clear h; obtain ⟨hno,h1,h2⟩:=hq;refine xt hs ht hl hY ho hno hi hd λb K' w' g1 g2=>?_
     cases b with
     | true=>exact hn _ _ _ K' ok w' h1 g1 g2
     | false=>exact hn _ _ _ K' ok w' h2 g1 g2
    ·exact h.elim
   ·exact h.elim
 ·-- slice
  rename_i t x lo hi;split at h
  ·rename_i r sz n hx;rcases h with h | h
   ·exact finN hs (Fr.refl _ _ _ _) h
   ·unfold xw at h;split at h
    ·rename_i e _ _ _ _ l hh sz' els ht hl hh' ho;have hsl:TSl P t e:=(hT _ _ ht).2;split at h
     ·rename_i td he;have hti:=(hT _ _ he).1;have hq:=aD h; clear h; obtain ⟨hb,h',el,eh,hn',h2,h⟩:=hq;simp only[Ex]at hb;have e1:=Eu hb.1;have e2:=Eu hb.2.1;subst e1;subst e2;obtain ⟨k1,k2⟩:=hs.kill r;have ho':(O.kill r).get r=some (.row td.sz els):=by
       have key:∀ {O:Objs},O.get r=some (.row td.sz els)→(O.kill r).get r=some (.row td.sz els):=by
        intro O
        induction O with
        | nil=>intro h; exact h
        | cons p O ih=>
         obtain ⟨q,o⟩:=p;intro h;simp only[Objs.kill,Objs.get]at h ⊢
         cases hb:Nat.beq q r with
         | true=>rw[hb]at h; simp only[cond_true]at h ⊢; rw[h]; rfl
         | false=>rw[hb]at h; exact ih h
       exact key ho
      exact fin (eff:=.app r _) (λ_ h=>by cases h) k1 k2 (Step.trunc (P:=P) hx ho' hl hh' el eh hn' h2 (NoM.of (aQ hb.2.2))) h
     ·exact h.elim
    ·exact h.elim
  ·exact finN hs (Fr.refl _ _ _ _) h
 ·-- a slice and nil
  rename_i bo t x y t';split at h
  ·rename_i e _ _ _ _ ht hy;have hsl:TSl P t e:=(hT _ _ ht).2;have nd:∀ c',(Op.binOp bo t x y t') ≠ .defer c':=λ_ h=>by cases h
   have go:∀ {p:PC} {n:Nat},E.ev x=some (.c p)→nc p=some n→(bo = .eql∨bo = .neq)→(∀ b:Bool,(b=true→n=0)→(p = .sc (.slice none 0 0)→b=true)→C (bN d (some (.c (.sc (.bool (vM bo b))))) E) O)→Oper.wpIn (FR X.R) 0 P ⟨d,.binOp bo t x y t',ty,pos,af,g⟩ a w next Q:=by
    intro p n hx hlc ho hC;obtain ⟨b,hb,hp,hrun⟩:=vN (P:=P) (d:=d) (ty:=ty) (pos:=pos) (af:=af) (g:=g) (t:=t) (t':=t') hs hx hlc hy ho;refine jV X.R nd ?_;unfold Oper.wp;rw[hrun];have hsp:SP Km ok w O (some (.c (.sc (.bool (vM bo b))))) .no (.bool (vM bo b)) Km ok w:=⟨λx hx=>by cases hx; exact .ofSc trivial,hs.hp,Fr.refl _ _ _ _,λ_ _=>rfl⟩;exact hn _ _ _ Km ok w (hC b hb hp) (hsp.sim hs hd) hsp.fr
   split at h
   ·rename_i hx;split at h
    ·exact go hx rfl (.inl rfl) λb _ hp=>by rw[hp rfl]; exact h
    ·exact go hx rfl (.inr rfl) λb _ hp=>by rw[hp rfl]; exact h
    ·exact h.elim
   ·rename_i p _ hx;split at h
    ·rename_i n hn';split at h
     ·exact go hx hn' (.inl rfl) λb hb _=>h b hb
     ·exact go hx hn' (.inr rfl) λb hb _=>h b hb
     ·exact h.elim
    ·exact h.elim
   ·exact h.elim
  ·exact finN hs (Fr.refl _ _ _ _) h
 ·-- a map's entry
  split at h
  ·have hq:=de h; clear h; rcases hq with ⟨_,h⟩ | ⟨_,ks,h⟩
   ·exact finN hs (Fr.refl _ _ _ _) h
   ·obtain ⟨h1,h2⟩:=hs.view ks;obtain ⟨av,eff,hst,hnm,hr⟩:=bW (ty:=ty) (pos:=pos) (af:=af) (g:=g) hT h;exact fin (md h) h1 h2 (hst _ _ (Agr.refl hnm)) hr
  ·exact h.elim
 ·-- a literal
  have hq:=de h; clear h; rcases hq with ⟨_,h⟩ | ⟨_,h⟩
  ·obtain ⟨av,eff,hst,hnm,hr⟩:=pf (ty:=ty) (pos:=pos) (af:=af) (g:=g) hT h;exact fin (mf h) hs (Fr.refl _ _ _ _) (hst E O (Agr.refl hnm)) hr
  ·split at h
   ·rename_i k;have hq:=de h; clear h; rcases hq with ⟨_,h⟩ | ⟨_,h⟩
    ·exact finN hs (Fr.refl _ _ _ _) h
    ·obtain ⟨k1,k2⟩:=hs.kill k;exact finN k1 k2 h
   ·exact finN hs (Fr.refl _ _ _ _) h
 ·split at h
  ·rename_i k _;have hq:=de h; clear h; rcases hq with ⟨_,h⟩ | ⟨_,h⟩
   ·exact finN hs (Fr.refl _ _ _ _) h
   ·obtain ⟨k1,k2⟩:=hs.kill k;exact finN k1 k2 h
  ·exact finN hs (Fr.refl _ _ _ _) h
end
def qg (P:Program) (T:Ty) (N:Nx) (ops:List Oper) (o:Oper) (rest:Env→Objs→(Env→Objs→Prop)→Prop) (E:Env) (O:Objs) (C:Env→Objs→Prop):Prop:=
 match o.guard with
  | none=>bif fa N o.dst then opR P T E O o.dst o.op (λE O=>rest E O C) else ak "dst"
  | some (j,want)=>match (ops[j]?).bind (·.dst) with
   | some d=>match E.get d with
    | some (.c (.sc (.bool b)))=>BM (b:=b)
      (bif fa N o.dst then (bif want then opR P T (.s d (some (.c (.sc (.bool true))))::E) O o.dst o.op (λE O=>rest E O C) else rest (bN o.dst fP (.s d (some (.c (.sc (.bool true))))::E)) O C) else ak "dst")
      (bif fa N o.dst then (bif want then rest (bN o.dst fP (.s d (some (.c (.sc (.bool false))))::E)) O C else opR P T (.s d (some (.c (.sc (.bool false))))::E) O o.dst o.op (λE O=>rest E O C)) else ak "dst")
    | some (.tup [])=>bif fa N o.dst then rest (bN o.dst fP E) O C else ak "dst"
    | _=>ak "guard"
   | none=>ak "guard"
def regS (P:Program) (T:Ty) (N:Nx) (ops l:List Oper) (E:Env) (O:Objs) (C:Env→Objs→Prop):Prop:=
 List.rec (motive:=λ_=>Env→Objs→(Env→Objs→Prop)→Prop) (λE O C=>C E O) (λo _ ih=>qg P T N ops o ih) l E O C
theorem vP {P:Program} {T:Ty} {N:Nx} {ops rest:List Oper} {o:Oper} {E:Env} {O:Objs} {C:Env→Objs→Prop}:regS P T N ops (o::rest) E O C=qg P T N ops o (λE O C=>regS P T N ops rest E O C) E O C:=rfl
section
variable {P:Program} {T:Ty} {N:Nx} {X:Cx} {E:Env} {O:Objs} {Q:PQ}
theorem tK {F:Fence} {n:Nat} {o:Oper} {a:Act} {w:World} {K K':Act→World→Prop} {Q Q':Exit→Act→World→Prop} (h:∀ a w,K a w→K' a w) (hq:∀ e a w,Q e a w→Q' e a w) (hh:o.wpIn F n P a w K Q):o.wpIn F n P a w K' Q':=by
 unfold Oper.wpIn at *
 refine ⟨hh.1,?_⟩;have hh:=hh.2;generalize (o.semAt F.round a.eval).run P w=r at *
 have hl:LetsOut Q→LetsOut Q':=λ⟨a,w,h⟩=>⟨a,w,hq _ _ _ h⟩
 cases r with
 | ok x w'=>
  cases x<;>simp only[Oper.uponIn]at hh ⊢ <;>
   first
    | exact h _ _ hh
    | exact ⟨hh.1,CallsIn.mono hh.2 (λe w'' he=>by cases e<;>first | exact h _ _ he | exact hq _ _ _ he | exact hl he)⟩
    | exact ⟨hh.1,RowsIn.mono hh.2 (λ_ _ he=>h _ _ he)⟩
    | exact ⟨hh.1,RoundIn.mono hh.2 (λe w'' he=>by cases e<;>first | exact h _ _ he | exact hq _ _ _ he | exact hl he)⟩
 | halt x w'=>cases x<;>simp only[Oper.uponIn]at hh ⊢ <;> first | exact hq _ _ _ hh | exact hh
theorem vQ {K K':Km} {ok ok':Nat→Prop} {w w':World} {O O':Objs} {ops:List Oper} (hfr:Fr K ok w O K' ok' w' O'):∀ (l:List Oper) (a1:Act) (w1:World),wpListIn (FR X.R) 0 P ops.toArray (Post X K' ok' w' O' Q) l a1 w1→wpListIn (FR X.R) 0 P ops.toArray (Post X K ok w O Q) l a1 w1:=by
 intro l
 induction l with
 | nil=>intro a1 w1 hh; exact Post.mono hfr (λ_ _ _ h=>h) hh
 | cons o l ih=>
  intro a1 w1 hh;unfold wpListIn at hh ⊢;split
  ·rename_i hwt;rw[if_pos hwt]at hh;exact tK ih (λ_ _ _ h=>Post.mono hfr (λ_ _ _ h=>h) h) hh
  ·rename_i hwt;rw[if_neg hwt]at hh;exact ⟨hh.1,ih _ _ hh.2⟩
theorem fA (hT:T.ok P) {ops:List Oper}:∀ (l:List Oper) (E:Env) (O:Objs),regS P T X.s ops l E O (λE O=>Q .normal E O)→∀ K ok w a,Sim X K ok w E O a→wpListIn (FR X.R) 0 P ops.toArray (Post X K ok w O Q) l a w
 | [],E,O,h,K,ok,w,a,hs=>⟨E,O,K,ok,h,hs,Fr.refl _ _ _ _⟩
 | o::rest,E,O,h,K,ok,w,a,hs=>by
  have hdo:fa X.s o.dst=true→∀ t,o.dst=some t→t<X.s.n∧t∉X.s.fz:=λhd=>ni hd
  have run:∀ {E:Env},Sim X K ok w E O a→fa X.s o.dst=true→opR P T E O o.dst o.op (λE O=>regS P T X.s ops rest E O (λE O=>Q .normal E O))→o.wpIn (FR X.R) 0 P a w (wpListIn (FR X.R) 0 P ops.toArray (Post X K ok w O Q) rest) (Post X K ok w O Q):=by
   intro E hs hd h;exact vO (ty:=o.type) (pos:=o.pos) (af:=o.after) (g:=o.guard) hT h (hdo hd) K ok w a _ _ hs λv E' O' K' ok' w' hc hs' hf=>vQ hf _ _ _ (fA hT rest _ _ hc K' ok' w' _ hs')
  unfold wpListIn;rw[vP]at h;unfold qg at h;split at h
  ·rename_i hg;have hw:=fc (ops:=ops) (o:=o) hs (g:=true) (by rw[hg]; rfl);have hq:=aD h; clear h; obtain ⟨hd,h⟩:=hq;rw[hw,if_pos rfl];exact run hs hd h
  ·rename_i j want hg;split at h
   ·rename_i d hd;split at h
    ·rename_i b hb;have hgv:dQ E ops o.guard=some (b==want):=by rw[hg]; simp only[dQ,hd,hb]
     have hw:=fc hs hgv;obtain ⟨v,hv,hr⟩:=hs.env d _ hb;have e:=hr.sc.1;subst e;have hs':∀ b',b=b'→Sim X K ok w (.s d (some (.c (.sc (.bool b'))))::E) O a:=by
      intro b' hbb;subst hbb;refine ⟨hs.size,hs.defers,hs.base,hs.rnd,hs.old,hs.hp,λt av ht=>?_⟩;simp only[Env.get]at ht
      cases hbt:Nat.beq d t with
      | true=>rw[hbt]at ht; cases ht; exact ⟨_,by rw[←Eu hbt]; exact hv,.ofSc trivial⟩
      | false=>rw[hbt]at ht; exact hs.env t av ht
     have hh:=h.out;clear h
     cases b with
     | true=>
      obtain ⟨hdk,h1⟩:=aD (hh.1 rfl)
      cases want with
      | true=>
       rw[hw,if_pos (by simp)];exact run (hs' true rfl) hdk h1
      | false=>
       rw[hw,if_neg (by simp)];exact ⟨λ_ _=>trivial,fA hT rest _ _ h1 K ok w _ ((SP.skip hs.hp).sim (hs' true rfl) (hdo hdk))⟩
     | false=>
      obtain ⟨hdk,h1⟩:=aD (hh.2 rfl)
      cases want with
      | true=>
       rw[hw,if_neg (by simp)];exact ⟨λ_ _=>trivial,fA hT rest _ _ h1 K ok w _ ((SP.skip hs.hp).sim (hs' false rfl) (hdo hdk))⟩
      | false=>
       rw[hw,if_pos (by simp)];exact run (hs' false rfl) hdk h1
    ·rename_i hb;have hgv:dQ E ops o.guard=some false:=by rw[hg]; simp only[dQ,hd,hb]
     have hw:=fc hs hgv;obtain ⟨hdk,h1⟩:=aD h;rw[hw,if_neg (by simp)];exact ⟨λ_ _=>trivial,fA hT rest _ _ h1 K ok w _ ((SP.skip hs.hp).sim hs (hdo hdk))⟩
    ·exact h.elim
   ·exact h.elim
theorem W.regS (hT:T.ok P) {id:Nat} {l:List Oper} (h:regS P T N l l E O (λE O=>Q .normal E O)):W P N E O (.region id l.toArray false) Q:=
 λR B old K ok w a hs=>wpIn_region_lit (fA (X:=⟨N,R,B,old⟩) hT l E O h K ok w a hs)
end
def nG (P:Program) (T:Ty) (N:Nx) (ops:List Oper) (o:Oper) (rest:Env→Objs→List DR→(Env→Objs→List DR→Prop)→Prop) (E:Env) (O:Objs) (R:List DR) (C:Env→Objs→List DR→Prop):Prop:=
 match o.guard with
  | none=>bif fa N o.dst then opT P T E O o.dst o.op (λav eff=>rest (bN o.dst av (eff.E E)) (eff.O O) (⟨o,E,O,av,eff⟩::R) C) else ak "dst"
  | some (j,want)=>match (ops[j]?).bind (·.dst) with
   | some d=>match E.get d with
    | some (.c (.sc (.bool b)))=>BM (b:=b)
      (bif fa N o.dst then (bif want then opT P T (.s d (some (.c (.sc (.bool true))))::E) O o.dst o.op (λav eff=>rest (bN o.dst av (eff.E (.s d (some (.c (.sc (.bool true))))::E))) (eff.O O) (⟨o,.s d (some (.c (.sc (.bool true))))::E,O,av,eff⟩::R) C)
       else rest (bN o.dst fP (.s d (some (.c (.sc (.bool true))))::E)) O (⟨o,.s d (some (.c (.sc (.bool true))))::E,O,fP,.no⟩::R) C) else ak "dst")
      (bif fa N o.dst then (bif want then rest (bN o.dst fP (.s d (some (.c (.sc (.bool false))))::E)) O (⟨o,.s d (some (.c (.sc (.bool false))))::E,O,fP,.no⟩::R) C
       else opT P T (.s d (some (.c (.sc (.bool false))))::E) O o.dst o.op (λav eff=>rest (bN o.dst av (eff.E (.s d (some (.c (.sc (.bool false))))::E))) (eff.O O) (⟨o,.s d (some (.c (.sc (.bool false))))::E,O,av,eff⟩::R) C)) else ak "dst")
    | some (.tup [])=>bif fa N o.dst then rest (bN o.dst fP E) O (⟨o,E,O,fP,.no⟩::R) C else ak "dst"
    | _=>ak "guard"
   | none=>ak "guard"
def regD (P:Program) (T:Ty) (N:Nx) (ops l:List Oper) (E:Env) (O:Objs) (R:List DR) (C:Env→Objs→List DR→Prop):Prop:=
 List.rec (motive:=λ_=>Env→Objs→List DR→(Env→Objs→List DR→Prop)→Prop) (λE O R C=>C E O R) (λo _ ih=>nG P T N ops o ih) l E O R C
theorem vR {P:Program} {T:Ty} {N:Nx} {ops rest:List Oper} {o:Oper} {E:Env} {O:Objs} {R:List DR} {C:Env→Objs→List DR→Prop}:regD P T N ops (o::rest) E O R C=nG P T N ops o (λE O R C=>regD P T N ops rest E O R C) E O R C:=rfl
section
variable {P:Program} {T:Ty} {N:Nx} {E0:Env} {O0:Objs}
theorem kl {E:Env} {d:Nat} {x:AV} (h:E.get d=some x):∀ t,Env.get (.s d (some x)::E) t=E.get t:=by
 intro t;simp only[Env.get]
 cases hb:Nat.beq d t with
 | true=>rw[cond_true,←Eu hb,h]
 | false=>rfl
theorem jH (hT:T.ok P) {ops:List Oper} {C:Env→Objs→List DR→Prop}:∀ (l:List Oper) (E:Env) (O:Objs) (R:List DR),regD P T N ops l E O R C→Told P N ops E0 O0 R.reverse E O →
  ∃ R' En On,Told P N ops E0 O0 R'.reverse En On∧C En On R'∧R'.reverse.map (·.o)=R.reverse.map (·.o)++l
 | [],E,O,R,h,ht=>⟨R,E,O,ht,h,by simp⟩
 | o::rest,E,O,R,h,ht=>by
  have fin:∀ {E1:Env} {av:Option AV} {eff:Eff},(∃ R' En On,Told P N ops E0 O0 R'.reverse En On∧C En On R'∧R'.reverse.map (·.o)=((⟨o,E1,O,av,eff⟩:DR)::R).reverse.map (·.o)++rest) →
    ∃ R' En On,Told P N ops E0 O0 R'.reverse En On∧C En On R'∧R'.reverse.map (·.o)=R.reverse.map (·.o)++o::rest:=by
   rintro E1 av eff ⟨R',En,On,h1,h2,h3⟩
   exact ⟨R',En,On,h1,h2,by rw[h3]; simp⟩
  have run:∀ {E1:Env},(∀ t,E1.get t=E.get t)→dQ E1 ops o.guard=some true→fa N o.dst=true→opT P T E1 O o.dst o.op (λav eff=>regD P T N ops rest (bN o.dst av (eff.E E1)) (eff.O O) (⟨o,E1,O,av,eff⟩::R) C) →
    ∃ R' En On,Told P N ops E0 O0 R'.reverse En On∧C En On R'∧R'.reverse.map (·.o)=R.reverse.map (·.o)++o::rest:=by
   intro E1 hE hg hd h;obtain ⟨av,eff,hst,hnm,hr⟩:=pf (ty:=o.type) (pos:=o.pos) (af:=o.after) (g:=o.guard) hT h;exact fin (jH hT rest _ _ _ hr (by rw[List.reverse_cons]; exact ht.snoc hE hd hg (λ_=>⟨mf h,hst⟩) (λh=>by cases h)))
  have skip:∀ {E1:Env},(∀ t,E1.get t=E.get t)→dQ E1 ops o.guard=some false→fa N o.dst=true→regD P T N ops rest (bN o.dst fP E1) O (⟨o,E1,O,fP,.no⟩::R) C →
    ∃ R' En On,Told P N ops E0 O0 R'.reverse En On∧C En On R'∧R'.reverse.map (·.o)=R.reverse.map (·.o)++o::rest:=by
   intro E1 hE hg hd h;exact fin (jH hT rest _ _ _ h (by rw[List.reverse_cons]; exact ht.snoc (eff:=.no) hE hd hg (λh=>by cases h) (λ_=>⟨rfl,rfl⟩)))
  rw[vR]at h;unfold nG at h;split at h
  ·rename_i hg;have hq:=aD h; clear h; obtain ⟨hd,h⟩:=hq;exact run (λ_=>rfl) (by rw[hg]; rfl) hd h
  ·rename_i j want hg;split at h
   ·rename_i d hd;split at h
    ·rename_i b hb;have hgv:∀ b',b=b'→dQ (.s d (some (.c (.sc (.bool b'))))::E) ops o.guard=some (b'==want):=by
      intro b' _;rw[hg];simp only[dQ,hd,Env.get,EP,cond_true]
     have hh:=h.out;clear h
     cases b with
     | true=>
      obtain ⟨hdk,h1⟩:=aD (hh.1 rfl)
      cases want with
      | true=>exact run (kl hb) (hgv true rfl) hdk h1
      | false=>exact skip (kl hb) (hgv true rfl) hdk h1
     | false=>
      obtain ⟨hdk,h1⟩:=aD (hh.2 rfl)
      cases want with
      | true=>exact skip (kl hb) (hgv false rfl) hdk h1
      | false=>exact run (kl hb) (hgv false rfl) hdk h1
    ·rename_i hb;obtain ⟨hdk,h1⟩:=aD h;exact skip (λ_=>rfl) (by rw[hg]; simp only[dQ,hd,hb]) hdk h1
    ·exact h.elim
   ·exact h.elim
theorem W.regD (hT:T.ok P) (hm:P.follows .mixedOrders=true) {E:Env} {O:Objs} {Q:PQ} {id:Nat} {ops:List Oper} (h:regD P T N ops ops E O [] (λE' O' R=>qe ops O R.reverse=true∧Q .normal E' O')):W P N E O (.region id ops.toArray true) Q:=by
 intro R B old K ok w a hs;obtain ⟨R',En,On,h1,⟨h2,h3⟩,h4⟩:=jH hT ops E O [] h Told.nil;obtain ⟨ms,hchk⟩:=rC h2;have hp:=hs.hp.drew;have hmono:=RelV.mono (K:=K) (K':=K) (w:=w) (w':=w.drew) (ok:=ok) (ok':=ok);refine wpIn_region_any hm (vJ (N:=⟨N,R,B,old⟩) hchk h1 (by simpa using h4) h3 ops.toArray.size (Array.replicate ops.toArray.size false) a w.drew E O K ok ?_ ?_ ?_ ?_ ?_ ?_ ?_)
 ·simp
 ·simp
 ·intro i o e hi;by_cases hlt:i<ops.length<;>simp[hlt]at hi
 ·intro t av he;rcases he with ⟨u,r,_,hu,_⟩ | ⟨_,he,_⟩
  ·by_cases hlt:u<ops.length<;>simp[hlt]at hu
  ·exact he
 ·intro k ob;constructor
  ·intro ho;refine .inr ⟨λu r _ hu=>?_,ho⟩;by_cases hlt:u<ops.length<;>simp[hlt]at hu
  ·rintro (⟨u,r,_,hu,_⟩ | ⟨_,ho⟩)
   ·by_cases hlt:u<ops.length<;>simp[hlt]at hu
   ·exact ho
 ·refine ⟨hs.size,hs.defers,hs.base,hs.rnd,hs.old,hp,λt av he=>?_⟩;obtain ⟨v,hv,hr⟩:=hs.env t av he;exact ⟨v,hv,hmono (λ_ h=>h) (λ_ _ _=>rfl) (Ew _) hr (λr _=>⟨rfl,λ_ _ _ cs e fr hc=>⟨cs,e,fr,hc,rfl⟩⟩)⟩
 ·exact ⟨Ew _,λ_ _ _ _=>rfl,λ_ h=>h,λ_ h=>.inl h,λk o _ L h1 h2=>.inr ⟨k,o,L,h1,h2⟩,rfl,rfl,rfl,λ_ o h=>⟨o,h,SK.refl o⟩,λ_ _=>rfl,λ_ h=>.inl h⟩
end
structure WI (P:Program) (N:Nx) (E:Env) (O:Objs) (c:Code) (Q:PQ):Prop where
 out:W P N E O c Q
theorem WI.of {P:Program} {N:Nx} {E:Env} {O:Objs} {c:Code} {Q:PQ} (h:W P N E O c Q):WI P N E O c Q:=⟨h⟩
def xz:Code→Bool
 | .loop _=>true
 | _=>false
def rJ:Code→Bool
 | .block _ c=>xz c
 | .seq _ y=>rJ y
 | _=>false
def bS (P:Program) (T:Ty) (N:Nx):Code→Env→Objs→PQ→Prop
 | .skip,E,O,Q=>Q .normal E O
 | .label _,E,O,Q=>Q .normal E O
 | .exit i,E,O,Q=>Q (.exit i) E O
 | .ret,E,O,Q=>Q .ret E O
 | .seq x y,E,O,Q=>bif rJ x then bS P T N x E O (gi (λE O=>WI P N E O y Q) Q) else bS P T N x E O (gi (λE O=>bS P T N y E O Q) Q)
 | .block i c,E,O,Q=>bif xz c then WI P N E O (.block i c) Q else bS P T N c E O (bY i Q)
 | .cond c x y,E,O,Q=>match E.ev c with
  | some (.c (.sc (.bool b)))=>BM (b:=b) (bS P T N x E O Q) (bS P T N y E O Q)
  | _=>ak "cond"
 | .region _ ops false,E,O,Q=>regS P T N ops.toList ops.toList E O (λE O=>Q .normal E O)
 | .region _ ops true,E,O,Q=>regD P T N ops.toList ops.toList E O [] (λE' O' R=>qe ops.toList O R.reverse=true∧Q .normal E' O')
 | c,E,O,Q=>WI P N E O c Q
theorem aL {P:Program} {T:Ty} (hT:T.ok P) (hm:P.follows .mixedOrders=true) {N:Nx}:∀ (c:Code) (E:Env) (O:Objs) (Q:PQ),bS P T N c E O Q→W P N E O c Q
 | .skip,E,O,Q,h=>W.skip h
 | .label _,E,O,Q,h=>W.label h
 | .exit i,E,O,Q,h=>W.exit h
 | .ret,E,O,Q,h=>W.ret h
 | .seq x y,E,O,Q,h=>by
  simp only[bS]at h;rcases de h with ⟨_,h⟩ | ⟨_,h⟩
  ·exact W.seq ((aL hT hm x E O _ h).mono λe E O hq=>by
    cases e with
    | normal=>exact WI.out hq
    | _=>exact hq)
  ·exact W.seq ((aL hT hm x E O _ h).mono λe E O hq=>by
    cases e with
    | normal=>exact aL hT hm y E O Q hq
    | _=>exact hq)
 | .block i c,E,O,Q,h=>by
  simp only[bS]at h;rcases de h with ⟨_,h⟩ | ⟨_,h⟩
  ·exact WI.out h
  ·exact W.block (aL hT hm c E O _ h)
 | .cond c x y,E,O,Q,h=>by
  simp only[bS]at h;split at h
  ·rename_i b hb;exact W.cond hb (λe=>aL hT hm x E O Q (h.out.1 e)) (λe=>aL hT hm y E O Q (h.out.2 e))
  ·exact h.elim
 | .region id ops false,E,O,Q,h=>by
  simp only[bS]at h;have:=W.regS (N:=N) (Q:=Q) (id:=id) hT h;simpa using this
 | .region id ops true,E,O,Q,h=>by
  simp only[bS]at h;have:=W.regD (N:=N) (Q:=Q) (id:=id) hT hm h;simpa using this
 | .loop _,E,O,Q,h=>WI.out h
 | .rangeFunc ..,E,O,Q,h=>WI.out h
 | .scope _,E,O,Q,h=>WI.out h
 | .goto _,E,O,Q,h=>WI.out h
 | .refuse _,E,O,Q,h=>WI.out h
end
section
def vS (T:Ty) (E:Env) (O:Objs):List ResultVar→List A1→Prop
 | [],[]=>True
 | .tmp t::rs,x::xs=>(∃ y,E.get t=some (.o y)∧leA y x)∧vS T E O rs xs
 | .cell t ty::rs,x::xs=>(match T.get ty,E.get t with
  | some td,some (.c p)=>match atC O p with
   | some cs=>bif Nat.ble td.sz cs.length then ∃ y,mkA td.agg (cs.take td.sz)=some y∧leA y x else ak "result"
   | none=>ak "result"
  | _,_=>ak "result")∧vS T E O rs xs
 | _,_=>False
theorem eE {P:Program} {T:Ty} (hT:T.ok P) {E:Env} {O:Objs}:∀ {rs:List ResultVar} {xs:List A1},vS T E O rs xs→∃ ys,vE P E O rs ys∧leAs ys xs
 | [],[],_=>⟨[],HB,HB⟩
 | [],_::_,h=>h.elim
 | .tmp _::_,[],h=>h.elim
 | .cell _ _::_,[],h=>h.elim
 | .tmp t::rs,x::xs,h=>by
  obtain ⟨⟨y,h1,h2⟩,h3⟩:=h;obtain ⟨ys,h4,h5⟩:=eE hT h3;exact ⟨y::ys,⟨h1,h4⟩,h2,h5⟩
 | .cell t ty::rs,x::xs,h=>by
  obtain ⟨h0,h3⟩:=h;obtain ⟨ys,h4,h5⟩:=eE hT h3;split at h0
  ·rename_i td p ht hp;split at h0
   ·rename_i cs hcs;obtain ⟨hb,y,hy,hl⟩:=aD h0;exact ⟨y::ys,⟨⟨p,cs,td.sz,td.bt,td.agg,td.z,hp,hcs,(hT _ _ ht).1,ER hb,hy⟩,h4⟩,hl,h5⟩
   ·exact h0.elim
  ·exact h0.elim
theorem r1 {E:Env} {t:Nat} {y:A1} (h:E.get t=some (.o y)):∃ z,E.get t=some (.o z)∧leA z y:=⟨y,h,leA.refl y⟩
theorem rc {o:Option A1} {y:A1} (h:o=some y):∃ z,o=some z∧leA z y:=⟨y,h,leA.refl y⟩
def Eb (T:Ty) (rs:List ResultVar) (res:List A1):PQ:=λe E O2=>(match e with | .normal=>True | .ret=>True | _=>False)∧vS T (.vw O2::E) [] rs res
def Ec (T:Ty) (rs:List ResultVar) (O':Objs) (res:List A1):PQ:=λe E O2=>(match e with | .normal=>True | .ret=>True | _=>False)∧SubO O' O2∧vS T E O2 rs res
def Cb (T:Ty) (rs:List ResultVar) (ks:List Nat) (O':Objs) (res:List A1):PQ:=λe E O2=>(match e with | .normal=>True | .ret=>True | _=>False)∧SubO O' (O2.froze ks (O2.only ks))∧vS T (.vw (O2.only ks)::E) (O2.froze ks (O2.only ks)) rs res
section
variable {P:Program} {T:Ty} {N:Nx} {E:Env} {O:Objs} {c:Code} {Q:PQ}
theorem Ct.go (hT:T.ok P) (hm:P.follows .mixedOrders=true) {f:FuncId} {fn:Func} {args res:List A1} (hf:P.funcs[f]? = some fn) (hb:fn.body=some c) (hn:(fn.name == "runtime.NumGoroutine")=false) (hN:fn.ntmps=N.n) (hl:Nat.ble args.length N.n=true)
  (h:bS P T N c (ka 0 args) O (Eb T fn.results.toList res)) (hfz:N.fz=[]:=by rfl):CtO P f O args [] res:=
 Ct.fin none hf hb hn hN hl ((aL hT hm c _ _ _ h).mono λe E O2 ⟨h1,h2⟩=>by
  have hm:∀ p,p∈O2→bF p.1 (pick none O2)=true:=λp hp=>iL (Fb.2 ⟨p,hp,rfl⟩)
  rw[Objs.only_all hm,Objs.froze_all hm];exact ⟨h1,λk o h=>by simp[Objs.get]at h,eE hT h2⟩) hfz
theorem Ct.keep (hT:T.ok P) (hm:P.follows .mixedOrders=true) (ks:List Nat) {f:FuncId} {fn:Func} {args res:List A1} {O':Objs} (hf:P.funcs[f]? = some fn) (hb:fn.body=some c) (hn:(fn.name == "runtime.NumGoroutine")=false) (hN:fn.ntmps=N.n) (hl:Nat.ble args.length N.n=true)
  (h:bS P T N c (ka 0 args) O (Cb T fn.results.toList ks O' res)) (hfz:N.fz=[]:=by rfl):CtO P f O args O' res:=
 Ct.fin (some ks) hf hb hn hN hl ((aL hT hm c _ _ _ h).mono λ_ _ _ ⟨h1,h2,h3⟩=>⟨h1,h2,eE hT h3⟩) hfz
theorem Ct.io (hT:T.ok P) (hm:P.follows .mixedOrders=true) {f:FuncId} {fn:Func} {args res:List A1} {O':Objs} (hf:P.funcs[f]? = some fn) (hb:fn.body=some c) (hn:(fn.name == "runtime.NumGoroutine")=false) (hN:fn.ntmps=N.n) (hl:Nat.ble args.length N.n=true)
  (h:bS P T N c (ka 0 args) O (Ec T fn.results.toList O' res)) (hfz:N.fz=[]:=by rfl):CtO P f O args O' res:=
 Ct.of hf hb hn hN hl ((aL hT hm c _ _ _ h).mono λ_ _ _ ⟨h1,h2,h3⟩=>⟨h1,h2,eE hT h3⟩) hfz
def jt (i:Nat) (I X:Env→Objs→Prop) (Q:PQ):PQ
 | .normal,E,O=>I E O
 | .exit j,E,O=>bif Nat.beq j i then X E O else Q (.exit j) E O
 | e,E,O=>Q e E O
theorem ax (hT:T.ok P) (hm:P.follows .mixedOrders=true) {i:Nat} {y:Code} {G:Type} (inv:G→Prop) (sE:G→List (Nat × AV)) (sO:G→List (Nat × Ob)) (m:G→Nat) (g0:G) (h0:inv g0) (hE:cf E (sE g0)) (hO:bs O (sO g0))
  {G2:Type} (post:G2→Prop) (pE:G2→List (Nat × AV)) (pO:G2→List (Nat × Ob))
  (round:∀ g,inv g→bS P T N c (c8 (sE g)) (ce (sO g)) (jt i (λE' O'=>∃ g',inv g'∧m g'<m g∧cf E' (sE g')∧bs O' (sO g')) (λE' O'=>∃ g2,post g2∧cf E' (pE g2)∧bs O' (pO g2)) Q))
  (after:∀ g2,post g2→bS P T N y (c8 (pE g2)) (ce (pO g2)) Q):WI P N E O (.block i (.loop c)) (gi (λE O=>WI P N E O y Q) Q):=by
 refine .of (W.block (W.loop inv sE sO m g0 h0 hE hO λg hg=>(aL hT hm c _ _ _ (round g hg)).mono λe E O h=>?_))
 cases e with
 | normal=>exact h
 | exit j=>
  simp only[jt]at h;show bY i _ (.exit j) E O
  simp only[bY]
  cases hb:Nat.beq j i with
  | true=>
   rw[hb]at h;obtain ⟨g2,hp,h1,h2⟩:=h;exact .of (W.weak (Sub.of h1) (SubO.of h2) (aL hT hm y _ _ _ (after g2 hp)))
  | false=>rw[hb]at h; exact h
 | ret=>exact h
 | goto _=>exact h
 | panic _=>exact h
 | outgrown=>exact h
theorem b8 (hT:T.ok P) (hm:P.follows .mixedOrders=true) {i:Nat} {G:Type} (inv:G→Prop) (sE:G→List (Nat × AV)) (sO:G→List (Nat × Ob)) (m:G→Nat) (g0:G) (h0:inv g0) (hE:cf E (sE g0)) (hO:bs O (sO g0))
  (round:∀ g,inv g→bS P T N c (c8 (sE g)) (ce (sO g)) (jt i (λE' O'=>∃ g',inv g'∧m g'<m g∧cf E' (sE g')∧bs O' (sO g')) (λE' O'=>Q .normal E' O') Q)):WI P N E O (.block i (.loop c)) Q:=by
 refine .of (W.block (W.loop inv sE sO m g0 h0 hE hO λg hg=>(aL hT hm c _ _ _ (round g hg)).mono λe E O h=>?_))
 cases e with
 | exit j=>
  simp only[jt]at h;show bY i _ (.exit j) E O
  simp only[bY]
  cases hb:Nat.beq j i with
  | true=>rw[hb]at h; exact h
  | false=>rw[hb]at h; exact h
 | _=>exact h
theorem nH (hT:T.ok P) (hm:P.follows .mixedOrders=true) (h:bS P T N c E O Q):WI P N E O c Q:=.of (aL hT hm c E O Q h)
theorem WI.step {E':Env} {O':Objs} (h:∀ (X:Cx) K ok w a,Sim X K ok w E O a→∃ K' ok',Sim X K' ok' w E' O' a∧Fr K ok w O K' ok' w O') (hw:WI P N E' O' c Q):WI P N E O c Q:=
 .of (W.step (λX K ok w a _ hs=>h X K ok w a hs) hw.out)
theorem Sim.put {X:Cx} {K:Km} {ok:Nat→Prop} {w:World} {E:Env} {O:Objs} {a:Act} (hs:Sim X K ok w E O a) {t:Nat} {av:AV} (h:∃ v,a.tmps[t]? = some v∧RelV K ok w av v):Sim X K ok w (.s t (some av)::E) O a:=
 ⟨hs.size,hs.defers,hs.base,hs.rnd,hs.old,hs.hp,λt' av' h'=>by
  simp only[Env.get]at h'
  cases hb:Nat.beq t t' with
  | true=>
   rw[hb]at h';cases h';have e:=Eu hb;subst e;exact h
  | false=>rw[hb]at h'; exact hs.env t' av' h'⟩
theorem Aw {t sz:Nat} (ht:E.get t=some (.c (.sc (.slice none 0 0)))) (h:WI P N (.s t (some (.c (.sl sz [])))::E) O c Q):WI P N E O c Q:=
 WI.step (λX K ok w a hs=>⟨K,ok,hs.put (by
  obtain ⟨v,hv,hr⟩:=hs.env t _ ht;have:=hr.sc.1;subst this;exact ⟨_,hv,.o (.c (.cl .sl0))⟩),Fr.refl _ _ _ _⟩) h
theorem Sim.putNone {X:Cx} {K:Km} {ok:Nat→Prop} {w:World} {E:Env} {O:Objs} {a:Act} {r sz:Nat} (hs:Sim X K ok w E O a) (hn:NoM r O):Sim X (K.put r none) ok w (.k r::E) (O.set r (.row sz [])) a∧Fr K ok w O (K.put r none) ok w (O.set r (.row sz [])):=by
 obtain ⟨h1,h2⟩:=hs.hp.putNone (sz:=sz) hn;refine ⟨⟨hs.size,hs.defers' h2,hs.base,hs.rnd,hs.old,h1,λt av h=>?_⟩,h2⟩;obtain ⟨g1,g2⟩:=lf (E:=E) (r:=r) (t:=t) (x:=av) h;obtain ⟨v,hv,hr⟩:=hs.env t av g1;refine ⟨v,hv,hr.mono (λ_ h=>h) (λ_ _ _=>rfl) (Ew _) λq hq=>⟨K.put_ne _ λe=>?_,λb _ _ cs e fr hc=>⟨cs,e,fr,hc,rfl⟩⟩⟩;subst e; rw[g2]at hq; cases hq
theorem jo {r t sz:Nat} (hr:eN r O=true) (ht:E.get t=some (.c (.sc (.slice none 0 0)))) (h:WI P N (.s t (some (.c (.ow r sz 0))) :: .k r::E) (O.set r (.row sz [])) c Q):WI P N E O c Q:=
 WI.step (λX K ok w a hs=>by
  obtain ⟨h1,h2⟩:=hs.putNone (sz:=sz) (NoM.of (aQ hr));refine ⟨_,ok,h1.put ?_,h2⟩;obtain ⟨v,hv,hr⟩:=hs.env t _ ht;have:=hr.sc.1;subst this;exact ⟨_,hv,.o (.c (.owN (K.put_self r _)))⟩) h
theorem tL {r k i sz:Nat} {cells:List PC} (hr:eN r O=true) (hk:(O.set r (.row sz [])).get k=some (.var cells)) (hi:cells[i]? = some (.sc (.slice none 0 0))) (h:WI P N (.k r::E) ((O.set r (.row sz [])).set k (.var (cells.set i (.ow r sz 0)))) c Q):WI P N E O c Q:=
 WI.step (λX K ok w a hs=>by
  obtain ⟨h1,h2⟩:=hs.putNone (sz:=sz) (NoM.of (aQ hr));have hsub:∀ t o,((O.set r (.row sz [])).set k (.var (cells.set i (.ow r sz 0)))).get t=some o→∃ o',(O.set r (.row sz [])).get t=some o':=λt o h=>by
   rw[Objs.get_set]at h;split at h
   ·rename_i e; subst e; exact ⟨_,hk⟩
   ·exact ⟨o,h⟩
  have hfr:Fr (K.put r none) ok w (O.set r (.row sz [])) (K.put r none) ok w ((O.set r (.row sz [])).set k (.var (cells.set i (.ow r sz 0)))):=
   ⟨Ew _,λ_ _ _ _=>rfl,λ_ h=>h,λ_ h=>.inl h,λt o b L g1 g2=>by obtain ⟨o',g3⟩:=hsub t o g1; exact .inr ⟨t,o',L,g3,g2⟩,rfl,rfl,rfl,λ_ o h=>⟨o,h,SK.refl o⟩,λ_ _=>rfl,λ_ h=>.inl h⟩
  refine ⟨_,ok,⟨h1.size,h1.defers,h1.base,h1.rnd,h1.old,⟨λt o g=>?_,λt t' o o' b L L' g1 g2=>?_,λt o b L g=>?_,h1.hp.lt,h1.hp.hlt,h1.hp.hok,λt o b L g=>?_⟩,h1.env⟩,h2.trans hfr⟩
  ·rw[Objs.get_set]at g;split at g
   ·rename_i e;subst e;cases g;obtain ⟨b,cs,e,fr,a1,a2,a3,a4⟩:=h1.hp.obs k _ hk;refine ⟨b,cs,e,fr,a1,a2,a3,by simpa using a4.len,λj x hx=>?_⟩;rw[FJ]at hx;split at hx
    ·rename_i e;subst e;split at hx
     ·cases hx;obtain ⟨u,hu,hru⟩:=a4.get i _ hi;refine ⟨u,hu,?_⟩
      cases hru with
      | cl hru=>cases hru with | sc _=>exact .owN (K.put_self r _)
     ·cases hx
    ·exact a4.get j x hx
   ·exact h1.hp.obs t o g
  ·obtain ⟨p,q1⟩:=hsub t o g1;obtain ⟨p',q2⟩:=hsub t' o' g2;exact h1.hp.inj t t' p p' b L L' q1 q2
  ·obtain ⟨p,q1⟩:=hsub t o g; exact h1.hp.apart t p b L q1
  ·obtain ⟨p,q1⟩:=hsub t o g; exact h1.hp.how t p b L q1) h
end
theorem uI {P:Program} {T:Ty} {N:Nx} {E:Env} {O:Objs} {c:Code} {Q:PQ} (hT:T.ok P) (hm:P.follows .mixedOrders=true) {i:Nat} {y:Code} {G:Type} (inv:G→Prop) (sE:G→List (Nat × AV)) (sO:G→List (Nat × Ob)) (m:G→Nat) (g0:G) (h0:inv g0) (hE:cf E (sE g0)) (hO:bs O (sO g0))
  {G2:Type} (post:G2→Prop) (pE:G2→List (Nat × AV)) (pO:G2→List (Nat × Ob))
  (round:∀ g,inv g→bS P T N c (c8 (sE g)) (ce (sO g)) (jt i (λE' O'=>∃ g',inv g'∧m g'<m g∧cf E' (sE g')∧bs O' (sO g')) (λE' O'=>∃ g2,post g2∧cf E' (pE g2)∧bs O' (pO g2)) Q))
  (after:∀ g2,post g2→WI P N (c8 (pE g2)) (ce (pO g2)) y Q):WI P N E O (.block i (.loop c)) (gi (λE O=>WI P N E O y Q) Q):=by
 refine .of (W.block (W.loop inv sE sO m g0 h0 hE hO λg hg=>(aL hT hm c _ _ _ (round g hg)).mono λe E O h=>?_))
 cases e with
 | normal=>exact h
 | exit j=>
  simp only[jt]at h;show bY i _ (.exit j) E O
  simp only[bY]
  cases hb:Nat.beq j i with
  | true=>
   rw[hb]at h;obtain ⟨g2,hp,h1,h2⟩:=h;exact .of (W.weak (Sub.of h1) (SubO.of h2) (after g2 hp).out)
  | false=>rw[hb]at h; exact h
 | ret=>exact h
 | goto _=>exact h
 | panic _=>exact h
 | outgrown=>exact h
theorem Ax {P:Program} {T:Ty} {N:Nx} {E:Env} {O:Objs} {c:Code} {Q:PQ} (hT:T.ok P) (hm:P.follows .mixedOrders=true) (ks:List Nat) (h:bS P T N c (.vw (O.only ks)::E) (O.froze ks (O.only ks)) Q):WI P N E O c Q:=
 WI.step (λ_ K _ _ _ hs=>⟨K,_,hs.view ks⟩) (nH hT hm h)
abbrev eI (k:IntKind) (x:Int):PC:=.sc (.int k x)
abbrev nI (k:IntKind) (x:Nat):PC:=.sc (.int k (x:Int))
def aF (k:IntKind) (l:List Nat):List (List PC):=l.map λx=>[nI k x]
abbrev nSl (k:IntKind) (l:List Nat):PC:=.sl 1 (aF k l)
theorem ai {k:IntKind} {l:List Nat}:(aF k l).length=l.length:=by simp[aF]
theorem xA {k:IntKind} {l:List Nat} {i:Int} (h0:0≤i) (h:i<l.length):(aF k l)[i.toNat]? = some [nI k (l.getD i.toNat 0)]:=by
 have:i.toNat<l.length:=by omega
 simp[aF,ES this]
theorem im {k:IntKind} {l m:List Nat}:aF k l++aF k m=aF k (l++m):=by simp[aF]
theorem dh {k:IntKind} {l:List Nat}:aA (aF k l):=by
 intro el h;obtain ⟨x,_,rfl⟩:=Fb.1 h;rfl
theorem wI {a b:Int} (h:a=b) (h1:-9223372036854775808≤b) (h2:b≤9223372036854775807):IntKind.i64.wrap a=b:=by subst h; exact wi h1 h2
theorem wI1 {i:Nat} (h:i<9223372036854775807):IntKind.i64.wrap ((i:Int)+1)=((i+1:Nat):Int):=wI (by simp) (by omega) (by omega)
theorem wU {a b:Int} (h:a=b) (h1:0≤b) (h2:b≤18446744073709551615):IntKind.u64.wrap a=b:=by subst h; exact aY ⟨h1,h2⟩
theorem al {k:IntKind} {l:List Nat} {i:Int} {n:Nat} (h0:i=n) (h:n<l.length):(aF k l)[i.toNat]? = some [nI k (l.getD n 0)]:=by
 subst h0;simp[aF,h]
theorem ip {k:IntKind} {l:List Nat} {a b:Nat}:((aF k l).drop a).take b=aF k ((l.drop a).take b):=by simp[aF,List.map_take,List.map_drop]
theorem qh {k:IntKind} {els:List (List PC)} {l:List Nat} (h:els=aF k l):(some (.c (.sl 1 els)):Option AV)=some (.c (nSl k l)):=by rw[h]
theorem b9:aA []:=by intro el h; cases h
theorem mC {k:IntKind} {n:Nat} {l:List Nat} {els2:List (List PC)} {X:Prop} (hn:n=l.length) (h:l.length+els2.length≤4000000) (hc:aA els2) (hX:X) :
  n=(aF k l).length∧((aF k l).length+els2.length+768)*8≤17592186044416∧(aF k l).length+els2.length≤35184372088832∧aA (aF k l)∧aA els2∧X:=by
 rw[ai];exact ⟨hn,by omega,by omega,dh,hc,hX⟩
theorem iR {k:IntKind} {x:Int}:aA [[eI k x]]:=by
 intro el h;simp only[Fk]at h;subst h; rfl
theorem fg {k:IntKind} {n:Int} {N:Nat} (h:n=N):List.replicate n.toNat [eI k 0]=aF k (List.replicate N 0):=by
 subst h; simp[aF]
theorem nRow_set {k:IntKind} {l:List Nat} {i:Nat} {x:Nat}:(aF k l).set i [nI k x]=aF k (l.set i x):=by simp[aF]
theorem ko {a:Int} {b v:Nat} (h:a=v):a.tdiv b=((v/b:Nat):Int):=by
 subst h; rw[FB (by omega)]; simp
theorem mh {a:Int} {b v:Nat} (h:a=v):a.tmod b=((v%b:Nat):Int):=by
 subst h; rw[Gl (by omega)]; simp
theorem owE {r sz m n:Nat} (h:m=n):(some (.c (.ow r sz m)):Option AV)=some (.c (.ow r sz n)):=by rw[h]
theorem aB {sz:Nat} {a b:List (List PC)} (h:a=b):(some (.row sz a):Option Ob)=some (.row sz b):=by rw[h]
theorem iE {k:IntKind} {a b:Int} (h:a=b):(some (.c (eI k a)):Option AV)=some (.c (eI k b)):=by rw[h]
end
end Go.Proofs.YtgceikecdedfcaaGreat.Pv
