/- Parts of a proof, joined: PvR PvS PvI. -/
import Derived.Test.YtgceikecdedfcaaGreatLpB
import Derived.Laws.IdiomStrings
namespace Go.Proofs.YtgceikecdedfcaaGreat.Pv
open Go
section
theorem Hp.putNone {K:Km} {ok:Nat→Prop} {w:World} {O:Objs} {r sz:Nat} (hp:Hp K ok w O) (hm:NoM r O):Hp (K.put r none) ok w (O.set r (.row sz []))∧Fr K ok w O (K.put r none) ok w (O.set r (.row sz [])):=by
 have hKne:∀ {q:Nat},q≠r→(K.put r none) q=K q:=λh=>K.put_ne _ h
 have hKe:(K.put r none) r=none:=K.put_self r _;have old:∀ {k o},(O.set r (.row sz [])).get k=some o→k≠r→O.get k=some o:=λ{k o} h hne=>by
  rwa [Objs.get_set,if_neg (λe=>hne e.symm)]at h
 refine ⟨⟨λk o h=>?_,λk k' o o' b L L' h1 h2 e1 e2=>?_,λk o b L h1 e1=>?_,hp.lt,hp.hlt,hp.hok,λk o b L h1 e1=>?_⟩,
  Ew _,λ_ _ _ _=>rfl,λ_ h=>h,λ_ h=>.inl h,λk o b L h1 h2=>?_,rfl,rfl,rfl,λ_ o h=>⟨o,h,SK.refl o⟩,λq hq=>hKne (by have:=hm.1; omega),λ_ h=>.inl h⟩
 ·by_cases hk:k=r
  ·subst hk;rw[Objs.get_set,if_pos rfl]at h;cases h;exact .inl ⟨hKe,rfl⟩
  ·have ho:=old h hk;refine (hp.obs k o ho).mono (λ_ h=>h) (λ_ _ _=>rfl) (Ew _) (hKne hk) (λ_ _ _=>rfl) (λ_ _=>⟨rfl,λ_ _=>rfl,rfl,rfl,rfl,CSh.same λ_ _=>rfl⟩) λq hq=>⟨?_,λb _ _ cs e fr hc=>⟨cs,e,fr,hc,rfl⟩⟩
   by_cases hqr:q=r
   ·subst hqr; exact absurd (hm.get ho) hq
   ·exact hKne hqr
 ·by_cases h3:k=r
  ·subst h3; rw[hKe]at e1; cases e1
  ·by_cases h4:k'=r
   ·subst h4; rw[hKe]at e2; cases e2
   ·rw[hKne h3]at e1;rw[hKne h4]at e2;exact hp.inj k k' o o' b L L' (old h1 h3) (old h2 h4) e1 e2
 ·by_cases h3:k=r
  ·subst h3; rw[hKe]at e1; cases e1
  ·rw[hKne h3]at e1;exact hp.apart k o b L (old h1 h3) e1
 ·by_cases h3:k=r
  ·subst h3; rw[hKe]at e1; cases e1
  ·rw[hKne h3]at e1;exact hp.how k o b L (old h1 h3) e1
 ·by_cases h3:k=r
  ·subst h3; rw[hKe]at h2; cases h2
  ·rw[hKne h3]at h2;exact .inr ⟨k,o,L,old h1 h3,h2⟩
theorem Hp.over' {K:Km} {ok:Nat→Prop} {w w':World} {O:Objs} (hp:Hp K ok w O) (h:w'.heap=w.heap) (ho:w'.os=w.os∧w'.tape=w.tape∧w'.output=w.output):Hp K ok w' O:=by
 have hb:∀ b:Nat,w'.heap[b]? = w.heap[b]?:=λb=>by rw[h]
 have hs:w'.heap.size=w.heap.size:=by rw[h]
 exact ⟨λk o h=>(hp.obs k o h).mono (λ_ h=>h) (λb _ _=>hb b) (by omega) rfl (λb _ _=>hb b) (λ_ _=>⟨rfl,λb _=>hb b,ho.1,ho.2.1,ho.2.2,CSh.same λb _=>hb b⟩) (λr _=>⟨rfl,λb _ _ cs e fr hc=>⟨cs,e,fr,(hb b).trans hc,rfl⟩⟩),hp.inj,hp.apart,λb h=>by rw[hs]; exact hp.lt b h,λb h=>by rw[hs]; exact hp.hlt b h,hp.hok,hp.how⟩
section
variable {P:Program} {E:Env} {O:Objs} {d:Option Tmp} {ty:TypeId} {pos:String} {af:Array Edge} {g:Option (Nat × Bool)}
theorem Step.newG {o:Oper} {k:Nat} {ob:Ob} {av:AV} (hm:NoM k O) (h:∀ N K ok w a,Sim N K ok w E O a→∃ (v:Value) (o':Obj) (L:Nat) (w1:World),w1.heap=w.heap∧w1.os=w.os∧w1.tape=w.tape∧w1.output=w.output∧(execOp a.eval o).run P w = .ok (.value v) (w1.alloc o') ∧
  HOb (K.put k (some (w.heap.size,L))) ok (w1.alloc o') k ob∧RelV (K.put k (some (w.heap.size,L))) ok (w1.alloc o') av v):Step P E O o (some av) (.new k ob):=by
 intro N K ok w a next Q hs hn;obtain ⟨v,o',L,w1,z1,z2,z3,z4,h1,h2,h3⟩:=h N K ok w a hs;unfold Oper.wp;rw[h1];have hp1:Hp K ok w1 O:=hs.hp.over' z1 ⟨z2,z3,z4⟩;rw[←z1]at h2 h3;have hb:=gk hp1 hm o' h2;rw[z1]at hb h2 h3;have hf:=hb.2;exact hn v _ ok _ ⟨λx hx=>by cases hx; exact h3,hb.1,⟨by rw[←z1]; exact hf.size,by rw[←z1]; exact hf.keep,hf.okUp,by have:=hf.okNew; rw[z1]at this; exact this,by have:=hf.own; rw[z1]at this; exact this,hf.os.trans z2,hf.tape.trans z3,hf.output.trans z4,by rw[←z1]; exact hf.kind,hf.pin,by have:=hf.hid; rw[z1]at this; exact this⟩,λr hr=>K.put_ne _ λe=>hr (by rw[e]; rfl)⟩
theorem wX {els:List (List PC)} {sz:Nat} {K:Km} {ok:Nat→Prop} {w:World} {us:List Value} (h2:Flat K ok w sz els us) (hc2:aA els):∀ (j i:Nat) (el:List PC) (x:PC),els[j]? = some el→el[i]? = some x→∃ u,us[j*sz+i]? = some u∧Rel ok w x u:=
 λj i el x hj hi=>by
  obtain ⟨u,hu,hr⟩:=h2.get j i el x hj hi;exact ⟨u,hu,hr.closed (ba (hc2 el (E6 hj)) i x hi)⟩
theorem Step.appNil {t t2 e e2 sz bt:Nat} {agg:Bool} {z:List Value} [hs:TSl P t e] [TI P e sz bt agg z] [hs2:TSl P t2 e2] {x y:Operand} {k:Nat} {els2:List (List PC)} {p2:PC} (hx:E.ev x=some (.c (.sc (.slice none 0 0))))
  (hy:E.ev y=some (.c p2)) (h2:slC O sz p2=some els2) (hz:z.length=sz) (hbig:(els2.length+768)*bt≤17592186044416) (hbig2:els2.length≤35184372088832) (hm:NoM k O) (hc2:aA els2) :
  Step P E O ⟨some k,.call ⟨.builtin .append,#[x,y],#[t,t2]⟩,ty,pos,af,g⟩ (some (.c (.ow k sz els2.length))) (.new k (.row sz els2)):=by
 intro N K ok w a next Q hsim hnext;have hB:els2.length≤BIG:=by simp only[dP]; omega
 have e1:=(hsim.ev hx).sc.1;have hs2':=iM hsim.hp (hsim.ev hy).one h2;generalize hev2:a.eval y=v2 at hs2';have hexec:(execOp a.eval ⟨some k,.call ⟨.builtin .append,#[x,y],#[t,t2]⟩,ty,pos,af,g⟩).run P w=((Builtin.append_ #[t,t2] ty #[.slice none 0 0,v2]).run P w).andThen λu w'=>.ok (.value u) w':=by
  simp[execOp,resolve,invoke,builtin,e1,hev2]
 unfold Oper.wp;rw[hexec];by_cases hne:els2=[]
 ·subst hne;obtain ⟨us,hu,hfl⟩:=hs2'.first (P:=P)
  obtain ⟨A2,c2,rfl,_⟩:=hs2'.v;have hsz:=aJ (P:=P) (t:=e) w;have hrun:(Builtin.append_ #[t,t2] ty #[.slice none 0 0,.slice A2 ([]:List (List PC)).length c2]).run P w = .ok (.slice none 0 0) w:=by
   simp only[Gv]at hu;simp[Builtin.append_,ah hs.u,ah hs2.u,hsz,Builtin.lenOf,hu]
  rw[hrun];obtain ⟨a1,a2⟩:=hsim.hp.putNone (sz:=sz) hm;exact hnext _ _ ok w ⟨λq hq=>by cases hq; exact .o (.c (.owN (K.put_self k _))),a1,a2,λr hr=>K.put_ne _ λe=>hr (by rw[e]; rfl)⟩
 ·have hpos:0<els2.length:=List.length_pos_iff.2 hne;have hs1:SlR K ok w sz ([]:List (List PC)) (.slice none 0 0):=⟨⟨none,0,rfl,λh=>absurd rfl h⟩,λj el hj=>by simp at hj,by simp⟩;obtain ⟨us,us2,cap,rest,hf1,hf2,hcap,hrest,hrun⟩:=lS (P:=P) (t:=t) (t2:=t2) (ty:=ty) hs1 hs2' (A:=none) (c:=0) rfl (by simpa using hpos) (by simpa using hbig) (by simpa using hB);rw[hrun];simp only[Result.andThen_ok];have hus:us=[]:=by have:=hf1.len; simpa using this
  subst hus;simp only[Gv,Fn]at hcap hrest ⊢;have hsz:((([]:List Value).toArray++us2.toArray++rest:Array Value)).size=cap*sz:=by
   simp[hf2.len,hrest,hz];rw[←EO];congr 1; omega
  have hob:HOb (K.put k (some (w.drew.heap.size,els2.length))) ok (w.drew.alloc (.cells (([]:List Value).toArray++us2.toArray++rest) e)) k (.row sz els2):=
   jX (w:=w.drew) hB (by rw[hsz]; exact EE _ hcap) hs2'.len λj i el x hj hi=>by
    obtain ⟨u,hu,hr⟩:=wX hf2 hc2 j i el x hj hi;refine ⟨u,?_,Rel.mono (w:=w) (w':=w.drew) (λ_ h=>h) (λ_ _ _=>rfl) (Ew _) hr⟩;rw[GH (by simpa using (Ez.1 hu).1)];simpa using hu
  have hnb:=gk hsim.hp.drew hm (.cells (([]:List Value).toArray++us2.toArray++rest) e) hob;refine hnext _ _ ok _ ⟨λq hq=>?_,hnb.1,?_,λq hq=>K.put_ne _ λe=>hq (by rw[e]; rfl)⟩
  ·cases hq;exact .o (.c (.ow (b:=w.heap.size) (cs:=([]:List Value).toArray++us2.toArray++rest) (e:=e) (fr:=(0,0)) (K.put_self k _) (bV w.drew _) (by rw[hsz]; exact Ew _) hcap))
  ·have h:=hnb.2;exact ⟨h.size,h.keep,h.okUp,h.okNew,h.own,h.os,h.tape,h.output,h.kind,h.pin,h.hid⟩
theorem Step.appMake {t ti e sz bt:Nat} {agg:Bool} {z:List Value} {kd:IntKind} [hs:TSl P t e] [TI P e sz bt agg z] (hi:P.underlying ti=some (.int kd)) {x y:Operand} {k:Nat} {n:Int} (hx:E.ev x=some (.c (.sc (.slice none 0 0))))
  (hy:E.ev y=some (.c (.sc (.int .i64 n)))) (hzs:d9 z=true) (hz:z.length=sz) (hsz0:0<sz) (hn:0<n) (hbig:n≤1000000) (hbt:bt≤1000) (hm:NoM k O) :
  Step P E O ⟨some k,.call ⟨.builtin .append,#[x,y],#[t,ti]⟩,ty,pos,af,g⟩ (some (.c (.ow k sz n.toNat))) (.new k (.row sz (List.replicate n.toNat (cz z)))):=by
 intro N K ok w a next Q hsim hnext;have e1:=(hsim.ev hx).sc.1;have e2:=(hsim.ev hy).sc.1;have hscl:∀ z:List Value,(cz z).length=z.length:=by
  intro z; induction z with
  | nil=>rfl
  | cons v l ih=>simp[cz,ih]
 have hexec:(execOp a.eval ⟨some k,.call ⟨.builtin .append,#[x,y],#[t,ti]⟩,ty,pos,af,g⟩).run P w=((Builtin.append_ #[t,ti] ty #[.slice none 0 0,.int .i64 n]).run P w).andThen λu w'=>.ok (.value u) w':=by
  simp[execOp,resolve,invoke,builtin,e1,e2]
 unfold Oper.wp;rw[hexec];obtain ⟨m,rfl⟩:∃ m:Nat,n=(m:Int):=⟨n.toNat,by omega⟩;simp only[EX]at hnext;obtain ⟨zv,hz1,hz2⟩:=bJ (P:=P) (t:=e) w.drew;obtain ⟨i,hi1,hi2⟩:=bZ (P:=P) (t:=e) w;obtain ⟨i',hi1',hi2'⟩:=bZ (P:=P) (t:=e) w.drew;have hsz:=aJ (P:=P) (t:=e) w;have hw:IntKind.i64.wrap (m:Int)=m:=aY ⟨by show (-9223372036854775808:Int)≤_; omega,by show _≤(9223372036854775807:Int); omega⟩;have hmb:m*bt≤1000000000:=FE (by omega:m≤1000000) hbt;have hno0:¬ ((281474976710656:Int)<(m:Int)*(bt:Int)):=by
  have:((m*bt:Nat):Int)=(m:Int)*(bt:Int):=by simp
  omega
 have hcap:=gX (need:=m) (old:=0) (by omega);have hno:¬ (281474976710656<Builtin.nextslicecap m 0*bt):=by
  have h1:Builtin.nextslicecap m 0*bt≤16*(m+768)*bt:=EE _ hcap;have h2:16*(m+768)*bt≤16*(1000000+768)*1000:=FE (by omega) hbt;omega
 let q:Question:=.appendCap m 0 e
 let cap:=q.cut (w.tape w.drawn q)
 have hcapge:m≤cap:=by
  show _≤(Question.appendCap m 0 e).cut _
  simp[Question.cut]
 have hmz:¬ (m*sz=0):=by
  have:0<m*sz:=Nat.mul_pos (by omega) hsz0;omega
 have hnle:¬ (m≤0):=by omega
 let cells:Array Value:=Builtin.zeroCells z.toArray m++Builtin.zeroCells z.toArray (cap-m)
 have hrun:(Builtin.append_ #[t,ti] ty #[.slice none 0 0,.int .i64 (m:Int)]).run P w = .ok (.slice (some ⟨w.heap.size,0,none⟩) m cap) (w.drew.alloc (.cells cells e)):=by
  have hmax2:¬ ((9223372036854775807:Int)<(m:Int)):=by omega
  have hneg:¬ ((m:Int)<0):=by omega
  simp[Builtin.append_,ah hs.u,ah hi,hsz,asInt,asIntOf,hw,hneg,hi1,hi2,hno0,hnle,hno,hmax2,hmz,Question.forced,newRow];rw[if_neg (by omega),hi1'];have hs1:SlR K ok w.drew sz ([]:List (List PC)) (.slice none 0 0):=⟨⟨none,0,rfl,λh=>absurd rfl h⟩,λj el hj=>by simp at hj,by simp⟩;obtain ⟨us,hu,hfl⟩:=hs1.first (P:=P)
  have hus:us=[]:=by have:=hfl.len; simpa using this
  subst hus;simp only[Gv]at hu;simp[hu,hz1,hz2,cells,cap,q]
 rw[hrun];simp only[Result.andThen_ok];have hcs:cells.size=cap*sz:=by
  simp[cells,Builtin.zeroCells,hz];rw[←EO];congr 1; omega
 have hob:HOb (K.put k (some (w.drew.heap.size,m))) ok (w.drew.alloc (.cells cells e)) k (.row sz (List.replicate m (cz z))):=by
  have:=jX (w:=w.drew) (K:=K) (ok:=ok) (k:=k) (sz:=sz) (els:=List.replicate m (cz z)) (cs:=cells) (e:=e) (by simp[dP]; omega) (by rw[GE,hcs]; exact EE _ hcapge) (λj el hj=>by
   rw[FX]at hj;split at hj
   ·cases hj; rw[hscl,hz]
   ·cases hj) (λj q el x' hj hq=>by
   rw[FX]at hj;split at hj
   ·rename_i hjn;cases hj;obtain ⟨u,hu,hr⟩:=(gD (K:=K) (ok:=ok) (w:=w.drew) hzs).get q x' hq;have hql:q<sz:=by rw[←hz]; exact (Ez.1 hu).1
    have hb:j*sz+q<m*sz:=by
     have:(j+1)*sz≤m*sz:=EE _ (by omega);rw[EO,Fh]at this;omega
    refine ⟨u,?_,hr.closed (gF z x' (E6 hq))⟩;have hmod:(j*sz+q)%sz=q:=by rw[EQ,Hl]; exact Fc hql
    have hu':z[q]? = some u:=hu;show (Builtin.zeroCells z.toArray m++Builtin.zeroCells z.toArray (cap-m))[j*sz+q]? = _
    rw[GH (by simp[Builtin.zeroCells,hz]; exact hb)];simp[Builtin.zeroCells,hb,hz,hmod,hu']
   ·cases hj)
  rwa [GE]at this
 have hnb:=gk hsim.hp.drew hm (.cells cells e) hob;refine hnext _ _ ok _ ⟨λq hq=>?_,hnb.1,?_,λq hq=>K.put_ne _ λe=>hq (by rw[e]; rfl)⟩
 ·cases hq;exact .o (.c (.ow (b:=w.heap.size) (cs:=cells) (e:=e) (fr:=(0,0)) (K.put_self k _) (bV w.drew _) (by rw[hcs]; exact Ew _) hcapge))
 ·have h:=hnb.2;exact ⟨h.size,h.keep,h.okUp,h.okNew,h.own,h.os,h.tape,h.output,h.kind,h.pin,h.hid⟩
theorem Step.cutNil {t e sz bt:Nat} {agg:Bool} {z:List Value} [hsl:TSl P t e] [TI P e sz bt agg z] {x:Operand} {hi:Option Operand} {h:Option Int} (hx:E.ev x=some (.c (.sc (.slice none 0 0)))) (hh:dz E hi=some h) (eh:h.getD 0=0) :
  Step P E O ⟨d,.slice t x none hi none,ty,pos,af,g⟩ (some (.c (.sc (.slice none 0 0)))) .no:=
 .val λN K ok w a hs=>by
  have e1:=(hs.ev hx).sc.1;have hsz:=aJ (P:=P) (t:=e) w;have hb:=dc (P:=P) (isS:=true) (cap:=0) (len:=0) (l':=0) (h':=0) (lo:=none) (l:=none) hs rfl hh rfl eh (Ew _) (Ew _);simp only[Option.map_none]at hb;refine ⟨.slice none 0 0,?_,.ofSc trivial⟩;simp[execOp,e1,Instr.sliceAt,ah hsl.u,Instr.slice,hb,hsz]
theorem Step.slice3 {t e sz bt:Nat} {agg:Bool} {z:List Value} [hsl:TSl P t e] [TI P e sz bt agg z] {x hi mx:Operand} {lo:Option Operand} {k n:Nat} {p:PC} {k2 k3:IntKind} {l:Option Int} (hx:E.ev x=some (.c p)) (hn:nc p=some n)
  (hl:dz E lo=some l) (el:l.getD 0=0) (hh:E.ev hi=some (.c (.sc (.int k2 0)))) (hm:E.ev mx=some (.c (.sc (.int k3 0)))) (hno:NoM k O) :
  Step P E O ⟨some k,.slice t x lo (some hi) (some mx),ty,pos,af,g⟩ (some (.c (.ow k sz 0))) (.new k (.row sz [])):=by
 intro N K ok w a next Q hs hnext;obtain ⟨A,c,hv⟩:=ri (hs.ev hx).one hn;have e2:=(hs.ev hh).sc.1;have e3:=(hs.ev hm).sc.1;have hsz:=aJ (P:=P) (t:=e) w;have hb:(Instr.sliceBounds true n c (lo.map a.eval) (some (.int k2 0)) (some (.int k3 0))).run P w = .ok (0,0,0) w:=by
  cases lo with
  | none=>simp[Instr.sliceBounds,Instr.sliceBound,asIntOf]
  | some y=>
   simp only[dz]at hl;split at hl
   ·rename_i k1 n1 hy;cases hl;simp only[F2]at el;subst el;have e1:=(hs.ev hy).sc.1;simp[Instr.sliceBounds,Instr.sliceBound,asIntOf,e1]
   ·cases hl
 have hrun:(execOp a.eval ⟨some k,.slice t x lo (some hi) (some mx),ty,pos,af,g⟩).run P w = .ok (.value (.slice A 0 0)) w:=by
  simp[execOp,Instr.sliceAt,Instr.slice,ah hsl.u,hv,e2,e3,hb,hsz]
 unfold Oper.wp;rw[hrun];obtain ⟨a1,a2⟩:=hs.hp.putNone (sz:=sz) hno;exact hnext _ _ ok w ⟨λq hq=>by cases hq; exact .o (.c (.owN (K.put_self k _))),a1,a2,λr hr=>K.put_ne _ λe=>hr (by rw[e]; rfl)⟩
theorem Step.trunc {t e sz bt:Nat} {agg:Bool} {z:List Value} [hsl:TSl P t e] [TI P e sz bt agg z] {x:Operand} {lo hi:Option Operand} {l h:Option Int} {r n h':Nat} {els:List (List PC)} (hx:E.ev x=some (.c (.ow r sz n))) (ho:O.get r=some (.row sz els))
  (hl:dz E lo=some l) (hh:dz E hi=some h) (el:l.getD 0=0) (eh:h.getD n=h') (hn:n=els.length) (h2:h'≤n) (hm:NoM r O) :
  Step P E O ⟨d,.slice t x lo hi none,ty,pos,af,g⟩ (some (.c (.ow r sz h'))) (.app r (.row sz (els.take h'))):=by
 intro N K ok w a next Q hs hnext;have hsz:=aJ (P:=P) (t:=e) w;have hv:=(hs.ev hx).one;generalize hev:a.eval x=v at hv;have hlt:(els.take h').length=h':=by simp; omega
 have hrun:∀ (A:Option Addr) (c:Nat),v = .slice A n c→n≤c→(∀ b,A=some b→b.off=0∧b.spot=none)→(execOp a.eval ⟨d,.slice t x lo hi none,ty,pos,af,g⟩).run P w = .ok (.value (.slice A h' c)) w:=by
  intro A c e hc hA;have hb:=dc (P:=P) hs (isS:=true) (len:=n) (cap:=c) (l':=0) (h':=h') hl hh (by simpa using el) (by simpa using eh) (Gt _) (by omega);subst e
  cases A with
  | none=>simp[execOp,Instr.sliceAt,Instr.slice,ah hsl.u,hev,hb,hsz]
  | some b=>
   obtain ⟨b1,b2⟩:=hA b rfl;have hadd:b.add 0=b:=by
    obtain ⟨bb,oo,ss⟩:=b;simp only at b2;subst b2;exact Addr.add_lit _ _ _
   simp[execOp,Instr.sliceAt,Instr.slice,ah hsl.u,hev,hb,hsz,hadd]
 cases hv with
 | cl h=>cases h
 | @owN _ _ A hk=>
  obtain rfl:h'=0:=by omega
  have he:els=[]:=EZ.1 hn.symm;subst he;have hnone:(execOp a.eval ⟨d,.slice t x lo hi none,ty,pos,af,g⟩).run P w = .ok (.value (.slice A 0 0)) w:=by
   have hb:=dc (P:=P) hs (isS:=true) (len:=0) (cap:=0) (l':=0) (h':=0) hl hh (by simpa using el) (by simpa using eh) (Ew _) (Ew _);simp[execOp,Instr.sliceAt,Instr.slice,ah hsl.u,hev,hb,hsz]
  unfold Oper.wp;rw[hnone];have hsub:SubO (O.set r (.row sz (([]:List (List PC)).take 0))) O:=λk o h=>by
   rw[Objs.get_set]at h;split at h
   ·rename_i hkk; subst hkk; cases h; exact ho
   ·exact h
  exact hnext _ K ok w ⟨λq hq=>by cases hq; exact .o (.c (.owN hk)),hs.hp.sub hsub,Fr.weak hsub,λ_ _=>rfl⟩
 | @ow _ _ _ b c cs0 e0 fr0 hk hb0 hc0 hnc=>
  rcases hs.hp.obs r _ ho with ⟨a1,_⟩ | ⟨b',cs,e1,fr,a1,a2,a3,a4,a5,a6,a7⟩
  ·rw[hk]at a1; cases a1
  rw[hk]at a1;cases a1;rw[a2]at hb0;cases hb0;unfold Oper.wp;rw[hrun _ c rfl hnc λb hb=>by cases hb; exact ⟨rfl,rfl⟩];have hle:(els.take h').length*sz≤cs0.size:=by
   rw[hlt];exact EA (EE _ (by omega)) a5
  have hget:∀ (j:Nat) (el:List PC),(els.take h')[j]? = some el→els[j]? = some el:=λj el hj=>by
   rw[Fy]at hj;split at hj
   ·exact hj
   ·cases hj
  have hu:=gB (L1:=h') (ob':=.row sz (els.take h')) (o':=.cells cs0 e0 fr0) hs.hp ho hk a2 (SK.refl _) (.inr hm) (by
   rw[ib a2];exact .inr ⟨b,cs0,e0,fr0,by rw[hlt]; exact K.put_self r _,a2,a3,by rw[hlt]; omega,hle,λj el hj=>a6 j el (hget j el hj),λj i el x hj hi=>a7 j i el x (hget j el hj) hi⟩)
  rw[ib a2]at hu;exact hnext _ _ ok w ⟨λq hq=>by
   cases hq;exact .o (.c (.ow (b:=b) (cs:=cs0) (e:=e0) (fr:=fr0) (K.put_self r _) a2 hc0 (by omega))),hu.1,hu.2,λq hq=>K.put_ne _ λe=>hq (by rw[e]; rfl)⟩
def jA (s:ByteArray):List (List PC):=s.data.toList.map λb=>[.sc (.int .u8 (b.toNat:Int))]
theorem nf {s:ByteArray}:(jA s).length=s.size:=by simp[jA]
theorem rl {s:ByteArray} {j:Nat} (h:j<s.data.size):(jA s)[j]? = some [.sc (.int .u8 (s.data[j].toNat:Int))]:=by
 unfold jA;rw[EH,ES (by simpa using h)];simp
theorem Step.strOfBytes {t t' e sz bt:Nat} {agg:Bool} {z:List Value} [hsl:TSl P t e] [TI P e sz bt agg z] (he:P.underlying e=some (.int .u8)) (ht':P.underlying t'=some .string) {x:Operand} {p:PC} {s:ByteArray}
  (hx:E.ev x=some (.c p)) (hp:slC O 1 p=some (jA s)) (hs:s.size≤BIG):Step P E O ⟨d,.convert t t' x,ty,pos,af,g⟩ (some (.c (.sc (.string s)))) .no:=
 .val λN K ok w a hsim=>by
  have h:=iM hsim.hp (hsim.ev hx).one hp;obtain ⟨A,c,hv,hA⟩:=h.v;refine ⟨.string s,?_,.ofSc hs⟩;have hlen:(jA s).length=s.data.toList.length:=by simp[jA]
  rw[hlen]at hv;have key:(convert t t' (.slice A s.data.toList.length c)).run P w = .ok (.string ⟨s.data.toList.toArray⟩) w:=by
   by_cases hne:jA s=[]
   ·have h0:s.data.toList=[]:=by simpa [jA] using hne
    rw[h0]
    cases A with
    | none=>simp[convert,ah hsl.u,ah ht',ah he,Conv.bytesToString]; rfl
    | some A=>simp[convert,ah hsl.u,ah ht',ah he,Conv.bytesToString,loadCells,loadCellsFrom]; rfl
   ·obtain ⟨b,o,rfl,hc⟩:=hA hne;refine run_convert_bytes_back w t t' e _ c s.data.toList hsl.u he ht' λj hj=>?_
    have hj':(jA s)[j]? = some [.sc (.int .u8 (s.data.toList[j].toNat:Int))]:=by rw[rl (by simpa using hj)]; simp
    obtain ⟨u,hu,hr⟩:=hc j 0 _ _ hj' rfl;rw[Addr.add_lit];have:u = .int .u8 (s.data.toList[j].toNat:Int):=by
     cases hr with | cl hr=>cases hr with | sc _=>rfl
    rw[←this];simpa using hu
  simp only[execOp,hv,Sem.run_bind,key,Result.andThen_ok,Sem.run_pure]
theorem Step.bytesOfStr {t t' e bt:Nat} {agg:Bool} {z:List Value} [hsl:TSl P t' e] [TI P e 1 bt agg z] (he:P.underlying e=some (.int .u8)) (ht:P.underlying t=some .string) {x:Operand} {k:Nat} {s:ByteArray}
  (hx:E.ev x=some (.c (.sc (.string s)))) (hno:NoM k O):Step P E O ⟨some k,.convert t t' x,ty,pos,af,g⟩ (some (.c (.ow k 1 s.size))) (.new k (.row 1 (jA s))):=
 .newG hno λN K ok w a hsim=>by
  obtain ⟨e1,e2⟩:=(hsim.ev hx).sc;have hrun:=run_bytes_of_string (P:=P) w t t' e s ht hsl.u he;have hcap:=grownCap_ge w s.size 0 e;have hsize:(bytesRow s (grownCap w s.size 0 e)).size=grownCap w s.size 0 e:=by
   simp only[bytesRow,Array.size_append,Array.size_map,Array.size_replicate];have:s.data.size=s.size:=rfl;omega
  refine ⟨_,.cells (bytesRow s (grownCap w s.size 0 e)) e ((bytesRow s (grownCap w s.size 0 e)).size,(bytesRow s (grownCap w s.size 0 e)).size+1),s.size,w.drew,rfl,rfl,rfl,rfl,by simp only[execOp,e1,Sem.run_bind,hrun,Result.andThen_ok,Sem.run_pure],?_,.o (.c (.ow (b:=w.heap.size) (cs:=bytesRow s (grownCap w s.size 0 e)) (e:=e) (fr:=((bytesRow s (grownCap w s.size 0 e)).size,(bytesRow s (grownCap w s.size 0 e)).size+1)) (K.put_self k _) (bV w.drew _) (by rw[hsize]; omega) hcap))⟩;refine .inr ⟨w.heap.size,_,_,_,by rw[nf]; exact K.put_self k _,bV w.drew _,λi hi h=>by have h1:=h.1; have h2:=h.2; omega,by rw[nf]; exact e2,by rw[nf,hsize]; omega,λj el hj=>?_,λj i el x hj hi=>?_⟩
  ·simp only[jA,EH,EC]at hj;obtain ⟨b,_,rfl⟩:=hj;rfl
  ·have hjl:j<s.data.size:=by
    have:=(Ez.1 hj).1;simpa [jA] using this
   have hel:el=[.sc (.int .u8 (s.data[j].toNat:Int))]:=by
    rw[rl hjl]at hj;exact (Gc hj).symm
   subst hel;have hi0:i=0:=by
    have:=(Ez.1 hi).1;simp at this; exact this
   subst hi0;simp only[List.getElem?_cons_zero,EM]at hi;subst hi;refine ⟨_,by simpa using bytesRow_at s _ j hjl,.sc ?_⟩;have:=s.data[j].toNat_lt;exact ⟨by omega,by omega⟩
theorem wY {t t2 e e2 sz bt:Nat} {agg:Bool} {z:List Value} [hs:TSl P t e] [TI P e sz bt agg z] [hs2:TSl P t2 e2] {K:Km} {ok:Nat→Prop} {w:World} {els2:List (List PC)} {v2:Value} (h2:SlR K ok w sz els2 v2) {b o n c m:Nat} {cs:Array Value} {e0:TypeId} {fr:Nat × Nat}
  (hb:w.heap[b]? = some (.cells cs e0 fr)) (hf:∀ j,j<cs.size→¬ (fr.1≤j∧j<fr.2)) (hm:m=min els2.length n) (hbd:o+m*sz≤cs.size) :
  ∃ us,Flat K ok w sz (els2.take m) us∧(Builtin.copy_ #[t,t2] ty #[.slice (some ⟨b,o,none⟩) n c,v2]).run P w = .ok (.int .i64 m) (aR w b (.cells (aO cs o us) e0 fr)):=by
 obtain ⟨A,c2,rfl,hA⟩:=h2.v;have hsz:=aJ (P:=P) (t:=e) w;have hlen:(els2.take m).length=m:=by simp; omega
 have h2':SlR K ok w sz (els2.take m) (.slice A m c2):=by
  refine ⟨⟨A,c2,by rw[hlen],λhne=>?_⟩,λj el hj=>?_,by have:=h2.big; omega⟩
  ·obtain ⟨b',o',rfl,hc⟩:=hA (λe=>hne (by rw[e]; simp));refine ⟨b',o',rfl,λj i el x hj hi=>?_⟩;rw[Fy]at hj;split at hj
   ·exact hc j i el x hj hi
   ·cases hj
  ·rw[Fy]at hj;split at hj
   ·exact h2.len j el hj
   ·cases hj
 obtain ⟨us,hu,hfl⟩:=h2'.first (P:=P)
 rw[hlen]at hu;have hst:=eb (P:=P) (o:=o) us 0 cs w hb hf (by rw[hfl.len,hlen]; omega) hfl.ones;have hu':(Builtin.firstCells sz m (.slice A els2.length c2)).run P w = .ok us.toArray w:=by
  cases A<;>exact hu
 have hmin:Nat.min els2.length n=m:=by rw[hm]
 refine ⟨us,hfl,?_⟩;simp[Builtin.copy_,ah hs.u,Builtin.lenOf,hsz,hmin,hu',hst,goInt]
theorem Step.copyOw {t t2 e e2 sz bt:Nat} {agg:Bool} {z:List Value} [hs:TSl P t e] [TI P e sz bt agg z] [hs2:TSl P t2 e2] {x y:Operand} {r n lo m:Nat} {els els2:List (List PC)} {p1 p2:PC} (hx:E.ev x=some (.c p1)) (h1:(p1 = .ow r sz n∧lo=0)∨p1 = .os r sz lo n) (ho:O.get r=some (.row sz els))
  (hy:E.ev y=some (.c p2)) (h2:slC O sz p2=some els2) (hm:m=min els2.length n) (hle:lo+m≤els.length) (hc2:aA els2) :
  Step P E O ⟨d,.call ⟨.builtin .copy,#[x,y],#[t,t2]⟩,ty,pos,af,g⟩ (some (.c (.sc (.int .i64 m)))) (.upd r (.row sz (els.take lo++(els2.take m++els.drop (lo+m))))):=by
 intro N K ok w a next Q hsim hnext;have hv1:=(hsim.ev hx).one;have hs2':=iM hsim.hp (hsim.ev hy).one h2;generalize hev:a.eval x=v at hv1;generalize hev2:a.eval y=v2 at hs2';have hexec:(execOp a.eval ⟨d,.call ⟨.builtin .copy,#[x,y],#[t,t2]⟩,ty,pos,af,g⟩).run P w=((Builtin.copy_ #[t,t2] ty #[v,v2]).run P w).andThen λu w'=>.ok (.value u) w':=by
  simp[execOp,resolve,invoke,builtin,hev,hev2]
 unfold Oper.wp;rw[hexec];have hmi:inR .i64 (m:Int):=by
  have h3:=hs2'.big;simp only[dP]at h3;exact ⟨by omega,by omega⟩
 have hlen2:(els2.take m).length=m:=by simp; omega
 have hlenN:(els.take lo++(els2.take m++els.drop (lo+m))).length=els.length:=by simp; omega
 -- nothing to copy
 have nothing:m=0→(els.take lo++(els2.take m++els.drop (lo+m)))=els:=λh=>by subst h; simp
 rcases hsim.hp.obs r _ ho with ⟨k0,hels⟩ | ⟨b',cs,el,fr,a1,a2,a3,a4,a5,a6,a7⟩
 ·-- no block
  obtain rfl:m=0:=by rw[hels]at hle; simp at hle; omega
  have hv:∃ A,v = .slice A n 0∧n=0:=by
   rcases h1 with ⟨rfl,_⟩ | rfl
   ·cases hv1 with
    | cl h=>cases h
    | owN _=>exact ⟨_,rfl,rfl⟩
    | ow hk=>rw[k0]at hk; cases hk
   ·cases hv1 with
    | cl h=>cases h
    | os hk=>rw[k0]at hk; cases hk
  obtain ⟨A,rfl,rfl⟩:=hv;obtain ⟨A2,c2,rfl,_⟩:=hs2'.v;have hsz:=aJ (P:=P) (t:=e) w;have hrun:(Builtin.copy_ #[t,t2] ty #[.slice A 0 0,.slice A2 els2.length c2]).run P w = .ok (.int .i64 0) w:=by
   cases A<;>cases A2<;>simp[Builtin.copy_,ah hs.u,Builtin.lenOf,hsz,Builtin.firstCells,loadCells,loadCellsFrom,storeCells,goInt]
  rw[hrun];have hnn:=nothing rfl;rw[hnn]at hnext;have hsub:SubO (O.set r (.row sz els)) O:=λk o h=>by
   rw[Objs.get_set]at h;split at h
   ·rename_i hkk; subst hkk; cases h; exact ho
   ·exact h
  exact hnext _ K ok w ⟨λq hq=>by cases hq; exact .ofSc hmi,hsim.hp.sub hsub,Fr.weak hsub,λ_ _=>rfl⟩
 ·have hv:∃ c,v = .slice (some ⟨b',lo*sz,none⟩) n c:=by
   rcases h1 with ⟨rfl,rfl⟩ | rfl
   ·cases hv1 with
    | cl h=>cases h
    | owN hk=>rw[a1]at hk; cases hk
    | ow hk=>rw[a1]at hk; cases hk; exact ⟨_,by rw[Hm]⟩
   ·cases hv1 with
    | cl h=>cases h
    | os hk=>rw[a1]at hk; cases hk; exact ⟨_,rfl⟩
  obtain ⟨c,rfl⟩:=hv;have hbd:lo*sz+m*sz≤cs.size:=by
   rw[←EO];exact EA (EE _ hle) a5
  obtain ⟨us,hfl,hrun⟩:=wY (P:=P) (t:=t) (t2:=t2) (ty:=ty) (c:=c) hs2' a2 a3 hm hbd;rw[hrun];simp only[Result.andThen_ok];have husl:us.length=m*sz:=by rw[hfl.len,hlen2]
  have hspl:∀ q,(aO cs (lo*sz) us)[q]? = if lo*sz≤q∧q<lo*sz+us.length then us[q-lo*sz]? else cs[q]?:=λq=>da _ _ _ _ (by omega)
  have hkeep:∀ c',ok c'→c'<w.heap.size→(aR w b' (.cells (aO cs (lo*sz) us) el fr)).heap[c']? = w.heap[c']?:=λc' hc' _=>by
   rw[aV,if_neg]
   rintro ⟨rfl,_⟩
   exact hsim.hp.apart r _ _ _ ho a1 hc'
  have lenj:∀ (j:Nat) (el':List PC),(els2.take m)[j]? = some el'→el'.length=sz:=λj el' hj=>by
   rw[Fy]at hj;split at hj
   ·exact hs2'.len j el' hj
   ·cases hj
  have getj:∀ (j:Nat),(els.take lo++(els2.take m++els.drop (lo+m)))[j]? = if lo≤j∧j<lo+m then (els2.take m)[j-lo]? else els[j]?:=λj=>by
   have hlo:lo≤els.length:=by omega
   have htl:(els.take lo).length=lo:=by simp; omega
   rcases Fm j lo with h | h
   ·rw[if_neg (by omega),EF (by omega),Fy,if_pos h]
   ·rw[ED (by omega),htl];rcases Fm j (lo+m) with h' | h'
    ·rw[if_pos ⟨h,h'⟩,EF (by omega)]
    ·rw[if_neg (by omega),ED (by omega),hlen2,Fj];congr 1; omega
  have hu:=iK (K:=K) (ok:=ok) (ob':=.row sz (els.take lo++(els2.take m++els.drop (lo+m)))) (cs':=aO cs (lo*sz) us) hsim.hp ho a1 a2 (aE _ _ _)
   (.inr ⟨b',aO cs (lo*sz) us,el,fr,by rw[hlenN]; exact a1,by rw[aV,if_pos ⟨rfl,bD a2⟩],by rw[aE]; exact a3,by rw[hlenN]; exact a4,by rw[hlenN,aE]; exact a5,λj el' hj=>?_,λj i el' x' hj hi=>?_⟩)
  ·exact hnext _ K ok _ ⟨λq hq=>by cases hq; exact .ofSc hmi,hu.1,hu.2.1,λ_ _=>rfl⟩
  ·rw[getj]at hj;split at hj
   ·exact lenj _ _ hj
   ·exact a6 j el' hj
  ·rw[getj]at hj;split at hj
   ·rename_i hin
    have hil:i<sz:=by rw[←lenj _ _ hj]; exact (Ez.1 hi).1
    obtain ⟨u,hu',hr⟩:=hfl.get (j-lo) i el' x' hj hi;have hjm:(j-lo)*sz+i<us.length:=(Ez.1 hu').1;have e1:j*sz=lo*sz+(j-lo)*sz:=by rw[←EO]; congr 1; omega
    have hel2:el'∈els2:=List.take_subset _ _ (E6 hj);exact ⟨u,by rw[hspl,if_pos (by omega),←hu']; congr 1; omega,(hr.closed (ba (hc2 el' hel2) i x' hi)).mono (λ_ h=>h) hkeep (by rw[aZ]; exact Ew _)⟩
   ·rename_i hin
    obtain ⟨u,hu',hr⟩:=a7 j i el' x' hj hi;have hil:i<sz:=by rw[←a6 j el' hj]; exact (Ez.1 hi).1
    refine ⟨u,?_,hr.mono (λ_ h=>h) hkeep (by rw[aZ]; exact Ew _)⟩;rw[hspl,if_neg]
    ·exact hu'
    ·rintro ⟨h3,h4⟩
     rw[husl]at h4;rcases Fm j lo with h5 | h5
     ·have:(j+1)*sz≤lo*sz:=EE _ h5;rw[EO,Fh]at this;omega
     ·have h6:lo+m≤j:=by omega
      have:(lo+m)*sz≤j*sz:=EE _ h6;rw[EO]at this;omega
def wZ:PC→Option Bool
 | .sc (.pointer none)=>some true
 | .rd _=>some false
 | .ad _ _=>some false
 | .ea _ _ _ _=>some false
 | .sc (.map none)=>some true
 | .mp _=>some false
 | .sc .nilFunc=>some true
 | .fn _ _=>some false
 | _=>none
def rm:Value→Option (Nat × Bool)
 | .pointer none=>some (0,true)
 | .pointer (some _)=>some (0,false)
 | .map none=>some (1,true)
 | .map (some _)=>some (1,false)
 | .nilFunc=>some (2,true)
 | .func _ _ _=>some (2,false)
 | _=>none
def Ap:TypeDesc→Option Nat
 | .pointer _=>some 0
 | .map _ _=>some 1
 | .func _ _ _=>some 2
 | _=>none
theorem B6 {v:Value} {b:Bool} (h:rm v=some (0,b)):(v = .pointer none∧b=true)∨∃ a,v = .pointer (some a)∧b=false:=by
 cases v with
 | pointer a=>cases a<;>cases h<;>first | exact .inl ⟨rfl,rfl⟩ | exact .inr ⟨_,rfl,rfl⟩
 | map a=>cases a<;>cases h
 | _=>cases h
theorem B7 {v:Value} {b:Bool} (h:rm v=some (1,b)):(v = .map none∧b=true)∨∃ a,v = .map (some a)∧b=false:=by
 cases v with
 | map a=>cases a<;>cases h<;>first | exact .inl ⟨rfl,rfl⟩ | exact .inr ⟨_,rfl,rfl⟩
 | pointer a=>cases a<;>cases h
 | _=>cases h
theorem B8 {v:Value} {b:Bool} (h:rm v=some (2,b)):(v = .nilFunc∧b=true)∨∃ x y z,v = .func x y z∧b=false:=by
 cases v with
 | map a=>cases a<;>cases h
 | pointer a=>cases a<;>cases h
 | nilFunc=>cases h; exact .inl ⟨rfl,rfl⟩
 | func x y z=>cases h; exact .inr ⟨_,_,_,rfl,rfl⟩
 | _=>cases h
theorem vC {t:TypeId} {D:TypeDesc} {n:Nat} {x y:Value} {b c:Bool} (ht:P.underlying t=some D) (hD:Ap D=some n) (hx:rm x=some (n,b)) (hy:rm y=some (n,c)) (hbc:b=true∨c=true) (w:World) :
  (Op.equal t x y).run P w = .ok (b&&c) w:=by
 unfold Op.equal Op.maxDepth Op.equalIn;cases D<;>simp only[Ap,EM,reduceCtorEq]at hD<;>subst hD
 ·rcases B6 hx with ⟨rfl,rfl⟩ | ⟨_,rfl,rfl⟩<;>rcases B6 hy with ⟨rfl,rfl⟩ | ⟨_,rfl,rfl⟩<;>simp_all [ah ht]
 ·rcases B7 hx with ⟨rfl,rfl⟩ | ⟨_,rfl,rfl⟩<;>rcases B7 hy with ⟨rfl,rfl⟩ | ⟨_,rfl,rfl⟩<;>simp_all [ah ht]
 ·rcases B8 hx with ⟨rfl,rfl⟩ | ⟨_,_,_,rfl,rfl⟩<;>rcases B8 hy with ⟨rfl,rfl⟩ | ⟨_,_,_,rfl,rfl⟩<;>simp_all [ah ht]
def w8:PC→Option Nat
 | .sc (.pointer none)=>some 0
 | .rd _=>some 0
 | .ad _ _=>some 0
 | .ea _ _ _ _=>some 0
 | .sc (.map none)=>some 1
 | .mp _=>some 1
 | .sc .nilFunc=>some 2
 | .fn _ _=>some 2
 | _=>none
theorem ro {K:Km} {ok:Nat→Prop} {w:World} {p:PC} {v:Value} {b:Bool} {n:Nat} (h:RelO K ok w p v) (hb:wZ p=some b) (hn:w8 p=some n):rm v=some (n,b):=by
 cases h with
 | cl h=>
  cases h with
  | @sc v h=>
   cases v with
   | pointer a=>cases a with
    | none=>cases hb; cases hn; rfl
    | some _=>exact h.elim
   | map a=>cases a with
    | none=>cases hb; cases hn; rfl
    | some _=>exact h.elim
   | nilFunc=>cases hb; cases hn; rfl
   | _=>cases hb
  | rd=>cases hb; cases hn; rfl
  | fn=>cases hb; cases hn; rfl
  | _=>cases hb
 | ad=>cases hb; cases hn; rfl
 | ea=>cases hb; cases hn; rfl
 | mp=>cases hb; cases hn; rfl
 | fn=>cases hb; cases hn; rfl
 | _=>cases hb
theorem tv {v u:Value} {n m:Nat} {b c:Bool} (hx:rm v=some (n,b)) {op:BinOp} {t:TypeId} {x y:Operand} (w:World):(eqGuard op t x y v u).run P w = .ok () w:=by
 unfold eqGuard;cases v<;>first | (cases hx; done) | (cases op<;>rfl)
theorem w9 {v u:Value} {n:Nat} {b c:Bool} (hx:rm v=some (n,b)) {t:TypeId}:binOp .eql t v u=(do pure (.bool (←Op.equal t v u)))∧binOp .neq t v u=(do pure (.bool (!(←Op.equal t v u)))):=by
 cases v<;>first | (cases hx; done) | exact ⟨rfl,rfl⟩
theorem Step.isNil {op:BinOp} {t t':TypeId} {D:TypeDesc} {x y:Operand} {p q:PC} {n:Nat} {b c:Bool} (ht:P.underlying t=some D) (hD:Ap D=some n) (hx:E.ev x=some (.c p)) (hy:E.ev y=some (.c q)) (hp:wZ p=some b) (hq:wZ q=some c) (kp:w8 p=some n) (kq:w8 q=some n) (hbc:b=true∨c=true)
  (ho:op = .eql∨op = .neq):Step P E O ⟨d,.binOp op t x y t',ty,pos,af,g⟩ (some (.c (.sc (.bool (match op with | .eql=>b&&c | _=>!(b&&c)))))) .no:=
 .val λ_ K ok w a hs=>by
  have h1:=ro (hs.ev hx).one hp kp;have h2:=ro (hs.ev hy).one hq kq;have he:=vC (P:=P) ht hD h1 h2 hbc w;refine ⟨_,?_,.ofSc trivial⟩;obtain ⟨b1,b2⟩:=w9 (u:=a.eval y) (c:=c) h1 (t:=t);have hg:=tv (P:=P) (u:=a.eval y) (m:=n) (c:=c) h1 (op:=op) (t:=t) (x:=x) (y:=y) w;rcases ho with rfl | rfl
  ·simp[execOp,hg,b1,he]
  ·simp[execOp,hg,b2,he]
theorem Step.indexAgg {t e sz bt n:Nat} {agg:Bool} {z:List Value} [ha:TArr P t n e] [TI P e sz bt agg z] {x y:Operand} {k:IntKind} {i:Int} {l:List PC} {u:A1} (hx:E.ev x=some (.ag l)) (hy:E.ev y=some (.c (.sc (.int k i)))) (h0:0≤i) (h1:i<n)
  (hl:i.toNat*sz+sz≤l.length) (hu:mkA agg ((l.drop (i.toNat*sz)).take sz)=some u):Step P E O ⟨d,.index t x y,ty,pos,af,g⟩ (some (.o u)) .no:=
 .val λ_ K ok w a hs=>by
  have hr:=hs.ev hx;have e2:=(hs.ev hy).sc.1;generalize hev:a.eval x=v at hr;have hagg:=gj (P:=P) (t:=e) w;have hsz:=aJ (P:=P) (t:=e) w
  cases hr with
  | o hr=>
   cases hr with
   | @ag _ cs hr=>
    have hrel:=(hr.drop (i.toNat*sz)).take sz
    cases agg with
    | true=>
     simp only[mkA,EM]at hu;subst hu;refine ⟨.agg (cs.extract (i.toNat*sz) (i.toNat*sz+sz)),by simp[execOp,hev,e2,Instr.index,asIntOf,ah ha.u,h0,h1,part,hagg,hsz],.o (.ag ?_)⟩;have:(cs.extract (i.toNat*sz) (i.toNat*sz+sz)).toList=(cs.toList.drop (i.toNat*sz)).take sz:=by simp
     rw[this]; exact hrel
    | false=>
     cases hd:(l.drop (i.toNat*sz)).take sz with
     | nil=>rw[hd]at hu; cases hu
     | cons c l'=>
      rw[hd]at hu hrel
      cases l' with
      | cons _ _=>cases hu
      | nil=>
       cases hu;obtain ⟨u',hu',hru⟩:=hrel.get 0 c rfl;rw[Fy]at hu';split at hu'
       ·rw[Fj,FM]at hu';have hu2:cs[i.toNat*sz]? = some u':=by simpa using hu'
        exact ⟨u',by simp[execOp,hev,e2,Instr.index,asIntOf,ah ha.u,h0,h1,part,hagg,hsz,hu2],.o (.c hru)⟩
       ·cases hu'
theorem Step.buildArr {t e n sz bt sz' bt':Nat} {agg':Bool} {z z':List Value} [TI P t sz bt true z] [ha:TArr P t n e] [TI P e sz' bt' agg' z'] {parts:Array (Nat × Operand)} {l:List A1} {r:List PC} (hz:d9 z=true) (he:E.evs (parts.toList.map (·.2))=some l)
  (hf:lU (λi=>some (i*sz',sz')) (cz z) ((parts.toList.map (·.1)).zip l)=some r):Step P E O ⟨d,.build t parts,ty,pos,af,g⟩ (some (.ag r)) .no:=
 .val λ_ K ok w a hs=>by
  obtain ⟨zv,h1,h2⟩:=bJ (P:=P) (t:=t) w;have hrel:=cX hs he;have hll:l.length=parts.toList.length:=by have:=hrel.len; simp at this; simpa using this.symm
  have hm:=aJ (P:=P) (t:=e) w;obtain ⟨rs,hr1,hr2⟩:=lj (K:=K) (ok:=ok) (w:=w) (λi=>some (i*sz',sz')) ((parts.toList.map (·.1)).zip l) ((parts.map λp=>(p.1,a.eval p.2)).toList) (cz z) r z.toArray (by simpa using gD hz)
   (by rw[List.map_fst_zip (by simp[hll])]; simp[Gg]) (by rw[List.map_snd_zip (by simp[hll])]; simpa [Gg] using hrel) hf
  refine ⟨.agg rs,?_,.o (.ag hr2)⟩;simp only[execOp,Instr.build,Sem.run_bind,h1,Result.andThen_ok,ah ha.u,hm,h2,hr1,Sem.run_pure]
end
end
section
class TZ (P:Program) (e:TypeId) (agg:outParam Bool):Prop where
 u:((P.info? e).bind (·.zero)).map one=some (!agg)
class TMap (P:Program) (t:TypeId) (k e:outParam TypeId):Prop where
 u:P.underlying t=some (.map k e)
def vD:TypeDesc→Bool
 | .int _=>true
 | .string=>true
 | _=>false
def ic (D:TypeDesc) (key:Value):List Value→Nat→Option (Option Nat)
 | [],_=>some none
 | k::ks,i=>match Instr.sameNow D key k with
  | some true=>some (some i)
  | some false=>ic D key ks (i+1)
  | none=>none
def fnd:Option Nat→Bool
 | some _=>true
 | none=>false
def Aq (vs:List (List PC)) (agg:Bool) (z:List Value):Option Nat→A1→Prop
 | some j,u=>∃ l,vs[j]? = some l∧mkA agg l=some u
 | none,u=>mkA agg (cz z)=some u
def uB (agg:Bool) (ks:List Value) (vs:List (List PC)) (key:Value) (l:List PC):Option Nat→Ob
 | some j=>.mp agg ks (vs.set j l)
 | none=>.mp agg (ks++[key]) (vs++[l])
def uC (ins:Bool) (t:TypeId) (x y q:Operand):Op:=match ins with | true=>.insert t x y q | false=>.mapUpdate t x y q
theorem lm {D:TypeDesc} {key:Value}:∀ {ks:List Value} {es:List MapEntry} {i:Nat} {r:Option Nat},es.map (·.key)=ks→ic D key ks i=some r →
  (∀ j,r=some j→i≤j∧∃ e,es[j-i]? = some e∧Instr.sameNow D key e.key=some true∧Instr.findNow D key es i=some (some (j,e.val)))∧(r=none→Instr.findNow D key es i=some none)
 | [],[],i,r,_,h=>by
  simp only[ic,EM]at h;subst h;exact ⟨λj hj=>(by cases hj),λ_=>rfl⟩
 | [],_::_,_,_,he,_=>by cases he
 | _::_,[],_,_,he,_=>by cases he
 | k::ks,e::es,i,r,he,h=>by
  simp only[Fg,GF]at he;obtain ⟨rfl,he⟩:=he;simp only[ic]at h;simp only[Instr.findNow]
  cases hs:Instr.sameNow D key e.key with
  | none=>rw[hs]at h; cases h
  | some b=>
   rw[hs]at h
   cases b with
   | true=>
    simp only[EM]at h;subst h;exact ⟨λj hj=>by cases hj; exact ⟨Ew _,e,by simp,hs,rfl⟩,λh=>by cases h⟩
   | false=>
    obtain ⟨h1,h2⟩:=lm he h;refine ⟨λj hj=>?_,h2⟩;obtain ⟨a1,e',a2,a3,a4⟩:=h1 j hj;refine ⟨by omega,e',?_,a3,a4⟩;rw[show j-i=(j-(i+1))+1 by omega,List.getElem?_cons_succ];exact a2
theorem iO (a b:ByteArray):(a==b)=true↔a=b:=by
 constructor
 ·intro h;have h2:(a.data==b.data)=true:=h;have h3:a.data=b.data:=by simpa using h2
  cases a; cases b; simp_all
 ·rintro rfl
  show (a.data==a.data)=true
  simp
theorem rp {ok:Nat→Prop} {w:World} {agg:Bool} {ks:List Value} {vs:List (List PC)} {es:Array MapEntry} (h:MapR ok w agg ks vs es):es.toList.map (·.key)=ks:=by
 apply GX;intro i;rw[EH]
 cases hk:ks[i]? with
 | none=>
  have:ks.length≤i:=List.getElem?_eq_none_iff.1 hk;rw[ET (by simp; have:=h.size; omega)]; rfl
 | some k=>
  obtain ⟨e,he,hke⟩:=h.key i k hk;have:es.toList[i]? = some e:=by simpa using he
  rw[this,←hke]; rfl
theorem ValR.relA {K:Km} {ok:Nat→Prop} {w:World} {agg:Bool} {l:List PC} {v:Value} {y:A1} (h:ValR ok w agg l v) (hy:mkA agg l=some y):RelA K ok w y v:=by
 cases h with
 | c h=>simp only[mkA,EM]at hy; subst hy; exact .c (.cl h)
 | ag h1 h2=>
  simp only[mkA,EM]at hy; subst hy;exact .ag ⟨by simpa using h1,λi x hx=>by obtain ⟨u,hu,hr⟩:=h2 i x hx; exact ⟨u,by simpa using hu,.cl hr⟩⟩
theorem RelA.valR {K:Km} {ok:Nat→Prop} {w:World} {y:A1} {v:Value} (h:RelA K ok w y v) (hc:closedL y.cells=true):∃ agg,mkA agg y.cells=some y∧ValR ok w agg y.cells v:=by
 cases h with
 | c h=>exact ⟨false,rfl,.c (h.closed (by simpa [A1.cells,closedL] using hc))⟩
 | ag h=>exact ⟨true,rfl,.ag (by have:=h.len; simpa [A1.cells] using this) λi x hx=>by obtain ⟨u,hu,hr⟩:=h.get i x hx; exact ⟨u,by simpa using hu,hr.closed (ba hc i x hx)⟩⟩
section
variable {P:Program} {E:Env} {O:Objs} {d:Option Tmp} {ty:TypeId} {pos:String} {af:Array Edge} {g:Option (Nat × Bool)}
theorem jZ {t:TypeId} {D:TypeDesc} (ht:P.underlying t=some D) (hD:vD D=true) (b:Bool) (v:Value) (w:World):(Instr.checkKey b 10000 t v).run P w = .ok () w:=by
 unfold Instr.checkKey;simp only[Sem.run_bind,ah ht,Result.andThen_ok];cases D<;>first | (cases hD; done) | rfl
theorem fO {t:TypeId} {D:TypeDesc} (ht:P.underlying t=some D) {key:Value} {es:List MapEntry} {r:Option (Nat × Value)} (h:Instr.findNow D key es 0=some r) (w:World):(Instr.findKey t key es).run P w = .ok r w:=by
 unfold Instr.findKey;simp only[Sem.run_bind,ah ht,Result.andThen_ok,h,Sem.run_pure]
theorem tw {N:Cx} {K:Km} {ok:Nat→Prop} {w:World} {a:Act} (hs:Sim N K ok w E O a) {x:Operand} {r:Nat} {agg:Bool} {ks:List Value} {vs:List (List PC)} (hx:E.ev x=some (.c (.mp r))) (ho:O.get r=some (.mp agg ks vs)) :
  ∃ b es cl,a.eval x = .map (some b)∧K r=some (b,0)∧w.heap[b]? = some (.map es cl)∧MapR ok w agg ks vs es:=by
 have hv:=(hs.ev hx).one;generalize a.eval x=v at hv;obtain ⟨b,es,cl,a1,a2,a3⟩:=hs.hp.obs r _ ho
 cases hv with
 | cl h=>cases h
 | mp hk=>rw[a1]at hk; cases hk; exact ⟨b,es,cl,rfl,a1,a2,a3⟩
theorem Step.makeMap {t k e:TypeId} [TMap P t k e] {q:Nat} {agg:Bool} (hm:NoM q O):Step P E O ⟨some q,.makeMap t none,ty,pos,af,g⟩ (some (.c (.mp q))) (.new q (.mp agg [] [])):=
 .newG hm λN K ok w a hs=>by
  refine ⟨.map (some w.heap.size),.map #[] 0,0,w,rfl,rfl,rfl,rfl,by simp[execOp,Instr.makeMap],?_,.o (.c (.mp (K.put_self q _)))⟩;exact ⟨w.heap.size,#[],0,K.put_self q _,bV w _,⟨rfl,rfl,λi k h=>by simp at h,λi l h=>by simp at h⟩⟩
theorem Step.makeMapN {t k e:TypeId} [hM:TMap P t k e] {q:Nat} {agg:Bool} {x:Operand} {ki:IntKind} {n:Int} (hx:E.ev x=some (.c (.sc (.int ki n)))) (hm:NoM q O):Step P E O ⟨some q,.makeMap t (some x),ty,pos,af,g⟩ (some (.c (.mp q))) (.new q (.mp agg [] [])):=
 .newG hm λN K ok w a hs=>by
  have e1:=(hs.ev hx).sc.1;refine ⟨.map (some w.heap.size),.map #[] 0,0,w,rfl,rfl,rfl,rfl,by simp[execOp,Instr.makeMap,e1,ah hM.u,asInt,asIntOf],?_,.o (.c (.mp (K.put_self q _)))⟩;exact ⟨w.heap.size,#[],0,K.put_self q _,bV w _,⟨rfl,rfl,λi k h=>by simp at h,λi l h=>by simp at h⟩⟩
theorem Step.lenMap {t k e:TypeId} [hM:TMap P t k e] {x:Operand} {r:Nat} {agg:Bool} {ks:List Value} {vs:List (List PC)} (hx:E.ev x=some (.c (.mp r))) (ho:O.get r=some (.mp agg ks vs)) (hb:ks.length≤BIG) :
  Step P E O ⟨d,.call ⟨.builtin .len,#[x],#[t]⟩,ty,pos,af,g⟩ (some (.c (.sc (.int .i64 ks.length)))) .no:=
 .val λN K ok w a hs=>by
  obtain ⟨b,es,cl,h1,h2,h3,h4⟩:=tw hs hx ho;have hg:(getObj b).run P w = .ok (.map es cl) w:=by simp[getObj,Sem.run,h3]
  simp only[dP]at hb;refine ⟨_,?_,.ofSc (show inR .i64 (ks.length:Int) from ⟨by omega,by omega⟩)⟩;simp[execOp,resolve,invoke,builtin,Builtin.len_,h1,ah hM.u,hg,goInt,h4.size]
theorem Step.lookup {t kt e:TypeId} {D:TypeDesc} {sz bt:Nat} {agg:Bool} {z:List Value} [hM:TMap P t kt e] [hTI:TI P e sz bt agg z] [hTZ:TZ P e agg] (ht:P.underlying kt=some D) (hD:vD D=true) {x y:Operand} {key:Value} {r:Nat} {ks:List Value} {vs:List (List PC)} {co:Bool} {res:Option Nat} {u:A1}
  (hx:E.ev x=some (.c (.mp r))) (ho:O.get r=some (.mp agg ks vs)) (hy:E.ev y=some (.c (.sc key))) (hf:ic D key ks 0=some res) (hz:d9 z=true)
  (hu:Aq vs agg z res u) :
  Step P E O ⟨d,.lookup t x y co,ty,pos,af,g⟩ (some (match co with | true=>.tup [u,.c (.sc (.bool (fnd res)))] | false=>.o u)) .no:=
 .val λN K ok w a hs=>by
  obtain ⟨b,es,cl,h1,h2,h3,h4⟩:=tw hs hx ho;have e2:=(hs.ev hy).sc.1;have hg:(getObj b).run P w = .ok (.map es cl) w:=by simp[getObj,Sem.run,h3]
  have hck:=λb=>jZ (P:=P) ht hD b key w
  obtain ⟨f1,f2⟩:=lm (rp h4) hf;have key2:∃ v,((Instr.lookup t (.map (some b)) key co).run P w = .ok (if co then .tuple #[v,.bool (fnd res)] else v) w)∧RelA K ok w u v:=by
   cases res with
   | some j=>
    obtain ⟨_,en,g1,_,g2⟩:=f1 j rfl;obtain ⟨l,hl,hul⟩:=hu;obtain ⟨en',q1,q2⟩:=h4.val j l hl;have:en'=en:=by
     have g1':es[j]? = some en:=by simpa using g1
     rw[q1]at g1'; exact Gc g1'
    subst this;refine ⟨en'.val,?_,q2.relA hul⟩;have hfk:=fO (P:=P) ht g2 w;cases co<;>simp[Instr.lookup,ah hM.u,hg,hck,hfk,fnd]
   | none=>
    obtain ⟨zv,hz1,hz2⟩:=bJ (P:=P) (t:=e) w;have hagg:=gj (P:=P) (t:=e) w;have hfk:=fO (P:=P) ht (f2 rfl) w;refine ⟨zv,?_,?_⟩
    ·cases co<;>simp[Instr.lookup,ah hM.u,hg,hck,hfk,hz1,fnd]
    ·have hone:one zv = !agg:=by
      obtain ⟨i,zv',g1,_,_,g4,g5⟩:=hTI.info;have g:=hTZ.u;rw[g1]at g;simp only[Gm,g4,FI,EM]at g;have:zv=zv':=by
       simp[zeroValue,typeInfo,g1,g4]at hz1;exact hz1.symm
      rw[this]; exact g
     have hsr:=gD (K:=K) (ok:=ok) (w:=w) hz
     cases hag:agg with
     | true=>
      rw[hag]at hone hu;simp only[Aq,mkA,EM]at hu;subst hu
      cases zv with
      | agg cs=>
       have:cs.toList=z:=by
        have h5:(Value.agg cs).cells=cs:=rfl;rw[h5]at hz2;rw[hz2]
       exact .ag (by rw[this]; exact hsr)
      | tuple vs=>
       have h5:(Value.tuple vs).cells = #[.tuple vs]:=rfl;rw[h5]at hz2;have hz3:z=[.tuple vs]:=by
        have:=congrArg Array.toList hz2;simpa using this.symm
       rw[hz3]at hz;cases hz
      | _=>cases hone
     | false=>
      rw[hag]at hone hu;rw[oU (by simpa using hone)]at hz2;have hz3:z=[zv]:=by
       have:=congrArg Array.toList hz2;simpa using this.symm
      rw[hz3]at hu;simp only[Aq,cz,mkA,EM]at hu;subst hu;rw[hz3]at hz;simp only[d9,Bool.and_true]at hz;exact .c (.cl (.sc (jU hz)))
  obtain ⟨v,k1,k2⟩:=key2;refine ⟨_,by simp only[execOp,h1,e2,Sem.run_bind,k1,Result.andThen_ok,Sem.run_pure]; rfl,?_⟩
  cases co with
  | true=>exact .tup (RelAs.cons k2 (RelAs.cons (.c (.cl (.sc (v:=.bool _) trivial))) RelAs.nil))
  | false=>exact .o k2
theorem Step.mapUpdate {ins:Bool} {t kt e:TypeId} {D:TypeDesc} [hM:TMap P t kt e] (ht:P.underlying kt=some D) (hD:vD D=true) {x y q:Operand} {key:Value} {r:Nat} {agg:Bool} {ks:List Value} {vs:List (List PC)} {res:Option Nat} {u:A1}
  (hx:E.ev x=some (.c (.mp r))) (ho:O.get r=some (.mp agg ks vs)) (hy:E.ev y=some (.c (.sc key))) (hq:E.ev q=some (.o u)) (hu:mkA agg u.cells=some u) (hc:closedL u.cells=true) (hf:ic D key ks 0=some res) :
  Step P E O ⟨d,uC ins t x y q,ty,pos,af,g⟩ none (.upd r (uB agg ks vs key u.cells res)):=by
 intro N K ok w a next Q hs hnext;obtain ⟨b,es,cl,h1,h2,h3,h4⟩:=tw hs hx ho;have e2:=(hs.ev hy).sc.1;have hg:(getObj b).run P w = .ok (.map es cl) w:=by simp[getObj,Sem.run,h3]
 have hck:=jZ (P:=P) ht hD false key w;obtain ⟨f1,f2⟩:=lm (rp h4) hf;have hqv:=hs.ev hq;generalize hev:a.eval q=v at hqv;have hval:ValR ok w agg u.cells v:=by
  cases hqv with
  | o hr=>
   obtain ⟨agg',g1,g2⟩:=hr.valR hc;have:agg'=agg:=by
    cases agg'<;>cases agg<;>first | rfl | skip
    ·cases u with
     | c x=>simp[A1.cells,mkA]at hu
     | ag l=>cases l with
      | nil=>simp[A1.cells,mkA]at g1
      | cons x l=>cases l<;>simp[A1.cells,mkA]at g1
    ·cases u with
     | c x=>simp[A1.cells,mkA]at g1
     | ag l=>cases l with
      | nil=>simp[A1.cells,mkA]at hu
      | cons x l=>cases l<;>simp[A1.cells,mkA]at hu
   rw[←this]; exact g2
 have hset:∀ (o':Obj),(setObj b o').run P w = .ok () (aR w b o'):=λo'=>by simp[setObj,Sem.run,h3,aR]
 have hkeep:∀ (o':Obj) (c:Nat),ok c→c<w.heap.size→(aR w b o').heap[c]? = w.heap[c]?:=λo' c hc' _=>by
  rw[aV,if_neg]
  rintro ⟨rfl,_⟩
  exact hs.hp.apart r _ _ _ ho h2 hc'
 have fin:∀ (es':Array MapEntry) (cl':Nat) (ks':List Value) (vs':List (List PC)),(Instr.mapUpdate t (.map (some b)) key v).run P w = .ok () (aR w b (.map es' cl'))→MapR ok w agg ks' vs' es' →
   uB agg ks vs key u.cells res = .mp agg ks' vs'→Oper.wp P ⟨d,uC ins t x y q,ty,pos,af,g⟩ a w next Q:=by
  intro es' cl' ks' vs' hrun hm he;have hexec:(execOp a.eval ⟨d,uC ins t x y q,ty,pos,af,g⟩).run P w = .ok .skip (aR w b (.map es' cl')):=by
   cases ins<;>simp[uC,execOp,h1,e2,hev,hrun]
  unfold Oper.wp;rw[hexec];have hu2:=gB (L1:=0) (ob':=.mp agg ks' vs') (o':=.map es' cl') hs.hp ho h2 h3 trivial (.inl rfl) (by
   rw[Km.put_same h2];exact ⟨b,es',cl',h2,by rw[aV,if_pos ⟨rfl,bD h3⟩],hm.mono (λ_ h=>h) (hkeep _) (by rw[aZ]; exact Ew _)⟩)
  rw[Km.put_same h2]at hu2;rw[←he]at hu2;exact hnext undef K ok _ ⟨(λ_ h=>by cases h),hu2.1,hu2.2,λ_ _=>rfl⟩
 cases res with
 | some j=>
  obtain ⟨_,en,g1,gs,g2⟩:=f1 j rfl;have g1':es[j]? = some en:=by simpa using g1
  have hjl:j<es.size:=(EY.1 g1').1;have hfk:=fO (P:=P) ht g2 w;have hsame:Instr.sameNow D key en.key=some true:=gs;have hkey:en.key=key:=by
   unfold Instr.sameNow at hsame;split at hsame
   ·split at hsame
    ·rename_i hk;subst hk;simp only[EM,beq_iff_eq]at hsame;simp[*]
    ·cases hsame
   ·simp only[EM]at hsame;have:=(iO _ _).1 hsame;subst this
    assumption
   ·cases hD
   ·cases hsame
  have hst:(Instr.keyThatStays key key).run P w = .ok key w:=by
   have:Instr.sameBits 10000 key key=true:=by
    unfold Instr.sameNow at hsame;split at hsame<;>first | (cases hsame; done) | (cases hD; done) | simp[Instr.sameBits,iO]
   simp[Instr.keyThatStays,this]
  refine fin (es.modify j λe=>{ e with key:=key,val:=v }) cl ks (vs.set j u.cells) ?_ ?_ rfl
  ·simp[Instr.mapUpdate,ah hM.u,hg,hck,hfk,g1',hkey,hst,hset]
  ·refine ⟨by simpa using h4.size,by simpa using h4.vals,λi k hk=>?_,λi l hl=>?_⟩
   ·obtain ⟨e',q1,q2⟩:=h4.key i k hk;by_cases hij:j=i
    ·subst hij;rw[g1']at q1;cases q1;exact ⟨{ key:=key,val:=v,born:=en.born },by simp[GD,g1'],by rw[←q2,hkey]⟩
    ·exact ⟨e',by simp[GD,hij,q1],q2⟩
   ·rw[FJ]at hl;by_cases hij:j=i
    ·subst hij;rw[if_pos rfl]at hl;split at hl
     ·cases hl;exact ⟨{ key:=key,val:=v,born:=en.born },by simp[GD,g1'],hval⟩
     ·cases hl
    ·rw[if_neg hij]at hl;obtain ⟨e',q1,q2⟩:=h4.val i l hl;exact ⟨e',by simp[GD,hij,q1],q2⟩
 | none=>
  have hfk:=fO (P:=P) ht (f2 rfl) w;refine fin (es.push { key:=key,val:=v,born:=cl }) (cl+1) (ks++[key]) (vs++[u.cells]) ?_ ?_ rfl
  ·simp[Instr.mapUpdate,ah hM.u,hg,hck,hfk,hset]
  ·refine ⟨by simp[h4.size],by simp[h4.vals],λi k hk=>?_,λi l hl=>?_⟩
   ·rcases Fm i ks.length with h | h
    ·rw[EF h]at hk;obtain ⟨e',q1,q2⟩:=h4.key i k hk;exact ⟨e',by rw[Ha,if_neg (by rw[h4.size]; omega)]; exact q1,q2⟩
    ·rw[ED h]at hk;have hi:i-ks.length=0:=by
      have:=(Ez.1 hk).1;simp at this; omega
     rw[hi]at hk;cases hk;have:i=es.size:=by rw[h4.size]; omega
     exact ⟨_,by rw[this,Ha,if_pos rfl],rfl⟩
   ·rcases Fm i vs.length with h | h
    ·rw[EF h]at hl;obtain ⟨e',q1,q2⟩:=h4.val i l hl;exact ⟨e',by rw[Ha,if_neg (by rw[h4.size,←h4.vals]; omega)]; exact q1,q2⟩
    ·rw[ED h]at hl;have hi:i-vs.length=0:=by
      have:=(Ez.1 hl).1;simp at this; omega
     rw[hi]at hl;cases hl;have:i=es.size:=by rw[h4.size,←h4.vals]; omega
     exact ⟨_,by rw[this,Ha,if_pos rfl],hval⟩
end
end
section
def cw:List A1→AV
 | [x]=>.o x
 | l=>.tup l
def gm (P:Program) (f:FuncId):Bool:=(P.funcs[f]?).any λfn=>fn.body.isSome && !(fn.name == "runtime.NumGoroutine")
theorem exec_call {P:Program} {f:FuncId} (hc:gm P f=true) (vs:Array Value) (w:World):(callFunc f vs).run P w = .ok (.enter f vs) w:=by
 unfold gm at hc
 cases hf:P.funcs[f]? with
 | none=>rw[hf]at hc; cases hc
 | some fn=>
  rw[hf]at hc;simp only[Option.any_some,Ex,FO]at hc;have hb:fn.body≠none:=by intro h; rw[h]at hc; cases hc.1
  have hne:fn.name ≠ "runtime.NumGoroutine" := by simpa using hc.2
  simp[callFunc,hf,hne,hb]
def CallR (P:Program) (f:FuncId) (vs:Array Value) (w:World) (Q:Ending→World→Prop):Prop:=
 (gm P f=true∧Calls P f vs w Q)∨∃ v w',(callFunc f vs).run P w = .ok (.value v) w'∧Q (.returned v) w'
theorem CallR.mono {P:Program} {f:FuncId} {vs:Array Value} {w:World} {Q Q':Ending→World→Prop} (h:CallR P f vs w Q) (hq:∀ e w',Q e w'→Q' e w'):CallR P f vs w Q':=by
 rcases h with ⟨h1,h2⟩ | ⟨v,w',h1,h2⟩
 ·exact .inl ⟨h1,h2.mono hq⟩
 ·exact .inr ⟨v,w',h1,hq _ _ h2⟩
theorem CallR.oper {P:Program} {f:FuncId} {vs:Array Value} {w:World} {o:Oper} {a:Act} {next:Act→World→Prop} {Q:Exit→Act→World→Prop} (he:(execOp a.eval o).run P w=(callFunc f vs).run P w)
  (h:CallR P f vs w λe w'=>∃ v,e = .returned v∧next (a.put o.dst v) w'):o.wp P a w next Q:=by
 unfold Oper.wp;rw[he];rcases h with ⟨h1,h2⟩ | ⟨v,w',h1,v',h2,h3⟩
 ·rw[exec_call h1];refine h2.mono λe w' h=>?_
  obtain ⟨v,rfl,h⟩:=h;exact h
 ·cases h2;rw[h1];exact h3
structure CtO (P:Program) (f:FuncId) (O:Objs) (args:List A1) (O':Objs) (res:List A1):Prop where
 run:∀ K ok w vs,Hp K ok w O→RelAs K ok w args vs→CallR P f vs.toArray w λe w'=>∃ v K' ok',e = .returned v∧RelV K' ok' w' (cw res) v∧Hp K' ok' w' O'∧Fr K ok w O K' ok' w' O'
abbrev Ct (P:Program) (f:FuncId) (args res:List A1):Prop:=CtO P f [] args [] res
def A1.closed:A1→Bool
 | .c x=>x.closed
 | .ag l=>closedL l
def az:List A1→Bool
 | []=>true
 | x::l=>x.closed&&az l
theorem RelO.reK {K K':Km} {ok:Nat→Prop} {w:World} {x:PC} {v:Value} (h:RelO K ok w x v) (hc:x.closed=true):RelO K' ok w x v:=.cl (h.closed hc)
theorem RelA.reK {K K':Km} {ok:Nat→Prop} {w:World} {x:A1} {v:Value} (h:RelA K ok w x v) (hc:x.closed=true):RelA K' ok w x v:=by
 cases h with
 | c h=>exact .c (h.reK hc)
 | ag h=>exact .ag ⟨h.len,λi x hx=>by
   obtain ⟨u,hu,hr⟩:=h.get i x hx;exact ⟨u,hu,hr.reK (ba hc i x hx)⟩⟩
theorem j0:∀ {l:List A1},az l=true→∀ (i:Nat) (x:A1),l[i]? = some x→x.closed=true
 | [],_,i,x,hx=>by simp at hx
 | y::l,h,i,x,hx=>by
  simp only[az,Ex]at h
  cases i with
  | zero=>simp at hx; exact hx▸h.1
  | succ i=>simp at hx; exact j0 h.2 i x hx
theorem RelAs.reK {K K':Km} {ok:Nat→Prop} {w:World} {l:List A1} {vs:List Value} (h:RelAs K ok w l vs) (hc:az l=true):RelAs K' ok w l vs:=
 ⟨h.len,λi x hx=>by
  obtain ⟨u,hu,hr⟩:=h.get i x hx;exact ⟨u,hu,hr.reK (j0 hc i x hx)⟩⟩
theorem RelV.reK {K K':Km} {ok:Nat→Prop} {w:World} {l:List A1} {v:Value} (h:RelV K ok w (cw l) v) (hc:az l=true):RelV K' ok w (cw l) v:=by
 cases l with
 | nil=>cases h with | tup h=>exact .tup (RelAs.reK h rfl)
 | cons x l=>cases l with
  | nil=>cases h with | o h=>exact .o (RelA.reK h (by simpa [az] using hc))
  | cons y l=>cases h with | tup h=>exact .tup (RelAs.reK h hc)
def Km.bare (K:Km):Km:=⟨K.at_,λ_=>False⟩
theorem Hp.nil {K:Km} {ok:Nat→Prop} {w:World} (h:∀ b,ok b→b<w.heap.size):Hp K.bare ok w []:=
 ⟨λk o h=>by simp[Objs.get]at h,λk k' o o' b L L' h=>by simp[Objs.get]at h,λk o b L h=>by simp[Objs.get]at h,h,λ_ h=>h.elim,λ_ h=>h.elim,λk o b L h=>by simp[Objs.get]at h⟩
theorem RelO.bare {K:Km} {ok:Nat→Prop} {w:World} {x:PC} {v:Value} (h:RelO K ok w x v):RelO K.bare ok w x v:=
 h.mono (λ_ h=>h) (λ_ _ _=>rfl) (Ew _) λr _=>⟨rfl,λ_ _ _ cs e fr hc=>⟨cs,e,fr,hc,rfl⟩⟩
theorem RelAs.bare {K:Km} {ok:Nat→Prop} {w:World} {l:List A1} {vs:List Value} (h:RelAs K ok w l vs):RelAs K.bare ok w l vs:=
 h.mono (λ_ h=>h) (λ_ _ _=>rfl) (Ew _) λr _=>⟨rfl,λ_ _ _ cs e fr hc=>⟨cs,e,fr,hc,rfl⟩⟩
theorem Hp.over {K:Km} {ok ok':Nat→Prop} {w w':World} {O:Objs} (hp:Hp K ok w O) (hs:w.heap.size≤w'.heap.size) (hb:∀ b,b<w.heap.size→w'.heap[b]? = w.heap[b]?) (hu:∀ b,ok b→ok' b) (hn:∀ b,ok' b→ok b∨w.heap.size≤b) (hl:∀ b,ok' b→b<w'.heap.size)
  (ho:w'.os=w.os∧w'.tape=w.tape∧w'.output=w.output):Hp K ok' w' O:=by
 refine ⟨λk o h=>(hp.obs k o h).mono hu (λb hb' hlt=>hb b hlt) hs rfl (λb L hK=>hb b (db hp h hK)) (λJ _=>⟨rfl,λb hb'=>hb b (hp.hlt b hb'),ho.1,ho.2.1,ho.2.2,CSh.same hb⟩) (λr _=>⟨rfl,λb _ _ cs e fr hc=>⟨cs,e,fr,(hb b (bD hc)).trans hc,rfl⟩⟩),hp.inj,λk o b L h hK hok=>?_,hl,
  λb h=>EG (hp.hlt b h) hs,λb h hok=>?_,hp.how⟩
 ·rcases hn b hok with h1 | h1
  ·exact hp.apart k o b L h hK h1
  ·have:=db hp h hK; omega
 ·rcases hn b hok with h1 | h1
  ·exact hp.hok b h h1
  ·have:=hp.hlt b h; omega
section
variable {P:Program} {E:Env} {O:Objs} {d:Option Tmp} {ty:TypeId} {pos:String} {af:Array Edge} {g:Option (Nat × Bool)}
theorem SP.ofCall {K K':Km} {ok ok':Nat→Prop} {w w':World} {v:Value} {res:List A1} (hp:Hp K ok w O) (hr:RelV K' ok' w' (cw res) v) (hcl:az res=true) (hp':Hp K' ok' w' []) (hf:Fr K.bare ok w [] K' ok' w' []):SP K ok w O (some (cw res)) .no v K ok' w':=by
 have hkeep:∀ b,b<w.heap.size→w'.heap[b]? = w.heap[b]?:=λb hb=>hf.keep b hb (λk o L h=>by simp[Objs.get]at h) λh=>h
 have hnew:∀ b,ok' b→ok b∨w.heap.size≤b:=λb hb=>by
  rcases hf.okNew b hb with h | h | ⟨k,o,L,h,_⟩
  ·exact .inl h
  ·exact .inr h
  ·simp[Objs.get]at h
 refine ⟨λx hx=>by cases hx; exact hr.reK hcl,hp.over hf.size hkeep hf.okUp hnew hp'.lt ⟨hf.os,hf.tape,hf.output⟩,⟨hf.size,λb hb _ _=>hkeep b hb,hf.okUp,λb hb=>(hnew b hb).imp_right .inl,λk o b L h1 h2=>.inr ⟨k,o,L,h1,h2⟩,hf.os,hf.tape,hf.output,hf.kind,λ_ _=>rfl,λ_ h=>.inl h⟩,λ_ _=>rfl⟩
theorem Step.call {f:FuncId} {args:Array Operand} {ts:Array TypeId} {l res:List A1} (hx:E.evs args.toList=some l) (hct:Ct P f l res) (hcl:az res=true) :
  Step P E O ⟨d,.call ⟨.value (.func f),args,ts⟩,ty,pos,af,g⟩ (some (cw res)) .no:=by
 intro N K ok w a next Q hs hn;have hrel:=cX hs hx;have hrun:=hct.run K.bare ok w _ (Hp.nil hs.hp.lt) hrel.bare;have he:(execOp a.eval ⟨d,.call ⟨.value (.func f),args,ts⟩,ty,pos,af,g⟩).run P w=(callFunc f (args.toList.map a.eval).toArray).run P w:=by
  have:(args.toList.map a.eval).toArray=args.map a.eval:=by apply GA ; simp
  rw[this];simp[execOp,resolve,Act.eval,Deferred.ofValue,invoke]
 refine CallR.oper he (hrun.mono λe w' h=>?_);obtain ⟨v,K',ok',rfl,hr,hp',hf⟩:=h;exact ⟨v,rfl,hn v K ok' w' (SP.ofCall hs.hp hr hcl hp' hf)⟩
theorem Step.callV {f:FuncId} {t:Tmp} {caps:List PC} {args:Array Operand} {ts:Array TypeId} {l res:List A1} (hf:E.get t=some (.c (.fn f caps))) (hx:E.evs args.toList=some l) (hct:Ct P f (l++caps.map .c) res) (hcl:az res=true) :
  Step P E O ⟨d,.call ⟨.value (.tmp t),args,ts⟩,ty,pos,af,g⟩ (some (cw res)) .no:=by
 intro N K ok w a next Q hs hn;have hrel:=cX hs hx;have hfv:=(hs.ev (x:=.tmp t) hf).one;generalize hev:a.eval (.tmp t)=v at hfv;have key:∃ vcs:List Value,v = .func (.func f) #[] vcs.toArray∧RelAs K ok w (caps.map .c) vcs:=by
  cases hfv with
  | cl h=>
   cases h with
   | fn gg hg=>
    refine ⟨_,rfl,⟨by simp,λi x hx=>?_⟩⟩;simp only[EH,EC]at hx;obtain ⟨y,hy,rfl⟩:=hx;have hlt:i<caps.length:=(Ez.1 hy).1;exact ⟨gg i,by simp[hlt],.c (.cl (hg i y hy))⟩
  | fn gg hg=>
   refine ⟨_,rfl,⟨by simp,λi x hx=>?_⟩⟩;simp only[EH,EC]at hx;obtain ⟨y,hy,rfl⟩:=hx;have hlt:i<caps.length:=(Ez.1 hy).1;exact ⟨gg i,by simp[hlt],.c (hg i y hy)⟩
 obtain ⟨vcs,rfl,hcr⟩:=key;have hrel2:RelAs K ok w (l++caps.map .c) (args.toList.map a.eval++vcs):=⟨by rw[Ey,Ey,hrel.len,hcr.len],λi x hx=>by
  rcases Fm i l.length with hi | hi
  ·rw[EF hi]at hx;rw[EF (by rw[hrel.len]; exact hi)];exact hrel.get i x hx
  ·rw[ED hi]at hx;rw[ED (by rw[hrel.len]; exact hi),hrel.len];exact hcr.get _ x hx⟩
 have hrun:=hct.run K.bare ok w _ (Hp.nil hs.hp.lt) hrel2.bare;have he:(execOp a.eval ⟨d,.call ⟨.value (.tmp t),args,ts⟩,ty,pos,af,g⟩).run P w=(callFunc f (args.toList.map a.eval++vcs).toArray).run P w:=by
  have:(args.toList.map a.eval++vcs).toArray=args.map a.eval++vcs.toArray:=by apply GA ; simp
  rw[this];simp[execOp,resolve,hev,Deferred.ofValue,invoke]
 refine CallR.oper he (hrun.mono λe w' h=>?_);obtain ⟨v,K',ok',rfl,hr,hp',hf⟩:=h;exact ⟨v,rfl,hn v K ok' w' (SP.ofCall hs.hp hr hcl hp' hf)⟩
abbrev ng (O:Objs):A1→A1:=A1.map (eM O)
def e9 (K:Km) (ok:Nat→Prop) (O:Objs):Nat→Prop:=λb=>ok b∨∃ k o L,O.get k=some o∧K k=some (b,L)
theorem iP {K:Km} {ok:Nat→Prop} {w:World} (hp:Hp K ok w O) {x:PC} {v:Value} (h:RelO K ok w x v):RelO K (e9 K ok O) w (eM O x) v:=by
 have hmono:∀ {y:PC} {u:Value},RelO K ok w y u→RelO K (e9 K ok O) w y u:=λh=>h.mono (λ_ h=>.inl h) (λ_ _ _=>rfl) (Ew _) λr _=>Shp.refl _ _ _
 cases h with
 | cl h=>cases h<;>exact hmono (.cl (by first | exact .sc (by assumption) | exact .sl0 | exact .sl _ (by assumption) (by assumption) (by assumption) (by assumption) (by assumption) (by assumption) (by assumption) | exact .rd _ (by assumption) (by assumption) (by assumption) (by assumption) | exact .fn _ (by assumption) | exact .cb (by assumption)))
 | @ow r sz n b c cs e fr hk hb hc hn=>
  have h0:RelO K ok w (.ow r sz n) (.slice (some ⟨b,0,none⟩) n c):=.ow hk hb hc hn;simp only[eM];split
  ·rename_i sz' els ho
   cases hbb:Nat.beq sz sz' with
   | false=>exact hmono h0
   | true=>
    have e':=Eu hbb;subst e';have hs:=iM hp h0 (show slC O sz (.ow r sz n)=some els by simp[slC,ho]);obtain ⟨A,c',hv,hA⟩:=hs.v;rcases hp.obs r _ ho with ⟨a1,_⟩ | ⟨b',cs',e',fr',a1,a2,a3,a4,a5,a6,a7⟩
    ·rw[hk]at a1; cases a1
    ·rw[hk]at a1;cases a1;by_cases he:els=[]
     ·subst he; exact .cl .sl0
     ·refine .cl (.sl (λj i=>cs'[j*sz+i]?.getD undef) hn a4 (.inr ⟨r,_,_,ho,hk⟩) (bD a2) a6 (λj i el x hj hi=>?_) λj i el x hj hi=>?_)
      ·obtain ⟨u,hu,hr⟩:=a7 j i el x hj hi;rw[Fn,dF a2 hu,hu]; rfl
      ·obtain ⟨u,hu,hr⟩:=a7 j i el x hj hi;rw[hu]; exact hr.mono (λ_ h=>.inl h) (λ_ _ _=>rfl) (Ew _)
  ·exact hmono h0
 | @owN r sz A hk=>
  have h0:RelO K ok w (.ow r sz 0) (.slice A 0 0):=.owN hk;simp only[eM];split
  ·rename_i sz' els ho
   cases hbb:Nat.beq sz sz' with
   | false=>exact hmono h0
   | true=>
    rcases hp.obs r _ ho with ⟨_,rfl⟩ | ⟨b',cs',e',fr',a1,_⟩
    ·exact .cl .sl0
    ·rw[hk]at a1; cases a1
  ·exact hmono h0
 | @os r sz lo n L b c cs e fr hk hb hc hn hl=>
  have h0:RelO K ok w (.os r sz lo n) (.slice (some ⟨b,lo*sz,none⟩) n c):=.os hk hb hc hn hl;simp only[eM];split
  ·rename_i sz' els ho
   cases hbb:Nat.beq sz sz' with
   | false=>exact hmono h0
   | true=>
    have e':=Eu hbb;subst e';rcases hp.obs r _ ho with ⟨a1,_⟩ | ⟨b',cs',e',fr',a1,a2,a3,a4,a5,a6,a7⟩
    ·rw[hk]at a1; cases a1
    ·rw[hk]at a1;cases a1;have hlen:((els.drop lo).take n).length=n:=by simp; omega
     have hget:∀ (j:Nat) (el:List PC),((els.drop lo).take n)[j]? = some el→els[lo+j]? = some el:=λj el hj=>by
      rw[Fy]at hj;split at hj
      ·rwa [Fj]at hj
      ·cases hj
     have:=Rel.sl (ok:=e9 K ok O) (w:=w) (sz:=sz) (els:=(els.drop lo).take n) (b:=b) (o:=lo*sz) (c:=c) (λj i=>cs'[(lo+j)*sz+i]?.getD undef) (by rw[hlen]; exact hn) (by rw[hlen]; omega) (.inr ⟨r,_,_,ho,hk⟩) (bD a2) (λj el hj=>a6 _ el (hget j el hj))
      (λj i el x hj hi=>by
       obtain ⟨u,hu,hr⟩:=a7 (lo+j) i el x (hget j el hj) hi;rw[←Fx,←EO,dF a2 hu,hu]; rfl)
      (λj i el x hj hi=>by
       obtain ⟨u,hu,hr⟩:=a7 (lo+j) i el x (hget j el hj) hi;rw[hu]; exact hr.mono (λ_ h=>.inl h) (λ_ _ _=>rfl) (Ew _))
     rw[hlen]at this;exact .cl this
  ·exact hmono h0
 | @ad k off b L hk=>
  have h0:RelO K ok w (.ad k off) (.pointer (some ⟨b,off,none⟩)):=.ad hk;simp only[eM];split
  ·rename_i cells ho
   cases hcl:closedL cells with
   | false=>exact hmono h0
   | true=>
    obtain ⟨b',cs,e,fr,a1,a2,a3,a4⟩:=hp.obs k _ ho;rw[hk]at a1;cases a1;refine .cl (.rd (λi=>cs[off+i]?.getD undef) (.inr ⟨k,_,_,ho,hk⟩) (bD a2) (λi x hi=>?_) λi x hi=>?_)
    ·rw[Fj]at hi;obtain ⟨u,hu,hr⟩:=a4.get _ x hi;have hu':cs[off+i]? = some u:=by simpa using hu
     rw[dF a2 hu',hu']; rfl
    ·rw[Fj]at hi;obtain ⟨u,hu,hr⟩:=a4.get _ x hi;have hu':cs[off+i]? = some u:=by simpa using hu
     rw[hu']; exact (hr.closed (ba hcl _ x hi)).mono (λ_ h=>.inl h) (λ_ _ _=>rfl) (Ew _)
  ·exact hmono h0
 | ea hk=>exact hmono (.ea hk)
 | fn gg hg=>exact hmono (.fn gg hg)
 | mp hk=>exact hmono (.mp hk)
 | dead h=>exact .dead h
theorem nh {K:Km} {ok:Nat→Prop} {w:World} (hp:Hp K ok w O) {l:List A1} {vs:List Value} (h:RelAs K ok w l vs):RelAs K (e9 K ok O) w (l.map (ng O)) vs:=
 ⟨by simp[h.len],λi x hx=>by
  simp only[EH,EC]at hx;obtain ⟨y,hy,rfl⟩:=hx;obtain ⟨u,hu,hr⟩:=h.get i y hy;refine ⟨u,hu,?_⟩
  cases hr with
  | c hr=>exact .c (iP hp hr)
  | ag hr=>exact .ag ⟨by simp[hr.len],λj z hz=>by
    simp only[EH,EC]at hz;obtain ⟨z',hz',rfl⟩:=hz;obtain ⟨u',hu',hr'⟩:=hr.get j z' hz';exact ⟨u',hu',iP hp hr'⟩⟩⟩
def xa:PC→Bool
 | .sc _=>true
 | _=>false
def rq:A1→Bool
 | .c x=>xa x
 | .ag l=>l.all xa
theorem RelO.ofSc {K K':Km} {ok ok':Nat→Prop} {w w':World} {x:PC} {v:Value} (h:RelO K ok w x v) (hx:xa x=true):RelO K' ok' w' x v:=by
 cases h with
 | cl h=>cases h with
  | sc h=>exact .cl (.sc h)
  | _=>cases hx
 | _=>cases hx
theorem RelA.ofSc {K K':Km} {ok ok':Nat→Prop} {w w':World} {x:A1} {v:Value} (h:RelA K ok w x v) (hx:rq x=true):RelA K' ok' w' x v:=by
 cases h with
 | ag h=>exact .ag ⟨h.len,λi y hy=>by
   obtain ⟨u,hu,hr⟩:=h.get i y hy;exact ⟨u,hu,hr.ofSc (Fq.1 hx y (E6 hy))⟩⟩
 | c h=>exact .c (h.ofSc hx)
theorem RelAs.ofSc {K K':Km} {ok ok':Nat→Prop} {w w':World} {l:List A1} {vs:List Value} (h:RelAs K ok w l vs) (hx:l.all rq=true):RelAs K' ok' w' l vs:=
 ⟨h.len,λi x hi=>by
  obtain ⟨u,hu,hr⟩:=h.get i x hi;exact ⟨u,hu,hr.ofSc (Fq.1 hx x (E6 hi))⟩⟩
theorem RelV.ofScs {K K':Km} {ok ok':Nat→Prop} {w w':World} {l:List A1} {v:Value} (h:RelV K ok w (cw l) v) (hc:l.all rq=true):RelV K' ok' w' (cw l) v:=by
 cases l with
 | nil=>cases h with | tup h=>exact .tup (RelAs.ofSc h rfl)
 | cons x l=>cases l with
  | nil=>cases h with | o h=>exact .o (RelA.ofSc h (by simpa using hc))
  | cons y l=>cases h with | tup h=>exact .tup (RelAs.ofSc h hc)
theorem Step.callS_core {N:Cx} {K:Km} {ok:Nat→Prop} {w:World} {a:Act} {next:Act→World→Prop} {Q:Exit→Act→World→Prop} {o:Oper} (hs:Sim N K ok w E O a) {f:FuncId} {vs:List Value} {l' res:List A1} (hrel:RelAs K (e9 K ok O) w l' vs) (hct:Ct P f l' res) (hcl:res.all rq=true)
  (he:(execOp a.eval o).run P w=(callFunc f vs.toArray).run P w) (hn:∀ v K' ok' w',SP K ok w O (some (cw res)) .no v K' ok' w'→next (a.put o.dst v) w'):o.wp P a w next Q:=by
 have hlt:∀ b,e9 K ok O b→b<w.heap.size:=λb hb=>by
  rcases hb with hb | ⟨k,o,L,h1,h2⟩
  ·exact hs.hp.lt b hb
  ·exact db hs.hp h1 h2
 have hrun:=hct.run K.bare (e9 K ok O) w _ (Hp.nil hlt) hrel.bare;refine CallR.oper he (hrun.mono λe w' h=>?_);obtain ⟨v,K',ok',rfl,hr,hp',hf⟩:=h;have hkeep:∀ b,b<w.heap.size→w'.heap[b]? = w.heap[b]?:=λb hb=>hf.keep b hb (λk o L h=>by simp[Objs.get]at h) λh=>h
 refine ⟨v,rfl,?_⟩;exact hn v K ok w' ⟨λx hx=>by cases hx; exact hr.ofScs hcl,hs.hp.over hf.size hkeep (λ_ h=>h) (λ_ h=>.inl h) (λb hb=>EG (hs.hp.lt b hb) hf.size) ⟨hf.os,hf.tape,hf.output⟩,
  ⟨hf.size,λb hb _ _=>hkeep b hb,λ_ h=>h,λ_ h=>.inl h,λk o b L h1 h2=>.inr ⟨k,o,L,h1,h2⟩,hf.os,hf.tape,hf.output,hf.kind,λ_ _=>rfl,λ_ h=>.inl h⟩,λ_ _=>rfl⟩
theorem Step.callS {f:FuncId} {args:Array Operand} {ts:Array TypeId} {l l' res:List A1} (hx:E.evs args.toList=some l) (hv:l.map (ng O)=l') (hct:Ct P f l' res) (hcl:res.all rq=true) :
  Step P E O ⟨d,.call ⟨.value (.func f),args,ts⟩,ty,pos,af,g⟩ (some (cw res)) .no:=by
 intro N K ok w a next Q hs hn;subst hv;have he:(execOp a.eval ⟨d,.call ⟨.value (.func f),args,ts⟩,ty,pos,af,g⟩).run P w=(callFunc f (args.toList.map a.eval).toArray).run P w:=by
  have:(args.toList.map a.eval).toArray=args.map a.eval:=by apply GA ; simp
  rw[this];simp[execOp,resolve,Act.eval,Deferred.ofValue,invoke]
 exact Step.callS_core hs (nh hs.hp (cX hs hx)) hct hcl he hn
end
def dQ (E:Env) (ops:List Oper):Option (Nat × Bool)→Option Bool
 | none=>some true
 | some (j,want)=>match (ops[j]?).bind (·.dst) with
  | some d=>match E.get d with
   | some (.c (.sc (.bool b)))=>some (b==want)
   | some (.tup [])=>some false
   | _=>none
  | none=>none
def fa (N:Nx):Option Tmp→Bool
 | none=>true
 | some d=>Nat.blt d N.n && !(bF d N.fz)
theorem ni {N:Nx} {d:Option Tmp} (h:fa N d=true):∀ t,d=some t→t<N.n∧t∉N.fz:=by
 rintro t rfl
 simp only[fa,Ex,FO]at h;exact ⟨EG (G5 _) (ER h.1),gh h.2⟩
section
variable {P:Program} {N:Cx} {E:Env} {O:Objs} {ops rest:List Oper} {o:Oper}
theorem fc {K:Km} {ok:Nat→Prop} {w:World} {a:Act} (hs:Sim N K ok w E O a) {g:Bool} (hg:dQ E ops o.guard=some g):Region.wanted o (yielded ops.toArray a.tmps)=g:=by
 unfold dQ at hg;unfold Region.wanted;split at hg
 ·rename_i h; rw[h]; simpa using hg
 ·rename_i j want h;rw[h];simp only;split at hg
  ·rename_i d hd;split at hg
   ·rename_i b hb;obtain ⟨v,hv,hr⟩:=hs.env d _ hb;have e:=hr.sc.1;subst e;have:yielded ops.toArray a.tmps j=some b:=by
     simp[yielded,hd,hv]
    rw[this];simpa using hg
   ·rename_i hb;obtain ⟨v,hv,hr⟩:=hs.env d _ hb
    cases hr with
    | tup hr=>
     have:yielded ops.toArray a.tmps j=none:=by
      simp[yielded,hd,hv]
     rw[this];simpa using hg
   ·cases hg
  ·cases hg
abbrev fP:Option AV:=some (.tup [])
theorem SP.skip {K:Km} {ok:Nat→Prop} {w:World} (hp:Hp K ok w O):SP K ok w O fP .no undef K ok w:=⟨(λ_ h=>by cases h; exact .tup RelAs.nil),hp,Fr.refl _ _ _ _,λ_ _=>rfl⟩
end
section
variable {P:Program} {N:Nx} {E:Env} {O:Objs}
def leP (x y:PC):Prop:=x=y∨(x = .sc (.slice none 0 0)∧∃ sz,y = .sl sz [])
def leL:List PC→List PC→Prop
 | [],[]=>True
 | x::l,y::m=>leP x y∧leL l m
 | _,_=>False
def leA:A1→A1→Prop
 | .c x,.c y=>leP x y
 | .ag l,.ag m=>leL l m
 | _,_=>False
def leAs:List A1→List A1→Prop
 | [],[]=>True
 | x::l,y::m=>leA x y∧leAs l m
 | _,_=>False
theorem leL.refl:∀ l:List PC,leL l l
 | []=>trivial
 | _::l=>⟨.inl rfl,leL.refl l⟩
theorem leA.refl:∀ x:A1,leA x x
 | .c _=>.inl rfl
 | .ag l=>leL.refl l
theorem leAs.refl:∀ l:List A1,leAs l l
 | []=>trivial
 | x::l=>⟨leA.refl x,leAs.refl l⟩
theorem leP.rel {K:Km} {ok:Nat→Prop} {w:World} {x y:PC} {v:Value} (h:leP x y) (hr:RelO K ok w x v):RelO K ok w y v:=by
 rcases h with rfl | ⟨rfl,sz,rfl⟩
 ·exact hr
 ·cases hr with | cl h=>cases h with | sc h=>exact .cl .sl0
theorem leL.rel {K:Km} {ok:Nat→Prop} {w:World}:∀ {l m:List PC} {vs:List Value},leL l m→RelCs K ok w l vs→RelCs K ok w m vs
 | [],[],_,_,h=>h
 | x::l,y::m,vs,hl,h=>by
  cases vs with
  | nil=>have:=h.len; simp at this
  | cons v vs=>
   have h1:RelO K ok w x v:=by obtain ⟨u,hu,hr⟩:=h.get 0 x rfl; simp at hu; subst hu; exact hr
   have h2:RelCs K ok w l vs:=⟨by have:=h.len; simpa using this,λi z hz=>by
    obtain ⟨u,hu,hr⟩:=h.get (i+1) z (by simpa using hz);exact ⟨u,by simpa using hu,hr⟩⟩
   exact RelCs.cons (hl.1.rel h1) (leL.rel hl.2 h2)
 | [],_::_,_,h,_=>h.elim
 | _::_,[],_,h,_=>h.elim
theorem leA.rel {K:Km} {ok:Nat→Prop} {w:World} {x y:A1} {v:Value} (h:leA x y) (hr:RelA K ok w x v):RelA K ok w y v:=by
 cases hr with
 | c hr=>cases y with
  | c y=>exact .c (leP.rel h hr)
  | ag m=>exact h.elim
 | ag hr=>cases y with
  | c y=>exact h.elim
  | ag m=>exact .ag (leL.rel h hr)
theorem leAs.rel {K:Km} {ok:Nat→Prop} {w:World}:∀ {l m:List A1} {vs:List Value},leAs l m→RelAs K ok w l vs→RelAs K ok w m vs
 | [],[],_,_,h=>h
 | x::l,y::m,vs,hl,h=>by
  obtain ⟨v,us,rfl,h1,h2⟩:=h.head;exact RelAs.cons (leA.rel hl.1 h1) (leAs.rel hl.2 h2)
 | [],_::_,_,h,_=>h.elim
 | _::_,[],_,h,_=>h.elim
theorem leAs.relV {K:Km} {ok:Nat→Prop} {w:World}:∀ {l m:List A1} {v:Value},leAs l m→RelV K ok w (cw l) v→RelV K ok w (cw m) v
 | [],[],_,_,hr=>hr
 | [x],[y],_,h,hr=>by
  cases hr with
  | o h2=>exact .o (leA.rel h.1 h2)
 | x::x'::l,y::y'::m,v,h,hr=>by
  have key:∀ (z:AV),z = .tup (x::x'::l)→RelV K ok w z v→RelV K ok w (.tup (y::y'::m)) v:=by
   intro z hz h2
   cases h2 with
   | o _=>cases hz
   | tup h3=>cases hz; exact .tup (leAs.rel h h3)
  exact key _ rfl hr
 | [_],_::_::_,_,h,_=>h.2.elim
 | _::_::_,[_],_,h,_=>h.2.elim
 | [],_::_,_,h,_=>h.elim
 | _::_,[],_,h,_=>h.elim
theorem CtO.le {f:FuncId} {O O':Objs} {args args' res res':List A1} (h:CtO P f O args' O' res) (ha:leAs args args') (hr:leAs res res'):CtO P f O args O' res':=
 ⟨λK ok w vs hp hrel=>(h.run K ok w vs hp (ha.rel hrel)).mono λe w' ⟨v,K',ok',h1,h2,h3⟩=>⟨v,K',ok',h1,hr.relV h2,h3⟩⟩
def ka:Nat→List A1→Env
 | _,[]=>[]
 | i,x::l=>.s i (some (.o x))::ka (i+1) l
theorem rr:∀ (l:List A1) (i t:Nat) (av:AV),(ka i l).get t=some av→∃ j x,t=i+j∧l[j]? = some x∧av = .o x
 | [],i,t,av,h=>by simp[ka,Env.get]at h
 | x::l,i,t,av,h=>by
  simp only[ka,Env.get]at h
  cases hb:Nat.beq i t with
  | true=>rw[hb]at h; cases h; exact ⟨0,x,by have:=Eu hb; omega,rfl,rfl⟩
  | false=>
   rw[hb]at h;obtain ⟨j,y,h1,h2,h3⟩:=rr l (i+1) t av h;exact ⟨j+1,y,by omega,by simpa using h2,h3⟩
def vE (P:Program) (E:Env) (O:Objs):List ResultVar→List A1→Prop
 | [],[]=>True
 | .tmp t::rs,x::xs=>E.get t=some (.o x)∧vE P E O rs xs
 | .cell t ty::rs,x::xs=>(∃ p cs sz bt agg z,E.get t=some (.c p)∧atC O p=some cs∧TI P ty sz bt agg z∧sz≤cs.length∧mkA agg (cs.take sz)=some x)∧vE P E O rs xs
 | _,_=>False
def xb (tmps:Array Value):ResultVar→Sem Value
 | .tmp t=>pure (tmps.getD t undef)
 | .cell c t=>do loadVar t (←asAddr (tmps.getD c undef))
theorem ie {N:Cx} {K:Km} {ok:Nat→Prop} {w:World} {a:Act} (hs:Sim N K ok w E O a):∀ {rs:List ResultVar} {xs:List A1},vE P E O rs xs→∃ vs,(rs.mapM (xb a.tmps):Sem (List Value)).run P w = .ok vs w∧RelAs K ok w xs vs
 | [],[],_=>⟨[],rfl,RelAs.nil⟩
 | [],_::_,h=>h.elim
 | .tmp _::_,[],h=>h.elim
 | .cell _ _::_,[],h=>h.elim
 | .tmp t::rs,x::xs,h=>by
  obtain ⟨vs,h1,h2⟩:=ie hs h.2;obtain ⟨v,hv,hr⟩:=hs.env t _ h.1;have e:a.tmps.getD t undef=v:=by simp[Array.getD_eq_getD_getElem?,hv]
  cases hr with
  | o hr=>exact ⟨v::vs,by simp only[List.mapM_cons,Sem.run_bind,xb,Sem.run_pure,Result.andThen_ok,h1,e],RelAs.cons hr h2⟩
 | .cell t ty::rs,x::xs,h=>by
  obtain ⟨vs,h1,h2⟩:=ie hs h.2;obtain ⟨p,cs,sz,bt,agg,z,g1,g2,g3,g4,g5⟩:=h.1;obtain ⟨v,hv,hr⟩:=hs.env t _ g1;have e:a.tmps.getD t undef=v:=by simp[Array.getD_eq_getD_getElem?,hv]
  obtain ⟨ad,u,e2,l1,l2⟩:=rh (P:=P) (t:=ty) hs.hp hr.one g2 g4 g5;subst e2;have hA:(asAddr (a.tmps.getD t undef)).run P w = .ok ad w:=by rw[e]; rfl
  exact ⟨u::vs,by simp only[List.mapM_cons,Sem.run_bind,xb,hA,Sem.run_pure,Result.andThen_ok,l1,h1],RelAs.cons l2 h2⟩
theorem lV {fn:Func} {tmps:Array Value} {R:Ending→World→Prop} {B:Nat}:∀ (Ds:List Nat) (w:World),Ds.Nodup→(∀ D,D∈Ds→B≤D∧w.heap[D]? = some (.deferred (some []))) →
  (∀ w',w.heap.size=w'.heap.size→(∀ b,b∉Ds→w'.heap[b]? = w.heap[b]?)→w'.os=w.os→w'.tape=w.tape→w'.output=w.output→LeavesIn Fence.wide 0 P fn tmps R [] .returning w')→LeavesInM Fence.wide 0 P fn tmps R (Ds.map lc) .returning w
 | [],w,_,_,h=>h w rfl (λ_ _=>rfl) rfl rfl rfl
 | D::Ds,w,hn,hm,h=>by
  simp only[Hb]at hn;refine ⟨by simp,.inl ⟨D,_,rfl,run_takeDeferred (hm D (by simp)).2,lV Ds _ hn.2 (λD' hD'=>⟨(hm D' (by simp[hD'])).1,?_⟩) λw' h1 h2 h3 h4 h5=>?_⟩⟩
  ·rw[World.putObj_heap_other (λe=>hn.1 (by rw[←e]; exact hD'))]; exact (hm D' (by simp[hD'])).2
  ·refine h w' (by rw[←h1]; simp) (λb hb=>?_) h3 h4 h5;simp only[E9,not_or]at hb;rw[h2 b hb.2,World.putObj_heap_other hb.1]
theorem Ct.of {f:FuncId} {fn:Func} {c:Code} {args res:List A1} {O O':Objs} (hf:P.funcs[f]? = some fn) (hb:fn.body=some c) (hn:(fn.name == "runtime.NumGoroutine")=false) (hN:fn.ntmps=N.n) (hl:Nat.ble args.length N.n=true)
  (h:W P N (ka 0 args) O c (λe E O2=>(match e with | .normal=>True | .ret=>True | _=>False)∧SubO O' O2∧∃ ys,vE P E O2 fn.results.toList ys∧leAs ys res)) (hfz:N.fz=[]):CtO P f O args O' res:=by
 refine ⟨λK ok w vs hp hrel=>.inl ⟨by simp[gm,hf,hb,hn],callsIn_wide (n:=0).1 (callsIn_of_wp_marks hf hb trivial ?_)⟩⟩;have hlen:=ER hl;have hsim:Sim ⟨N,none,w.heap.size,#[]⟩ K ok w (ka 0 args) O { tmps:=vs.toArray++Array.replicate (fn.ntmps-vs.toArray.size) undef,defers:=[] }:=by
  refine ⟨by rw[Array.size_append,Array.size_replicate,hN,List.size_toArray,hrel.len]; show args.length+(N.n-args.length)=N.n; omega,⟨[],rfl,Gy,λD hD=>by simp at hD⟩,Ew _,(λl hl=>by cases hl),(λt ht=>by rw[show N.fz=[] from hfz]at ht; simp at ht),hp,λt av ht=>?_⟩;obtain ⟨j,x,rfl,hj,rfl⟩:=rr args 0 t av ht;obtain ⟨u,hu,hr⟩:=hrel.get j x hj;have hlt:j<vs.length:=(Ez.1 hu).1;refine ⟨u,?_,.o hr⟩;rw[Fn,GH (by simpa using hlt)];simpa using hu
 refine wpIn_mono (h none w.heap.size #[] K ok w _ hsim) λe a' w' hpost=>?_
 obtain ⟨E',O2,K',ok',⟨he,hO,ys,hres,hle⟩,hs',hfr⟩:=hpost;have fin:LeavesInM Fence.wide 0 P fn a'.tmps (λe w'=>∃ v K' ok',e = .returned v∧RelV K' ok' w' (cw res) v∧Hp K' ok' w' O'∧Fr K ok w O K' ok' w' O') a'.defers .returning w':=by
  obtain ⟨Ds,hd1,hd2,hd3⟩:=hs'.defers;rw[hd1];refine lV (B:=w.heap.size) Ds w' hd2 (λD hD=>⟨(hd3 D hD).1,(hd3 D hD).2.1⟩) λw2 z1 z2 z3 z4 z5=>?_
  have sok:∀ b,ok' b→w2.heap[b]? = w'.heap[b]?:=λb hb=>z2 b λhD=>(hd3 b hD).2.2.1 hb
  have shid:∀ b,K'.hid b→w2.heap[b]? = w'.heap[b]?:=λb hb=>z2 b λhD=>(hd3 b hD).2.2.2 hb
  have sown:∀ k o b L,O2.get k=some o→K' k=some (b,L)→w2.heap[b]? = w'.heap[b]?:=λk o b L ho hK=>z2 b λhD=>gA hs'.hp (hd3 b hD).2.1 k o L ho hK
  have scell:∀ (b:Nat) (cs:Array Value) (e:TypeId) (fr:Nat × Nat),w'.heap[b]? = some (Obj.cells cs e fr)→w2.heap[b]? = some (Obj.cells cs e fr):=λb cs e fr hb=>(z2 b λhD=>by have:=(hd3 b hD).2.1; rw[hb]at this; cases this).trans hb
  have hsh:∀ r,Shp K' K' w' w2 r:=λr=>⟨rfl,λb _ _ cs e fr hb=>⟨cs,e,fr,scell b cs e fr hb,rfl⟩⟩
  have hs2:Sim ⟨N,none,w.heap.size,#[]⟩ K' ok' w2 E' O2 { a' with defers:=[] }:=
   ⟨hs'.size,⟨[],rfl,Gy,λD hD=>by simp at hD⟩,by show w.heap.size≤w2.heap.size; rw[←z1]; exact hfr.size,(λl hl=>by cases hl),hs'.old,
    ⟨λk o h=>(hs'.hp.obs k o h).mono (λ_ h=>h) (λb hb _=>sok b hb) (by rw[z1]; exact Ew _) rfl (λb L hK=>sown k o b L h hK) (λJ _=>⟨rfl,shid,z3,z4,z5,λb cs e fr hb=>⟨cs,e,fr,scell b cs e fr hb,rfl⟩⟩) λr _=>hsh r,
     hs'.hp.inj,hs'.hp.apart,λb hb=>by rw[←z1]; exact hs'.hp.lt b hb,λb hb=>by rw[←z1]; exact hs'.hp.hlt b hb,hs'.hp.hok,hs'.hp.how⟩,
    λt av h=>by
     obtain ⟨v,hv,hr⟩:=hs'.env t av h;exact ⟨v,hv,hr.mono (λ_ h=>h) (λb hb _=>sok b hb) (by rw[z1]; exact Ew _) λr _=>hsh r⟩⟩
  have hfr2:Fr K ok w O K' ok' w2 O2:=
   ⟨by rw[←z1]; exact hfr.size,λb hb hk hh=>(z2 b λhD=>by have h:w.heap.size≤b:=(hd3 b hD).1; omega).trans (hfr.keep b hb hk hh),hfr.okUp,hfr.okNew,hfr.own,z3.trans hfr.os,z4.trans hfr.tape,z5.trans hfr.output,
    λb o hb=>by
     obtain ⟨o',h1,h2⟩:=hfr.kind b o hb;exact ⟨o',(z2 b λhD=>by have h:w.heap.size≤b:=(hd3 b hD).1; have:=(EY.1 hb).1; omega).trans h1,h2⟩,hfr.pin,hfr.hid⟩
  obtain ⟨us,hu,hru⟩:=ie hs2 hres;replace hru:=hle.rel hru;have hru1:(results fn a'.tmps).run P w2 = .ok (if h:us.toArray.size=1 then us.toArray[0] else .tuple us.toArray) w2:=by
   have e:results fn a'.tmps=(do let vs ←fn.results.mapM (xb a'.tmps); pure (if h:vs.size=1 then vs[0] else .tuple vs)):=rfl;rw[e,Array.mapM_eq_mapM_toList];simp only[Sem.run_bind,Sem.run_map,Sem.run_pure];rw[show (List.mapM (xb a'.tmps) fn.results.toList:Sem (List Value)).run P w2 = .ok us w2 from hu];rfl
  refine ⟨_,hru1,_,K',ok',rfl,?_,hs2.hp.sub hO,hfr2.trans (Fr.weak hO)⟩
  match res,hru with
  | [],hru=>
   have:us=[]:=by have:=hru.len; simpa using this
   subst this;exact .tup hru
  | [x],hru=>
   obtain ⟨v,us',rfl,hx,hus⟩:=hru.head;have:us'=[]:=by have:=hus.len; simpa using this
   subst this;exact .o hx
  | x::y::l,hru=>
   obtain ⟨v,us',rfl,hx,hus⟩:=hru.head;obtain ⟨v2,us2,rfl,hx2,hus2⟩:=hus.head;have:¬ ((v::v2::us2).toArray.size=1):=by simp
   rw[dif_neg this];exact .tup hru
 cases e with
 | normal=>exact fin
 | ret=>exact fin
 | _=>exact he.elim
end
end
end Go.Proofs.YtgceikecdedfcaaGreat.Pv
