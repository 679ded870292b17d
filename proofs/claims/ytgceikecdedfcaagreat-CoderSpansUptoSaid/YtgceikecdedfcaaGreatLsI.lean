/- Parts of a proof, joined: PvX PvY Cu Cw Ej Sia. -/
import Derived.Test.YtgceikecdedfcaaGreatLsH
import Derived.Sort.AssemblyPlain
namespace Go.Proofs.YtgceikecdedfcaaGreat.Pv
open Go
section
def yP (K:Km) (ok:Nat→Prop) (b:Nat):Prop:=¬ ok b∧¬ K.hid b
theorem Sim.free {N:Cx} {K:Km} {ok:Nat→Prop} {w w':World} {E:Env} {O:Objs} {a:Act} (hs:Sim N K ok w E O a) (hsz:w.heap.size≤w'.heap.size) (hb:∀ b,(ok b∨K.hid b∨∃ k o L,O.get k=some o∧K k=some (b,L))→w'.heap[b]? = w.heap[b]?)
  (hd:∀ b:Nat,kX b∈a.defers→w'.heap[b]? = w.heap[b]?) (hl:∀ (b:Nat) (r:Loop),N.R=some b→w.heap[b]? = some (Obj.loop r)→∃ r',w'.heap[b]? = some (Obj.loop r')) (hc:CSh w w') (ho:w'.os=w.os∧w'.tape=w.tape∧w'.output=w.output):Sim N K ok w' E O a:=by
 have hsh:∀ r,Shp K K w w' r:=λr=>⟨rfl,λb _ _ cs e fr h=>hc b cs e fr h⟩
 refine ⟨hs.size,?_,EG hs.base hsz,λl hR=>?_,hs.old,⟨λk o h=>?_,hs.hp.inj,hs.hp.apart,λb h=>EM (hs.hp.lt b h) hsz,λb h=>EM (hs.hp.hlt b h) hsz,hs.hp.hok,hs.hp.how⟩,λt av h=>?_⟩
 ·obtain ⟨Ds,h1,h2,h3⟩:=hs.defers;exact ⟨Ds,h1,h2,λD hD=>⟨(h3 D hD).1,(hd D (by rw[h1]; exact Fd.2 ⟨D,hD,rfl⟩)).trans (h3 D hD).2.1,(h3 D hD).2.2⟩⟩
 ·obtain ⟨r,hr⟩:=hs.rnd l hR;exact hl l r hR hr
 ·exact (hs.hp.obs k o h).mono (λ_ h=>h) (λb h _=>hb b (.inl h)) hsz rfl (λb L hK=>hb b (.inr (.inr ⟨k,o,L,h,hK⟩))) (λJ _=>⟨rfl,λb h=>hb b (.inr (.inl h)),ho.1,ho.2.1,ho.2.2,hc⟩) λr _=>hsh r
 ·obtain ⟨v,hv,hr⟩:=hs.env t av h;exact ⟨v,hv,hr.mono (λ_ h=>h) (λb h _=>hb b (.inl h)) hsz λr _=>hsh r⟩
theorem Sim.putLoop {N:Cx} {K:Km} {ok:Nat→Prop} {w:World} {E:Env} {O:Objs} {a:Act} (hs:Sim N K ok w E O a) {l:Nat} {r:Loop} (hl:w.heap[l]? = some (.loop r)) (hf:yP K ok l) (r':Loop):Sim N K ok (w.putObj l (.loop r')) E O a:=by
 have hlt:=(E9.1 hl).1;refine hs.free (by simp) (λb hb=>World.putObj_heap_other ?_) (λb hb=>World.putObj_heap_other ?_) (λb q _ hb=>?_) (λb cs e fr hb=>⟨cs,e,fr,(World.putObj_heap_other ?_).trans hb,rfl⟩) ⟨rfl,rfl,rfl⟩
 ·rintro rfl
  rcases hb with h | h | ⟨k,o,L,h1,h2⟩
  ·exact hf.1 h
  ·exact hf.2 h
  ·exact gV hs.hp hl k o L h1 h2
 ·rintro rfl
  obtain ⟨Ds,h1,_,h3⟩:=hs.defers;rw[h1]at hb;obtain ⟨D,hD,e⟩:=Fd.1 hb;have e':D=b:=by simpa [kX] using e
  subst e';have:=(h3 D hD).2.1;rw[hl]at this; cases this
 ·by_cases e:b=l
  ·subst e; exact ⟨r',World.putObj_heap_same hlt⟩
  ·exact ⟨q,(World.putObj_heap_other e).trans hb⟩
 ·rintro rfl; rw[hl]at hb; cases hb
theorem gH {w:World} {l:Nat} {r r':Loop} (hl:w.heap[l]? = some (.loop r)) (b:Nat) (o:Obj) (hb:w.heap[b]? = some o):∃ o',(w.putObj l (.loop r')).heap[b]? = some o'∧SK o o':=by
 by_cases e:b=l
 ·subst e;rw[hl]at hb;cases hb;exact ⟨_,World.putObj_heap_same (E9.1 hl).1,r',rfl⟩
 ·exact ⟨o,(World.putObj_heap_other e).trans hb,SK.refl o⟩
theorem Sim.okUp {N:Cx} {K:Km} {ok ok':Nat→Prop} {w:World} {E:Env} {O:Objs} {a:Act} (hs:Sim N K ok w E O a) (h1:∀ b,ok b→ok' b) (h2:∀ b,ok' b→b<w.heap.size) (h3:∀ k o b L,O.get k=some o→K k=some (b,L)→¬ ok' b) (h4:∀ b,K.hid b→¬ ok' b)
  (h5:a.defers=[]):Sim N K ok' w E O a:=by
 have hsh:∀ r,Shp K K w w r:=λr=>Shp.refl _ _ _
 refine ⟨hs.size,⟨[],by rw[h5]; rfl,GH,λD hD=>by simp at hD⟩,hs.base,hs.rnd,hs.old,⟨λk o h=>?_,hs.hp.inj,h3,h2,hs.hp.hlt,h4,hs.hp.how⟩,λt av h=>?_⟩
 ·exact (hs.hp.obs k o h).mono h1 (λ_ _ _=>rfl) (EE _) rfl (λ_ _ _=>rfl) (λJ _=>⟨rfl,λ_ _=>rfl,rfl,rfl,rfl,CSh.same λ_ _=>rfl⟩) λr _=>hsh r
 ·obtain ⟨v,hv,hr⟩:=hs.env t av h;exact ⟨v,hv,hr.mono h1 (λ_ _ _=>rfl) (EE _) λr _=>hsh r⟩
def Ck (Q:PQ):Code→Env→Objs→Prop
 | .ret,E,O=>Q .ret E O
 | .exit j,E,O=>Q (.exit j) E O
 | .goto j,E,O=>Q (.goto j) E O
 | _,_,_=>False
def t5 (fz:List Nat) (Q:PQ) (I:Env→Objs→Prop):PQ
 | .normal,E,O=>I E O
 | .ret,E,O=>∃ l lo,ce E l∧bv O lo∧(∀ p,p∈l→bC p.1 fz=true)∧Q .ret (cZ l) (cd lo)
 | .exit j,E,O=>∃ l lo,ce E l∧bv O lo∧(∀ p,p∈l→bC p.1 fz=true)∧Q (.exit j) (cZ l) (cd lo)
 | .goto j,E,O=>∃ l lo,ce E l∧bv O lo∧(∀ p,p∈l→bC p.1 fz=true)∧Q (.goto j) (cZ l) (cd lo)
 | _,_,_=>False
def ku:List Tmp→List A1→Env
 | t::ts,x::xs=>.s t (some (.o x))::ku ts xs
 | _,_=>[]
theorem nO:∀ {l:List (Nat × AV)} {t:Nat} {av:AV},(cZ l).get t=some av→∃ p,p∈l∧p.1=t
 | [],_,_,h=>by simp[cZ,Env.get]at h
 | (t',a)::l,t,av,h=>by
  simp only[cZ,Env.get]at h
  cases hb:Nat.beq t' t with
  | true=>exact ⟨(t',a),by simp,EA hb⟩
  | false=>rw[hb]at h; obtain ⟨p,h1,h2⟩:=nO h; exact ⟨p,E3 _ h1,h2⟩
theorem rT:∀ {ps:List Tmp} {xs:List A1} {E:Env} {t:Nat} {av:AV},Env.get (ku ps xs++E) t=some av→(ku ps xs).get t=some av∨E.get t=some av
 | [],_,_,_,_,h=>.inr (by simpa [ku] using h)
 | _::_,[],_,_,_,h=>.inr (by simpa [ku] using h)
 | t'::ts,x::xs,E,t,av,h=>by
  simp only[ku,Ge,Env.get]at h ⊢
  cases hb:Nat.beq t' t with
  | true=>rw[hb]at h; exact .inl h
  | false=>rw[hb]at h; exact rT h
def kv:List Tmp→List Value→Array Value→Array Value
 | t::ts,v::vs,a=>kv ts vs (a.setIfInBounds t v)
 | _,_,a=>a
theorem yQ:∀ (ps:List Tmp) (vs:List Value) (a:Array Value),((ps.toArray.zip vs.toArray).foldl (λtmps (x:Tmp × Value)=>tmps.setIfInBounds x.1 x.2) a)=kv ps vs a:=by
 intro ps vs a;rw[←Array.foldl_toList];have:(ps.toArray.zip vs.toArray).toList=ps.zip vs:=by simp
 rw[this]
 induction ps generalizing vs a with
 | nil=>simp[kv]
 | cons t ts ih=>
  cases vs with
  | nil=>simp[kv]
  | cons v vs=>simp only[List.zip_cons_cons,List.foldl_cons,kv]; exact ih vs _ (by simp)
theorem pf:∀ (ps:List Tmp) (vs:List Value) (a:Array Value),(kv ps vs a).size=a.size
 | [],_,_=>rfl
 | _::_,[],_=>rfl
 | t::ts,v::vs,a=>by rw[kv,pf ts vs]; simp
theorem gI:∀ {ps:List Tmp} {vs:List Value} {a:Array Value} {t:Nat},t∉ps→(kv ps vs a)[t]? = a[t]?
 | [],_,_,_,_=>rfl
 | _::_,[],_,_,_=>rfl
 | t'::ts,v::vs,a,t,h=>by
  simp only[Fg,not_or]at h;rw[kv,gI h.2,Array.getElem?_setIfInBounds_ne (λe=>h.1 e.symm)]
theorem rU {K:Km} {ok:Nat→Prop} {w:World}:∀ {ps:List Tmp} {xs:List A1} {vs:List Value} {a:Array Value} {t:Nat} {av:AV},ps.Nodup→(∀ p,p∈ps→p<a.size)→RelAs K ok w xs vs→(ku ps xs).get t=some av→∃ v,(kv ps vs a)[t]? = some v∧RelV K ok w av v
 | [],_,_,_,_,_,_,_,_,h=>by simp[ku,Env.get]at h
 | _::_,[],_,_,_,_,_,_,_,h=>by simp[ku,Env.get]at h
 | t'::ts,x::xs,vs,a,t,av,hn,hp,hr,h=>by
  obtain ⟨v,us,rfl,hx,hxs⟩:=hr.head;simp only[Hi]at hn;simp only[ku,Env.get]at h
  cases hb:Nat.beq t' t with
  | true=>
   rw[hb]at h;cases h;have e:=EA hb;subst e;refine ⟨v,?_,.o hx⟩;rw[kv,gI hn.1];simp[hp t' (by simp)]
  | false=>
   rw[hb]at h;exact rU (ps:=ts) (xs:=xs) hn.2 (λp hp'=>by simpa using hp p (E3 _ hp')) hxs h
section
variable {P:Program} {T:Ty} {N:Nx} {E:Env} {O:Objs}
structure RngI (X:Cx) (K0:Km) (ok0:Nat→Prop) (w0:World) (O0:Objs) (l:Nat) (rec:Loop) (Ds:List Nat) (tmps:Array Value) (E:Env) (O:Objs) (ok F:Nat→Prop) (W:World) (K:Km) (okc:Nat→Prop):Prop where
 sim:Sim X K okc W E O { tmps:=tmps,defers:=[] }
 fr:Fr K0 ok0 w0 O0 K okc W O
 rec_:W.heap[l]? = some (.loop rec)
 new:w0.heap.size≤l
 free:yP K okc l
 ds:∀ D,D∈Ds→W.heap[D]? = some (.deferred (some []))∧w0.heap.size≤D∧yP K okc D∧F D
 okF:∀ b,okc b→ok b∨F b
 own:∀ k o b L,O.get k=some o→K k=some (b,L)→F b
 hid:∀ b,K.hid b→F b
 lF:F l
 old:∀ b,b<w0.heap.size→ok0 b∨F b∨∃ k o L,O0.get k=some o∧K0 k=some (b,L)
 up:∀ b,ok0 b→ok b
theorem RngI.stable {X:Cx} {K0:Km} {ok0:Nat→Prop} {w0:World} {O0:Objs} {l:Nat} {rec:Loop} {Ds:List Nat} {tmps:Array Value} {E:Env} {O:Objs} {ok F ok1:Nat→Prop} {W W1:World} {K:Km} {okc:Nat→Prop}
  (h:RngI X K0 ok0 w0 O0 l rec Ds tmps E O ok F W K okc) (h1:∀ b,ok b→ok1 b) (h2:∀ b,ok b→b<W.heap.size→W1.heap[b]? = W.heap[b]?) (h3:∀ b,F b→W1.heap[b]? = W.heap[b]?) (h4:W.heap.size≤W1.heap.size)
  (h5:W1.os=W.os) (h6:W1.tape=W.tape) (h7:W1.output=W.output) (h8:CSh W W1) (hX:X.R=some l) (hp0:Hp K0 ok0 w0 O0):RngI X K0 ok0 w0 O0 l rec Ds tmps E O ok1 F W1 K okc:=by
 have hokc:∀ b,okc b→W1.heap[b]? = W.heap[b]?:=λb hb=>by
  rcases h.okF b hb with g | g
  ·exact h2 b g (h.sim.hp.lt b hb)
  ·exact h3 b g
 have hold:∀ b,b<w0.heap.size→W1.heap[b]? = W.heap[b]? ∨ ∃ k o L,O0.get k=some o∧K0 k=some (b,L):=λb hb=>by
  rcases h.old b hb with g | g | g
  ·exact .inl (h2 b (h.up b g) (EM hb h.fr.size))
  ·exact .inl (h3 b g)
  ·exact .inr g
 refine ⟨h.sim.free h4 (λb hb=>?_) (λb hb=>by simp at hb) (λb r hR hb=>?_) h8 ⟨h5,h6,h7⟩,⟨EG h.fr.size h4,λb hb g1 g2=>((hold b hb).resolve_right λ⟨k,o,L,e1,e2⟩=>g1 k o L e1 e2).trans (h.fr.keep b hb g1 g2),h.fr.okUp,h.fr.okNew,h.fr.own,h5.trans h.fr.os,h6.trans h.fr.tape,h7.trans h.fr.output,λb o hb=>?_,h.fr.pin,h.fr.hid⟩,
  (h3 l h.lF).trans h.rec_,h.new,h.free,λD hD=>?_,λb hb=>(h.okF b hb).imp_left (h1 b),h.own,h.hid,h.lF,h.old,λb hb=>h1 b (h.up b hb)⟩
 ·rcases hb with g | g | ⟨k,o,L,g1,g2⟩
  ·exact hokc b g
  ·exact h3 b (h.hid b g)
  ·exact h3 b (h.own k o b L g1 g2)
 ·rw[hX]at hR;cases hR;exact ⟨rec,(h3 l h.lF).trans h.rec_⟩
 ·obtain ⟨o',g1,g2⟩:=h.fr.kind b o hb;rcases hold b (E9.1 hb).1 with e | ⟨k,p,L,e1,e2⟩
  ·exact ⟨o',e.trans g1,g2⟩
  ·have hlt:b<W1.heap.size:=EM (E9.1 g1).1 h4;rcases pZ hp0 e1 e2 with ⟨cs,ty,fr,c1⟩ | ⟨es,cl,c1⟩
   ·rw[hb]at c1;cases c1;obtain ⟨cs',ty',fr',rfl,c2⟩:=g2;obtain ⟨cs2,ty2,fr2,c3,c4⟩:=h8 b _ _ _ g1;exact ⟨_,c3,cs2,ty2,fr2,rfl,c4.trans c2⟩
   ·rw[hb]at c1;cases c1;exact ⟨W1.heap[b],GA hlt,HJ⟩
 ·obtain ⟨g1,g2,g3,g4⟩:=h.ds D hD;exact ⟨(h3 D g4).trans g1,g2,g3,g4⟩
theorem RngI.join {X:Cx} {K0:Km} {ok0:Nat→Prop} {w0:World} {O0:Objs} {l:Nat} {rec:Loop} {Ds:List Nat} {tmps:Array Value} {E:Env} {O:Objs} {ok F:Nat→Prop} {W:World} {K:Km} {okc:Nat→Prop}
  (h:RngI X K0 ok0 w0 O0 l rec Ds tmps E O ok F W K okc) {K':Km} {J:St} {OE:Objs} {kp:List Nat} (hF:K'.hid=F) (hp:Hp K' ok W ((2000000,some (.abs J))::OE)) (hk:∀ q,q∈kp→q≠2000000∧K q=K' q∧K q=K0 q∧∃ o,O0.get q=some o)
  (hn:(OE.map (·.1)).Nodup) (ha:fM OE=true):Sim X K (λb=>okc b∨ok b) W E (dZ (kp.map λq=>(q,q)) OE++O) { tmps:=tmps,defers:=[] }∧Fr K0 ok0 w0 O0 K (λb=>okc b∨ok b) W (dZ (kp.map λq=>(q,q)) OE++O):=by
 subst hF;have hlk:∀ q r,lk (kp.map λq=>(q,q)) q=some r→r=q∧q∈kp:=λq r e=>by
  obtain ⟨a,h1,h2⟩:=Fd.1 (fm e);cases h2;exact ⟨rfl,h1⟩
 have hE:∀ q o,OE.get q=some o→q≠2000000→Objs.get ((2000000,some (.abs J))::OE) q=some o:=λq o e hq=>by
  simp only[Objs.get]
  cases hb:Nat.beq 2000000 q with
  | true=>exact absurd (EA hb).symm hq
  | false=>exact e
 have hobj:∀ r ob,(dZ (kp.map λq=>(q,q)) OE++O).get r=some ob→(∃ o,r∈kp∧Objs.get ((2000000,some (.abs J))::OE) r=some o∧OE.get r=some o∧ob=dt (kp.map λq=>(q,q)) o)∨O.get r=some ob:=λr ob e=>by
  rcases ic e with ⟨q,o,h1,h2,h3⟩ | ⟨_,h2⟩
  ·obtain ⟨rfl,h4⟩:=hlk q r h2;have h5:=jt hn h1;exact .inl ⟨o,h4,hE _ o h5 (hk _ h4).1,h5,h3⟩
  ·exact .inr h2
 have nF:∀ r o b L,r∈kp→Objs.get ((2000000,some (.abs J))::OE) r=some o→K r=some (b,L)→¬ K'.hid b∧¬ ok b∧¬ okc b:=λr o b L h1 h2 h3=>by
  rw[(hk r h1).2.1]at h3;have a1:=hp.how r o b L h2 h3;have a2:=hp.apart r o b L h2 h3;exact ⟨a1,a2,λh4=>(h.okF b h4).elim a2 a1⟩
 have s:Sim X K (λb=>okc b∨ok b) W E O { tmps:=tmps,defers:=[] }:=
  h.sim.okUp (λb h=>.inl h) (λb e=>e.elim (h.sim.hp.lt b) (hp.lt b)) (λk o b L h1 h2 e=>e.elim (h.sim.hp.apart k o b L h1 h2) (hp.hok b (h.own k o b L h1 h2))) (λb h1 e=>e.elim (h.sim.hp.hok b h1) (hp.hok b (h.hid b h1))) rfl
 refine ⟨⟨s.size,s.defers,s.base,s.rnd,s.old,⟨λr ob e=>?_,λr r' ob ob' b L L' g1 g2 e1 e2=>?_,λr ob b L g e=>?_,s.hp.lt,s.hp.hlt,s.hp.hok,λr ob b L g e hh=>?_⟩,s.env⟩,⟨h.fr.size,h.fr.keep,λb hb=>.inl (h.fr.okUp b hb),λb e=>?_,λr ob b L g e=>?_,h.fr.os,h.fr.tape,h.fr.output,h.fr.kind,h.fr.pin,h.fr.hid⟩⟩
 ·rcases hobj r ob e with ⟨o,h1,h2,h3,rfl⟩ | h1
  ·refine ((hp.obs r o h2).ren (K':=K) (λk q e=>?_) (hk r h1).2.1 (λJ hJ=>?_)).mono (λb h=>.inr h) (λ_ _ _=>rfl) (EE _) rfl (λ_ _ _=>rfl) (λJ _=>⟨rfl,λ_ _=>rfl,rfl,rfl,rfl,CSh.same λ_ _=>rfl⟩) (λr _=>Shp.refl _ _ _)
   ·obtain ⟨rfl,h4⟩:=hlk k q e;exact (hk _ h4).2.1
   ·subst hJ; exact absurd h3 (gh ha)
  ·exact s.hp.obs r ob h1
 ·rcases hobj r ob g1 with ⟨o,h1,h2,h3,_⟩ | h1
  ·rcases hobj r' ob' g2 with ⟨o',h1',h2',h3',_⟩ | h1'
   ·rw[(hk r h1).2.1]at e1;rw[(hk r' h1').2.1]at e2;exact hp.inj r r' o o' b L L' h2 h2' e1 e2
   ·exact absurd (h.own r' ob' b L' h1' e2) (nF r o b L h1 h2 e1).1
  ·rcases hobj r' ob' g2 with ⟨o',h1',h2',h3',_⟩ | h1'
   ·exact absurd (h.own r ob b L h1 e1) (nF r' o' b L' h1' h2' e2).1
   ·exact s.hp.inj r r' ob ob' b L L' h1 h1' e1 e2
 ·rcases hobj r ob g with ⟨o,h1,h2,h3,_⟩ | h1
  ·have:=nF r o b L h1 h2 e;exact λe=>e.elim this.2.2 this.2.1
  ·exact s.hp.apart r ob b L h1 e
 ·rcases hobj r ob g with ⟨o,h1,h2,h3,_⟩ | h1
  ·exact (nF r o b L h1 h2 e).1 (h.hid b hh)
  ·exact s.hp.how r ob b L h1 e hh
 ·rcases e with e | e
  ·exact h.fr.okNew b e
  ·rcases Ft b w0.heap.size with hb | hb
   ·rcases h.old b hb with g | g | g
    ·exact .inl g
    ·exact absurd e (hp.hok b g)
    ·exact .inr (.inr g)
   ·exact .inr (.inl hb)
 ·rcases hobj r ob g with ⟨o,h1,h2,h3,_⟩ | h1
  ·obtain ⟨_,_,a3,o0,a4⟩:=hk r h1;exact .inr ⟨r,o0,L,a4,a3▸e⟩
  ·exact h.fr.own r ob b L h1 e
theorem CR {N:Cx} {K:Km} {ok:Nat→Prop} {w:World} {a:Act} (hs:Sim N K ok w E O a) {x:Operand} {f:FuncId} {caps:List PC} (hx:E.ev x=some (.c (.fn f caps))):∃ lb:List Value,a.eval x = .func (.func f) #[] lb.toArray∧RelAs K ok w (caps.map .c) lb:=by
 have hfv:=(hs.ev hx).one;generalize hev:a.eval x=v at hfv
 cases hfv with
 | cl h=>
  cases h with
  | fn gg hg=>
   refine ⟨_,rfl,⟨by simp,λi x hx=>?_⟩⟩;simp only[EP,EI]at hx;obtain ⟨y,hy,rfl⟩:=hx;have hlt:i<caps.length:=(EF.1 hy).1;exact ⟨gg i,by simp[hlt],.c (.cl (hg i y hy))⟩
 | fn gg hg=>
  refine ⟨_,rfl,⟨by simp,λi x hx=>?_⟩⟩;simp only[EP,EI]at hx;obtain ⟨y,hy,rfl⟩:=hx;have hlt:i<caps.length:=(EF.1 hy).1;exact ⟨gg i,by simp[hlt],.c (hg i y hy)⟩
theorem jh:∀ {caps:List PC},closedL caps=true→aA (caps.map A1.c)=true
 | [],_=>rfl
 | x::l,h=>by
  simp only[closedL,ED]at h;simp only[Fm,aA,ED];exact ⟨h.1,jh h.2⟩
def pg (kp:List Nat) (OE:Objs) (Q:PQ):PQ:=λe E O=>Q e E (dZ (kp.map λq=>(q,q)) OE++O)
theorem W.rangeO (hT:T.ok P) (hm:P.follows .mixedOrders=true) {g:Operand} {ps:List Tmp} {assign body:Code} {Q:PQ} {f:FuncId} {fn:Func} {c0:Code} {caps:List PC} {items:List (List A1)}
  {σ:List (Nat × Nat)} {OE:Objs} {kp:List Nat} (hg:E.ev g=some (.c (.fn f caps))) (hf:P.funcs[f]? = some fn) (hb:fn.body=some c0) (hnm:(fn.name == "runtime.NumGoroutine")=false) (hit:CtIO P f (bU σ O σ) ((caps.map .c).map (fV σ)) items OE)
  (hσi:ml σ=true) (hσ0:(σ.all λp=>!(Nat.beq p.2 2000000))=true) (hσa:bw σ O=false) (hkp:(kp.all λq=>eqO (lk σ q) q&&xt (O.get q))=true) (hOE:(jc (OE.map (·.1))&&fM OE)=true)
  (hlen:∀ args,args∈items→args.length=ps.length∧aA args=true) (fz:List Nat) (hps:(jc ps&&ps.all λt=>Nat.blt t N.n && !(bC t fz))=true)
  {G:Type} (inv:Nat→G→Prop) (sE:Nat→G→List (Nat × AV)) (sO:Nat→G→List (Nat × Ob)) (g0:G) (h0:inv 0 g0) (hE:ce E (sE 0 g0)) (hO:bv (O.delL (σ.map (·.1))) (sO 0 g0)) (hfz:∀ i g p,p∈sE i g→bC p.1 fz=true)
  (round:∀ i g args,items[i]? = some args→inv i g→bV P T ⟨N.n,fz⟩ assign (ku ps args++cZ (sE i g)) (cd (sO i g)) (ga (λE1 O1=>bV P T ⟨N.n,fz⟩ body E1 O1 (t5 fz (pg kp OE Q) (λE' O'=>∃ g',inv (i+1) g'∧ce E' (sE (i+1) g')∧bv O' (sO (i+1) g')))) (λ_ _ _=>False)))
  (after:∀ g,inv items.length g→pg kp OE Q .normal (cZ (sE items.length g)) (cd (sO items.length g))):W P N E O (.rangeFunc g ps.toArray assign body) Q:=by
 intro R B old K ok w a hs;simp only[ED,Fz,FX]at hps;have hpn:=cQ hps.1;have hpl:∀ t,t∈ps→t<a.tmps.size:=λt ht=>by
  rw[hs.size];exact EM (Hc _) (EX (hps.2 t ht).1)
 have hpf:∀ t,bC t fz=true→t∉ps:=λt ht hin=>by have:=(hps.2 t hin).2; rw[ht]at this; cases this
 obtain ⟨lb,hgv,hlb⟩:=CR hs hg;refine wpIn_rangeFunc ?_;intro fnid _;have main:∀ (l:Nat) (Ds:List Nat) (W1:World) (dd:Nat),(Instr.enterLoop fnid a.tmps ps.toArray assign body R).run P w = .ok (l,Ds.map kX) W1 →
   W1.heap[l]? = some (.loop { state:=.ready,pending:=none,fn:=fnid,tmps:=a.tmps,params:=ps.toArray,assign:=assign,body:=body,defers:=dd })→Ds.Nodup→(∀ D,D∈Ds→W1.heap[D]? = some (.deferred (some []))∧w.heap.size≤D) →
   w.heap.size≤l→(∀ b,b<w.heap.size→W1.heap[b]? = w.heap[b]?)→w.heap.size≤W1.heap.size→W1.os=w.os→W1.tape=w.tape→W1.output=w.output →
   ∃ (l:Nat) (mk:List Deferred) (w₁:World) (d:Deferred) (w₁':World) (f:FuncId) (args:Array Value) (w₂:World),(Instr.enterLoop fnid a.tmps ps.toArray assign body (FR R).round).run P w = .ok (l,mk) w₁∧(resolve a.eval (rangeCall g l) 0).run P w₁ = .ok d w₁' ∧
    (∀ f',Target.leads P w₁' d.target d.args=some f'→(FR R).fn f')∧(invoke d.target d.args).run P w₁' = .ok (.enter f args) w₂∧((FR R).depth.isSome=true→1≤0) ∧
    CallsIn (FR R) (0-1) P f args w₂ (rangePost (FR R) 0 P l (Post ⟨N,R,B,old⟩ K ok w O Q) { a with defers:=mk++a.defers }):=by
  intro l Ds W1 dd he hl hnd hDs hlw hsame hsz z1 z2 z3;obtain ⟨rec,hrec⟩:∃ rec:LoopState→Option Code→Loop,rec=λst pe=>{ state:=st,pending:=pe,fn:=fnid,tmps:=a.tmps,params:=ps.toArray,assign:=assign,body:=body,defers:=dd }:=⟨_,rfl⟩
  have hl1:W1.heap[l]? = some (.loop (rec .ready none)):=by rw[hrec]; exact hl
  let X1:Cx:=⟨⟨N.n,fz⟩,some l,0,a.tmps⟩
  let lent:Nat→Prop:=λb=>∃ k q o L,(k,q)∈σ∧O.get k=some o∧K k=some (b,L)
  let F0:Nat→Prop:=λb=>b<W1.heap.size∧¬ ok b∧¬ lent b
  let yv:Value:=.func (.yield l) #[] #[]
  let I:Nat→St:=λi ok' F W=>∃ (g:G) (K':Km) (okc:Nat→Prop),inv i g∧RngI X1 K ok w O l (rec .ready none) Ds a.tmps (cZ (sE i g)) (cd (sO i g)) ok' F W K' okc
  let Xs:St:=λok' F W=>∃ (c:Code) (lE:List (Nat × AV)) (lO:List (Nat × Ob)) (K':Km) (okc:Nat→Prop),Ck (pg kp OE Q) c (cZ lE) (cd lO)∧RngI X1 K ok w O l (rec .done (some c)) Ds a.tmps (cZ lE) (cd lO) ok' F W K' okc
  have hlt1:=(E9.1 hl1).1
  -- the state when the loop is entered
  have hp1:Hp K ok W1 O:=hs.hp.over hsz hsame (λ_ h=>h) (λ_ h=>.inl h) (λb h=>EM (hs.hp.lt b h) hsz) ⟨z1,z2,z3⟩;have hfr1:Fr K ok w O K ok W1 O:=⟨hsz,λb hb _ _=>hsame b hb,λ_ h=>h,λ_ h=>.inl h,λk o b L h1 h2=>.inr ⟨k,o,L,h1,h2⟩,z1,z2,z3,kW hsame,λ_ _=>rfl,λ_ h=>.inl h⟩;have hsh:∀ r,Shp K K w W1 r:=λr=>⟨rfl,λb _ _ cs e fr h=>CSh.same hsame b cs e fr h⟩
  have hsubD:SubO (cd (sO 0 g0)) (O.delL (σ.map (·.1))):=SubO.of hO;have hsub:SubO (cd (sO 0 g0)) O:=λk o h=>(Objs.delL_get (hsubD k o h)).2
  have lent_lt:∀ b,lent b→b<w.heap.size:=λb ⟨k,q,o,L,_,e2,e3⟩=>c8 hs.hp e2 e3
  have hI0:I 0 ok F0 W1:=by
   refine ⟨g0,K,ok,h0,⟨⟨hs.size,⟨[],rfl,GH,λD hD=>by simp at hD⟩,GB _,λl' hl'=>?_,λt _=>rfl,hp1.sub hsub,λt av h=>?_⟩,hfr1.trans (Fr.weak hsub),hl1,hlw,⟨λh=>?_,λh=>?_⟩,λD hD=>⟨(hDs D hD).1,(hDs D hD).2,⟨λh=>?_,λh=>?_⟩,(E9.1 (hDs D hD).1).1,λh=>?_,λh=>?_⟩,
    λb h=>.inl h,λk o b L h1 h2=>⟨c8 hp1 (hsub _ _ h1) h2,hs.hp.apart k o b L (hsub _ _ h1) h2,λ⟨k',q,o',L',e1,e2,e3⟩=>(Objs.delL_get (hsubD _ _ h1)).1 (by have:=hs.hp.inj k' k o' o b L' L e2 (hsub _ _ h1) e3 h2; rw[←this]; exact Fd.2 ⟨_,e1,rfl⟩)⟩,
    λb h=>⟨hp1.hlt b h,hs.hp.hok b h,λ⟨k',q,o',L',e1,e2,e3⟩=>hs.hp.how k' o' b L' e2 e3 h⟩,⟨hlt1,λh=>?_,λh=>?_⟩,λb h=>?_,λ_ h=>h⟩⟩
   ·cases hl'; exact ⟨_,hl1⟩
   ·obtain ⟨v,hv,hr⟩:=hs.env t av (Sub.of hE t av h);exact ⟨v,hv,hr.mono (λ_ h=>h) (λb _ hb=>hsame b hb) hsz λr _=>hsh r⟩
   ·have:=hs.hp.lt l h; omega
   ·have:=hs.hp.hlt l h; omega
   ·have:=hs.hp.lt D h; have:=(hDs D hD).2; omega
   ·have:=hs.hp.hlt D h; have:=(hDs D hD).2; omega
   ·have:=hs.hp.lt D h; have:=(hDs D hD).2; omega
   ·have:=lent_lt D h; have:=(hDs D hD).2; omega
   ·have:=hs.hp.lt l h; omega
   ·have:=lent_lt l h; omega
   ·by_cases hb:ok b
    ·exact .inl hb
    ·by_cases hl:lent b
     ·obtain ⟨k',q,o',L',e1,e2,e3⟩:=hl;exact .inr (.inr ⟨k',o',L',e2,e3⟩)
     ·exact .inr (.inl ⟨EM h hsz,hb,hl⟩)
  have hY:Yields P yv items I Xs:=by
   refine ⟨λi ok' ok1 F W W1 h h1 h2 h3 h4 h5 h6 h7 h8=>?_,λok' ok1 F W W1 h h1 h2 h3 h4 h5 h6 h7 h8=>?_,?_⟩
   ·obtain ⟨g,K',okc,a1,a2⟩:=h;exact ⟨g,K',okc,a1,a2.stable h1 h2 h3 h4 h5 h6 h7 h8 rfl hs.hp⟩
   ·obtain ⟨c,lE,lO,K',okc,a1,a2⟩:=h;exact ⟨c,lE,lO,K',okc,a1,a2.stable h1 h2 h3 h4 h5 h6 h7 h8 rfl hs.hp⟩
   ·intro i args hi ok' F W Ki vs hI hok hFok hFlt hrel;obtain ⟨g,K',okc,hinv,hr⟩:=hI;obtain ⟨hal,hac⟩:=hlen args (Fc hi);have hrel':RelAs K' ok' W args vs:=hrel.reK hac;have hvl:vs.length=ps.length:=by rw[hrel.len,hal]
    refine ⟨l,fnid,kv ps vs a.tmps,assign,body,rfl,?_,?_⟩
    ·have:=run_yield (P:=P) (args:=vs.toArray) hr.rec_ (by rw[hrec]; simpa using hvl);rw[hrec]at this;rw[this,←yQ]
    -- the round's state
    have hokm:∀ k o b L,(cd (sO i g)).get k=some o→K' k=some (b,L)→¬ (okc b∨ok' b):=λk o b L h1 h2 h=>by
     rcases h with h | h
     ·exact hr.sim.hp.apart k o b L h1 h2 h
     ·exact hFok b (hr.own k o b L h1 h2) h
    have hsm:Sim X1 K' (λb=>okc b∨ok' b) W (cZ (sE i g)) (cd (sO i g)) { tmps:=a.tmps,defers:=[] }:=
     hr.sim.okUp (λb h=>.inl h) (λb h=>h.elim (hr.sim.hp.lt b) (hok b)) hokm (λb h h'=>h'.elim (hr.sim.hp.hok b h) (hFok b (hr.hid b h))) rfl
    have hsr:Sim X1 K' (λb=>okc b∨ok' b) W (ku ps args++cZ (sE i g)) (cd (sO i g)) { tmps:=kv ps vs a.tmps,defers:=[] }:=by
     refine ⟨by show (kv ps vs a.tmps).size=_; rw[pf]; exact hsm.size,⟨[],rfl,GH,λD hD=>by simp at hD⟩,GB _,hsm.rnd,λt ht=>gI (hpf t (iF ht)),hsm.hp,λt av h=>?_⟩;rcases rT h with h | h
     ·exact rU hpn hpl (hrel'.mono (λb h=>.inr h) (λ_ _ _=>rfl) (EE _) λr _=>Shp.refl _ _ _) h
     ·obtain ⟨p,hp,hpt⟩:=nO h;obtain ⟨v,hv,hrv⟩:=hsm.env t av h;exact ⟨v,(gI (hpf t (by rw[←hpt]; exact hfz i g p hp))).trans hv,hrv⟩
    have hfree1:yP K' (λb=>okc b∨ok' b) l:=⟨λh=>h.elim hr.free.1 λh=>hFok l hr.lF h,hr.free.2⟩;refine roundIn_of_wpIn (F:=Fence.wide) HJ (wpIn_mono (aL hT hm assign _ _ _ (round i g args hi hinv) (some l) 0 a.tmps K' _ W _ hsr) λe a1 w1 hp=>?_);obtain ⟨E1,O1,K1,ok1,hq,hs1,hf1⟩:=hp
    cases e with
    | normal=>
     have hfl:=hf1.free (E9.1 hr.rec_).1 (gV hsr.hp hr.rec_) hfree1.1 hfree1.2;have hl2:w1.heap[l]? = some (.loop (rec .ready none)):=hfl.1.trans hr.rec_;refine ⟨_,run_beginRound hl2 (by rw[hrec]),?_⟩;have hl3:(w1.putObj l (.loop { rec .ready none with state:=.busy })).heap[l]? = some (.loop { rec .ready none with state:=.busy }):=World.putObj_heap_same (E9.1 hl2).1;have hs2:=hs1.putLoop hl2 ⟨hfl.2.1,hfl.2.2⟩ { rec .ready none with state:=.busy };refine wpIn_mono (aL hT hm body _ _ _ hq (some l) 0 a.tmps K1 ok1 _ a1 hs2) λe a2 w2 hp=>?_
     obtain ⟨E2,O2,K2,ok2,hq2,hs3,hf2⟩:=hp;have hfl2:=hf2.free (E9.1 hl3).1 (gV hs2.hp hl3) hfl.2.1 hfl.2.2;have hl4:w2.heap[l]? = some (.loop { rec .ready none with state:=.busy }):=hfl2.1.trans hl3
     -- what the round has changed
     have hok'0:∀ b,ok' b→ok b∨w.heap.size≤b∨∃ k o L,O.get k=some o∧K k=some (b,L):=λb h=>by
      rcases Ft b w.heap.size with hb | hb
      ·rcases hr.old b hb with g | g | g
       ·exact .inl g
       ·exact absurd h (hFok b g)
       ·exact .inr (.inr g)
      ·exact .inr (.inl hb)
     have fin:∀ (jump:Option Code) (lE:List (Nat × AV)) (lO:List (Nat × Ob)),ce E2 lE→bv O2 lO→(∀ p,p∈lE→bC p.1 fz=true) →
       ∃ v w',(Instr.endRound l jump).run P w2 = .ok v w'∧v = .bool jump.isNone∧FrY F W (λb=>F b∨(W.heap.size≤b∧b<w'.heap.size)) w' ∧
        RngI X1 K ok w O l (rec (if jump.isNone then .ready else .done) jump) Ds a.tmps (cZ lE) (cd lO) ok' (λb=>F b∨(W.heap.size≤b∧b<w'.heap.size)) w' K2 ok2:=by
      intro jump lE lO gE gO gz;have hsW:W.heap.size≤w2.heap.size:=EG hf1.size (by have:=hf2.size; simpa using this);have hend:=run_endRound (P:=P) jump hl4;refine ⟨_,_,hend,rfl,?_⟩;have hrr:({ { rec .ready none with state:=.busy } with state:=if jump.isNone then .ready else .done,pending:=jump }:Loop)=rec (if jump.isNone then .ready else .done) jump:=by rw[hrec]
      rw[hrr];have hlt4:=(E9.1 hl4).1
      -- blocks that stay
      have vJ:∀ k o b L,(cd (sO i g)).get k=some o→K' k=some (b,L)→F b:=hr.own;have own1:∀ k o b L,O1.get k=some o→K1 k=some (b,L)→W.heap.size≤b∨F b:=λk o b L h1 h2=>by
       rcases hf1.own k o b L h1 h2 with h | ⟨k0,o0,L0,h3,h4⟩
       ·exact .inl h
       ·exact .inr (hr.own k0 o0 b L0 h3 h4)
      have hid1:∀ b,K1.hid b→F b∨W.heap.size≤b:=λb h=>(hf1.hid b h).imp_left (hr.hid b)
      have ok1F:∀ b,ok1 b→ok' b∨F b∨W.heap.size≤b:=λb h=>by
       rcases hf1.okNew b h with (h | h) | h | ⟨k,o,L,h1,h2⟩
       ·exact (hr.okF b h).imp_right .inl
       ·exact .inl h
       ·exact .inr (.inr h)
       ·exact .inr (.inl (hr.own k o b L h1 h2))
      have own2:∀ k o b L,O2.get k=some o→K2 k=some (b,L)→F b∨W.heap.size≤b:=λk o b L h1 h2=>by
       rcases hf2.own k o b L h1 h2 with h | ⟨k0,o0,L0,h3,h4⟩
       ·exact .inr (EG hf1.size (by simpa using h))
       ·exact (own1 k0 o0 b L0 h3 h4).symm
      have hid2:∀ b,K2.hid b→F b∨W.heap.size≤b:=λb h=>by
       rcases hf2.hid b h with h | h
       ·exact hid1 b h
       ·exact .inr (EG hf1.size (by simpa using h))
      have ok2F:∀ b,ok2 b→ok' b∨F b∨W.heap.size≤b:=λb h=>by
       rcases hf2.okNew b h with h | h | ⟨k,o,L,h1,h2⟩
       ·exact ok1F b h
       ·exact .inr (.inr (EG hf1.size (by simpa using h)))
       ·rcases own1 k o b L h1 h2 with h | h
        ·exact .inr (.inr h)
        ·exact .inr (.inl h)
      have keep1:∀ b,b<W.heap.size→¬ F b→w1.heap[b]? = W.heap[b]?:=λb hb hF=>hf1.keep b hb (λk o L h1 h2=>hF (hr.own k o b L h1 h2)) λh=>hF (hr.hid b h)
      have keep2:∀ b,b<W.heap.size→¬ F b→w2.heap[b]? = W.heap[b]?:=λb hb hF=>by
       have hbl:b≠l:=λe=>hF (by rw[e]; exact hr.lF)
       rw[hf2.keep b (by have:=hf1.size; simp; omega) (λk o L h1 h2=>?_) (λh=>?_),World.putObj_heap_other hbl,keep1 b hb hF]
       ·rcases own1 k o b L h1 h2 with h | h
        ·omega
        ·exact hF h
       ·rcases hid1 b h with h | h
        ·exact hF h
        ·omega
      have kind4:∀ (b:Nat) (o:Obj),W.heap[b]? = some o→∃ o',(w2.putObj l (.loop (rec (if jump.isNone then .ready else .done) jump))).heap[b]? = some o'∧SK o o':=λb o hb=>by
       obtain ⟨o1,h1,h2⟩:=hf1.kind b o hb;obtain ⟨o2,h3,h4⟩:=gH (r':={ rec .ready none with state:=.busy }) hl2 b o1 h1;obtain ⟨o3,h5,h6⟩:=hf2.kind b o2 h3;obtain ⟨o4,h7,h8⟩:=gH (r':=rec (if jump.isNone then .ready else .done) jump) hl4 b o3 h5;exact ⟨o4,h7,h2.trans (h4.trans (h6.trans h8))⟩
      refine ⟨⟨by simpa using hsW,λb hb hF=>?_,λb h=>h.imp_right (·.1),λb h=>?_,hf2.os.trans hf1.os,hf2.tape.trans hf1.tape,hf2.output.trans hf1.output,kind4⟩,?_⟩
      ·rw[World.putObj_heap_other (λe=>hF (by rw[e]; exact hr.lF))]; exact keep2 b hb hF
      ·rcases h with h | h
       ·exact EM (hFlt b h) (by simpa using hsW)
       ·exact h.2
      have hs4:=(hs3.weak (Sub.of gE) (SubO.of gO)).putLoop hl4 ⟨hfl2.2.1,hfl2.2.2⟩ (rec (if jump.isNone then .ready else .done) jump);have hnewF:∀ b,F b∨W.heap.size≤b→b<w2.heap.size→F b∨(W.heap.size≤b∧b<(w2.putObj l (.loop (rec (if jump.isNone then .ready else .done) jump))).heap.size):=λb h hlt=>h.imp_right λh=>⟨h,by simpa using hlt⟩
      refine ⟨⟨hs3.size.symm▸hs.size,⟨[],rfl,GH,λD hD=>by simp at hD⟩,GB _,hs4.rnd,λt _=>rfl,hs4.hp,λt av h=>?_⟩,?_,World.putObj_heap_same hlt4,hr.new,⟨hfl2.2.1,hfl2.2.2⟩,λD hD=>?_,λb h=>?_,λk o b L h1 h2=>?_,λb h=>?_,.inl hr.lF,λb h=>(hr.old b h).imp_right (Or.imp_left .inl),hr.up⟩
      ·-- slots that the loop began with
       obtain ⟨v,hv,hrv⟩:=hs4.env t av h;obtain ⟨p,hp,hpt⟩:=nO h;have hz:=gz p hp;have h1:=hs3.old t (gd (by rw[←hpt]; exact hz));exact ⟨v,by rw[←h1]; exact hv,hrv⟩
      ·-- from the loop's beginning
       have nown1:∀ b,(∀ k o L,O.get k=some o→K k≠some (b,L))→b<w.heap.size→∀ k o L,(cd (sO i g)).get k=some o→K' k≠some (b,L):=λb g1 hb k o L h1 h2=>by
        rcases hr.fr.own k o b L h1 h2 with h | ⟨k0,o0,L0,h3,h4⟩
        ·omega
        ·exact g1 k0 o0 L0 h3 h4
       have nhid1:∀ b,¬ K.hid b→b<w.heap.size→¬ K'.hid b:=λb g2 hb h=>by
        rcases hr.fr.hid b h with h | h
        ·exact g2 h
        ·omega
       have hww:w.heap.size≤W.heap.size:=hr.fr.size;have hw1:W.heap.size≤w1.heap.size:=hf1.size;have nown2:∀ b,(∀ k o L,O.get k=some o→K k≠some (b,L))→b<w.heap.size→∀ k o L,O1.get k=some o→K1 k≠some (b,L):=λb g1 hb k o L h1 h2=>by
        rcases hf1.own k o b L h1 h2 with h | ⟨k0,o0,L0,h3,h4⟩
        ·omega
        ·exact nown1 b g1 hb k0 o0 L0 h3 h4
       have nhid2:∀ b,¬ K.hid b→b<w.heap.size→¬ K1.hid b:=λb g2 hb h=>by
        rcases hf1.hid b h with h | h
        ·exact nhid1 b g2 hb h
        ·omega
       have own0:∀ b,(∃ k o L,(cd (sO i g)).get k=some o∧K' k=some (b,L))→w.heap.size≤b∨∃ k o L,O.get k=some o∧K k=some (b,L):=λb ⟨k,o,L,h1,h2⟩=>hr.fr.own k o b L h1 h2
       have own01:∀ b,(∃ k o L,O1.get k=some o∧K1 k=some (b,L))→w.heap.size≤b∨∃ k o L,O.get k=some o∧K k=some (b,L):=λb ⟨k,o,L,h1,h2⟩=>by
        rcases hf1.own k o b L h1 h2 with h | h
        ·exact .inl (by omega)
        ·exact own0 b h
       refine ⟨EG hr.fr.size (by simpa using hsW),λb hb g1 g2=>?_,λb h=>hf2.okUp b (hf1.okUp b (.inl (hr.fr.okUp b h))),λb h=>?_,λk o b L g1 g2=>?_,(hf2.os.trans hf1.os).trans hr.fr.os,(hf2.tape.trans hf1.tape).trans hr.fr.tape,(hf2.output.trans hf1.output).trans hr.fr.output,λb o hb=>?_,λr hr'=>(hf2.pin r hr').trans ((hf1.pin r hr').trans (hr.fr.pin r hr')),λb h=>?_⟩
       ·have hbl:b≠l:=by omega
        rw[World.putObj_heap_other hbl,hf2.keep b (by simp; omega) (nown2 b g1 hb) (nhid2 b g2 hb),World.putObj_heap_other hbl,hf1.keep b (by omega) (nown1 b g1 hb) (nhid1 b g2 hb),hr.fr.keep b hb g1 g2]
       ·rcases hf2.okNew b h with h | h | h
        ·rcases hf1.okNew b h with (h | h) | h | h
         ·exact hr.fr.okNew b h
         ·exact hok'0 b h
         ·exact .inr (.inl (by omega))
         ·exact .inr (own0 b h)
        ·exact .inr (.inl (by simp at h; omega))
        ·exact .inr (own01 b h)
       ·rcases hf2.own k o b L (SubO.of gO k o g1) g2 with h | h
        ·exact .inl (by simp at h; omega)
        ·exact own01 b h
       ·obtain ⟨o1,h1,h2⟩:=hr.fr.kind b o hb;obtain ⟨o2,h3,h4⟩:=kind4 b o1 h1;exact ⟨o2,h3,h2.trans h4⟩
       ·rcases hf2.hid b h with h | h
        ·rcases hf1.hid b h with h | h
         ·exact hr.fr.hid b h
         ·exact .inr (by omega)
        ·exact .inr (by simp at h; omega)
      ·-- the marks
       obtain ⟨d1,d2,d3,d4⟩:=hr.ds D hD;have hDl:D≠l:=by rintro rfl; rw[hr.rec_]at d1; cases d1
       have f1:=hf1.free (E9.1 d1).1 (gv hsr.hp d1) (λh=>h.elim d3.1 (hFok D d4)) d3.2;have e1:(w1.putObj l (.loop { rec .ready none with state:=.busy })).heap[D]? = some (.deferred (some [])):=by rw[World.putObj_heap_other hDl,f1.1,d1]
       have f2:=hf2.free (E9.1 e1).1 (gv hs2.hp e1) f1.2.1 f1.2.2;exact ⟨by rw[World.putObj_heap_other hDl,f2.1,e1],d2,f2.2,.inl d4⟩
      ·rcases ok2F b h with h1 | h1
       ·exact .inl h1
       ·exact .inr (hnewF b h1 (hs3.hp.lt b h))
      ·have:=own2 k o b L (SubO.of gO k o h1) h2;exact hnewF b this (c8 hs3.hp (SubO.of gO k o h1) h2)
      ·exact hnewF b (hid2 b h) (hs3.hp.hlt b h)
     -- how the round ends
     have leave:∀ (c:Code) (lE:List (Nat × AV)) (lO:List (Nat × Ob)),ce E2 lE→bv O2 lO→(∀ p,p∈lE→bC p.1 fz=true)→Ck (pg kp OE Q) c (cZ lE) (cd lO) →
       ∃ v w',(Instr.endRound l (some c)).run P w2 = .ok v w'∧∃ b F',Ending.returned v = .returned (.bool b)∧FrY F W F' w'∧(b=true→I (i+1) ok' F' w')∧(b=false→Xs ok' F' w'):=by
      intro c lE lO g1 g2 g3 g4;obtain ⟨v,w',h1,rfl,h3,h4⟩:=fin (some c) lE lO g1 g2 g3;exact ⟨_,w',h1,false,_,rfl,h3,(λh=>by cases h),λ_=>⟨c,lE,lO,K2,ok2,g4,h4⟩⟩
     cases e with
     | normal=>
      obtain ⟨g',q1,q2,q3⟩:=hq2;obtain ⟨v,w',h1,rfl,h3,h4⟩:=fin none (sE (i+1) g') (sO (i+1) g') q2 q3 (λp hp=>hfz _ _ p hp);exact ⟨_,w',h1,true,_,rfl,h3,λ_=>⟨g',K2,ok2,q1,h4⟩,λh=>by cases h⟩
     | ret=>obtain ⟨lE,lO,q1,q2,q3,q4⟩:=hq2; exact leave .ret lE lO q1 q2 q3 q4
     | exit j=>obtain ⟨lE,lO,q1,q2,q3,q4⟩:=hq2; exact leave (.exit j) lE lO q1 q2 q3 q4
     | goto j=>obtain ⟨lE,lO,q1,q2,q3,q4⟩:=hq2; exact leave (.goto j) lE lO q1 q2 q3 q4
     | panic _=>exact hq2.elim
     | outgrown=>exact hq2.elim
    | _=>exact hq.elim
  have hfn:ge P f=true:=by simp[ge,hf,hb,hnm]
  simp only[ml,ED,Fz]at hσi;obtain ⟨i1,i2,i3⟩:=hσi;replace i1:=cQ i1;replace i2:=cQ i2
  let KI:Km:=⟨λq=>(lk (db σ) q).bind λk=>K k,F0⟩
  have hKI:∀ k q,(k,q)∈σ→KI q=K k:=λk q h=>by
   have:lk (db σ) q=some k:=fo (by rw[nv]; exact i2) (swap_mem.2 h);show (lk (db σ) q).bind _=_
   rw[this]; rfl
  have hσ:∀ k q,lk σ k=some q→KI q=K k:=λk q h=>hKI k q (fm h)
  have h2m:∀ k q,(k,q)∈σ→q≠2000000:=λk q h e=>by
   have:=Fz.1 hσ0 _ h;subst e;simp at this
  have hK20:KI 2000000=none:=by
   show (lk (db σ) 2000000).bind _=_
   cases hl:lk (db σ) 2000000 with
   | none=>rfl
   | some k=>exact absurd rfl (h2m k _ (swap_mem.1 (fm hl)))
  have hcs:∀ k o,Objs.get ((2000000,some (Ob.abs (I 0)))::bU σ O σ) k=some o→(k=2000000∧o = .abs (I 0))∨(bU σ O σ).get k=some o:=λk o h=>by
   simp only[Objs.get]at h
   cases hb:Nat.beq 2000000 k with
   | true=>rw[hb]at h; cases h; exact .inl ⟨(EA hb).symm,rfl⟩
   | false=>rw[hb]at h; exact .inr h
  have hown:∀ k o b L,Objs.get ((2000000,some (Ob.abs (I 0)))::bU σ O σ) k=some o→KI k=some (b,L)→∃ k' p,(k',k)∈σ∧O.get k'=some p∧K k'=some (b,L):=λk o b L h e=>by
   rcases hcs k o h with ⟨rfl,_⟩ | h
   ·rw[hK20]at e; cases e
   ·obtain ⟨k',p,g1,g2,_⟩:=dk h;rw[hKI k' k g1]at e;exact ⟨k',p,g1,g2,e⟩
  have hp0:Hp KI ok W1 ((2000000,some (.abs (I 0)))::bU σ O σ):=by
   refine ⟨λk o h=>?_,λk k' o o' b L L' h1 h2 e1 e2=>?_,λk o b L h e=>?_,hp1.lt,λb h=>h.1,λb h=>h.2.1,λk o b L h e hh=>?_⟩
   ·rcases hcs k o h with ⟨rfl,rfl⟩ | h
    ·exact ⟨hK20,hY.st 0,hI0⟩
    ·obtain ⟨k',p,g1,g2,rfl⟩:=dk h;refine (hp1.obs k' p g2).ren hσ (hKI k' k g1) λJ hJ=>?_
     subst hJ;have:bw σ O=true:=FV.2 ⟨_,g1,by simp[g2,ny]⟩;rw[hσa]at this; cases this
   ·obtain ⟨a1,p,g1,g2,g3⟩:=hown k o b L h1 e1;obtain ⟨a2,p',g1',g2',g3'⟩:=hown k' o' b L' h2 e2;have:=hs.hp.inj a1 a2 p p' b L L' g2 g2' g3 g3';subst this;have b1:=fo i1 g1;have b2:=fo i1 g1';rw[b1]at b2;cases b2; rfl
   ·obtain ⟨a1,p,g1,g2,g3⟩:=hown k o b L h e;exact hs.hp.apart a1 p b L g2 g3
   ·obtain ⟨a1,p,g1,g2,g3⟩:=hown k o b L h e;exact hh.2.2 ⟨a1,k,p,L,g1,g2,g3⟩
  have hlb1:RelAs KI ok W1 ((caps.map .c).map (fV σ)) lb:=
   lh (λx v=>ib hσ) (hlb.mono (λ_ h=>h) (λb _ hb=>hsame b hb) hsz λr _=>hsh r)
  have hrun:=(hit yv I Xs rfl hY).run _ ok W1 (yv::lb) hp0 (RelAs.cons (.c (.cl (.cb rfl))) hlb1);have harr:(#[yv]++lb.toArray:Array Value)=(yv::lb).toArray:=by apply GJ; simp
  refine ⟨l,Ds.map kX,W1,{ target:=.fn (.func f) lb.toArray,args:=#[yv] },W1,f,(yv::lb).toArray,W1,he,?_,λ_ _=>trivial,?_,λh=>(by cases h),?_⟩
  ·simp only[resolve,hgv];simp[go_sem,yv]
  ·rw[←harr];simp[invoke,exec_call hfn]
  ·refine (qZ R _).2 ?_;rcases hrun with ⟨_,hrun⟩ | ⟨v,w',h,_⟩
   ·refine hrun.mono λe w' hh=>?_
    obtain ⟨v,K',ok',rfl,_,hpE,hfE⟩:=hh;obtain ⟨_,_,hJ⟩:=hpE.obs 2000000 (.abs λok F w=>I items.length ok F w∨Xs ok F w) rfl;have hkq:∀ K2:Km,(∀ r,PIN≤r→K2 r=K r)→∀ q,q∈kp→q≠2000000∧K2 q=K' q∧K2 q=K q∧∃ o,O.get q=some o:=λK2 hpin q hq=>by
     have:=Fz.1 hkp q hq;rw[ED]at this;have hm:(q,q)∈σ:=by
      cases hl:lk σ q with
      | none=>rw[hl]at this; cases this.1
      | some r=>
       rw[hl]at this;have e:=EA (show Nat.beq r q=true from this.1);subst e;exact fm hl
     have hge:PIN≤q:=EX (i3 _ hm);refine ⟨h2m q q hm,?_,hpin q hge,?_⟩
     ·rw[hpin q hge,←hKI q q hm]; exact (hfE.pin q hge).symm
     ·cases ho:O.get q with
      | none=>rw[ho]at this; cases this.2
      | some o=>exact ⟨o,rfl⟩
    rw[ED]at hOE
    -- the state behind the loop
    have out:∀ (st:LoopState) (pe:Option Code) (lE:List (Nat × AV)) (lO:List (Nat × Ob)) (K2:Km) (okc:Nat→Prop),RngI X1 K ok w O l (rec st pe) Ds a.tmps (cZ lE) (cd lO) ok' K'.hid w' K2 okc→st ≠ .busy →
      ∃ w4,(Instr.endLoop l).run P w' = .ok pe w4∧Sim ⟨N,R,B,old⟩ K2 (λb=>okc b∨ok' b) w4 (cZ lE) (dZ (kp.map λq=>(q,q)) OE++cd lO) { a with defers:=Ds.map kX++a.defers }∧Fr K ok w O K2 (λb=>okc b∨ok' b) w4 (dZ (kp.map λq=>(q,q)) OE++cd lO):=by
     intro st pe lE lO K2 okc hr hst;have hend:(Instr.endLoop l).run P w' = .ok pe (w'.putObj l (.loop { rec st pe with state:=.exhausted })):=by
      have h:=run_endLoop (P:=P) hr.rec_ (by rw[hrec]; exact hst);subst hrec;exact h
     refine ⟨_,hend,?_⟩;obtain ⟨hsj,hfj⟩:=hr.join rfl hpE (hkq K2 hr.fr.pin) (cQ hOE.1) hOE.2;have hfree:yP K2 (λb=>okc b∨ok' b) l:=⟨λh=>h.elim hr.free.1 (hpE.hok l hr.lF),hr.free.2⟩;have hs4:=hsj.putLoop hr.rec_ hfree { rec st pe with state:=.exhausted };have hfr4:Fr K ok w O K2 (λb=>okc b∨ok' b) (w'.putObj l (.loop { rec st pe with state:=.exhausted })) (dZ (kp.map λq=>(q,q)) OE++cd lO):=
      ⟨by simpa using hfj.size,λb hb g1 g2=>by rw[World.putObj_heap_other (by have:=hr.new; omega)]; exact hfj.keep b hb g1 g2,hfj.okUp,hfj.okNew,hfj.own,hfj.os,hfj.tape,hfj.output,λb o hb=>by
       obtain ⟨o1,h1,h2⟩:=hfj.kind b o hb;obtain ⟨o2,h3,h4⟩:=gH (r':={ rec st pe with state:=.exhausted }) hr.rec_ b o1 h1;exact ⟨o2,h3,h2.trans h4⟩,hfj.pin,hfj.hid⟩
     refine ⟨⟨hs.size,?_,EG hs.base hfr4.size,hs.rnd' hfr4,hs.old,hs4.hp,hs4.env⟩,hfr4⟩;obtain ⟨Ds0,d1,d2,d3⟩:=hs.defers' hfr4;obtain ⟨Ds1,e1,e2,e3⟩:=hs.defers;have hDe:Ds0=Ds1:=by
      have:Ds0.map kX=Ds1.map kX:=d1.symm.trans e1;have inj:∀ {l m:List Nat},l.map kX=m.map kX→l=m:=by
       intro l
       induction l with
       | nil=>intro m h; cases m with
        | nil=>rfl
        | cons _ _=>cases h
       | cons x l ih=>
        intro m h
        cases m with
        | nil=>cases h
        | cons y m=>
         simp only[Fm,GM]at h;have hxy:x=y:=by simpa [kX] using h.1
         rw[hxy,ih h.2]
      exact inj this
     subst hDe;refine ⟨Ds++Ds0,by simp[d1],?_,λD hD=>?_⟩
     ·refine List.nodup_append.2 ⟨hnd,d2,λx hx y hy e=>?_⟩;subst e;have:=(hDs x hx).2;have:=(E9.1 (e3 x hy).2.1).1;omega
     ·rcases Fl.1 hD with h | h
      ·obtain ⟨g1,g2,g3,g4⟩:=hr.ds D h;have hDl:D≠l:=by rintro rfl; rw[hr.rec_]at g1; cases g1
       exact ⟨EG hs.base g2,by rw[World.putObj_heap_other hDl]; exact g1,λh=>h.elim g3.1 (hpE.hok D g4),g3.2⟩
      ·exact d3 D h
    rcases hJ with ⟨g,K2,okc,hinv,hr⟩ | ⟨c,lE,lO,K2,okc,hj,hr⟩
    ·obtain ⟨w4,h1,h2,h3⟩:=out .ready none _ _ K2 okc hr (by simp);exact ⟨none,w4,h1,_,_,K2,_,after g hinv,h2,h3⟩
    ·obtain ⟨w4,h1,h2,h3⟩:=out .done (some c) _ _ K2 okc hr (by simp);refine ⟨some c,w4,h1,?_⟩
     cases c with
     | ret=>exact wpIn_ret ⟨_,_,K2,_,hj,h2,h3⟩
     | exit j=>exact wpIn_exit ⟨_,_,K2,_,hj,h2,h3⟩
     | goto j=>exact wpIn_goto ⟨_,_,K2,_,hj,h2,h3⟩
     | _=>exact hj.elim
   ·rw[exec_call hfn]at h; cases h
 cases hR:R with
 | none=>
  subst hR;refine main (w.heap.size+1) [w.heap.size] _ w.heap.size (run_enterLoop_outer _ _ _ _ _) ?_ (by simp) (λD hD=>?_) (by omega) (λb hb=>?_) (by simp; try omega) rfl rfl rfl
  ·have:=World.alloc_heap_new (w.alloc (.deferred (some []))) (.loop { state:=.ready,pending:=none,fn:=fnid,tmps:=a.tmps,params:=ps.toArray,assign:=assign,body:=body,defers:=w.heap.size });rwa [World.size_alloc]at this
  ·simp only[Fq]at hD;subst hD;exact ⟨(RowKit.Below.heap_alloc _ _ _ (by simp)).trans (World.alloc_heap_new w _),EE _⟩
  ·rw[RowKit.Below.heap_alloc _ _ _ (by simp; omega),RowKit.Below.heap_alloc _ _ _ hb]
 | some l0=>
  subst hR;obtain ⟨r0,hr0⟩:=hs.rnd l0 rfl;refine main w.heap.size [] _ r0.defers (run_enterLoop_inner hr0 _ _ _ _ _) (World.alloc_heap_new w _) GH (λD hD=>by simp at hD) (EE _) (λb hb=>RowKit.Below.heap_alloc _ _ _ hb) (by simp) rfl rfl rfl
theorem CS (hT:T.ok P) (hm:P.follows .mixedOrders=true) {g:Operand} {ps:Array Tmp} {assign body:Code} {Q:PQ} {f:FuncId} {fn:Func} {c0:Code} {caps:List PC} {items:List (List A1)}
  (hit:CtI P f (caps.map .c) items) (hf:P.funcs[f]? = some fn) (hb:fn.body=some c0) (hnm:(fn.name == "runtime.NumGoroutine")=false)
  (hg:E.ev g=some (.c (.fn f caps))) (hcl:closedL caps=true)
  (hlen:∀ args,args∈items→args.length=ps.toList.length∧aA args=true) (fz:List Nat) (hps:(jc ps.toList&&ps.toList.all λt=>Nat.blt t N.n && !(bC t fz))=true)
  {G:Type} (inv:Nat→G→Prop) (sE:Nat→G→List (Nat × AV)) (sO:Nat→G→List (Nat × Ob)) (g0:G) (h0:inv 0 g0) (hE:ce E (sE 0 g0)) (hO:bv O (sO 0 g0)) (hfz:∀ i g,((sE i g).all λp=>bC p.1 fz)=true)
  (round:∀ i g args,items[i]? = some args→inv i g→bV P T ⟨N.n,fz⟩ assign (ku ps.toList args++cZ (sE i g)) (cd (sO i g)) (ga (λE1 O1=>bV P T ⟨N.n,fz⟩ body E1 O1 (t5 fz Q (λE' O'=>∃ g',inv (i+1) g'∧ce E' (sE (i+1) g')∧bv O' (sO (i+1) g')))) (λ_ _ _=>False)))
  (after:∀ g,inv items.length g→Q .normal (cZ (sE items.length g)) (cd (sO items.length g))):WI P N E O (.rangeFunc g ps assign body) Q:=by
 have h:=W.rangeO (P:=P) (T:=T) (N:=N) (E:=E) (O:=O) (Q:=Q) (ps:=ps.toList) (σ:=[]) (OE:=[]) (kp:=[]) hT hm hg hf hb hnm (by rw[ed (jh hcl)]; exact hit) rfl rfl rfl rfl rfl hlen fz hps inv sE sO g0 h0 hE hO (λi g p hp=>by
  have:=hfz i g;rw[Fz]at this;exact this p hp) round after
 exact .of h
theorem yR (hT:T.ok P) (hm:P.follows .mixedOrders=true) {g:Operand} {ps:Array Tmp} {assign body:Code} {Q:PQ} {f:FuncId} {fn:Func} {c0:Code} {caps:List PC} {items:List (List A1)} {OT OE:Objs} {as_:List A1} (σ:List (Nat × Nat)) (kp:List Nat)
  (hit:CtIO P f OT as_ items OE) (hf:P.funcs[f]? = some fn) (hb:fn.body=some c0) (hnm:(fn.name == "runtime.NumGoroutine")=false)
  (hg:E.ev g=some (.c (.fn f caps))) (ho:bU σ O σ=OT) (has:(caps.map .c).map (fV σ)=as_) (hσ:(ml σ&&((σ.all λp=>!(Nat.beq p.2 2000000))&&(!(bw σ O)&&(kp.all λq=>eqO (lk σ q) q&&xt (O.get q)))))=true) (hOE:(jc (OE.map (·.1))&&fM OE)=true)
  (hlen:∀ args,args∈items→args.length=ps.toList.length∧aA args=true) (fz:List Nat) (hps:(jc ps.toList&&ps.toList.all λt=>Nat.blt t N.n && !(bC t fz))=true)
  {G:Type} (inv:Nat→G→Prop) (sE:Nat→G→List (Nat × AV)) (sO:Nat→G→List (Nat × Ob)) (g0:G) (h0:inv 0 g0) (hE:ce E (sE 0 g0)) (hO:bv (O.delL (σ.map (·.1))) (sO 0 g0)) (hfz:∀ i g,((sE i g).all λp=>bC p.1 fz)=true)
  (round:∀ i g args,items[i]? = some args→inv i g→bV P T ⟨N.n,fz⟩ assign (ku ps.toList args++cZ (sE i g)) (cd (sO i g)) (ga (λE1 O1=>bV P T ⟨N.n,fz⟩ body E1 O1 (t5 fz (pg kp OE Q) (λE' O'=>∃ g',inv (i+1) g'∧ce E' (sE (i+1) g')∧bv O' (sO (i+1) g')))) (λ_ _ _=>False)))
  (after:∀ g,inv items.length g→pg kp OE Q .normal (cZ (sE items.length g)) (cd (sO items.length g))):WI P N E O (.rangeFunc g ps assign body) Q:=by
 subst ho has;simp only[ED,FX]at hσ;have h:=W.rangeO (P:=P) (T:=T) (N:=N) (E:=E) (O:=O) (Q:=Q) (ps:=ps.toList) hT hm hg hf hb hnm hit hσ.1 hσ.2.1 hσ.2.2.1 hσ.2.2.2 hOE hlen fz hps inv sE sO g0 h0 hE hO (λi g p hp=>by
  have:=hfz i g;rw[Fz]at this;exact this p hp) round after
 exact .of h
end
end
section
section
variable {P:Program} {T:Ty} {N:Nx} {E:Env} {O:Objs} {c:Code} {Q Q':PQ}
theorem W.post (h:W P N E O c Q) (hq:∀ (X:Cx) e E' O' K' ok' w' a',Q e E' O'→Sim X K' ok' w' E' O' a'→∃ E2 O2 K2 ok2,Q' e E2 O2∧Sim X K2 ok2 w' E2 O2 a'∧Fr K' ok' w' O' K2 ok2 w' O2):W P N E O c Q':=
 λR B old K ok w a hs=>wpIn_mono (h R B old K ok w a hs) λe a' w' ⟨E',O',K',ok',h1,h2,h3⟩=>by
  obtain ⟨E2,O2,K2,ok2,g1,g2,g3⟩:=hq _ _ _ _ _ _ _ _ h1 h2;exact ⟨E2,O2,K2,ok2,g1,g2,h3.trans g3⟩
theorem Sim.abs {X:Cx} {K:Km} {ok:Nat→Prop} {w:World} {a:Act} {k:Nat} {J J':St} (hs:Sim X K ok w E O a) (h:O.get k=some (.abs J)) (hJ:∀ ok F w,J ok F w→J' ok F w) (hst:kV J') :
  Sim X K ok w E (O.set k (.abs J')) a∧Fr K ok w O K ok w (O.set k (.abs J')):=by
 have hsub:∀ t o,(O.set k (.abs J')).get t=some o→∃ o',O.get t=some o':=λt o g=>by
  rw[Objs.get_set]at g;split at g
  ·rename_i e; subst e; exact ⟨_,h⟩
  ·exact ⟨o,g⟩
 refine ⟨⟨hs.size,hs.defers,hs.base,hs.rnd,hs.old,⟨λt o g=>?_,λt t' o o' b L L' g1 g2=>?_,λt o b L g=>?_,hs.hp.lt,hs.hp.hlt,hs.hp.hok,λt o b L g=>?_⟩,hs.env⟩,
  ⟨EE _,λ_ _ _ _=>rfl,λ_ h=>h,λ_ h=>.inl h,λt o b L g1 g2=>by obtain ⟨o',g3⟩:=hsub t o g1; exact .inr ⟨t,o',L,g3,g2⟩,rfl,rfl,rfl,λ_ o h=>⟨o,h,SK.refl o⟩,λ_ _=>rfl,λ_ h=>.inl h⟩⟩
 ·rw[Objs.get_set]at g;split at g
  ·rename_i e;subst e;cases g;obtain ⟨a1,_,a3⟩:=hs.hp.obs k _ h;exact ⟨a1,hst,hJ _ _ _ a3⟩
  ·exact hs.hp.obs t o g
 ·obtain ⟨p,q1⟩:=hsub t o g1;obtain ⟨p',q2⟩:=hsub t' o' g2;exact hs.hp.inj t t' p p' b L L' q1 q2
 ·obtain ⟨p,q1⟩:=hsub t o g; exact hs.hp.apart t p b L q1
 ·obtain ⟨p,q1⟩:=hsub t o g; exact hs.hp.how t p b L q1
def Cl (OE:Objs) (I:Nat→St) (X:St) (n:Nat):PQ:=λe _ O2=>(match e with | .normal=>True | .ret=>True | _=>False)∧(O2.get 2000000=some (.abs (I n))∨O2.get 2000000=some (.abs X))∧SubO OE O2
def DK (I:Nat→St) (X:St) (n:Nat):PQ:=λe _ O2=>(match e with | .normal=>True | .ret=>True | _=>False)∧(O2.get 2000000=some (.abs (I n))∨O2.get 2000000=some (.abs X))
theorem CtIO.go {f:FuncId} {fn:Func} {args:List A1} {items:List (List A1)} {OT OE:Objs} (hf:P.funcs[f]? = some fn) (hb:fn.body=some c) (hn:(fn.name == "runtime.NumGoroutine")=false) (hN:fn.ntmps=N.n) (hl:Nat.ble (args.length+1) N.n=true) (hr:fn.results.toList=[])
  (h:∀ (v:Value) (I:Nat→St) (X:St),one v=true→Yields P v items I X→W P N (jR 0 (.c (.cb v)::args)) ((2000000,some (.abs (I 0)))::OT) c (Cl OE I X items.length)) (hfz:N.fz=[]:=by rfl):CtIO P f OT args items OE:=by
 intro v I X hv hY;refine Ct.of hf hb hn hN hl ((h v I X hv hY).post λY e E' O' K' ok' w' a' hq hs=>?_) hfz;obtain ⟨h1,h2,hOE⟩:=hq;have hst:kV (λok F w=>I items.length ok F w∨X ok F w):=λok ok1 F w w1 hj g1 g2 g3 g4 g5 g6 g7 g8=>
  hj.imp (λhj=>hY.st _ ok ok1 F w w1 hj g1 g2 g3 g4 g5 g6 g7 g8) (λhj=>hY.stX ok ok1 F w w1 hj g1 g2 g3 g4 g5 g6 g7 g8)
 have fin:∀ J:St,O'.get 2000000=some (.abs J)→(∀ ok F w,J ok F w→I items.length ok F w∨X ok F w)→_:=λJ hJ hi=>hs.abs hJ hi hst
 have goal:∃ (J:St),O'.get 2000000=some (.abs J)∧∀ ok F w,J ok F w→I items.length ok F w∨X ok F w:=by
  rcases h2 with h2 | h2
  ·exact ⟨_,h2,λ_ _ _ h=>.inl h⟩
  ·exact ⟨_,h2,λ_ _ _ h=>.inr h⟩
 obtain ⟨J,hJ,hi⟩:=goal;obtain ⟨g1,g2⟩:=fin J hJ hi;refine ⟨E',_,K',ok',⟨h1,λk o hk=>?_,[],by rw[hr]; trivial,HJ⟩,g1,g2⟩;simp only[Objs.get]at hk;rw[Objs.get_set]
 cases hbq:Nat.beq 2000000 k with
 | true=>
  rw[hbq]at hk;have e:=EA hbq;rw[if_pos e];exact hk
 | false=>
  rw[hbq]at hk;rw[if_neg λe=>by rw[e,EW]at hbq; cases hbq];exact hOE k o hk
theorem CtI.go (hT:T.ok P) (hm:P.follows .mixedOrders=true) {f:FuncId} {fn:Func} {args:List A1} {items:List (List A1)} (hf:P.funcs[f]? = some fn) (hb:fn.body=some c) (hn:(fn.name == "runtime.NumGoroutine")=false) (hN:fn.ntmps=N.n) (hl:Nat.ble (args.length+1) N.n=true) (hr:fn.results.toList=[])
  (h:∀ (v:Value) (I:Nat→St) (X:St),one v=true→Yields P v items I X→bV P T N c (jR 0 (.c (.cb v)::args)) [(2000000,some (.abs (I 0)))] (DK I X items.length)) (hfz:N.fz=[]:=by rfl):CtI P f args items:=
 CtIO.go hf hb hn hN hl hr (λv I X hv hY=>(aL hT hm c _ _ _ (h v I X hv hY)).mono λ_ _ _ ⟨h1,h2⟩=>⟨h1,h2,λk o hk=>by simp[Objs.get]at hk⟩) hfz
theorem CtIO.walk (hT:T.ok P) (hm:P.follows .mixedOrders=true) {f:FuncId} {fn:Func} {args:List A1} {items:List (List A1)} {OT OE:Objs} (hf:P.funcs[f]? = some fn) (hb:fn.body=some c) (hn:(fn.name == "runtime.NumGoroutine")=false) (hN:fn.ntmps=N.n) (hl:Nat.ble (args.length+1) N.n=true) (hr:fn.results.toList=[])
  (h:∀ (v:Value) (I:Nat→St) (X:St),one v=true→Yields P v items I X→bV P T N c (jR 0 (.c (.cb v)::args)) ((2000000,some (.abs (I 0)))::OT) (Cl OE I X items.length)) (hfz:N.fz=[]:=by rfl):CtIO P f OT args items OE:=
 CtIO.go hf hb hn hN hl hr (λv I X hv hY=>aL hT hm c _ _ _ (h v I X hv hY)) hfz
end
end
section
theorem Cm {x:Nat} (_:0≤x):(x:Int).fdiv (2^min (1:Int).toNat 64)=((x/2:Nat):Int):=by
 rw[GR _ (by decide)];show (x:Int)/2=_
 omega
theorem Ei {b:Bool} {X Y:Prop} (hb:b=true) (h:X):(bif b then X else Y):=by subst hb; exact h
theorem Bc {caps:List PC}:aA (caps.map .c)=closedL caps:=by
 induction caps with
 | nil=>rfl
 | cons x l ih=>simp only[Fm,aA,closedL,ih]; rfl
theorem v9 (n k:Nat) (hn:n≤1000000) (hk:k≤n) {g:FuncId} {caps:List PC} (hcl:closedL caps=true) (p:Nat→Bool) (hp:∀ i,i<n→Ct P g (.c (nI .i64 i)::caps.map .c) [.c (.sc (.bool (p i)))]) (h1:∀ i,i<k→p i=false) (h2:∀ i,k≤i→i<n→p i=true) :
  Ct P 209 [.c (nI .i64 n),.c (.fn g caps)] [.c (nI .i64 k)]:=by
 refine Ct.go aj aa (N:=26) Tryz.func209 rfl rfl rfl rfl ?_;refine aw aj aa (G:=Nat × Nat) (λ(i,j)=>i≤k∧k≤j∧j≤n) (λ(i,j)=>[(1,.c (.fn g caps)),(5,.c (nI .i64 i)),(6,.c (nI .i64 j))]) (λ_=>[]) (λ(i,j)=>j-i)
  (0,n) ⟨by omega,hk,by omega⟩ ⟨rfl,rfl,rfl,HJ⟩ HJ (λ_:Unit=>True) (λ_=>[(5,.c (nI .i64 k))]) (λ_=>[]) (λ(i,j) hi=>?_) (λ_ _=>?_)
 ·obtain ⟨i1,i2,i3⟩:=hi;refine ah (λh5=>?_) (λh5=>?_)
  ·refine X1 ((i+j:Nat):Int) (wI (by simp) (by omega) (by omega)) ?_;refine X1 ((i+j:Nat):Int) (wU rfl (by omega) (by omega)) ?_;refine .intro (by omega) (X1 (((i+j)/2:Nat):Int) (Cm (by omega)) (.intro ⟨by omega,by omega⟩ ?_));refine X1 (((i+j)/2:Nat):Int) (wI rfl (by omega) (by omega)) ?_;refine Ei ?_ ?_
   ·show ((true&&aA (caps.map .c))&&true)=true
    rw[Bc,hcl]; rfl
   ·refine X1 _ (hp ((i+j)/2) (by omega)) ?_;refine aP (λh6=>?_) (λh6=>?_)
    ·have h7:p ((i+j)/2)=false:=by simpa using h6
     have h8:(i+j)/2<k:=by
      apply GI;intro hle;rw[h2 _ hle (by omega)]at h7; cases h7
     refine X1 (((i+j)/2+1:Nat):Int) (wI (by simp) (by omega) (by omega)) ?_;exact ⟨((i+j)/2+1,j),⟨by omega,i2,i3⟩,by show j-((i+j)/2+1)<j-i; omega,⟨rfl,rfl,rfl,HJ⟩,HJ⟩
    ·have h7:p ((i+j)/2)=true:=by simpa using h6
     have h8:k≤(i+j)/2:=by
      apply FK;intro hlt;rw[h1 _ hlt]at h7; cases h7
     exact ⟨(i,(i+j)/2),⟨i1,h8,by omega⟩,by show (i+j)/2-i<j-i; omega,⟨rfl,rfl,rfl,HJ⟩,HJ⟩
  ·have e:i=k:=by omega
   subst e;exact ⟨(),HJ,⟨rfl,HJ⟩,HJ⟩
 ·exact ⟨HJ,r1 rfl,HJ⟩
theorem CT (l:List Cnt) (h:List Int) (i:Nat) (hl:CLim l) (hh:h.length≤1000000) (hi:i<l.length):Ct P 210 [.c (nI .i64 i),.c (.rd [cSl l]),.c (.rd [iSl h])] [.c (.sc (.bool (decide (aH l[i].1 h>0))))]:=by
 refine Ct.go aj aa (N:=13) Tryz.func210 rfl rfl rfl rfl ?_;refine .intro (by omega) (X1 _ (bs rfl hi) ?_);refine X1 _ (fO l[i].1 h (hl.at' hi) hh) ?_;refine .intro rfl ?_;exact ⟨HJ,r1 rfl,HJ⟩
theorem yS {l:List Cnt} {a b:Nat}:((cj l).drop a).take b=cj ((l.drop a).take b):=by simp[cj,List.map_take,List.map_drop]
def eQ (h:List Int) (x:Cnt):Bool:=decide (h.length≤x.1.length)&&decide (x.1.take h.length=h)
def lr (h:List Int) (x:Cnt):Bool:=decide (x.1.length=h.length+1)
abbrev cA (x:Cnt):List A1:=[.ag [iSl x.1,eI .i64 x.2]]
def rW (M:List Cnt) (h:List Int):List (List A1):=((M.takeWhile (eQ h)).filter (lr h)).map cA
theorem qg {p:Cnt→Bool}:∀ {M:List Cnt} {i:Nat},i≤M.length→(∀ x,x∈M.take i→p x=true)→M.takeWhile p=M.take i++(M.drop i).takeWhile p
 | M,0,_,_=>by simp
 | [],i+1,h,_=>by simp at h
 | x::M,i+1,h,hp=>by
  have h0:=hp x (by simp);rw[GP h0,qg (M:=M) (i:=i) (by simpa using h) (λy hy=>hp y (by simp[hy]))];simp
theorem wa (l:List Cnt) (h:List Int) (k:Nat) (hl:CLim l) (hh:h.length≤1000000) (hk:k≤l.length) (h1:∀ (i:Nat) (hi:i<l.length),i<k→¬ aH l[i].1 h>0) (h2:∀ (i:Nat) (hi:i<l.length),k≤i→aH l[i].1 h>0) :
  CtI P 208 [.c (.rd [cSl l]),.c (.rd [iSl h])] (rW (l.drop k) h):=by
 have hll:=hl.len;refine CtI.go aj aa (N:=49) Tryz.func208 rfl rfl rfl rfl rfl (λv I X hv hY=>?_);refine .intro (by rw[cRow_len]; omega) ?_;rw[cRow_len];refine X1 [.rd [cSl l],.rd [iSl h]] rfl ?_;refine X1 _ (v9 l.length k (by omega) hk (caps:=[.rd [cSl l],.rd [iSl h]]) rfl (λi=>if hi:i<l.length then decide (aH l[i].1 h>0) else true) (λi hi=>by simp only[hi,dite_true]; exact CT l h i hl hh hi) (λi hi=>by
  have hi':i<l.length:=by omega
  simp only[hi',dite_true]; exact decide_eq_false (h1 i hi' hi)) (λi hi hi'=>by simp only[hi',dite_true]; exact decide_eq_true (h2 i hi' hi))) ?_
 refine ⟨k,l.length,by simp,by simp[cRow_len],hk,by rw[cRow_len]; omega,?_⟩;rw[yS,Fj (show (l.drop k).length≤l.length-k by rw[Ff]; exact EE _)];have hM:CLim (l.drop k):=⟨by rw[Ff]; omega,λx hx=>hl.g x (GW hx)⟩;generalize l.drop k=M at *
 have hMl:=hM.len;refine .intro (by rw[cRow_len]; omega) ?_;rw[cRow_len];refine ci aj aa (λi:Nat=>i≤M.length∧∀ x,x∈M.take i→eQ h x=true) (λi=>[(0,.c (.cb v)),(2,.c (.rd [iSl h])),(13,.c (cSl M)),(14,.c (nI .i64 M.length)),(15,.c (nI .i64 i))])
  (λi=>[(2000000,.abs (I ((M.take i).filter (lr h)).length))]) (λi=>M.length-i) 0 ⟨by omega,λx hx=>by simp at hx⟩ ⟨rfl,rfl,rfl,rfl,rfl,HJ⟩ ⟨rfl,HJ⟩ (λi hi=>?_)
 ·obtain ⟨i1,i2⟩:=hi;refine ah (λh5=>?_) (λh5=>?_)
  ·have hi':i<M.length:=by omega
   have hxl:=hM.at' hi';have hx:=bs (l:=M) (i:=(i:Int)) (n:=i) rfl hi';have htw:=qg (p:=eQ h) i1 i2;rw[E8 hi']at htw;have hs:M.take (i+1)=M.take i++[M[i]]:=EH hi';have hend:eQ h M[i]=false→(rW M h).length=((M.take i).filter (lr h)).length:=λhp=>by
    rw[List.takeWhile_cons_of_neg (by rw[hp]; simp),Gs]at htw;unfold rW;rw[htw,Fs]
   have hget:eQ h M[i]=true→lr h M[i]=true→(rW M h)[((M.take i).filter (lr h)).length]? = some (cA M[i]):=λhp ho=>by
    rw[GP hp]at htw;unfold rW;rw[htw,FN,Fo ho,FM,EJ (by simp)];simp
   generalize M[i]=x at *
   refine .intro (by omega) (X1 _ hx ?_);refine .intro (by rw[ac]; omega) ?_;refine .intro (by rw[ac]; omega) ?_;rw[ac,ac];refine ah (λh6=>?_) (λh6=>?_)
   ·refine .intro rfl ?_;have hp:eQ h x=false:=by unfold eQ; rw[decide_eq_false (by omega),HA]
    exact ⟨HJ,.inl (by rw[hend hp]; rfl)⟩
   ·refine .intro (by rw[ac]; omega) ?_;rw[ac];refine ⟨0,h.length,by simp,by simp,by omega,by rw[ac]; omega,?_⟩;rw[iRow_sub,F3,Gv];refine X1 _ (rG (x.1.take h.length) h (by rw[EQ]; omega) hh) ?_;refine .intro rfl ?_;refine aP (λh7=>?_) (λh7=>?_)
    ·have h7':¬ x.1.take h.length=h:=by simpa using h7
     have hp:eQ h x=false:=by unfold eQ; rw[decide_eq_false h7',Hn]
     exact ⟨HJ,.inl (by rw[hend hp]; rfl)⟩
    ·have h7':x.1.take h.length=h:=by simpa using h7
     have hp:eQ h x=true:=by unfold eQ; rw[decide_eq_true (by omega),decide_eq_true h7']; rfl
     have hi2:∀ y,y∈M.take (i+1)→eQ h y=true:=λy hy=>by
      rw[hs]at hy;rcases Fl.1 hy with g | g
      ·exact i2 y g
      ·rw[Fq.1 g]; exact hp
     refine .intro (by rw[ac]; omega) ?_;refine .intro (by rw[ac]; omega) ?_;rw[ac,ac];refine X1 ((h.length+1:Nat):Int) (wI (by simp) (by omega) (by omega)) ?_;refine aU (λh8=>?_) (λh8=>?_)
     ·have ho:lr h x=true:=decide_eq_true (by omega);refine ⟨rW M h,I,X,((M.take i).filter (lr h)).length,hY,rfl,hget hp ho,?_,?_⟩
      ·refine X1 ((i+1:Nat):Int) (wI1 (by omega)) ?_;exact ⟨i+1,⟨by omega,hi2⟩,by omega,⟨rfl,rfl,rfl,rfl,rfl,HJ⟩,⟨by rw[hs,FN,Fo ho,EC]; rfl,HJ⟩⟩
      ·exact ⟨HJ,.inr rfl⟩
     ·have ho:lr h x=false:=decide_eq_false (by omega);refine X1 ((i+1:Nat):Int) (wI1 (by omega)) ?_;exact ⟨i+1,⟨by omega,hi2⟩,by omega,⟨rfl,rfl,rfl,rfl,rfl,HJ⟩,⟨by rw[hs,FN,Fh (by rw[ho]; simp),List.filter_nil,Gs]; rfl,HJ⟩⟩
  ·have e:i=M.length:=by omega
   subst e;have:=qg (p:=eQ h) (EE _) i2;rw[F9,List.takeWhile_nil,Gs]at this;refine ⟨HJ,.inl ?_⟩;unfold rW;rw[this,Fs];rfl
theorem t6 (l:List Cnt) (h:List Int):Ct P 189 [.c (cSl l),.c (iSl h)] [.c (.fn 208 [.rd [cSl l],.rd [iSl h]])]:=by
 refine Ct.go aj aa (N:=6) Tryz.func189 rfl rfl rfl rfl ?_;refine X1 [.ad 2 0,.ad 3 0] rfl ?_;exact ⟨HJ,r1 rfl,HJ⟩
def mo (M:List Cnt) (h:List Int):List Cnt:=(M.takeWhile (eQ h)).filter (lr h)
theorem yT (l:List Cnt) (h:List Int) (k:Nat) (hl:CLim l) (hh:h.length≤1000000) (hk:k≤l.length) (h1:∀ (i:Nat) (hi:i<l.length),i<k→¬ aH l[i].1 h>0) (h2:∀ (i:Nat) (hi:i<l.length),k≤i→aH l[i].1 h>0) (ht:tot l≤4611686018427387904) :
  Ct P 183 [.c (cSl l),.c (iSl h)] [.ag (dx (mo (l.drop k) h))]:=by
 have hB1:(mo (l.drop k) h).length≤1000000:=by
  have a1:=FB (lr h) ((l.drop k).takeWhile (eQ h));have a2:=(List.takeWhile_sublist (l:=l.drop k) (eQ h)).length_le;have a3:=hl.len;rw[Ff]at a2;unfold mo;omega
 have hB2:∀ x,x∈mo (l.drop k) h→x.1.length≤1000000:=λx hx=>hl.g x (GW ((List.takeWhile_sublist _).subset (Hj.1 hx).1))
 have hB3:tot (mo (l.drop k) h)≤4611686018427387904:=by
  have a1:=de (lr h) ((l.drop k).takeWhile (eQ h));have a2:tot ((l.drop k).takeWhile (eQ h))≤tot (l.drop k):=by
   have e:=iP ((l.drop k).takeWhile (eQ h)) ((l.drop k).dropWhile (eQ h));rw[List.takeWhile_append_dropWhile]at e;have:=cF ((l.drop k).dropWhile (eQ h));omega
  have a3:=iP (l.take k) (l.drop k);rw[GN]at a3;have:=cF (l.take k);unfold mo;omega
 have hit:=wa l h k hl hh hk h1 h2;have hitems:rW (l.drop k) h=(mo (l.drop k) h).map cA:=rfl;refine Ct.go aj aa (N:=14) Tryz.func183 rfl rfl rfl rfl ?_;refine X1 _ (t6 l h) ?_;rw[hitems]at hit;generalize mo (l.drop k) h=B at *
 refine CS aj aa (caps:=[.rd [cSl l],.rd [iSl h]]) hit Tryz.func208 rfl rfl rfl rfl (λargs ha=>by
  obtain ⟨x,_,rfl⟩:=Fd.1 ha;exact ⟨rfl,rfl⟩) [4,5] rfl (G:=Unit) (λi _=>i≤B.length) (λ_ _=>[(4,.c (.ad 4 0)),(5,.c (.ad 5 0))])
  (λi _=>[(4,.var [eI .i64 0,eI .i64 0,eI .i64 0,eI .i64 0,eI .i64 0,eI .i64 0,eI .i64 0]),(5,.var (dx (B.take i)))]) () (by omega) ⟨rfl,rfl,HJ⟩ ⟨rfl,rfl,HJ⟩ (λ_ _=>rfl) (λi _ args hg hi=>?_) (λ_ hi=>?_)
 ·rw[EP]at hg
  cases hx:B[i]? with
  | none=>rw[hx]at hg; cases hg
  | some x=>
   rw[hx]at hg;cases hg;obtain ⟨hlt,hxe⟩:=EF.1 hx;have hs:B.take (i+1)=B.take i++[x]:=by rw[EH hlt,hxe]
   have hxl:=hB2 x (by rw[←hxe]; exact EO hlt);have t1:=nN B (i+1);rw[hs]at t1;refine X2 (.upd 5) ?_;refine ⟨_,_,rS (B.take i) x (by rw[EQ]; omega) hxl (by omega),?_⟩;exact ⟨(),by omega,⟨rfl,rfl,HJ⟩,⟨rfl,by rw[hs]; rfl,HJ⟩⟩
 ·rw[Fs,E7];exact ⟨HJ,rc rfl,HJ⟩
theorem rX (x:Cnt) (g:List Int) (hx:x.1.length≤1000000) (hg:g.length≤1000000):Ct P 174 [.ag [iSl x.1,eI .i64 x.2],.c (iSl g)] [.c (eI .i64 (aH x.1 g))]:=by
 refine Ct.go aj aa (N:=9) Tryz.func174 rfl rfl rfl rfl ?_;refine X1 _ (fO x.1 g hx hg) ?_;exact ⟨HJ,r1 rfl,HJ⟩
def atK (l:List Cnt) (g:List Int) (k:Nat):Bool:=match l[k]? with | some x=>aH x.1 g==0 | none=>false
theorem CU (l:List Cnt) (g:List Int) (k:Nat) (hl:CLim l) (hg:g.length≤1000000) (hk:k≤l.length) (h1:∀ (i:Nat) (hi:i<l.length),i<k→aH l[i].1 g<0) (h2:∀ (i:Nat) (hi:i<l.length),k≤i→¬ aH l[i].1 g<0) :
  Ct P 173 [.c (cSl l),.c (iSl g),.c (.fn 174 [])] [.c (nI .i64 k),.c (.sc (.bool (atK l g k)))]:=by
 have hll:=hl.len;refine Ct.go aj aa (N:=49) Tryz.func173 rfl rfl rfl rfl ?_;refine .intro (by rw[cRow_len]; omega) ?_;rw[cRow_len];refine aw aj aa (G:=Nat × Nat) (λ(i,j)=>i≤k∧k≤j∧j≤l.length) (λ(i,j)=>[(0,.c (cSl l)),(1,.c (iSl g)),(2,.c (.fn 174 [])),(8,.c (nI .i64 l.length)),(9,.c (nI .i64 i)),(10,.c (nI .i64 j))]) (λ_=>[]) (λ(i,j)=>j-i)
  (0,l.length) ⟨by omega,hk,by omega⟩ ⟨rfl,rfl,rfl,rfl,rfl,rfl,HJ⟩ HJ (λ_:Unit=>True) (λ_=>[(0,.c (cSl l)),(1,.c (iSl g)),(2,.c (.fn 174 [])),(8,.c (nI .i64 l.length)),(9,.c (nI .i64 k))]) (λ_=>[]) (λ(i,j) hi=>?_) (λ_ _=>?_)
 ·obtain ⟨i1,i2,i3⟩:=hi;refine ah (λh5=>?_) (λh5=>?_)
  ·have hm:(i+j)/2<l.length:=by omega
   refine X1 ((i+j:Nat):Int) (wI (by simp) (by omega) (by omega)) ?_;refine X1 ((i+j:Nat):Int) (wU rfl (by omega) (by omega)) ?_;refine .intro (by omega) (X1 (((i+j)/2:Nat):Int) (Cm (by omega)) (.intro ⟨by omega,by omega⟩ ?_));refine X1 (((i+j)/2:Nat):Int) (wI rfl (by omega) (by omega)) ?_;refine .intro (by omega) (X1 _ (bs rfl hm) ?_);refine X1 _ (rX l[(i+j)/2] g (hl.at' hm) hg) ?_;refine ah (λh6=>?_) (λh6=>?_)
   ·have h8:(i+j)/2<k:=by
     apply GI;intro hle;exact h2 _ hm hle h6
    refine X1 (((i+j)/2+1:Nat):Int) (wI (by simp) (by omega) (by omega)) ?_;exact ⟨((i+j)/2+1,j),⟨by omega,i2,i3⟩,by show j-((i+j)/2+1)<j-i; omega,⟨rfl,rfl,rfl,rfl,rfl,rfl,HJ⟩,HJ⟩
   ·have h8:k≤(i+j)/2:=by
     apply FK;intro hlt;exact h6 (h1 _ hm hlt)
    exact ⟨(i,(i+j)/2),⟨i1,h8,by omega⟩,by show (i+j)/2-i<j-i; omega,⟨rfl,rfl,rfl,rfl,rfl,rfl,HJ⟩,HJ⟩
  ·have e:i=k:=by omega
   subst e;exact ⟨(),HJ,⟨rfl,rfl,rfl,rfl,rfl,HJ⟩,HJ⟩
 ·refine ah (λh5=>?_) (λh5=>?_)
  ·have hm:k<l.length:=by omega
   have ha:atK l g k=(aH l[k].1 g==0):=by unfold atK; rw[EY hm]
   refine .intro (by omega) (X1 _ (bs rfl hm) ?_);refine X1 _ (rX l[k] g (hl.at' hm) hg) ?_;exact ⟨HJ,r1 rfl,r1 (by rw[ha]; rfl),HJ⟩
  ·have ha:atK l g k=false:=by unfold atK; rw[EZ (by omega)]
   rw[ha];exact ⟨HJ,r1 rfl,r1 rfl,HJ⟩
theorem yU (l:List Cnt) (g:List Int) (k:Nat) (hl:CLim l) (hg:g.length≤1000000) (hk:k≤l.length) (h1:∀ (i:Nat) (hi:i<l.length),i<k→aH l[i].1 g<0) (h2:∀ (i:Nat) (hi:i<l.length),k≤i→¬ aH l[i].1 g<0) :
  Ct P 129 [.c (cSl l),.c (iSl g)] [.c (eI .i64 (if atK l g k=true then (k:Int) else -1))]:=by
 refine Ct.go aj aa (N:=16) Tryz.func129 rfl rfl rfl rfl ?_;refine X1 _ (CU l g k hl hg hk h1 h2) ?_;refine aP (λh=>?_) (λh=>?_)
 ·have h':¬ atK l g k=true:=by simpa using h
  rw[if_neg h'];exact ⟨HJ,r1 rfl,HJ⟩
 ·have h':atK l g k=true:=by simpa using h
  rw[if_pos h'];exact ⟨HJ,r1 rfl,HJ⟩
def kU (g:List Int):List UInt8:=g.flatMap λv=>[UInt8.ofNat (v.toNat/65536),UInt8.ofNat (v.toNat/256),UInt8.ofNat v.toNat]
def qh (g:List Int):ByteArray:=⟨(kU g).toArray⟩
def bR (l:List UInt8):List (List PC):=l.map λb=>[.sc (.int .u8 (b.toNat:Int))]
theorem CV (l:List UInt8):(bR l).length=l.length:=by simp[bR]
theorem t7:∀ (g:List Int),(kU g).length=3*g.length
 | []=>rfl
 | v::g=>by
  have:kU (v::g)=[UInt8.ofNat (v.toNat/65536),UInt8.ofNat (v.toNat/256),UInt8.ofNat v.toNat]++kU g:=rfl;rw[this,EC,t7 g];simp; omega
theorem Be (g:List Int) (v:Int):kU (g++[v])=kU g++[UInt8.ofNat (v.toNat/65536),UInt8.ofNat (v.toNat/256),UInt8.ofNat v.toNat]:=by
 unfold kU; rw[List.flatMap_append]; simp
theorem ph (l:List UInt8):ax (bR l):=by
 intro el h;obtain ⟨x,_,rfl⟩:=Fd.1 h;rfl
def du (g:List Int):Bool:=g.all λv=>decide (0≤v)&&decide (v<16777216)
theorem u8w (n:Nat):IntKind.u8.wrap (n:Int)=((UInt8.ofNat n).toNat:Int):=by
 simp[IntKind.wrap,IntKind.signed,IntKind.bits]
theorem DL {v:Int} (h:0≤v):v.fdiv (2^min (16:Int).toNat 64)=((v.toNat/65536:Nat):Int):=by
 rw[GR _ (by decide)];show v/65536=_
 omega
theorem Ej {v:Int} (h:0≤v):v.fdiv (2^min (8:Int).toNat 64)=((v.toNat/256:Nat):Int):=by
 rw[GR _ (by decide)];show v/256=_
 omega
theorem mE (g:List Int) (hg:g.length≤1000000):Ct P 182 [.c (iSl g)] [.c (.sc (.string (if du g=true then qh g else .empty))),.c (eI .i64 (if du g=true then 0 else 8))]:=by
 refine Ct.go aj aa (N:=37) Tryz.func182 rfl rfl rfl rfl ?_;refine .intro (by rw[ac]; omega) ?_;rw[ac];refine X1 ((3*g.length:Nat):Int) (wI (by simp) (by omega) (by omega)) ?_;refine .intro (by omega) (.intro (by omega) (.intro (by omega) (.intro (.inl (by decide)) ?_)));refine .intro (by rw[ac]; omega) ?_;rw[ac];refine aw aj aa (λi:Nat=>i≤g.length∧du (g.take i)=true) (λi=>[(2,.c (.sc (.string .empty))),(3,.c (eI .i64 0)),(4,.c (.ow 10 1 (3*i))),(11,.c (iSl g)),(12,.c (nI .i64 g.length)),(13,.c (nI .i64 i))])
  (λi=>[(10,.row 1 (bR (kU (g.take i))))]) (λi=>g.length-i)
  0 ⟨by omega,rfl⟩ ⟨rfl,rfl,rfl,rfl,rfl,rfl,HJ⟩ ⟨rfl,HJ⟩ (λ_:Unit=>du g=true) (λ_=>[(4,.c (.ow 10 1 (3*g.length)))]) (λ_=>[(10,.row 1 (bR (kU g)))]) (λi hi=>?_) (λ_ ho=>?_)
 ·obtain ⟨i1,i2⟩:=hi;refine ah (λh5=>?_) (λh5=>?_)
  ·have hi':i<g.length:=by omega
   have hs:g.take (i+1)=g.take i++[g[i]]:=EH hi';have hx:g.getD i 0=g[i]:=by simp[EB,hi']
   have hmem:g[i]∈g:=EO hi';have hno:¬ (0≤g[i]∧g[i]<16777216)→¬ du g=true:=λh hk=>by
    unfold du at hk;rw[Fz]at hk;have:=hk _ hmem;simp only[ED,decide_eq_true_eq]at this;exact h this
   refine .intro (by omega) (X1 _ (bl (n:=i) rfl hi') ?_);rw[hx];generalize g[i]=v at *
   refine ah (λh6=>?_) (λh6=>?_)
   ·have hn:=hno (by omega);rw[if_neg hn,if_neg hn];exact ⟨HJ,r1 rfl,r1 rfl,HJ⟩
   ·refine ah (λh7=>?_) (λh7=>?_)
    ·have hn:=hno (by omega);rw[if_neg hn,if_neg hn];exact ⟨HJ,r1 rfl,r1 rfl,HJ⟩
    ·refine .intro (by omega) (X1 _ (DL (by omega)) (.intro ⟨by omega,by omega⟩ ?_));refine X1 _ (u8w (v.toNat/65536)) ?_;refine .intro (by omega) (X1 _ (Ej (by omega)) (.intro ⟨by omega,by omega⟩ ?_));refine X1 _ (u8w (v.toNat/256)) ?_;have hv:v=((v.toNat:Nat):Int):=by omega
     refine X1 ((UInt8.ofNat v.toNat).toNat:Int) (by rw[hv]; exact u8w v.toNat) ?_;have hl:(bR (kU (g.take i))).length=3*i:=by rw[CV,t7,EQ]; omega
     refine ⟨hl.symm,by rw[hl]; show (3*i+3+768)*1≤_; omega,by rw[hl]; show 3*i+3≤_; omega,ph _,ph [UInt8.ofNat (v.toNat/65536),UInt8.ofNat (v.toNat/256),UInt8.ofNat v.toNat],?_⟩;refine X1 ((i+1:Nat):Int) (wI1 (by omega)) ?_;refine ⟨i+1,⟨by omega,?_⟩,by omega,⟨rfl,rfl,owE ?_,rfl,rfl,rfl,HJ⟩,⟨aB ?_,HJ⟩⟩
     ·rw[hs];unfold du at i2 ⊢;rw[List.all_append,i2];simp; omega
     ·rw[EC,hl]; show 3*i+3=_; omega
     ·rw[hs,Be]; unfold bR; rw[FM]; rfl
  ·have e:i=g.length:=by omega
   subst e;rw[E7]at i2 ⊢;exact ⟨(),i2,⟨rfl,HJ⟩,⟨rfl,HJ⟩⟩
 ·rw[if_pos ho,if_pos ho];refine X1 (qh g) rfl (.intro ?_ ?_)
  ·show (kU g).toArray.size≤_
   simp[t7]; omega
  ·exact ⟨HJ,r1 rfl,r1 rfl,HJ⟩
end
end Go.Proofs.YtgceikecdedfcaaGreat.Pv
namespace Go.Proofs.YtgceikecdedfcaaGreat.Pv.SrtI
open Go Go.Sort
abbrev El:={l:List Int // l.length≤1000000}
instance:Inhabited El:=⟨⟨[],by simp⟩⟩
def SZ:Nat:=1
abbrev EN (x:El):List PC:=[iSl x.1]
abbrev VL (x:El):A1:=.c (iSl x.1)
variable (g:FuncId) (cm:El→El→Int)
abbrev lt (cm:El→El→Int) (x y:El):Bool:=decide (cm x y<0)
def row (d:Array El):List (List PC):=d.toList.map EN
theorem row_len {d:Array El}:(row d).length=d.size:=by simp[row]
theorem row_get {d:Array El} {i:Int} {n:Nat} (h0:i=n) (h:n<d.size):(row d)[i.toNat]? = some (EN d[n]!):=by
 subst h0;simp[row,h]
theorem row_set {d:Array El} {i:Int} {n:Nat} {y:El} (h0:i=n):(row d).set i.toNat (EN y)=row (d.setIfInBounds n y):=by
 subst h0;simp[row,List.map_set]
theorem row_closed {d:Array El}:ax (row d):=by
 intro el h;obtain ⟨x,_,rfl⟩:=Fd.1 h;rfl
theorem swp_size {d:Array El} {i j:Nat}:(swp d i j).size=d.size:=by simp[swp]
theorem row_swp {d:Array El} {i j:Int} {m n:Nat} (h1:i=m) (h2:j=n):((row d).set i.toNat (EN d[n]!)).set j.toNat (EN d[m]!)=row (swp d m n):=by
 rw[row_set h1,row_set h2]; rfl
abbrev dO (d:Array El):Nat × Option Ob:=(1000000,some (.row SZ (row d)))
abbrev dA (d:Array El):A1:=.c (.ow 1000000 SZ d.size)
abbrev sO (s:Nat):Nat × Option Ob:=(1000001,some (.var [nI .i64 s]))
theorem row_get2 {d:Array El} {i j:Int} {m n:Nat} {y:El} (h0:i=m) (h1:j=n) (h:n<d.size):((row d).set i.toNat (EN y))[j.toNat]? = some (EN (d.setIfInBounds m y)[n]!):=by
 rw[row_set h0]; exact row_get h1 (by simpa using h)
theorem order2_le (d:Array El) (a b s:Nat):(order2 (lt cm) d a b s).2.2≤s+1∧((order2 (lt cm) d a b s).1=a∧(order2 (lt cm) d a b s).2.1=b∨(order2 (lt cm) d a b s).1=b∧(order2 (lt cm) d a b s).2.1=a):=by
 unfold order2; split<;>simp
variable (hc:∀ x y,Ct P g [VL x,VL y] [.c (eI .i64 (cm x y))])
include hc
theorem order2_ct (d:Array El) (a b s:Nat) (ha:a<d.size) (hb:b<d.size) (hd:d.size≤1000000) (hs:s≤1000000) :
  CtO P 219 [dO d,sO s] [dA d,.c (nI .i64 a),.c (nI .i64 b),.c (.ad 1000001 0),.c (.fn g [])] [dO d,sO (order2 (lt cm) d a b s).2.2] [.c (nI .i64 (order2 (lt cm) d a b s).1),.c (nI .i64 (order2 (lt cm) d a b s).2.1)]:=by
 refine Ct.io aj aa (N:=32) Tryz.func219 rfl rfl rfl rfl ?_;refine .intro (by omega) (.intro (by omega) (X1 _ (row_get rfl hb) ?_));refine .intro (by omega) (.intro (by omega) (X1 _ (row_get rfl ha) ?_));refine X1 _ (hc _ _) ?_;refine .intro rfl ?_;refine ah (λh=>?_) (λh=>?_)
 ·have e:order2 (lt cm) d a b s=(b,a,s+1):=if_pos (decide_eq_true h);rw[e];refine X1 ((s+1:Nat):Int) (wI (by simp) (by omega) (by omega)) ?_;exact ⟨HJ,SubO.of (l:=[(1000000,.row _ _),(1000001,.var _)]) ⟨rfl,rfl,HJ⟩,r1 rfl,r1 rfl,HJ⟩
 ·have e:order2 (lt cm) d a b s=(a,b,s):=if_neg (by simpa using h);rw[e];exact ⟨HJ,SubO.of (l:=[(1000000,.row _ _),(1000001,.var _)]) ⟨rfl,rfl,HJ⟩,r1 rfl,r1 rfl,HJ⟩
theorem median_ct (d:Array El) (a b c s:Nat) (ha:a<d.size) (hb:b<d.size) (hcc:c<d.size) (hd:d.size≤1000000) (hs:s≤1000) :
  CtO P 215 [dO d,sO s] [dA d,.c (nI .i64 a),.c (nI .i64 b),.c (nI .i64 c),.c (.ad 1000001 0),.c (.fn g [])] [dO d,sO (median (lt cm) d a b c s).2] [.c (nI .i64 (median (lt cm) d a b c s).1)]:=by
 have l1:=order2_le (cm:=cm) d a b s;have e:median (lt cm) d a b c s=((order2 (lt cm) d (order2 (lt cm) d a b s).1 (order2 (lt cm) d (order2 (lt cm) d a b s).2.1 c (order2 (lt cm) d a b s).2.2).1 (order2 (lt cm) d (order2 (lt cm) d a b s).2.1 c (order2 (lt cm) d a b s).2.2).2.2).2.1,(order2 (lt cm) d (order2 (lt cm) d a b s).1 (order2 (lt cm) d (order2 (lt cm) d a b s).2.1 c (order2 (lt cm) d a b s).2.2).1 (order2 (lt cm) d (order2 (lt cm) d a b s).2.1 c (order2 (lt cm) d a b s).2.2).2.2).2.2):=rfl;rw[e];have c1:=order2_ct g cm hc d a b s ha hb hd (by omega);generalize order2 (lt cm) d a b s=p1 at *
 have l2:=order2_le (cm:=cm) d p1.2.1 c p1.2.2;have c2:=order2_ct g cm hc d p1.2.1 c p1.2.2 (by omega) hcc hd (by omega);generalize order2 (lt cm) d p1.2.1 c p1.2.2=p2 at *
 have l3:=order2_le (cm:=cm) d p1.1 p2.1 p2.2.2;have c3:=order2_ct g cm hc d p1.1 p2.1 p2.2.2 (by omega) (by omega) hd (by omega);generalize order2 (lt cm) d p1.1 p2.1 p2.2.2=p3 at *
 refine Ct.io aj aa (N:=41) Tryz.func215 rfl rfl rfl rfl ?_;refine X2 (.own [(1000000,1000000),(1000001,1000001)] [(1000000,1000000),(1000001,1000001)]) ?_;refine ⟨_,_,c1,?_⟩;refine X2 (.own [(1000000,1000000),(1000001,1000001)] [(1000000,1000000),(1000001,1000001)]) ?_;refine ⟨_,_,c2,?_⟩;refine X2 (.own [(1000000,1000000),(1000001,1000001)] [(1000000,1000000),(1000001,1000001)]) ?_;refine ⟨_,_,c3,?_⟩;exact ⟨HJ,SubO.of (l:=[(1000000,.row _ _),(1000001,.var _)]) ⟨rfl,rfl,HJ⟩,r1 rfl,HJ⟩
theorem medAdj_ct (d:Array El) (a s:Nat) (ha:1≤a) (hb:a+1<d.size) (hd:d.size≤1000000) (hs:s≤1000) :
  CtO P 214 [dO d,sO s] [dA d,.c (nI .i64 a),.c (.ad 1000001 0),.c (.fn g [])] [dO d,sO (medianAdjacent (lt cm) d a s).2] [.c (nI .i64 (medianAdjacent (lt cm) d a s).1)]:=by
 have c1:=median_ct g cm hc d (a-1) a (a+1) s (by omega) (by omega) (by omega) hd hs;refine Ct.io aj aa (N:=18) Tryz.func214 rfl rfl rfl rfl ?_;refine X1 ((a-1:Nat):Int) (wI (by omega) (by omega) (by omega)) ?_;refine X1 ((a+1:Nat):Int) (wI (by simp) (by omega) (by omega)) ?_;refine X2 (.own [(1000000,1000000),(1000001,1000001)] [(1000000,1000000),(1000001,1000001)]) ?_;refine ⟨_,_,c1,?_⟩;exact ⟨HJ,SubO.of (l:=[(1000000,.row _ _),(1000001,.var _)]) ⟨rfl,rfl,HJ⟩,r1 rfl,HJ⟩
omit hc
def hV:Hint→Int
 | .unknown=>0
 | .increasing=>1
 | .decreasing=>2
theorem median_le (d:Array El) (a b c s:Nat):(median (lt cm) d a b c s).2≤s+3∧((median (lt cm) d a b c s).1=a∨(median (lt cm) d a b c s).1=b∨(median (lt cm) d a b c s).1=c):=by
 have l1:=order2_le cm d a b s;unfold median;generalize order2 (lt cm) d a b s=p1 at *
 have l2:=order2_le cm d p1.2.1 c p1.2.2;simp only;generalize order2 (lt cm) d p1.2.1 c p1.2.2=p2 at *
 have l3:=order2_le cm d p1.1 p2.1 p2.2.2;generalize order2 (lt cm) d p1.1 p2.1 p2.2.2=p3 at *
 exact ⟨by omega,by omega⟩
theorem quo4 {x:Int} {n:Nat} (h:x=n):x.tdiv 4=((n/4:Nat):Int):=by
 subst h; rw[Fx (by omega)]; omega
include hc
theorem choose_ct (d:Array El) (a b:Nat) (hab:a<b) (hb:b≤d.size) (hd:d.size≤1000000) :
  CtO P 194 [dO d] [dA d,.c (nI .i64 a),.c (nI .i64 b),.c (.fn g [])] [dO d] [.c (nI .i64 (choosePivot (lt cm) d a b).1),.c (eI .i64 (hV (choosePivot (lt cm) d a b).2))]:=by
 refine Ct.io aj aa (N:=63) Tryz.func194 rfl rfl rfl rfl ?_;refine X1 ((b-a:Nat):Int) (wI (by omega) (by omega) (by omega)) ?_;refine .intro (by omega) (X1 _ (quo4 rfl) (.intro ⟨by omega,by omega⟩ ?_));refine X1 (((b-a)/4*1:Nat):Int) (wI (by simp) (by omega) (by omega)) ?_;refine X1 ((a+(b-a)/4*1:Nat):Int) (wI (by simp) (by omega) (by omega)) ?_;refine .intro (by omega) (X1 _ (quo4 rfl) (.intro ⟨by omega,by omega⟩ ?_));refine X1 (((b-a)/4*2:Nat):Int) (wI (by simp) (by omega) (by omega)) ?_;refine X1 ((a+(b-a)/4*2:Nat):Int) (wI (by simp) (by omega) (by omega)) ?_;refine .intro (by omega) (X1 _ (quo4 rfl) (.intro ⟨by omega,by omega⟩ ?_));refine X1 (((b-a)/4*3:Nat):Int) (wI (by simp) (by omega) (by omega)) ?_;refine X1 ((a+(b-a)/4*3:Nat):Int) (wI (by simp) (by omega) (by omega)) ?_;refine ah (λh8=>?_) (λh8=>?_)
 ·refine ah (λh50=>?_) (λh50=>?_)
  ·have e:choosePivot (lt cm) d a b=((median (lt cm) d (medianAdjacent (lt cm) d (a+(b-a)/4*1) 0).1 (medianAdjacent (lt cm) d (a+(b-a)/4*2) (medianAdjacent (lt cm) d (a+(b-a)/4*1) 0).2).1 (medianAdjacent (lt cm) d (a+(b-a)/4*3) (medianAdjacent (lt cm) d (a+(b-a)/4*2) (medianAdjacent (lt cm) d (a+(b-a)/4*1) 0).2).2).1 (medianAdjacent (lt cm) d (a+(b-a)/4*3) (medianAdjacent (lt cm) d (a+(b-a)/4*2) (medianAdjacent (lt cm) d (a+(b-a)/4*1) 0).2).2).2).1,
     if (median (lt cm) d (medianAdjacent (lt cm) d (a+(b-a)/4*1) 0).1 (medianAdjacent (lt cm) d (a+(b-a)/4*2) (medianAdjacent (lt cm) d (a+(b-a)/4*1) 0).2).1 (medianAdjacent (lt cm) d (a+(b-a)/4*3) (medianAdjacent (lt cm) d (a+(b-a)/4*2) (medianAdjacent (lt cm) d (a+(b-a)/4*1) 0).2).2).1 (medianAdjacent (lt cm) d (a+(b-a)/4*3) (medianAdjacent (lt cm) d (a+(b-a)/4*2) (medianAdjacent (lt cm) d (a+(b-a)/4*1) 0).2).2).2).2=0 then .increasing else
     if (median (lt cm) d (medianAdjacent (lt cm) d (a+(b-a)/4*1) 0).1 (medianAdjacent (lt cm) d (a+(b-a)/4*2) (medianAdjacent (lt cm) d (a+(b-a)/4*1) 0).2).1 (medianAdjacent (lt cm) d (a+(b-a)/4*3) (medianAdjacent (lt cm) d (a+(b-a)/4*2) (medianAdjacent (lt cm) d (a+(b-a)/4*1) 0).2).2).1 (medianAdjacent (lt cm) d (a+(b-a)/4*3) (medianAdjacent (lt cm) d (a+(b-a)/4*2) (medianAdjacent (lt cm) d (a+(b-a)/4*1) 0).2).2).2).2=12 then .decreasing else .unknown):=by
    simp only[choosePivot,if_pos (show b-a≥8 by omega),if_pos (show b-a≥50 by omega)]
   rw[e];have m1:=median_le cm d (a+(b-a)/4*1-1) (a+(b-a)/4*1) (a+(b-a)/4*1+1) 0;change (medianAdjacent (lt cm) d (a+(b-a)/4*1) 0).2≤_∧_ at m1;have c1:=medAdj_ct g cm hc d (a+(b-a)/4*1) 0 (by omega) (by omega) hd (by omega);have m1':(medianAdjacent (lt cm) d (a+(b-a)/4*1) 0).1<d.size:=by
    show (median (lt cm) d _ _ _ _).1<_
    have:=m1.2; omega
   have m1'':=m1.1;generalize medianAdjacent (lt cm) d (a+(b-a)/4*1) 0=p1 at *
   have m2:=median_le cm d (a+(b-a)/4*2-1) (a+(b-a)/4*2) (a+(b-a)/4*2+1) p1.2;have c2:=medAdj_ct g cm hc d (a+(b-a)/4*2) p1.2 (by omega) (by omega) hd (by omega);have m2':(medianAdjacent (lt cm) d (a+(b-a)/4*2) p1.2).1<d.size:=by
    show (median (lt cm) d _ _ _ _).1<_
    have:=m2.2; omega
   have m2'':(medianAdjacent (lt cm) d (a+(b-a)/4*2) p1.2).2≤p1.2+3:=m2.1;generalize medianAdjacent (lt cm) d (a+(b-a)/4*2) p1.2=p2 at *
   have m3:=median_le cm d (a+(b-a)/4*3-1) (a+(b-a)/4*3) (a+(b-a)/4*3+1) p2.2;have c3:=medAdj_ct g cm hc d (a+(b-a)/4*3) p2.2 (by omega) (by omega) hd (by omega);have m3':(medianAdjacent (lt cm) d (a+(b-a)/4*3) p2.2).1<d.size:=by
    show (median (lt cm) d _ _ _ _).1<_
    have:=m3.2; omega
   have m3'':(medianAdjacent (lt cm) d (a+(b-a)/4*3) p2.2).2≤p2.2+3:=m3.1;generalize medianAdjacent (lt cm) d (a+(b-a)/4*3) p2.2=p3 at *
   have c4:=median_ct g cm hc d p1.1 p2.1 p3.1 p3.2 m1' m2' m3' hd (by omega);generalize median (lt cm) d p1.1 p2.1 p3.1 p3.2=p4 at *
   refine X2 (.own [(1000000,1000000),(11,1000001)] [(1000000,1000000),(1000001,11)]) ?_;refine ⟨_,_,c1,?_⟩;refine X2 (.own [(1000000,1000000),(11,1000001)] [(1000000,1000000),(1000001,11)]) ?_;refine ⟨_,_,c2,?_⟩;refine X2 (.own [(1000000,1000000),(11,1000001)] [(1000000,1000000),(1000001,11)]) ?_;refine ⟨_,_,c3,?_⟩;refine X2 (.own [(1000000,1000000),(11,1000001)] [(1000000,1000000),(1000001,11)]) ?_;refine ⟨_,_,c4,?_⟩;refine aU (λh0=>?_) (λh0=>?_)
   ·rw[if_pos (by omega)];exact ⟨HJ,SubO.of (l:=[(1000000,.row _ _)]) ⟨rfl,HJ⟩,r1 rfl,r1 rfl,HJ⟩
   ·rw[if_neg (by omega)];refine aU (λh1=>?_) (λh1=>?_)
    ·rw[if_pos (by omega)];exact ⟨HJ,SubO.of (l:=[(1000000,.row _ _)]) ⟨rfl,HJ⟩,r1 rfl,r1 rfl,HJ⟩
    ·rw[if_neg (by omega)];exact ⟨HJ,SubO.of (l:=[(1000000,.row _ _)]) ⟨rfl,HJ⟩,r1 rfl,r1 rfl,HJ⟩
  ·have e:choosePivot (lt cm) d a b=((median (lt cm) d (a+(b-a)/4*1) (a+(b-a)/4*2) (a+(b-a)/4*3) 0).1,if (median (lt cm) d (a+(b-a)/4*1) (a+(b-a)/4*2) (a+(b-a)/4*3) 0).2=0 then .increasing else if (median (lt cm) d (a+(b-a)/4*1) (a+(b-a)/4*2) (a+(b-a)/4*3) 0).2=12 then .decreasing else .unknown):=by
    simp only[choosePivot,if_pos (show b-a≥8 by omega),if_neg (show ¬ (b-a≥50) by omega)]
   rw[e];have c1:=median_ct g cm hc d (a+(b-a)/4*1) (a+(b-a)/4*2) (a+(b-a)/4*3) 0 (by omega) (by omega) (by omega) hd (by omega);generalize median (lt cm) d (a+(b-a)/4*1) (a+(b-a)/4*2) (a+(b-a)/4*3) 0=p4 at *
   refine X2 (.own [(1000000,1000000),(11,1000001)] [(1000000,1000000),(1000001,11)]) ?_;refine ⟨_,_,c1,?_⟩;refine aU (λh0=>?_) (λh0=>?_)
   ·rw[if_pos (by omega)];exact ⟨HJ,SubO.of (l:=[(1000000,.row _ _)]) ⟨rfl,HJ⟩,r1 rfl,r1 rfl,HJ⟩
   ·rw[if_neg (by omega)];refine aU (λh1=>?_) (λh1=>?_)
    ·rw[if_pos (by omega)];exact ⟨HJ,SubO.of (l:=[(1000000,.row _ _)]) ⟨rfl,HJ⟩,r1 rfl,r1 rfl,HJ⟩
    ·rw[if_neg (by omega)];exact ⟨HJ,SubO.of (l:=[(1000000,.row _ _)]) ⟨rfl,HJ⟩,r1 rfl,r1 rfl,HJ⟩
 ·have e:choosePivot (lt cm) d a b=(a+(b-a)/4*2,.increasing):=by
   simp only[choosePivot,if_neg (show ¬ (b-a≥8) by omega),if_true]
  rw[e];exact ⟨HJ,SubO.of (l:=[(1000000,.row _ _)]) ⟨rfl,HJ⟩,r1 rfl,r1 rfl,HJ⟩
omit hc
theorem reverse_ct (d:Array El) (a b:Nat) (hab:a<b) (hb:b≤d.size) (hd:d.size≤1000000) :
  CtO P 195 [dO d] [dA d,.c (nI .i64 a),.c (nI .i64 b),.c (.fn g [])] [dO (reverseRange d a b)] []:=by
 refine Ct.io aj aa (N:=34) Tryz.func195 rfl rfl rfl rfl ?_;refine X1 ((b-1:Nat):Int) (wI (by omega) (by omega) (by omega)) ?_;refine ci aj aa (G:=Nat × Nat × Array El) (λ(i,j,d')=>reverseLoop i j d'=reverseRange d a b∧d'.size=d.size∧j<d.size) (λ(i,j,_)=>[(0,.c (.ow 1000000 SZ d.size)),(8,.c (nI .i64 i)),(9,.c (nI .i64 j))]) (λ(_,_,d')=>[(1000000,.row SZ (row d'))]) (λ(i,j,_)=>j-i)
  (a,b-1,d) ⟨rfl,rfl,by omega⟩ ⟨rfl,rfl,rfl,HJ⟩ ⟨rfl,HJ⟩ (λ(i,j,d') hi=>?_)
 obtain ⟨i1,i2,i3⟩:=hi;refine ah (λh5=>?_) (λh5=>?_)
 ·rw[reverseLoop,if_pos (by omega)]at i1;refine .intro (by omega) (.intro (by omega) (X1 _ (row_get (n:=j) rfl (by omega)) ?_));refine .intro (by omega) (.intro (by omega) (X1 _ (row_get (n:=i) rfl (by omega)) ?_));refine .intro (by omega) (.intro (by omega) (X1 _ (row_get (n:=i) rfl (by omega)) ?_));refine .intro (by omega) (.intro (by omega) (X1 _ (row_get2 (y:=d'[j]!) (m:=i) (n:=j) rfl rfl (by omega)) ?_));refine .intro rfl ?_;refine X1 ((i+1:Nat):Int) (wI1 (by omega)) ?_;refine X1 ((j-1:Nat):Int) (wI (by omega) (by omega) (by omega)) ?_;exact ⟨(i+1,j-1,swp d' i j),⟨i1,by rw[swp_size]; exact i2,by omega⟩,by show j-1-(i+1)<j-i; omega,⟨rfl,rfl,rfl,HJ⟩,⟨aB (row_swp (m:=i) (n:=j) rfl rfl),HJ⟩⟩
 ·rw[reverseLoop,if_neg (by omega)]at i1;rw[←i1];exact ⟨HJ,SubO.of (l:=[(1000000,.row _ _)]) ⟨rfl,HJ⟩,HJ⟩
end Go.Proofs.YtgceikecdedfcaaGreat.Pv.SrtI
