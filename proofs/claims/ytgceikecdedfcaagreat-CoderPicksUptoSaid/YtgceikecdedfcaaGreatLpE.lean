/- Parts of a proof, joined: PvL PvM PvN PvQ. -/
import Derived.Test.YtgceikecdedfcaaGreatLpD
namespace Go.Proofs.YtgceikecdedfcaaGreat.Pv
open Go
section
theorem jC {q k:Nat} {o:Ob} {l:List (Nat × Ob)}:ed q ((k,o)::l)=if k=q then some o else ed q l:=by
 simp only[ed];by_cases h:k=q
 ·subst h; simp
 ·have hb:Nat.beq k q=false:=by cases hb:Nat.beq k q with | false=>rfl | true=>exact absurd (Eu hb) h
  rw[hb,cond_false,if_neg h]
theorem rz {O:Objs} {eff:Eff} {q:Nat}:(eff.O O).get q=if eff.hk q then eff.at' q else O.get q:=by
 have nil:ed q []=none:=rfl;have one:∀ (O:Objs) (k:Nat) (o:Ob),(O.set k o).get q=if (ed q [(k,o)]).isSome=true then ed q [(k,o)] else O.get q:=λO k o=>by
  rw[jC,nil];by_cases h:k=q
  ·subst h; rw[Objs.get_set]; simp
  ·rw[Objs.get_set]; simp[h]
 cases eff with
 | no=>simp[Eff.O,Eff.hk,Eff.at',Eff.prs,ed]
 | new k o=>exact one O k o
 | upd k o=>exact one O k o
 | app k o=>exact one O k o
 | apk r o j oj=>
  show ((O.set r o).set j oj).get q=if (ed q [(j,oj),(r,o)]).isSome=true then ed q [(j,oj),(r,o)] else O.get q
  rw[jC,jC,nil];by_cases h1:j=q
  ·subst h1; rw[Objs.get_set]; simp
  ·by_cases h2:r=q
   ·subst h2; rw[Objs.get_set,Objs.get_set]; simp[h1]
   ·rw[Objs.get_set,Objs.get_set]; simp[h1,h2]
structure DR where
 o:Oper
 E:Env
 O:Objs
 av:Option AV
 eff:Eff
def kc (E:Env):List Operand→List Nat
 | []=>[]
 | x::l=>(match E.ev x with | some a=>a.ids | none=>[])++kc E l
def DR.touch (r:DR):List Nat:=
 kc r.E r.o.op.operands.toList++((match r.av with | some a=>a.ids | none=>[])++r.eff.keys)
def DR.see (r:DR):List Nat:=
 (bif tC r.o.op then kc r.E r.o.op.operands.toList else [])++r.eff.keys
theorem gH {E:Env} {k:Nat}:∀ {l:List Operand} {x:Operand} {a:AV},x∈l→E.ev x=some a→a.ment k=true→k∈kc E l
 | y::l,x,a,hx,he,hm=>by
  simp only[kc,Fe];simp only[E9]at hx;rcases hx with rfl | hx
  ·rw[he]; exact .inl (AV.ids_spec hm)
  ·exact .inr (gH hx he hm)
def lq:List Operand→List Nat
 | []=>[]
 | .tmp t::l=>t::lq l
 | _::l=>lq l
theorem lY {t:Nat}:∀ {l:List Operand},.tmp t∈l→t∈lq l
 | x::l,h=>by
  simp only[E9]at h;rcases h with rfl | h
  ·simp[lq]
  ·have:=lY h;cases x<;>simp[lq,this]
def ke (ops:List Oper) (o:Oper):List Nat:=
 lq o.op.operands.toList++(match o.guard with | some (j,_)=>(match (ops[j]?).bind (·.dst) with | some d=>[d] | none=>[]) | none=>[])
theorem xc {ops:List Oper} {o:Oper} {t:Nat} (h:.tmp t∈o.op.operands.toList):t∈ke ops o:=FK _ (lY h)
theorem lZ {ops:List Oper} {o:Oper} {j:Nat} {b:Bool} {d:Nat} (hg:o.guard=some (j,b)) (hd:(ops[j]?).bind (·.dst)=some d):d∈ke ops o:=by
 simp[ke,hg,hd]
def gn (x:Option Nat) (l:List Nat):Bool:=match x with | some k=>!(bF k l) | none=>true
theorem eH {x:Option Nat} {l:List Nat} (h:gn x l=true) {k:Nat} (hx:x=some k):k∉l:=by
 subst hx;exact gh (by simpa [gn] using h)
def rA (x y:Option Nat):Bool:=match x,y with | some a,some b=>!(Nat.beq a b) | _,_=>true
theorem nq {x y:Option Nat} (h:rA x y=true) {k:Nat} (hx:x=some k) (hy:y=some k):False:=by
 subst hx hy;simp[rA]at h
def xd (l m:List Nat):Bool:=l.all λk=>!(bF k m)
theorem nr {l m:List Nat} (h:xd l m=true) {k:Nat} (hk:k∈l):k∉m:=by
 have:=Fq.1 h k hk;exact gh (by simpa using this)
def eB (ops:List Oper) (a b:DR):Bool:=
 gn a.o.dst (ke ops b.o)&&(gn b.o.dst (ke ops a.o)&&(xd a.eff.keys b.see&&(xd b.eff.keys a.see&&(gn a.eff.id b.touch&&(gn b.eff.id a.touch&&rA a.o.dst b.o.dst)))))
def ns (k:Nat):Option Ob→Bool
 | none=>true
 | some (.var cells)=>!(cW k cells)
 | some (.rowO _ _ ids)=>!(bF k ids)
 | some _=>true
theorem jD {k:Nat} {ob:Ob} (h:ns k (some ob)=true):ob.noM k:=by
 cases ob with
 | var cells=>show cW k cells=false; simpa [ns] using h
 | rowO _ _ ids=>show bF k ids=false; simpa [ns] using h
 | _=>trivial
def eO (m i:Nat):Bool:=Nat.beq (Nat.land (Nat.shiftRight m i) 1) 1
def ee (ms:List Nat):List Edge→Nat
 | []=>0
 | e::l=>bif Region.binds .any e then Nat.lor (Nat.lor (Nat.shiftLeft 1 e.on) (ms.getD e.on 0)) (ee ms l) else ee ms l
def ig (n:Nat):List Edge→Bool
 | []=>true
 | e::l=>(!(Region.binds .any e)||Nat.blt e.on n)&&ig n l
def o9:List Oper→List Nat→Option (List Nat)
 | [],ms=>some ms
 | o::l,ms=>bif ig ms.length o.after.toList then o9 l (ms++[ee ms o.after.toList]) else none
theorem rB (a b i:Nat):eO (Nat.lor a b) i=(eO a i||eO b i):=by
 have e:∀ m,eO m i=m.testBit i:=by
  intro m;have h2:Nat.land (Nat.shiftRight m i) 1=(m>>>i)%2:=GC _;have h3:=Nat.testBit_eq_decide_div_mod_eq (x:=m) (i:=i);rw[h3];unfold eO;rw[h2,Nat.shiftRight_eq_div_pow]
  cases hb:Nat.beq (m/2^i%2) 1 with
  | true=>have:=Eu hb; simp[this]
  | false=>
   have:m/2^i%2≠1:=λh=>by rw[h]at hb; cases hb
   simp[this]
 rw[e,e,e];exact Nat.testBit_or ..
theorem xe {j i:Nat} (h:eO (Nat.shiftLeft 1 j) i=true):i=j:=by
 have h1:=Eu h;have h2:Nat.land (Nat.shiftRight (Nat.shiftLeft 1 j) i) 1=((1<<<j)>>>i)%2:=GC _;rw[h2]at h1;have h3:((1<<<j:Nat)).testBit i=true:=by
  rw[Nat.testBit_eq_decide_div_mod_eq,←Nat.shiftRight_eq_div_pow];exact decide_eq_true h1
 rw[GR,Fh,Nat.testBit_two_pow]at h3;have:=of_decide_eq_true h3;omega
theorem vH (i:Nat):eO 0 i=false:=by
 have:Nat.shiftRight 0 i=0:=Nat.zero_shiftRight i;simp[eO,this]; rfl
theorem f8 {ms:List Nat} {i:Nat}:∀ {l:List Edge},eO (ee ms l) i=true→∃ e,e∈l∧Region.binds .any e=true∧(i=e.on∨eO (ms.getD e.on 0) i=true)
 | [],h=>by rw[ee,vH]at h; cases h
 | e::l,h=>by
  simp only[ee]at h
  cases hb:Region.binds .any e with
  | true=>
   rw[hb,cond_true,rB,rB]at h;simp only[Fs]at h;rcases h with (h | h) | h
   ·exact ⟨e,by simp,hb,.inl (xe h)⟩
   ·exact ⟨e,by simp,hb,.inr h⟩
   ·obtain ⟨e',h1,h2⟩:=f8 h;exact ⟨e',by simp[h1],h2⟩
  | false=>
   rw[hb,cond_false]at h;obtain ⟨e',h1,h2⟩:=f8 h;exact ⟨e',by simp[h1],h2⟩
theorem js {n:Nat}:∀ {l:List Edge},ig n l=true→∀ e,e∈l→Region.binds .any e=true→e.on<n
 | [],_,e,he,_=>by simp at he
 | e::l,h,e',he,hb=>by
  simp only[ig,Ex,Fs,FO]at h;simp only[E9]at he;rcases he with rfl | he
  ·rcases h.1 with h1 | h1
   ·rw[hb]at h1; cases h1
   ·exact EG (G5 _) (ER h1)
  ·exact js h.2 e' he hb
def MaskOk (ops:List Oper) (ms:List Nat):Prop:=
 ∀ i o,i<ms.length→ops[i]? = some o→(∀ e,e∈o.after.toList→Region.binds .any e=true→e.on<i)∧∀ j,eO (ms.getD i 0) j=true→∃ e,e∈o.after.toList∧Region.binds .any e=true∧(j=e.on∨eO (ms.getD e.on 0) j=true)
theorem nt {ops:List Oper}:∀ {l:List Oper} {ms ms':List Nat},o9 l ms=some ms'→MaskOk ops ms→(∀ i,l[i]? = ops[ms.length+i]?)→MaskOk ops ms'∧ms'.length=ms.length+l.length
 | [],ms,ms',h,hm,_=>by simp only[o9,EM]at h; subst h; exact ⟨hm,by simp⟩
 | o::l,ms,ms',h,hm,hl=>by
  simp only[o9]at h
  cases hb:ig ms.length o.after.toList with
  | false=>rw[hb]at h; cases h
  | true=>
   rw[hb,cond_true]at h;have hback:=js hb;have:=nt h (ops:=ops) (by
    intro i o' hi ho';simp only[Ey,E7,Gv]at hi;have get:∀ q,q<ms.length→(ms++[ee ms o.after.toList]).getD q 0=ms.getD q 0:=λq hq=>by
     simp[Ev,EF hq]
    by_cases hlt:i<ms.length
    ·obtain ⟨h1,h2⟩:=hm i o' hlt ho';refine ⟨h1,λj hj=>?_⟩;rw[get i hlt]at hj;obtain ⟨e,he,hbi,h3⟩:=h2 j hj;exact ⟨e,he,hbi,by rw[get _ (Nat.lt_trans (h1 e he hbi) hlt)]; exact h3⟩
    ·have e:i=ms.length:=by omega
     subst e;have ho:o'=o:=by
      have:=hl 0;simp at this;rw[←this]at ho';exact (Gc ho').symm
     subst ho;refine ⟨hback,λj hj=>?_⟩;have:(ms++[ee ms o'.after.toList]).getD ms.length 0=ee ms o'.after.toList:=by simp[Ev]
     rw[this]at hj;obtain ⟨e,he,hbi,h3⟩:=f8 hj;exact ⟨e,he,hbi,by rw[get _ (hback e he hbi)]; exact h3⟩) (by
    intro i;have:=hl (i+1);simp at this;rw[this];simp[Fx,GS 1])
   refine ⟨this.1,?_⟩;rw[this.2];simp;omega
theorem MaskOk.closed {ops:List Oper} {ms:List Nat} (hm:MaskOk ops ms) {S:Nat→Prop} (hS:∀ i o e,S i→ops[i]? = some o→e∈o.after.toList→Region.binds .any e=true→S e.on) (hlt:∀ i,S i→i<ms.length∧∃ o,ops[i]? = some o) :
  ∀ (i j:Nat),S i→eO (ms.getD i 0) j=true→S j:=by
 intro i
 induction i using Nat.strongRecOn with
 | _ i ih=>
  intro j hi hj;obtain ⟨hl,o,ho⟩:=hlt i hi;obtain ⟨h1,h2⟩:=hm i o hl ho;obtain ⟨e,he,hb,h3⟩:=h2 j hj;have hs:=hS i o e hi ho he hb;rcases h3 with rfl | h3
  ·exact hs
  ·exact ih _ (h1 e he hb) j hs h3
def qc (ops:List Oper) (j:Nat) (r:DR):Nat→List DR→List Nat→Bool
 | i,q::l,m::ms=>(eO m j||eB ops r q)&&qc ops j r (i+1) l ms
 | _,_,_=>true
def mB (ops:List Oper):Nat→List DR→List Nat→Bool
 | j,r::l,_::ms=>qc ops j r (j+1) l ms&&mB ops (j+1) l ms
 | _,_,_=>true
theorem l7 {ops:List Oper} {j:Nat} {r:DR}:∀ {l:List DR} {ms:List Nat} {i:Nat},qc ops j r i l ms=true→∀ (n:Nat) (q:DR) (m:Nat),l[n]? = some q→ms[n]? = some m→eO m j=true∨eB ops r q=true
 | q'::l,m'::ms,i,h,n,q,m,hq,hm=>by
  simp only[qc,Ex,Fs]at h
  cases n with
  | zero=>simp at hq hm; subst hq hm; exact h.1
  | succ n=>exact l7 h.2 n q m (by simpa using hq) (by simpa using hm)
 | [],_,_,_,n,q,m,hq,_=>by simp at hq
 | _::_,[],_,_,n,q,m,_,hm=>by simp at hm
theorem kf {ops:List Oper}:∀ {l:List DR} {ms:List Nat} {j:Nat},mB ops j l ms=true→∀ (a b:Nat) (r q:DR) (m:Nat),a<b→l[a]? = some r→l[b]? = some q→ms[b]? = some m→eO m (j+a)=true∨eB ops r q=true
 | r'::l,m'::ms,j,h,a,b,r,q,m,hab,hr,hq,hm=>by
  simp only[mB,Ex]at h;obtain ⟨b',rfl⟩:∃ b',b=b'+1:=⟨b-1,by omega⟩
  cases a with
  | zero=>simp at hr; subst hr; exact l7 h.1 b' q m (by simpa using hq) (by simpa using hm)
  | succ a=>
   have:=kf h.2 a b' r q m (by omega) (by simpa using hr) (by simpa using hq) (by simpa using hm);rwa [show j+1+a=j+(a+1) by omega]at this
 | [],_,_,_,a,b,r,q,m,_,hr,_,_=>by simp at hr
 | _::_,[],_,_,a,b,r,q,m,_,_,_,hm=>by simp at hm
def Cy:Option Nat→Nat→Bool
 | some j,q=>Nat.beq j q
 | none,_=>false
def nv (sk:Option Nat) (k:Nat):List (Nat × Ob)→Bool
 | []=>true
 | (q,ob)::l=>(Cy sk q||ns k (some ob))&&nv sk k l
theorem pa {sk:Option Nat} {q:Nat} (h:Cy sk q=true):sk=some q:=by
 cases sk with
 | none=>cases h
 | some j=>rw[Eu h]
theorem l8 {sk:Option Nat} {k q:Nat} {ob:Ob}:∀ {l:List (Nat × Ob)},nv sk k l=true→ed q l=some ob→sk=some q∨ob.noM k
 | [],_,h=>by cases h
 | (q',ob')::l,h,ha=>by
  simp only[nv,Ex,Fs]at h;simp only[ed]at ha
  cases hb:Nat.beq q' q with
  | true=>
   rw[hb]at ha;cases ha;rw[←Eu hb];exact h.1.imp pa jD
  | false=>rw[hb]at ha; exact l8 h.2 ha
def ny (sk:Option Nat) (k j:Nat):List DR→List Nat→Bool
 | q::l,m::ms=>(eO m j||nv sk k q.eff.prs)&&ny sk k j l ms
 | _,_=>true
def nA (q m:Nat):Nat→List DR→Bool
 | i,r::l=>(bF q r.eff.keys&&eO m i)||nA q m (i+1) l
 | _,[]=>false
theorem l9 {q m:Nat}:∀ {l:List DR} {i:Nat},nA q m i l=true→∃ (n:Nat) (r:DR),l[n]? = some r∧r.eff.hk q∧eO m (i+n)=true
 | r::l,i,h=>by
  simp only[nA,Fs,Ex]at h;rcases h with h | h
  ·exact ⟨0,r,rfl,Eff.mem_hk (gl h.1),h.2⟩
  ·obtain ⟨n,r',h1,h2,h3⟩:=l9 h;exact ⟨n+1,r',by simpa using h1,h2,by rwa [show i+1+n=i+(n+1) by omega]at h3⟩
 | [],_,h=>by cases h
def ii (sk:Option Nat) (k m:Nat) (R:List DR):Objs→Bool
 | []=>Nat.blt k 1000000
 | (_,none)::O=>ii sk k m R O
 | (q,some ob)::O=>((Cy sk q||ns k (some ob))||nA q m 0 R)&&ii sk k m R O
theorem lr {sk:Option Nat} {k m:Nat} {R:List DR}:∀ {O:Objs},ii sk k m R O=true→k<PIN
 | [],h=>EG (G5 _) (ER h)
 | (_,none)::O,h=>lr (O:=O) h
 | (q,some ob)::O,h=>by simp only[ii,Ex]at h; exact lr h.2
theorem jE {sk:Option Nat} {k m:Nat} {R:List DR}:∀ {O:Objs},ii sk k m R O=true→∀ q ob,O.get q=some ob→(sk=some q∨ob.noM k)∨nA q m 0 R=true
 | [],_,q,ob,h=>by simp[Objs.get]at h
 | (p,none)::O,h,q,ob,ho=>by
  simp only[Objs.get]at ho
  cases hb:Nat.beq p q with
  | true=>rw[hb]at ho; cases ho
  | false=>rw[hb]at ho; exact jE (O:=O) h q ob ho
 | (p,some o)::O,h,q,ob,ho=>by
  simp only[ii,Ex,Fs]at h;simp only[Objs.get]at ho
  cases hb:Nat.beq p q with
  | true=>
   rw[hb]at ho;cases ho;rw[←Eu hb];exact h.1.imp_left λh=>h.imp pa jD
  | false=>rw[hb]at ho; exact jE (O:=O) h.2 q ob ho
def xf (O0:Objs) (R:List DR) (ms:List Nat) (j:Nat) (sk:Option Nat):Option Nat→Bool
 | some k=>ii sk k (ms.getD j 0) R O0&&ny sk k j R ms
 | none=>true
def xg:Eff→Bool
 | .apk r _ _ oj=>ns r (some oj)
 | _=>true
theorem tG {eff:Eff} (h:xg eff=true) {k q:Nat} {ob:Ob} (hk:eff.id=some k) (hs:eff.sk=some q) (ha:eff.at' q=some ob):ob.noM k:=by
 cases eff with
 | apk r o j oj=>
  cases hk;cases hs;have:some oj=some ob:=by rw[←ha]; simp[Eff.at',Eff.prs,ed]
  cases this;exact jD h
 | _=>cases hs
def uE (O0:Objs) (R:List DR) (ms:List Nat):Nat→List DR→Bool
 | j,r::l=>(xf O0 R ms j r.eff.sk r.eff.id&&xg r.eff)&&uE O0 R ms (j+1) l
 | _,[]=>true
theorem ma {sk:Option Nat} {k j:Nat}:∀ {l:List DR} {ms:List Nat},ny sk k j l ms=true→∀ (n:Nat) (q:DR) (m:Nat),l[n]? = some q→ms[n]? = some m→eO m j=true∨nv sk k q.eff.prs=true
 | q'::l,m'::ms,h,n,q,m,hq,hm=>by
  simp only[ny,Ex,Fs]at h
  cases n with
  | zero=>simp at hq hm; subst hq hm; exact h.1
  | succ n=>exact ma h.2 n q m (by simpa using hq) (by simpa using hm)
 | [],_,_,n,q,m,hq,_=>by simp at hq
 | _::_,[],_,n,q,m,_,hm=>by simp at hm
theorem gI {O0:Objs} {R:List DR} {ms:List Nat}:∀ {l:List DR} {j:Nat},uE O0 R ms j l=true→∀ (n:Nat) (r:DR) (k:Nat),l[n]? = some r→r.eff.id=some k→(ii r.eff.sk k (ms.getD (j+n) 0) R O0=true∧ny r.eff.sk k (j+n) R ms=true)∧xg r.eff=true
 | r'::l,j,h,n,r,k,hr,hk=>by
  simp only[uE,Ex]at h
  cases n with
  | zero=>
   simp at hr;subst hr;have:=h.1;rw[hk]at this;simp only[xf,Ex]at this;exact this
  | succ n=>
   have:=gI h.2 n r k (by simpa using hr) hk;rwa [show j+1+n=j+(n+1) by omega]at this
 | [],_,_,n,r,k,hr,_=>by simp at hr
def uF (d:Option Tmp):List DR→Bool
 | []=>true
 | q::l=>rA d q.o.dst&&uF d l
def qd:List DR→Bool
 | []=>true
 | r::l=>uF r.o.dst l&&qd l
theorem jF {d:Option Tmp}:∀ {l:List DR},uF d l=true→∀ q,q∈l→rA d q.o.dst=true
 | [],_,q,hq=>by simp at hq
 | q'::l,h,q,hq=>by
  simp only[uF,Ex]at h;simp only[E9]at hq;rcases hq with rfl | hq
  ·exact h.1
  ·exact jF h.2 q hq
theorem mb:∀ {l:List DR},qd l=true→∀ (a b:Nat) (r q:DR) (t:Nat),l[a]? = some r→l[b]? = some q→r.o.dst=some t→q.o.dst=some t→a=b
 | x::l,h,a,b,r,q,t,hr,hq,h1,h2=>by
  simp only[qd,Ex]at h
  cases a with
  | zero=>
   cases b with
   | zero=>rfl
   | succ b=>
    simp at hr hq;subst hr;exact (nq (jF h.1 q (E6 hq)) h1 h2).elim
  | succ a=>
   cases b with
   | zero=>
    simp at hr hq;subst hq;exact (nq (jF h.1 r (E6 hr)) h2 h1).elim
   | succ b=>rw[mb h.2 a b r q t (by simpa using hr) (by simpa using hq) h1 h2]
 | [],_,a,_,r,_,_,hr,_,_,_=>by simp at hr
def xh (ops:List Oper) (O0:Objs) (R:List DR):Option (List Nat)→Bool
 | some ms=>mB ops 0 R ms&&(uE O0 R ms 0 R&&qd R)
 | none=>false
def qe (ops:List Oper) (O0:Objs) (R:List DR):Bool:=xh ops O0 R (o9 ops [])
structure Chk (ops:List Oper) (O0:Objs) (R:List DR) (ms:List Nat):Prop where
 len:ms.length=ops.length
 ok:MaskOk ops ms
 pair:∀ a b r q,a<b→R[a]? = some r→R[b]? = some q→b<ms.length→eO (ms.getD b 0) a=true∨eB ops r q=true
 new0:∀ (j:Nat) r k,R[j]? = some r→r.eff.id=some k→k<PIN∧∀ q ob,O0.get q=some ob→(r.eff.sk=some q∨ob.noM k)∨∃ (u:Nat) (p:DR),R[u]? = some p∧p.eff.hk q∧eO (ms.getD j 0) u=true
 new1:∀ (j b:Nat) r k q t ob,R[j]? = some r→r.eff.id=some k→R[b]? = some q→b<ms.length→q.eff.at' t=some ob→eO (ms.getD b 0) j=true∨(r.eff.sk=some t∨ob.noM k)
 own:∀ (j:Nat) r k q ob,R[j]? = some r→r.eff.id=some k→r.eff.sk=some q→r.eff.at' q=some ob→ob.noM k
 dsts:∀ (a b:Nat) r q t,R[a]? = some r→R[b]? = some q→r.o.dst=some t→q.o.dst=some t→a=b
theorem rC {ops:List Oper} {O0:Objs} {R:List DR} (h:qe ops O0 R=true):∃ ms,Chk ops O0 R ms:=by
 unfold qe at h
 cases hm:o9 ops [] with
 | none=>rw[hm]at h; cases h
 | some ms=>
  rw[hm]at h;simp only[xh,Ex]at h;obtain ⟨h1,h2,h3⟩:=h;obtain ⟨h4,h5⟩:=nt (ops:=ops) hm (by intro i o hi; simp at hi) (by simp);have get:∀ b,b<ms.length→ms[b]? = some (ms.getD b 0):=λb hb=>by simp[Ev,hb]
  refine ⟨ms,by simpa using h5,h4,λa b r q hab hr hq hb=>?_,λj r k hr hk=>?_,λj b r k q t ob hr hk hq hb ho=>?_,λj r k q ob hr hk hs ha=>tG (gI h2 j r k hr hk).2 hk hs ha,mb h3⟩
  ·have:=kf h1 a b r q _ hab hr hq (get b hb);rwa [Fn]at this
  ·have h6:=(gI h2 j r k hr hk).1.1;rw[Fn]at h6;refine ⟨lr h6,λq ob ho=>(jE h6 q ob ho).imp_right λh7=>?_⟩;obtain ⟨n,p,g1,g2,g3⟩:=l9 h7;rw[Fn]at g3;exact ⟨n,p,g1,g2,g3⟩
  ·have:=ma (gI h2 j r k hr hk).1.2 b q _ hq (get b hb);rw[Fn]at this;exact this.imp_right λh=>l8 h ho
def HE (E0:Env) (R:List DR) (S:Nat→Prop) (t:Nat) (a:AV):Prop:=
 (∃ u r,R[u]? = some r∧S u∧r.o.dst=some t∧r.av=some a∧∀ i q,R[i]? = some q→S i→u<i→∀ k,q.eff.id=some k→a.ment k=false) ∨
 ((∀ u r,R[u]? = some r→S u→r.o.dst≠some t)∧E0.get t=some a∧∀ i q,R[i]? = some q→S i→∀ k,q.eff.id=some k→a.ment k=false)
def HO (O0:Objs) (R:List DR) (S:Nat→Prop) (k:Nat) (ob:Ob):Prop:=
 (∃ u r,R[u]? = some r∧S u∧r.eff.hk k∧r.eff.at' k=some ob∧∀ i q,R[i]? = some q→S i→u<i→¬ q.eff.hk k) ∨
 ((∀ u r,R[u]? = some r→S u→¬ r.eff.hk k)∧O0.get k=some ob)
theorem effE_iff {E:Env} {eff:Eff} {t:Nat} {x:AV}:(eff.E E).get t=some x↔E.get t=some x∧∀ k,eff.id=some k→x.ment k=false:=by
 constructor
 ·exact rb
 ·intro ⟨h1,h2⟩
  cases eff with
  | no=>exact h1
  | upd _ _=>exact h1
  | new k o=>simp only[Eff.E,Env.get,h1,Gm,h2 k rfl,cond_false]
  | app k o=>simp only[Eff.E,Env.get,h1,Gm,h2 k rfl,cond_false]
  | apk k o _ _=>simp only[Eff.E,Env.get,h1,Gm,h2 k rfl,cond_false]
theorem rD {d:Option Tmp} {av:Option AV} {E:Env} {t:Nat}:(bN d av E).get t=if d=some t then av else E.get t:=by
 cases d with
 | none=>simp[bN]
 | some d=>
  simp only[bN,Env.get,EM];by_cases h:d=t
  ·subst h; simp
  ·have:Nat.beq d t=false:=by cases hb:Nat.beq d t with | false=>rfl | true=>exact absurd (Eu hb) h
   simp[this,h]
structure Told (P:Program) (N:Nx) (ops:List Oper) (E0:Env) (O0:Objs) (R:List DR) (E:Env) (O:Objs):Prop where
 e:∀ t a,E.get t=some a→HE E0 R (λ_=>True) t a
 o:∀ k ob,O.get k=some ob↔HO O0 R (λ_=>True) k ob
 at':∀ (j:Nat) r,R[j]? = some r→(∀ t a,r.E.get t=some a→HE E0 R (· < j) t a)∧(∀ k ob,r.O.get k=some ob↔HO O0 R (· < j) k ob)∧fa N r.o.dst=true ∧
  ∃ g,dQ r.E ops r.o.guard=some g∧(g=true→(∀ c,r.o.op ≠ .defer c)∧∀ E' O',Agr r.E r.O E' O' r.o.op r.eff→Step P E' O' r.o r.av r.eff)∧(g=false→r.av=fP∧r.eff = .no)
theorem HE.app {E0:Env} {R:List DR} {r:DR} {j t:Nat} {a:AV} (hj:j≤R.length) (h:HE E0 R (· < j) t a):HE E0 (R++[r]) (· < j) t a:=by
 have old:∀ (i:Nat) q,(R++[r])[i]? = some q→i<j→R[i]? = some q:=λi q h hi=>by rwa [EF (by omega)]at h
 rcases h with ⟨u,q,h1,h2,h3,h4,h5⟩ | ⟨h1,h2,h3⟩
 ·exact .inl ⟨u,q,by rw[EF (EG h2 hj)]; exact h1,h2,h3,h4,λi p hi hs=>h5 i p (old i p hi hs) hs⟩
 ·exact .inr ⟨λu q hu hs=>h1 u q (old u q hu hs) hs,h2,λi p hi hs=>h3 i p (old i p hi hs) hs⟩
theorem HO.app {O0:Objs} {R:List DR} {r:DR} {j t:Nat} {a:Ob} (hj:j≤R.length):HO O0 R (· < j) t a↔HO O0 (R++[r]) (· < j) t a:=by
 have old:∀ (i:Nat) q,i<j→((R++[r])[i]? = some q↔R[i]? = some q):=λi q hi=>by rw[EF (by omega)]
 constructor
 ·rintro (⟨u,q,h1,h2,h3,h4,h5⟩ | ⟨h1,h2⟩)
  ·exact .inl ⟨u,q,(old u q h2).2 h1,h2,h3,h4,λi p hi hs=>h5 i p ((old i p hs).1 hi) hs⟩
  ·exact .inr ⟨λu q hu hs=>h1 u q ((old u q hs).1 hu) hs,h2⟩
 ·rintro (⟨u,q,h1,h2,h3,h4,h5⟩ | ⟨h1,h2⟩)
  ·exact .inl ⟨u,q,(old u q h2).1 h1,h2,h3,h4,λi p hi hs=>h5 i p ((old i p hs).2 hi) hs⟩
  ·exact .inr ⟨λu q hu hs=>h1 u q ((old u q hs).2 hu) hs,h2⟩
theorem HE.lt {E0:Env} {R:List DR} {t:Nat} {a:AV} (h:HE E0 R (λ_=>True) t a):HE E0 R (· < R.length) t a:=by
 have lt:∀ (i:Nat) q,R[i]? = some q→i<R.length:=λi q h=>(Ez.1 h).1
 rcases h with ⟨u,q,h1,h2,h3,h4,h5⟩ | ⟨h1,h2,h3⟩
 ·exact .inl ⟨u,q,h1,lt u q h1,h3,h4,λi p hi _=>h5 i p hi trivial⟩
 ·exact .inr ⟨λu q hu _=>h1 u q hu trivial,h2,λi p hi _=>h3 i p hi trivial⟩
theorem HO.lt {O0:Objs} {R:List DR} {t:Nat} {a:Ob}:HO O0 R (λ_=>True) t a↔HO O0 R (· < R.length) t a:=by
 have lt:∀ (i:Nat) q,R[i]? = some q→i<R.length:=λi q h=>(Ez.1 h).1
 constructor
 ·rintro (⟨u,q,h1,h2,h3,h4,h5⟩ | ⟨h1,h2⟩)
  ·exact .inl ⟨u,q,h1,lt u q h1,h3,h4,λi p hi _=>h5 i p hi trivial⟩
  ·exact .inr ⟨λu q hu _=>h1 u q hu trivial,h2⟩
 ·rintro (⟨u,q,h1,h2,h3,h4,h5⟩ | ⟨h1,h2⟩)
  ·exact .inl ⟨u,q,h1,HB,h3,h4,λi p hi _=>h5 i p hi (lt i p hi)⟩
  ·exact .inr ⟨λu q hu _=>h1 u q hu (lt u q hu),h2⟩
section
variable {P:Program} {N:Nx} {ops:List Oper} {E0:Env} {O0:Objs}
theorem Told.nil:Told P N ops E0 O0 [] E0 O0:=
 ⟨λt a h=>.inr ⟨λu r hu=>by simp at hu,h,λi q hi=>by simp at hi⟩,
  λk ob=>⟨λh=>.inr ⟨λu r hu=>by simp at hu,h⟩,λh=>by rcases h with ⟨u,r,hu,_⟩ | ⟨_,h⟩; (simp at hu); exact h⟩,
  λj r h=>by simp at h⟩
theorem Told.snoc {R:List DR} {E E1:Env} {O:Objs} (h:Told P N ops E0 O0 R E O) {o:Oper} {av:Option AV} {eff:Eff} (hE:∀ t,E1.get t=E.get t) (hd:fa N o.dst=true) {g:Bool} (hg:dQ E1 ops o.guard=some g)
  (ht:g=true→(∀ c,o.op ≠ .defer c)∧∀ E' O',Agr E1 O E' O' o.op eff→Step P E' O' o av eff) (hf:g=false→av=fP∧eff = .no):Told P N ops E0 O0 (R++[⟨o,E1,O,av,eff⟩]) (bN o.dst av (eff.E E1)) (eff.O O):=by
 have last:(R++[(⟨o,E1,O,av,eff⟩:DR)])[R.length]? = some ⟨o,E1,O,av,eff⟩:=by simp
 have old:∀ (i:Nat) q,R[i]? = some q→(R++[(⟨o,E1,O,av,eff⟩:DR)])[i]? = some q:=λi q h=>by
  rw[EF (Ez.1 h).1]; exact h
 have split:∀ (i:Nat) q,(R++[(⟨o,E1,O,av,eff⟩:DR)])[i]? = some q→(i<R.length∧R[i]? = some q)∨(i=R.length∧q=⟨o,E1,O,av,eff⟩):=λi q h=>by
  by_cases hlt:i<R.length
  ·rw[EF hlt]at h; exact .inl ⟨hlt,h⟩
  ·rw[ED (by omega)]at h;have:i=R.length:=by
    have:=(Ez.1 h).1;simp at this; omega
   subst this;simp at h;exact .inr ⟨rfl,h.symm⟩
 refine ⟨λt a ha=>?_,λk ob=>?_,λj r hr=>?_⟩
 ·rw[rD]at ha;by_cases hdt:o.dst=some t
  ·rw[if_pos hdt]at ha;refine .inl ⟨R.length,_,last,HB,hdt,ha,λi q hi _ hlt=>?_⟩;rcases split i q hi with ⟨h1,_⟩ | ⟨h1,_⟩<;>omega
  ·rw[if_neg hdt]at ha;obtain ⟨h1,h2⟩:=effE_iff.1 ha;rw[hE]at h1;rcases h.e t a h1 with ⟨u,q,g1,g2,g3,g4,g5⟩ | ⟨g1,g2,g3⟩
   ·refine .inl ⟨u,q,old u q g1,HB,g3,g4,λi p hi _ hlt k hk=>?_⟩;rcases split i p hi with ⟨_,h4⟩ | ⟨_,h4⟩
    ·exact g5 i p h4 trivial hlt k hk
    ·subst h4; exact h2 k hk
   ·refine .inr ⟨λu q hu _=>?_,g2,λi p hi _ k hk=>?_⟩
    ·rcases split u q hu with ⟨_,h4⟩ | ⟨_,h4⟩
     ·exact g1 u q h4 trivial
     ·subst h4; exact hdt
    ·rcases split i p hi with ⟨_,h4⟩ | ⟨_,h4⟩
     ·exact g3 i p h4 trivial k hk
     ·subst h4; exact h2 k hk
 ·rw[rz];by_cases hk:eff.hk k
  ·rw[if_pos hk];constructor
   ·intro ho;refine .inl ⟨R.length,_,last,HB,hk,ho,λi q hi _ hlt=>?_⟩;rcases split i q hi with ⟨h1,_⟩ | ⟨h1,_⟩<;>omega
   ·rintro (⟨u,q,g1,g2,g3,g4,g5⟩ | ⟨g1,g2⟩)
    ·rcases split u q g1 with ⟨h3,_⟩ | ⟨_,h4⟩
     ·exact absurd hk (g5 R.length _ last trivial h3)
     ·subst h4; exact g4
    ·exact absurd hk (g1 R.length _ last trivial)
  ·rw[if_neg hk,h.o];constructor
   ·rintro (⟨u,q,g1,g2,g3,g4,g5⟩ | ⟨g1,g2⟩)
    ·refine .inl ⟨u,q,old u q g1,HB,g3,g4,λi p hi _ hlt=>?_⟩;rcases split i p hi with ⟨_,h4⟩ | ⟨_,h4⟩
     ·exact g5 i p h4 trivial hlt
     ·subst h4; exact hk
    ·refine .inr ⟨λu q hu _=>?_,g2⟩;rcases split u q hu with ⟨_,h4⟩ | ⟨_,h4⟩
     ·exact g1 u q h4 trivial
     ·subst h4; exact hk
   ·rintro (⟨u,q,g1,g2,g3,g4,g5⟩ | ⟨g1,g2⟩)
    ·rcases split u q g1 with ⟨_,h4⟩ | ⟨_,h4⟩
     ·exact .inl ⟨u,q,h4,HB,g3,g4,λi p hi _ hlt=>g5 i p (old i p hi) trivial hlt⟩
     ·subst h4; exact absurd g3 hk
    ·exact .inr ⟨λu q hu _=>g1 u q (old u q hu) trivial,g2⟩
 ·rcases split j r hr with ⟨hlt,h4⟩ | ⟨rfl,h4⟩
  ·obtain ⟨h1,h2,h3⟩:=h.at' j r h4;exact ⟨λt a ha=>(h1 t a ha).app (by omega),λk ob=>(h2 k ob).trans (HO.app (by omega)),h3⟩
  ·subst h4;exact ⟨λt a ha=>(HE.lt (h.e t a (by rw[←hE]; exact ha))).app (Ew _),λk ob=>((h.o k ob).trans HO.lt).trans (HO.app (Ew _)),hd,g,hg,ht,hf⟩
end
end
section
section
variable {ops:List Oper} {E0:Env} {O0:Objs} {R:List DR} {ms:List Nat} {S:Nat→Prop}
structure Nxt (ops:List Oper) (R:List DR) (O0:Objs) (ms:List Nat) (S:Nat→Prop) (j:Nat) (r:DR):Prop where
 chk:Chk ops O0 R ms
 len:R.length=ops.length
 cl:∀ i k,S i→eO (ms.getD i 0) k=true→S k
 at':R[j]? = some r
 out:¬ S j
 rdy:∀ i,eO (ms.getD j 0) i=true→S i
theorem Nxt.lt {j:Nat} {r:DR} (h:Nxt ops R O0 ms S j r) {i:Nat} {q:DR} (hq:R[i]? = some q):i<ms.length:=by
 rw[h.chk.len,←h.len]; exact (Ez.1 hq).1
theorem Nxt.left {j:Nat} {r:DR} (h:Nxt ops R O0 ms S j r) {u:Nat} {q:DR} (hq:R[u]? = some q) (hlt:u<j) (hu:¬ S u):eB ops q r=true:=
 (h.chk.pair u j q r hlt hq h.at' (h.lt h.at')).resolve_left λhb=>hu (h.rdy u hb)
theorem Nxt.right {j:Nat} {r:DR} (h:Nxt ops R O0 ms S j r) {u:Nat} {q:DR} (hq:R[u]? = some q) (hlt:j<u) (hu:S u):eB ops r q=true:=
 (h.chk.pair j u r q hlt h.at' hq (h.lt hq)).resolve_left λhb=>h.out (h.cl u j hu hb)
theorem xi {a b:DR} (h:eB ops a b=true) {t:Nat} (hd:a.o.dst=some t):t∉ke ops b.o:=by
 simp only[eB,Ex]at h; exact eH h.1 hd
theorem xj {a b:DR} (h:eB ops a b=true) {t:Nat} (hd:b.o.dst=some t):t∉ke ops a.o:=by
 simp only[eB,Ex]at h; exact eH h.2.1 hd
theorem xk {a b:DR} (h:eB ops a b=true) {t:Nat} (hd:a.eff.hk t):t∉b.see:=by
 simp only[eB,Ex]at h; exact nr h.2.2.1 (Eff.hk_mem hd)
theorem rE {a b:DR} (h:eB ops a b=true) {t:Nat} (hd:b.eff.hk t):t∉a.see:=by
 simp only[eB,Ex]at h; exact nr h.2.2.2.1 (Eff.hk_mem hd)
theorem xl {a b:DR} (h:eB ops a b=true) {t:Nat} (hd:a.eff.id=some t):t∉b.touch:=by
 simp only[eB,Ex]at h; exact eH h.2.2.2.2.1 hd
theorem xm {a b:DR} (h:eB ops a b=true) {t:Nat} (hd:b.eff.id=some t):t∉a.touch:=by
 simp only[eB,Ex]at h; exact eH h.2.2.2.2.2.1 hd
theorem xn {r:DR} {a:AV} {k:Nat} (h:r.av=some a) (hm:a.ment k=true):k∈r.touch:=by
 simp only[DR.touch,h];exact List.mem_append_right _ (FK _ (AV.ids_spec hm))
theorem uG {r:DR} {k:Nat} (h:r.eff.hk k):k∈r.see:=List.mem_append_right _ (Eff.hk_mem h)
theorem xo {r:DR} {x:Operand} {a:AV} {k:Nat} (hr:tC r.o.op=true) (hx:x∈r.o.op.operands.toList) (he:r.E.ev x=some a) (hm:a.ment k=true):k∈r.see:=by
 simp only[DR.see,hr,cond_true];exact FK _ (gH hx he hm)
theorem tH {r:DR} {x:Operand} {a:AV} {k:Nat} (hx:x∈r.o.op.operands.toList) (he:r.E.ev x=some a) (hm:a.ment k=true):k∈r.touch:=by
 simp only[DR.touch];exact FK _ (gH hx he hm)
theorem Nxt.env {j:Nat} {r:DR} (h:Nxt ops R O0 ms S j r) {t:Nat} {a:AV} (ht:t∈ke ops r.o) (hm:∀ k,a.ment k=true→k∈r.touch) (he:HE E0 R (· < j) t a):HE E0 R S t a:=by
 have kill:∀ (i:Nat) q,R[i]? = some q→S i→j<i→∀ k,q.eff.id=some k→a.ment k=false:=λi q hq hs hlt k hk=>by
  cases hb:a.ment k with
  | false=>rfl
  | true=>exact absurd (hm k hb) (xm (h.right hq hlt hs) hk)
 have ne:∀ i,S i→i≠j:=λi hs e=>h.out (e▸hs)
 rcases he with ⟨u,q,h1,h2,h3,h4,h5⟩ | ⟨h1,h2,h3⟩
 ·have hu:S u:=by
   apply Classical.byContradiction;intro hu;exact xi (h.left h1 h2 hu) h3 ht
  refine .inl ⟨u,q,h1,hu,h3,h4,λi p hi hs hlt k hk=>?_⟩;rcases FP i j with hij | hij | hij
  ·exact h5 i p hi hij hlt k hk
  ·exact absurd hij (ne i hs)
  ·exact kill i p hi hs hij k hk
 ·refine .inr ⟨λu q hu hs hd=>?_,h2,λi p hi hs k hk=>?_⟩
  ·rcases FP u j with hij | hij | hij
   ·exact h1 u q hu hij hd
   ·exact absurd hij (ne u hs)
   ·exact xj (h.right hu hij hs) hd ht
  ·rcases FP i j with hij | hij | hij
   ·exact h3 i p hi hij k hk
   ·exact absurd hij (ne i hs)
   ·exact kill i p hi hs hij k hk
theorem Nxt.obj {j:Nat} {r:DR} (h:Nxt ops R O0 ms S j r) {k:Nat} (hk:k∈r.see) (ob:Ob):HO O0 R (· < j) k ob↔HO O0 R S k ob:=by
 have ne:∀ i,S i→i≠j:=λi hs e=>h.out (e▸hs)
 have inS:∀ (u:Nat) q,R[u]? = some q→u<j→q.eff.hk k→S u:=λu q hq hlt hq'=>by
  apply Classical.byContradiction;intro hu;exact xk (h.left hq hlt hu) hq' hk
 have ltj:∀ (u:Nat) q,R[u]? = some q→S u→q.eff.hk k→u<j:=λu q hq hs hq'=>by
  rcases FP u j with hij | hij | hij
  ·exact hij
  ·exact absurd hij (ne u hs)
  ·exact absurd hk (rE (h.right hq hij hs) hq')
 constructor
 ·rintro (⟨u,q,h1,h2,h3,h4,h5⟩ | ⟨h1,h2⟩)
  ·exact .inl ⟨u,q,h1,inS u q h1 h2 h3,h3,h4,λi p hi hs hlt hk'=>h5 i p hi (ltj i p hi hs hk') hlt hk'⟩
  ·exact .inr ⟨λu q hu hs hk'=>h1 u q hu (ltj u q hu hs hk') hk',h2⟩
 ·rintro (⟨u,q,h1,h2,h3,h4,h5⟩ | ⟨h1,h2⟩)
  ·exact .inl ⟨u,q,h1,ltj u q h1 h2 h3,h3,h4,λi p hi hs hlt hk'=>h5 i p hi (inS i p hi hs hk') hlt hk'⟩
  ·exact .inr ⟨λu q hu hs hk'=>h1 u q hu (inS u q hu hs hk') hk',h2⟩
theorem As {O:Objs} {eff:Eff} {q:Nat} {ob:Ob} (h:(eff.cut O).get q=some ob):(eff.sk=some q∧eff.at' q=some ob)∨(eff.sk≠some q∧O.get q=some ob):=by
 cases eff with
 | apk r o j oj=>
  simp only[Eff.cut]at h;rw[Objs.get_set]at h;by_cases e:j=q
  ·subst e;rw[if_pos rfl]at h;refine .inl ⟨rfl,?_⟩;simpa [Eff.at',Eff.prs,ed] using h
  ·rw[if_neg e]at h;exact .inr ⟨by simp[Eff.sk,e],h⟩
 | _=>exact .inr ⟨by simp[Eff.sk],h⟩
theorem Nxt.nom {j:Nat} {r:DR} (h:Nxt ops R O0 ms S j r) {O:Objs} (hO:∀ k ob,O.get k=some ob↔HO O0 R S k ob) {k:Nat} (hk:r.eff.id=some k):NoM k (r.eff.cut O):=by
 refine ⟨(h.chk.new0 j r k h.at' hk).1,λq ob ho=>?_⟩;rcases As ho with ⟨g1,g2⟩ | ⟨g1,g2⟩
 ·exact h.chk.own j r k q ob h.at' hk g1 g2
 ·rcases (hO q ob).1 g2 with ⟨u,p,h1,h2,h3,h4,h5⟩ | ⟨h1,h2⟩
  ·exact (((h.chk.new1 j u r k p q ob h.at' hk h1 (h.lt h1) h4).resolve_left λhb=>h.out (h.cl u j h2 hb)).resolve_left g1)
  ·rcases (h.chk.new0 j r k h.at' hk).2 q ob h2 with h3 | ⟨u,p,h3,h4,h5⟩
   ·exact h3.resolve_left g1
   ·exact absurd h4 (h1 u p h3 (h.rdy u h5))
theorem Nxt.envNext {j:Nat} {r:DR} (h:Nxt ops R O0 ms S j r) {E:Env} (hE:∀ t a,HE E0 R S t a→E.get t=some a) {t:Nat} {a:AV} (he:HE E0 R (λi=>S i∨i=j) t a):(bN r.o.dst r.av (r.eff.E E)).get t=some a:=by
 rw[rD];by_cases hd:r.o.dst=some t
 ·rw[if_pos hd];rcases he with ⟨u,q,h1,h2,h3,h4,h5⟩ | ⟨h1,h2,h3⟩
  ·have e:=h.chk.dsts u j q r t h1 h.at' h3 hd;subst e;have:=h1.symm.trans h.at';cases this;exact h4
  ·exact absurd hd (h1 j r h.at' (.inr rfl))
 ·rw[if_neg hd];rcases he with ⟨u,q,h1,h2,h3,h4,h5⟩ | ⟨h1,h2,h3⟩
  ·have hu:S u:=by
    rcases h2 with h2 | h2
    ·exact h2
    ·subst h2; have:=h1.symm.trans h.at'; cases this; exact absurd h3 hd
   refine effE_iff.2 ⟨hE t a (.inl ⟨u,q,h1,hu,h3,h4,λi p hi hs=>h5 i p hi (.inl hs)⟩),λk hk=>?_⟩;rcases FP u j with hij | hij | hij
   ·exact h5 j r h.at' (.inr rfl) hij k hk
   ·exact absurd (hij▸hu) h.out
   ·cases hb:a.ment k with
    | false=>rfl
    | true=>exact absurd (xn h4 hb) (xl (h.right h1 hij hu) hk)
  ·exact effE_iff.2 ⟨hE t a (.inr ⟨λu q hu hs=>h1 u q hu (.inl hs),h2,λi p hi hs=>h3 i p hi (.inl hs)⟩),λk hk=>h3 j r h.at' (.inr rfl) k hk⟩
theorem Nxt.objNext {j:Nat} {r:DR} (h:Nxt ops R O0 ms S j r) {O:Objs} (hO:∀ k ob,O.get k=some ob↔HO O0 R S k ob) (k:Nat) (ob:Ob):(r.eff.O O).get k=some ob↔HO O0 R (λi=>S i∨i=j) k ob:=by
 rw[rz];by_cases hk:r.eff.hk k
 ·rw[if_pos hk];have hin:k∈r.see:=uG hk;have nolate:∀ (i:Nat) q,R[i]? = some q→S i→j<i→¬ q.eff.hk k:=λi q hq hs hlt hq'=>rE (h.right hq hlt hs) hq' hin
  constructor
  ·intro ho;refine .inl ⟨j,r,h.at',.inr rfl,hk,ho,λi q hi hs hlt=>?_⟩;rcases hs with hs | hs
   ·exact nolate i q hi hs hlt
   ·omega
  ·rintro (⟨u,q,h1,h2,h3,h4,h5⟩ | ⟨h1,h2⟩)
   ·rcases FP u j with hij | hij | hij
    ·exact absurd hk (h5 j r h.at' (.inr rfl) hij)
    ·subst hij; have:=h1.symm.trans h.at'; cases this; exact h4
    ·rcases h2 with h2 | h2
     ·exact absurd h3 (nolate u q h1 h2 hij)
     ·omega
   ·exact absurd hk (h1 j r h.at' (.inr rfl))
 ·rw[if_neg hk,hO];constructor
  ·rintro (⟨u,q,h1,h2,h3,h4,h5⟩ | ⟨h1,h2⟩)
   ·refine .inl ⟨u,q,h1,.inl h2,h3,h4,λi p hi hs hlt=>?_⟩;rcases hs with hs | hs
    ·exact h5 i p hi hs hlt
    ·subst hs; have:=hi.symm.trans h.at'; cases this; exact hk
   ·refine .inr ⟨λu q hu hs=>?_,h2⟩;rcases hs with hs | hs
    ·exact h1 u q hu hs
    ·subst hs; have:=hu.symm.trans h.at'; cases this; exact hk
  ·rintro (⟨u,q,h1,h2,h3,h4,h5⟩ | ⟨h1,h2⟩)
   ·rcases h2 with h2 | h2
    ·exact .inl ⟨u,q,h1,h2,h3,h4,λi p hi hs=>h5 i p hi (.inl hs)⟩
    ·subst h2; have:=h1.symm.trans h.at'; cases this; exact absurd h3 hk
   ·exact .inr ⟨λu q hu hs=>h1 u q hu (.inl hs),h2⟩
end
theorem HE.congr {E0:Env} {R:List DR} {S S':Nat→Prop} (hS:∀ i,i<R.length→(S i↔S' i)) {t:Nat} {a:AV} (h:HE E0 R S t a):HE E0 R S' t a:=by
 have lt:∀ {i:Nat} {q:DR},R[i]? = some q→i<R.length:=λh=>(Ez.1 h).1
 rcases h with ⟨u,q,h1,h2,h3,h4,h5⟩ | ⟨h1,h2,h3⟩
 ·exact .inl ⟨u,q,h1,(hS u (lt h1)).1 h2,h3,h4,λi p hi hs=>h5 i p hi ((hS i (lt hi)).2 hs)⟩
 ·exact .inr ⟨λu q hu hs=>h1 u q hu ((hS u (lt hu)).2 hs),h2,λi p hi hs=>h3 i p hi ((hS i (lt hi)).2 hs)⟩
theorem HO.congr {O0:Objs} {R:List DR} {S S':Nat→Prop} (hS:∀ i,i<R.length→(S i↔S' i)) {t:Nat} {a:Ob} (h:HO O0 R S t a):HO O0 R S' t a:=by
 have lt:∀ {i:Nat} {q:DR},R[i]? = some q→i<R.length:=λh=>(Ez.1 h).1
 rcases h with ⟨u,q,h1,h2,h3,h4,h5⟩ | ⟨h1,h2⟩
 ·exact .inl ⟨u,q,h1,(hS u (lt h1)).1 h2,h3,h4,λi p hi hs=>h5 i p hi ((hS i (lt hi)).2 hs)⟩
 ·exact .inr ⟨λu q hu hs=>h1 u q hu ((hS u (lt hu)).2 hs),h2⟩
section
variable {P:Program} {N:Cx} {ops:List Oper} {E0 En:Env} {O0 On:Objs} {R:List DR} {ms:List Nat} {Q:PQ} {K:Km} {ok:Nat→Prop} {w0:World}
theorem vI {l:List Bool} {i:Nat} (h:l[i]? = some false):(l.set i true).count false+1=l.count false:=by
 induction l generalizing i with
 | nil=>simp at h
 | cons x l ih=>
  cases i with
  | zero=>simp at h; subst h; simp
  | succ i=>
   have:=ih (i:=i) (by simpa using h);cases x<;>simp[List.count_cons]<;>omega
theorem vJ (hchk:Chk ops O0 R ms) (ht:Told P N.s ops E0 O0 R En On) (hlen:R.map (·.o)=ops) (hq:Q .normal En On) :
  ∀ (fuel:Nat) (listed:Array Bool) (a:Act) (w:World) (E:Env) (O:Objs) (K':Km) (ok':Nat→Prop),listed.size=ops.length→listed.toList.count false≤fuel →
   (∀ i o e,listed.getD i false=true→ops[i]? = some o→e∈o.after.toList→Region.binds .any e=true→listed.getD e.on false=true) →
   (∀ t a,HE E0 R (λi=>listed.getD i false=true) t a→E.get t=some a)→(∀ k ob,O.get k=some ob↔HO O0 R (λi=>listed.getD i false=true) k ob) →
   Sim N K' ok' w E O a→Fr K ok w0 O0 K' ok' w O→wpAnyIn (FR N.R) 0 P .any ops.toArray (Post N K ok w0 O0 Q) fuel listed a w:=by
 have hRl:R.length=ops.length:=by rw[←hlen]; simp
 have hRo:∀ (i:Nat) (o:Oper),ops[i]? = some o→∃ r,R[i]? = some r∧r.o=o:=by
  intro i o ho;rw[←hlen]at ho;simp only[EH,EC]at ho;exact ho
 have fin:∀ (listed:Array Bool) (a:Act) (w:World) (E:Env) (O:Objs) (K':Km) (ok':Nat→Prop),(∀ i,i<ops.length→listed.getD i false=true) →
   (∀ t a,HE E0 R (λi=>listed.getD i false=true) t a→E.get t=some a)→(∀ k ob,O.get k=some ob↔HO O0 R (λi=>listed.getD i false=true) k ob) →
   Sim N K' ok' w E O a→Fr K ok w0 O0 K' ok' w O→Post N K ok w0 O0 Q .normal a w:=by
  intro listed a w E O K' ok' hall hE hO hs hf;have hcongr:∀ i,i<R.length→(True↔listed.getD i false=true):=λi hi=>⟨λ_=>hall i (hRl▸hi),λ_=>trivial⟩
  have hEs:Sub En E:=λt av h=>hE t av ((ht.e t av h).congr hcongr)
  have hOs:SubO On O:=λk ob h=>(hO k ob).2 (((ht.o k ob).1 h).congr hcongr)
  exact ⟨En,On,K',ok',hq,hs.weak hEs hOs,hf.trans (Fr.weak hOs)⟩
 have ready_all:∀ (listed:Array Bool),listed.size=ops.length→Region.ready .any ops.toArray listed=[]→∀ i,i<ops.length→listed.getD i false=true:=by
  intro listed hsz hr i
  induction i using Nat.strongRecOn with
  | _ i ih=>
   intro hi
   cases hb:listed.getD i false with
   | true=>rfl
   | false=>
    have:i∈Region.ready .any ops.toArray listed:=by
     rw[mem_ready];refine ⟨?_,ops[i],by simp[hi],λe he hbi=>?_⟩
     ·have hlt:i<listed.size:=by omega
      simp[hlt]at hb ⊢;exact hb
     ·have hlt:=(hchk.ok i ops[i] (by rw[hchk.len]; exact hi) (by simp[hi])).1 e (by simpa using he) hbi;exact ih e.on hlt (by omega)
    rw[hr]at this;cases this
 intro fuel
 induction fuel with
 | zero=>
  intro listed a w E O K' ok' hsz hn hcl hE hO hs hf;have hall:∀ i,i<ops.length→listed.getD i false=true:=by
   intro i hi;have h0:listed.toList.count false=0:=by omega
   have:=List.count_eq_zero.1 h0;have hlt:i<listed.size:=by omega
   cases hb:listed[i] with
   | true=>simp[hlt,hb]
   | false=>exact absurd (by rw[←hb]; simp) this
  refine ⟨?_,fin listed a w E O K' ok' hall hE hO hs hf⟩
  cases hr:Region.ready .any ops.toArray listed with
  | nil=>rfl
  | cons x l=>
   have:x∈Region.ready .any ops.toArray listed:=by rw[hr]; simp
   rw[mem_ready]at this;obtain ⟨h1,o,ho,_⟩:=this;have hlt:x<ops.length:=by
    have:=(EY.1 ho).1;simpa using this
   have h2:=hall x hlt;have hlt':x<listed.size:=by omega
   simp[hlt']at h1 h2;rw[h1]at h2; cases h2
 | succ fuel ih=>
  intro listed a w E O K' ok' hsz hn hcl hE hO hs hf;refine ⟨λhr=>fin listed a w E O K' ok' (ready_all listed hsz hr) hE hO hs hf,λj hj=>?_⟩;obtain ⟨h1,o,ho,hedge⟩:=mem_ready.1 hj;have ho':ops[j]? = some o:=by simpa using ho
  have hjl:j<ops.length:=(Ez.1 ho').1;have hjs:j<listed.size:=by omega
  obtain ⟨r,hr,hro⟩:=hRo j o ho';have hjf:listed[j]=false:=by simpa [hjs] using h1
  let S:Nat→Prop:=λi=>listed.getD i false=true
  have hSlt:∀ i,S i→i<ms.length∧∃ o,ops[i]? = some o:=by
   intro i hi;have:i<listed.size:=by
    apply Classical.byContradiction;intro hge;have hge':listed.size≤i:=by omega
    simp[S,Gi hge']at hi
   exact ⟨by rw[hchk.len]; omega,ops[i]'(by omega),by simp⟩
  have hcl':∀ i k,S i→eO (ms.getD i 0) k=true→S k:=hchk.ok.closed (S:=S) (λi o e hi ho he hb=>hcl i o e hi ho he hb) hSlt;have nx:Nxt ops R O0 ms S j r:=by
   refine ⟨hchk,hRl,hcl',hr,?_,λi hb=>?_⟩
   ·simp[S,hjs,hjf]
   ·obtain ⟨e,he,hbi,h3⟩:=(hchk.ok j o (by rw[hchk.len]; exact hjl) ho').2 i hb;have hs':S e.on:=hedge e (by simpa using he) hbi;rcases h3 with rfl | h3
    ·exact hs'
    ·exact hcl' _ _ hs' h3
  obtain ⟨hrE,hrO,hdok,g,hg,hgo,hskip⟩:=ht.at' j r hr;have look:∀ t a,t∈ke ops r.o→r.E.get t=some a→(∀ k,a.ment k=true→k∈r.touch)→E.get t=some a:=λt a htl he hm=>hE t a (nx.env htl hm (hrE t a he))
  have hg':dQ E ops r.o.guard=some g:=by
   unfold dQ at hg ⊢;split at hg
   ·exact hg
   ·rename_i i want hgd;split at hg
    ·rename_i d hd;split at hg
     ·rename_i b hb;rw[look d _ (lZ hgd hd) hb (λk hk=>by cases hk)];exact hg
     ·rename_i hb;rw[look d _ (lZ hgd hd) hb (λk hk=>by cases hk)];exact hg
     ·cases hg
    ·cases hg
  have hw:=fc hs hg';have hdlt:=ni hdok;have set':∀ i,(listed.setIfInBounds j true).getD i false=true↔S i∨i=j:=by
   intro i;by_cases hij:i=j
   ·subst hij; simp[hjs]
   ·rw[getD_set_ne false (Ne.symm hij)]; simp[S,hij]
  have next:∀ v K2 ok2 w2,SP K' ok' w O r.av r.eff v K2 ok2 w2→wpAnyIn (FR N.R) 0 P .any ops.toArray (Post N K ok w0 O0 Q) fuel (listed.setIfInBounds j true) (a.put r.o.dst v) w2:=by
   intro v K2 ok2 w2 hsp;refine ih (listed.setIfInBounds j true) (a.put r.o.dst v) w2 (bN r.o.dst r.av (r.eff.E E)) (r.eff.O O) K2 ok2 (by simpa using hsz) ?_ ?_ ?_ ?_ (hsp.sim hs hdlt) (hf.trans hsp.fr)
   ·have:=vI (l:=listed.toList) (i:=j) (by simp[hjs,hjf]);simp only[Array.toList_setIfInBounds];omega
   ·intro i o' e hi hoi he hb;rw[set']at hi ⊢;rcases hi with hi | hi
    ·exact .inl (hcl i o' e hi hoi he hb)
    ·subst hi;rw[ho']at hoi;cases hoi;exact .inl (hedge e (by simpa using he) hb)
   ·intro t av he;exact nx.envNext hE (he.congr λi _=>set' i)
   ·intro k ob;exact (nx.objNext hO k ob).trans ⟨λh=>h.congr λi _=>(set' i).symm,λh=>h.congr λi _=>set' i⟩
  unfold wpOpIn;rw[ho];simp only;subst hro
  cases g with
  | true=>
   rw[hw,if_pos rfl];refine jV N.R (hgo rfl).1 ((hgo rfl).2 E O ⟨λx av hx he=>?_,λhrd x av k hx he hm=>?_,λk hk=>nx.nom hO hk,λk hk=>?_⟩ N K' ok' w a _ _ hs next)
   ·cases x with
    | tmp t=>exact look t av (xc hx) he (λk hk=>tH hx he hk)
    | _=>exact he
   ·have hin:=xo hrd hx he hm;have hiff:∀ ob,O.get k=some ob↔r.O.get k=some ob:=λob=>((hO k ob).trans (nx.obj hin ob).symm).trans (hrO k ob).symm
    cases hob:r.O.get k with
    | some ob=>exact (hiff ob).2 hob
    | none=>
     cases hob':O.get k with
     | none=>rfl
     | some ob=>rw[(hiff ob).1 hob']at hob; cases hob
   ·have hin:=uG hk;have hiff:∀ ob,O.get k=some ob↔r.O.get k=some ob:=λob=>((hO k ob).trans (nx.obj hin ob).symm).trans (hrO k ob).symm
    cases hob:r.O.get k with
    | some ob=>exact (hiff ob).2 hob
    | none=>
     cases hob':O.get k with
     | none=>rfl
     | some ob=>rw[(hiff ob).1 hob']at hob; cases hob
  | false=>
   rw[hw,if_neg (by simp)];obtain ⟨e1,e2⟩:=hskip rfl;have:=next undef K' ok' w (by rw[e1,e2]; exact SP.skip hs.hp);exact ⟨λ_ _=>trivial,this⟩
end
end
section
def Objs.only (ks:List Nat):Objs→Objs
 | []=>[]
 | (k,o)::O=>bif bF k ks then (k,o)::Objs.only ks O else Objs.only ks O
def xp (V:Objs):Ob→Ob
 | .var cells=>.var (cells.map (d8 3 V))
 | .row sz els=>.row sz els
 | .rowO sz els ids=>.rowO sz (els.map (·.map (d8 3 V))) ids
 | ob=>ob
def Objs.froze:Objs→List Nat→Objs→Objs
 | [],_,_=>[]
 | (k,o)::O,ks,V=>bif bF k ks then Objs.froze O ks V else (k,o.map (xp V))::Objs.froze O ks V
theorem Objs.only_get {ks:List Nat}:∀ {O:Objs} {t:Nat} {ob:Ob},(O.only ks).get t=some ob→bF t ks=true∧O.get t=some ob
 | [],t,ob,h=>by simp[Objs.only,Objs.get]at h
 | (k,o)::O,t,ob,h=>by
  simp only[Objs.only]at h
  cases hm:bF k ks with
  | true=>
   rw[hm]at h;simp only[cond_true,Objs.get]at h ⊢
   cases hb:Nat.beq k t with
   | true=>rw[hb]at h; have e:=Eu hb; subst e; exact ⟨hm,h⟩
   | false=>rw[hb]at h; exact Objs.only_get h
  | false=>
   rw[hm]at h;obtain ⟨h1,h2⟩:=Objs.only_get h;refine ⟨h1,?_⟩;simp only[Objs.get]
   cases hb:Nat.beq k t with
   | true=>have e:=Eu hb; subst e; rw[hm]at h1; cases h1
   | false=>exact h2
theorem Objs.froze_get {ks:List Nat} {V:Objs}:∀ {O:Objs} {t:Nat} {ob:Ob},(O.froze ks V).get t=some ob→bF t ks=false∧∃ o,O.get t=some o∧ob=xp V o
 | [],t,ob,h=>by simp[Objs.froze,Objs.get]at h
 | (k,o)::O,t,ob,h=>by
  simp only[Objs.froze]at h
  cases hm:bF k ks with
  | true=>
   rw[hm]at h;obtain ⟨h1,o',h2,h3⟩:=Objs.froze_get h;refine ⟨h1,o',?_,h3⟩;simp only[Objs.get]
   cases hb:Nat.beq k t with
   | true=>have e:=Eu hb; subst e; rw[hm]at h1; cases h1
   | false=>exact h2
  | false=>
   rw[hm]at h;simp only[cond_false,Objs.get]at h ⊢
   cases hb:Nat.beq k t with
   | true=>
    rw[hb]at h;have e:=Eu hb;subst e;simp only[cond_true,EC]at h ⊢;obtain ⟨o',h1,h2⟩:=h;exact ⟨hm,o',h1,h2.symm⟩
   | false=>rw[hb]at h; exact Objs.froze_get h
mutual
theorem tI {V:Objs} {r:Nat}:∀ (n:Nat) (x:PC),(d8 n V x).ment r=true→x.ment r=true
 | 0,x,h=>viewP_ment x h
 | n+1,.ad k off,h=>by
  simp only[d8]at h;split at h
  ·cases hc:closedL _ with
   | true=>rw[hc]at h; cases h
   | false=>rw[hc]at h; exact h
  ·exact h
 | n+1,.fn f caps,h=>by
  simp only[d8,PC.ment]at h ⊢;exact viewL_ment n caps h
 | n+1,.sc _,h=>viewP_ment _ h
 | n+1,.sl _ _,h=>viewP_ment _ h
 | n+1,.rd _,h=>viewP_ment _ h
 | n+1,.ow _ _ _,h=>viewP_ment _ h
 | n+1,.os _ _ _ _,h=>viewP_ment _ h
 | n+1,.ea _ _ _ _,h=>viewP_ment _ h
 | n+1,.mp _,h=>viewP_ment _ h
 | n+1,.cb _,h=>viewP_ment _ h
 | n+1,.dead,h=>viewP_ment _ h
theorem viewL_ment {V:Objs} {r:Nat}:∀ (n:Nat) (l:List PC),PC.ment.mentL r (l.map (d8 n V))=true→PC.ment.mentL r l=true
 | _,[],h=>h
 | n,x::l,h=>by
  simp only[Fg,PC.ment.mentL,Fs]at h ⊢;exact h.imp (tI n x) (viewL_ment n l)
theorem viewP_ment {V:Objs} {r:Nat}:∀ (x:PC),(eM V x).ment r=true→x.ment r=true
 | .ow r' sz n,h=>by
  simp only[eM]at h;split at h
  ·cases hc:Nat.beq _ _ with
   | true=>rw[hc]at h; cases h
   | false=>rw[hc]at h; exact h
  ·exact h
 | .os r' sz lo n,h=>by
  simp only[eM]at h;split at h
  ·cases hc:Nat.beq _ _ with
   | true=>rw[hc]at h; cases h
   | false=>rw[hc]at h; exact h
  ·exact h
 | .ad k off,h=>by
  simp only[eM]at h;split at h
  ·cases hc:closedL _ with
   | true=>rw[hc]at h; cases h
   | false=>rw[hc]at h; exact h
  ·exact h
 | .fn _ _,h=>h
 | .sc _,h=>h
 | .sl _ _,h=>h
 | .rd _,h=>h
 | .ea _ _ _ _,h=>h
 | .mp _,h=>h
 | .cb _,h=>h
 | .dead,h=>h
end
theorem fl {K:Km} {ok:Nat→Prop} {w:World} {V:Objs} (hp:Hp K ok w V):∀ (n:Nat) {x:PC} {v:Value},RelO K ok w x v→RelO K (e9 K ok V) w (d8 n V x) v
 | 0,x,v,h=>iP hp h
 | n+1,x,v,h=>by
  have h0:RelO K (e9 K ok V) w x v:=h.mono (λ_ h=>.inl h) (λ_ _ _=>rfl) (Ew _) λr _=>Shp.refl _ _ _
  cases x with
  | ad k off=>
   simp only[d8];split
   ·rename_i cells ho
    cases hcl:closedL (cells.map (d8 n V)) with
    | false=>exact h0
    | true=>
     cases h with
     | cl h=>cases h
     | @ad _ _ b L hk=>
      obtain ⟨b',cs,e,fr,a1,a2,a3,a4⟩:=hp.obs k _ ho;rw[hk]at a1;cases a1;have key:∀ i x,((cells.map (d8 n V)).drop off)[i]? = some x→∃ u,cs[off+i]? = some u∧Rel (e9 K ok V) w x u:=λi x hi=>by
       rw[Fj]at hi;have hc:=ba hcl _ x hi;simp only[EH,EC]at hi;obtain ⟨y,hy,rfl⟩:=hi;obtain ⟨u,hu,hr⟩:=a4.get _ y hy;exact ⟨u,by simpa using hu,(fl hp n hr).closed hc⟩
      refine .cl (.rd (λi=>cs[off+i]?.getD undef) (.inr ⟨k,_,_,ho,hk⟩) (bD a2) (λi x hi=>?_) λi x hi=>?_)
      ·obtain ⟨u,hu,hr⟩:=key i x hi;rw[dF a2 hu,hu]; rfl
      ·obtain ⟨u,hu,hr⟩:=key i x hi;rw[hu]; exact hr
   ·exact h0
  | fn f caps=>
   simp only[d8]
   cases h with
   | cl h=>
    cases h with
    | fn gg hg=>
     have:=RelO.fn (K:=K) (ok:=e9 K ok V) (w:=w) (f:=f) (caps:=caps.map (d8 n V)) gg λi x hx=>by
      simp only[EH,EC]at hx;obtain ⟨y,hy,rfl⟩:=hx;exact fl hp n (.cl (hg i y hy))
     rw[Fl]at this;exact this
   | fn gg hg=>
    have:=RelO.fn (K:=K) (ok:=e9 K ok V) (w:=w) (f:=f) (caps:=caps.map (d8 n V)) gg λi x hx=>by
     simp only[EH,EC]at hx;obtain ⟨y,hy,rfl⟩:=hx;exact fl hp n (hg i y hy)
    rw[Fl]at this;exact this
  | _=>exact iP hp h
section
variable {K K':Km} {ok ok':Nat→Prop} {w w':World} {F:PC→PC}
theorem rF (hF:∀ x v,RelO K ok w x v→RelO K' ok' w' (F x) v) {y:A1} {u:Value} (hr:RelA K ok w y u):RelA K' ok' w' (y.map F) u:=by
 cases hr with
 | c hr=>exact .c (hF _ _ hr)
 | ag hr=>exact .ag ⟨by simp[hr.len],λj z hz=>by
   simp only[EH,EC]at hz;obtain ⟨z',hz',rfl⟩:=hz;obtain ⟨u',hu',hr'⟩:=hr.get j z' hz';exact ⟨u',hu',hF _ _ hr'⟩⟩
theorem lw (hF:∀ x v,RelO K ok w x v→RelO K' ok' w' (F x) v) {l:List A1} {vs:List Value} (h:RelAs K ok w l vs):RelAs K' ok' w' (l.map (A1.map F)) vs:=
 ⟨by simp[h.len],λi x hx=>by
  simp only[EH,EC]at hx;obtain ⟨y,hy,rfl⟩:=hx;obtain ⟨u,hu,hr⟩:=h.get i y hy;exact ⟨u,hu,rF hF hr⟩⟩
theorem rG (hF:∀ x v,RelO K ok w x v→RelO K' ok' w' (F x) v) {y:AV} {u:Value} (hr:RelV K ok w y u):RelV K' ok' w' (y.map F) u:=by
 cases hr with
 | o hr=>exact .o (rF hF hr)
 | tup hr=>exact .tup (lw hF hr)
end
theorem Sim.view {N:Cx} {K:Km} {ok:Nat→Prop} {w:World} {E:Env} {O:Objs} {a:Act} (hs:Sim N K ok w E O a) (ks:List Nat) :
  Sim N K (e9 K ok (O.only ks)) w (.vw (O.only ks)::E) (O.froze ks (O.only ks)) a∧Fr K ok w O K (e9 K ok (O.only ks)) w (O.froze ks (O.only ks)):=by
 have hV:SubO (O.only ks) O:=λk o h=>(Objs.only_get h).2
 have hpV:=hs.hp.sub hV;have hmono:∀ {x:PC} {v:Value},Rel ok w x v→Rel (e9 K ok (O.only ks)) w x v:=λh=>h.mono (λ_ h=>.inl h) (λ_ _ _=>rfl) (Ew _)
 have hfr:Fr K ok w O K (e9 K ok (O.only ks)) w (O.froze ks (O.only ks)):=by
  refine ⟨Ew _,λ_ _ _ _=>rfl,λ_ h=>.inl h,λb hb=>?_,λk o b L h1 h2=>?_,rfl,rfl,rfl,λ_ o h=>⟨o,h,SK.refl o⟩,λ_ _=>rfl,λ_ h=>.inl h⟩
  ·rcases hb with hb | ⟨k,o,L,h1,h2⟩
   ·exact .inl hb
   ·exact .inr (.inr ⟨k,o,L,hV _ _ h1,h2⟩)
  ·obtain ⟨_,p,hp,_⟩:=Objs.froze_get h1;exact .inr ⟨k,p,L,hp,h2⟩
 refine ⟨⟨hs.size,hs.defers' hfr,hs.base,hs.rnd,hs.old,⟨λk ob h=>?_,λk k' o o' b L L' h1 h2 e1 e2=>?_,λk ob b L h hK hok=>?_,λb hb=>?_,hs.hp.hlt,λb h hok=>?_,λk ob b L h hK=>?_⟩,λt av h=>?_⟩,hfr⟩
 ·obtain ⟨_,o,ho,rfl⟩:=Objs.froze_get h;have:=hs.hp.obs k o ho
  cases o with
  | var cells=>
   obtain ⟨b,cs,e,fr,a1,a2,a3,a4⟩:=this;refine ⟨b,cs,e,fr,a1,a2,a3,by simp[a4.len],λi x hx=>?_⟩;simp only[EH,EC]at hx;obtain ⟨y,hy,rfl⟩:=hx;obtain ⟨u,hu,hr⟩:=a4.get i y hy;exact ⟨u,hu,fl hpV 3 hr⟩
  | row sz els=>
   rcases this with h0 | ⟨b,cs,e,fr,a1,a2,a3,a4,a5,a6,a7⟩
   ·exact .inl h0
   ·exact .inr ⟨b,cs,e,fr,a1,a2,a3,a4,a5,a6,λj i el x hj hi=>by
     obtain ⟨u,hu,hr⟩:=a7 j i el x hj hi;exact ⟨u,hu,hmono hr⟩⟩
  | rowO sz els ids=>
   refine ⟨λel r hel hm=>?_,?_⟩
   ·obtain ⟨el',hel',rfl⟩:=Fb.1 hel;exact this.1 el' r hel' (viewL_ment 3 el' hm)
   rcases this.2 with ⟨h1,h2⟩ | ⟨b,cs,e,fr,a1,a2,a3,a4,a5,a6,a7⟩
   ·exact .inl ⟨h1,by simp[h2]⟩
   ·refine .inr ⟨b,cs,e,fr,by simpa using a1,a2,a3,by simpa using a4,by simpa using a5,λj el hj=>?_,λj i el x hj hi=>?_⟩
    ·simp only[EH,EC]at hj;obtain ⟨el',hj',rfl⟩:=hj;simpa using a6 j el' hj'
    ·simp only[EH,EC]at hj;obtain ⟨el',hj',rfl⟩:=hj;simp only[EH,EC]at hi;obtain ⟨y,hy,rfl⟩:=hi;obtain ⟨u,hu,hr⟩:=a7 j i el' y hj' hy;exact ⟨u,hu,fl hpV 3 hr⟩
  | mp agg ks' vs=>
   obtain ⟨b,es,cl,a1,a2,a3⟩:=this;exact ⟨b,es,cl,a1,a2,a3.mono (λ_ h=>.inl h) (λ_ _ _=>rfl) (Ew _)⟩
  | me agg S=>
   obtain ⟨ks,vs,hS,b,es,cl,a1,a2,a3⟩:=this;exact ⟨ks,vs,hS,b,es,cl,a1,a2,a3.mono (λ_ h=>.inl h) (λ_ _ _=>rfl) (Ew _)⟩
  | abs J=>
   obtain ⟨a1,a2,a3⟩:=this;exact ⟨a1,a2,a2 _ _ _ _ _ a3 (λ_ h=>.inl h) (λ_ _ _=>rfl) (λ_ _=>rfl) (Ew _) rfl rfl rfl (CSh.same λ_ _=>rfl)⟩
 ·obtain ⟨_,p,hp,_⟩:=Objs.froze_get h1;obtain ⟨_,p',hp',_⟩:=Objs.froze_get h2;exact hs.hp.inj k k' p p' b L L' hp hp' e1 e2
 ·obtain ⟨hm,p,hp,_⟩:=Objs.froze_get h;rcases hok with hok | ⟨k',o',L',h1,h2⟩
  ·exact hs.hp.apart k p b L hp hK hok
  ·obtain ⟨hm',h3⟩:=Objs.only_get h1;have:=hs.hp.inj k k' p o' b L L' hp h3 hK h2;subst this;rw[hm]at hm'; cases hm'
 ·rcases hb with hb | ⟨k,o,L,h1,h2⟩
  ·exact hs.hp.lt b hb
  ·exact db hs.hp (hV _ _ h1) h2
 ·rcases hok with hok | ⟨k',o',L',h1,h2⟩
  ·exact hs.hp.hok b h hok
  ·exact hs.hp.how k' o' b L' (hV _ _ h1) h2 h
 ·obtain ⟨_,p,hp,_⟩:=Objs.froze_get h;exact hs.hp.how k p b L hp hK
 ·simp only[Env.get,EC]at h;obtain ⟨av',h1,rfl⟩:=h;obtain ⟨v,hv,hr⟩:=hs.env t av' h1;exact ⟨v,hv,rG (λx v=>fl hpV 3) hr⟩
theorem Objs.only_all {ks:List Nat}:∀ {O:Objs},(∀ p,p∈O→bF p.1 ks=true)→O.only ks=O
 | [],_=>rfl
 | (k,o)::O,h=>by simp only[Objs.only,h (k,o) (by simp),cond_true,Objs.only_all (O:=O) λp hp=>h p (by simp[hp])]
theorem Objs.froze_all {ks:List Nat} {V:Objs}:∀ {O:Objs},(∀ p,p∈O→bF p.1 ks=true)→O.froze ks V=[]
 | [],_=>rfl
 | (k,o)::O,h=>by simp only[Objs.froze,h (k,o) (by simp),cond_true,Objs.froze_all (O:=O) λp hp=>h p (by simp[hp])]
def pick (ks:Option (List Nat)) (O:Objs):List Nat:=match ks with | some l=>l | none=>O.map (·.1)
theorem Ct.fin {P:Program} {N:Nx} {f:FuncId} {fn:Func} {c:Code} {args res:List A1} {O O':Objs} (ks:Option (List Nat)) (hf:P.funcs[f]? = some fn) (hb:fn.body=some c) (hn:(fn.name == "runtime.NumGoroutine")=false) (hN:fn.ntmps=N.n) (hl:Nat.ble args.length N.n=true)
  (h:W P N (ka 0 args) O c (λe E O2=>(match e with | .normal=>True | .ret=>True | _=>False)∧SubO O' (O2.froze (pick ks O2) (O2.only (pick ks O2)))∧∃ ys,vE P (.vw (O2.only (pick ks O2))::E) (O2.froze (pick ks O2) (O2.only (pick ks O2))) fn.results.toList ys∧leAs ys res)) (hfz:N.fz=[]):CtO P f O args O' res:=by
 refine Ct.of hf hb hn hN hl (λR B old K ok w a hs=>wpIn_mono (h R B old K ok w a hs) λe a' w' hp=>?_) hfz;obtain ⟨E',O2,K',ok',⟨h1,h2⟩,h3,h4⟩:=hp;have hv:=h3.view (pick ks O2);exact ⟨_,_,K',_,⟨h1,h2⟩,hv.1,h4.trans hv.2⟩
def lk:List (Nat × Nat)→Nat→Option Nat
 | [],_=>none
 | (a,b)::l,k=>bif Nat.beq a k then some b else lk l k
theorem fv:∀ {l:List (Nat × Nat)} {k q:Nat},lk l k=some q→(k,q)∈l
 | [],_,_,h=>by cases h
 | (a,b)::l,k,q,h=>by
  simp only[lk]at h
  cases hb:Nat.beq a k with
  | true=>rw[hb]at h; cases h; rw[Eu hb]; simp
  | false=>rw[hb]at h; exact EV _ (fv h)
def jn:List Nat→Bool
 | []=>true
 | x::l=>!(bF x l)&&jn l
theorem cR:∀ {l:List Nat},jn l=true→l.Nodup
 | [],_=>Gy
 | x::l,h=>by
  simp only[jn,Ex,FO]at h;exact Hb.2 ⟨gh h.1,cR h.2⟩
theorem fw:∀ {l:List (Nat × Nat)},(l.map (·.1)).Nodup→∀ {k q:Nat},(k,q)∈l→lk l k=some q
 | [],_,_,_,h=>by simp at h
 | (a,b)::l,hn,k,q,h=>by
  simp only[Fg,Hb]at hn;simp only[lk];simp only[E9,Prod.mk.injEq]at h;rcases h with ⟨rfl,rfl⟩ | h
  ·simp
  ·have:Nat.beq a k=false:=by
    cases hb:Nat.beq a k with
    | false=>rfl
    | true=>exact absurd (Fb.2 ⟨(k,q),h,(Eu hb).symm⟩) hn.1
   rw[this];exact fw hn.2 h
def df (l:List (Nat × Nat)):List (Nat × Nat):=l.map λp=>(p.2,p.1)
theorem swap_mem {l:List (Nat × Nat)} {k q:Nat}:(q,k)∈df l↔(k,q)∈l:=by
 simp only[df,Fb,Prod.mk.injEq,Prod.exists];constructor
 ·rintro ⟨a,b,h,rfl,rfl⟩; exact h
 ·intro h; exact ⟨k,q,h,rfl,rfl⟩
theorem nC {l:List (Nat × Nat)}:(df l).map (·.1)=l.map (·.2):=by simp[df]
mutual
def fx (σ:List (Nat × Nat)):PC→PC
 | .ow r sz n=>match lk σ r with | some q=>.ow q sz n | none=>.dead
 | .os r sz lo n=>match lk σ r with | some q=>.os q sz lo n | none=>.dead
 | .ad r off=>match lk σ r with | some q=>.ad q off | none=>.dead
 | .ea r sz i off=>match lk σ r with | some q=>.ea q sz i off | none=>.dead
 | .mp r=>match lk σ r with | some q=>.mp q | none=>.dead
 | .fn f caps=>.fn f (renL σ caps)
 | x=>x
def renL (σ:List (Nat × Nat)):List PC→List PC
 | []=>[]
 | x::l=>fx σ x::renL σ l
end
theorem dG {σ:List (Nat × Nat)}:∀ {l:List PC},renL σ l=l.map (fx σ)
 | []=>rfl
 | x::l=>by simp only[renL,Fg,dG (l:=l)]
theorem ij {K K':Km} {ok:Nat→Prop} {w:World} {σ:List (Nat × Nat)} (hσ:∀ k q,lk σ k=some q→K' q=K k) {x:PC} {v:Value} (h:RelO K ok w x v):RelO K' ok w (fx σ x) v:=by
 induction h with
 | @cl x v h=>
  induction h with
  | @fn f caps g h ih=>
   simp only[fx];have:=RelO.fn (K:=K') (ok:=ok) (w:=w) (f:=f) (caps:=renL σ caps) g λi x hx=>by
    rw[dG]at hx;simp only[EH,EC]at hx;obtain ⟨y,hy,rfl⟩:=hx;exact ih i y hy
   rw[dG,Fl,←dG]at this;exact this
  | sc h=>exact .cl (.sc h)
  | sl0=>exact .cl .sl0
  | sl g a1 a2 a3 a4 a5 a6 a7=>exact .cl (.sl g a1 a2 a3 a4 a5 a6 a7)
  | rd g a1 a2 a3 a4=>exact .cl (.rd g a1 a2 a3 a4)
  | cb h=>exact .cl (.cb h)
 | ow hk a2 a3 a4=>
  simp only[fx];split
  ·rename_i q hq; exact .ow ((hσ _ _ hq).trans hk) a2 a3 a4
  ·exact .dead rfl
 | owN hk=>
  simp only[fx];split
  ·rename_i q hq; exact .owN ((hσ _ _ hq).trans hk)
  ·exact .dead rfl
 | os hk a2 a3 a4 a5=>
  simp only[fx];split
  ·rename_i q hq; exact .os ((hσ _ _ hq).trans hk) a2 a3 a4 a5
  ·exact .dead rfl
 | ad hk=>
  simp only[fx];split
  ·rename_i q hq; exact .ad ((hσ _ _ hq).trans hk)
  ·exact .dead rfl
 | ea hk=>
  simp only[fx];split
  ·rename_i q hq; exact .ea ((hσ _ _ hq).trans hk)
  ·exact .dead rfl
 | mp hk=>
  simp only[fx];split
  ·rename_i q hq; exact .mp ((hσ _ _ hq).trans hk)
  ·exact .dead rfl
 | @fn f caps g h ih=>
  simp only[fx];have:=RelO.fn (K:=K') (ok:=ok) (w:=w) (f:=f) (caps:=renL σ caps) g λi x hx=>by
   rw[dG]at hx;simp only[EH,EC]at hx;obtain ⟨y,hy,rfl⟩:=hx;exact ih i y hy
  rw[dG,Fl,←dG]at this;exact this
 | dead h=>exact .dead h
mutual
theorem vL {σ:List (Nat × Nat)} {r:Nat}:∀ (x:PC),(fx σ x).ment r=true→∃ k,x.ment k=true∧lk σ k=some r
 | .ow r' sz n,h=>by
  simp only[fx]at h;split at h
  ·rename_i q hq; have e:=Eu (show Nat.beq q r=true from h); subst e; exact ⟨r',EP _,hq⟩
  ·cases h
 | .os r' sz lo n,h=>by
  simp only[fx]at h;split at h
  ·rename_i q hq; have e:=Eu (show Nat.beq q r=true from h); subst e; exact ⟨r',EP _,hq⟩
  ·cases h
 | .ad r' off,h=>by
  simp only[fx]at h;split at h
  ·rename_i q hq; have e:=Eu (show Nat.beq q r=true from h); subst e; exact ⟨r',EP _,hq⟩
  ·cases h
 | .ea r' sz i off,h=>by
  simp only[fx]at h;split at h
  ·rename_i q hq; have e:=Eu (show Nat.beq q r=true from h); subst e; exact ⟨r',EP _,hq⟩
  ·cases h
 | .mp r',h=>by
  simp only[fx]at h;split at h
  ·rename_i q hq; have e:=Eu (show Nat.beq q r=true from h); subst e; exact ⟨r',EP _,hq⟩
  ·cases h
 | .fn f caps,h=>by
  simp only[fx]at h;exact renL_ment caps h
 | .sc _,h=>by cases h
 | .sl _ _,h=>by cases h
 | .rd _,h=>by cases h
 | .cb _,h=>by cases h
 | .dead,h=>by cases h
theorem renL_ment {σ:List (Nat × Nat)} {r:Nat}:∀ (l:List PC),PC.ment.mentL r (renL σ l)=true→∃ k,PC.ment.mentL k l=true∧lk σ k=some r
 | [],h=>by cases h
 | x::l,h=>by
  simp only[renL,PC.ment.mentL,Fs]at h ⊢;rcases h with h | h
  ·obtain ⟨k,h1,h2⟩:=vL x h; exact ⟨k,.inl h1,h2⟩
  ·obtain ⟨k,h1,h2⟩:=renL_ment l h; exact ⟨k,.inr h1,h2⟩
end
abbrev f9 (σ:List (Nat × Nat)):A1→A1:=A1.map (fx σ)
def dx (σ:List (Nat × Nat)):Ob→Ob
 | .var cells=>.var (cells.map (fx σ))
 | .rowO sz els ids=>.rowO sz (els.map (·.map (fx σ))) (ids.filterMap (lk σ))
 | ob=>ob
theorem HOb.ren {K K':Km} {ok:Nat→Prop} {w:World} {σ:List (Nat × Nat)} (hσ:∀ k q,lk σ k=some q→K' q=K k) {k q:Nat} {ob:Ob} (hk:K' q=K k) (ha:∀ J,ob = .abs J→K'.hid=K.hid) (h:HOb K ok w k ob):HOb K' ok w q (dx σ ob):=by
 cases ob with
 | var cells=>
  obtain ⟨b,cs,e,fr,a1,a2,a3,a4⟩:=h;exact ⟨b,cs,e,fr,hk.trans a1,a2,a3,by simp[a4.len],λi x hx=>by
   simp only[EH,EC]at hx;obtain ⟨y,hy,rfl⟩:=hx;obtain ⟨u,hu,hr⟩:=a4.get i y hy;exact ⟨u,hu,ij hσ hr⟩⟩
 | row sz els=>
  rcases h with ⟨h1,h2⟩ | ⟨b,cs,e,fr,a1,rest⟩
  ·exact .inl ⟨hk.trans h1,h2⟩
  ·exact .inr ⟨b,cs,e,fr,hk.trans a1,rest⟩
 | rowO sz els ids=>
  obtain ⟨h0,h⟩:=h;refine ⟨λel r hel hm=>?_,?_⟩
  ·obtain ⟨el',hel',rfl⟩:=Fb.1 hel;rw[←dG]at hm;obtain ⟨k',h1,h2⟩:=renL_ment el' hm;exact iL (List.mem_filterMap.2 ⟨k',gl (h0 el' k' hel' h1),h2⟩)
  ·rcases h with ⟨h1,h2⟩ | ⟨b,cs,e,fr,a1,a2,a3,a4,a5,a6,a7⟩
   ·exact .inl ⟨hk.trans h1,by simp[h2]⟩
   ·refine .inr ⟨b,cs,e,fr,by simpa using hk.trans a1,a2,a3,by simpa using a4,by simpa using a5,λj el hj=>?_,λj i el x hj hi=>?_⟩
    ·simp only[EH,EC]at hj;obtain ⟨el',hj',rfl⟩:=hj;simpa using a6 j el' hj'
    ·simp only[EH,EC]at hj;obtain ⟨el',hj',rfl⟩:=hj;simp only[EH,EC]at hi;obtain ⟨y,hy,rfl⟩:=hi;obtain ⟨u,hu,hr⟩:=a7 j i el' y hj' hy;exact ⟨u,hu,ij hσ hr⟩
 | mp agg ks vs=>
  obtain ⟨b,es,cl,a1,rest⟩:=h;exact ⟨b,es,cl,hk.trans a1,rest⟩
 | me agg S=>
  obtain ⟨ks,vs,hS,b,es,cl,a1,rest⟩:=h;exact ⟨ks,vs,hS,b,es,cl,hk.trans a1,rest⟩
 | abs J=>
  obtain ⟨a1,a2,a3⟩:=h;exact ⟨hk.trans a1,a2,by rw[ha J rfl]; exact a3⟩
end
section
def bQ (σ:List (Nat × Nat)) (O:Objs):List (Nat × Nat)→Objs
 | []=>[]
 | (k,q)::l=>(q,(O.get k).map (dx σ))::bQ σ O l
theorem dt {σ:List (Nat × Nat)} {O:Objs}:∀ {l:List (Nat × Nat)} {q:Nat} {ob:Ob},(bQ σ O l).get q=some ob→∃ k o,(k,q)∈l∧O.get k=some o∧ob=dx σ o
 | [],_,_,h=>by simp[bQ,Objs.get]at h
 | (k,q')::l,q,ob,h=>by
  simp only[bQ,Objs.get]at h
  cases hb:Nat.beq q' q with
  | true=>
   rw[hb]at h;simp only[cond_true,EC]at h;obtain ⟨o,h1,h2⟩:=h;exact ⟨k,o,by rw[Eu hb]; simp,h1,h2.symm⟩
  | false=>
   rw[hb]at h;obtain ⟨k',o,h1,h2⟩:=dt (l:=l) h;exact ⟨k',o,EV _ h1,h2⟩
def Objs.delL:Objs→List Nat→Objs
 | O,[]=>O
 | O,k::l=>Objs.delL (O.del k) l
theorem Objs.delL_get:∀ {l:List Nat} {O:Objs} {t:Nat} {o:Ob},(O.delL l).get t=some o→t∉l∧O.get t=some o
 | [],_,_,_,h=>⟨by simp,h⟩
 | k::l,O,t,o,h=>by
  obtain ⟨h1,h2⟩:=Objs.delL_get (l:=l) (O:=O.del k) h;obtain ⟨h3,h4⟩:=Objs.get_del O k t o h2;exact ⟨by simp only[E9,not_or]; exact ⟨λe=>h3 e.symm,h1⟩,h4⟩
def d7 (ν:List (Nat × Nat)):Objs→Objs
 | []=>[]
 | (_,none)::l=>d7 ν l
 | (q,some ob)::l=>match lk ν q with | some r=>(r,some (dx ν ob))::d7 ν l | none=>d7 ν l
theorem ik {ν:List (Nat × Nat)} {O':Objs} {r:Nat} {ob:Ob}:∀ {l:Objs},(d7 ν l++O').get r=some ob→(∃ q o,(q,some o)∈l∧lk ν q=some r∧ob=dx ν o)∨((∀ q o,(q,some o)∈l→lk ν q≠some r)∧O'.get r=some ob)
 | [],h=>.inr ⟨λq o h=>by simp at h,h⟩
 | (q',none)::l,h=>by
  rcases ik (l:=l) h with ⟨q,o,h1,h2⟩ | ⟨h1,h2⟩
  ·exact .inl ⟨q,o,EV _ h1,h2⟩
  ·exact .inr ⟨λq o hq=>by
    simp only[E9,Prod.mk.injEq,reduceCtorEq,and_false,false_or]at hq;exact h1 q o hq,h2⟩
 | (q',some ob')::l,h=>by
  simp only[d7]at h
  cases hl:lk ν q' with
  | none=>
   rw[hl]at h;rcases ik (l:=l) h with ⟨q,o,h1,h2⟩ | ⟨h1,h2⟩
   ·exact .inl ⟨q,o,EV _ h1,h2⟩
   ·refine .inr ⟨λq o hq=>?_,h2⟩;simp only[E9,Prod.mk.injEq]at hq;rcases hq with ⟨rfl,_⟩ | hq
    ·rw[hl]; simp
    ·exact h1 q o hq
  | some r'=>
   rw[hl]at h;simp only[F9,Objs.get]at h
   cases hb:Nat.beq r' r with
   | true=>
    rw[hb]at h;cases h;exact .inl ⟨q',ob',by simp,by rw[hl,Eu hb],rfl⟩
   | false=>
    rw[hb]at h;rcases ik (l:=l) h with ⟨q,o,h1,h2⟩ | ⟨h1,h2⟩
    ·exact .inl ⟨q,o,EV _ h1,h2⟩
    ·refine .inr ⟨λq o hq=>?_,h2⟩;simp only[E9,Prod.mk.injEq]at hq;rcases hq with ⟨rfl,_⟩ | hq
     ·rw[hl]; intro e; cases e; rw[EP]at hb; cases hb
     ·exact h1 q o hq
theorem jG:∀ {l:Objs} {q:Nat} {o:Option Ob},(l.map (·.1)).Nodup→(q,o)∈l→l.get q=o
 | [],_,_,_,h=>by simp at h
 | (k,o')::l,q,o,hn,h=>by
  simp only[Fg,Hb]at hn;simp only[E9,Prod.mk.injEq]at h;simp only[Objs.get];rcases h with ⟨rfl,rfl⟩ | h
  ·simp
  ·have:Nat.beq k q=false:=by
    cases hb:Nat.beq k q with
    | false=>rfl
    | true=>exact absurd (Fb.2 ⟨(q,o),h,(Eu hb).symm⟩) hn.1
   rw[this];exact jG hn.2 h
def nD:Option Ob→Bool
 | some (.abs _)=>true
 | _=>false
def bv (σ:List (Nat × Nat)) (O:Objs):Bool:=σ.any λp=>nD (O.get p.1)
def fS:Objs→Bool
 | []=>true
 | (_,o)::l=>!(nD o)&&fS l
theorem gp:∀ {O:Objs} {k:Nat} {J:(Nat→Prop)→(Nat→Prop)→World→Prop},fS O=true→O.get k≠some (.abs J)
 | [],_,_,_,h=>by simp[Objs.get]at h
 | (k',o)::l,k,J,hn,h=>by
  simp only[fS,Ex,FO]at hn;simp only[Objs.get]at h
  cases hb:Nat.beq k' k with
  | true=>rw[hb]at h; simp only[cond_true]at h; rw[h]at hn; cases hn.1
  | false=>rw[hb]at h; exact gp hn.2 h
def xq:Option Ob→Bool
 | some _=>true
 | none=>false
def eqO:Option Nat→Nat→Bool
 | some a,b=>Nat.beq a b
 | none,_=>false
def Cz:Option Nat→Bool
 | some _=>true
 | none=>false
def mr (σ:List (Nat × Nat)):Bool:=jn (σ.map (·.1))&&(jn (σ.map (·.2))&&σ.all λp=>Nat.ble 1000000 p.2)
def mt (σ ν:List (Nat × Nat)) (O Oout:Objs):Bool:=
 jn (ν.map (·.1))&&(jn (ν.map (·.2))&&(jn (Oout.map (·.1))&&(Oout.all (λp=>Cz (lk ν p.1)&&xq p.2) &&
  (ν.all λp=>bF p.1 (Oout.map (·.1))&&(bif Nat.ble 1000000 p.1 then eqO (lk σ p.2) p.1 else Nat.blt p.2 1000000&&eN p.2 (O.delL (σ.map (·.1))))))))
def kg (σ:List (Nat × Nat)) (O Oout:Objs):Bool:=bif bv σ O then fS (O.delL (σ.map (·.1))) else fS Oout
def kh:List (Nat × Nat)→Env→Env
 | [],E=>E
 | (q,r)::l,E=>bif Nat.ble 1000000 q then kh l E else .k r::kh l E
theorem lx {E:Env} {t:Nat} {av:AV}:∀ {ν:List (Nat × Nat)},(kh ν E).get t=some av→E.get t=some av∧∀ q r,(q,r)∈ν→q<1000000→av.ment r=false
 | [],h=>⟨h,λq r h=>by simp at h⟩
 | (q',r')::l,h=>by
  simp only[kh]at h
  cases hb:Nat.ble 1000000 q' with
  | true=>
   rw[hb]at h;obtain ⟨h1,h2⟩:=lx (ν:=l) h;refine ⟨h1,λq r hq hlt=>?_⟩;simp only[E9,Prod.mk.injEq]at hq;rcases hq with ⟨rfl,rfl⟩ | hq
   ·have:=ER hb; omega
   ·exact h2 q r hq hlt
  | false=>
   rw[hb]at h;obtain ⟨h3,h4⟩:=lf (E:=kh l E) h;obtain ⟨h1,h2⟩:=lx (ν:=l) h3;refine ⟨h1,λq r hq hlt=>?_⟩;simp only[E9,Prod.mk.injEq]at hq;rcases hq with ⟨rfl,rfl⟩ | hq
   ·exact h4
   ·exact h2 q r hq hlt
def Kin (σ:List (Nat × Nat)) (O:Objs) (K:Km):Km:=⟨λq=>(lk (df σ) q).bind λk=>K k,λb=>bv σ O=true∧K.hid b⟩
def tJ (σ ν:List (Nat × Nat)) (O:Objs) (K K':Km):Km:=⟨λr=>match lk (df ν) r with | some q=>K' q | none=>K r,λb=>bif bv σ O then K'.hid b else K.hid b⟩
theorem xr {F:PC→PC}:∀ (l:List A1),cw (l.map (A1.map F))=(cw l).map F
 | []=>rfl
 | [_]=>rfl
 | _::_::_=>rfl
section
variable {P:Program} {X:Cx} {K:Km} {ok:Nat→Prop} {w:World} {E:Env} {O:Objs} {a:Act}
theorem qf (hs:Sim X K ok w E O a) {f:FuncId} {vs:List Value} {l:List A1} (hrel:RelAs K ok w l vs) {σ ν:List (Nat × Nat)} {Oout:Objs} {res:List A1} (hi:mr σ=true) (hn:mt σ ν O Oout=true) (ha:kg σ O Oout=true)
  (hct:CtO P f (bQ σ O σ) (l.map (f9 σ)) Oout res) :
  CallR P f vs.toArray w λe w'=>∃ v K2 ok',e = .returned v∧Hp K2 ok' w' (d7 ν Oout++O.delL (σ.map (·.1)))∧Fr K ok w O K2 ok' w' (d7 ν Oout++O.delL (σ.map (·.1)))∧RelV K2 ok' w' (cw (res.map (f9 ν))) v ∧
   (∀ b,ok b→b<w.heap.size→w'.heap[b]? = w.heap[b]?)∧∀ m,(∀ q,(q,m)∈ν→1000000≤q)→K2 m=K m:=by
 simp only[mr,Ex,Fq]at hi;simp only[mt,Ex,Fq]at hn;obtain ⟨i1,i2,i3⟩:=hi;obtain ⟨n1,n2,n3,n4,n5⟩:=hn;replace i1:=cR i1;replace i2:=cR i2;replace n1:=cR n1;replace n2:=cR n2;replace n3:=cR n3;have hKin:∀ k q,(k,q)∈σ→(Kin σ O K) q=K k:=λk q h=>by
  have:lk (df σ) q=some k:=fw (by rw[nC]; exact i2) (swap_mem.2 h);show (lk (df σ) q).bind _=_
  rw[this]; rfl
 have hσ:∀ k q,lk σ k=some q→(Kin σ O K) q=K k:=λk q h=>hKin k q (fv h)
 have habs:∀ k q J,(k,q)∈σ→O.get k=some (.abs J)→bv σ O=true:=λk q J h ho=>FN.2 ⟨(k,q),h,by simp[ho,nD]⟩
 have hp0:Hp (Kin σ O K) ok w (bQ σ O σ):=by
  refine ⟨λq ob h=>?_,λq q' o o' b L L' h1 h2 e1 e2=>?_,λq ob b L h e=>?_,hs.hp.lt,λb h=>hs.hp.hlt b h.2,λb h=>hs.hp.hok b h.2,λq ob b L h e hh=>?_⟩
  ·obtain ⟨k,o,h1,h2,rfl⟩:=dt h;refine (hs.hp.obs k o h2).ren hσ (hKin k q h1) λJ hJ=>?_
   subst hJ;have:=habs k q J h1 h2;show (λb=>bv σ O=true∧K.hid b)=K.hid
   funext b; simp[this]
  ·obtain ⟨k,p,g1,g2,_⟩:=dt h1;obtain ⟨k',p',g1',g2',_⟩:=dt h2;rw[hKin k q g1]at e1;rw[hKin k' q' g1']at e2;have:=hs.hp.inj k k' p p' b L L' g2 g2' e1 e2;subst this;have a1:=fw i1 g1;have a2:=fw i1 g1';rw[a1]at a2;cases a2; rfl
  ·obtain ⟨k,p,g1,g2,_⟩:=dt h;rw[hKin k q g1]at e;exact hs.hp.apart k p b L g2 e
  ·obtain ⟨k,p,g1,g2,_⟩:=dt h;rw[hKin k q g1]at e;exact hs.hp.how k p b L g2 e hh.2
 have hrun:=hct.run _ ok w vs hp0 (lw (λx v=>ij hσ) hrel);refine hrun.mono λe w' hh=>?_
 obtain ⟨v,K',ok',rfl,hr,hp',hf⟩:=hh;have hν:∀ q r,(q,r)∈ν→(tJ σ ν O K K') r=K' q:=λq r h=>by
  have:lk (df ν) r=some q:=fw (by rw[nC]; exact n2) (swap_mem.2 h);show (match lk (df ν) r with | some q=>K' q | none=>K r)=_
  rw[this]
 have hν':∀ q r,lk ν q=some r→(tJ σ ν O K K') r=K' q:=λq r h=>hν q r (fv h)
 -- what is kept and what is new
 have hcase:∀ q r,(q,r)∈ν→(1000000≤q∧(r,q)∈σ∧K' q=K r)∨(q<1000000∧NoM r (O.delL (σ.map (·.1)))):=λq r h=>by
  have h5:=(n5 (q,r) h).2;simp only at h5
  cases hb:Nat.ble 1000000 q with
  | true=>
   rw[hb]at h5;simp only[cond_true]at h5;have hq:=ER hb
   cases hl:lk σ r with
   | none=>rw[hl]at h5; cases h5
   | some q'=>
    rw[hl]at h5;have e:=Eu (show Nat.beq q' q=true from h5);subst e;exact .inl ⟨hq,fv hl,(hf.pin _ hq).trans (hKin _ _ (fv hl))⟩
  | false=>
   rw[hb]at h5;simp only[cond_false,Ex]at h5;refine .inr ⟨?_,NoM.of (aQ h5.2)⟩;apply Classical.byContradiction;intro hge;rw[Nat.ble_eq_true_of_le (by omega)]at hb;cases hb
 have hsame:∀ m,(∀ q,(q,m)∈ν→1000000≤q)→(tJ σ ν O K K') m=K m:=λm h=>by
  show (match lk (df ν) m with | some q=>K' q | none=>K m)=_
  cases hl:lk (df ν) m with
  | none=>rfl
  | some q=>
   have hq:(q,m)∈ν:=swap_mem.1 (fv hl);rcases hcase q m hq with ⟨_,_,h3⟩ | ⟨h1,_⟩
   ·exact h3
   ·have:=h q hq; omega
 have hlive:∀ q r,(q,r)∈ν→∃ o,(q,some o)∈Oout:=λq r h=>by
  have h1:=gl (n5 (q,r) h).1;obtain ⟨⟨q',o⟩,h2,h3⟩:=Fb.1 h1;simp only at h3;subst h3;have h4:=(n4 _ h2).2
  cases o with
  | none=>cases h4
  | some o=>exact ⟨o,h2⟩
 have hinOwn:∀ q o b L,(bQ σ O σ).get q=some o→(Kin σ O K) q=some (b,L)→∃ k p,(k,q)∈σ∧O.get k=some p∧K k=some (b,L):=λq o b L h1 h2=>by
  obtain ⟨k,p,g1,g2,_⟩:=dt h1;rw[hKin k q g1]at h2;exact ⟨k,p,g1,g2,h2⟩
 have hkeep:∀ b,b<w.heap.size→(∀ k q o L,(k,q)∈σ→O.get k=some o→K k≠some (b,L))→¬ (bv σ O=true∧K.hid b)→w'.heap[b]? = w.heap[b]?:=λb hb h1 h2=>
  hf.keep b hb (λq o L g1 g2=>by obtain ⟨k,p,a1,a2,a3⟩:=hinOwn q o b L g1 g2; exact h1 k q p L a1 a2 a3) h2
 have hkeepOk:∀ b,ok b→b<w.heap.size→w'.heap[b]? = w.heap[b]?:=λb hb hlt=>hkeep b hlt (λk q o L _ g2 g3=>hs.hp.apart k o b L g2 g3 hb) λh=>hs.hp.hok b h.2 hb
 have hnew:∀ b,ok' b→ok b∨w.heap.size≤b∨∃ k q o L,(k,q)∈σ∧O.get k=some o∧K k=some (b,L):=λb hb=>by
  rcases hf.okNew b hb with h | h | ⟨q,o,L,g1,g2⟩
  ·exact .inl h
  ·exact .inr (.inl h)
  ·obtain ⟨k,p,a1,a2,a3⟩:=hinOwn q o b L g1 g2;exact .inr (.inr ⟨k,q,p,L,a1,a2,a3⟩)
 -- objects: new ones and old ones
 have hobj:∀ r ob,(d7 ν Oout++O.delL (σ.map (·.1))).get r=some ob→(∃ q o,Oout.get q=some o∧(q,r)∈ν∧ob=dx ν o)∨(r∉σ.map (·.1)∧O.get r=some ob∧(O.delL (σ.map (·.1))).get r=some ob∧∀ q,(q,r)∉ν):=λr ob h=>by
  rcases ik h with ⟨q,o,h1,h2,h3⟩ | ⟨h1,h2⟩
  ·exact .inl ⟨q,o,jG n3 h1,fv h2,h3⟩
  ·obtain ⟨h3,h4⟩:=Objs.delL_get h2;refine .inr ⟨h3,h4,h2,λq hq=>?_⟩;obtain ⟨o,ho⟩:=hlive q r hq;exact h1 q o ho (fw n1 hq)
 have hownNew:∀ r ob q o b L,Oout.get q=some o→(q,r)∈ν→ob=dx ν o→(tJ σ ν O K K') r=some (b,L)→w.heap.size≤b∨∃ k q o L,(k,q)∈σ∧O.get k=some o∧K k=some (b,L):=λr ob q o b L g1 g2 _ e=>by
  rw[hν q r g2]at e;rcases hf.own q o b L g1 e with h | ⟨q0,o0,L0,h1,h2⟩
  ·exact .inl h
  ·obtain ⟨k,p,a1,a2,a3⟩:=hinOwn q0 o0 b L0 h1 h2;exact .inr ⟨k,q0,p,L0,a1,a2,a3⟩
 have hmemσ:∀ {k q:Nat},(k,q)∈σ→k∈σ.map (·.1):=λh=>Fb.2 ⟨_,h,rfl⟩
 have hhid:∀ b,(tJ σ ν O K K').hid b→K.hid b∨w.heap.size≤b:=λb h=>by
  have h':bif bv σ O then K'.hid b else K.hid b:=h
  cases hA:bv σ O with
  | false=>rw[hA]at h'; exact .inl h'
  | true=>
   rw[hA]at h';rcases hf.hid b h' with h1 | h1
   ·exact .inl h1.2
   ·exact .inr h1
 have hfr:Fr K ok w O (tJ σ ν O K K') ok' w' (d7 ν Oout++O.delL (σ.map (·.1))):=by
  refine ⟨hf.size,λb hb h1 h2=>hkeep b hb (λk q o L _ g2 g3=>h1 k o L g2 g3) λh=>h2 h.2,hf.okUp,λb hb=>?_,λr ob b L g1 g2=>?_,hf.os,hf.tape,hf.output,hf.kind,λm hm=>?_,hhid⟩
  ·rcases hnew b hb with h | h | ⟨k,q,o,L,_,a2,a3⟩
   ·exact .inl h
   ·exact .inr (.inl h)
   ·exact .inr (.inr ⟨k,o,L,a2,a3⟩)
  ·rcases hobj r ob g1 with ⟨q,o,a1,a2,a3⟩ | ⟨a1,a2,a3,a4⟩
   ·rcases hownNew r ob q o b L a1 a2 a3 g2 with h | ⟨k,q,o,L,_,b2,b3⟩
    ·exact .inl h
    ·exact .inr ⟨k,o,L,b2,b3⟩
   ·rw[hsame r λq hq=>absurd hq (a4 q)]at g2;exact .inr ⟨r,ob,L,a2,g2⟩
  ·refine hsame m λq hq=>?_
   rcases hcase q m hq with ⟨h1,_⟩ | ⟨_,h2⟩
   ·exact h1
   ·have:=h2.1; have hm':1000000≤m:=hm; have:m<1000000:=this; omega
 have hp2:Hp (tJ σ ν O K K') ok' w' (d7 ν Oout++O.delL (σ.map (·.1))):=by
  refine ⟨λr ob h=>?_,λr r' ob ob' b L L' h1 h2 e1 e2=>?_,λr ob b L h e hok=>?_,hp'.lt,λb h=>?_,λb h hok=>?_,λr ob b L h e hh=>?_⟩
  ·rcases hobj r ob h with ⟨q,o,a1,a2,rfl⟩ | ⟨a1,a2,a3,a4⟩
   ·refine (hp'.obs q o a1).ren hν' (hν q r a2) λJ hJ=>?_
    subst hJ
    cases hA:bv σ O with
    | false=>rw[kg,hA]at ha; exact absurd a1 (gp ha)
    | true=>show (λb=>(bif bv σ O then K'.hid b else K.hid b:Prop))=K'.hid; rw[hA]; rfl
   ·refine (hs.hp.obs r ob a2).mono hf.okUp hkeepOk hf.size (hsame r λq hq=>absurd hq (a4 q)) (λb L hK=>?_) (λJ hJ=>?_) λm hm=>⟨hsame m λq hq=>?_,λb _ _ cs e fr hb=>hf.shape b cs e fr hb⟩
    ·exact hkeep b (db hs.hp a2 hK) (λk q o L' g1 g2 g3=>a1 (by have:=hs.hp.inj k r o ob b L' L g2 a2 g3 hK; rw[←this]; exact hmemσ g1)) λh=>hs.hp.how r ob b L a2 hK h.2
    ·subst hJ
     cases hA:bv σ O with
     | true=>rw[kg,hA]at ha; exact absurd a3 (gp ha)
     | false=>
      refine ⟨by show (λb=>(bif bv σ O then K'.hid b else K.hid b:Prop))=K.hid; rw[hA]; rfl,λb hb=>hkeep b (hs.hp.hlt b hb) (λk q o L g1 g2 g3=>hs.hp.how k o b L g2 g3 hb) (λh=>by rw[hA]at h; cases h.1),hf.os,hf.tape,hf.output,hf.shape⟩
    ·rcases hcase q m hq with ⟨h1,_⟩ | ⟨_,h2⟩
     ·exact h1
     ·exact absurd (h2.get a3) hm
  ·rcases hobj r ob h1 with ⟨q,o,a1,a2,a3⟩ | ⟨a1,a2,a3,a4⟩
   ·rcases hobj r' ob' h2 with ⟨q',o',a1',a2',a3'⟩ | ⟨a1',a2',a3',a4'⟩
    ·rw[hν q r a2]at e1;rw[hν q' r' a2']at e2;have:=hp'.inj q q' o o' b L L' a1 a1' e1 e2;subst this;have b1:=fw n1 a2;have b2:=fw n1 a2';rw[b1]at b2;cases b2; rfl
    ·rw[hsame r' λq hq=>absurd hq (a4' q)]at e2;rcases hownNew r ob q o b L a1 a2 a3 e1 with h | ⟨k,q0,o0,L0,b1,b2,b3⟩
     ·have:=db hs.hp a2' e2; omega
     ·exact absurd (by have:=hs.hp.inj k r' o0 ob' b L0 L' b2 a2' b3 e2; rw[←this]; exact hmemσ b1) a1'
   ·rw[hsame r λq hq=>absurd hq (a4 q)]at e1;rcases hobj r' ob' h2 with ⟨q',o',a1',a2',a3'⟩ | ⟨a1',a2',a3',a4'⟩
    ·rcases hownNew r' ob' q' o' b L' a1' a2' a3' e2 with h | ⟨k,q0,o0,L0,b1,b2,b3⟩
     ·have:=db hs.hp a2 e1; omega
     ·exact absurd (by have:=hs.hp.inj k r o0 ob b L0 L b2 a2 b3 e1; rw[←this]; exact hmemσ b1) a1
    ·rw[hsame r' λq hq=>absurd hq (a4' q)]at e2;exact hs.hp.inj r r' ob ob' b L L' a2 a2' e1 e2
  ·rcases hobj r ob h with ⟨q,o,a1,a2,a3⟩ | ⟨a1,a2,a3,a4⟩
   ·rw[hν q r a2]at e;exact hp'.apart q o b L a1 e hok
   ·rw[hsame r λq hq=>absurd hq (a4 q)]at e;rcases hnew b hok with h | h | ⟨k,q,o,L0,b1,b2,b3⟩
    ·exact hs.hp.apart r ob b L a2 e h
    ·have:=db hs.hp a2 e; omega
    ·exact a1 (by have:=hs.hp.inj k r o ob b L0 L b2 a2 b3 e; rw[←this]; exact hmemσ b1)
  ·have h':bif bv σ O then K'.hid b else K.hid b:=h
   cases hA:bv σ O with
   | false=>rw[hA]at h'; exact EG (hs.hp.hlt b h') hf.size
   | true=>rw[hA]at h'; exact hp'.hlt b h'
  ·have h':bif bv σ O then K'.hid b else K.hid b:=h
   cases hA:bv σ O with
   | false=>
    rw[hA]at h';rcases hnew b hok with h | h | ⟨k,q,o,L0,b1,b2,b3⟩
    ·exact hs.hp.hok b h' h
    ·have:=hs.hp.hlt b h'; omega
    ·exact hs.hp.how k o b L0 b2 b3 h'
   | true=>rw[hA]at h'; exact hp'.hok b h' hok
  ·rcases hobj r ob h with ⟨q,o,a1,a2,a3⟩ | ⟨a1,a2,a3,a4⟩
   ·have h':bif bv σ O then K'.hid b else K.hid b:=hh
    cases hA:bv σ O with
    | false=>
     rw[hA]at h';rcases hownNew r ob q o b L a1 a2 a3 e with h | ⟨k,q0,o0,L0,b1,b2,b3⟩
     ·have:=hs.hp.hlt b h'; omega
     ·exact hs.hp.how k o0 b L0 b2 b3 h'
    | true=>
     rw[hA]at h';rw[hν q r a2]at e;exact hp'.how q o b L a1 e h'
   ·rw[hsame r λq hq=>absurd hq (a4 q)]at e;rcases hhid b hh with h1 | h1
    ·exact hs.hp.how r ob b L a2 e h1
    ·have:=db hs.hp a2 e; omega
 refine ⟨v,_,ok',rfl,hp2,hfr,?_,hkeepOk,hsame⟩;rw[xr];exact rG (λx v=>ij hν') hr
theorem B9 (hs:Sim X K ok w E O a) {f:FuncId} {vs:List Value} {l:List A1} (hrel:RelAs K ok w l vs) {σ ν:List (Nat × Nat)} {Oout:Objs} {res:List A1} (hi:mr σ=true) (hn:mt σ ν O Oout=true) (ha:kg σ O Oout=true)
  (hct:CtO P f (bQ σ O σ) (l.map (f9 σ)) Oout res) {d:Option Tmp} (hd:∀ t,d=some t→t<X.s.n∧t∉X.s.fz) :
  CallR P f vs.toArray w λe w'=>∃ v K2 ok',e = .returned v∧Sim X K2 ok' w' (bN d (some (cw (res.map (f9 ν)))) (kh ν E)) (d7 ν Oout++O.delL (σ.map (·.1))) (a.put d v)∧Fr K ok w O K2 ok' w' (d7 ν Oout++O.delL (σ.map (·.1))):=by
 refine (qf hs hrel hi hn ha hct).mono λe w' hh=>?_
 obtain ⟨v,K2,ok',rfl,hp2,hfr,hval,hkeepOk,hsame⟩:=hh;refine ⟨v,K2,ok',rfl,?_,hfr⟩;have hsim:Sim X K2 ok' w' (kh ν E) (d7 ν Oout++O.delL (σ.map (·.1))) a:=by
  refine ⟨hs.size,hs.defers' hfr,EA hs.base hfr.size,hs.rnd' hfr,hs.old,hp2,λt av h=>?_⟩;obtain ⟨h1,h2⟩:=lx h;obtain ⟨u,hu,hru⟩:=hs.env t av h1;refine ⟨u,hu,hru.mono hfr.okUp hkeepOk hfr.size λm hm=>⟨hsame m λq hq=>?_,λb _ _ cs e fr hb=>hfr.shape b cs e fr hb⟩⟩;apply Classical.byContradiction;intro hlt;rw[h2 q m hq (by omega)]at hm; cases hm
 have hsp:SP K2 ok' w' (d7 ν Oout++O.delL (σ.map (·.1))) (some (cw (res.map (f9 ν)))) .no v K2 ok' w':=
  ⟨λx hx=>by cases hx; exact hval,hp2,Fr.refl _ _ _ _,λ_ _=>rfl⟩
 exact hsp.sim hsim hd
end
mutual
theorem mc {σ:List (Nat × Nat)}:∀ {x:PC},x.closed=true→fx σ x=x
 | .fn f caps,h=>by simp only[PC.closed]at h; simp only[fx,renL_closed h]
 | .sc _,_=>rfl
 | .sl _ _,_=>rfl
 | .rd _,_=>rfl
 | .cb _,_=>rfl
theorem renL_closed {σ:List (Nat × Nat)}:∀ {l:List PC},closedL l=true→renL σ l=l
 | [],_=>rfl
 | x::l,h=>by
  simp only[closedL,Ex]at h;simp only[renL,mc h.1,renL_closed h.2]
end
theorem ef {σ:List (Nat × Nat)}:∀ {l:List A1},az l=true→l.map (f9 σ)=l
 | [],_=>rfl
 | x::l,h=>by
  simp only[az,Ex]at h;rw[Fg,ef h.2];congr 1
  cases x with
  | c x=>simp only[A1.map,mc (show x.closed=true from h.1)]
  | ag l=>simp only[A1.map]; rw[←dG,renL_closed (show closedL l=true from h.1)]
def ci:Ob→Bool
 | .var cells=>closedL cells
 | .row _ _=>true
 | .mp _ _ _=>true
 | .me _ _=>true
 | _=>false
theorem fe {σ:List (Nat × Nat)} {ob:Ob} (h:ci ob=true):dx σ ob=ob:=by
 cases ob with
 | var cells=>simp only[dx]; rw[←dG,renL_closed (show closedL cells=true from h)]
 | row _ _=>rfl
 | mp _ _ _=>rfl
 | me _ _=>rfl
 | rowO _ _ _=>cases h
 | abs _=>cases h
theorem ff {ob:Ob} (h:ci ob=true):nD (some ob)=false:=by cases ob<;>first | rfl | cases h
theorem Objs.get_del_ne {k t:Nat} {o:Ob} (hkt:k≠t):∀ {O:Objs},O.get t=some o→(O.del k).get t=some o
 | [],h=>h
 | (k',o')::O,h=>by
  simp only[Objs.get]at h;simp only[Objs.del]
  cases hb':Nat.beq k' t with
  | true=>
   have e:=Eu hb';subst e;have:Nat.beq k' k=false:=by
    cases hb:Nat.beq k' k with
    | false=>rfl
    | true=>exact absurd (Eu hb).symm hkt
   rw[hb']at h;rw[this];simp only[cond_false,Objs.get,hb',cond_true];exact h
  | false=>
   rw[hb']at h
   cases hb2:Nat.beq k' k with
   | true=>have e:=Eu hb2; subst e; simp only[cond_true,Objs.get,hb',cond_false]; exact h
   | false=>simp only[cond_false,Objs.get,hb']; exact Objs.get_del_ne hkt h
section
variable {P:Program} {E:Env} {O:Objs} {d:Option Tmp} {ty:TypeId} {pos:String} {af:Array Edge} {g:Option (Nat × Bool)}
theorem Step.callO_core {N:Cx} {K:Km} {ok:Nat→Prop} {w:World} {a:Act} {next:Act→World→Prop} {Q:Exit→Act→World→Prop} {o:Oper} (hs:Sim N K ok w E O a) {f:FuncId} {vs:List Value} {l res:List A1} {k:Nat} {ob ob':Ob} (hrel:RelAs K ok w l vs) (ho:O.get k=some ob) (hoc:ci ob=true) (hoc':ci ob'=true)
  (hct:CtO P f [(1000000,some ob)] (l.map (f9 [(k,1000000)])) [(1000000,some ob')] res) (hcl:az res=true)
  (he:(execOp a.eval o).run P w=(callFunc f vs.toArray).run P w) (hn:∀ v K' ok' w',SP K ok w O (some (cw res)) (.upd k ob') v K' ok' w'→next (a.put o.dst v) w'):o.wp P a w next Q:=by
 have hab:bv [(k,1000000)] O=false:=by simp[bv,ho,ff hoc]
 refine CallR.oper he ((qf (σ:=[(k,1000000)]) (ν:=[(1000000,k)]) (Oout:=[(1000000,some ob')]) (res:=res) hs hrel rfl ?_ ?_ ?_).mono λe w' h=>?_)
 ·simp[mt,jn,bF,lk,Cz,xq,eqO]
 ·simp[kg,hab,fS,ff hoc']
 ·simpa [bQ,ho,fe hoc] using hct
 ·obtain ⟨v,K2,ok',rfl,hp2,hfr,hval,_,hsame⟩:=h;have hsub:SubO (O.set k ob') (d7 [(1000000,k)] [(1000000,some ob')]++O.delL ([(k,1000000)].map (·.1))):=by
   intro t o h;rw[Objs.get_set]at h;simp only[d7,lk,EP,cond_true,F9,GV,Objs.get,fe hoc',Fg,G0,Objs.delL];by_cases hkt:k=t
   ·subst hkt; simpa using h
   ·rw[if_neg hkt]at h;have hb:Nat.beq k t=false:=by
     cases hb:Nat.beq k t with
     | false=>rfl
     | true=>exact absurd (Eu hb) hkt
    rw[hb];simp only[cond_false];exact Objs.get_del_ne hkt h
  rw[ef hcl]at hval;refine ⟨v,rfl,hn v K2 ok' w' ⟨λx hx=>by cases hx; exact hval,hp2.sub hsub,hfr.trans (Fr.weak hsub),λr _=>hsame r λq hq=>?_⟩⟩;simp only[Fk,Prod.mk.injEq]at hq;omega
theorem Step.callO {f:FuncId} {args:Array Operand} {ts:Array TypeId} {l l' res:List A1} {k:Nat} {ob ob':Ob} (hx:E.evs args.toList=some l) (ho:O.get k=some ob) (hoc:ci ob=true) (hoc':ci ob'=true) (hl:l.map (f9 [(k,1000000)])=l')
  (hct:CtO P f [(1000000,some ob)] l' [(1000000,some ob')] res) (hcl:az res=true) :
  Step P E O ⟨d,.call ⟨.value (.func f),args,ts⟩,ty,pos,af,g⟩ (some (cw res)) (.upd k ob'):=by
 intro N K ok w a next Q hs hn;subst hl;have he:(execOp a.eval ⟨d,.call ⟨.value (.func f),args,ts⟩,ty,pos,af,g⟩).run P w=(callFunc f (args.toList.map a.eval).toArray).run P w:=by
  have:(args.toList.map a.eval).toArray=args.map a.eval:=by apply GA ; simp
  rw[this];simp[execOp,resolve,Act.eval,Deferred.ofValue,invoke]
 exact Step.callO_core hs (cX hs hx) ho hoc hoc' hct hcl he hn
end
end
end Go.Proofs.YtgceikecdedfcaaGreat.Pv
