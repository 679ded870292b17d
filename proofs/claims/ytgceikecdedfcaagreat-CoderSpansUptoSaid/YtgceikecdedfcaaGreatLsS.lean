/-
  What is proved: the statement whose theorem stands at the end of this text; the texts before it bear its parts.
-/
import Derived.Test.YtgceikecdedfcaaGreatLsR
import Derived.ChangeMaps5
import Derived.WalkKit
import Derived.JoinedCond
namespace Go.Proofs.YtgceikecdedfcaaGreat.Pv
open Go
theorem Ez {K:Km} {ok:Nat→Prop} {w:World} (u:Value) (h:RelA K ok w (.ag [.sc (.slice none 0 0),.sc (.slice none 0 0)]) u):RelA K ok w (qV 0 0) u:=by
 cases h with
 | ag h=>
  refine .ag ⟨by simpa using h.len,λi x hx=>?_⟩;obtain ⟨u,hu,hr⟩:=h.get i (.sc (.slice none 0 0)) (by
   cases i with
   | zero=>rfl
   | succ i=>
    cases i with
    | zero=>rfl
    | succ i=>simp[a9]at hx)
  refine ⟨u,hu,?_⟩;have e:x = .sl 1 []:=by
   cases i with
   | zero=>simp[a9,aE]at hx; exact hx.symm
   | succ i=>
    cases i with
    | zero=>simp[a9,aE]at hx; exact hx.symm
    | succ i=>simp[a9]at hx
  subst e
  cases hr with
  | cl hr=>
   cases hr with
   | sc _=>exact .cl .sl0
theorem pX:Ct P 33 [.ag [.sc (.slice none 0 0),.sc (.slice none 0 0)]] [.c (.sc (.bool true))]:=by
 have:=iq 0 0 (by rw[a9]; simp);exact this.args λK ok w vs h=>h.set (i:=0) rfl Ez
set_option maxHeartbeats 4000000 in
theorem cspans_ct (s:ByteArray) (o:Nat) (ids:List Int) (hs:s.size≤140737488355328) (ho:o<256) (hl:ids.length≤140737488355328) :
  Ct P 7 [.c (sS s),.c (nI .u8 o),.c (iSl ids)] [.c (.sc (.bool true))]:=by
 have hT:=Ty.own_ok [12] aj;refine Ct.keepI hT [] (N:=79) Tryz.func7 rfl rfl rfl rfl ?_;refine ej hT aa ?_;refine ej hT aa ?_;refine X1 _ (uE s ids 4 hs hl) ?_;refine aP (λh1=>?_) (λh1=>?_)
 ·refine X1 _ lK ?_;exact ⟨HJ,SubO.of (l:=[]) trivial,r1 rfl,HJ⟩
 have h1':s.size≤60∧(ids.length:Int)≤4:=by simpa using h1
 obtain ⟨s60,l4⟩:=h1';have l4n:ids.length≤4:=by omega
 obtain ⟨Lc,n,hB,h2,hof⟩:=Aj s s60 o _ ho rfl;have hchk:=Ey (n:=n) l4n;have hspan:=wQ hB ids (EG l4n (by decide));have hwd:=uD ids n (EG l4n (by decide));refine mq hT aa (G2:=Unit) (λ_=>True) (λ_=>[(2,.c (iSl ids)),(7,.c (.ad 200 0)),(8,.c (.ad 8 0)),(9,.c (.sc (.bool true)))]) (λ_=>[(200,xC Lc n 201),(201,.me false (MOk Lc)),(8,.var (rM Lc n).cells)]) ?_ (λ_ _=>?_)
 ·refine X2 (.own [] [(200,200),(201,201)]) ?_;refine ⟨_,_,hof,?_⟩;exact ⟨(),HJ,⟨rfl,rfl,rfl,rfl,HJ⟩,⟨rfl,rfl,rfl,HJ⟩⟩
 refine ej hT aa ?_;by_cases hw:ids.all (inB n)=true
 ·rw[if_pos hw]at hchk;rw[hchk,if_pos rfl,if_pos rfl]at hspan;rw[hw]at hwd;have hin:=inB_iff.1 hw;obtain ⟨b1,b2,_⟩:=kS hB hin ids.length (EE _);rw[E7]at b1 b2;have q:=Ed l4n;have b1:=b1.le q;have b2:=b2.le q;refine dG hT aa ?_;refine X2 (.own σX νX) ?_;refine ⟨_,_,hspan,?_⟩;refine X1 _ hwd ?_;refine X1 _ (uB hB ids hin (EG l4n (by decide))) ?_;refine X1 _ (Ad b1 (by decide)) ?_;refine X1 _ (Ad b2 (by decide)) ?_;refine X1 _ lK ?_;exact ⟨HJ,SubO.of (l:=[]) trivial,r1 rfl,HJ⟩
 ·rw[if_neg hw]at hchk;rw[hchk,if_neg (by decide),if_neg (by decide)]at hspan;rw[Bool.eq_false_iff.2 hw]at hwd;refine dG hT aa ?_;refine X2 (.own σX νX) ?_;refine ⟨_,_,hspan,?_⟩;refine X1 _ hwd ?_;refine X1 _ pX ?_;refine X1 _ pX ?_;refine X1 _ lK ?_;exact ⟨HJ,SubO.of (l:=[]) trivial,r1 rfl,HJ⟩
end Go.Proofs.YtgceikecdedfcaaGreat.Pv
namespace Go.Proofs.YtgceikecdedfcaaGreat.coderSpans
open Go Go.ChangeShapes Go.WideShapes Go.ChangeAt Go.RowKit
open Go.Proofs.YtgceikecdedfcaaGreat.Pv (okW)
theorem own:ownKnob Tryz.prog.godebug=none:=by kernel_rfl
theorem laidOut:laidOutB Tryz.prog=true:=by kernel_rfl
theorem walk (s0:ByteArray) (o1:Nat) (l2:List Int) (e0:s0.size≤140737488355328) (e1:o1<256) (e2:l2.length≤140737488355328) (W:World) (v0 v1 v2:Value)
  (h0:Pv.Rel (okW W) W (Pv.sS s0) v0) (h1:Pv.Rel (okW W) W (Pv.nI .u8 o1) v1) (h2:Pv.Rel (okW W) W (Pv.iSl l2) v2) :
  Calls Tryz.prog 7 #[v0,v1,v2] W λe W'=>e = .returned (.bool true)∧Below W.heap.size W W':=by
 have hct:=Pv.cspans_ct s0 o1 l2 e0 e1 e2;have hrun:=hct.run (Pv.Km.bare ⟨λ_=>none,λ_=>False⟩) (okW W) W [v0,v1,v2] (Pv.Hp.nil λ_ hb=>hb) (.cons (.c (.cl h0)) (.cons (.c (.cl h1)) (.cons (.c (.cl h2)) .nil)));rcases hrun with ⟨_,hc⟩ | ⟨v,w',hv,_⟩
 ·refine hc.mono λe w' hq=>?_
  obtain ⟨v,K',ok',rfl,hr,hp,hf⟩:=hq;obtain rfl:v = .bool true:=by cases hr with | o hr=>cases hr with | c hr=>cases hr with | cl hr=>cases hr with | sc _=>rfl
  exact ⟨rfl,hf.os,hf.tape,hf.output,hf.size,λb hb=>hf.keep b hb (λk o L hk=>by simp[Pv.Objs.get]at hk) (λhid=>hid)⟩
 ·exfalso;have:=Pv.exec_call (P:=Tryz.prog) (f:=7) (by kernel_rfl) #[v0,v1,v2] W;have hv':(callFunc 7 #[v0,v1,v2]).run Tryz.prog W = .ok (.value v) w':=hv;rw[this]at hv';cases hv'
set_option maxRecDepth 100000 in
theorem contract (H:Type) (enc:TypeId × Value→H) (W:World) (base:Nat) (args:Array Value) (ds gs:List (DataW H)) (before:List MemPlace)
  (hval:∀ (j:Nat) t v,Tryz.f7.params[j]? = some t→args[j]? = some v→Value.okWide Tryz.prog W .any base t v)
  (hW:DataW.Whole enc Tryz.prog Tryz.f7.params.toList Rows.coderSpansSpec.vars false W args.toList ds gs before) (hk:Rows.uptoSmall H (ds++gs)=true) :
  Calls Tryz.prog 7 args W λe W'=>∃ v,e = .returned v∧Rows.coderSpansSpec.post enc Tryz.prog Tryz.f7 false true false false W args v W':=by
 have hW':=hW;obtain ⟨p,q,hA0,hV,rfl,hfz,hnd⟩:=hW;have hA:DataW.TrodAll enc Tryz.prog W 0 (λ_=>true) true Tryz.f7.params.toList args.toList ds p:=hA0;rw[Tryz.params7]at hA hval;obtain ⟨v0,vs0,d0,ds0,p0,q0,hargs0,rfl,rfl,h0,r_0⟩:=trodAll_cons hA;obtain ⟨v1,vs1,d1,ds1,p1,q1,hargs1,rfl,rfl,h1,r_1⟩:=trodAll_cons r_0;obtain ⟨v2,vs2,d2,ds2,p2,q2,hargs2,rfl,rfl,h2,r_2⟩:=trodAll_cons r_1;obtain ⟨rfl,rfl,rfl⟩:=trodAll_nil r_2;obtain rfl:args = #[v0,v1,v2]:=by cases args; simp_all
 obtain ⟨rfl,rfl⟩:=trodVars_none hV;clear hA0;have hb:Rows.uptoBulkAll [d0,d1,d2]≤1048576:=by
  have h:=of_decide_eq_true hk;simpa using h
 simp only[Rows.uptoBulkAll]at hb;obtain ⟨s0,rfl,rfl,rfl,_⟩:=ChangeMaps.open_string Tryz.underlying9 (hval 0 9 v0 rfl rfl) h0;obtain ⟨z1,rfl,rfl,rfl,w1⟩:=open_int Tryz.underlying5 (hval 1 5 v1 rfl rfl) h1;have x1:0≤z1∧z1≤255:=by simpa [Lit.wf,IntKind.min,IntKind.max,IntKind.signed,IntKind.bits] using w1
 obtain ⟨o1,rfl⟩:∃ n:Nat,z1=(n:Int):=⟨z1.toNat,by omega⟩;obtain ⟨a2,m2,c2,rfl⟩:=okWide_slice Tryz.underlying22 (hval 2 22 v2 rfl rfl);obtain ⟨n2,t2⟩:=h2;obtain ⟨B,hB⟩:∃ B,B=1048576:=⟨_,rfl⟩;rw[←hB]at hb;have hBB:B≤140737488355328:=by omega
 have hb0:s0.data.toList.length+1≤B:=by simp only[Rows.uptoBulk]at hb; omega
 have e0:s0.size≤140737488355328:=by
  have:s0.size=s0.data.toList.length:=rfl;omega
 obtain ⟨u2,l2,e2,hh2,hr2⟩:=Pv.rd_ints hBB t2 (show Rows.uptoBulk d2≤B by omega);have e2':u2 = .slice a2 m2 c2:=by simpa [Value.cells] using e2.symm
 subst e2';refine (walk s0 o1 l2 e0 (by omega) (by omega) W _ _ _ (.sc (show s0.size≤Pv.BIG from e0)) (.sc (show (0:Int)≤(o1:Int)∧(o1:Int)≤255 from x1)) hr2).mono λe W' ⟨he,hg⟩=>?_
 subst he;refine ⟨_,rfl,_,_,_,[],([]++([]++(p2++[]))),[],hW',?_,?_,?_,hg.frame _,λh=>by cases h⟩
 ·exact trodAll_cons_mk (shut_bool Tryz.underlying4 _) trodAll_mk0
 ·exact trodAll_cons_mk (ChangeMaps.shut_string Tryz.underlying9 (by assumption)) (trodAll_cons_mk (shut_int Tryz.underlying5 w1) (trodAll_cons_mk (Below.trod laidOut (by kernel_rfl) (of_decide_eq_true (by kernel_rfl)) ⟨n2,t2⟩ hg (DataW.trod_lt _ _ _ _ t2)) trodAll_mk0))
 ·rfl
set_option maxRecDepth 100000 in
theorem lifted (os:Os) (started:os.Started) (H:Type) (enc:TypeId × Value→H) (F:Stop.Interp) :
  ReturnsInHanded {} Tryz.checked os 7 .any ((Rows.OpenSpec.upto Rows.coderSpansSpec).pre6 enc Tryz.prog Tryz.f7 Rows.coderSpansUptoRow.domain false) (((Rows.OpenSpec.upto Rows.coderSpansSpec).at F).post enc Tryz.prog Tryz.f7 false true false false):=by
 refine returnsInHanded_of_cond (C:=Tryz.checked) (s:=Rows.OpenSpec.upto Rows.coderSpansSpec) (k:=Rows.uptoSmall) rfl own started (by kernel_rfl) Tryz.func7
  (OpenSpec.witness (enc:=enc) (C:=Tryz.checked) (s:=Rows.OpenSpec.upto Rows.coderSpansSpec) (k:=Rows.uptoSmall) rfl false ⟨#[],#[.string .empty,.int .u8 0,.slice none 0 0],[]⟩ 8 (by kernel_rfl) (by kernel_rfl) (by kernel_rfl)
   (x:=([.lit (.string []),.lit (.int .u8 0),.nil],[],[])) (by kernel_rfl) rfl (by kernel_rfl)) ?_
 intro W base args ds gs before hval hW _ hk _;exact contract H enc W base args ds gs before hval hW hk
theorem over:Rows.coderSpansUptoRow.holds Tryz.pinned (Rows.OpenSpec.upto Rows.coderSpansSpec):=
 OpenClaim.holds_of_cond 7 Tryz.f7 rfl rfl rfl rfl rfl rfl rfl ⟨rfl,rfl,rfl,rfl,rfl⟩ rfl rfl rfl rfl rfl (by kernel_rfl) Tryz.func7 (by kernel_rfl)
  (of_decide_eq_true (by kernel_rfl)) (by unfold Func.isWrapper; first | (rw[if_pos (by decide +kernel)]; kernel_rfl) | (rw[if_neg (by decide +kernel)]; exact ⟨rfl,rfl⟩))
  (λos started H enc _ F=>lifted os started H enc F)
theorem proved:Rows.CoderSpansUptoSaid:=
 over
end Go.Proofs.YtgceikecdedfcaaGreat.coderSpans
