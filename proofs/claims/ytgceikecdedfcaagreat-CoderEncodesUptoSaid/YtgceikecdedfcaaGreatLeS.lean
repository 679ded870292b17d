/-
  What is proved: the statement whose theorem stands at the end of this text; the texts before it bear its parts.
-/
import Derived.Test.YtgceikecdedfcaaGreatLeR
import Derived.ChangeMaps5
import Derived.WalkKit
import Derived.JoinedCond
namespace Go.Proofs.YtgceikecdedfcaaGreat.Pv
open Go
theorem uP (s:ByteArray) (l:List Int) (m:Int) (hs:s.size≤140737488355328) (hl:l.length≤140737488355328):Ct P 9 [.c (sS s),.c (iSl l),.c (eI .i64 m)] [.c (.sc (.bool (decide (s.size≤60∧(l.length:Int)≤m))))]:=by
 refine Ct.go aj aa (N:=16) Tryz.func9 rfl rfl rfl rfl ?_;refine ah (λh1=>?_) (λh1=>?_)
 ·refine .intro (by rw[ac]; omega) ?_;rw[ac];have e:decide (s.size≤60∧(l.length:Int)≤m)=decide ((l.length:Int)≤m):=decide_eq_decide.2 ⟨λh=>h.2,λh=>⟨by omega,h⟩⟩;rw[e];exact ⟨HT,r1 rfl,HT⟩
 ·have e:decide (s.size≤60∧(l.length:Int)≤m)=false:=decide_eq_false λh=>h1 (by omega)
  rw[e];exact ⟨HT,r1 rfl,HT⟩
theorem tF {Lc:List (List Cnt)} {n B:Nat} (hB:SB Lc n B) (h2:2<n) (ids:List Int) (hl:ids.length≤24) (he:hG Lc n ids=0):CtO P 13 (xE Lc n) [.c (.ad 1000000 0),.c (iSl ids)] (xE Lc n) [.c (bP (encB Lc n ids)),.c (eI .i64 0)]:=by
 have h:=jj hB h2 ids hl;rw[he,show encR Lc n ids = .c (bP (encB Lc n ids)) from if_pos he]at h;exact h
theorem jP {Lc:List (List Cnt)} {n B:Nat} (hB:SB Lc n B) (h2:2<n) (ids:List Int) (hl:ids.length≤24) (he:hG Lc n ids≠0):CtO P 13 (xE Lc n) [.c (.ad 1000000 0),.c (iSl ids)] (xE Lc n) [oU,.c (eI .i64 (hG Lc n ids))]:=by
 have h:=jj hB h2 ids hl;rw[show encR Lc n ids=oU from if_neg he]at h;exact h
abbrev σX:List (Nat × Nat):=[(200,1000000),(201,1000001)]
abbrev νX:List (Nat × Nat):=[(1000000,200),(1000001,201)]
theorem At (s:ByteArray) (hs:s.size≤60) (o m:Nat) (ho:o<256) (hm:m=1+o%4):∃ (Lc:List (List Cnt)) (n:Nat),SB Lc n 258∧2<n ∧
  CtO P 12 [] [.c (sS s),.c (nI .u8 o)] [(200,some (xC Lc n 201)),(201,some (.me false (MOk Lc)))] [.c (.ad 200 0),rM Lc n,.c (.sc (.bool true))]:=
 ⟨_,_,CI hs (m:=m) (by omega) (by omega),Em hs (m:=m) (by omega) (by omega),Ci s hs o m ho hm⟩
theorem EI {n:Nat} {ids:List Int} (h:ids.length≤4):mK n ids=if ids.all (inB n)=true then 0 else 8:=if_neg (by omega)
theorem Er {k:Nat} (h:k≤4):1+258*(k+1)≤1291:=by omega
theorem ri:∀ {l:List Int} {v:Int},0≤idx v l→v∈l
 | [],v,h=>by simp[idx]at h
 | w::l,v,h=>by
  unfold idx at h;split at h
  ·rename_i e; subst e; simp
  ·split at h
   ·omega
   ·exact Fb _ (ri (by omega))
theorem qg (ids:List Int):(idx 1 ids≥0∨idx 2 ids≥0)↔ids.all plB=false:=by
 constructor
 ·intro h;rw[List.all_eq_false];rcases h with h | h
  ·exact ⟨1,ri h,by decide⟩
  ·exact ⟨2,ri h,by decide⟩
 ·intro h;rw[List.all_eq_false]at h;obtain ⟨w,hw,h⟩:=h;by_cases h1:w=1
  ·subst h1; exact .inl (lc hw)
  ·by_cases h2:w=2
   ·subst h2; exact .inr (lc hw)
   ·exact absurd (by unfold plB; rw[bne_iff_ne.2 h1,bne_iff_ne.2 h2]; rfl) h
set_option maxHeartbeats 4000000 in
theorem cencodes_ct (s:ByteArray) (o:Nat) (ids:List Int) (hs:s.size≤140737488355328) (ho:o<256) (hl:ids.length≤140737488355328) :
  Ct P 5 [.c (sS s),.c (nI .u8 o),.c (iSl ids)] [.c (.sc (.bool true))]:=by
 have hT:=Ty.own_ok [12] aj;refine Ct.keepI hT [] (N:=109) Tryz.func5 rfl rfl rfl rfl ?_;refine dI hT aa ?_;refine dI hT aa ?_;refine X1 _ (uP s ids 4 hs hl) ?_;refine aP (λh1=>?_) (λh1=>?_)
 ·refine X1 _ gD ?_;exact ⟨HT,SubO.of (l:=[]) trivial,r1 rfl,HT⟩
 have h1':s.size≤60∧(ids.length:Int)≤4:=by simpa using h1
 obtain ⟨s60,l4⟩:=h1';have l4n:ids.length≤4:=by omega
 have l25:ids.length≤24:=by omega
 obtain ⟨Lc,n,hB,h2,hof⟩:=At s s60 o _ ho rfl;have hchk:=EI (n:=n) l4n;have hwd:=uN ids n (EQ l4n (by decide));refine mH hT aa (G2:=Unit) (λ_=>True) (λ_=>[(2,.c (iSl ids)),(7,.c (.ad 200 0)),(8,.c (.ad 8 0)),(9,.c (.sc (.bool true)))]) (λ_=>[(200,xC Lc n 201),(201,.me false (MOk Lc)),(8,.var (rM Lc n).cells)]) ?_ (λ_ _=>?_)
 ·refine X2 (.own [] [(200,200),(201,201)]) ?_;refine ⟨_,_,hof,?_⟩;exact ⟨(),HT,⟨rfl,rfl,rfl,rfl,HT⟩,⟨rfl,rfl,rfl,HT⟩⟩
 refine dI hT aa ?_;by_cases hw:ids.all (inB n)=true
 ·rw[if_pos hw]at hchk;rw[hw]at hwd;have hin:=inB_iff.1 hw;by_cases hp:ids.all plB=true
  ·rw[hp]at hwd;have hni:¬ (idx 1 ids≥0∨idx 2 ids≥0):=λh=>by rw[(qg ids).1 h]at hp; cases hp
   have he:hG Lc n ids=if (dx Lc n ids).2.1=0 then 7 else 0:=by unfold hG; rw[if_neg (by rw[hchk]; decide),if_neg hni]
   have hin2:InW n (ids++[2]):=λx hx=>by
    rcases Fu.1 hx with hx | hx
    ·exact hin x hx
    ·simp at hx; subst hx; omega
   have hsp:=uL hB (ids++[2]) hin2 (by rw[EL]; exact Nat.succ_le_succ l25) _ (show aC ids++[[eI .i64 2]]=_ by simp[aC]) _ (show (aC ids++[[eI .i64 2]]).length=_ by simp[aC]);obtain ⟨b1,b2,_⟩:=k9 hB h2 hin
   have q:=Er l4n;have b1:=b1.le q;have b2:=b2.le q;have l4i:(aC ids).length≤4:=by rw[ac]; exact l4n
   have l7:=o7 b2.n (by decide);by_cases hz:(dx Lc n ids).2.1=0
   ·rw[if_pos hz]at he;have henc:=jP hB h2 ids l25 (by rw[he]; decide);rw[he]at henc;refine bK hT aa ?_;refine X2 (.own σX νX) ?_;refine ⟨_,_,henc,?_⟩;refine X1 _ hwd ?_;refine g9 rfl (EQ (Nat.add_le_add_left l4i 0) (by decide)) (by decide) bj aQ ?_;refine g9 (by rfl) (EQ (Nat.add_le_add_right l4i 1) (by decide)) (by decide) aQ (aq rfl) ?_;refine X2 (.same [(68,1000002)] 68) ?_;refine ⟨rfl,_,hsp,?_⟩;refine .intro rfl ?_;refine .intro (by rw[ae]; exact EQ l7 (by decide)) ?_;rw[ae];refine aT (λ_=>?_) (λh=>absurd (by rw[show (bv Lc n (ids++[2])).2.1=0 from hz,ba]; rfl) h);refine X1 _ gD ?_;exact ⟨HT,SubO.of (l:=[]) trivial,r1 rfl,HT⟩
   ·rw[if_neg hz]at he;have henc:=tF hB h2 ids l25 he;obtain ⟨g1,g2⟩:=np b1 b2 hz;have hk:kOf (dx Lc n ids)≤1292:=g2;have hel:(encB Lc n ids).length≤1292:=by rw[tC]; exact hk
    refine bK hT aa ?_;refine X2 (.own σX νX) ?_;refine ⟨_,_,henc,?_⟩;refine X1 _ hwd ?_;refine g9 rfl (EQ (Nat.add_le_add_left l4i 0) (by decide)) (by decide) bj aQ ?_;refine g9 (by rfl) (EQ (Nat.add_le_add_right l4i 1) (by decide)) (by decide) aQ (aq rfl) ?_;refine X2 (.same [(68,1000002)] 68) ?_;refine ⟨rfl,_,hsp,?_⟩;refine .intro rfl ?_;refine .intro (by rw[ae]; exact EQ l7 (by decide)) ?_;rw[ae];refine aT (λh=>absurd ((fB (B:=256) (by decide)).1 (Fd.1 (Int.ofNat.inj h))) hz) (λ_=>?_);refine X1 _ (w9 b1 b2 g1 (by decide) (Gx hk (by decide))) ?_;refine X1 _ (dP _ (EQ hel (by decide))) ?_;rw[show ca (vK (bv Lc n (ids++[2])) (kOf (dx Lc n ids))) (kOf (dx Lc n ids))=encB Lc n ids from rfl];refine .intro (by rw[c5]; exact EQ hel (by decide)) ?_;rw[c5];refine aT (λ_=>?_) (λh=>absurd rfl h);refine X1 _ (wZ _ (EQ hel (by decide))) ?_;refine X1 _ (uO _ (EQ hel (by decide))) ?_;refine X1 _ (xa _ (by rw[dX]; exact EQ (eX _) (EQ hel (by decide)))) ?_;refine X1 _ gD ?_;exact ⟨HT,SubO.of (l:=[]) trivial,r1 rfl,HT⟩
  ·have hi:=(qg ids).2 (Bool.eq_false_iff.2 hp);rw[Bool.eq_false_iff.2 hp]at hwd;have he:hG Lc n ids=1:=by unfold hG; rw[if_neg (by rw[hchk]; decide),if_pos hi]
   have henc:=jP hB h2 ids l25 (by rw[he]; decide);rw[he]at henc;refine bK hT aa ?_;refine X2 (.own σX νX) ?_;refine ⟨_,_,henc,?_⟩;refine X1 _ hwd ?_;refine X1 _ gD ?_;exact ⟨HT,SubO.of (l:=[]) trivial,r1 rfl,HT⟩
 ·rw[if_neg hw]at hchk;rw[Bool.eq_false_iff.2 hw]at hwd;have he:hG Lc n ids=8:=by unfold hG; rw[if_pos (by rw[hchk]; decide),hchk]
  have henc:=jP hB h2 ids l25 (by rw[he]; decide);rw[he]at henc;refine bK hT aa ?_;refine X2 (.own σX νX) ?_;refine ⟨_,_,henc,?_⟩;refine X1 _ hwd ?_;refine X1 _ gD ?_;exact ⟨HT,SubO.of (l:=[]) trivial,r1 rfl,HT⟩
end Go.Proofs.YtgceikecdedfcaaGreat.Pv
namespace Go.Proofs.YtgceikecdedfcaaGreat.coderEncodes
open Go Go.ChangeShapes Go.WideShapes Go.ChangeAt Go.RowKit
open Go.Proofs.YtgceikecdedfcaaGreat.Pv (okW)
theorem own:ownKnob Tryz.prog.godebug=none:=by kernel_rfl
theorem laidOut:laidOutB Tryz.prog=true:=by kernel_rfl
theorem walk (s0:ByteArray) (o1:Nat) (l2:List Int) (e0:s0.size≤140737488355328) (e1:o1<256) (e2:l2.length≤140737488355328) (W:World) (v0 v1 v2:Value)
  (h0:Pv.Rel (okW W) W (Pv.sS s0) v0) (h1:Pv.Rel (okW W) W (Pv.nI .u8 o1) v1) (h2:Pv.Rel (okW W) W (Pv.iSl l2) v2) :
  Calls Tryz.prog 5 #[v0,v1,v2] W λe W'=>e = .returned (.bool true)∧Below W.heap.size W W':=by
 have hct:=Pv.cencodes_ct s0 o1 l2 e0 e1 e2;have hrun:=hct.run (Pv.Km.bare ⟨λ_=>none,λ_=>False⟩) (okW W) W [v0,v1,v2] (Pv.Hp.nil λ_ hb=>hb) (.cons (.c (.cl h0)) (.cons (.c (.cl h1)) (.cons (.c (.cl h2)) .nil)));rcases hrun with ⟨_,hc⟩ | ⟨v,w',hv,_⟩
 ·refine hc.mono λe w' hq=>?_
  obtain ⟨v,K',ok',rfl,hr,hp,hf⟩:=hq;obtain rfl:v = .bool true:=by cases hr with | o hr=>cases hr with | c hr=>cases hr with | cl hr=>cases hr with | sc _=>rfl
  exact ⟨rfl,hf.os,hf.tape,hf.output,hf.size,λb hb=>hf.keep b hb (λk o L hk=>by simp[Pv.Objs.get]at hk) (λhid=>hid)⟩
 ·exfalso;have:=Pv.exec_call (P:=Tryz.prog) (f:=5) (by kernel_rfl) #[v0,v1,v2] W;have hv':(callFunc 5 #[v0,v1,v2]).run Tryz.prog W = .ok (.value v) w':=hv;rw[this]at hv';cases hv'
set_option maxRecDepth 100000 in
theorem contract (H:Type) (enc:TypeId × Value→H) (W:World) (base:Nat) (args:Array Value) (ds gs:List (DataW H)) (before:List MemPlace)
  (hval:∀ (j:Nat) t v,Tryz.f5.params[j]? = some t→args[j]? = some v→Value.okWide Tryz.prog W .any base t v)
  (hW:DataW.Whole enc Tryz.prog Tryz.f5.params.toList Rows.coderEncodesSpec.vars false W args.toList ds gs before) (hk:Rows.uptoSmall H (ds++gs)=true) :
  Calls Tryz.prog 5 args W λe W'=>∃ v,e = .returned v∧Rows.coderEncodesSpec.post enc Tryz.prog Tryz.f5 false true false false W args v W':=by
 have hW':=hW;obtain ⟨p,q,hA0,hV,rfl,hfz,hnd⟩:=hW;have hA:DataW.TrodAll enc Tryz.prog W 0 (λ_=>true) true Tryz.f5.params.toList args.toList ds p:=hA0;rw[Tryz.params5]at hA hval;obtain ⟨v0,vs0,d0,ds0,p0,q0,hargs0,rfl,rfl,h0,r_0⟩:=trodAll_cons hA;obtain ⟨v1,vs1,d1,ds1,p1,q1,hargs1,rfl,rfl,h1,r_1⟩:=trodAll_cons r_0;obtain ⟨v2,vs2,d2,ds2,p2,q2,hargs2,rfl,rfl,h2,r_2⟩:=trodAll_cons r_1;obtain ⟨rfl,rfl,rfl⟩:=trodAll_nil r_2;obtain rfl:args = #[v0,v1,v2]:=by cases args; simp_all
 obtain ⟨rfl,rfl⟩:=trodVars_none hV;clear hA0;have hb:Rows.uptoBulkAll [d0,d1,d2]≤1048576:=by
  have h:=of_decide_eq_true hk;simpa using h
 simp only[Rows.uptoBulkAll]at hb;obtain ⟨s0,rfl,rfl,rfl,_⟩:=ChangeMaps.open_string Tryz.underlying9 (hval 0 9 v0 rfl rfl) h0;obtain ⟨z1,rfl,rfl,rfl,w1⟩:=open_int Tryz.underlying5 (hval 1 5 v1 rfl rfl) h1;have x1:0≤z1∧z1≤255:=by simpa [Lit.wf,IntKind.min,IntKind.max,IntKind.signed,IntKind.bits] using w1
 obtain ⟨o1,rfl⟩:∃ n:Nat,z1=(n:Int):=⟨z1.toNat,by omega⟩;obtain ⟨a2,m2,c2,rfl⟩:=okWide_slice Tryz.underlying22 (hval 2 22 v2 rfl rfl);obtain ⟨n2,t2⟩:=h2;obtain ⟨B,hB⟩:∃ B,B=1048576:=⟨_,rfl⟩;rw[←hB]at hb;have hBB:B≤140737488355328:=by omega
 have hb0:s0.data.toList.length+1≤B:=by simp only[Rows.uptoBulk]at hb; omega
 have e0:s0.size≤140737488355328:=by
  have:s0.size=s0.data.toList.length:=rfl;omega
 obtain ⟨u2,l2,e2,hh2,hr2⟩:=Pv.rd_ints hBB t2 (show Rows.uptoBulk d2≤B by omega);have e2':u2 = .slice a2 m2 c2:=by simpa [Value.cells] using e2.symm
 subst e2';refine (walk s0 o1 l2 e0 (by omega) (by omega) W _ _ _ (.sc (show s0.size≤Pv.BIG from e0)) (.sc (show (0:Int)≤(o1:Int)∧(o1:Int)≤255 from x1)) hr2).mono λe W' ⟨he,hg⟩=>?_
 subst he;refine ⟨_,rfl,_,_,_,[],([]++([]++(p2++[]))),[],hW',?_,?_,?_,hg.frame _,λh=>by cases h⟩
 ·exact trodAll_cons_mk (shut_bool Tryz.underlying4 _) trodAll_mk0
 ·exact trodAll_cons_mk (ChangeMaps.shut_string Tryz.underlying9 (by assumption)) (trodAll_cons_mk (shut_int Tryz.underlying5 w1) (trodAll_cons_mk (Below.trod laidOut (by kernel_rfl) (of_decide_eq_true (by kernel_rfl)) ⟨n2,t2⟩ hg (DataW.trod_lt _ _ _ _ t2)) trodAll_mk0))
 ·rfl
set_option maxRecDepth 100000 in
theorem lifted (os:Os) (started:os.Started) (H:Type) (enc:TypeId × Value→H) (F:Stop.Interp) :
  ReturnsInHanded {} Tryz.checked os 5 .any ((Rows.OpenSpec.upto Rows.coderEncodesSpec).pre6 enc Tryz.prog Tryz.f5 Rows.coderEncodesUptoRow.domain false) (((Rows.OpenSpec.upto Rows.coderEncodesSpec).at F).post enc Tryz.prog Tryz.f5 false true false false):=by
 refine returnsInHanded_of_cond (C:=Tryz.checked) (s:=Rows.OpenSpec.upto Rows.coderEncodesSpec) (k:=Rows.uptoSmall) rfl own started (by kernel_rfl) Tryz.func5
  (OpenSpec.witness (enc:=enc) (C:=Tryz.checked) (s:=Rows.OpenSpec.upto Rows.coderEncodesSpec) (k:=Rows.uptoSmall) rfl false ⟨#[],#[.string .empty,.int .u8 0,.slice none 0 0],[]⟩ 8 (by kernel_rfl) (by kernel_rfl) (by kernel_rfl)
   (x:=([.lit (.string []),.lit (.int .u8 0),.nil],[],[])) (by kernel_rfl) rfl (by kernel_rfl)) ?_
 intro W base args ds gs before hval hW _ hk _;exact contract H enc W base args ds gs before hval hW hk
theorem over:Rows.coderEncodesUptoRow.holds Tryz.pinned (Rows.OpenSpec.upto Rows.coderEncodesSpec):=
 OpenClaim.holds_of_cond 5 Tryz.f5 rfl rfl rfl rfl rfl rfl rfl ⟨rfl,rfl,rfl,rfl,rfl⟩ rfl rfl rfl rfl rfl (by kernel_rfl) Tryz.func5 (by kernel_rfl)
  (of_decide_eq_true (by kernel_rfl)) (by unfold Func.isWrapper; first | (rw[if_pos (by decide +kernel)]; kernel_rfl) | (rw[if_neg (by decide +kernel)]; exact ⟨rfl,rfl⟩))
  (λos started H enc _ F=>lifted os started H enc F)
theorem proved:Rows.CoderEncodesUptoSaid:=
 over
end Go.Proofs.YtgceikecdedfcaaGreat.coderEncodes
