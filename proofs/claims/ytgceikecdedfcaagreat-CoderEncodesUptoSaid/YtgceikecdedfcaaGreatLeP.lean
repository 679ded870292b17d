/- Parts of a proof, joined: Fe Fa Fb Fc Ew Eg Ex Ey Ez Ff Fh Fu Fv Ga Gb Ha Hb. -/
import Derived.Test.YtgceikecdedfcaaGreatLeO
namespace Go.Proofs.YtgceikecdedfcaaGreat.Pv
open Go
section
def lvl (Lc:List (List Cnt)) (h:List Int):List Cnt:=Lc.getD h.length []
def e8 (l:List Cnt) (k:Nat):Nat × Nat:=cO (au l 1) (au l 2) (au l 3) (au l 4) k
def atN (l:List Cnt) (a:Int):Nat × Nat:=at4 (e8 l 1) (e8 l 2) (e8 l 3) a
def owF (Lc:List (List Cnt)) (w:Int) (h:List Int):Nat × Nat:=cJ ((bM Lc (h++[w])).toNat,1) (atN (lvl Lc h) (bM Lc (h++[w])))
def eu (Lc:List (List Cnt)) (w:Int) (h:List Int) (p:Nat × Nat):Nat × Nat:=
 if totN (after (lvl Lc h) h)=0 then p else bA (eb (owF Lc w h) (totN (after (lvl Lc h) h),1)) (cM (fM Lc h) p)
def p0F (words:Int):Nat × Nat:=eb (1,1) ((words-1).toNat,1)
def pF (Lc:List (List Cnt)) (words w:Int):List Int→Nat × Nat
 | []=>eu Lc w [] (p0F words)
 | x::t=>eu Lc w (x::t) (pF Lc words w t)
def e9 (Lc:List (List Cnt)) (h:List Int):List Int:=if Lc.length≤h.length then h.drop (h.length-Lc.length+1) else h
def br (Lc:List (List Cnt)) (words:Int) (h:List Int) (w:Int):Nat × Nat:=if w<0∨words≤w∨w=1 then (0,1) else pF Lc words w (e9 Lc h)
theorem jb {Lc:List (List Cnt)} {words:Int} (hx:XOk Lc words) (h:List Int):Bd 2000 (fM Lc h):=by
 unfold fM;split
 ·rename_i hh;have hln:=hx.lim.at' hh;have htn:=hx.tot _ (EY hh);have hal:CLim (after Lc[h.length] h):=hln.filter _;have hat:tot (after Lc[h.length] h)≤4611686018427387904:=Hv (dh _ _) htn;have m:=λk=>EQ (bL Lc[h.length] k) hln.len
  have ob:=λk=>qO (m 1) (m 2) (m 3) (m 4) k
  have ht:=nf hat
  have hT:=qQ hal;have hs:=kS (after Lc[h.length] h);unfold jr;split
  ·exact (az (v:=1) (k:=1) (by omega) (by omega)).le (by omega)
  ·have i:=λn (hn:n≤1000000)=>az (v:=n) (k:=63) (by omega) (by omega)
   refine (cB (dM (dM (bh (i _ (by omega)) (ob 1)) (bh (i _ (by omega)) (ob 2))) (bh (i _ (by omega)) (ob 3))) (az (k:=63) (by omega) (by omega)) ?_).le (by omega);show totN _≠0
   omega
 ·exact (az (v:=1) (k:=1) (by omega) (by omega)).le (by omega)
theorem iH {Lc:List (List Cnt)} {words:Int} (hx:XOk Lc words) (g:List Int):0≤bM Lc g∧bM Lc g≤4611686018427387904:=by
 unfold bM;split
 ·omega
 ·rename_i h0;split
  ·omega
  ·rename_i h1;have hn:g.length-1<Lc.length:=by omega
   have hgd:Lc.getD (g.length-1) []=Lc[g.length-1]:=by simp[EK,hn]
   rw[hgd]at h1 ⊢;have hf:=nc g Lc[g.length-1];have hk:(cv g Lc[g.length-1]).toNat<Lc[g.length-1].length:=by omega
   have:=hx.num _ (EY hn) _ (EY hk);simp only[EK,Fc hk,Gk];exact this
theorem Dk {k:Nat} {p1 p2 p3:Nat × Nat} (h1:Bd k p1) (h2:Bd k p2) (h3:Bd k p3) (hk:1≤k) (a:Int):Bd k (at4 p1 p2 p3 a):=by
 unfold at4;split
 ·exact bd01.le hk
 ·split
  ·exact h1
  ·split
   ·exact h2
   ·exact h3
theorem f8 {Lc:List (List Cnt)} {h:List Int} (hh:h.length<Lc.length):lvl Lc h=Lc[h.length]:=by simp[lvl,EK,hh]
theorem fW {l:List Cnt} (hl:CLim l) (k:Nat):Bd 500 (e8 l k):=
 qO (EQ (bL l 1) hl.len) (EQ (bL l 2) hl.len) (EQ (bL l 3) hl.len) (EQ (bL l 4) hl.len) k
theorem qT {Lc:List (List Cnt)} (hl:CCLim Lc) (h:List Int):CLim (lvl Lc h):=by
 by_cases hh:h.length<Lc.length
 ·rw[f8 hh]; exact hl.at' hh
 ·have:lvl Lc h=[]:=by simp[lvl,EK,E7 (FU hh)]
  rw[this]; exact ⟨by simp,λx hx=>by simp at hx⟩
theorem lQ {l:List Cnt} (hl:CLim l) (a:Int):Bd 500 (atN l a):=Dk (fW hl 1) (fW hl 2) (fW hl 3) (by omega) a
theorem dW {Lc:List (List Cnt)} {words:Int} (hx:XOk Lc words) (w:Int) (h:List Int):Bd 600 (owF Lc w h):=by
 have:=iH hx (h++[w]);exact (m9 (az (v:=(bM Lc (h++[w])).toNat) (k:=63) (by omega) (by omega)) (lQ (qT hx.lim h) _)).le (by omega)
theorem kT {Lc:List (List Cnt)} {words:Int} (hx:XOk Lc words) (h:List Int):totN (after (lvl Lc h) h)≤4611686018427387904:=by
 by_cases hh:h.length<Lc.length
 ·rw[f8 hh]; exact nf (Hv (dh _ _) (hx.tot _ (EY hh)))
 ·have:lvl Lc h=[]:=by simp[lvl,EK,E7 (FU hh)]
  rw[this]; exact GL _
theorem oB {Lc:List (List Cnt)} {words:Int} (hx:XOk Lc words) (w:Int) (h:List Int) (h0:totN (after (lvl Lc h) h)≠0):Bd 663 (eb (owF Lc w h) (totN (after (lvl Lc h) h),1)):=
 cB (dW hx w h) (az (k:=63) (by have:=kT hx h; omega) (by omega)) h0
theorem sX {Lc:List (List Cnt)} {words:Int} (hx:XOk Lc words) (w:Int) (h:List Int) {k:Nat} {p:Nat × Nat} (hp:Bd k p):Bd (k+3000) (eu Lc w h p):=by
 unfold eu;split
 ·exact hp.le (by omega)
 ·rename_i h0;exact (dM (oB hx w h h0) (bh (jb hx h) hp)).le (by omega)
theorem qU {Lc:List (List Cnt)} {words:Int} (hx:XOk Lc words):Bd 200 (p0F words):=by
 have h3:=hx.w3;have h6:=hx.w6;exact (cB (az (v:=1) (k:=63) (by omega) (by omega)) (az (v:=(words-1).toNat) (k:=63) (by omega) (by omega)) (by show (words-1).toNat≠0; omega)).le (by omega)
theorem sY {Lc:List (List Cnt)} {words:Int} (hx:XOk Lc words) (w:Int):∀ h:List Int,Bd (200+3000*(h.length+1)) (pF Lc words w h)
 | []=>(sX hx w [] (qU hx)).le (by simp)
 | x::t=>(sX hx w (x::t) (sY hx w t)).le (by simp; omega)
def pN (Lc:List (List Cnt)) (words w:Int) (h:List Int):Nat→Nat × Nat
 | 0=>p0F words
 | n+1=>pF Lc words w (h.drop (h.length-n))
theorem vt {Lc:List (List Cnt)} {words w:Int} {h:List Int} {n:Nat} (hn:n≤h.length):eu Lc w (h.drop (h.length-n)) (pN Lc words w h n)=pN Lc words w h (n+1):=by
 cases n with
 | zero=>rw[Gy]; simp[pN,pF]
 | succ n=>
  have e:h.drop (h.length-(n+1))=h[h.length-(n+1)]::h.drop (h.length-n):=by
   rw[Fk (by omega)];congr 2;omega
  simp only[pN];rw[e,pF]
theorem CF {Lc:List (List Cnt)} {words:Int} (hx:XOk Lc words) (w:Int) (h:List Int) {n:Nat} (hn:n≤h.length+1):Bd (200+3000*(h.length+2)) (pN Lc words w h n):=by
 cases n with
 | zero=>exact (qU hx).le (by omega)
 | succ n=>exact (sY hx w _).le (by rw[Fv]; omega)
theorem nh {Lc:List (List Cnt)} {words:Int} (hx:XOk Lc words) (h:List Int):(e9 Lc h).length<Lc.length:=by
 have:=hx.len0;unfold e9;split
 ·rw[Fv]; omega
 ·omega
theorem Dl {k:Nat} {p:Nat × Nat} (n:Nat) (h:Bg k p) (hk:k≤2000000) (h0:n≠0) (hn:n<9223372036854775808):Ct P 158 [qP p,.c (nI .i64 n)] [qP (Db p (n,1))]:=by
 have hb:Bg 64 (n,1):=⟨by show n<2^64; omega,by show 1<2^64; omega⟩;refine Ct.go aj aa (N:=16) Tryz.func158 rfl rfl rfl rfl ?_;refine X1 ((n:Nat):Int) (wU rfl (by omega) (by omega)) ?_;refine X1 _ (cc n (by omega)) ?_;refine X1 _ (vk h hb h0 hk (by omega)) ?_;refine .intro rfl ?_;exact ⟨HT,rc rfl,HT⟩
end
section
theorem kV {k:Nat} {p:Nat × Nat} (n:Nat) (h:Bd k (nz p)) (hk:k≤400000) (h0:n≠0) (hn:n<9223372036854775808):Ct P 158 [qP p,.c (nI .i64 n)] [qP (eb (nz p) (n,1))]:=Dl n h.bg (by omega) h0 hn
theorem lR {l:List Cnt} (hl:CLim l) (a:Int):nz (gAt (0,0) (dT (au l 1) (au l 2) (au l 3) (au l 4) 1) (dT (au l 1) (au l 2) (au l 3) (au l 4) 2) (dT (au l 1) (au l 2) (au l 3) (au l 4) 3) a)=atN l a:=by
 have m:=λk=>EQ (bL l k) hl.len
 have rn:=λk h1 h3=>vm (m 1) (m 2) (m 3) (m 4) k h1 h3
 unfold gAt atN at4 e8;split
 ·rfl
 ·split
  ·exact rn 1 (by omega) (by omega)
  ·split
   ·exact rn 2 (by omega) (by omega)
   ·exact rn 3 (by omega) (by omega)
section
variable {Lc:List (List Cnt)} {words:Int}
theorem sZ (hx:XOk Lc words) (h:List Int) (w:Int):Bd 30000 (br Lc words h w):=by
 have h8:=hx.len8;have hclt:=nh hx h;unfold br;split
 ·exact bd01.le (by omega)
 ·exact (sY hx w _).le (by omega)
end
end
section
section
variable {Lc:List (List Cnt)} {words:Int}
abbrev rM (Lc:List (List Cnt)) (words:Int):A1:=mV Lc words (gn Lc)
theorem wJ (h:List Int) (w:Int) (hw:w<0∨words≤w∨w=1):Ct P 74 [rM Lc words,.c (iSl h),.c (eI .i64 w)] [rP (0,1)]:=by
 refine Ct.go aj aa (N:=97) Tryz.func74 rfl rfl rfl rfl ?_;refine ah (λh1=>?_) (λh1=>?_)
 ·refine X1 _ (aI 0 (by omega)) ?_;exact ⟨HT,rc rfl,HT⟩
 ·refine ah (λh2=>?_) (λh2=>?_)
  ·refine X1 _ (aI 0 (by omega)) ?_;exact ⟨HT,rc rfl,HT⟩
  ·refine aT (λh3=>?_) (λh3=>?_)
   ·refine X1 _ (aI 0 (by omega)) ?_;exact ⟨HT,rc rfl,HT⟩
   ·exfalso; omega
set_option maxHeartbeats 4000000 in
theorem pS (hx:XOk Lc words) (w:Int) (hw:¬ (w<0∨words≤w∨w=1)) (h:List Int) (hlt:h.length<Lc.length) {p:Nat × Nat} (hp:Bd 30000 p)
  (hz:h.length=0→p=p0F words) (hnz:h.length≠0→Ct P 74 [rM Lc words,.c (iSl (h.drop 1)),.c (eI .i64 w)] [rP p]) :
  Ct P 74 [rM Lc words,.c (iSl h),.c (eI .i64 w)] [rP (eu Lc w h p)]:=by
 have h8:=hx.len8;have w3:=hx.w3;have w6:=hx.w6;have i1:Bd 63 (1,1):=az (v:=1) (by omega) (by omega);have i2:Bd 63 ((words-1).toNat,1):=az (by omega) (by omega);refine Ct.go aj aa (N:=97) Tryz.func74 rfl rfl rfl rfl ?_;refine ah (λh1=>?_) (λh1=>?_)
 ·exfalso; omega
 refine ah (λh2=>?_) (λh2=>?_)
 ·exfalso; omega
 refine aT (λh3=>?_) (λh3=>?_)
 ·exfalso; omega
 refine .intro (by rw[ac]; omega) ?_;refine .intro (by rw[ar]; omega) ?_;rw[ac,ar];refine ah (λh4=>?_) (λh4=>?_)
 ·exfalso; omega
 refine X1 _ (aI 1 (by omega)) ?_;refine X1 (((words-1).toNat:Nat):Int) (wI (by omega) (by omega) (by omega)) ?_;refine X1 _ (aI (words-1).toNat (by omega)) ?_;refine X1 _ (fl i1 i2 (by show (words-1).toNat≠0; omega) (by omega) (by omega)) ?_;refine .intro rfl ?_;refine .intro (by rw[ac]; omega) ?_;rw[ac];refine ah (λh5=>?_) (λh5=>?_);refine ⟨1,h.length,rfl,by show ((aC h).length:Int)=_; rw[ac],by omega,by rw[ac]; exact EM _,?_⟩;rw[iRow_sub,show (h.drop 1).take (h.length-1)=h.drop 1 from Fs (by rw[Fv]; omega)];refine X1 _ (hnz (by omega)) ?_;refine .intro rfl ?_;rotate_left;have hp0:=hz (by omega);unfold p0F at hp0;rw[←hp0]
 all_goals
  have hln:=hx.lim.at' hlt;have htn:=hx.tot _ (EY hlt);have hlv:lvl Lc h=Lc[h.length]:=f8 hlt;have htl:=kT hx h;have hat:tot (after Lc[h.length] h)≤4611686018427387904:=Hv (dh _ _) htn;refine .intro (by rw[ac]; omega) ?_;rw[ac];refine .intro (by omega) (X1 _ (bJ rfl hlt) ?_);have hra:=py Lc[h.length] h hln (by omega) htn;rw[uy,←hlv]at hra;rw[←hlv];refine X1 _ hra ?_;refine ⟨by decide,by decide,.c (nI .i64 (totN (after (lvl Lc h) h))),rfl,by show (2:Nat)≤6; omega,?_⟩;refine aT (λh6=>?_) (λh6=>?_)
  ·have h7:totN (after (lvl Lc h) h)=0:=by
    have:((totN (after (lvl Lc h) h):Nat):Int)=0:=h6;omega
   unfold eu;rw[if_pos h7];exact ⟨HT,rc rfl,HT⟩
  ·have h7:totN (after (lvl Lc h) h)≠0:=λh=>h6 (congrArg Nat.cast h)
   have hnb:=iH hx (h++[w]);have hnum:=sM Lc words (gn Lc) (h++[w]) hx.lim (by simp; omega);have how:=dW hx w h;have hby:=oB hx w h h7;have hg:=jb hx h;unfold eu;rw[if_neg h7];obtain ⟨aN,haN⟩:∃ aN:Nat,bM Lc (h++[w])=aN:=⟨(bM Lc (h++[w])).toNat,by omega⟩;rw[haN]at hnum hnb;have eow:owF Lc w h=cJ (aN,1) (atN (lvl Lc h) aN):=by unfold owF; rw[haN]; rfl
   rw[eow]at how hby ⊢;have erow:aC (h++[w])=aC h++[[eI .i64 w]]:=by simp[aC]
   rw[show iSl (h++[w]) = .sl 1 (aC h++[[eI .i64 w]]) from congrArg _ erow]at hnum;refine ⟨rfl,by rw[ac]; show (0+h.length+768)*8≤_; omega,by rw[ac]; show 0+h.length≤_; omega,bj,aQ,?_⟩;refine ⟨rfl,by rw[EL,ac]; show (0+h.length+1+768)*8≤_; omega,by rw[EL,ac]; show 0+h.length+1≤_; omega,aQ,aq rfl,?_⟩;refine X2 .look (X1 _ hnum ?_);refine .intro rfl ?_;refine X1 _ (aI aN (by omega)) ?_;refine .intro (by rw[ac]; omega) ?_;rw[ac];refine .intro (by omega) (X1 _ (pP rfl hlt) ?_);refine X1 _ (BG _ _ _ _ _) ?_;have ia:Bd 63 (aN,1):=az (by omega) (by omega);have hab:=lQ hln (aN:Int);have eow2:cJ (aN,1) (atN Lc[h.length] aN)=cJ (aN,1) (atN (lvl Lc h) aN):=by rw[hlv]
   have hown:=nb (k:=63) (m:=500) ia hab (by omega) (by omega);rw[eow2]at hown;refine X1 _ hown ?_;refine .intro rfl ?_;have it:Bd 63 (totN (after (lvl Lc h) h),1):=az (by omega) (by omega);refine X1 _ (aI (totN (after (lvl Lc h) h)) (by omega)) ?_;refine X1 _ (fl how it h7 (by omega) (by omega)) ?_;refine X1 _ (BQ Lc words h hx.lim hx.tot (by omega)) ?_;refine X1 _ (dN hg hp (by omega) (by omega)) ?_;refine X1 _ (iZ hby (bh hg hp) (by omega) (by omega)) ?_;refine .intro rfl ?_;exact ⟨HT,rc rfl,HT⟩
theorem lS (hx:XOk Lc words) (w:Int) (hw:¬ (w<0∨words≤w∨w=1)):∀ (h:List Int),h.length<Lc.length→Ct P 74 [rM Lc words,.c (iSl h),.c (eI .i64 w)] [rP (pF Lc words w h)]
 | [],hlt=>pS hx w hw [] hlt ((qU hx).le (by omega)) (λ_=>rfl) (λh=>absurd rfl h)
 | x::t,hlt=>pS hx w hw (x::t) hlt ((sY hx w t).le (by have:=hx.len8; simp at hlt; omega)) (λh=>by simp at h) (λ_=>lS hx w hw t (by simp at hlt; omega))
end
end
section
section
variable {Lc:List (List Cnt)} {words:Int}
theorem s8 (hx:XOk Lc words) (h:List Int) (hl:h.length≤1000000) (w:Int):Ct P 74 [rM Lc words,.c (iSl h),.c (eI .i64 w)] [rP (br Lc words h w)]:=by
 have h8:=hx.len8;have h0:=hx.len0;have hclt:=nh hx h;unfold br;by_cases hw:w<0∨words≤w∨w=1
 ·rw[if_pos hw]; exact wJ h w hw
 rw[if_neg hw];by_cases hc:Lc.length≤h.length
 ·have hrec:=lS hx w hw (e9 Lc h) hclt;have e:e9 Lc h=h.drop (h.length-Lc.length+1):=if_pos hc;rw[e]at hrec ⊢;refine Ct.go aj aa (N:=97) Tryz.func74 rfl rfl rfl rfl ?_;refine ah (λh1=>?_) (λh1=>?_)
  ·exfalso; omega
  refine ah (λh2=>?_) (λh2=>?_)
  ·exfalso; omega
  refine aT (λh3=>?_) (λh3=>?_)
  ·exfalso; omega
  refine .intro (by rw[ac]; omega) ?_;refine .intro (by rw[ar]; omega) ?_;rw[ac,ar];refine ah (λh4=>?_) (λh4=>?_)
  ·refine .intro (by rw[ac]; omega) ?_;refine .intro (by rw[ar]; omega) ?_;rw[ac,ar];refine X1 ((h.length-Lc.length:Nat):Int) (wI (by omega) (by omega) (by omega)) ?_;refine X1 ((h.length-Lc.length+1:Nat):Int) (wI (by omega) (by omega) (by omega)) ?_;refine ⟨h.length-Lc.length+1,h.length,rfl,by show ((aC h).length:Int)=_; rw[ac],by omega,by rw[ac]; exact EM _,?_⟩;rw[iRow_sub,show (h.drop (h.length-Lc.length+1)).take (h.length-(h.length-Lc.length+1))=h.drop (h.length-Lc.length+1) from Fs (by rw[Fv]; omega)];refine X1 _ hrec ?_;refine .intro rfl ?_;exact ⟨HT,rc rfl,HT⟩
  ·exfalso; omega
 ·have e:e9 Lc h=h:=if_neg hc;rw[e]at hclt ⊢;exact lS hx w hw h hclt
end
end
section
theorem CtO.args {P:Program} {f:FuncId} {O O':Objs} {args args' res:List A1} (h:CtO P f O args O' res) (hw:∀ K ok w vs,RelAs K ok w args' vs→RelAs K ok w args vs):CtO P f O args' O' res:=
 ⟨λK ok w vs hp hr=>h.run K ok w vs hp (hw K ok w vs hr)⟩
theorem RelAs.set {K:Km} {ok:Nat→Prop} {w:World} {xs:List A1} {vs:List Value} {i:Nat} {x y:A1} (h:RelAs K ok w xs vs) (hx:xs[i]? = some x) (hw:∀ u,RelA K ok w x u→RelA K ok w y u):RelAs K ok w (xs.set i y) vs:=
 ⟨by rw[GM]; exact h.len,λj z hj=>by
  by_cases e:i=j
  ·subst e;rw[List.getElem?_set_self (EP.1 hx).1]at hj;cases hj;obtain ⟨u,h1,h2⟩:=h.get i x hx;exact ⟨u,h1,hw u h2⟩
  ·rw[List.getElem?_set_ne e]at hj;exact h.get j z hj⟩
theorem BR {K:Km} {ok:Nat→Prop} {w:World} {sz:Nat} (u:Value) (h:RelA K ok w (.c (.sc (.slice none 0 0))) u):RelA K ok w (.c (.sl sz [])) u:=by
 cases h with
 | c h=>
  cases h with
  | cl h=>
   cases h with
   | sc _=>exact .c (.cl .sl0)
theorem Dm {K:Km} {ok:Nat→Prop} {w:World} (u:Value) (h:RelA K ok w (.c (.sl 1 [[.sc (.slice none 0 0)]])) u):RelA K ok w (.c (cK [[]])) u:=by
 cases h with
 | c h=>
  cases h with
  | cl h=>
   cases h with
   | sl g h1 h2 h3 h4 h5 h6 h7=>
    refine .c (.cl (.sl g h1 h2 h3 h4 (λj el hj=>?_) (λj i el x hj hi=>?_) (λj i el x hj hi=>?_)))
    ·cases j with
     | zero=>simp[a8]at hj; subst hj; rfl
     | succ j=>simp[a8]at hj
    ·cases j with
     | zero=>
      simp[a8]at hj; subst hj
      cases i with
      | zero=>exact h6 0 0 _ _ rfl rfl
      | succ i=>simp at hi
     | succ j=>simp[a8]at hj
    ·cases j with
     | zero=>
      simp[a8]at hj; subst hj
      cases i with
      | zero=>
       simp at hi; subst hi;have:=h7 0 0 _ _ rfl rfl;generalize g 0 0=v at *
       cases this with
       | sc _=>exact .sl0
      | succ i=>simp at hi
     | succ j=>simp[a8]at hj
theorem Dn {words:Int} {g:List Int} (hw:words≤65536) (h:gW words g=0):dw g=true:=by
 unfold gW at h;split at h
 ·cases h
 ·rename_i hb;unfold dw;rw[FI];intro v hv;rw[EO,decide_eq_true_eq,decide_eq_true_eq];have:¬ mJ words v=true:=λhbad=>hb (F8.2 ⟨v,hv,hbad⟩)
  unfold mJ at this;simp at this;omega
theorem vu {words:Int}:∀ {l:List Cnt},kwL words l=0→∀ x,x∈l→gW words x.1=0
 | [],_,x,hx=>by simp at hx
 | y::l,h,x,hx=>by
  unfold kwL at h;split at h
  ·rename_i h1; exact absurd h h1
  ·rename_i h1;rcases Fq.1 hx with rfl | hx
   ·omega
   ·exact vu h x hx
theorem s9 {words:Int}:∀ {L:List (List Cnt)},iF words L=0→∀ l,l∈L→kwL words l=0
 | [],_,l,hl=>by simp at hl
 | m::L,h,l,hl=>by
  unfold iF at h;split at h
  ·rename_i h1; exact absurd h h1
  ·rename_i h1;rcases Fq.1 hl with rfl | hl
   ·omega
   ·exact s9 h l hl
theorem Do {L:List (List Cnt)} {words:Int} (hL:CCSum L) (h:gX L words=0) (hn:∀ l,l∈L→∀ x,x∈l→x.2≤4611686018427387904):XOk (ao L) words:=by
 obtain ⟨hok,w1,w2,hkw⟩:=jL h;refine ⟨jK hL.lim,hL.tot,λl hl=>qN hok hl,by rw[bz]; exact hok.len0,by rw[bz]; exact hok.len8,w1,w2,λl hl x hx=>?_,λl hl x hx=>?_⟩
 ·obtain ⟨n,hlt,rfl⟩:=dU hl;obtain ⟨y,hy,rfl⟩:=Fn.1 hx;rw[qM];exact Dn w2 (vu (s9 hkw _ (EY hlt)) y hy)
 ·obtain ⟨n,hlt,rfl⟩:=dU hl;obtain ⟨y,hy,rfl⟩:=Fn.1 hx;have h1:=(hok.form n hlt y hy).2;have h2:=hn _ (EY hlt) y hy;unfold cL;split
  ·have:ahead (L.getD (n+1) []) y.1≤1000000:=by
    by_cases h3:n+1<L.length
    ·have e:L.getD (n+1) []=L[n+1]:=by simp[EK,h3]
     rw[e];exact EQ (FK _ _) (hL.lim.at' h3).len
    ·have e:L.getD (n+1) []=[]:=by simp[EK,E7 (FU h3)]
     rw[e]; simp[ahead]
   show 0≤((ahead _ _:Nat):Int)∧((ahead _ _:Nat):Int)≤_
   omega
  ·show 0≤y.2∧y.2≤_
   omega
theorem oC {M:Int} (hM:0≤M):∀ (l:List Cnt),(∀ x,x∈l→x.2≤M)→tot l≤l.length*M
 | [],_=>by simp[tot]
 | y::l,h=>by
  have ih:=oC hM l λx hx=>h x (Fb _ hx)
  have hy:=h y (by simp);have e:((y::l).length:Int)*M=l.length*M+M:=by
   rw[Fo]; push_cast; rw[Int.add_mul,Int.one_mul]
  rw[e];unfold tot at ih ⊢;by_cases hl:aX y=true
  ·rw[Fy (p:=aX) hl,Fw,GZ]; omega
  ·rw[Ft (p:=aX) hl]; omega
theorem wK (l:List ByteArray) (s:ByteArray):l <+: ie l s:=by
 unfold ie; split
 ·exact List.prefix_refl _
 ·exact List.prefix_append _ _
theorem oD:∀ (ws l:List ByteArray),l <+: cU l ws
 | [],l=>List.prefix_refl _
 | w::ws,l=>(wK l w).trans (oD ws (ie l w))
theorem pT:∀ (L:List (List ByteArray)) (l:List ByteArray),l <+: eR l L
 | [],l=>List.prefix_refl _
 | ws::L,l=>(oD ws l).trans (pT L (cU l ws))
theorem oE (s:ByteArray):∀ (l:List ByteArray) (i:Nat),ce s l=i→∃ y,l[i]? = some y∧(y.toList==s.toList)=true
 | [],i,h=>by simp[ce]at h
 | y::l,i,h=>by
  unfold ce at h;split at h
  ·rename_i hy;have:i=0:=by omega
   subst this;exact ⟨y,rfl,hy⟩
  ·split at h
   ·omega
   ·rename_i h1 h2;obtain ⟨z,h3,h4⟩:=oE s l (i-1) (by omega);refine ⟨z,?_,h4⟩;rw[show i=(i-1)+1 by omega];simpa using h3
theorem BS {ws:List ByteArray} {w:ByteArray} (hp:marks15 <+: ws) (hm:kx w=false):0≤ij ws w∧ij ws w<ws.length∧ij ws w≠1:=by
 have h3:3≤ws.length:=hp.length_le;have hl:=we w ws;unfold ij;split
 ·omega
 ·refine ⟨by omega,by omega,λh=>?_⟩;obtain ⟨y,h1,h2⟩:=oE w ws 1 h;obtain ⟨t,rfl⟩:=hp;have:y=⟨#[60,115,62]⟩:=by
   have h5:(marks15++t)[1]? = some (⟨#[60,115,62]⟩:ByteArray):=rfl;rw[h5]at h1;exact (Gu h1).symm
  subst this;unfold kx at hm;rw[Bool.or_eq_false_iff]at hm;have h6:=beq_iff_eq.1 h2;rw[←h6]at hm;have h7:=hm.1;rw[beq_self_eq_true]at h7;cases h7
structure PadOk (words:Int) (p:List Int):Prop where
 rg:∀ v,v∈p→0≤v∧v<words
 tl:∀ v,v∈p.drop 1→v≠1
theorem zS {ws l:List ByteArray} (hp:marks15 <+: ws) (hl:kC l):PadOk ws.length (eC ws l):=by
 have h3:3≤ws.length:=hp.length_le;have key:∀ v,v∈l.map (ij ws)++[2]→0≤v∧v<(ws.length:Int)∧v≠1:=λv hv=>by
  rcases Fu.1 hv with hv | hv
  ·obtain ⟨w,hw,rfl⟩:=Fn.1 hv;exact BS hp (hl w hw).2
  ·simp at hv; subst hv; omega
 refine ⟨λv hv=>?_,λv hv=>(key v (by simpa [eC] using hv)).2.2⟩;have:v=1∨v∈l.map (ij ws)++[2]:=by simpa [eC] using hv
 rcases this with rfl | h
 ·omega
 ·exact ⟨(key v h).1,(key v h).2.1⟩
theorem qW {p:List Int} {n:Nat}:∀ (i:Nat) (g:List Int),g∈grS p n i→∃ j,n+j≤p.length∧g=(p.drop j).take n
 | 0,g,h=>by simp[grS]at h
 | i+1,g,h=>by
  unfold grS at h;split at h
  ·rename_i hi;rcases Fu.1 h with h | h
   ·exact qW i g h
   ·simp at h; exact ⟨i,hi,h⟩
  ·exact qW i g h
theorem uD {L:List (List Int)} {n:Nat} {g:List Int} (h:g∈bi L n):∃ p j,p∈L∧n+j≤p.length∧g=(p.drop j).take n:=by
 unfold bi at h;obtain ⟨l,hl,hgl⟩:=List.mem_flatten.1 h;obtain ⟨p,hpm,rfl⟩:=Fn.1 hl;obtain ⟨j,h1,h2⟩:=qW _ _ hgl;exact ⟨p,j,hpm,h1,h2⟩
theorem vy:∀ (l:List Int),(∀ v,v∈l→v≠1)→idx 1 l<0
 | [],_=>by simp[idx]
 | y::l,h=>by
  unfold idx;rw[if_neg (λe=>h y (by simp) e.symm),if_pos (vy l λv hv=>h v (Fb _ hv))];omega
theorem D9 {words:Int} {p:List Int} (hp:PadOk words p) {n j:Nat}:gW words ((p.drop j).take n)=0:=by
 have hsub:∀ v,v∈(p.drop j).take n→v∈p:=λv hv=>G5 (Gi hv)
 unfold gW;rw[if_neg,if_neg]
 ·have:=vy (((p.drop j).take n).drop 1) λv hv=>hp.tl v (by
   rw[List.drop_take]at hv;have h1:v∈(p.drop j).drop 1:=Gi hv;have e:(p.drop j).drop 1=(p.drop 1).drop j:=by rw[Gr,Gr,G9]
   rw[e]at h1;exact G5 h1)
  omega
 ·rw[F8]
  rintro ⟨v,hv,hb⟩
  have:=hp.rg v (hsub v hv);unfold mJ at hb;simp at hb;omega
theorem ta {words:Int}:∀ {l:List Cnt},(∀ x,x∈l→gW words x.1=0)→kwL words l=0
 | [],_=>rfl
 | y::l,h=>by
  unfold kwL;rw[if_neg (by rw[h y (by simp)]; simp)];exact ta λx hx=>h x (Fb _ hx)
theorem pU {words:Int}:∀ {L:List (List Cnt)},(∀ l,l∈L→kwL words l=0)→iF words L=0
 | [],_=>rfl
 | y::l,h=>by
  unfold iF;rw[if_neg (by rw[h y (by simp)]; simp)];exact pU λx hx=>h x (Fb _ hx)
theorem mz {n:Nat}:∀ {l:List Cnt} {p:Option (List Int)},(∀ x,x∈l→x.1.length=n+1∧1≤x.2)→d7 l→(∀ q,p=some q→∀ x,x∈l→aH q x.1<0)→cT n p l=0
 | [],p,_,_,_=>nY
 | x::l,p,h,hr,hq=>by
  obtain ⟨h1,h2⟩:=Gp.1 hr;obtain ⟨a1,a2⟩:=h x (by simp);rw[iz,if_neg (by omega),if_neg (by omega),if_neg]
  ·exact mz (λy hy=>h y (Fb _ hy)) h2 λq hq y hy=>by cases hq; exact h1 y hy
  ·cases p with
   | none=>simp
   | some q=>
    have:=hq q rfl x (by simp);simp; omega
theorem kW:∀ {L:List (List Cnt)} {n:Nat},(∀ (k:Nat) l,L[k]? = some l→cT (n+k) none l=0)→cX n L=0
 | [],_,_=>rfl
 | l::L,n,h=>by
  have h0:cT n none l=0:=h 0 l rfl;rw[cX,if_neg (by rw[h0]; simp)];exact kW λk x hx=>by
   have:=h (k+1) x (by simpa using hx);rwa [show n+(k+1)=n+1+k by omega]at this
abbrev ofL (s:ByteArray) (m:Nat):List (List Cnt):=ct (fE (aK s) s) m
theorem oF {s:ByteArray} (hs:s.size≤120):marks15 <+: aK s∧(aK s).length≤14523:=by
 obtain ⟨b1,b2⟩:=kD s;refine ⟨pT _ _,?_⟩;have h1:=lH (n:=120) (fU s) marks15 λws h=>by have:=(b2 ws h).1; omega
 have h3:(fU s).length*120≤121*120:=EU _ (by omega);have h4:marks15.length=3:=rfl;unfold aK;omega
theorem oG {s:ByteArray} (hs:s.size≤120):(fE (aK s) s).length≤121∧∀ p,p∈fE (aK s) s→p.length≤122∧PadOk (aK s).length p:=by
 obtain ⟨b1,b2⟩:=kD s;unfold fE;refine ⟨by rw[FD]; omega,λp hp=>?_⟩;obtain ⟨l,hl,rfl⟩:=Fn.1 hp;obtain ⟨c1,c2⟩:=b2 l hl;refine ⟨?_,zS (oF hs).1 c2⟩;simp[eC];omega
theorem kX {L:List (List Int)} {m k:Nat} {l:List Cnt} (h:(ct L m)[k]? = some l):k<m∧l=gq (bi L (k+1)):=by
 unfold ct at h;rw[EZ,ES]at h;obtain ⟨j,hj,rfl⟩:=h;obtain ⟨h1,h2⟩:=EP.1 hj;simp at h1 h2;subst h2;exact ⟨h1,rfl⟩
theorem BT {s:ByteArray} (hs:s.size≤120) (n:Nat):(bi (fE (aK s) s) n).length≤14762:=by
 obtain ⟨a1,a2⟩:=oG hs;have h1:=gY (n:=n) (k:=122) (fE (aK s) s) λp h=>(a2 p h).1
 have h3:(fE (aK s) s).length*122≤121*122:=EU _ a1;omega
theorem vz {s:ByteArray} (hs:s.size≤120) {m k:Nat} {l:List Cnt} (h:(ofL s m)[k]? = some l):k<m∧l.length≤14762∧d7 l∧∀ x,x∈l→x.1.length=k+1∧1≤x.2∧x.2≤14762∧gW (aK s).length x.1=0:=by
 obtain ⟨h1,rfl⟩:=kX h;obtain ⟨g1,g2,g3,g4⟩:=ng _ (bi (fE (aK s) s) (k+1)) rfl;have hb:=BT hs (k+1);refine ⟨h1,by omega,g4,λx hx=>?_⟩;obtain ⟨p,j,hp,hj,hg⟩:=uD (g2 x hx);have hn:=g3 x hx;refine ⟨?_,hn.1,by omega,?_⟩
 ·rw[hg,E3,Fv]; omega
 ·rw[hg]; exact D9 ((oG hs).2 p hp).2
theorem oH {s:ByteArray} (hs:s.size≤120) {m:Nat} {l:List Cnt} (h:l∈ofL s m) (hm:m≤4):l.length≤14762∧d7 l∧∀ x,x∈l→x.1.length≤4∧1≤x.2∧x.2≤14762∧gW (aK s).length x.1=0:=by
 obtain ⟨k,hk⟩:=GI.1 h;obtain ⟨h1,h2,h3,h4⟩:=vz hs hk;exact ⟨h2,h3,λx hx=>by obtain ⟨a1,a2⟩:=h4 x hx; exact ⟨by omega,a2⟩⟩
theorem tb {s:ByteArray} (hs:s.size≤120) {m:Nat} (h1:1≤m) (h4:m≤4):gX (ofL s m) (aK s).length=0:=by
 obtain ⟨l1,l2⟩:=oF hs;have l3:3≤(aK s).length:=l1.length_le;have hlen:(ofL s m).length=m:=cu _ _;have hw:fD (ofL s m)=0:=by
  unfold fD;rw[if_neg (by rw[hlen]; omega)];refine kW λk l hk=>?_
  obtain ⟨_,_,r,hx⟩:=vz hs hk;rw[FC];exact mz (λx hm=>⟨(hx x hm).1,(hx x hm).2.1⟩) r λq hq=>by cases hq
 unfold gX;rw[if_neg (by rw[hw]; simp),if_neg (by omega)];refine pU λl hl=>ta λx hx=>?_
 exact ((oH hs hl h4).2.2 x hx).2.2.2
theorem uE {s:ByteArray} (hs:s.size≤120) {m:Nat} (h4:m≤4):CCSum (ofL s m)∧∀ l,l∈ofL s m→∀ x,x∈l→x.2≤4611686018427387904:=by
 have hlen:(ofL s m).length=m:=cu _ _;have hcl:CCLim (ofL s m):=⟨by rw[hlen]; omega,λl hl=>by
  obtain ⟨a1,_,a3⟩:=oH hs hl h4;exact ⟨by omega,λx hx=>by have:=(a3 x hx).1; omega⟩⟩
 refine ⟨⟨hcl,λl hl=>?_⟩,λl hl x hx=>by have:=((oH hs hl h4).2.2 x hx).2.2.1; omega⟩;obtain ⟨n,hn,rfl⟩:=dU hl;obtain ⟨a1,_,a3⟩:=oH hs (EY hn) h4;have:=oC (M:=1000000) (by omega) ((ofL s m)[n].map (cL (ofL s m) n)) λx hx'=>by
  obtain ⟨y,hy,rfl⟩:=Fn.1 hx';have h4:=(a3 y hy).2.2.1;unfold cL;split
  ·have:ahead ((ofL s m).getD (n+1) []) y.1≤1000000:=by
    by_cases h3:n+1<(ofL s m).length
    ·have e:(ofL s m).getD (n+1) []=(ofL s m)[n+1]:=by simp[EK,h3]
     rw[e];exact EQ (FK _ _) (hcl.at' h3).len
    ·have e:(ofL s m).getD (n+1) []=[]:=by simp[EK,E7 (FU h3)]
     rw[e]; simp[ahead]
   show ((ahead _ _:Nat):Int)≤_
   omega
  ·omega
 rw[FD]at this;have h5:((ofL s m)[n].length:Int)*1000000≤14762*1000000:=Int.mul_le_mul_of_nonneg_right (by omega) (by omega);omega
def qv (p:Nat × Nat):Rat:=(p.1:Rat)/(p.2:Rat)
theorem ey {n:Nat} (h:n≠0):(n:Rat)≠0:=λe=>h (Rat.natCast_inj.1 (by rw[e]; rfl))
theorem pV {n d:Nat} (h:d≠0):qv (fR n d)=(n:Rat)/(d:Rat):=by
 have hg:Nat.gcd n d≠0:=λe=>h (GH e)
 obtain ⟨a,ha⟩:=Ho n d;obtain ⟨b,hb⟩:=GO n d;unfold qv fR;generalize Nat.gcd n d=g at *
 subst ha hb;have hb0:b≠0:=λe=>h (by rw[e,Gb])
 simp only;rw[Gh _ (Fl hg),Gh _ (Fl hg),FP,FP];have h1:=ey hg;have h2:=ey hb0;grind
theorem jM {p q:Nat × Nat} (hp:p.2≠0) (hq:q.2≠0):qv (cM p q)=qv p*qv q:=by
 unfold cM;rw[pV (Ff hp hq),FP,FP];have h1:=ey hp;have h2:=ey hq;unfold qv;grind
theorem qX {p q:Nat × Nat} (hp:p.2≠0) (hq:q.2≠0) (hq1:q.1≠0):qv (eb p q)=qv p/qv q:=by
 unfold eb;rw[pV (Ff hp hq1),FP,FP];have h1:=ey hp;have h2:=ey hq;have h3:=ey hq1;unfold qv;grind
theorem iI {p q:Nat × Nat} (hp:p.2≠0) (hq:q.2≠0):qv (bA p q)=qv p+qv q:=by
 unfold bA;rw[pV (Ff hp hq),FP,Gv,FP,FP];have h1:=ey hp;have h2:=ey hq;unfold qv;grind
theorem zT {p q:Nat × Nat} (hp:p.2≠0) (hq:q.2≠0) (hle:q.1*p.2≤p.1*q.2):qv (cJ p q)=qv p-qv q:=by
 unfold cJ;obtain ⟨c,hc⟩:=Nat.exists_eq_add_of_le hle;have e:(p.1:Rat)*q.2=q.1*p.2+c:=by rw[←FP,hc,Gv,FP]
 rw[pV (Ff hp hq),hc,Nat.add_sub_cancel_left,FP];have h1:=ey hp;have h2:=ey hq;unfold qv;grind
theorem eH (n:Nat):qv (n,1)=n:=by
 unfold qv;simp only;rw[show ((1:Nat):Rat)=1 from rfl];grind
theorem Dp {n d:Nat} (hd:d≠0) (h:qv (fR n d)=1):fR n d=(1,1):=by
 rw[pV hd]at h;have h1:=ey hd;have e:(n:Rat)=d:=by grind
 have:=Rat.natCast_inj.1 e;subst this;unfold fR;rw[Nat.gcd_self,Hx (Fl hd)]
theorem eU {p q:Nat × Nat} (hp:p.2≠0) (hq:q.2≠0):(cM p q).2≠0:=iC (Ff hp hq)
theorem gr {p q:Nat × Nat} (hp:p.2≠0) (hq:q.2≠0):(bA p q).2≠0:=iC (Ff hp hq)
theorem oI {p q:Nat × Nat} (hp:p.2≠0) (hq:q.1≠0):(eb p q).2≠0:=iC (Ff hp hq)
def dk (f:Nat→Rat):Nat→Rat
 | 0=>0
 | n+1=>dk f n+f n
def f9 (f:Cnt→Rat):List Cnt→Rat
 | []=>0
 | x::l=>f x+f9 f l
theorem eJ {f g:Nat→Rat}:∀ {n:Nat},(∀ w,w<n→f w=g w)→dk f n=dk g n
 | 0,_=>rfl
 | n+1,h=>by rw[dk,dk,eJ λw hw=>h w (by omega),h n (by omega)]
theorem oJ {f g:Nat→Rat}:∀ {n:Nat},dk (λw=>f w+g w) n=dk f n+dk g n
 | 0=>by simp only[dk]; grind
 | n+1=>by simp only[dk]; rw[oJ]; grind
theorem oK {f:Nat→Rat} {c:Rat}:∀ {n:Nat},dk (λw=>c*f w) n=c*dk f n
 | 0=>by simp only[dk]; grind
 | n+1=>by simp only[dk]; rw[oK]; grind
theorem lT:∀ {n:Nat},dk (λ_=>0) n=0
 | 0=>rfl
 | n+1=>by simp only[dk]; rw[lT]; grind
theorem tc {c:Rat} {v:Nat}:∀ {n:Nat},dk (λw=>if w=v then c else 0) n=if v<n then c else 0
 | 0=>by simp[dk]
 | n+1=>by
  simp only[dk]; rw[tc];by_cases h1:n=v
  ·subst h1; rw[if_neg (by omega),if_pos rfl,if_pos (by omega)]; grind
  ·rw[if_neg h1];by_cases h2:v<n
   ·rw[if_pos h2,if_pos (by omega)]; grind
   ·rw[if_neg h2,if_neg (by omega)]; grind
theorem oL {c:Rat}:∀ {n:Nat},dk (λw=>if (w:Int)=1 then 0 else c) (n+2)=((n+1:Nat):Rat)*c
 | 0=>by
  simp only[dk];rw[if_neg (by decide),if_pos (by decide),show ((0+1:Nat):Rat)=1 from rfl];grind
 | n+1=>by
  rw[dk,oL,if_neg (by omega),Gv (n+1) 1,show ((1:Nat):Rat)=1 from rfl];grind
theorem oM {f g:Cnt→Rat}:∀ {l:List Cnt},(∀ x,x∈l→f x=g x)→f9 f l=f9 g l
 | [],_=>rfl
 | y::l,h=>by rw[f9,f9,oM λx hx=>h x (Fb _ hx),h y (by simp)]
theorem pW:∀ l:List Cnt,f9 (λ_=>0) l=0
 | []=>rfl
 | _::l=>by simp only[f9]; rw[pW l]; grind
theorem Ea (f:Nat→Cnt→Rat):∀ (l:List Cnt) (n:Nat),dk (λw=>f9 (f w) l) n=f9 (λx=>dk (λw=>f w x) n) l
 | [],n=>by simp only[f9]; exact lT
 | y::l,n=>by simp only[f9]; rw[oJ,Ea f l n]
theorem mA {f:Cnt→Rat} {p:Cnt→Bool}:∀ {l:List Cnt},f9 (λx=>if p x=true then f x else 0) l=f9 f (l.filter p)
 | []=>rfl
 | y::l=>by
  simp only[f9]; rw[mA];by_cases h:p y=true
  ·rw[if_pos h,Fy h,f9]
  ·rw[if_neg h,Ft h]; grind
def nlk (g:List Int) (l:List Cnt):Int:=if cv g l<0 then 0 else (l.getD (cv g l).toNat ([],0)).2
theorem zU {g:List Int} {x:Cnt} {l:List Cnt}:nlk g (x::l)=if x.1=g then x.2 else nlk g l:=by
 unfold nlk;by_cases h:x.1=g
 ·rw[if_pos h,show cv g (x::l)=0 by rw[cv,if_pos h]]; rfl
 ·rw[if_neg h];have:=nc g l;by_cases h2:cv g l<0
  ·rw[show cv g (x::l) = -1 by rw[cv,if_neg h,if_pos h2],if_pos h2]; rfl
  ·rw[show cv g (x::l)=cv g l+1 by rw[cv,if_neg h,if_neg h2],if_neg h2,if_neg (by omega),show (cv g l+1).toNat=(cv g l).toNat+1 by omega];simp
theorem vC {f:Int→Rat} (hf:f 0=0) (g:List Int):∀ {l:List Cnt},d7 l→f (nlk g l)=f9 (λx=>if x.1=g then f x.2 else 0) l
 | [],_=>by show f 0=0; exact hf
 | y::l,h=>by
  obtain ⟨h1,h2⟩:=Gp.1 h;rw[zU,f9,←vC hf g h2];by_cases h3:y.1=g
  ·have h4:nlk g l=0:=by
    unfold nlk;rw[if_pos];rw[fq g l λj hj e=>?_]
    ·decide
    ·have:=h1 _ (EY hj);rw[e,h3,d6]at this;omega
   rw[if_pos h3,if_pos h3,h4,hf]; grind
  ·rw[if_neg h3,if_neg h3]; grind
theorem wL {Lc:List (List Cnt)} {h:List Int} {w:Int} (hh:h.length<Lc.length):bM Lc (h++[w])=nlk (h++[w]) (lvl Lc h):=by
 have e:(h++[w]).length-1=h.length:=by simp
 unfold bM nlk lvl;rw[e,if_neg (by simp; omega)]
def eV (words:Int) (l:List Cnt):Prop:=∀ x,x∈l→∀ (h:List Int) (v:Int),x.1=h++[v]→0≤v∧v<words∧(v=1→h=[])
theorem BU {f:Int→Rat} (hf:f 0=0) {l:List Cnt} {words:Nat} (hr:d7 l) (h0:∀ x,x∈l→0≤x.2) (he:eV words l) (h:List Int) :
  dk (λw=>if (w:Int)=1 then 0 else f (nlk (h++[(w:Int)]) l)) words=f9 (λx=>if aX x=true then f x.2 else 0) (after l h):=by
 rw[eJ (g:=λw=>f9 (λx=>if (w:Int)=1 then 0 else if x.1=h++[(w:Int)] then f x.2 else 0) l) λw _=>?_,Ea]
 ·unfold after;rw[←mA];refine oM λx hx=>?_
  by_cases hp:cH h x=true
  ·rw[if_pos hp];unfold cH at hp;rw[EO,decide_eq_true_eq,decide_eq_true_eq]at hp;obtain ⟨v,hv⟩:∃ v,x.1=h++[v]:=by
    refine ⟨x.1[h.length]'(by omega),?_⟩;have e:=GW h.length x.1;rw[hp.2,Fk (by omega),List.drop_of_length_le (by omega)]at e;exact e.symm
   obtain ⟨e1,e2,e3⟩:=he x hx h v hv;obtain ⟨vn,rfl⟩:∃ vn:Nat,v=(vn:Int):=⟨v.toNat,by omega⟩;rw[eJ (g:=λw=>if w=vn then (if (vn:Int)=1 then 0 else f x.2) else 0) λw _=>?_,tc,if_pos (by omega)]
   ·by_cases h1:(vn:Int)=1
    ·rw[if_pos h1,if_neg];have:x.1=[1]:=by rw[hv,e3 h1,h1]; rfl
     unfold aX;rw[this]; simp
    ·rw[if_neg h1];have hne:¬ x.1=[1]:=λh2=>by
      rw[hv]at h2;have hl:=congrArg List.length h2;simp at hl;subst hl;simp at h2;omega
     by_cases h2:x.2<1
     ·have:=h0 x hx;rw[show x.2=0 by omega,hf];split<;>rfl
     ·rw[if_pos];unfold aX;rw[decide_eq_false h2,decide_eq_false hne]; rfl
   ·by_cases hw:w=vn
    ·subst hw;rw[if_pos rfl,if_pos hv]
    ·rw[if_neg hw];rw[if_neg (show ¬ x.1=h++[(w:Int)] from λe=>by
      rw[hv]at e;have:=List.append_cancel_left e;simp at this;omega)]
     split<;>rfl
  ·rw[if_neg hp,eJ (g:=λ_=>0) λw _=>?_,lT];rw[if_neg (show ¬ x.1=h++[(w:Int)] from λe=>hp (by unfold cH; rw[e]; simp))];split<;>rfl
 ·by_cases hw:(w:Int)=1
  ·simp only[if_pos hw];exact (pW l).symm
  ·simp only[if_neg hw];exact vC hf _ hr
theorem Eb {n d k:Nat} (h:n≤k*d):(fR n d).1≤k*(fR n d).2:=by
 show n/Nat.gcd n d≤k*(d/Nat.gcd n d)
 rw[←Nat.mul_div_assoc k (GO n d)];exact Nat.div_le_div_right h
theorem BV (k:Nat) (p:Nat × Nat):(cJ (k,1) p).1≤k*(cJ (k,1) p).2:=Eb (by simp)
theorem qY (l:List Cnt) (k:Nat) (h1:1≤k) (h3:k≤3):(e8 l k).1≤k*(e8 l k).2:=by
 have hk:k=1∨k=2∨k=3:=by omega
 unfold e8;rcases hk with rfl | rfl | rfl
 all_goals
  simp only[cO];split
  ·exact BV _ _
  ·exact GL _
theorem Dq (l:List Cnt) {a:Int} (ha:0≤a):(atN l a).1*1≤a.toNat*(atN l a).2:=by
 rw[F5];unfold atN at4;split
 ·exact GL _
 ·split
  ·rename_i h; subst h; exact qY l 1 (by omega) (by omega)
  ·split
   ·rename_i h; subst h; exact qY l 2 (by omega) (by omega)
   ·exact EQ (qY l 3 (by omega) (by omega)) (EU _ (by omega))
def kY (l:List Cnt) (a:Int):Rat:=qv (cJ (a.toNat,1) (atN l a))
theorem BW (l:List Cnt):kY l 0=0:=by
 have:cJ ((0:Int).toNat,1) (atN l 0)=(0,1):=by
  unfold atN at4;rw[if_pos (by omega)];rfl
 unfold kY;rw[this,eH];rfl
theorem zV {l:List Cnt} (hl:CLim l) {a:Int} (ha:0≤a):kY l a=(a.toNat:Rat)-qv (atN l a):=by
 unfold kY;rw[zT (by simp) (lQ hl a).pos (Dq l ha),eH]
theorem pX {x:Cnt} {l:List Cnt}:totN (x::l)=(if aX x=true then x.2.toNat else 0)+totN l:=by
 have h1:tot (x::l)=tot [x]+tot l:=iV [x] l;have h2:=cG [x];have h3:=cG l;have h4:tot [x]=if aX x=true then x.2 else 0:=by
  unfold tot;by_cases h:aX x=true
  ·rw[if_pos h,Fy h]; simp
  ·rw[if_neg h,Ft h]; simp
 unfold totN;split
 ·rename_i h; rw[if_pos h]at h4; omega
 ·rename_i h; rw[if_neg h]at h4; omega
theorem wM {x:Cnt} {l:List Cnt}:tysN (x::l)=(if aX x=true then 1 else 0)+tysN l:=by
 unfold tysN;by_cases h:aX x=true
 ·rw[if_pos h,Fy h,Fo]; omega
 ·rw[if_neg h,Ft h]; omega
theorem pY {x:Cnt} {l:List Cnt} {k:Int}:au (x::l) k=(if aX x=true∧x.2=k then 1 else 0)+au l k:=by
 unfold au;by_cases h:aX x=true∧x.2=k
 ·rw[if_pos h,Fy (by simp[h]),Fo]; omega
 ·rw[if_neg h,Ft (by simpa using h)]; omega
def zW (l A:List Cnt):Rat:=(au A 1:Rat)*qv (e8 l 1)+(au A 2:Rat)*qv (e8 l 2)+((tysN A:Rat)-(au A 1:Rat)-(au A 2:Rat))*qv (e8 l 3)
theorem Dr {x:Cnt} (h:aX x=true):1≤x.2:=by
 unfold aX at h;rw[EO]at h;have:=h.1;simp at this;omega
theorem te {l:List Cnt} (hl:CLim l):∀ A:List Cnt,f9 (λx=>if aX x=true then kY l x.2 else 0) A=(totN A:Rat)-zW l A
 | []=>by
  show (0:Rat)=((0:Nat):Rat)-_
  unfold zW;rw[show ((au [] 1:Nat):Rat)=0 from rfl,show ((au [] 2:Nat):Rat)=0 from rfl,show ((tysN []:Nat):Rat)=0 from rfl,show ((0:Nat):Rat)=0 from rfl];grind
 | x::A=>by
  have ih:=te hl A;rw[f9,ih];unfold zW;rw[pX,wM,pY,pY];by_cases h:aX x=true
  ·have h1:=Dr h;rw[if_pos h,if_pos h,if_pos h,zV hl (by omega)];simp only[h,true_and,Gv];rw[show ((1:Nat):Rat)=1 from rfl];have h2:x.2=1∨x.2=2∨3≤x.2:=by omega
   unfold atN at4;rw[if_neg (by omega)];rcases h2 with h2 | h2 | h2
   ·rw[if_pos h2,if_pos h2,if_neg (show ¬ x.2=2 by omega),show ((1:Nat):Rat)=1 from rfl,show ((0:Nat):Rat)=0 from rfl];grind
   ·rw[if_neg (show ¬ x.2=1 by omega),if_pos h2,if_neg (show ¬ x.2=1 by omega),if_pos h2,show ((1:Nat):Rat)=1 from rfl,show ((0:Nat):Rat)=0 from rfl];grind
   ·rw[if_neg (show ¬ x.2=1 by omega),if_neg (show ¬ x.2=2 by omega),if_neg (show ¬ x.2=1 by omega),if_neg (show ¬ x.2=2 by omega),show ((0:Nat):Rat)=0 from rfl];grind
  ·rw[if_neg h,if_neg h,if_neg h,if_neg (λe=>h e.1),if_neg (λe=>h e.1)];simp only[FC];grind
theorem Dt {Lc:List (List Cnt)} {words:Int} (hx:XOk Lc words) {h:List Int} (hT:totN (after (lvl Lc h) h)≠0):qv (fM Lc h)=zW (lvl Lc h) (after (lvl Lc h) h)/(totN (after (lvl Lc h) h):Rat):=by
 have hh:h.length<Lc.length:=by
  apply Classical.byContradiction;intro hn;apply hT;have:lvl Lc h=[]:=by simp[lvl,EK,E7 (FU hn)]
  rw[this]; rfl
 have hlv:=f8 hh;have hln:=hx.lim.at' hh;have ob:=λk=>fW hln k
 unfold fM;rw[dif_pos hh,←hlv];rw[←hlv]at ob;generalize lvl Lc h=l at *
 have hs:=kS (after l h);unfold jr;rw[if_neg (by omega)];have i:=λn:Nat=>eH n
 obtain ⟨c,hc⟩:=Nat.exists_eq_add_of_le hs;have p1:=(ob 1).pos;have p2:=(ob 2).pos;have p3:=(ob 3).pos;have one:(1:Nat)≠0:=by decide
 have m1:(cM (au (after l h) 1,1) (e8 l 1)).2≠0:=eU one p1;have m2:(cM (au (after l h) 2,1) (e8 l 2)).2≠0:=eU one p2;have m3:(cM (tysN (after l h)-au (after l h) 1-au (after l h) 2,1) (e8 l 3)).2≠0:=eU one p3;have a1:(bA (cM (au (after l h) 1,1) (e8 l 1)) (cM (au (after l h) 2,1) (e8 l 2))).2≠0:=gr m1 m2;show qv (eb (bA (bA (cM (au (after l h) 1,1) (e8 l 1)) (cM (au (after l h) 2,1) (e8 l 2))) (cM (tysN (after l h)-au (after l h) 1-au (after l h) 2,1) (e8 l 3))) (totN (after l h),1))=_
 rw[qX (gr a1 m3) one hT,iI a1 m3,iI m1 m2,jM one p1,jM one p2,jM one p3,i,i,i,i];unfold zW;congr 2;rw[hc,show au (after l h) 1+au (after l h) 2+c-au (after l h) 1-au (after l h) 2=c by omega,Gv,Gv];grind
def noB (f:Nat→Rat) (w:Nat):Rat:=if (w:Int)=1 then 0 else f w
theorem tf {Lc:List (List Cnt)} {n:Nat} (hx:XOk Lc n) (he:∀ l,l∈Lc→eV n l) (h:List Int) {p:Nat→Nat × Nat} (hp:∀ w,(p w).2≠0) (hs:dk (noB λw=>qv (p w)) n=1) :
  dk (noB λw=>qv (eu Lc w h (p w))) n=1:=by
 by_cases hT:totN (after (lvl Lc h) h)=0
 ·rw[←hs];refine eJ λw _=>?_
  unfold noB eu;simp only[if_pos hT]
 ·have hh:h.length<Lc.length:=by
   apply Classical.byContradiction;intro hn;apply hT;have:lvl Lc h=[]:=by simp[lvl,EK,E7 (FU hn)]
   rw[this]; rfl
  have hm:lvl Lc h∈Lc:=by rw[f8 hh]; exact EY hh
  have hln:=hx.lim.l _ hm;have hsn:=BU (f:=kY (lvl Lc h)) (BW _) (words:=n) (hx.rises _ hm) (λx hxm=>(hx.num _ hm x hxm).1) (he _ hm) h;rw[te hln]at hsn;have hg:=Dt hx hT;have hgb:=(jb hx h).pos;have hT':=ey hT;rw[eJ (g:=λw=>(1/(totN (after (lvl Lc h) h):Rat))*(if (w:Int)=1 then 0 else kY (lvl Lc h) (nlk (h++[(w:Int)]) (lvl Lc h)))+qv (fM Lc h)*noB (λw=>qv (p w)) w) λw _=>?_,oJ,oK,oK,hs,hsn,hg]
  ·grind
  ·unfold noB;by_cases hw:(w:Int)=1
   ·simp only[if_pos hw]; grind
   ·simp only[if_neg hw];unfold eu;have ob:=(dW hx w h).pos;have one:(1:Nat)≠0:=by decide
    rw[if_neg hT,iI (oI ob hT) (eU hgb (hp w)),qX ob one hT,jM hgb (hp w),eH];have:qv (owF Lc w h)=kY (lvl Lc h) (nlk (h++[(w:Int)]) (lvl Lc h)):=by
     unfold owF kY;rw[wL hh]
    rw[this];grind
theorem Du {Lc:List (List Cnt)} {n:Nat} (hx:XOk Lc n):dk (noB λ_=>qv (p0F n)) n=1:=by
 have h3:=hx.w3;obtain ⟨k,rfl⟩:∃ k,n=k+2:=⟨n-2,by omega⟩;have e:qv (p0F ((k+2:Nat):Int))=1/((k+1:Nat):Rat):=by
  unfold p0F;rw[show (((k+2:Nat):Int)-1).toNat=k+1 by omega,qX (by decide) (show (1:Nat)≠0 by decide) (show k+1≠0 by omega),eH,eH];rfl
 unfold noB;rw[oL,e];have:=ey (n:=k+1) (by omega);grind
theorem qZ {Lc:List (List Cnt)} {n:Nat} (hx:XOk Lc n) (he:∀ l,l∈Lc→eV n l):∀ h:List Int,dk (noB λw=>qv (pF Lc n w h)) n=1
 | []=>tf hx he [] (λ_=>(qU hx).pos) (Du hx)
 | x::t=>tf hx he (x::t) (λw=>(sY hx w t).pos) (qZ hx he t)
def bC (Lc:List (List Cnt)) (words:Int) (h:List Int):Nat→Nat × Nat
 | 0=>(0,1)
 | w+1=>bA (bC Lc words h w) (br Lc words h w)
theorem ni {Lc:List (List Cnt)} {n:Nat} (hx:XOk Lc n) (h:List Int):∀ w:Nat,w≤n→(bC Lc n h w).2≠0∧qv (bC Lc n h w)=dk (noB λw=>qv (pF Lc n w (e9 Lc h))) w
 | 0,_=>⟨show (1:Nat)≠0 by decide,by show qv (0,1)=0; rw[eH]; rfl⟩
 | w+1,hw=>by
  obtain ⟨i1,i2⟩:=ni hx h w (by omega);have hp:=(sZ hx h (w:Int)).pos;refine ⟨iC (Ff i1 hp),?_⟩;show qv (bA _ _)=dk _ w+_
  rw[iI i1 hp,i2];congr 1;unfold br noB;by_cases h1:(w:Int)=1
  ·rw[if_pos (.inr (.inr h1)),if_pos h1,eH]; rfl
  ·rw[if_neg (by omega),if_neg h1]
theorem zX {Lc:List (List Cnt)} {n:Nat} (hx:XOk Lc n) (he:∀ l,l∈Lc→eV n l) (h:List Int):bC Lc n h n=(1,1):=by
 have h3:=hx.w3;obtain ⟨k,rfl⟩:∃ k,n=k+1:=⟨n-1,by omega⟩;obtain ⟨i1,i2⟩:=ni hx h (k+1) (by omega);obtain ⟨j1,_⟩:=ni hx h k (by omega);rw[qZ hx he]at i2;exact Dp (Ff j1 (sZ hx h (k:Int)).pos) i2
theorem Dw {n d N D:Nat} (hd:d≠0) (h:n*D=N*d):(fR n d).2∣D:=by
 have hg:Nat.gcd n d≠0:=λe=>hd (GH e)
 have hco:=jJ (n:=n) hd;obtain ⟨a,ha⟩:=Ho n d;obtain ⟨b,hb⟩:=GO n d;unfold fR at hco ⊢;generalize Nat.gcd n d=g at *
 subst ha hb;simp only at hco ⊢;rw[Gh _ (Fl hg)]at hco ⊢;rw[Gh _ (Fl hg)]at hco;have h2:g*(a*D)=g*(N*b):=by rw[←E4,h,FL]
 have h3:=Nat.eq_of_mul_eq_mul_left (Fl hg) h2;exact (Nat.Coprime.symm hco).dvd_of_dvd_mul_left ⟨N,by rw[h3,E5]⟩
theorem fX {n d:Nat}:(fR n d).2∣d:=Nat.div_dvd_of_dvd (GO n d)
structure Dv (Q:Nat) (p:Nat × Nat):Prop where
 pos:p.2≠0
 dvd:p.2∣Q
theorem Dv.up {Q R:Nat} {p:Nat × Nat} (h:Dv Q p) (hd:Q∣R):Dv R p:=⟨h.pos,Gz h.dvd hd⟩
theorem Dv.add {Q:Nat} {p q:Nat × Nat} (h1:Dv Q p) (h2:Dv Q q):Dv Q (bA p q):=by
 refine ⟨gr h1.pos h2.pos,?_⟩;obtain ⟨a,ha⟩:=h1.dvd;obtain ⟨b,hb⟩:=h2.dvd;refine Dw (N:=p.1*a+q.1*b) (Ff h1.pos h2.pos) ?_;rw[E8,E8];congr 1
 ·rw[ha]; simp only[E4,E5,FL]
 ·rw[hb]; simp only[E4,E5,FL]
theorem Dv.mul {Q R:Nat} {p q:Nat × Nat} (h1:Dv Q p) (h2:Dv R q):Dv (Q*R) (cM p q):=
 ⟨eU h1.pos h2.pos,Gz fX (Nat.mul_dvd_mul h1.dvd h2.dvd)⟩
theorem Dv.sub1 {Q k:Nat} {q:Nat × Nat} (h:Dv Q q):Dv Q (cJ (k,1) q):=
 ⟨iC (Ff (show (1:Nat)≠0 by decide) h.pos),Gz fX (by show 1*q.2∣Q; rw[Fx]; exact h.dvd)⟩
theorem Dv.div1 {Q T:Nat} {p:Nat × Nat} (h:Dv Q p) (hT:T≠0):Dv (Q*T) (eb p (T,1)):=
 ⟨oI h.pos hT,Gz fX (Nat.mul_dvd_mul h.dvd (HQ _))⟩
theorem Dv.int {Q n:Nat}:Dv Q (n,1):=⟨by show (1:Nat)≠0; decide,Nat.one_dvd Q⟩
theorem Dv.bd {Q k:Nat} {p:Nat × Nat} (h:Dv Q p) (hQ:Q≠0) (hk:Q<2^k) (hle:p.1≤p.2):Bd k p:=by
 have:=Nat.le_of_dvd (Fl hQ) h.dvd;exact ⟨h.pos,by omega,by omega⟩
def dD (l:List Cnt):Nat:=(e8 l 1).2*(e8 l 2).2*(e8 l 3).2
theorem nj {l:List Cnt} (hl:CLim l) (k:Nat) (h1:1≤k) (h3:k≤3):Dv (dD l) (e8 l k):=by
 refine ⟨(fW hl k).pos,?_⟩;have hk:k=1∨k=2∨k=3:=by omega
 unfold dD;rcases hk with rfl | rfl | rfl
 ·exact Gz (Hg _ _) (Hg _ _)
 ·exact Gz (Nat.dvd_mul_left _ _) (Hg _ _)
 ·exact Nat.dvd_mul_left _ _
theorem Dx {l:List Cnt} (hl:CLim l):dD l≠0:=Ff (Ff (fW hl 1).pos (fW hl 2).pos) (fW hl 3).pos
theorem Dy {l:List Cnt} (hl:CLim l) (a:Int):Dv (dD l) (atN l a):=by
 unfold atN at4;split
 ·exact .int
 ·split
  ·exact nj hl 1 (by omega) (by omega)
  ·split
   ·exact nj hl 2 (by omega) (by omega)
   ·exact nj hl 3 (by omega) (by omega)
def lvT (Lc:List (List Cnt)) (h:List Int):Nat:=totN (after (lvl Lc h) h)
def mB (Lc:List (List Cnt)) (h:List Int) (q:Nat):Nat:=if lvT Lc h=0 then q else dD (lvl Lc h)*lvT Lc h*q
def QF (Lc:List (List Cnt)) (words:Int):List Int→Nat
 | []=>mB Lc [] (words-1).toNat
 | x::t=>mB Lc (x::t) (QF Lc words t)
theorem zY {Lc:List (List Cnt)} {h:List Int} (hT:lvT Lc h≠0):h.length<Lc.length:=by
 apply Classical.byContradiction;intro hn;apply hT;have:lvl Lc h=[]:=by simp[lvl,EK,E7 (FU hn)]
 unfold lvT;rw[this]; rfl
theorem Dz {Lc:List (List Cnt)} {words:Int} (hx:XOk Lc words) {h:List Int} (hT:lvT Lc h≠0):Dv (dD (lvl Lc h)*lvT Lc h) (fM Lc h):=by
 have hh:=zY hT;have hlv:=f8 hh;have hln:=hx.lim.at' hh;unfold fM;rw[dif_pos hh,←hlv];rw[←hlv]at hln;unfold lvT at hT ⊢;generalize lvl Lc h=l at *
 unfold jr;rw[if_neg (by omega)];have d:=λn k h1 h3=>(Dv.mul (Q:=1) (Dv.int (n:=n)) (nj hln k h1 h3)).up (by rw[Fx]; exact HQ _)
 exact (((d _ 1 (by omega) (by omega)).add (d _ 2 (by omega) (by omega))).add (d _ 3 (by omega) (by omega))).div1 hT
theorem vD {Lc:List (List Cnt)} {words:Int} (hx:XOk Lc words) {w:Int} {h:List Int} {p:Nat × Nat} {q:Nat} (hp:Dv q p):Dv (mB Lc h q) (eu Lc w h p):=by
 have hlm:=qT hx.lim h;unfold mB eu;show Dv (if lvT Lc h=0 then _ else _) (if lvT Lc h=0 then _ else _)
 by_cases hT:lvT Lc h=0
 ·rw[if_pos hT,if_pos hT]; exact hp
 ·rw[if_neg hT,if_neg hT];exact (((Dy hlm _).sub1.div1 hT).up (Hg _ _)).add ((Dz hx hT).mul hp)
theorem CG {Lc:List (List Cnt)} {words:Int} (hx:XOk Lc words) (w:Int):∀ h:List Int,Dv (QF Lc words h) (pF Lc words w h)
 | []=>vD hx (by
   have h3:=hx.w3;have:=Dv.div1 (Dv.int (Q:=1) (n:=1)) (T:=(words-1).toNat) (by omega);rwa [Fx]at this)
 | x::t=>vD hx (CG hx w t)
theorem eW {Lc:List (List Cnt)} {words:Int} (hx:XOk Lc words) (h:List Int) (w:Int):Dv (QF Lc words (e9 Lc h)) (br Lc words h w):=by
 unfold br;split
 ·exact .int
 ·exact CG hx w _
theorem pZ {Lc:List (List Cnt)} {words:Int} (hx:XOk Lc words) {h:List Int} {q:Nat} (hq:q≠0):mB Lc h q≠0:=by
 unfold mB;split
 ·exact hq
 ·rename_i hT;exact Ff (Ff (Dx (qT hx.lim h)) hT) hq
theorem q5 {Lc:List (List Cnt)} {words:Int} (hx:XOk Lc words):∀ h:List Int,QF Lc words h≠0
 | []=>pZ hx (by have:=hx.w3; omega)
 | x::t=>pZ hx (q5 hx t)
structure Few (Lc:List (List Cnt)) (words:Int) (e t b:Nat):Prop where
 d:∀ l,l∈Lc→dD l<2^e
 t:∀ l,l∈Lc→totN l<2^t
 w:(words-1).toNat<2^b
theorem kZ {a b k m:Nat} (h1:a<2^k) (h2:b<2^m):a*b<2^(k+m):=fJ h1 h2
theorem tg {Lc:List (List Cnt)} {words:Int} {e t b:Nat} (hf:Few Lc words e t b) {h:List Int} {q k:Nat} (hq:q<2^k):mB Lc h q<2^(k+(e+t)):=by
 unfold mB;split
 ·exact EW hq (EX (by omega) (by omega))
 ·rename_i hT;have hh:=zY hT;have hm:lvl Lc h∈Lc:=by rw[f8 hh]; exact EY hh
  have ht:lvT Lc h<2^t:=by
   have h1:=dh (cH h) (lvl Lc h);have h2:=hf.t _ hm;have:lvT Lc h≤totN (lvl Lc h):=by unfold lvT totN after; omega
   omega
  rw[G9 k];exact kZ (kZ (hf.d _ hm) ht) hq
theorem CH {Lc:List (List Cnt)} {words:Int} {e t b:Nat} (hf:Few Lc words e t b):∀ h:List Int,QF Lc words h<2^(b+(e+t)*(h.length+1))
 | []=>by
  have:=tg hf (h:=[]) hf.w;rwa [show (e+t)*(([]:List Int).length+1)=e+t by simp]
 | x::l=>by
  have:=tg hf (h:=x::l) (CH hf l);rwa [FN,show (e+t)*(l.length+1)+(e+t)=(e+t)*((x::l).length+1) by rw[Fo,Fe (e+t) (l.length+1) 1,F5]]at this
theorem k5 {a b c:Rat} (hb:0<b):a/b≤c↔a≤c*b:=by rw[←Rat.not_lt,←Rat.not_lt,Rat.lt_div_iff hb]
theorem gZ {a b c:Rat} (hb:0<b):a≤c/b↔a*b≤c:=by rw[←Rat.not_lt,←Rat.not_lt,Hz hb]
theorem d8 (p:Nat × Nat):0≤qv p:=by
 unfold qv;by_cases h:p.2=0
 ·rw[h,show ((0:Nat):Rat)=0 from rfl]; grind
 ·rw[gZ (Gw.2 (Fl h)),Rat.zero_mul];exact Rat.natCast_nonneg
theorem q6 {p:Nat × Nat} (hp:p.2≠0) (h:qv p≤1):p.1≤p.2:=by
 have h1:(0:Rat)<p.2:=Gw.2 (Fl hp);have h2:=(k5 h1).1 h;rw[Rat.one_mul]at h2;exact Gs.1 h2
theorem jc {f:Nat→Rat} (hf:∀ w,0≤f w) {m:Nat}:∀ {n:Nat},m≤n→dk f m≤dk f n
 | 0,h=>by
   have:m=0:=by omega
   subst this; exact HB
 | n+1,h=>by
  by_cases hm:m=n+1
  ·subst hm; exact HB
  ·have:=jc hf (m:=m) (n:=n) (by omega);have h2:=hf n;simp only[dk];grind
theorem jN {f:Nat→Rat} (hf:∀ w,0≤f w) (w:Nat):0≤noB f w:=by
 unfold noB;split
 ·exact HB
 ·exact hf w
theorem BX {Lc:List (List Cnt)} {n:Nat} (hx:XOk Lc n) (he:∀ l,l∈Lc→eV n l) (h:List Int) {w:Nat} (hw:w≤n):(bC Lc n h w).1≤(bC Lc n h w).2:=by
 obtain ⟨i1,i2⟩:=ni hx h w hw;refine q6 i1 ?_;rw[i2,←qZ hx he (e9 Lc h)];exact jc (jN λw=>d8 _) hw
theorem eM {Lc:List (List Cnt)} {n:Int} (hx:XOk Lc n) (h:List Int):∀ w,Dv (QF Lc n (e9 Lc h)) (bC Lc n h w)
 | 0=>.int
 | w+1=>(eM hx h w).add (eW hx h w)
theorem p5 {Lc:List (List Cnt)} {n:Int} (hx:XOk Lc n) (h:List Int):∀ w,Nat.gcd (bC Lc n h w).1 (bC Lc n h w).2=1
 | 0=>G3 1
 | w+1=>jJ (Ff (eM hx h w).pos (eW hx h w).pos)
theorem zZ {Lc:List (List Cnt)} {n:Nat} (hx:XOk Lc n) (he:∀ l,l∈Lc→eV n l) (h:List Int) (w:Int):(br Lc n h w).1≤(br Lc n h w).2:=by
 refine q6 (eW hx h w).pos ?_;by_cases hw:w<0∨n≤w∨w=1
 ·unfold br; rw[if_pos hw,eH]; exact (by decide:(((0:Nat):Rat))≤1)
 ·obtain ⟨v,rfl⟩:∃ v:Nat,w=(v:Int):=⟨w.toNat,by omega⟩;have h1:=jc (f:=noB λw=>qv (pF Lc n w (e9 Lc h))) (jN λw=>d8 _) (m:=v+1) (n:=n) (by omega);have h2:=jc (f:=noB λw=>qv (pF Lc n w (e9 Lc h))) (jN λw=>d8 _) (m:=0) (n:=v) (by omega);rw[qZ hx he]at h1;simp only[dk]at h1 h2;have h3:noB (λw=>qv (pF Lc n w (e9 Lc h))) v=qv (br Lc n h v):=by unfold noB br; rw[if_neg (by omega),if_neg hw]
  rw[h3]at h1;grind
end
section
abbrev Fr2:=Nat × Nat
def q7 (p q:Fr2 × Fr2):Fr2 × Fr2:=(bA p.1 (cM p.2 q.1),cM p.2 q.2)
def cF (Lc:List (List Cnt)) (n:Int) (h:List Int) (w:Int):Fr2 × Fr2:=(bC Lc n h w.toNat,br Lc n h w)
def fc (Lc:List (List Cnt)) (n:Int):Fr2 × Fr2→List Int→List Int→Fr2 × Fr2
 | p,_,[]=>p
 | p,h,w::r=>fc Lc n (q7 p (cF Lc n h w)) (h++[w]) r
theorem oN {Lc:List (List Cnt)} {n:Int} {w:Int}:∀ (r:List Int) (p:Fr2 × Fr2) (h:List Int),fc Lc n p h (r++[w])=q7 (fc Lc n p h r) (cF Lc n (h++r) w)
 | [],p,h=>by simp[fc]
 | v::r,p,h=>by
  show fc Lc n _ (h++[v]) (r++[w])=_
  rw[oN r,Hh]; rfl
def inP (Lc:List (List Cnt)) (n:Int) (h:List Int) (u:Fr2) (w:Nat):Bool:=decide ((bC Lc n h w).1*u.2≤u.1*(bC Lc n h w).2)&&decide (u.1*(bC Lc n h (w+1)).2<(bC Lc n h (w+1)).1*u.2)
def p6 (Lc:List (List Cnt)) (n:Int) (h:List Int) (u:Fr2):Nat→Nat→Int
 | 0,_=>-1
 | f+1,w=>if inP Lc n h u w=true then w else p6 Lc n h u f (w+1)
def js (Lc:List (List Cnt)) (n:Int) (h:List Int) (u:Fr2):Int:=p6 Lc n h u n.toNat 0
theorem uF {p q:Fr2} (hp:p.2≠0) (hq:q.2≠0):p.1*q.2≤q.1*p.2↔qv p≤qv q:=by
 have h1:(0:Rat)<p.2:=Gw.2 (Fl hp);have h2:(0:Rat)<q.2:=Gw.2 (Fl hq);unfold qv;rw[k5 h1,←Gs,FP,FP];rw[show (q.1:Rat)/q.2*p.2=(q.1*p.2)/q.2 by grind,gZ h2]
theorem DA {p q:Fr2} (hp:p.2≠0) (hq:q.2≠0):p.1*q.2<q.1*p.2↔qv p<qv q:=by
 have:=uF hq hp;constructor
 ·intro h;apply Rat.not_le.1;rw[←this]; omega
 ·intro h;apply GR;rw[this]; exact Rat.not_le.2 h
section
variable {Lc:List (List Cnt)} {n:Nat}
theorem gt (hx:XOk Lc n) (h:List Int) (w:Nat):qv (bC Lc n h (w+1))=qv (bC Lc n h w)+qv (br Lc n h w):=iI (eM hx h w).pos (eW hx h w).pos
theorem lU (hx:XOk Lc n) (h:List Int) {v:Nat}:∀ {w:Nat},v≤w→qv (bC Lc n h v)≤qv (bC Lc n h w)
 | 0,hv=>by
   have:v=0:=by omega
   subst this; exact HB
 | w+1,hv=>by
  by_cases e:v=w+1
  ·subst e; exact HB
  ·have h1:=lU hx h (v:=v) (w:=w) (by omega);have h2:=d8 (br Lc n h w);rw[gt hx];grind
theorem th (hx:XOk Lc n) (he:∀ l,l∈Lc→eV n l) (h:List Int):qv (bC Lc n h n)=1:=by
 rw[zX hx he,eH]; rfl
theorem jd (hx:XOk Lc n) {h:List Int} {u:Fr2} (hu:u.2≠0) {w:Nat}:inP Lc n h u w=true↔qv (bC Lc n h w)≤qv u∧qv u<qv (bC Lc n h (w+1)):=by
 unfold inP;rw[EO,decide_eq_true_eq,decide_eq_true_eq,uF (eM hx h w).pos hu,DA hu (eM hx h (w+1)).pos]
theorem p7 {h:List Int} {u:Fr2} {w:Nat} (hw:inP Lc n h u w=true):∀ (f v:Nat),v≤w→w<v+f→(∀ k,v≤k→k<w→inP Lc n h u k=false)→p6 Lc n h u f v=w
 | 0,v,h1,h2,_=>by omega
 | f+1,v,h1,h2,h3=>by
  unfold p6;by_cases e:v=w
  ·subst e; rw[if_pos hw]
  ·rw[if_neg (by rw[h3 v (by omega) (by omega)]; simp)];exact p7 hw f (v+1) (by omega) (by omega) λk h4 h5=>h3 k (by omega) h5
theorem je (hx:XOk Lc n) {h:List Int} {u:Fr2} (hu:u.2≠0) {w:Nat} (hw:w<n) (hi:inP Lc n h u w=true):js Lc n h u=w:=by
 unfold js;refine p7 hi _ 0 (by omega) (by omega) λk _ hk=>?_
 cases hb:inP Lc n h u k with
 | false=>rfl
 | true=>
  exfalso;have h1:=((jd hx hu).1 hb).2;have h2:=((jd hx hu).1 hi).1;have h3:=lU hx h (v:=k+1) (w:=w) (by omega);grind
theorem BY (hx:XOk Lc n) (he:∀ l,l∈Lc→eV n l) (h:List Int) {u:Fr2} (hu:u.2≠0) (h1:qv u<1):∃ w,w<n∧inP Lc n h u w=true∧js Lc n h u=w:=by
 have h0:=d8 u;have key:∀ k,k≤n→qv u<qv (bC Lc n h k)→∃ w,w<k∧inP Lc n h u w=true:=by
  intro k
  induction k with
  | zero=>
   intro _ hlt;have:qv (bC Lc n h 0)=0:=by show qv (0,1)=0; rw[eH]; rfl
   rw[this]at hlt;grind
  | succ k ih=>
   intro hk hlt;by_cases hb:qv (bC Lc n h k)≤qv u
   ·exact ⟨k,by omega,(jd hx hu).2 ⟨hb,hlt⟩⟩
   ·obtain ⟨w,a1,a2⟩:=ih (by omega) (Rat.not_le.1 hb);exact ⟨w,by omega,a2⟩
 obtain ⟨w,a1,a2⟩:=key n (EM _) (by rw[th hx he]; exact h1);exact ⟨w,a1,a2,je hx hu a1 a2⟩
def spA (Lc:List (List Cnt)) (n:Int):List Int→List Int→Rat
 | _,[]=>0
 | h,w::r=>qv (bC Lc n h w.toNat)+qv (br Lc n h w)*spA Lc n (h++[w]) r
def spB (Lc:List (List Cnt)) (n:Int):List Int→List Int→Rat
 | _,[]=>1
 | h,w::r=>qv (br Lc n h w)*spB Lc n (h++[w]) r
theorem tj (hx:XOk Lc n):∀ (r h:List Int) (p:Fr2 × Fr2),p.1.2≠0→p.2.2≠0→(fc Lc n p h r).1.2≠0∧(fc Lc n p h r).2.2≠0∧qv (fc Lc n p h r).1=qv p.1+qv p.2*spA Lc n h r∧qv (fc Lc n p h r).2=qv p.2*spB Lc n h r
 | [],h,p,h1,h2=>⟨h1,h2,by simp only[fc,spA]; grind,by simp only[fc,spB]; grind⟩
 | w::r,h,p,h1,h2=>by
  have d1:=(eM hx h w.toNat).pos;have d2:=(eW hx h w).pos;have m1:=eU h2 d1;obtain ⟨a1,a2,a3,a4⟩:=tj hx r (h++[w]) (q7 p (cF Lc n h w)) (gr h1 m1) (eU h2 d2);refine ⟨a1,a2,?_,?_⟩
  ·show qv (fc Lc n (q7 p (cF Lc n h w)) (h++[w]) r).1=_
   rw[a3];simp only[q7,cF,spA];rw[iI h1 m1,jM h2 d1,jM h2 d2];grind
  ·show qv (fc Lc n (q7 p (cF Lc n h w)) (h++[w]) r).2=_
   rw[a4];simp only[q7,cF,spB];rw[jM h2 d2];grind
def InW (n:Int) (r:List Int):Prop:=∀ w,w∈r→0≤w∧w<n
theorem BZ (hx:XOk Lc n) (he:∀ l,l∈Lc→eV n l) (h:List Int) {w:Int} (h0:0≤w) (h1:w<n):qv (bC Lc n h w.toNat)+qv (br Lc n h w)≤1:=by
 obtain ⟨v,rfl⟩:∃ v:Nat,w=(v:Int):=⟨w.toNat,by omega⟩;have h2:=lU hx h (v:=v+1) (w:=n) (by omega);rw[th hx he,gt hx]at h2;exact h2
theorem vE (hx:XOk Lc n) (he:∀ l,l∈Lc→eV n l):∀ (r h:List Int),InW n r→0≤spA Lc n h r∧0≤spB Lc n h r∧spA Lc n h r+spB Lc n h r≤1
 | [],h,_=>by simp only[spA,spB]; refine ⟨HB,by decide,?_⟩; grind
 | w::r,h,hi=>by
  obtain ⟨i1,i2,i3⟩:=vE hx he r (h++[w]) λv hv=>hi v (Fb _ hv)
  obtain ⟨w1,w2⟩:=hi w (by simp);have a1:=d8 (bC Lc n h w.toNat);have a2:=d8 (br Lc n h w);have a3:=BZ hx he h w1 w2;have b1:=Rat.mul_nonneg a2 i1;have b2:=Rat.mul_nonneg a2 i2;have b3:qv (br Lc n h w)*(spA Lc n (h++[w]) r+spB Lc n (h++[w]) r)≤qv (br Lc n h w)*1:=Rat.mul_le_mul_of_nonneg_left i3 a2;simp only[spA,spB];refine ⟨?_,b2,?_⟩<;>grind
def o5 (Lc:List (List Cnt)) (n:Int):Nat→List Int→Fr2→Option (List Int)
 | 0,_,_=>none
 | f+1,h,u=>if js Lc n h u=2 then some (h.drop 1) else if f=0 then none else
   o5 Lc n f (h++[js Lc n h u]) (eb (cJ u (bC Lc n h (js Lc n h u).toNat)) (br Lc n h (js Lc n h u)))
theorem oO (hx:XOk Lc n) {h:List Int} {u:Fr2} (hu:u.2≠0) {w:Nat} (hi:inP Lc n h u w=true) :
  (br Lc n h w).1≠0∧(eb (cJ u (bC Lc n h w)) (br Lc n h w)).2≠0∧qv (eb (cJ u (bC Lc n h w)) (br Lc n h w))=(qv u-qv (bC Lc n h w))/qv (br Lc n h w)∧0<qv (br Lc n h w)∧qv u<qv (bC Lc n h w)+qv (br Lc n h w):=by
 obtain ⟨h1,h2⟩:=(jd hx hu).1 hi;rw[gt hx]at h2;have hpos:0<qv (br Lc n h w):=by grind
 have hd:=(eW hx h w).pos;have hs:=(eM hx h w).pos;have hn:(br Lc n h w).1≠0:=λe=>by
  unfold qv at hpos;rw[e,show ((0:Nat):Rat)=0 from rfl]at hpos;grind
 have hsub:(cJ u (bC Lc n h w)).2≠0:=iC (Ff hu hs);refine ⟨hn,oI hsub hn,?_,hpos,h2⟩;rw[qX hsub hd hn,zT hu hs ((uF hs hu).2 h1)]
theorem B0 (hx:XOk Lc n) {h:List Int} {u:Fr2} (hu:u.2≠0) {w:Nat} (hi:inP Lc n h u w=true):qv (eb (cJ u (bC Lc n h w)) (br Lc n h w))<1:=by
 obtain ⟨_,_,h3,h4,h5⟩:=oO hx hu hi;rw[h3,Hz h4];grind
theorem tk (hx:XOk Lc n) (he:∀ l,l∈Lc→eV n l):∀ (r h:List Int) (u:Fr2) (f:Nat),u.2≠0→InW n r→2<n→(∀ w,w∈r→w≠2)→spA Lc n h (r++[2])≤qv u→qv u<spA Lc n h (r++[2])+spB Lc n h (r++[2]) →
  o5 Lc n f h u=if r.length<f then some ((h++r).drop 1) else none
 | r,h,u,0,_,_,_,_,_,_=>by rw[if_neg (by omega)]; rfl
 | [],h,u,f+1,hu,_,h2,_,g1,g2=>by
  have e2:(2:Int).toNat=2:=rfl;simp only[Hd,spA,spB,e2]at g1 g2;have hs:=gt hx h 2;have e:((2:Nat):Int)=2:=rfl;rw[e]at hs;have hi:inP Lc n h u 2=true:=by
   refine (jd hx hu).2 ?_;rw[hs];constructor<;>grind
  have hp:=je hx hu h2 hi;rw[e]at hp;unfold o5;rw[hp,if_pos rfl,if_pos (by simp),GB]
 | w::r,h,u,f+1,hu,hw,h2,hn,g1,g2=>by
  obtain ⟨w0,w1⟩:=hw w (by simp);obtain ⟨v,rfl⟩:∃ v:Nat,w=(v:Int):=⟨w.toNat,by omega⟩;have hr:InW n (r++[2]):=λx hx'=>by
   rcases Fu.1 hx' with hx' | hx'
   ·exact hw x (Fb _ hx')
   ·simp at hx'; subst hx'; omega
  obtain ⟨i1,i2,i3⟩:=vE hx he (r++[2]) (h++[(v:Int)]) hr;have a2:=d8 (br Lc n h v);simp only[Gq,spA,spB,Fi]at g1 g2;have b1:=Rat.mul_nonneg a2 i1;have b3:qv (br Lc n h v)*(spA Lc n (h++[(v:Int)]) (r++[2])+spB Lc n (h++[(v:Int)]) (r++[2]))≤qv (br Lc n h v)*1:=Rat.mul_le_mul_of_nonneg_left i3 a2;have hi:inP Lc n h u v=true:=by
   rw[jd hx hu,gt hx];constructor<;>grind
  obtain ⟨l1,l2,l3,l4,l5⟩:=oO hx hu hi;have hp:=je hx hu (by omega) hi;have hne:=hn v (by simp);unfold o5;rw[hp,if_neg hne,Fi];by_cases hf:f=0
  ·subst hf; rw[if_pos rfl,if_neg (by simp)]
  ·rw[if_neg hf,tk hx he r (h++[(v:Int)]) _ f l2 (λx hx'=>hw x (Fb _ hx')) h2 (λx hx'=>hn x (Fb _ hx'))]
   ·simp
   ·rw[l3,gZ l4]; grind
   ·rw[l3,Hz l4]; grind
end
end
end Go.Proofs.YtgceikecdedfcaaGreat.Pv
