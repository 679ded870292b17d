/- Parts of a proof, joined: Fe Fa Fb Fc Ew Eg Ex Ey Ez Ff Fh Fu Fv Ga Gb Ha Hb. -/
import Derived.Test.YtgceikecdedfcaaGreatLsO
namespace Go.Proofs.YtgceikecdedfcaaGreat.Pv
open Go
section
theorem Da {l:List Nat} {i:Int} {n:Nat} (h0:i=n) (h:n<l.length):(bN l)[i.toNat]? = some [.sc (.int .u8 ((l.getD (l.length-1-n) 0:Nat):Int))]:=by
 subst h0;have:l.length-1-n<l.length:=by omega
 simp[bN,h,List.getElem?_reverse,this]
theorem Ev (m:Nat):IntKind.u8.wrap (m:Int)=((m%256:Nat):Int):=by
 simp[IntKind.wrap,IntKind.signed,IntKind.bits]
theorem zK {n i:Nat} (h:i<(dg 256 n).length):i/8<(dg 18446744073709551616 n).length:=by
 have h1:(dg 256 n).length≤8*(dg 18446744073709551616 n).length:=by
  refine bQ (by omega) ?_;rw[GY];exact bj (by omega) n
 omega
theorem wB (n:Nat) (hn:(dg 18446744073709551616 n).length≤1000000) (hb:(dg 256 n).length≤1000000):Ct P 123 [nV n] [.c (.sl 1 (bN (dg 256 n)))]:=by
 have hlb:=zJ n;have hbits:=kx n hn;obtain ⟨L,hL⟩:∃ L,L=(dg 256 n).length:=⟨_,rfl⟩;refine Ct.go aj aa (N:=36) Tryz.func123 rfl rfl rfl rfl ?_;refine X1 _ hbits ?_;refine X1 ((blen n+7:Nat):Int) (wI (by omega) (by omega) (by omega)) ?_;refine .intro (by omega) (X1 (L:Int) ?_ (.intro ⟨by show (-9223372036854775808:Int)≤_; omega,by show _≤(9223372036854775807:Int); omega⟩ ?_))
 ·rw[Fx (by omega)]; omega
 refine ⟨by omega,by omega,by omega,.inl (by decide),?_⟩;refine aw aj aa (λi:Nat=>i≤L) (λi=>[(1,.c (.ad 1 0)),(3,.c (nI .i64 L)),(4,.c (.ow 11 1 L)),(12,.c (nI .i64 L)),(13,.c (nI .i64 i))])
  (λi=>[(1,.var [nSl .u64 (dg 18446744073709551616 n)]),(11,.row 1 (List.replicate (L-i) [.sc (.int .u8 0)]++bN ((dg 256 n).take i)))]) (λi=>L-i)
  0 (by omega) ⟨rfl,rfl,owE (by simp),rfl,rfl,HJ⟩ ⟨rfl,aB (by simp[bN]; exact .inr rfl),HJ⟩ (λ_:Unit=>True) (λ_=>[(4,.c (.ow 11 1 L))]) (λ_=>[(11,.row 1 (bN (dg 256 n)))]) (λi hi=>?_) (λ_ _=>?_)
 ·refine ah (λh1=>?_) (λh1=>?_)
  ·have hi':i<L:=by omega
   have hiw:=zK (n:=n) (i:=i) (by omega);refine X1 ((L-1:Nat):Int) (wI (by omega) (by omega) (by omega)) ?_;refine X1 ((L-1-i:Nat):Int) (wI (by omega) (by omega) (by omega)) ?_;refine .intro (by omega) (X1 ((i/8:Nat):Int) ?_ (.intro ⟨by show (-9223372036854775808:Int)≤_; omega,by show _≤(9223372036854775807:Int); omega⟩ ?_))
   ·rw[Fx (by omega)]; omega
   refine .intro (by omega) (X1 _ (al (n:=i/8) rfl hiw) ?_);refine .intro (by omega) (X1 ((i%8:Nat):Int) ?_ (.intro ⟨by show (-9223372036854775808:Int)≤_; omega,by show _≤(9223372036854775807:Int); omega⟩ ?_))
   ·rw[Gg (by omega)]; omega
   refine X1 ((8*(i%8):Nat):Int) (wI (by omega) (by omega) (by omega)) ?_;refine X1 ((8*(i%8):Nat):Int) (wU (by omega) (by omega) (by omega)) ?_;generalize hwv:(dg 18446744073709551616 n).getD (i/8) 0=wv;have hwlt:wv<18446744073709551616:=by rw[←hwv]; exact (br (B:=18446744073709551616) (by omega) n).getD (by omega) _
   obtain ⟨q,hq⟩:∃ q,q=wv/2^(8*(i%8)):=⟨_,rfl⟩;have hdv:q≤wv:=by rw[hq]; exact FU _ _
   refine .intro (by omega) (X1 (q:Int) (by rw[hq]; exact fH (by omega)) (.intro ⟨by show (0:Int)≤_; omega,by show _≤(18446744073709551615:Int); omega⟩ ?_));refine X1 _ (Ev _) ?_;have hbyte:q%256=(dg 256 n).getD i 0:=by
    rw[hq,qF (by omega),←wy,←hwv,qF (by omega)]
   rw[hbyte];have htake:(dg 256 n).take (i+1)=(dg 256 n).take i++[(dg 256 n).getD i 0]:=by
    rw[EH (by omega)]; simp[EB,show i<(dg 256 n).length by omega]
   have hset:(List.replicate (L-i) [PC.sc (.int .u8 0)]++bN ((dg 256 n).take i)).set (L-1-i) [PC.sc (.int .u8 ((dg 256 n).getD i 0:Int))]=List.replicate (L-(i+1)) [PC.sc (.int .u8 0)]++bN ((dg 256 n).take (i+1)):=by
    rw[htake,show L-i=(L-(i+1))+1 by omega,List.replicate_succ',GF,Ha _ _ (by rw[Ga]; omega),Ga,show L-1-i-(L-(i+1))=0 by omega];simp[bN]
   have hget:(List.replicate (L-i) [PC.sc (.int .u8 0)]++bN ((dg 256 n).take i))[((L-1-i:Nat):Int).toNat]? = some [PC.sc (.int .u8 0)]:=by
    rw[E4,EK (by rw[Ga]; omega),FW,if_pos (by omega)]
   refine .intro (by omega) (.intro (by omega) (X1 [PC.sc (.int .u8 0)] hget ?_));refine X1 ((i+1:Nat):Int) (wI1 (by omega)) ?_;refine ⟨i+1,by omega,by omega,⟨rfl,rfl,rfl,rfl,rfl,HJ⟩,⟨rfl,aB ?_,HJ⟩⟩;rw[←hset];rfl
  ·have e:i=L:=by omega
   subst e;refine ⟨(),HJ,⟨rfl,HJ⟩,⟨aB ?_,HJ⟩⟩;rw[hL,E7,G1]; rfl
 ·exact ⟨HJ,r1 rfl,HJ⟩
theorem vg (n:Nat) (hn:(dg 18446744073709551616 n).length≤100000) (hb:(dg 256 n).length≤1000000):Ct P 79 [nV n,.c (dV n)] [.c (.sc (.bool true))]:=by
 refine Ct.go aj aa (N:=32) Tryz.func79 rfl rfl rfl rfl ?_;refine X1 _ (wB n (by omega) hb) ?_;refine X1 _ (wA n hb) ?_;generalize dg 256 n=l at *
 refine .intro (by rw[iy]; omega) (.intro (by rw[iy]; omega) ?_);refine dq (λh=>absurd rfl h) (λ_=>?_);refine aw aj aa (λi:Nat=>i≤l.length) (λi=>[(5,.c (.sl 1 (bN l))),(6,.c (.sl 1 (bN l))),(7,.c (nI .i64 i))]) (λ_=>[]) (λi=>l.length-i)
  0 (by omega) ⟨rfl,rfl,rfl,HJ⟩ HJ (λ_:Unit=>True) (λ_=>[]) (λ_=>[]) (λi hi=>?_) (λ_ _=>?_)
 ·refine .intro (by rw[iy]; omega) ?_;rw[iy];refine ah (λh1=>?_) (λh1=>?_)
  ·have hg:=Da (l:=l) (i:=(i:Int)) (n:=i) rfl (by omega);refine .intro (by omega) (X1 _ hg ?_);refine .intro (by omega) (X1 _ hg ?_);refine .intro rfl ?_;refine dq (λh=>absurd rfl h) (λ_=>?_);refine X1 ((i+1:Nat):Int) (wI1 (by omega)) ?_;exact ⟨i+1,by omega,by omega,⟨rfl,rfl,rfl,HJ⟩,HJ⟩
  ·exact ⟨(),HJ,HJ,HJ⟩
 ·exact ⟨HJ,r1 rfl,HJ⟩
theorem sL {B n k:Nat} (hB:2≤B) (h:n<2^k):(dg B n).length≤k:=bQ hB (EM h (Nat.pow_le_pow_left hB k))
theorem BH {k:Nat} (n d:Nat) (hn:n<2^k) (hd:dn d<2^k) (hk:k≤100000):Ct P 34 [qV n d,rV n (dn d)] [.c (.sc (.bool true))]:=by
 have hd0:d<2^k:=Gn (show d≤dn d by unfold dn; split<;>omega) hd;refine Ct.go aj aa (N:=17) Tryz.func34 rfl rfl rfl rfl ?_;refine X1 _ (cI n d) ?_;refine X1 _ (vg n (EG (sL (by omega) hn) hk) (EG (sL (by omega) hn) (by omega))) ?_;refine X1 _ (bS n d (EG (sL (by omega) hd0) (by omega))) ?_;refine X1 _ (vg (dn d) (EG (sL (by omega) hd) hk) (EG (sL (by omega) hd) (by omega))) ?_;refine .intro rfl ?_;exact ⟨HJ,r1 rfl,HJ⟩
def lvl (Lc:List (List Cnt)) (h:List Int):List Cnt:=Lc.getD h.length []
def eY (l:List Cnt) (k:Nat):Nat × Nat:=cO (au l 1) (au l 2) (au l 3) (au l 4) k
def atN (l:List Cnt) (a:Int):Nat × Nat:=at4 (eY l 1) (eY l 2) (eY l 3) a
def owF (Lc:List (List Cnt)) (w:Int) (h:List Int):Nat × Nat:=cJ ((bK Lc (h++[w])).toNat,1) (atN (lvl Lc h) (bK Lc (h++[w])))
def eq (Lc:List (List Cnt)) (w:Int) (h:List Int) (p:Nat × Nat):Nat × Nat:=
 if totN (after (lvl Lc h) h)=0 then p else bG (d5 (owF Lc w h) (totN (after (lvl Lc h) h),1)) (cM (fI Lc h) p)
def p0F (words:Int):Nat × Nat:=d5 (1,1) ((words-1).toNat,1)
def pF (Lc:List (List Cnt)) (words w:Int):List Int→Nat × Nat
 | []=>eq Lc w [] (p0F words)
 | x::t=>eq Lc w (x::t) (pF Lc words w t)
def eZ (Lc:List (List Cnt)) (h:List Int):List Int:=if Lc.length≤h.length then h.drop (h.length-Lc.length+1) else h
def bp (Lc:List (List Cnt)) (words:Int) (h:List Int) (w:Int):Nat × Nat:=if w<0∨words≤w∨w=1 then (0,1) else pF Lc words w (eZ Lc h)
theorem iU {Lc:List (List Cnt)} {words:Int} (hx:XOk Lc words) (h:List Int):Bd 2000 (fI Lc h):=by
 unfold fI;split
 ·rename_i hh;have hln:=hx.lim.at' hh;have htn:=hx.tot _ (EO hh);have hal:CLim (after Lc[h.length] h):=hln.filter _;have hat:tot (after Lc[h.length] h)≤4611686018427387904:=Hl (de _ _) htn;have m:=λk=>EG (bJ Lc[h.length] k) hln.len
  have ob:=λk=>qC (m 1) (m 2) (m 3) (m 4) k
  have ht:=mQ hat
  have hT:=qD hal;have hs:=kI (after Lc[h.length] h);unfold ji;split
  ·exact (az (v:=1) (k:=1) (by omega) (by omega)).le (by omega)
  ·have i:=λn (hn:n≤1000000)=>az (v:=n) (k:=63) (by omega) (by omega)
   refine (cw (ep (ep (bc (i _ (by omega)) (ob 1)) (bc (i _ (by omega)) (ob 2))) (bc (i _ (by omega)) (ob 3))) (az (k:=63) (by omega) (by omega)) ?_).le (by omega);show totN _≠0
   omega
 ·exact (az (v:=1) (k:=1) (by omega) (by omega)).le (by omega)
theorem iz {Lc:List (List Cnt)} {words:Int} (hx:XOk Lc words) (g:List Int):0≤bK Lc g∧bK Lc g≤4611686018427387904:=by
 unfold bK;split
 ·omega
 ·rename_i h0;split
  ·omega
  ·rename_i h1;have hn:g.length-1<Lc.length:=by omega
   have hgd:Lc.getD (g.length-1) []=Lc[g.length-1]:=by simp[EB,hn]
   rw[hgd]at h1 ⊢;have hf:=mP g Lc[g.length-1];have hk:(cq g Lc[g.length-1]).toNat<Lc[g.length-1].length:=by omega
   have:=hx.num _ (EO hn) _ (EO hk);simp only[EB,EY hk,F8];exact this
theorem Db {k:Nat} {p1 p2 p3:Nat × Nat} (h1:Bd k p1) (h2:Bd k p2) (h3:Bd k p3) (hk:1≤k) (a:Int):Bd k (at4 p1 p2 p3 a):=by
 unfold at4;split
 ·exact bd01.le hk
 ·split
  ·exact h1
  ·split
   ·exact h2
   ·exact h3
theorem f0 {Lc:List (List Cnt)} {h:List Int} (hh:h.length<Lc.length):lvl Lc h=Lc[h.length]:=by simp[lvl,EB,hh]
theorem fS {l:List Cnt} (hl:CLim l) (k:Nat):Bd 500 (eY l k):=
 qC (EG (bJ l 1) hl.len) (EG (bJ l 2) hl.len) (EG (bJ l 3) hl.len) (EG (bJ l 4) hl.len) k
theorem qG {Lc:List (List Cnt)} (hl:CCLim Lc) (h:List Int):CLim (lvl Lc h):=by
 by_cases hh:h.length<Lc.length
 ·rw[f0 hh]; exact hl.at' hh
 ·have:lvl Lc h=[]:=by simp[lvl,EB,EZ (FK hh)]
  rw[this]; exact ⟨by simp,λx hx=>by simp at hx⟩
theorem lC {l:List Cnt} (hl:CLim l) (a:Int):Bd 500 (atN l a):=Db (fS hl 1) (fS hl 2) (fS hl 3) (by omega) a
theorem dQ {Lc:List (List Cnt)} {words:Int} (hx:XOk Lc words) (w:Int) (h:List Int):Bd 600 (owF Lc w h):=by
 have:=iz hx (h++[w]);exact (mN (az (v:=(bK Lc (h++[w])).toNat) (k:=63) (by omega) (by omega)) (lC (qG hx.lim h) _)).le (by omega)
theorem kJ {Lc:List (List Cnt)} {words:Int} (hx:XOk Lc words) (h:List Int):totN (after (lvl Lc h) h)≤4611686018427387904:=by
 by_cases hh:h.length<Lc.length
 ·rw[f0 hh]; exact mQ (Hl (de _ _) (hx.tot _ (EO hh)))
 ·have:lvl Lc h=[]:=by simp[lvl,EB,EZ (FK hh)]
  rw[this]; exact GB _
theorem oa {Lc:List (List Cnt)} {words:Int} (hx:XOk Lc words) (w:Int) (h:List Int) (h0:totN (after (lvl Lc h) h)≠0):Bd 663 (d5 (owF Lc w h) (totN (after (lvl Lc h) h),1)):=
 cw (dQ hx w h) (az (k:=63) (by have:=kJ hx h; omega) (by omega)) h0
theorem sM {Lc:List (List Cnt)} {words:Int} (hx:XOk Lc words) (w:Int) (h:List Int) {k:Nat} {p:Nat × Nat} (hp:Bd k p):Bd (k+3000) (eq Lc w h p):=by
 unfold eq;split
 ·exact hp.le (by omega)
 ·rename_i h0;exact (ep (oa hx w h h0) (bc (iU hx h) hp)).le (by omega)
theorem qH {Lc:List (List Cnt)} {words:Int} (hx:XOk Lc words):Bd 200 (p0F words):=by
 have h3:=hx.w3;have h6:=hx.w6;exact (cw (az (v:=1) (k:=63) (by omega) (by omega)) (az (v:=(words-1).toNat) (k:=63) (by omega) (by omega)) (by show (words-1).toNat≠0; omega)).le (by omega)
theorem sN {Lc:List (List Cnt)} {words:Int} (hx:XOk Lc words) (w:Int):∀ h:List Int,Bd (200+3000*(h.length+1)) (pF Lc words w h)
 | []=>(sM hx w [] (qH hx)).le (by simp)
 | x::t=>(sM hx w (x::t) (sN hx w t)).le (by simp; omega)
def pN (Lc:List (List Cnt)) (words w:Int) (h:List Int):Nat→Nat × Nat
 | 0=>p0F words
 | n+1=>pF Lc words w (h.drop (h.length-n))
theorem vh {Lc:List (List Cnt)} {words w:Int} {h:List Int} {n:Nat} (hn:n≤h.length):eq Lc w (h.drop (h.length-n)) (pN Lc words w h n)=pN Lc words w h (n+1):=by
 cases n with
 | zero=>rw[Gv]; simp[pN,pF]
 | succ n=>
  have e:h.drop (h.length-(n+1))=h[h.length-(n+1)]::h.drop (h.length-n):=by
   rw[E8 (by omega)];congr 2;omega
  simp only[pN];rw[e,pF]
theorem Cu {Lc:List (List Cnt)} {words:Int} (hx:XOk Lc words) (w:Int) (h:List Int) {n:Nat} (hn:n≤h.length+1):Bd (200+3000*(h.length+2)) (pN Lc words w h n):=by
 cases n with
 | zero=>exact (qH hx).le (by omega)
 | succ n=>exact (sN hx w _).le (by rw[Ff]; omega)
theorem mS {Lc:List (List Cnt)} {words:Int} (hx:XOk Lc words) (h:List Int):(eZ Lc h).length<Lc.length:=by
 have:=hx.len0;unfold eZ;split
 ·rw[Ff]; omega
 ·omega
theorem Dc {k:Nat} {p:Nat × Nat} (n:Nat) (h:Bg k p) (hk:k≤2000000) (h0:n≠0) (hn:n<9223372036854775808):Ct P 158 [qP p,.c (nI .i64 n)] [qP (C1 p (n,1))]:=by
 have hb:Bg 64 (n,1):=⟨by show n<2^64; omega,by show 1<2^64; omega⟩;refine Ct.go aj aa (N:=16) Tryz.func158 rfl rfl rfl rfl ?_;refine X1 ((n:Nat):Int) (wU rfl (by omega) (by omega)) ?_;refine X1 _ (bI n (by omega)) ?_;refine X1 _ (u9 h hb h0 hk (by omega)) ?_;refine .intro rfl ?_;exact ⟨HJ,rc rfl,HJ⟩
end
section
theorem kK {k:Nat} {p:Nat × Nat} (n:Nat) (h:Bd k (nz p)) (hk:k≤400000) (h0:n≠0) (hn:n<9223372036854775808):Ct P 158 [qP p,.c (nI .i64 n)] [qP (d5 (nz p) (n,1))]:=Dc n h.bg (by omega) h0 hn
theorem lD {l:List Cnt} (hl:CLim l) (a:Int):nz (gAt (0,0) (dN (au l 1) (au l 2) (au l 3) (au l 4) 1) (dN (au l 1) (au l 2) (au l 3) (au l 4) 2) (dN (au l 1) (au l 2) (au l 3) (au l 4) 3) a)=atN l a:=by
 have m:=λk=>EG (bJ l k) hl.len
 have rn:=λk h1 h3=>vb (m 1) (m 2) (m 3) (m 4) k h1 h3
 unfold gAt atN at4 eY;split
 ·rfl
 ·split
  ·exact rn 1 (by omega) (by omega)
  ·split
   ·exact rn 2 (by omega) (by omega)
   ·exact rn 3 (by omega) (by omega)
section
variable {Lc:List (List Cnt)} {words:Int}
theorem sP (hx:XOk Lc words) (h:List Int) (w:Int):Bd 30000 (bp Lc words h w):=by
 have h8:=hx.len8;have hclt:=mS hx h;unfold bp;split
 ·exact bd01.le (by omega)
 ·exact (sN hx w _).le (by omega)
end
end
section
section
variable {Lc:List (List Cnt)} {words:Int}
abbrev rM (Lc:List (List Cnt)) (words:Int):A1:=mV Lc words (gj Lc)
theorem wC (h:List Int) (w:Int) (hw:w<0∨words≤w∨w=1):Ct P 74 [rM Lc words,.c (iSl h),.c (eI .i64 w)] [rP (0,1)]:=by
 refine Ct.go aj aa (N:=97) Tryz.func74 rfl rfl rfl rfl ?_;refine ah (λh1=>?_) (λh1=>?_)
 ·refine X1 _ (aI 0 (by omega)) ?_;exact ⟨HJ,rc rfl,HJ⟩
 ·refine ah (λh2=>?_) (λh2=>?_)
  ·refine X1 _ (aI 0 (by omega)) ?_;exact ⟨HJ,rc rfl,HJ⟩
  ·refine aU (λh3=>?_) (λh3=>?_)
   ·refine X1 _ (aI 0 (by omega)) ?_;exact ⟨HJ,rc rfl,HJ⟩
   ·exfalso; omega
set_option maxHeartbeats 4000000 in
theorem pt (hx:XOk Lc words) (w:Int) (hw:¬ (w<0∨words≤w∨w=1)) (h:List Int) (hlt:h.length<Lc.length) {p:Nat × Nat} (hp:Bd 30000 p)
  (hz:h.length=0→p=p0F words) (hnz:h.length≠0→Ct P 74 [rM Lc words,.c (iSl (h.drop 1)),.c (eI .i64 w)] [rP p]) :
  Ct P 74 [rM Lc words,.c (iSl h),.c (eI .i64 w)] [rP (eq Lc w h p)]:=by
 have h8:=hx.len8;have w3:=hx.w3;have w6:=hx.w6;have i1:Bd 63 (1,1):=az (v:=1) (by omega) (by omega);have i2:Bd 63 ((words-1).toNat,1):=az (by omega) (by omega);refine Ct.go aj aa (N:=97) Tryz.func74 rfl rfl rfl rfl ?_;refine ah (λh1=>?_) (λh1=>?_)
 ·exfalso; omega
 refine ah (λh2=>?_) (λh2=>?_)
 ·exfalso; omega
 refine aU (λh3=>?_) (λh3=>?_)
 ·exfalso; omega
 refine .intro (by rw[ac]; omega) ?_;refine .intro (by rw[aq]; omega) ?_;rw[ac,aq];refine ah (λh4=>?_) (λh4=>?_)
 ·exfalso; omega
 refine X1 _ (aI 1 (by omega)) ?_;refine X1 (((words-1).toNat:Nat):Int) (wI (by omega) (by omega) (by omega)) ?_;refine X1 _ (aI (words-1).toNat (by omega)) ?_;refine X1 _ (fi i1 i2 (by show (words-1).toNat≠0; omega) (by omega) (by omega)) ?_;refine .intro rfl ?_;refine .intro (by rw[ac]; omega) ?_;rw[ac];refine ah (λh5=>?_) (λh5=>?_);refine ⟨1,h.length,rfl,by show ((aF h).length:Int)=_; rw[ac],by omega,by rw[ac]; exact EE _,?_⟩;rw[iRow_sub,show (h.drop 1).take (h.length-1)=h.drop 1 from Fj (by rw[Ff]; omega)];refine X1 _ (hnz (by omega)) ?_;refine .intro rfl ?_;rotate_left;have hp0:=hz (by omega);unfold p0F at hp0;rw[←hp0]
 all_goals
  have hln:=hx.lim.at' hlt;have htn:=hx.tot _ (EO hlt);have hlv:lvl Lc h=Lc[h.length]:=f0 hlt;have htl:=kJ hx h;have hat:tot (after Lc[h.length] h)≤4611686018427387904:=Hl (de _ _) htn;refine .intro (by rw[ac]; omega) ?_;rw[ac];refine .intro (by omega) (X1 _ (bH rfl hlt) ?_);have hra:=pd Lc[h.length] h hln (by omega) htn;rw[ul,←hlv]at hra;rw[←hlv];refine X1 _ hra ?_;refine ⟨by decide,by decide,.c (nI .i64 (totN (after (lvl Lc h) h))),rfl,by show (2:Nat)≤6; omega,?_⟩;refine aU (λh6=>?_) (λh6=>?_)
  ·have h7:totN (after (lvl Lc h) h)=0:=by
    have:((totN (after (lvl Lc h) h):Nat):Int)=0:=h6;omega
   unfold eq;rw[if_pos h7];exact ⟨HJ,rc rfl,HJ⟩
  ·have h7:totN (after (lvl Lc h) h)≠0:=λh=>h6 (congrArg Nat.cast h)
   have hnb:=iz hx (h++[w]);have hnum:=sB Lc words (gj Lc) (h++[w]) hx.lim (by simp; omega);have how:=dQ hx w h;have hby:=oa hx w h h7;have hg:=iU hx h;unfold eq;rw[if_neg h7];obtain ⟨aN,haN⟩:∃ aN:Nat,bK Lc (h++[w])=aN:=⟨(bK Lc (h++[w])).toNat,by omega⟩;rw[haN]at hnum hnb;have eow:owF Lc w h=cJ (aN,1) (atN (lvl Lc h) aN):=by unfold owF; rw[haN]; rfl
   rw[eow]at how hby ⊢;have erow:aF (h++[w])=aF h++[[eI .i64 w]]:=by simp[aF]
   rw[show iSl (h++[w]) = .sl 1 (aF h++[[eI .i64 w]]) from congrArg _ erow]at hnum;refine ⟨rfl,by rw[ac]; show (0+h.length+768)*8≤_; omega,by rw[ac]; show 0+h.length≤_; omega,bM,aV,?_⟩;refine ⟨rfl,by rw[EC,ac]; show (0+h.length+1+768)*8≤_; omega,by rw[EC,ac]; show 0+h.length+1≤_; omega,aV,ar rfl,?_⟩;refine X2 .look (X1 _ hnum ?_);refine .intro rfl ?_;refine X1 _ (aI aN (by omega)) ?_;refine .intro (by rw[ac]; omega) ?_;rw[ac];refine .intro (by omega) (X1 _ (pp rfl hlt) ?_);refine X1 _ (Bw _ _ _ _ _) ?_;have ia:Bd 63 (aN,1):=az (by omega) (by omega);have hab:=lC hln (aN:Int);have eow2:cJ (aN,1) (atN Lc[h.length] aN)=cJ (aN,1) (atN (lvl Lc h) aN):=by rw[hlv]
   have hown:=mO (k:=63) (m:=500) ia hab (by omega) (by omega);rw[eow2]at hown;refine X1 _ hown ?_;refine .intro rfl ?_;have it:Bd 63 (totN (after (lvl Lc h) h),1):=az (by omega) (by omega);refine X1 _ (aI (totN (after (lvl Lc h) h)) (by omega)) ?_;refine X1 _ (fi how it h7 (by omega) (by omega)) ?_;refine X1 _ (BF Lc words h hx.lim hx.tot (by omega)) ?_;refine X1 _ (dK hg hp (by omega) (by omega)) ?_;refine X1 _ (kF hby (bc hg hp) (by omega) (by omega)) ?_;refine .intro rfl ?_;exact ⟨HJ,rc rfl,HJ⟩
theorem lG (hx:XOk Lc words) (w:Int) (hw:¬ (w<0∨words≤w∨w=1)):∀ (h:List Int),h.length<Lc.length→Ct P 74 [rM Lc words,.c (iSl h),.c (eI .i64 w)] [rP (pF Lc words w h)]
 | [],hlt=>pt hx w hw [] hlt ((qH hx).le (by omega)) (λ_=>rfl) (λh=>absurd rfl h)
 | x::t,hlt=>pt hx w hw (x::t) hlt ((sN hx w t).le (by have:=hx.len8; simp at hlt; omega)) (λh=>by simp at h) (λ_=>lG hx w hw t (by simp at hlt; omega))
end
end
section
section
variable {Lc:List (List Cnt)} {words:Int}
theorem sQ (hx:XOk Lc words) (h:List Int) (hl:h.length≤1000000) (w:Int):Ct P 74 [rM Lc words,.c (iSl h),.c (eI .i64 w)] [rP (bp Lc words h w)]:=by
 have h8:=hx.len8;have h0:=hx.len0;have hclt:=mS hx h;unfold bp;by_cases hw:w<0∨words≤w∨w=1
 ·rw[if_pos hw]; exact wC h w hw
 rw[if_neg hw];by_cases hc:Lc.length≤h.length
 ·have hrec:=lG hx w hw (eZ Lc h) hclt;have e:eZ Lc h=h.drop (h.length-Lc.length+1):=if_pos hc;rw[e]at hrec ⊢;refine Ct.go aj aa (N:=97) Tryz.func74 rfl rfl rfl rfl ?_;refine ah (λh1=>?_) (λh1=>?_)
  ·exfalso; omega
  refine ah (λh2=>?_) (λh2=>?_)
  ·exfalso; omega
  refine aU (λh3=>?_) (λh3=>?_)
  ·exfalso; omega
  refine .intro (by rw[ac]; omega) ?_;refine .intro (by rw[aq]; omega) ?_;rw[ac,aq];refine ah (λh4=>?_) (λh4=>?_)
  ·refine .intro (by rw[ac]; omega) ?_;refine .intro (by rw[aq]; omega) ?_;rw[ac,aq];refine X1 ((h.length-Lc.length:Nat):Int) (wI (by omega) (by omega) (by omega)) ?_;refine X1 ((h.length-Lc.length+1:Nat):Int) (wI (by omega) (by omega) (by omega)) ?_;refine ⟨h.length-Lc.length+1,h.length,rfl,by show ((aF h).length:Int)=_; rw[ac],by omega,by rw[ac]; exact EE _,?_⟩;rw[iRow_sub,show (h.drop (h.length-Lc.length+1)).take (h.length-(h.length-Lc.length+1))=h.drop (h.length-Lc.length+1) from Fj (by rw[Ff]; omega)];refine X1 _ hrec ?_;refine .intro rfl ?_;exact ⟨HJ,rc rfl,HJ⟩
  ·exfalso; omega
 ·have e:eZ Lc h=h:=if_neg hc;rw[e]at hclt ⊢;exact lG hx w hw h hclt
end
end
section
theorem CtO.args {P:Program} {f:FuncId} {O O':Objs} {args args' res:List A1} (h:CtO P f O args O' res) (hw:∀ K ok w vs,RelAs K ok w args' vs→RelAs K ok w args vs):CtO P f O args' O' res:=
 ⟨λK ok w vs hp hr=>h.run K ok w vs hp (hw K ok w vs hr)⟩
theorem RelAs.set {K:Km} {ok:Nat→Prop} {w:World} {xs:List A1} {vs:List Value} {i:Nat} {x y:A1} (h:RelAs K ok w xs vs) (hx:xs[i]? = some x) (hw:∀ u,RelA K ok w x u→RelA K ok w y u):RelAs K ok w (xs.set i y) vs:=
 ⟨by rw[GC]; exact h.len,λj z hj=>by
  by_cases e:i=j
  ·subst e;rw[List.getElem?_set_self (EF.1 hx).1]at hj;cases hj;obtain ⟨u,h1,h2⟩:=h.get i x hx;exact ⟨u,h1,hw u h2⟩
  ·rw[List.getElem?_set_ne e]at hj;exact h.get j z hj⟩
theorem BI {K:Km} {ok:Nat→Prop} {w:World} {sz:Nat} (u:Value) (h:RelA K ok w (.c (.sc (.slice none 0 0))) u):RelA K ok w (.c (.sl sz [])) u:=by
 cases h with
 | c h=>
  cases h with
  | cl h=>
   cases h with
   | sc _=>exact .c (.cl .sl0)
theorem Dd {K:Km} {ok:Nat→Prop} {w:World} (u:Value) (h:RelA K ok w (.c (.sl 1 [[.sc (.slice none 0 0)]])) u):RelA K ok w (.c (cK [[]])) u:=by
 cases h with
 | c h=>
  cases h with
  | cl h=>
   cases h with
   | sl g h1 h2 h3 h4 h5 h6 h7=>
    refine .c (.cl (.sl g h1 h2 h3 h4 (λj el hj=>?_) (λj i el x hj hi=>?_) (λj i el x hj hi=>?_)))
    ·cases j with
     | zero=>simp[a8]at hj; subst hj; rfl
     | succ j=>simp[a8]at hj
    ·cases j with
     | zero=>
      simp[a8]at hj; subst hj
      cases i with
      | zero=>exact h6 0 0 _ _ rfl rfl
      | succ i=>simp at hi
     | succ j=>simp[a8]at hj
    ·cases j with
     | zero=>
      simp[a8]at hj; subst hj
      cases i with
      | zero=>
       simp at hi; subst hi;have:=h7 0 0 _ _ rfl rfl;generalize g 0 0=v at *
       cases this with
       | sc _=>exact .sl0
      | succ i=>simp at hi
     | succ j=>simp[a8]at hj
theorem De {words:Int} {g:List Int} (hw:words≤65536) (h:gW words g=0):du g=true:=by
 unfold gW at h;split at h
 ·cases h
 ·rename_i hb;unfold du;rw[Fz];intro v hv;rw[ED,decide_eq_true_eq,decide_eq_true_eq];have:¬ mt words v=true:=λhbad=>hb (FV.2 ⟨v,hv,hbad⟩)
  unfold mt at this;simp at this;omega
theorem vi {words:Int}:∀ {l:List Cnt},kwL words l=0→∀ x,x∈l→gW words x.1=0
 | [],_,x,hx=>by simp at hx
 | y::l,h,x,hx=>by
  unfold kwL at h;split at h
  ·rename_i h1; exact absurd h h1
  ·rename_i h1;rcases Fg.1 hx with rfl | hx
   ·omega
   ·exact vi h x hx
theorem sR {words:Int}:∀ {L:List (List Cnt)},iw words L=0→∀ l,l∈L→kwL words l=0
 | [],_,l,hl=>by simp at hl
 | m::L,h,l,hl=>by
  unfold iw at h;split at h
  ·rename_i h1; exact absurd h h1
  ·rename_i h1;rcases Fg.1 hl with rfl | hl
   ·omega
   ·exact sR h l hl
theorem Df {L:List (List Cnt)} {words:Int} (hL:CCSum L) (h:gK L words=0) (hn:∀ l,l∈L→∀ x,x∈l→x.2≤4611686018427387904):XOk (ao L) words:=by
 obtain ⟨hok,w1,w2,hkw⟩:=jB h;refine ⟨jA hL.lim,hL.tot,λl hl=>qB hok hl,by rw[bx]; exact hok.len0,by rw[bx]; exact hok.len8,w1,w2,λl hl x hx=>?_,λl hl x hx=>?_⟩
 ·obtain ⟨n,hlt,rfl⟩:=dP hl;obtain ⟨y,hy,rfl⟩:=Fd.1 hx;rw[qA];exact De w2 (vi (sR hkw _ (EO hlt)) y hy)
 ·obtain ⟨n,hlt,rfl⟩:=dP hl;obtain ⟨y,hy,rfl⟩:=Fd.1 hx;have h1:=(hok.form n hlt y hy).2;have h2:=hn _ (EO hlt) y hy;unfold cL;split
  ·have:ahead (L.getD (n+1) []) y.1≤1000000:=by
    by_cases h3:n+1<L.length
    ·have e:L.getD (n+1) []=L[n+1]:=by simp[EB,h3]
     rw[e];exact EG (FB _ _) (hL.lim.at' h3).len
    ·have e:L.getD (n+1) []=[]:=by simp[EB,EZ (FK h3)]
     rw[e]; simp[ahead]
   show 0≤((ahead _ _:Nat):Int)∧((ahead _ _:Nat):Int)≤_
   omega
  ·show 0≤y.2∧y.2≤_
   omega
theorem oc {M:Int} (hM:0≤M):∀ (l:List Cnt),(∀ x,x∈l→x.2≤M)→tot l≤l.length*M
 | [],_=>by simp[tot]
 | y::l,h=>by
  have ih:=oc hM l λx hx=>h x (E3 _ hx)
  have hy:=h y (by simp);have e:((y::l).length:Int)*M=l.length*M+M:=by
   rw[Fe]; push_cast; rw[Int.add_mul,Int.one_mul]
  rw[e];unfold tot at ih ⊢;by_cases hl:aW y=true
  ·rw[Fo (p:=aW) hl,Fm,GQ]; omega
  ·rw[Fh (p:=aW) hl]; omega
theorem wD (l:List ByteArray) (s:ByteArray):l <+: gP l s:=by
 unfold gP; split
 ·exact List.prefix_refl _
 ·exact List.prefix_append _ _
theorem od:∀ (ws l:List ByteArray),l <+: cU l ws
 | [],l=>List.prefix_refl _
 | w::ws,l=>(wD l w).trans (od ws (gP l w))
theorem pw:∀ (L:List (List ByteArray)) (l:List ByteArray),l <+: eP l L
 | [],l=>List.prefix_refl _
 | ws::L,l=>(od ws l).trans (pw L (cU l ws))
theorem oe (s:ByteArray):∀ (l:List ByteArray) (i:Nat),ca s l=i→∃ y,l[i]? = some y∧(y.toList==s.toList)=true
 | [],i,h=>by simp[ca]at h
 | y::l,i,h=>by
  unfold ca at h;split at h
  ·rename_i hy;have:i=0:=by omega
   subst this;exact ⟨y,rfl,hy⟩
  ·split at h
   ·omega
   ·rename_i h1 h2;obtain ⟨z,h3,h4⟩:=oe s l (i-1) (by omega);refine ⟨z,?_,h4⟩;rw[show i=(i-1)+1 by omega];simpa using h3
theorem BJ {ws:List ByteArray} {w:ByteArray} (hp:marks15 <+: ws) (hm:kf w=false):0≤gU ws w∧gU ws w<ws.length∧gU ws w≠1:=by
 have h3:3≤ws.length:=hp.length_le;have hl:=vY w ws;unfold gU;split
 ·omega
 ·refine ⟨by omega,by omega,λh=>?_⟩;obtain ⟨y,h1,h2⟩:=oe w ws 1 h;obtain ⟨t,rfl⟩:=hp;have:y=⟨#[60,115,62]⟩:=by
   have h5:(marks15++t)[1]? = some (⟨#[60,115,62]⟩:ByteArray):=rfl;rw[h5]at h1;exact (Gk h1).symm
  subst this;unfold kf at hm;rw[Bool.or_eq_false_iff]at hm;have h6:=beq_iff_eq.1 h2;rw[←h6]at hm;have h7:=hm.1;rw[beq_self_eq_true]at h7;cases h7
structure PadOk (words:Int) (p:List Int):Prop where
 rg:∀ v,v∈p→0≤v∧v<words
 tl:∀ v,v∈p.drop 1→v≠1
theorem zL {ws l:List ByteArray} (hp:marks15 <+: ws) (hl:ko l):PadOk ws.length (ez ws l):=by
 have h3:3≤ws.length:=hp.length_le;have key:∀ v,v∈l.map (gU ws)++[2]→0≤v∧v<(ws.length:Int)∧v≠1:=λv hv=>by
  rcases Fl.1 hv with hv | hv
  ·obtain ⟨w,hw,rfl⟩:=Fd.1 hv;exact BJ hp (hl w hw).2
  ·simp at hv; subst hv; omega
 refine ⟨λv hv=>?_,λv hv=>(key v (by simpa [ez] using hv)).2.2⟩;have:v=1∨v∈l.map (gU ws)++[2]:=by simpa [ez] using hv
 rcases this with rfl | h
 ·omega
 ·exact ⟨(key v h).1,(key v h).2.1⟩
theorem qI {p:List Int} {n:Nat}:∀ (i:Nat) (g:List Int),g∈grS p n i→∃ j,n+j≤p.length∧g=(p.drop j).take n
 | 0,g,h=>by simp[grS]at h
 | i+1,g,h=>by
  unfold grS at h;split at h
  ·rename_i hi;rcases Fl.1 h with h | h
   ·exact qI i g h
   ·simp at h; exact ⟨i,hi,h⟩
  ·exact qI i g h
theorem ur {L:List (List Int)} {n:Nat} {g:List Int} (h:g∈be L n):∃ p j,p∈L∧n+j≤p.length∧g=(p.drop j).take n:=by
 unfold be at h;obtain ⟨l,hl,hgl⟩:=List.mem_flatten.1 h;obtain ⟨p,hpm,rfl⟩:=Fd.1 hl;obtain ⟨j,h1,h2⟩:=qI _ _ hgl;exact ⟨p,j,hpm,h1,h2⟩
theorem vj:∀ (l:List Int),(∀ v,v∈l→v≠1)→idx 1 l<0
 | [],_=>by simp[idx]
 | y::l,h=>by
  unfold idx;rw[if_neg (λe=>h y (by simp) e.symm),if_pos (vj l λv hv=>h v (E3 _ hv))];omega
theorem D1 {words:Int} {p:List Int} (hp:PadOk words p) {n j:Nat}:gW words ((p.drop j).take n)=0:=by
 have hsub:∀ v,v∈(p.drop j).take n→v∈p:=λv hv=>GW (F6 hv)
 unfold gW;rw[if_neg,if_neg]
 ·have:=vj (((p.drop j).take n).drop 1) λv hv=>hp.tl v (by
   rw[List.drop_take]at hv;have h1:v∈(p.drop j).drop 1:=F6 hv;have e:(p.drop j).drop 1=(p.drop 1).drop j:=by rw[Gq,Gq,G0]
   rw[e]at h1;exact GW h1)
  omega
 ·rw[FV]
  rintro ⟨v,hv,hb⟩
  have:=hp.rg v (hsub v hv);unfold mt at hb;simp at hb;omega
theorem sT {words:Int}:∀ {l:List Cnt},(∀ x,x∈l→gW words x.1=0)→kwL words l=0
 | [],_=>rfl
 | y::l,h=>by
  unfold kwL;rw[if_neg (by rw[h y (by simp)]; simp)];exact sT λx hx=>h x (E3 _ hx)
theorem py {words:Int}:∀ {L:List (List Cnt)},(∀ l,l∈L→kwL words l=0)→iw words L=0
 | [],_=>rfl
 | y::l,h=>by
  unfold iw;rw[if_neg (by rw[h y (by simp)]; simp)];exact py λx hx=>h x (E3 _ hx)
theorem mh {n:Nat}:∀ {l:List Cnt} {p:Option (List Int)},(∀ x,x∈l→x.1.length=n+1∧1≤x.2)→dX l→(∀ q,p=some q→∀ x,x∈l→aH q x.1<0)→cT n p l=0
 | [],p,_,_,_=>nJ
 | x::l,p,h,hr,hq=>by
  obtain ⟨h1,h2⟩:=Gd.1 hr;obtain ⟨a1,a2⟩:=h x (by simp);rw[im,if_neg (by omega),if_neg (by omega),if_neg]
  ·exact mh (λy hy=>h y (E3 _ hy)) h2 λq hq y hy=>by cases hq; exact h1 y hy
  ·cases p with
   | none=>simp
   | some q=>
    have:=hq q rfl x (by simp);simp; omega
theorem kL:∀ {L:List (List Cnt)} {n:Nat},(∀ (k:Nat) l,L[k]? = some l→cT (n+k) none l=0)→cX n L=0
 | [],_,_=>rfl
 | l::L,n,h=>by
  have h0:cT n none l=0:=h 0 l rfl;rw[cX,if_neg (by rw[h0]; simp)];exact kL λk x hx=>by
   have:=h (k+1) x (by simpa using hx);rwa [show n+(k+1)=n+1+k by omega]at this
abbrev ofL (s:ByteArray) (m:Nat):List (List Cnt):=ck (fy (aK s) s) m
theorem og {s:ByteArray} (hs:s.size≤120):marks15 <+: aK s∧(aK s).length≤14523:=by
 obtain ⟨b1,b2⟩:=kr s;refine ⟨pw _ _,?_⟩;have h1:=lq (n:=120) (fP s) marks15 λws h=>by have:=(b2 ws h).1; omega
 have h3:(fP s).length*120≤121*120:=EL _ (by omega);have h4:marks15.length=3:=rfl;unfold aK;omega
theorem oh {s:ByteArray} (hs:s.size≤120):(fy (aK s) s).length≤121∧∀ p,p∈fy (aK s) s→p.length≤122∧PadOk (aK s).length p:=by
 obtain ⟨b1,b2⟩:=kr s;unfold fy;refine ⟨by rw[Fs]; omega,λp hp=>?_⟩;obtain ⟨l,hl,rfl⟩:=Fd.1 hp;obtain ⟨c1,c2⟩:=b2 l hl;refine ⟨?_,zL (og hs).1 c2⟩;simp[ez];omega
theorem kM {L:List (List Int)} {m k:Nat} {l:List Cnt} (h:(ck L m)[k]? = some l):k<m∧l=gl (be L (k+1)):=by
 unfold ck at h;rw[EP,EI]at h;obtain ⟨j,hj,rfl⟩:=h;obtain ⟨h1,h2⟩:=EF.1 hj;simp at h1 h2;subst h2;exact ⟨h1,rfl⟩
theorem BK {s:ByteArray} (hs:s.size≤120) (n:Nat):(be (fy (aK s) s) n).length≤14762:=by
 obtain ⟨a1,a2⟩:=oh hs;have h1:=gL (n:=n) (k:=122) (fy (aK s) s) λp h=>(a2 p h).1
 have h3:(fy (aK s) s).length*122≤121*122:=EL _ a1;omega
theorem vk {s:ByteArray} (hs:s.size≤120) {m k:Nat} {l:List Cnt} (h:(ofL s m)[k]? = some l):k<m∧l.length≤14762∧dX l∧∀ x,x∈l→x.1.length=k+1∧1≤x.2∧x.2≤14762∧gW (aK s).length x.1=0:=by
 obtain ⟨h1,rfl⟩:=kM h;obtain ⟨g1,g2,g3,g4⟩:=mR _ (be (fy (aK s) s) (k+1)) rfl;have hb:=BK hs (k+1);refine ⟨h1,by omega,g4,λx hx=>?_⟩;obtain ⟨p,j,hp,hj,hg⟩:=ur (g2 x hx);have hn:=g3 x hx;refine ⟨?_,hn.1,by omega,?_⟩
 ·rw[hg,EQ,Ff]; omega
 ·rw[hg]; exact D1 ((oh hs).2 p hp).2
theorem oi {s:ByteArray} (hs:s.size≤120) {m:Nat} {l:List Cnt} (h:l∈ofL s m) (hm:m≤4):l.length≤14762∧dX l∧∀ x,x∈l→x.1.length≤4∧1≤x.2∧x.2≤14762∧gW (aK s).length x.1=0:=by
 obtain ⟨k,hk⟩:=Gy.1 h;obtain ⟨h1,h2,h3,h4⟩:=vk hs hk;exact ⟨h2,h3,λx hx=>by obtain ⟨a1,a2⟩:=h4 x hx; exact ⟨by omega,a2⟩⟩
theorem sU {s:ByteArray} (hs:s.size≤120) {m:Nat} (h1:1≤m) (h4:m≤4):gK (ofL s m) (aK s).length=0:=by
 obtain ⟨l1,l2⟩:=og hs;have l3:3≤(aK s).length:=l1.length_le;have hlen:(ofL s m).length=m:=cn _ _;have hw:fx (ofL s m)=0:=by
  unfold fx;rw[if_neg (by rw[hlen]; omega)];refine kL λk l hk=>?_
  obtain ⟨_,_,r,hx⟩:=vk hs hk;rw[Fu];exact mh (λx hm=>⟨(hx x hm).1,(hx x hm).2.1⟩) r λq hq=>by cases hq
 unfold gK;rw[if_neg (by rw[hw]; simp),if_neg (by omega)];refine py λl hl=>sT λx hx=>?_
 exact ((oi hs hl h4).2.2 x hx).2.2.2
theorem ut {s:ByteArray} (hs:s.size≤120) {m:Nat} (h4:m≤4):CCSum (ofL s m)∧∀ l,l∈ofL s m→∀ x,x∈l→x.2≤4611686018427387904:=by
 have hlen:(ofL s m).length=m:=cn _ _;have hcl:CCLim (ofL s m):=⟨by rw[hlen]; omega,λl hl=>by
  obtain ⟨a1,_,a3⟩:=oi hs hl h4;exact ⟨by omega,λx hx=>by have:=(a3 x hx).1; omega⟩⟩
 refine ⟨⟨hcl,λl hl=>?_⟩,λl hl x hx=>by have:=((oi hs hl h4).2.2 x hx).2.2.1; omega⟩;obtain ⟨n,hn,rfl⟩:=dP hl;obtain ⟨a1,_,a3⟩:=oi hs (EO hn) h4;have:=oc (M:=1000000) (by omega) ((ofL s m)[n].map (cL (ofL s m) n)) λx hx'=>by
  obtain ⟨y,hy,rfl⟩:=Fd.1 hx';have h4:=(a3 y hy).2.2.1;unfold cL;split
  ·have:ahead ((ofL s m).getD (n+1) []) y.1≤1000000:=by
    by_cases h3:n+1<(ofL s m).length
    ·have e:(ofL s m).getD (n+1) []=(ofL s m)[n+1]:=by simp[EB,h3]
     rw[e];exact EG (FB _ _) (hcl.at' h3).len
    ·have e:(ofL s m).getD (n+1) []=[]:=by simp[EB,EZ (FK h3)]
     rw[e]; simp[ahead]
   show ((ahead _ _:Nat):Int)≤_
   omega
  ·omega
 rw[Fs]at this;have h5:((ofL s m)[n].length:Int)*1000000≤14762*1000000:=Int.mul_le_mul_of_nonneg_right (by omega) (by omega);omega
def qv (p:Nat × Nat):Rat:=(p.1:Rat)/(p.2:Rat)
theorem er {n:Nat} (h:n≠0):(n:Rat)≠0:=λe=>h (Rat.natCast_inj.1 (by rw[e]; rfl))
theorem pz {n d:Nat} (h:d≠0):qv (fR n d)=(n:Rat)/(d:Rat):=by
 have hg:Nat.gcd n d≠0:=λe=>h (Gx e)
 obtain ⟨a,ha⟩:=Hf n d;obtain ⟨b,hb⟩:=GE n d;unfold qv fR;generalize Nat.gcd n d=g at *
 subst ha hb;have hb0:b≠0:=λe=>h (by rw[e,FZ])
 simp only;rw[F5 _ (Fb hg),F5 _ (Fb hg),FI,FI];have h1:=er hg;have h2:=er hb0;grind
theorem jC {p q:Nat × Nat} (hp:p.2≠0) (hq:q.2≠0):qv (cM p q)=qv p*qv q:=by
 unfold cM;rw[pz (E6 hp hq),FI,FI];have h1:=er hp;have h2:=er hq;unfold qv;grind
theorem qJ {p q:Nat × Nat} (hp:p.2≠0) (hq:q.2≠0) (hq1:q.1≠0):qv (d5 p q)=qv p/qv q:=by
 unfold d5;rw[pz (E6 hp hq1),FI,FI];have h1:=er hp;have h2:=er hq;have h3:=er hq1;unfold qv;grind
theorem iA {p q:Nat × Nat} (hp:p.2≠0) (hq:q.2≠0):qv (bG p q)=qv p+qv q:=by
 unfold bG;rw[pz (E6 hp hq),FI,Gl,FI,FI];have h1:=er hp;have h2:=er hq;unfold qv;grind
theorem zM {p q:Nat × Nat} (hp:p.2≠0) (hq:q.2≠0) (hle:q.1*p.2≤p.1*q.2):qv (cJ p q)=qv p-qv q:=by
 unfold cJ;obtain ⟨c,hc⟩:=Nat.exists_eq_add_of_le hle;have e:(p.1:Rat)*q.2=q.1*p.2+c:=by rw[←FI,hc,Gl,FI]
 rw[pz (E6 hp hq),hc,Nat.add_sub_cancel_left,FI];have h1:=er hp;have h2:=er hq;unfold qv;grind
theorem eE (n:Nat):qv (n,1)=n:=by
 unfold qv;simp only;rw[show ((1:Nat):Rat)=1 from rfl];grind
theorem Dg {n d:Nat} (hd:d≠0) (h:qv (fR n d)=1):fR n d=(1,1):=by
 rw[pz hd]at h;have h1:=er hd;have e:(n:Rat)=d:=by grind
 have:=Rat.natCast_inj.1 e;subst this;unfold fR;rw[Nat.gcd_self,Hm (Fb hd)]
theorem eS {p q:Nat × Nat} (hp:p.2≠0) (hq:q.2≠0):(cM p q).2≠0:=iu (E6 hp hq)
theorem gm {p q:Nat × Nat} (hp:p.2≠0) (hq:q.2≠0):(bG p q).2≠0:=iu (E6 hp hq)
theorem ol {p q:Nat × Nat} (hp:p.2≠0) (hq:q.1≠0):(d5 p q).2≠0:=iu (E6 hp hq)
def dh (f:Nat→Rat):Nat→Rat
 | 0=>0
 | n+1=>dh f n+f n
def f6 (f:Cnt→Rat):List Cnt→Rat
 | []=>0
 | x::l=>f x+f6 f l
theorem eF {f g:Nat→Rat}:∀ {n:Nat},(∀ w,w<n→f w=g w)→dh f n=dh g n
 | 0,_=>rfl
 | n+1,h=>by rw[dh,dh,eF λw hw=>h w (by omega),h n (by omega)]
theorem om {f g:Nat→Rat}:∀ {n:Nat},dh (λw=>f w+g w) n=dh f n+dh g n
 | 0=>by simp only[dh]; grind
 | n+1=>by simp only[dh]; rw[om]; grind
theorem oq {f:Nat→Rat} {c:Rat}:∀ {n:Nat},dh (λw=>c*f w) n=c*dh f n
 | 0=>by simp only[dh]; grind
 | n+1=>by simp only[dh]; rw[oq]; grind
theorem lH:∀ {n:Nat},dh (λ_=>0) n=0
 | 0=>rfl
 | n+1=>by simp only[dh]; rw[lH]; grind
theorem sV {c:Rat} {v:Nat}:∀ {n:Nat},dh (λw=>if w=v then c else 0) n=if v<n then c else 0
 | 0=>by simp[dh]
 | n+1=>by
  simp only[dh]; rw[sV];by_cases h1:n=v
  ·subst h1; rw[if_neg (by omega),if_pos rfl,if_pos (by omega)]; grind
  ·rw[if_neg h1];by_cases h2:v<n
   ·rw[if_pos h2,if_pos (by omega)]; grind
   ·rw[if_neg h2,if_neg (by omega)]; grind
theorem ot {c:Rat}:∀ {n:Nat},dh (λw=>if (w:Int)=1 then 0 else c) (n+2)=((n+1:Nat):Rat)*c
 | 0=>by
  simp only[dh];rw[if_neg (by decide),if_pos (by decide),show ((0+1:Nat):Rat)=1 from rfl];grind
 | n+1=>by
  rw[dh,ot,if_neg (by omega),Gl (n+1) 1,show ((1:Nat):Rat)=1 from rfl];grind
theorem ou {f g:Cnt→Rat}:∀ {l:List Cnt},(∀ x,x∈l→f x=g x)→f6 f l=f6 g l
 | [],_=>rfl
 | y::l,h=>by rw[f6,f6,ou λx hx=>h x (E3 _ hx),h y (by simp)]
theorem pB:∀ l:List Cnt,f6 (λ_=>0) l=0
 | []=>rfl
 | _::l=>by simp only[f6]; rw[pB l]; grind
theorem D2 (f:Nat→Cnt→Rat):∀ (l:List Cnt) (n:Nat),dh (λw=>f6 (f w) l) n=f6 (λx=>dh (λw=>f w x) n) l
 | [],n=>by simp only[f6]; exact lH
 | y::l,n=>by simp only[f6]; rw[om,D2 f l n]
theorem mi {f:Cnt→Rat} {p:Cnt→Bool}:∀ {l:List Cnt},f6 (λx=>if p x=true then f x else 0) l=f6 f (l.filter p)
 | []=>rfl
 | y::l=>by
  simp only[f6]; rw[mi];by_cases h:p y=true
  ·rw[if_pos h,Fo h,f6]
  ·rw[if_neg h,Fh h]; grind
def nlk (g:List Int) (l:List Cnt):Int:=if cq g l<0 then 0 else (l.getD (cq g l).toNat ([],0)).2
theorem zN {g:List Int} {x:Cnt} {l:List Cnt}:nlk g (x::l)=if x.1=g then x.2 else nlk g l:=by
 unfold nlk;by_cases h:x.1=g
 ·rw[if_pos h,show cq g (x::l)=0 by rw[cq,if_pos h]]; rfl
 ·rw[if_neg h];have:=mP g l;by_cases h2:cq g l<0
  ·rw[show cq g (x::l) = -1 by rw[cq,if_neg h,if_pos h2],if_pos h2]; rfl
  ·rw[show cq g (x::l)=cq g l+1 by rw[cq,if_neg h,if_neg h2],if_neg h2,if_neg (by omega),show (cq g l+1).toNat=(cq g l).toNat+1 by omega];simp
theorem vl {f:Int→Rat} (hf:f 0=0) (g:List Int):∀ {l:List Cnt},dX l→f (nlk g l)=f6 (λx=>if x.1=g then f x.2 else 0) l
 | [],_=>by show f 0=0; exact hf
 | y::l,h=>by
  obtain ⟨h1,h2⟩:=Gd.1 h;rw[zN,f6,←vl hf g h2];by_cases h3:y.1=g
  ·have h4:nlk g l=0:=by
    unfold nlk;rw[if_pos];rw[fl g l λj hj e=>?_]
    ·decide
    ·have:=h1 _ (EO hj);rw[e,h3,dW]at this;omega
   rw[if_pos h3,if_pos h3,h4,hf]; grind
  ·rw[if_neg h3,if_neg h3]; grind
theorem wF {Lc:List (List Cnt)} {h:List Int} {w:Int} (hh:h.length<Lc.length):bK Lc (h++[w])=nlk (h++[w]) (lvl Lc h):=by
 have e:(h++[w]).length-1=h.length:=by simp
 unfold bK nlk lvl;rw[e,if_neg (by simp; omega)]
def eT (words:Int) (l:List Cnt):Prop:=∀ x,x∈l→∀ (h:List Int) (v:Int),x.1=h++[v]→0≤v∧v<words∧(v=1→h=[])
theorem BL {f:Int→Rat} (hf:f 0=0) {l:List Cnt} {words:Nat} (hr:dX l) (h0:∀ x,x∈l→0≤x.2) (he:eT words l) (h:List Int) :
  dh (λw=>if (w:Int)=1 then 0 else f (nlk (h++[(w:Int)]) l)) words=f6 (λx=>if aW x=true then f x.2 else 0) (after l h):=by
 rw[eF (g:=λw=>f6 (λx=>if (w:Int)=1 then 0 else if x.1=h++[(w:Int)] then f x.2 else 0) l) λw _=>?_,D2]
 ·unfold after;rw[←mi];refine ou λx hx=>?_
  by_cases hp:cG h x=true
  ·rw[if_pos hp];unfold cG at hp;rw[ED,decide_eq_true_eq,decide_eq_true_eq]at hp;obtain ⟨v,hv⟩:∃ v,x.1=h++[v]:=by
    refine ⟨x.1[h.length]'(by omega),?_⟩;have e:=GN h.length x.1;rw[hp.2,E8 (by omega),List.drop_of_length_le (by omega)]at e;exact e.symm
   obtain ⟨e1,e2,e3⟩:=he x hx h v hv;obtain ⟨vn,rfl⟩:∃ vn:Nat,v=(vn:Int):=⟨v.toNat,by omega⟩;rw[eF (g:=λw=>if w=vn then (if (vn:Int)=1 then 0 else f x.2) else 0) λw _=>?_,sV,if_pos (by omega)]
   ·by_cases h1:(vn:Int)=1
    ·rw[if_pos h1,if_neg];have:x.1=[1]:=by rw[hv,e3 h1,h1]; rfl
     unfold aW;rw[this]; simp
    ·rw[if_neg h1];have hne:¬ x.1=[1]:=λh2=>by
      rw[hv]at h2;have hl:=congrArg List.length h2;simp at hl;subst hl;simp at h2;omega
     by_cases h2:x.2<1
     ·have:=h0 x hx;rw[show x.2=0 by omega,hf];split<;>rfl
     ·rw[if_pos];unfold aW;rw[decide_eq_false h2,decide_eq_false hne]; rfl
   ·by_cases hw:w=vn
    ·subst hw;rw[if_pos rfl,if_pos hv]
    ·rw[if_neg hw];rw[if_neg (show ¬ x.1=h++[(w:Int)] from λe=>by
      rw[hv]at e;have:=List.append_cancel_left e;simp at this;omega)]
     split<;>rfl
  ·rw[if_neg hp,eF (g:=λ_=>0) λw _=>?_,lH];rw[if_neg (show ¬ x.1=h++[(w:Int)] from λe=>hp (by unfold cG; rw[e]; simp))];split<;>rfl
 ·by_cases hw:(w:Int)=1
  ·simp only[if_pos hw];exact (pB l).symm
  ·simp only[if_neg hw];exact vl hf _ hr
theorem D3 {n d k:Nat} (h:n≤k*d):(fR n d).1≤k*(fR n d).2:=by
 show n/Nat.gcd n d≤k*(d/Nat.gcd n d)
 rw[←Nat.mul_div_assoc k (GE n d)];exact Nat.div_le_div_right h
theorem BN (k:Nat) (p:Nat × Nat):(cJ (k,1) p).1≤k*(cJ (k,1) p).2:=D3 (by simp)
theorem qK (l:List Cnt) (k:Nat) (h1:1≤k) (h3:k≤3):(eY l k).1≤k*(eY l k).2:=by
 have hk:k=1∨k=2∨k=3:=by omega
 unfold eY;rcases hk with rfl | rfl | rfl
 all_goals
  simp only[cO];split
  ·exact BN _ _
  ·exact GB _
theorem Dh (l:List Cnt) {a:Int} (ha:0≤a):(atN l a).1*1≤a.toNat*(atN l a).2:=by
 rw[F2];unfold atN at4;split
 ·exact GB _
 ·split
  ·rename_i h; subst h; exact qK l 1 (by omega) (by omega)
  ·split
   ·rename_i h; subst h; exact qK l 2 (by omega) (by omega)
   ·exact EG (qK l 3 (by omega) (by omega)) (EL _ (by omega))
def kN (l:List Cnt) (a:Int):Rat:=qv (cJ (a.toNat,1) (atN l a))
theorem BO (l:List Cnt):kN l 0=0:=by
 have:cJ ((0:Int).toNat,1) (atN l 0)=(0,1):=by
  unfold atN at4;rw[if_pos (by omega)];rfl
 unfold kN;rw[this,eE];rfl
theorem zO {l:List Cnt} (hl:CLim l) {a:Int} (ha:0≤a):kN l a=(a.toNat:Rat)-qv (atN l a):=by
 unfold kN;rw[zM (by simp) (lC hl a).pos (Dh l ha),eE]
theorem pC {x:Cnt} {l:List Cnt}:totN (x::l)=(if aW x=true then x.2.toNat else 0)+totN l:=by
 have h1:tot (x::l)=tot [x]+tot l:=iP [x] l;have h2:=cF [x];have h3:=cF l;have h4:tot [x]=if aW x=true then x.2 else 0:=by
  unfold tot;by_cases h:aW x=true
  ·rw[if_pos h,Fo h]; simp
  ·rw[if_neg h,Fh h]; simp
 unfold totN;split
 ·rename_i h; rw[if_pos h]at h4; omega
 ·rename_i h; rw[if_neg h]at h4; omega
theorem wG {x:Cnt} {l:List Cnt}:tysN (x::l)=(if aW x=true then 1 else 0)+tysN l:=by
 unfold tysN;by_cases h:aW x=true
 ·rw[if_pos h,Fo h,Fe]; omega
 ·rw[if_neg h,Fh h]; omega
theorem pD {x:Cnt} {l:List Cnt} {k:Int}:au (x::l) k=(if aW x=true∧x.2=k then 1 else 0)+au l k:=by
 unfold au;by_cases h:aW x=true∧x.2=k
 ·rw[if_pos h,Fo (by simp[h]),Fe]; omega
 ·rw[if_neg h,Fh (by simpa using h)]; omega
def zQ (l A:List Cnt):Rat:=(au A 1:Rat)*qv (eY l 1)+(au A 2:Rat)*qv (eY l 2)+((tysN A:Rat)-(au A 1:Rat)-(au A 2:Rat))*qv (eY l 3)
theorem Di {x:Cnt} (h:aW x=true):1≤x.2:=by
 unfold aW at h;rw[ED]at h;have:=h.1;simp at this;omega
theorem sW {l:List Cnt} (hl:CLim l):∀ A:List Cnt,f6 (λx=>if aW x=true then kN l x.2 else 0) A=(totN A:Rat)-zQ l A
 | []=>by
  show (0:Rat)=((0:Nat):Rat)-_
  unfold zQ;rw[show ((au [] 1:Nat):Rat)=0 from rfl,show ((au [] 2:Nat):Rat)=0 from rfl,show ((tysN []:Nat):Rat)=0 from rfl,show ((0:Nat):Rat)=0 from rfl];grind
 | x::A=>by
  have ih:=sW hl A;rw[f6,ih];unfold zQ;rw[pC,wG,pD,pD];by_cases h:aW x=true
  ·have h1:=Di h;rw[if_pos h,if_pos h,if_pos h,zO hl (by omega)];simp only[h,true_and,Gl];rw[show ((1:Nat):Rat)=1 from rfl];have h2:x.2=1∨x.2=2∨3≤x.2:=by omega
   unfold atN at4;rw[if_neg (by omega)];rcases h2 with h2 | h2 | h2
   ·rw[if_pos h2,if_pos h2,if_neg (show ¬ x.2=2 by omega),show ((1:Nat):Rat)=1 from rfl,show ((0:Nat):Rat)=0 from rfl];grind
   ·rw[if_neg (show ¬ x.2=1 by omega),if_pos h2,if_neg (show ¬ x.2=1 by omega),if_pos h2,show ((1:Nat):Rat)=1 from rfl,show ((0:Nat):Rat)=0 from rfl];grind
   ·rw[if_neg (show ¬ x.2=1 by omega),if_neg (show ¬ x.2=2 by omega),if_neg (show ¬ x.2=1 by omega),if_neg (show ¬ x.2=2 by omega),show ((0:Nat):Rat)=0 from rfl];grind
  ·rw[if_neg h,if_neg h,if_neg h,if_neg (λe=>h e.1),if_neg (λe=>h e.1)];simp only[Fu];grind
theorem Dj {Lc:List (List Cnt)} {words:Int} (hx:XOk Lc words) {h:List Int} (hT:totN (after (lvl Lc h) h)≠0):qv (fI Lc h)=zQ (lvl Lc h) (after (lvl Lc h) h)/(totN (after (lvl Lc h) h):Rat):=by
 have hh:h.length<Lc.length:=by
  apply Classical.byContradiction;intro hn;apply hT;have:lvl Lc h=[]:=by simp[lvl,EB,EZ (FK hn)]
  rw[this]; rfl
 have hlv:=f0 hh;have hln:=hx.lim.at' hh;have ob:=λk=>fS hln k
 unfold fI;rw[dif_pos hh,←hlv];rw[←hlv]at ob;generalize lvl Lc h=l at *
 have hs:=kI (after l h);unfold ji;rw[if_neg (by omega)];have i:=λn:Nat=>eE n
 obtain ⟨c,hc⟩:=Nat.exists_eq_add_of_le hs;have p1:=(ob 1).pos;have p2:=(ob 2).pos;have p3:=(ob 3).pos;have one:(1:Nat)≠0:=by decide
 have m1:(cM (au (after l h) 1,1) (eY l 1)).2≠0:=eS one p1;have m2:(cM (au (after l h) 2,1) (eY l 2)).2≠0:=eS one p2;have m3:(cM (tysN (after l h)-au (after l h) 1-au (after l h) 2,1) (eY l 3)).2≠0:=eS one p3;have a1:(bG (cM (au (after l h) 1,1) (eY l 1)) (cM (au (after l h) 2,1) (eY l 2))).2≠0:=gm m1 m2;show qv (d5 (bG (bG (cM (au (after l h) 1,1) (eY l 1)) (cM (au (after l h) 2,1) (eY l 2))) (cM (tysN (after l h)-au (after l h) 1-au (after l h) 2,1) (eY l 3))) (totN (after l h),1))=_
 rw[qJ (gm a1 m3) one hT,iA a1 m3,iA m1 m2,jC one p1,jC one p2,jC one p3,i,i,i,i];unfold zQ;congr 2;rw[hc,show au (after l h) 1+au (after l h) 2+c-au (after l h) 1-au (after l h) 2=c by omega,Gl,Gl];grind
def noB (f:Nat→Rat) (w:Nat):Rat:=if (w:Int)=1 then 0 else f w
theorem sX {Lc:List (List Cnt)} {n:Nat} (hx:XOk Lc n) (he:∀ l,l∈Lc→eT n l) (h:List Int) {p:Nat→Nat × Nat} (hp:∀ w,(p w).2≠0) (hs:dh (noB λw=>qv (p w)) n=1) :
  dh (noB λw=>qv (eq Lc w h (p w))) n=1:=by
 by_cases hT:totN (after (lvl Lc h) h)=0
 ·rw[←hs];refine eF λw _=>?_
  unfold noB eq;simp only[if_pos hT]
 ·have hh:h.length<Lc.length:=by
   apply Classical.byContradiction;intro hn;apply hT;have:lvl Lc h=[]:=by simp[lvl,EB,EZ (FK hn)]
   rw[this]; rfl
  have hm:lvl Lc h∈Lc:=by rw[f0 hh]; exact EO hh
  have hln:=hx.lim.l _ hm;have hsn:=BL (f:=kN (lvl Lc h)) (BO _) (words:=n) (hx.rises _ hm) (λx hxm=>(hx.num _ hm x hxm).1) (he _ hm) h;rw[sW hln]at hsn;have hg:=Dj hx hT;have hgb:=(iU hx h).pos;have hT':=er hT;rw[eF (g:=λw=>(1/(totN (after (lvl Lc h) h):Rat))*(if (w:Int)=1 then 0 else kN (lvl Lc h) (nlk (h++[(w:Int)]) (lvl Lc h)))+qv (fI Lc h)*noB (λw=>qv (p w)) w) λw _=>?_,om,oq,oq,hs,hsn,hg]
  ·grind
  ·unfold noB;by_cases hw:(w:Int)=1
   ·simp only[if_pos hw]; grind
   ·simp only[if_neg hw];unfold eq;have ob:=(dQ hx w h).pos;have one:(1:Nat)≠0:=by decide
    rw[if_neg hT,iA (ol ob hT) (eS hgb (hp w)),qJ ob one hT,jC hgb (hp w),eE];have:qv (owF Lc w h)=kN (lvl Lc h) (nlk (h++[(w:Int)]) (lvl Lc h)):=by
     unfold owF kN;rw[wF hh]
    rw[this];grind
theorem Dk {Lc:List (List Cnt)} {n:Nat} (hx:XOk Lc n):dh (noB λ_=>qv (p0F n)) n=1:=by
 have h3:=hx.w3;obtain ⟨k,rfl⟩:∃ k,n=k+2:=⟨n-2,by omega⟩;have e:qv (p0F ((k+2:Nat):Int))=1/((k+1:Nat):Rat):=by
  unfold p0F;rw[show (((k+2:Nat):Int)-1).toNat=k+1 by omega,qJ (by decide) (show (1:Nat)≠0 by decide) (show k+1≠0 by omega),eE,eE];rfl
 unfold noB;rw[ot,e];have:=er (n:=k+1) (by omega);grind
theorem qL {Lc:List (List Cnt)} {n:Nat} (hx:XOk Lc n) (he:∀ l,l∈Lc→eT n l):∀ h:List Int,dh (noB λw=>qv (pF Lc n w h)) n=1
 | []=>sX hx he [] (λ_=>(qH hx).pos) (Dk hx)
 | x::t=>sX hx he (x::t) (λw=>(sN hx w t).pos) (qL hx he t)
def bz (Lc:List (List Cnt)) (words:Int) (h:List Int):Nat→Nat × Nat
 | 0=>(0,1)
 | w+1=>bG (bz Lc words h w) (bp Lc words h w)
theorem mT {Lc:List (List Cnt)} {n:Nat} (hx:XOk Lc n) (h:List Int):∀ w:Nat,w≤n→(bz Lc n h w).2≠0∧qv (bz Lc n h w)=dh (noB λw=>qv (pF Lc n w (eZ Lc h))) w
 | 0,_=>⟨show (1:Nat)≠0 by decide,by show qv (0,1)=0; rw[eE]; rfl⟩
 | w+1,hw=>by
  obtain ⟨i1,i2⟩:=mT hx h w (by omega);have hp:=(sP hx h (w:Int)).pos;refine ⟨iu (E6 i1 hp),?_⟩;show qv (bG _ _)=dh _ w+_
  rw[iA i1 hp,i2];congr 1;unfold bp noB;by_cases h1:(w:Int)=1
  ·rw[if_pos (.inr (.inr h1)),if_pos h1,eE]; rfl
  ·rw[if_neg (by omega),if_neg h1]
theorem zR {Lc:List (List Cnt)} {n:Nat} (hx:XOk Lc n) (he:∀ l,l∈Lc→eT n l) (h:List Int):bz Lc n h n=(1,1):=by
 have h3:=hx.w3;obtain ⟨k,rfl⟩:∃ k,n=k+1:=⟨n-1,by omega⟩;obtain ⟨i1,i2⟩:=mT hx h (k+1) (by omega);obtain ⟨j1,_⟩:=mT hx h k (by omega);rw[qL hx he]at i2;exact Dg (E6 j1 (sP hx h (k:Int)).pos) i2
theorem Dl {n d N D:Nat} (hd:d≠0) (h:n*D=N*d):(fR n d).2∣D:=by
 have hg:Nat.gcd n d≠0:=λe=>hd (Gx e)
 have hco:=jy (n:=n) hd;obtain ⟨a,ha⟩:=Hf n d;obtain ⟨b,hb⟩:=GE n d;unfold fR at hco ⊢;generalize Nat.gcd n d=g at *
 subst ha hb;simp only at hco ⊢;rw[F5 _ (Fb hg)]at hco ⊢;rw[F5 _ (Fb hg)]at hco;have h2:g*(a*D)=g*(N*b):=by rw[←ES,h,FC]
 have h3:=Nat.eq_of_mul_eq_mul_left (Fb hg) h2;exact (Nat.Coprime.symm hco).dvd_of_dvd_mul_left ⟨N,by rw[h3,EV]⟩
theorem fT {n d:Nat}:(fR n d).2∣d:=Nat.div_dvd_of_dvd (GE n d)
structure Dv (Q:Nat) (p:Nat × Nat):Prop where
 pos:p.2≠0
 dvd:p.2∣Q
theorem Dv.up {Q R:Nat} {p:Nat × Nat} (h:Dv Q p) (hd:Q∣R):Dv R p:=⟨h.pos,Gp h.dvd hd⟩
theorem Dv.add {Q:Nat} {p q:Nat × Nat} (h1:Dv Q p) (h2:Dv Q q):Dv Q (bG p q):=by
 refine ⟨gm h1.pos h2.pos,?_⟩;obtain ⟨a,ha⟩:=h1.dvd;obtain ⟨b,hb⟩:=h2.dvd;refine Dl (N:=p.1*a+q.1*b) (E6 h1.pos h2.pos) ?_;rw[EU,EU];congr 1
 ·rw[ha]; simp only[ES,EV,FC]
 ·rw[hb]; simp only[ES,EV,FC]
theorem Dv.mul {Q R:Nat} {p q:Nat × Nat} (h1:Dv Q p) (h2:Dv R q):Dv (Q*R) (cM p q):=
 ⟨eS h1.pos h2.pos,Gp fT (Nat.mul_dvd_mul h1.dvd h2.dvd)⟩
theorem Dv.sub1 {Q k:Nat} {q:Nat × Nat} (h:Dv Q q):Dv Q (cJ (k,1) q):=
 ⟨iu (E6 (show (1:Nat)≠0 by decide) h.pos),Gp fT (by show 1*q.2∣Q; rw[Fn]; exact h.dvd)⟩
theorem Dv.div1 {Q T:Nat} {p:Nat × Nat} (h:Dv Q p) (hT:T≠0):Dv (Q*T) (d5 p (T,1)):=
 ⟨ol h.pos hT,Gp fT (Nat.mul_dvd_mul h.dvd (HG _))⟩
theorem Dv.int {Q n:Nat}:Dv Q (n,1):=⟨by show (1:Nat)≠0; decide,Nat.one_dvd Q⟩
theorem Dv.bd {Q k:Nat} {p:Nat × Nat} (h:Dv Q p) (hQ:Q≠0) (hk:Q<2^k) (hle:p.1≤p.2):Bd k p:=by
 have:=Nat.le_of_dvd (Fb hQ) h.dvd;exact ⟨h.pos,by omega,by omega⟩
def dD (l:List Cnt):Nat:=(eY l 1).2*(eY l 2).2*(eY l 3).2
theorem mU {l:List Cnt} (hl:CLim l) (k:Nat) (h1:1≤k) (h3:k≤3):Dv (dD l) (eY l k):=by
 refine ⟨(fS hl k).pos,?_⟩;have hk:k=1∨k=2∨k=3:=by omega
 unfold dD;rcases hk with rfl | rfl | rfl
 ·exact Gp (GU _ _) (GU _ _)
 ·exact Gp (Nat.dvd_mul_left _ _) (GU _ _)
 ·exact Nat.dvd_mul_left _ _
theorem Dm {l:List Cnt} (hl:CLim l):dD l≠0:=E6 (E6 (fS hl 1).pos (fS hl 2).pos) (fS hl 3).pos
theorem Dn {l:List Cnt} (hl:CLim l) (a:Int):Dv (dD l) (atN l a):=by
 unfold atN at4;split
 ·exact .int
 ·split
  ·exact mU hl 1 (by omega) (by omega)
  ·split
   ·exact mU hl 2 (by omega) (by omega)
   ·exact mU hl 3 (by omega) (by omega)
def lvT (Lc:List (List Cnt)) (h:List Int):Nat:=totN (after (lvl Lc h) h)
def mj (Lc:List (List Cnt)) (h:List Int) (q:Nat):Nat:=if lvT Lc h=0 then q else dD (lvl Lc h)*lvT Lc h*q
def QF (Lc:List (List Cnt)) (words:Int):List Int→Nat
 | []=>mj Lc [] (words-1).toNat
 | x::t=>mj Lc (x::t) (QF Lc words t)
theorem zS {Lc:List (List Cnt)} {h:List Int} (hT:lvT Lc h≠0):h.length<Lc.length:=by
 apply Classical.byContradiction;intro hn;apply hT;have:lvl Lc h=[]:=by simp[lvl,EB,EZ (FK hn)]
 unfold lvT;rw[this]; rfl
theorem Do {Lc:List (List Cnt)} {words:Int} (hx:XOk Lc words) {h:List Int} (hT:lvT Lc h≠0):Dv (dD (lvl Lc h)*lvT Lc h) (fI Lc h):=by
 have hh:=zS hT;have hlv:=f0 hh;have hln:=hx.lim.at' hh;unfold fI;rw[dif_pos hh,←hlv];rw[←hlv]at hln;unfold lvT at hT ⊢;generalize lvl Lc h=l at *
 unfold ji;rw[if_neg (by omega)];have d:=λn k h1 h3=>(Dv.mul (Q:=1) (Dv.int (n:=n)) (mU hln k h1 h3)).up (by rw[Fn]; exact HG _)
 exact (((d _ 1 (by omega) (by omega)).add (d _ 2 (by omega) (by omega))).add (d _ 3 (by omega) (by omega))).div1 hT
theorem vm {Lc:List (List Cnt)} {words:Int} (hx:XOk Lc words) {w:Int} {h:List Int} {p:Nat × Nat} {q:Nat} (hp:Dv q p):Dv (mj Lc h q) (eq Lc w h p):=by
 have hlm:=qG hx.lim h;unfold mj eq;show Dv (if lvT Lc h=0 then _ else _) (if lvT Lc h=0 then _ else _)
 by_cases hT:lvT Lc h=0
 ·rw[if_pos hT,if_pos hT]; exact hp
 ·rw[if_neg hT,if_neg hT];exact (((Dn hlm _).sub1.div1 hT).up (GU _ _)).add ((Do hx hT).mul hp)
theorem Cv {Lc:List (List Cnt)} {words:Int} (hx:XOk Lc words) (w:Int):∀ h:List Int,Dv (QF Lc words h) (pF Lc words w h)
 | []=>vm hx (by
   have h3:=hx.w3;have:=Dv.div1 (Dv.int (Q:=1) (n:=1)) (T:=(words-1).toNat) (by omega);rwa [Fn]at this)
 | x::t=>vm hx (Cv hx w t)
theorem eU {Lc:List (List Cnt)} {words:Int} (hx:XOk Lc words) (h:List Int) (w:Int):Dv (QF Lc words (eZ Lc h)) (bp Lc words h w):=by
 unfold bp;split
 ·exact .int
 ·exact Cv hx w _
theorem pG {Lc:List (List Cnt)} {words:Int} (hx:XOk Lc words) {h:List Int} {q:Nat} (hq:q≠0):mj Lc h q≠0:=by
 unfold mj;split
 ·exact hq
 ·rename_i hT;exact E6 (E6 (Dm (qG hx.lim h)) hT) hq
theorem qM {Lc:List (List Cnt)} {words:Int} (hx:XOk Lc words):∀ h:List Int,QF Lc words h≠0
 | []=>pG hx (by have:=hx.w3; omega)
 | x::t=>pG hx (qM hx t)
structure Few (Lc:List (List Cnt)) (words:Int) (e t b:Nat):Prop where
 d:∀ l,l∈Lc→dD l<2^e
 t:∀ l,l∈Lc→totN l<2^t
 w:(words-1).toNat<2^b
theorem kO {a b k m:Nat} (h1:a<2^k) (h2:b<2^m):a*b<2^(k+m):=fZ h1 h2
theorem sY {Lc:List (List Cnt)} {words:Int} {e t b:Nat} (hf:Few Lc words e t b) {h:List Int} {q k:Nat} (hq:q<2^k):mj Lc h q<2^(k+(e+t)):=by
 unfold mj;split
 ·exact EM hq (ER (by omega) (by omega))
 ·rename_i hT;have hh:=zS hT;have hm:lvl Lc h∈Lc:=by rw[f0 hh]; exact EO hh
  have ht:lvT Lc h<2^t:=by
   have h1:=de (cG h) (lvl Lc h);have h2:=hf.t _ hm;have:lvT Lc h≤totN (lvl Lc h):=by unfold lvT totN after; omega
   omega
  rw[G0 k];exact kO (kO (hf.d _ hm) ht) hq
theorem Cw {Lc:List (List Cnt)} {words:Int} {e t b:Nat} (hf:Few Lc words e t b):∀ h:List Int,QF Lc words h<2^(b+(e+t)*(h.length+1))
 | []=>by
  have:=sY hf (h:=[]) hf.w;rwa [show (e+t)*(([]:List Int).length+1)=e+t by simp]
 | x::l=>by
  have:=sY hf (h:=x::l) (Cw hf l);rwa [FG,show (e+t)*(l.length+1)+(e+t)=(e+t)*((x::l).length+1) by rw[Fe,E5 (e+t) (l.length+1) 1,F2]]at this
theorem kP {a b c:Rat} (hb:0<b):a/b≤c↔a≤c*b:=by rw[←Rat.not_lt,←Rat.not_lt,Rat.lt_div_iff hb]
theorem gM {a b c:Rat} (hb:0<b):a≤c/b↔a*b≤c:=by rw[←Rat.not_lt,←Rat.not_lt,Ho hb]
theorem dY (p:Nat × Nat):0≤qv p:=by
 unfold qv;by_cases h:p.2=0
 ·rw[h,show ((0:Nat):Rat)=0 from rfl]; grind
 ·rw[gM (Gm.2 (Fb h)),Rat.zero_mul];exact Rat.natCast_nonneg
theorem qN {p:Nat × Nat} (hp:p.2≠0) (h:qv p≤1):p.1≤p.2:=by
 have h1:(0:Rat)<p.2:=Gm.2 (Fb hp);have h2:=(kP h1).1 h;rw[Rat.one_mul]at h2;exact Gi.1 h2
theorem iV {f:Nat→Rat} (hf:∀ w,0≤f w) {m:Nat}:∀ {n:Nat},m≤n→dh f m≤dh f n
 | 0,h=>by
   have:m=0:=by omega
   subst this; exact Hr
 | n+1,h=>by
  by_cases hm:m=n+1
  ·subst hm; exact Hr
  ·have:=iV hf (m:=m) (n:=n) (by omega);have h2:=hf n;simp only[dh];grind
theorem jD {f:Nat→Rat} (hf:∀ w,0≤f w) (w:Nat):0≤noB f w:=by
 unfold noB;split
 ·exact Hr
 ·exact hf w
theorem BP {Lc:List (List Cnt)} {n:Nat} (hx:XOk Lc n) (he:∀ l,l∈Lc→eT n l) (h:List Int) {w:Nat} (hw:w≤n):(bz Lc n h w).1≤(bz Lc n h w).2:=by
 obtain ⟨i1,i2⟩:=mT hx h w hw;refine qN i1 ?_;rw[i2,←qL hx he (eZ Lc h)];exact iV (jD λw=>dY _) hw
theorem eK {Lc:List (List Cnt)} {n:Int} (hx:XOk Lc n) (h:List Int):∀ w,Dv (QF Lc n (eZ Lc h)) (bz Lc n h w)
 | 0=>.int
 | w+1=>(eK hx h w).add (eU hx h w)
theorem pH {Lc:List (List Cnt)} {n:Int} (hx:XOk Lc n) (h:List Int):∀ w,Nat.gcd (bz Lc n h w).1 (bz Lc n h w).2=1
 | 0=>GT 1
 | w+1=>jy (E6 (eK hx h w).pos (eU hx h w).pos)
theorem zT {Lc:List (List Cnt)} {n:Nat} (hx:XOk Lc n) (he:∀ l,l∈Lc→eT n l) (h:List Int) (w:Int):(bp Lc n h w).1≤(bp Lc n h w).2:=by
 refine qN (eU hx h w).pos ?_;by_cases hw:w<0∨n≤w∨w=1
 ·unfold bp; rw[if_pos hw,eE]; exact (by decide:(((0:Nat):Rat))≤1)
 ·obtain ⟨v,rfl⟩:∃ v:Nat,w=(v:Int):=⟨w.toNat,by omega⟩;have h1:=iV (f:=noB λw=>qv (pF Lc n w (eZ Lc h))) (jD λw=>dY _) (m:=v+1) (n:=n) (by omega);have h2:=iV (f:=noB λw=>qv (pF Lc n w (eZ Lc h))) (jD λw=>dY _) (m:=0) (n:=v) (by omega);rw[qL hx he]at h1;simp only[dh]at h1 h2;have h3:noB (λw=>qv (pF Lc n w (eZ Lc h))) v=qv (bp Lc n h v):=by unfold noB bp; rw[if_neg (by omega),if_neg hw]
  rw[h3]at h1;grind
end
section
abbrev Fr2:=Nat × Nat
def qO (p q:Fr2 × Fr2):Fr2 × Fr2:=(bG p.1 (cM p.2 q.1),cM p.2 q.2)
def cB (Lc:List (List Cnt)) (n:Int) (h:List Int) (w:Int):Fr2 × Fr2:=(bz Lc n h w.toNat,bp Lc n h w)
def fa (Lc:List (List Cnt)) (n:Int):Fr2 × Fr2→List Int→List Int→Fr2 × Fr2
 | p,_,[]=>p
 | p,h,w::r=>fa Lc n (qO p (cB Lc n h w)) (h++[w]) r
theorem ov {Lc:List (List Cnt)} {n:Int} {w:Int}:∀ (r:List Int) (p:Fr2 × Fr2) (h:List Int),fa Lc n p h (r++[w])=qO (fa Lc n p h r) (cB Lc n (h++r) w)
 | [],p,h=>by simp[fa]
 | v::r,p,h=>by
  show fa Lc n _ (h++[v]) (r++[w])=_
  rw[ov r,GF]; rfl
def inP (Lc:List (List Cnt)) (n:Int) (h:List Int) (u:Fr2) (w:Nat):Bool:=decide ((bz Lc n h w).1*u.2≤u.1*(bz Lc n h w).2)&&decide (u.1*(bz Lc n h (w+1)).2<(bz Lc n h (w+1)).1*u.2)
def pI (Lc:List (List Cnt)) (n:Int) (h:List Int) (u:Fr2):Nat→Nat→Int
 | 0,_=>-1
 | f+1,w=>if inP Lc n h u w=true then w else pI Lc n h u f (w+1)
def jj (Lc:List (List Cnt)) (n:Int) (h:List Int) (u:Fr2):Int:=pI Lc n h u n.toNat 0
theorem uu {p q:Fr2} (hp:p.2≠0) (hq:q.2≠0):p.1*q.2≤q.1*p.2↔qv p≤qv q:=by
 have h1:(0:Rat)<p.2:=Gm.2 (Fb hp);have h2:(0:Rat)<q.2:=Gm.2 (Fb hq);unfold qv;rw[kP h1,←Gi,FI,FI];rw[show (q.1:Rat)/q.2*p.2=(q.1*p.2)/q.2 by grind,gM h2]
theorem Dp {p q:Fr2} (hp:p.2≠0) (hq:q.2≠0):p.1*q.2<q.1*p.2↔qv p<qv q:=by
 have:=uu hq hp;constructor
 ·intro h;apply Rat.not_le.1;rw[←this]; omega
 ·intro h;apply GI;rw[this]; exact Rat.not_le.2 h
section
variable {Lc:List (List Cnt)} {n:Nat}
theorem gn (hx:XOk Lc n) (h:List Int) (w:Nat):qv (bz Lc n h (w+1))=qv (bz Lc n h w)+qv (bp Lc n h w):=iA (eK hx h w).pos (eU hx h w).pos
theorem lI (hx:XOk Lc n) (h:List Int) {v:Nat}:∀ {w:Nat},v≤w→qv (bz Lc n h v)≤qv (bz Lc n h w)
 | 0,hv=>by
   have:v=0:=by omega
   subst this; exact Hr
 | w+1,hv=>by
  by_cases e:v=w+1
  ·subst e; exact Hr
  ·have h1:=lI hx h (v:=v) (w:=w) (by omega);have h2:=dY (bp Lc n h w);rw[gn hx];grind
theorem sZ (hx:XOk Lc n) (he:∀ l,l∈Lc→eT n l) (h:List Int):qv (bz Lc n h n)=1:=by
 rw[zR hx he,eE]; rfl
theorem iW (hx:XOk Lc n) {h:List Int} {u:Fr2} (hu:u.2≠0) {w:Nat}:inP Lc n h u w=true↔qv (bz Lc n h w)≤qv u∧qv u<qv (bz Lc n h (w+1)):=by
 unfold inP;rw[ED,decide_eq_true_eq,decide_eq_true_eq,uu (eK hx h w).pos hu,Dp hu (eK hx h (w+1)).pos]
theorem pJ {h:List Int} {u:Fr2} {w:Nat} (hw:inP Lc n h u w=true):∀ (f v:Nat),v≤w→w<v+f→(∀ k,v≤k→k<w→inP Lc n h u k=false)→pI Lc n h u f v=w
 | 0,v,h1,h2,_=>by omega
 | f+1,v,h1,h2,h3=>by
  unfold pI;by_cases e:v=w
  ·subst e; rw[if_pos hw]
  ·rw[if_neg (by rw[h3 v (by omega) (by omega)]; simp)];exact pJ hw f (v+1) (by omega) (by omega) λk h4 h5=>h3 k (by omega) h5
theorem iX (hx:XOk Lc n) {h:List Int} {u:Fr2} (hu:u.2≠0) {w:Nat} (hw:w<n) (hi:inP Lc n h u w=true):jj Lc n h u=w:=by
 unfold jj;refine pJ hi _ 0 (by omega) (by omega) λk _ hk=>?_
 cases hb:inP Lc n h u k with
 | false=>rfl
 | true=>
  exfalso;have h1:=((iW hx hu).1 hb).2;have h2:=((iW hx hu).1 hi).1;have h3:=lI hx h (v:=k+1) (w:=w) (by omega);grind
theorem BQ (hx:XOk Lc n) (he:∀ l,l∈Lc→eT n l) (h:List Int) {u:Fr2} (hu:u.2≠0) (h1:qv u<1):∃ w,w<n∧inP Lc n h u w=true∧jj Lc n h u=w:=by
 have h0:=dY u;have key:∀ k,k≤n→qv u<qv (bz Lc n h k)→∃ w,w<k∧inP Lc n h u w=true:=by
  intro k
  induction k with
  | zero=>
   intro _ hlt;have:qv (bz Lc n h 0)=0:=by show qv (0,1)=0; rw[eE]; rfl
   rw[this]at hlt;grind
  | succ k ih=>
   intro hk hlt;by_cases hb:qv (bz Lc n h k)≤qv u
   ·exact ⟨k,by omega,(iW hx hu).2 ⟨hb,hlt⟩⟩
   ·obtain ⟨w,a1,a2⟩:=ih (by omega) (Rat.not_le.1 hb);exact ⟨w,by omega,a2⟩
 obtain ⟨w,a1,a2⟩:=key n (EE _) (by rw[sZ hx he]; exact h1);exact ⟨w,a1,a2,iX hx hu a1 a2⟩
def spA (Lc:List (List Cnt)) (n:Int):List Int→List Int→Rat
 | _,[]=>0
 | h,w::r=>qv (bz Lc n h w.toNat)+qv (bp Lc n h w)*spA Lc n (h++[w]) r
def spB (Lc:List (List Cnt)) (n:Int):List Int→List Int→Rat
 | _,[]=>1
 | h,w::r=>qv (bp Lc n h w)*spB Lc n (h++[w]) r
theorem s8 (hx:XOk Lc n):∀ (r h:List Int) (p:Fr2 × Fr2),p.1.2≠0→p.2.2≠0→(fa Lc n p h r).1.2≠0∧(fa Lc n p h r).2.2≠0∧qv (fa Lc n p h r).1=qv p.1+qv p.2*spA Lc n h r∧qv (fa Lc n p h r).2=qv p.2*spB Lc n h r
 | [],h,p,h1,h2=>⟨h1,h2,by simp only[fa,spA]; grind,by simp only[fa,spB]; grind⟩
 | w::r,h,p,h1,h2=>by
  have d1:=(eK hx h w.toNat).pos;have d2:=(eU hx h w).pos;have m1:=eS h2 d1;obtain ⟨a1,a2,a3,a4⟩:=s8 hx r (h++[w]) (qO p (cB Lc n h w)) (gm h1 m1) (eS h2 d2);refine ⟨a1,a2,?_,?_⟩
  ·show qv (fa Lc n (qO p (cB Lc n h w)) (h++[w]) r).1=_
   rw[a3];simp only[qO,cB,spA];rw[iA h1 m1,jC h2 d1,jC h2 d2];grind
  ·show qv (fa Lc n (qO p (cB Lc n h w)) (h++[w]) r).2=_
   rw[a4];simp only[qO,cB,spB];rw[jC h2 d2];grind
def InW (n:Int) (r:List Int):Prop:=∀ w,w∈r→0≤w∧w<n
theorem BR (hx:XOk Lc n) (he:∀ l,l∈Lc→eT n l) (h:List Int) {w:Int} (h0:0≤w) (h1:w<n):qv (bz Lc n h w.toNat)+qv (bp Lc n h w)≤1:=by
 obtain ⟨v,rfl⟩:∃ v:Nat,w=(v:Int):=⟨w.toNat,by omega⟩;have h2:=lI hx h (v:=v+1) (w:=n) (by omega);rw[sZ hx he,gn hx]at h2;exact h2
theorem vo (hx:XOk Lc n) (he:∀ l,l∈Lc→eT n l):∀ (r h:List Int),InW n r→0≤spA Lc n h r∧0≤spB Lc n h r∧spA Lc n h r+spB Lc n h r≤1
 | [],h,_=>by simp only[spA,spB]; refine ⟨Hr,by decide,?_⟩; grind
 | w::r,h,hi=>by
  obtain ⟨i1,i2,i3⟩:=vo hx he r (h++[w]) λv hv=>hi v (E3 _ hv)
  obtain ⟨w1,w2⟩:=hi w (by simp);have a1:=dY (bz Lc n h w.toNat);have a2:=dY (bp Lc n h w);have a3:=BR hx he h w1 w2;have b1:=Rat.mul_nonneg a2 i1;have b2:=Rat.mul_nonneg a2 i2;have b3:qv (bp Lc n h w)*(spA Lc n (h++[w]) r+spB Lc n (h++[w]) r)≤qv (bp Lc n h w)*1:=Rat.mul_le_mul_of_nonneg_left i3 a2;simp only[spA,spB];refine ⟨?_,b2,?_⟩<;>grind
def oM (Lc:List (List Cnt)) (n:Int):Nat→List Int→Fr2→Option (List Int)
 | 0,_,_=>none
 | f+1,h,u=>if jj Lc n h u=2 then some (h.drop 1) else if f=0 then none else
   oM Lc n f (h++[jj Lc n h u]) (d5 (cJ u (bz Lc n h (jj Lc n h u).toNat)) (bp Lc n h (jj Lc n h u)))
theorem ox (hx:XOk Lc n) {h:List Int} {u:Fr2} (hu:u.2≠0) {w:Nat} (hi:inP Lc n h u w=true) :
  (bp Lc n h w).1≠0∧(d5 (cJ u (bz Lc n h w)) (bp Lc n h w)).2≠0∧qv (d5 (cJ u (bz Lc n h w)) (bp Lc n h w))=(qv u-qv (bz Lc n h w))/qv (bp Lc n h w)∧0<qv (bp Lc n h w)∧qv u<qv (bz Lc n h w)+qv (bp Lc n h w):=by
 obtain ⟨h1,h2⟩:=(iW hx hu).1 hi;rw[gn hx]at h2;have hpos:0<qv (bp Lc n h w):=by grind
 have hd:=(eU hx h w).pos;have hs:=(eK hx h w).pos;have hn:(bp Lc n h w).1≠0:=λe=>by
  unfold qv at hpos;rw[e,show ((0:Nat):Rat)=0 from rfl]at hpos;grind
 have hsub:(cJ u (bz Lc n h w)).2≠0:=iu (E6 hu hs);refine ⟨hn,ol hsub hn,?_,hpos,h2⟩;rw[qJ hsub hd hn,zM hu hs ((uu hs hu).2 h1)]
theorem BS (hx:XOk Lc n) {h:List Int} {u:Fr2} (hu:u.2≠0) {w:Nat} (hi:inP Lc n h u w=true):qv (d5 (cJ u (bz Lc n h w)) (bp Lc n h w))<1:=by
 obtain ⟨_,_,h3,h4,h5⟩:=ox hx hu hi;rw[h3,Ho h4];grind
theorem s9 (hx:XOk Lc n) (he:∀ l,l∈Lc→eT n l):∀ (r h:List Int) (u:Fr2) (f:Nat),u.2≠0→InW n r→2<n→(∀ w,w∈r→w≠2)→spA Lc n h (r++[2])≤qv u→qv u<spA Lc n h (r++[2])+spB Lc n h (r++[2]) →
  oM Lc n f h u=if r.length<f then some ((h++r).drop 1) else none
 | r,h,u,0,_,_,_,_,_,_=>by rw[if_neg (by omega)]; rfl
 | [],h,u,f+1,hu,_,h2,_,g1,g2=>by
  have e2:(2:Int).toNat=2:=rfl;simp only[G5,spA,spB,e2]at g1 g2;have hs:=gn hx h 2;have e:((2:Nat):Int)=2:=rfl;rw[e]at hs;have hi:inP Lc n h u 2=true:=by
   refine (iW hx hu).2 ?_;rw[hs];constructor<;>grind
  have hp:=iX hx hu h2 hi;rw[e]at hp;unfold oM;rw[hp,if_pos rfl,if_pos (by simp),Gs]
 | w::r,h,u,f+1,hu,hw,h2,hn,g1,g2=>by
  obtain ⟨w0,w1⟩:=hw w (by simp);obtain ⟨v,rfl⟩:∃ v:Nat,w=(v:Int):=⟨w.toNat,by omega⟩;have hr:InW n (r++[2]):=λx hx'=>by
   rcases Fl.1 hx' with hx' | hx'
   ·exact hw x (E3 _ hx')
   ·simp at hx'; subst hx'; omega
  obtain ⟨i1,i2,i3⟩:=vo hx he (r++[2]) (h++[(v:Int)]) hr;have a2:=dY (bp Lc n h v);simp only[Ge,spA,spB,E4]at g1 g2;have b1:=Rat.mul_nonneg a2 i1;have b3:qv (bp Lc n h v)*(spA Lc n (h++[(v:Int)]) (r++[2])+spB Lc n (h++[(v:Int)]) (r++[2]))≤qv (bp Lc n h v)*1:=Rat.mul_le_mul_of_nonneg_left i3 a2;have hi:inP Lc n h u v=true:=by
   rw[iW hx hu,gn hx];constructor<;>grind
  obtain ⟨l1,l2,l3,l4,l5⟩:=ox hx hu hi;have hp:=iX hx hu (by omega) hi;have hne:=hn v (by simp);unfold oM;rw[hp,if_neg hne,E4];by_cases hf:f=0
  ·subst hf; rw[if_pos rfl,if_neg (by simp)]
  ·rw[if_neg hf,s9 hx he r (h++[(v:Int)]) _ f l2 (λx hx'=>hw x (E3 _ hx')) h2 (λx hx'=>hn x (E3 _ hx'))]
   ·simp
   ·rw[l3,gM l4]; grind
   ·rw[l3,Ho l4]; grind
end
end
end Go.Proofs.YtgceikecdedfcaaGreat.Pv
