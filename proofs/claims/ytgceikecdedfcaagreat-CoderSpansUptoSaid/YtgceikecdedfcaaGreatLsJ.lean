/- Parts of a proof, joined: Cd Ek Sib Sic Sid. -/
import Derived.Test.YtgceikecdedfcaaGreatLsI
import Derived.Sort.AssemblyPlain
namespace Go.Proofs.YtgceikecdedfcaaGreat.Pv
open Go
def blen (n:Nat):Nat:=(dg 2 n).length
theorem blen_zero:blen 0=0:=by rw[blen,a9]; rfl
theorem rY {n:Nat} (h:n≠0):blen n=1+blen (n/2):=by rw[blen,fW (by omega) h,Fe,G0]; rfl
theorem cH:∀ (k:Nat) {n:Nat},2^k≤n→blen n=k+blen (n/2^k)
 | 0,n,_=>by simp
 | k+1,n,h=>by
  rw[Fk]at h;have hp:0<2^k:=Fv k;rw[rY (by omega),cH k (n:=n/2) (by omega),Gh,Fk,EV 2];omega
theorem eH (n:Nat):n<2^blen n:=bj (by omega) n
theorem gJ {n k:Nat} (h:n<2^k):blen n≤k:=bQ (by omega) h
theorem qi {n:Nat} (h:n≠0):2^(blen n-1)≤n:=mA (by omega) h
def len8 (n:Nat):Nat:=if n<1 then 0 else if n<2 then 1 else if n<4 then 2 else if n<8 then 3 else if n<16 then 4 else if n<32 then 5 else if n<64 then 6 else if n<128 then 7 else 8
theorem fQ (n:Nat):len8 n≤8:=by
 unfold len8
 repeat' split
 all_goals omega
theorem fg {n k:Nat} (h1:2^k≤n) (h2:n<2^(k+1)):blen n=k+1:=by
 have h3:=gJ h2;have h4:=eH n;apply Hv h3;apply FK;intro hlt;have:2^blen n≤2^k:=ER (by omega) (by omega);omega
theorem dU {n:Nat} (h:n<256):len8 n=blen n:=by
 unfold len8;split
 ·have:n=0:=by omega
  subst this; exact blen_zero.symm
 ·split
  ·exact (fg (k:=0) (by omega) (by omega)).symm
  ·split
   ·exact (fg (k:=1) (by omega) (by omega)).symm
   ·split
    ·exact (fg (k:=2) (by omega) (by omega)).symm
    ·split
     ·exact (fg (k:=3) (by omega) (by omega)).symm
     ·split
      ·exact (fg (k:=4) (by omega) (by omega)).symm
      ·split
       ·exact (fg (k:=5) (by omega) (by omega)).symm
       ·split
        ·exact (fg (k:=6) (by omega) (by omega)).symm
        ·exact (fg (k:=7) (by omega) (by omega)).symm
def Ek (l:List UInt8):Bool:=l==(List.range 256).map λi=>UInt8.ofNat (len8 i)
theorem rZ {d:Array UInt8} (h:Ek d.toList=true) {x:Nat} (hx:x<256):d[((x:Nat):Int).toNat]? = some (UInt8.ofNat (len8 x)):=by
 have e:=eq_of_beq h;rw[E4,←Array.getElem?_toList,e];simp[hx]
theorem u8n {n:Nat} (h:n<256):((UInt8.ofNat n).toNat:Int)=n:=by
 rw[UInt8.toNat_ofNat_of_lt' (by simpa using h)]
theorem fH {x k:Nat} (h:k≤64):(x:Int).fdiv (2^min ((k:Nat):Int).toNat 64)=((x/2^k:Nat):Int):=by
 rw[E4,F7 h,GR _ (Int.le_of_lt (Int.pow_pos (by omega)))];simp
set_option maxRecDepth 100000 in
theorem kw (v:Nat) (hv:v<18446744073709551616):Ct P 102 [.c (nI .u64 v)] [.c (nI .i64 (blen v))]:=by
 refine Ct.go aj aa (N:=25) Tryz.func102 rfl rfl rfl rfl ?_;refine ah (λh0=>?_) (λh0=>?_)
 ·obtain ⟨x1,e0⟩:∃ x1,x1=v/2^32:=⟨_,rfl⟩;have b0:blen v=32+blen x1:=by rw[e0]; exact cH _ (by omega)
  refine .intro (by omega) (X1 ((x1:Nat):Int) (by rw[e0]; exact fH (k:=32) (by decide)) (.intro ⟨by omega,by omega⟩ ?_));refine ah (λh1=>?_) (λh1=>?_)
  ·obtain ⟨x2,e1⟩:∃ x2,x2=x1/2^16:=⟨_,rfl⟩;have b1:blen x1=16+blen x2:=by rw[e1]; exact cH _ (by omega)
   refine .intro (by omega) (X1 ((x2:Nat):Int) (by rw[e1]; exact fH (k:=16) (by decide)) (.intro ⟨by omega,by omega⟩ ?_));refine X1 ((32+16:Nat):Int) (wI (by simp) (by omega) (by omega)) ?_;refine ah (λh2=>?_) (λh2=>?_)
   ·obtain ⟨x3,e2⟩:∃ x3,x3=x2/2^8:=⟨_,rfl⟩;have b2:blen x2=8+blen x3:=by rw[e2]; exact cH _ (by omega)
    refine .intro (by omega) (X1 ((x3:Nat):Int) (by rw[e2]; exact fH (k:=8) (by decide)) (.intro ⟨by omega,by omega⟩ ?_));refine X1 ((32+16+8:Nat):Int) (wI (by simp) (by omega) (by omega)) ?_;have hx8:x3<256:=by omega
    refine X1 ((x3:Nat):Int) (aY ⟨by omega,by omega⟩) ?_;refine .intro (by omega) (X1 (UInt8.ofNat (len8 x3)) (rZ (by rfl) hx8) ?_);have hb:=fQ x3;refine X1 ((len8 x3:Nat):Int) (wI (by rw[u8n (by omega)]) (by omega) (by omega)) ?_;refine X1 (((32+16+8)+len8 x3:Nat):Int) (wI (by simp) (by omega) (by omega)) ?_;rw[dU hx8] at *
    exact ⟨HJ,r1 (iE (by rw[show blen v=32+16+8+blen x3 by omega])),HJ⟩
   ·skip
    have hx8:x2<256:=by omega
    refine X1 ((x2:Nat):Int) (aY ⟨by omega,by omega⟩) ?_;refine .intro (by omega) (X1 (UInt8.ofNat (len8 x2)) (rZ (by rfl) hx8) ?_);have hb:=fQ x2;refine X1 ((len8 x2:Nat):Int) (wI (by rw[u8n (by omega)]) (by omega) (by omega)) ?_;refine X1 (((32+16)+len8 x2:Nat):Int) (wI (by simp) (by omega) (by omega)) ?_;rw[dU hx8] at *
    exact ⟨HJ,r1 (iE (by rw[show blen v=32+16+blen x2 by omega])),HJ⟩
  ·skip
   refine ah (λh2=>?_) (λh2=>?_)
   ·obtain ⟨x3,e2⟩:∃ x3,x3=x1/2^8:=⟨_,rfl⟩;have b2:blen x1=8+blen x3:=by rw[e2]; exact cH _ (by omega)
    refine .intro (by omega) (X1 ((x3:Nat):Int) (by rw[e2]; exact fH (k:=8) (by decide)) (.intro ⟨by omega,by omega⟩ ?_));refine X1 ((32+8:Nat):Int) (wI (by simp) (by omega) (by omega)) ?_;have hx8:x3<256:=by omega
    refine X1 ((x3:Nat):Int) (aY ⟨by omega,by omega⟩) ?_;refine .intro (by omega) (X1 (UInt8.ofNat (len8 x3)) (rZ (by rfl) hx8) ?_);have hb:=fQ x3;refine X1 ((len8 x3:Nat):Int) (wI (by rw[u8n (by omega)]) (by omega) (by omega)) ?_;refine X1 (((32+8)+len8 x3:Nat):Int) (wI (by simp) (by omega) (by omega)) ?_;rw[dU hx8] at *
    exact ⟨HJ,r1 (iE (by rw[show blen v=32+8+blen x3 by omega])),HJ⟩
   ·skip
    have hx8:x1<256:=by omega
    refine X1 ((x1:Nat):Int) (aY ⟨by omega,by omega⟩) ?_;refine .intro (by omega) (X1 (UInt8.ofNat (len8 x1)) (rZ (by rfl) hx8) ?_);have hb:=fQ x1;refine X1 ((len8 x1:Nat):Int) (wI (by rw[u8n (by omega)]) (by omega) (by omega)) ?_;refine X1 (((32)+len8 x1:Nat):Int) (wI (by simp) (by omega) (by omega)) ?_;rw[dU hx8] at *
    exact ⟨HJ,r1 (iE (by rw[show blen v=32+blen x1 by omega])),HJ⟩
 ·skip
  refine ah (λh1=>?_) (λh1=>?_)
  ·obtain ⟨x2,e1⟩:∃ x2,x2=v/2^16:=⟨_,rfl⟩;have b1:blen v=16+blen x2:=by rw[e1]; exact cH _ (by omega)
   refine .intro (by omega) (X1 ((x2:Nat):Int) (by rw[e1]; exact fH (k:=16) (by decide)) (.intro ⟨by omega,by omega⟩ ?_));refine X1 ((0+16:Nat):Int) (wI (by simp) (by omega) (by omega)) ?_;refine ah (λh2=>?_) (λh2=>?_)
   ·obtain ⟨x3,e2⟩:∃ x3,x3=x2/2^8:=⟨_,rfl⟩;have b2:blen x2=8+blen x3:=by rw[e2]; exact cH _ (by omega)
    refine .intro (by omega) (X1 ((x3:Nat):Int) (by rw[e2]; exact fH (k:=8) (by decide)) (.intro ⟨by omega,by omega⟩ ?_));refine X1 ((0+16+8:Nat):Int) (wI (by simp) (by omega) (by omega)) ?_;have hx8:x3<256:=by omega
    refine X1 ((x3:Nat):Int) (aY ⟨by omega,by omega⟩) ?_;refine .intro (by omega) (X1 (UInt8.ofNat (len8 x3)) (rZ (by rfl) hx8) ?_);have hb:=fQ x3;refine X1 ((len8 x3:Nat):Int) (wI (by rw[u8n (by omega)]) (by omega) (by omega)) ?_;refine X1 (((0+16+8)+len8 x3:Nat):Int) (wI (by simp) (by omega) (by omega)) ?_;rw[dU hx8] at *
    exact ⟨HJ,r1 (iE (by rw[show blen v=0+16+8+blen x3 by omega])),HJ⟩
   ·skip
    have hx8:x2<256:=by omega
    refine X1 ((x2:Nat):Int) (aY ⟨by omega,by omega⟩) ?_;refine .intro (by omega) (X1 (UInt8.ofNat (len8 x2)) (rZ (by rfl) hx8) ?_);have hb:=fQ x2;refine X1 ((len8 x2:Nat):Int) (wI (by rw[u8n (by omega)]) (by omega) (by omega)) ?_;refine X1 (((0+16)+len8 x2:Nat):Int) (wI (by simp) (by omega) (by omega)) ?_;rw[dU hx8] at *
    exact ⟨HJ,r1 (iE (by rw[show blen v=0+16+blen x2 by omega])),HJ⟩
  ·skip
   refine ah (λh2=>?_) (λh2=>?_)
   ·obtain ⟨x3,e2⟩:∃ x3,x3=v/2^8:=⟨_,rfl⟩;have b2:blen v=8+blen x3:=by rw[e2]; exact cH _ (by omega)
    refine .intro (by omega) (X1 ((x3:Nat):Int) (by rw[e2]; exact fH (k:=8) (by decide)) (.intro ⟨by omega,by omega⟩ ?_));refine X1 ((0+8:Nat):Int) (wI (by simp) (by omega) (by omega)) ?_;have hx8:x3<256:=by omega
    refine X1 ((x3:Nat):Int) (aY ⟨by omega,by omega⟩) ?_;refine .intro (by omega) (X1 (UInt8.ofNat (len8 x3)) (rZ (by rfl) hx8) ?_);have hb:=fQ x3;refine X1 ((len8 x3:Nat):Int) (wI (by rw[u8n (by omega)]) (by omega) (by omega)) ?_;refine X1 (((0+8)+len8 x3:Nat):Int) (wI (by simp) (by omega) (by omega)) ?_;rw[dU hx8] at *
    exact ⟨HJ,r1 (iE (by rw[show blen v=0+8+blen x3 by omega])),HJ⟩
   ·skip
    have hx8:v<256:=by omega
    refine X1 ((v:Nat):Int) (aY ⟨by omega,by omega⟩) ?_;refine .intro (by omega) (X1 (UInt8.ofNat (len8 v)) (rZ (by rfl) hx8) ?_);have hb:=fQ v;refine X1 ((len8 v:Nat):Int) (wI (by rw[u8n (by omega)]) (by omega) (by omega)) ?_;refine X1 (((0)+len8 v:Nat):Int) (wI (by simp) (by omega) (by omega)) ?_;rw[dU hx8] at *
    exact ⟨HJ,r1 (iE (by simp)),HJ⟩
theorem uU (v:Nat) (hv:v<18446744073709551616):Ct P 153 [.c (nI .u64 v)] [.c (nI .i64 (64-blen v))]:=by
 have h:=gJ (n:=v) (k:=64) hv;refine Ct.go aj aa (N:=6) Tryz.func153 rfl rfl rfl rfl ?_;refine X1 _ (kw v hv) ?_;refine X1 ((64-blen v:Nat):Int) (wI (by omega) (by omega) (by omega)) ?_;exact ⟨HJ,r1 rfl,HJ⟩
theorem nP (k:Nat):18446744073709551616^k=2^(64*k):=by rw[GY]
theorem r9 {n:Nat} (h:n≠0):blen n=64*((dg 18446744073709551616 n).length-1)+blen ((dg 18446744073709551616 n).getD ((dg 18446744073709551616 n).length-1) 0):=by
 obtain ⟨m,hm⟩:∃ m,(dg 18446744073709551616 n).length=m+1:=⟨(dg 18446744073709551616 n).length-1,by
  have:(dg 18446744073709551616 n).length≠0:=λh0=>h ((ij (by omega)).1 (Fa.1 h0))
  omega⟩
 have h1:=aC 18446744073709551616 (dg 18446744073709551616 n) m;rw[aS (by omega),bq (by omega)]at h1;have h2:=ee (by omega:0<18446744073709551616) ((br (B:=18446744073709551616) (by omega) n).take (n:=m));rw[EQ,F7 (by omega)]at h2;have h3:=mA (B:=18446744073709551616) (by omega) h;rw[hm,F1]at h3 ⊢;have h4:n/18446744073709551616^m=(dg 18446744073709551616 n).getD m 0:=by
  conv=>lhs; rw[h1]
  rw[GX _ _ (Nat.pow_pos (by omega)),Gf h2,Fu]
 rw[←h4];rw[nP]at h3 ⊢;exact cH _ h3
theorem nQ (n:Nat):blen n≤64*(dg 18446744073709551616 n).length:=by
 apply gJ;rw[←nP];exact bj (by omega) n
theorem kx (n:Nat) (hn:(dg 18446744073709551616 n).length≤1000000):Ct P 80 [nV n] [.c (nI .i64 (blen n))]:=by
 refine Ct.go aj aa (N:=22) Tryz.func80 rfl rfl rfl rfl ?_;refine .intro (by rw[ai]; omega) ?_;rw[ai];refine aU (λh=>?_) (λh=>?_)
 ·have:n=0:=(ij (B:=18446744073709551616) (by omega)).1 (Fa.1 (by omega));subst this;exact ⟨HJ,r1 (iE (by rw[blen_zero]; rfl)),HJ⟩
 ·have h0:n≠0:=λh0=>h (by rw[h0,a9]; rfl)
  refine .intro (by rw[ai]; omega) ?_;rw[ai];refine X1 (((dg 18446744073709551616 n).length-1:Nat):Int) (wI (by omega) (by omega) (by omega)) ?_;refine X1 ((64*((dg 18446744073709551616 n).length-1):Nat):Int) (wI (by omega) (by omega) (by omega)) ?_;refine .intro (by rw[ai]; omega) ?_;rw[ai];refine X1 (((dg 18446744073709551616 n).length-1:Nat):Int) (wI (by omega) (by omega) (by omega)) ?_;refine .intro (by omega) (X1 _ (al rfl (by omega)) ?_);have hd:=(br (B:=18446744073709551616) (by omega) n).getD (by omega) ((dg 18446744073709551616 n).length-1);refine X1 _ (kw _ hd) ?_;have hb:=r9 h0;have hle:=nQ n;refine X1 ((blen n:Nat):Int) (wI (by omega) (by omega) (by omega)) ?_;refine .intro rfl ?_;exact ⟨HJ,r1 rfl,HJ⟩
theorem t8 (a b:Nat) (ha:(dg 18446744073709551616 a).length≤1000000) (hb:(dg 18446744073709551616 b).length≤1000000):Ct P 144 [.c (.fn 80 []),nV a,nV b] [nV (if blen a<blen b then b else a),nV (if blen a<blen b then a else b)]:=by
 refine Ct.go aj aa (N:=19) Tryz.func144 rfl rfl rfl rfl ?_;refine X1 _ (kx a ha) ?_;refine X1 _ (kx b hb) ?_;refine .intro rfl ?_;refine ah (λh=>?_) (λh=>?_)
 ·refine .intro rfl ?_;rw[if_pos (by omega),if_pos (by omega)];exact ⟨HJ,rc rfl,rc rfl,HJ⟩
 ·refine .intro rfl ?_;rw[if_neg (by omega),if_neg (by omega)];exact ⟨HJ,rc rfl,rc rfl,HJ⟩
end Go.Proofs.YtgceikecdedfcaaGreat.Pv
namespace Go.Proofs.YtgceikecdedfcaaGreat.Pv
open Go Go.Sort
theorem iQ (n:Nat):bitsLen n=blen n:=by
 unfold bitsLen;split
 ·rename_i h; subst h; exact blen_zero.symm
 ·rename_i h;exact (fg (Nat.log2_self_le h) Nat.lt_log2_self).symm
theorem t9 (n:Nat) (hn:n<18446744073709551616):Ct P 187 [.c (nI .u64 n)] [.c (nI .i64 (bitsLen n))]:=by
 rw[iQ];refine Ct.go aj aa (N:=8) Tryz.func187 rfl rfl rfl rfl ?_;refine X1 _ (kw n hn) ?_;exact ⟨HJ,r1 rfl,HJ⟩
theorem fB {n:Nat} (h:n≤1000000):bitsLen n≤20:=by rw[iQ]; exact gJ (by omega)
theorem uV (n:Nat) (hn:n≤1000000):Ct P 212 [.c (nI .i64 n)] [.c (nI .u64 (1<<<bitsLen n))]:=by
 refine Ct.go aj aa (N:=7) Tryz.func212 rfl rfl rfl rfl ?_;have hb:=fB hn;refine X1 _ (wU (b:=(n:Int)) rfl (by omega) (by omega)) ?_;refine X1 _ (t9 n (by omega)) ?_;have hp:2^bitsLen n≤2^20:=ER (by omega) hb;refine .intro (by omega) (X1 ((1<<<bitsLen n:Nat):Int) ?_ ?_)
 ·rw[Nat.one_shiftLeft];have e:(1:Int)*2^min ((bitsLen n:Nat):Int).toNat IntKind.u64.bits=((2^bitsLen n:Nat):Int):=by
   have:min ((bitsLen n:Nat):Int).toNat IntKind.u64.bits=bitsLen n:=by
    show min ((bitsLen n:Nat):Int).toNat 64=_
    omega
   rw[this]; simp
  generalize 2^bitsLen n=m at *
  exact wU e (by omega) (by omega)
 ·exact ⟨HJ,r1 rfl,HJ⟩
theorem sa (x:UInt64):x.toNat<18446744073709551616:=x.toNat_lt
theorem DM (x:UInt64) (k:Nat) (y:UInt64) (hk:k<64) (h:y.toNat=x.toNat*2^k%18446744073709551616):IntKind.u64.wrap ((x.toNat:Int)*2^min ((k:Nat):Int).toNat IntKind.u64.bits)=(y.toNat:Int):=by
 have e:min ((k:Nat):Int).toNat IntKind.u64.bits=k:=by show min ((k:Nat):Int).toNat 64=_; omega
 rw[e,h];have e2:(x.toNat:Int)*2^k=((x.toNat*2^k:Nat):Int):=by simp
 rw[e2];simp[IntKind.wrap,IntKind.signed,IntKind.bits]
theorem CW (x y:UInt64):IntKind.u64.wrap ((BitVec.ofInt IntKind.u64.bits (x.toNat:Int) ^^^ BitVec.ofInt IntKind.u64.bits (y.toNat:Int)).toNat:Int)=((x ^^^ y).toNat:Int):=by
 have hx:=sa x;have hy:=sa y;have e:(BitVec.ofInt IntKind.u64.bits (x.toNat:Int) ^^^ BitVec.ofInt IntKind.u64.bits (y.toNat:Int)).toNat=(x ^^^ y).toNat:=by
  show (BitVec.ofInt 64 (x.toNat:Int) ^^^ BitVec.ofInt 64 (y.toNat:Int)).toNat=_
  rw[BitVec.ofInt_natCast,BitVec.ofInt_natCast,BitVec.toNat_xor,BitVec.toNat_ofNat,BitVec.toNat_ofNat,Fi (by omega:x.toNat<2^64),Fi (by omega:y.toNat<2^64),UInt64.toNat_xor]
 rw[e];have:=sa (x ^^^ y);exact wU rfl (by omega) (by omega)
theorem DN (x:UInt64) {n:Nat} (hn:n<18446744073709551616):IntKind.u64.wrap ((BitVec.ofInt IntKind.u64.bits (x.toNat:Int)&&&BitVec.ofInt IntKind.u64.bits (n:Int)).toNat:Int)=((x.toNat&&&n:Nat):Int):=by
 have hx:=sa x;have e:(BitVec.ofInt IntKind.u64.bits (x.toNat:Int)&&&BitVec.ofInt IntKind.u64.bits (n:Int)).toNat=x.toNat&&&n:=by
  show (BitVec.ofInt 64 (x.toNat:Int)&&&BitVec.ofInt 64 (n:Int)).toNat=_
  rw[BitVec.ofInt_natCast,BitVec.ofInt_natCast,BitVec.toNat_and,BitVec.toNat_ofNat,BitVec.toNat_ofNat,Fi (by omega:x.toNat<2^64),Fi (by omega:n<2^64)]
 rw[e];have:x.toNat&&&n≤n:=Nat.and_le_right;exact wU rfl (by omega) (by omega)
theorem uW (r:UInt64):CtO P 213 [(1000000,some (.var [nI .u64 r.toNat]))] [.c (.ad 1000000 0)] [(1000000,some (.var [nI .u64 (xorNext r).toNat]))] [.c (nI .u64 (xorNext r).toNat)]:=by
 refine Ct.io aj aa (N:=33) Tryz.func213 rfl rfl rfl rfl ?_;refine .intro (by decide) (X1 ((r<<<13).toNat:Int) (DM r 13 (r<<<13) (by omega) ?_) ?_)
 ·rw[UInt64.toNat_shiftLeft]; simp[GZ]
 refine X1 _ (CW r (r<<<13)) ?_;refine .intro rfl ?_;generalize hr1:r ^^^ (r<<<13)=s1;have q1:=sa (s1>>>7);refine .intro (by decide) (X1 ((s1>>>7).toNat:Int) ?_ (.intro ⟨by omega,by omega⟩ ?_))
 ·rw[UInt64.toNat_shiftRight];show (s1.toNat:Int).fdiv (2^min ((7:Nat):Int).toNat 64)=_
  rw[fH (by omega),Nat.shiftRight_eq_div_pow]; rfl
 refine X1 _ (CW s1 (s1>>>7)) ?_;refine .intro rfl ?_;generalize hr2:s1 ^^^ (s1>>>7)=s2;refine .intro (by decide) (X1 ((s2<<<17).toNat:Int) (DM s2 17 (s2<<<17) (by omega) ?_) ?_)
 ·rw[UInt64.toNat_shiftLeft]; simp[GZ]
 refine X1 _ (CW s2 (s2<<<17)) ?_;refine .intro rfl ?_;have e:xorNext r=s2 ^^^ (s2<<<17):=by rw[←hr2,←hr1]; rfl
 rw[e];exact ⟨HJ,SubO.of (l:=[(1000000,.var _)]) ⟨rfl,HJ⟩,r1 rfl,HJ⟩
end Go.Proofs.YtgceikecdedfcaaGreat.Pv
namespace Go.Proofs.YtgceikecdedfcaaGreat.Pv.SrtI
open Go Go.Sort
section
variable {cm:El→El→Int} {a b:Nat}
theorem insInner_a {j:Nat} {e:Array El} (h:j≤a):insInner (lt cm) a j e=e:=by
 cases j with
 | zero=>rfl
 | succ j=>rw[insInner,if_neg (by simp; omega)]
theorem insInner_b {j:Nat} {e:Array El} (h:¬ cm e[j]! e[j-1]! < 0):insInner (lt cm) a j e=e:=by
 cases j with
 | zero=>rfl
 | succ j=>rw[insInner,if_neg (by simp at h; simp[lt,h])]
theorem insInner_c {j:Nat} {e:Array El} (h:j>a) (h2:cm e[j]! e[j-1]! < 0):insInner (lt cm) a j e=insInner (lt cm) a (j-1) (swp e j (j-1)):=by
 cases j with
 | zero=>omega
 | succ j=>
  simp only[F1]at h2 ⊢;rw[insInner,if_pos (by simp[lt,h2]; omega)]
end
variable (g:FuncId) (cm:El→El→Int)
variable (hc:∀ x y,Ct P g [VL x,VL y] [.c (eI .i64 (cm x y))])
include hc
theorem ins_ct (d:Array El) (a b:Nat) (hab:a≤b) (hb:b≤d.size) (hd:d.size≤1000000) :
  CtO P 191 [dO d] [dA d,.c (nI .i64 a),.c (nI .i64 b),.c (.fn g [])] [dO (insertionSort (lt cm) d a b)] []:=by
 refine Ct.io aj aa (N:=53) Tryz.func191 rfl rfl rfl rfl ?_;refine X1 ((a+1:Nat):Int) (wI (by simp) (by omega) (by omega)) ?_;refine ci aj aa (G:=Nat × Array El) (λ(i,e)=>insOuter (lt cm) a b i e=insertionSort (lt cm) d a b∧e.size=d.size∧a+1≤i) (λ(i,_)=>[(0,.c (.ow 1000000 SZ d.size)),(1,.c (nI .i64 a)),(2,.c (nI .i64 b)),(3,.c (.fn g [])),(8,.c (nI .i64 i))]) (λ(_,e)=>[(1000000,.row SZ (row e))]) (λ(i,_)=>b-i)
  (a+1,d) ⟨rfl,rfl,by omega⟩ ⟨rfl,rfl,rfl,rfl,rfl,HJ⟩ ⟨rfl,HJ⟩ (λ(i,e0) hi=>?_)
 obtain ⟨i1,i2,i3⟩:=hi;refine ah (λh5=>?_) (λh5=>?_)
 ·rw[insOuter,if_pos (by omega)]at i1;have hib:i<b:=by omega
  have done:∀ e:Array El,insInner (lt cm) a i e0=e→e.size=d.size→insOuter (lt cm) a b (i+1) e=insertionSort (lt cm) d a b∧e.size=d.size∧a+1≤i+1:=λe h1 h2=>⟨by rw[←h1]; exact i1,h2,by omega⟩
  refine ci aj aa (G:=Nat × Array El) (λ(j,e)=>insInner (lt cm) a j e=insInner (lt cm) a i e0∧e.size=d.size∧j≤i) (λ(j,_)=>[(0,.c (.ow 1000000 SZ d.size)),(1,.c (nI .i64 a)),(2,.c (nI .i64 b)),(3,.c (.fn g [])),(8,.c (nI .i64 i)),(9,.c (nI .i64 j))]) (λ(_,e)=>[(1000000,.row SZ (row e))]) (λ(j,_)=>j)
   (i,e0) ⟨rfl,i2,by omega⟩ ⟨rfl,rfl,rfl,rfl,rfl,rfl,HJ⟩ ⟨rfl,HJ⟩ (λ(j,e) hj=>?_)
  obtain ⟨j1,j2,j3⟩:=hj;refine ah (λh6=>?_) (λh6=>?_)
  ·refine .intro (by omega) (.intro (by omega) (X1 _ (row_get (n:=j) rfl (by omega)) ?_));refine X1 ((j-1:Nat):Int) (wI (by omega) (by omega) (by omega)) ?_;refine .intro (by omega) (.intro (by omega) (X1 _ (row_get (n:=j-1) rfl (by omega)) ?_));refine X1 _ (hc _ _) ?_;refine .intro rfl ?_;refine ah (λh7=>?_) (λh7=>?_)
   ·rw[insInner_c (by omega) h7]at j1;refine X1 ((j-1:Nat):Int) (wI (by omega) (by omega) (by omega)) ?_;refine X1 ((j-1:Nat):Int) (wI (by omega) (by omega) (by omega)) ?_;refine .intro (by omega) (.intro (by omega) (X1 _ (row_get (d:=e) (n:=j-1) rfl (by omega)) ?_));refine .intro (by omega) (.intro (by omega) (X1 _ (row_get (d:=e) (n:=j) rfl (by omega)) ?_));refine .intro (by omega) (.intro (by omega) (X1 _ (row_get (d:=e) (n:=j) rfl (by omega)) ?_));refine .intro (by omega) (.intro (by omega) (X1 _ (row_get2 (d:=e) (y:=e[j-1]!) (m:=j) (n:=j-1) rfl rfl (by omega)) ?_));refine .intro rfl ?_;refine X1 ((j-1:Nat):Int) (wI (by omega) (by omega) (by omega)) ?_;exact ⟨(j-1,swp e j (j-1)),⟨j1,by rw[swp_size]; exact j2,by omega⟩,by show j-1<j; omega,⟨rfl,rfl,rfl,rfl,rfl,rfl,HJ⟩,⟨aB (row_swp (m:=j) (n:=j-1) rfl rfl),HJ⟩⟩
   ·rw[insInner_b h7]at j1;refine X1 ((i+1:Nat):Int) (wI1 (by omega)) ?_;exact ⟨(i+1,e),done e j1.symm j2,by show b-(i+1)<b-i; omega,⟨rfl,rfl,rfl,rfl,rfl,HJ⟩,⟨rfl,HJ⟩⟩
  ·refine .intro rfl ?_;rw[insInner_a (by omega)]at j1;refine X1 ((i+1:Nat):Int) (wI1 (by omega)) ?_;exact ⟨(i+1,e),done e j1.symm j2,by show b-(i+1)<b-i; omega,⟨rfl,rfl,rfl,rfl,rfl,HJ⟩,⟨rfl,HJ⟩⟩
 ·rw[insOuter,if_neg (by omega)]at i1;rw[←i1];exact ⟨HJ,SubO.of (l:=[(1000000,.row _ _)]) ⟨rfl,HJ⟩,HJ⟩
omit hc
section
variable {cm:El→El→Int} {hi f r:Nat} {e:Array El}
theorem sift_end (h:¬ 2*r+1<hi):siftDown (lt cm) hi f r e=e:=by rw[siftDown,dif_pos (by omega)]
theorem sift_r (h:2*r+2<hi) (h2:cm e[f+(2*r+1)]! e[f+(2*r+2)]! < 0):siftDown (lt cm) hi f r e=if cm e[f+r]! e[f+(2*r+2)]! < 0 then siftDown (lt cm) hi f (2*r+2) (swp e (f+r) (f+(2*r+2))) else e:=by
 rw[siftDown,dif_neg (by omega)];have e1:f+(2*r+1)+1=f+(2*r+2):=by omega
 rw[e1,if_pos (by simp[lt,h2]; omega)];by_cases h3:cm e[f+r]! e[f+(2*r+2)]! < 0
 ·rw[if_pos h3,if_neg (by simp[lt,h3]),dif_pos h]
 ·rw[if_neg h3,if_pos (by simp[lt]; omega)]
theorem sift_l (h:2*r+1<hi) (h2:¬ (2*r+2<hi∧cm e[f+(2*r+1)]! e[f+(2*r+2)]! < 0)):siftDown (lt cm) hi f r e=if cm e[f+r]! e[f+(2*r+1)]! < 0 then siftDown (lt cm) hi f (2*r+1) (swp e (f+r) (f+(2*r+1))) else e:=by
 rw[siftDown,dif_neg (by omega)];have e1:f+(2*r+1)+1=f+(2*r+2):=by omega
 rw[e1,if_neg (by simp[lt]; omega)];by_cases h3:cm e[f+r]! e[f+(2*r+1)]! < 0
 ·rw[if_pos h3,if_neg (by simp[lt,h3])]
 ·rw[if_neg h3,if_pos (by simp[lt]; omega)]
end
include hc
theorem sift_ct (d:Array El) (lo hi f:Nat) (il ih:Int) (hil:il=lo) (hih:ih=hi) (hb:f+hi≤d.size) (hlo:lo≤1000000) (hd:d.size≤1000000) :
  CtO P 211 [dO d] [dA d,.c (eI .i64 il),.c (eI .i64 ih),.c (nI .i64 f),.c (.fn g [])] [dO (siftDown (lt cm) hi f lo d)] []:=by
 subst hil hih;refine Ct.io aj aa (N:=82) Tryz.func211 rfl rfl rfl rfl ?_;refine ci aj aa (G:=Nat × Array El) (λ(r,e)=>siftDown (lt cm) hi f r e=siftDown (lt cm) hi f lo d∧e.size=d.size∧r≤1000000) (λ(r,_)=>[(0,.c (.ow 1000000 SZ d.size)),(2,.c (nI .i64 hi)),(3,.c (nI .i64 f)),(4,.c (.fn g [])),(10,.c (nI .i64 r))]) (λ(_,e)=>[(1000000,.row SZ (row e))]) (λ(r,_)=>hi-r)
  (lo,d) ⟨rfl,rfl,hlo⟩ ⟨rfl,rfl,rfl,rfl,rfl,HJ⟩ ⟨rfl,HJ⟩ (λ(r,e) hinv=>?_)
 obtain ⟨i1,i2,i3⟩:=hinv;refine X1 ((2*r:Nat):Int) (wI (by simp) (by omega) (by omega)) ?_;refine X1 ((2*r+1:Nat):Int) (wI (by simp) (by omega) (by omega)) ?_;refine ah (λh5=>?_) (λh5=>?_)
 ·rw[sift_end (by omega)]at i1;rw[←i1];exact ⟨HJ,SubO.of (l:=[(1000000,.row _ _)]) ⟨rfl,HJ⟩,HJ⟩
 ·refine X1 ((2*r+2:Nat):Int) (wI (by simp; omega) (by omega) (by omega)) ?_;refine ah (λh6=>?_) (λh6=>?_)
  ·refine X1 ((f+(2*r+1):Nat):Int) (wI (by simp) (by omega) (by omega)) ?_;refine .intro (by omega) (.intro (by omega) (X1 _ (row_get (n:=f+(2*r+1)) rfl (by omega)) ?_));refine X1 ((f+(2*r+1):Nat):Int) (wI (by simp) (by omega) (by omega)) ?_;refine X1 ((f+(2*r+2):Nat):Int) (wI (by omega) (by omega) (by omega)) ?_;refine .intro (by omega) (.intro (by omega) (X1 _ (row_get (n:=f+(2*r+2)) rfl (by omega)) ?_));refine X1 _ (hc _ _) ?_;refine .intro rfl ?_;refine ah (λh7=>?_) (λh7=>?_)
   ·rw[sift_r (by omega) h7]at i1;refine X1 ((2*r+2:Nat):Int) (wI (by simp; omega) (by omega) (by omega)) ?_;refine X1 ((f+r:Nat):Int) (wI (by simp) (by omega) (by omega)) ?_;refine .intro (by omega) (.intro (by omega) (X1 _ (row_get (n:=f+r) rfl (by omega)) ?_));refine X1 ((f+(2*r+2):Nat):Int) (wI (by simp) (by omega) (by omega)) ?_;refine .intro (by omega) (.intro (by omega) (X1 _ (row_get (n:=f+(2*r+2)) rfl (by omega)) ?_));refine X1 _ (hc _ _) ?_;refine .intro rfl ?_;refine aP (λh9=>?_) (λh9=>?_)
    ·have h9':¬ cm e[f+r]! e[f+(2*r+2)]! < 0:=by simpa using h9
     rw[if_neg h9']at i1;rw[←i1];exact ⟨HJ,SubO.of (l:=[(1000000,.row _ _)]) ⟨rfl,HJ⟩,HJ⟩
    ·have h9':cm e[f+r]! e[f+(2*r+2)]! < 0:=by simpa using h9
     rw[if_pos h9']at i1;refine X1 ((f+r:Nat):Int) (wI (by simp) (by omega) (by omega)) ?_;refine X1 ((f+(2*r+2):Nat):Int) (wI (by simp) (by omega) (by omega)) ?_;refine X1 ((f+(2*r+2):Nat):Int) (wI (by simp) (by omega) (by omega)) ?_;refine .intro (by omega) (.intro (by omega) (X1 _ (row_get (n:=f+(2*r+2)) rfl (by omega)) ?_));refine X1 ((f+r:Nat):Int) (wI (by simp) (by omega) (by omega)) ?_;refine .intro (by omega) (.intro (by omega) (X1 _ (row_get (n:=f+r) rfl (by omega)) ?_));refine .intro (by omega) (.intro (by omega) (X1 _ (row_get (n:=f+r) rfl (by omega)) ?_));refine .intro (by omega) (.intro (by omega) (X1 _ (row_get2 (y:=e[f+(2*r+2)]!) (m:=f+r) (n:=f+(2*r+2)) rfl rfl (by omega)) ?_));refine .intro rfl ?_;exact ⟨(2*r+2,swp e (f+r) (f+(2*r+2))),⟨i1,by rw[swp_size]; exact i2,by omega⟩,by show hi-(2*r+2)<hi-r; omega,⟨rfl,rfl,rfl,rfl,rfl,HJ⟩,⟨aB (row_swp (m:=f+r) (n:=f+(2*r+2)) rfl rfl),HJ⟩⟩
   ·rw[sift_l (by omega) (λh=>h7 h.2)]at i1;refine X1 ((f+r:Nat):Int) (wI (by simp) (by omega) (by omega)) ?_;refine .intro (by omega) (.intro (by omega) (X1 _ (row_get (n:=f+r) rfl (by omega)) ?_));refine X1 ((f+(2*r+1):Nat):Int) (wI (by simp) (by omega) (by omega)) ?_;refine .intro (by omega) (.intro (by omega) (X1 _ (row_get (n:=f+(2*r+1)) rfl (by omega)) ?_));refine X1 _ (hc _ _) ?_;refine .intro rfl ?_;refine aP (λh9=>?_) (λh9=>?_)
    ·have h9':¬ cm e[f+r]! e[f+(2*r+1)]! < 0:=by simpa using h9
     rw[if_neg h9']at i1;rw[←i1];exact ⟨HJ,SubO.of (l:=[(1000000,.row _ _)]) ⟨rfl,HJ⟩,HJ⟩
    ·have h9':cm e[f+r]! e[f+(2*r+1)]! < 0:=by simpa using h9
     rw[if_pos h9']at i1;refine X1 ((f+r:Nat):Int) (wI (by simp) (by omega) (by omega)) ?_;refine X1 ((f+(2*r+1):Nat):Int) (wI (by simp) (by omega) (by omega)) ?_;refine X1 ((f+(2*r+1):Nat):Int) (wI (by simp) (by omega) (by omega)) ?_;refine .intro (by omega) (.intro (by omega) (X1 _ (row_get (n:=f+(2*r+1)) rfl (by omega)) ?_));refine X1 ((f+r:Nat):Int) (wI (by simp) (by omega) (by omega)) ?_;refine .intro (by omega) (.intro (by omega) (X1 _ (row_get (n:=f+r) rfl (by omega)) ?_));refine .intro (by omega) (.intro (by omega) (X1 _ (row_get (n:=f+r) rfl (by omega)) ?_));refine .intro (by omega) (.intro (by omega) (X1 _ (row_get2 (y:=e[f+(2*r+1)]!) (m:=f+r) (n:=f+(2*r+1)) rfl rfl (by omega)) ?_));refine .intro rfl ?_;exact ⟨(2*r+1,swp e (f+r) (f+(2*r+1))),⟨i1,by rw[swp_size]; exact i2,by omega⟩,by show hi-(2*r+1)<hi-r; omega,⟨rfl,rfl,rfl,rfl,rfl,HJ⟩,⟨aB (row_swp (m:=f+r) (n:=f+(2*r+1)) rfl rfl),HJ⟩⟩
  ·refine .intro rfl ?_;rw[sift_l (by omega) (λh=>h6 (by omega))]at i1;refine X1 ((f+r:Nat):Int) (wI (by simp) (by omega) (by omega)) ?_;refine .intro (by omega) (.intro (by omega) (X1 _ (row_get (n:=f+r) rfl (by omega)) ?_));refine X1 ((f+(2*r+1):Nat):Int) (wI (by simp) (by omega) (by omega)) ?_;refine .intro (by omega) (.intro (by omega) (X1 _ (row_get (n:=f+(2*r+1)) rfl (by omega)) ?_));refine X1 _ (hc _ _) ?_;refine .intro rfl ?_;refine aP (λh9=>?_) (λh9=>?_)
   ·have h9':¬ cm e[f+r]! e[f+(2*r+1)]! < 0:=by simpa using h9
    rw[if_neg h9']at i1;rw[←i1];exact ⟨HJ,SubO.of (l:=[(1000000,.row _ _)]) ⟨rfl,HJ⟩,HJ⟩
   ·have h9':cm e[f+r]! e[f+(2*r+1)]! < 0:=by simpa using h9
    rw[if_pos h9']at i1;refine X1 ((f+r:Nat):Int) (wI (by simp) (by omega) (by omega)) ?_;refine X1 ((f+(2*r+1):Nat):Int) (wI (by simp) (by omega) (by omega)) ?_;refine X1 ((f+(2*r+1):Nat):Int) (wI (by simp) (by omega) (by omega)) ?_;refine .intro (by omega) (.intro (by omega) (X1 _ (row_get (n:=f+(2*r+1)) rfl (by omega)) ?_));refine X1 ((f+r:Nat):Int) (wI (by simp) (by omega) (by omega)) ?_;refine .intro (by omega) (.intro (by omega) (X1 _ (row_get (n:=f+r) rfl (by omega)) ?_));refine .intro (by omega) (.intro (by omega) (X1 _ (row_get (n:=f+r) rfl (by omega)) ?_));refine .intro (by omega) (.intro (by omega) (X1 _ (row_get2 (y:=e[f+(2*r+1)]!) (m:=f+r) (n:=f+(2*r+1)) rfl rfl (by omega)) ?_));refine .intro rfl ?_;exact ⟨(2*r+1,swp e (f+r) (f+(2*r+1))),⟨i1,by rw[swp_size]; exact i2,by omega⟩,by show hi-(2*r+1)<hi-r; omega,⟨rfl,rfl,rfl,rfl,rfl,HJ⟩,⟨aB (row_swp (m:=f+r) (n:=f+(2*r+1)) rfl rfl),HJ⟩⟩
theorem sift_size (hi f:Nat):∀ (n r:Nat) (e:Array El),hi-r≤n→(siftDown (lt cm) hi f r e).size=e.size:=by
 have _hc:=hc;intro n
 induction n with
 | zero=>intro r e h; rw[sift_end (by omega)]
 | succ n ih=>
  intro r e h;by_cases h1:2*r+1<hi
  ·by_cases h2:2*r+2<hi∧cm e[f+(2*r+1)]! e[f+(2*r+2)]! < 0
   ·rw[sift_r h2.1 h2.2]; split
    ·rw[ih _ _ (by omega),swp_size]
    ·rfl
   ·rw[sift_l h1 h2]; split
    ·rw[ih _ _ (by omega),swp_size]
    ·rfl
  ·rw[sift_end h1]
theorem heap_ct (d:Array El) (a b:Nat) (hab:a<b) (hb:b≤d.size) (hd:d.size≤1000000) :
  CtO P 192 [dO d] [dA d,.c (nI .i64 a),.c (nI .i64 b),.c (.fn g [])] [dO (heapSort (lt cm) d a b)] []:=by
 refine Ct.io aj aa (N:=60) Tryz.func192 rfl rfl rfl rfl ?_;refine X1 ((b-a:Nat):Int) (wI (by omega) (by omega) (by omega)) ?_;refine X1 ((b-a-1:Nat):Int) (wI (by omega) (by omega) (by omega)) ?_;have q2:((b-a-1:Nat):Int).tdiv 2=(((b-a-1)/2+1:Nat):Int)-1:=by
  rw[Fx (by omega)]; omega
 refine .intro (by omega) (X1 _ q2 (.intro ⟨by omega,by omega⟩ ?_));refine aw aj aa (G:=Nat × Array El) (λ(k,e)=>heapBuild (lt cm) (b-a) a k e=heapBuild (lt cm) (b-a) a ((b-a-1)/2+1) d∧e.size=d.size∧k≤1000000) (λ(k,_)=>[(0,.c (.ow 1000000 SZ d.size)),(3,.c (.fn g [])),(8,.c (nI .i64 a)),(9,.c (eI .i64 0)),(10,.c (nI .i64 (b-a))),(11,.c (eI .i64 ((k:Int)-1)))]) (λ(_,e)=>[(1000000,.row SZ (row e))]) (λ(k,_)=>k)
  ((b-a-1)/2+1,d) ⟨rfl,rfl,by omega⟩ ⟨rfl,rfl,rfl,rfl,rfl,rfl,HJ⟩ ⟨rfl,HJ⟩
  (G2:=Array El) (λe=>e=heapBuild (lt cm) (b-a) a ((b-a-1)/2+1) d∧e.size=d.size) (λ_=>[(0,.c (.ow 1000000 SZ d.size)),(3,.c (.fn g [])),(8,.c (nI .i64 a)),(9,.c (eI .i64 0)),(10,.c (nI .i64 (b-a)))]) (λe=>[(1000000,.row SZ (row e))]) (λ(k,e) hi=>?_) (λe0 he=>?_)
 ·obtain ⟨i1,i2,i3⟩:=hi;refine ah (λh5=>?_) (λh5=>?_)
  ·cases k with
   | zero=>omega
   | succ k=>
    refine X2 (.upd 1000000) ?_;have hs:=sift_ct g cm hc e k (b-a) a (((k+1:Nat):Int)-1) ((b-a:Nat):Int) (by omega) rfl (by omega) (by omega) (by omega);rw[dA,i2]at hs;refine ⟨_,_,hs,?_⟩;refine X1 ((k:Int)-1) (wI (by omega) (by omega) (by omega)) ?_;rw[heapBuild]at i1;exact ⟨(k,siftDown (lt cm) (b-a) a k e),⟨i1,by rw[sift_size g cm hc (b-a) a _ k e (EE _)]; exact i2,by omega⟩,by show k<k+1; omega,⟨rfl,rfl,rfl,rfl,rfl,rfl,HJ⟩,⟨rfl,HJ⟩⟩
  ·have hk:k=0:=by omega
   subst hk;exact ⟨e,⟨i1,i2⟩,⟨rfl,rfl,rfl,rfl,rfl,HJ⟩,⟨rfl,HJ⟩⟩
 ·obtain ⟨e1,e2⟩:=he;have hpop:heapSort (lt cm) d a b=heapPop (lt cm) a (b-a) e0:=by rw[e1]; rfl
  rw[hpop];refine X1 (((b-a:Nat):Int)-1) (wI (by omega) (by omega) (by omega)) ?_;refine ci aj aa (G:=Nat × Array El) (λ(k,e)=>heapPop (lt cm) a k e=heapPop (lt cm) a (b-a) e0∧e.size=d.size∧k≤b-a) (λ(k,_)=>[(0,.c (.ow 1000000 SZ d.size)),(3,.c (.fn g [])),(8,.c (nI .i64 a)),(9,.c (eI .i64 0)),(12,.c (eI .i64 ((k:Int)-1)))]) (λ(_,e)=>[(1000000,.row SZ (row e))]) (λ(k,_)=>k)
   (b-a,e0) ⟨rfl,e2,by omega⟩ ⟨rfl,rfl,rfl,rfl,rfl,HJ⟩ ⟨rfl,HJ⟩ (λ(k,e) hi=>?_)
  obtain ⟨i1,i2,i3⟩:=hi;refine ah (λh5=>?_) (λh5=>?_)
  ·cases k with
   | zero=>omega
   | succ k=>
    refine X1 ((a+k:Nat):Int) (wI (by omega) (by omega) (by omega)) ?_;refine X1 ((a+k:Nat):Int) (wI (by omega) (by omega) (by omega)) ?_;refine .intro (by omega) (.intro (by omega) (X1 _ (row_get (d:=e) (n:=a+k) rfl (by omega)) ?_));refine .intro (by omega) (.intro (by omega) (X1 _ (row_get (d:=e) (n:=a) rfl (by omega)) ?_));refine .intro (by omega) (.intro (by omega) (X1 _ (row_get (d:=e) (n:=a) rfl (by omega)) ?_));refine .intro (by omega) (.intro (by omega) (X1 _ (row_get2 (d:=e) (y:=e[a+k]!) (m:=a) (n:=a+k) rfl rfl (by omega)) ?_));refine .intro rfl ?_;have hs:=sift_ct g cm hc (swp e a (a+k)) 0 k a 0 (((k+1:Nat):Int)-1) rfl (by omega) (by rw[swp_size]; omega) (by omega) (by rw[swp_size]; omega);rw[dA,swp_size,i2,dO,←row_swp (i:=(a:Int)) (j:=((a+k:Nat):Int)) rfl rfl]at hs;refine X2 (.upd 1000000) ?_;refine ⟨_,_,hs,?_⟩;refine X1 ((k:Int)-1) (wI (by omega) (by omega) (by omega)) ?_;rw[heapPop]at i1;exact ⟨(k,siftDown (lt cm) k a 0 (swp e a (a+k))),⟨i1,by rw[sift_size g cm hc k a _ 0 _ (EE _),swp_size]; exact i2,by omega⟩,by show k<k+1; omega,⟨rfl,rfl,rfl,rfl,rfl,HJ⟩,⟨rfl,HJ⟩⟩
  ·have hk:k=0:=by omega
   subst hk;rw[←i1];exact ⟨HJ,SubO.of (l:=[(1000000,.row _ _)]) ⟨rfl,HJ⟩,HJ⟩
end Go.Proofs.YtgceikecdedfcaaGreat.Pv.SrtI
namespace Go.Proofs.YtgceikecdedfcaaGreat.Pv.SrtI
open Go Go.Sort
variable (g:FuncId) (cm:El→El→Int)
def bst (a len m i0:Nat) (d:Array El):Nat→UInt64 × Array El
 | 0=>(UInt64.ofNat len,d)
 | t+1=>breakStep a len m (bst a len m i0 d t) (i0+t)
theorem bst_size (a len m i0:Nat) (d:Array El):∀ t,(bst a len m i0 d t).2.size=d.size
 | 0=>rfl
 | t+1=>by rw[bst,breakStep,swp_size]; exact bst_size a len m i0 d t
theorem break_ct (d:Array El) (a b:Nat) (hab:a+8≤b) (hb:b≤d.size) (hd:d.size≤1000000) :
  CtO P 193 [dO d] [dA d,.c (nI .i64 a),.c (nI .i64 b),.c (.fn g [])] [dO (breakPatterns d a b)] []:=by
 have hbits:=fB (n:=b-a) (by omega);have hm1:1<<<bitsLen (b-a)=2^bitsLen (b-a):=Nat.one_shiftLeft _;have hm2:2^bitsLen (b-a)≤2*(b-a):=by
  rw[iQ];have h1:=qi (n:=b-a) (by omega);have h2:blen (b-a)≠0:=λh=>by
   have:=eH (b-a); rw[h]at this; omega
  have h3:2^blen (b-a)=2*2^(blen (b-a)-1):=by
   rw[←Nat.pow_succ']; congr 1; omega
  omega
 have hm3:0<2^bitsLen (b-a):=Fv _;have hbp:breakPatterns d a b=(bst a (b-a) (1<<<bitsLen (b-a)) (a+(b-a)/4*2-1) d 3).2:=by
  simp only[breakPatterns,if_pos (show b-a≥8 by omega)]; rfl
 have hms:∀ m,m=1<<<bitsLen (b-a)→0<m∧m≤2*(b-a):=λm hm=>by rw[hm,hm1]; exact ⟨hm3,hm2⟩
 refine Ct.io aj aa (N:=67) Tryz.func193 rfl rfl rfl rfl ?_;refine X1 ((b-a:Nat):Int) (wI (by omega) (by omega) (by omega)) ?_;refine ah (λh8=>?_) (λh8=>absurd (show ((b-a:Nat):Int)≥8 by omega) h8);have hlen:(UInt64.ofNat (b-a)).toNat=b-a:=by rw[UInt64.toNat_ofNat']; omega
 refine X1 ((UInt64.ofNat (b-a)).toNat:Int) (by rw[hlen]; exact wU rfl (by omega) (by omega)) ?_;refine X1 _ (uV (b-a) (by omega)) ?_;rw[hbp];have hms':=hms _ rfl;generalize 1<<<bitsLen (b-a)=m at *
 have q4:((b-a:Nat):Int).tdiv 4=(((b-a)/4:Nat):Int):=quo4 rfl;refine .intro (by omega) (X1 _ q4 (.intro ⟨by omega,by omega⟩ ?_));refine X1 (((b-a)/4*2:Nat):Int) (wI (by simp) (by omega) (by omega)) ?_;refine X1 ((a+(b-a)/4*2:Nat):Int) (wI (by simp) (by omega) (by omega)) ?_;refine X1 ((a+(b-a)/4*2-1:Nat):Int) (wI (by omega) (by omega) (by omega)) ?_;refine ci aj aa (G:=Nat) (λt=>t≤3) (λt=>[(0,.c (.ow 1000000 SZ d.size)),(1,.c (nI .i64 a)),(8,.c (nI .i64 (b-a))),(9,.c (.ad 9 0)),(10,.c (nI .u64 m)),(11,.c (nI .i64 (a+(b-a)/4*2-1+t)))]) (λt=>[(9,.var [nI .u64 (bst a (b-a) m (a+(b-a)/4*2-1) d t).1.toNat]),(1000000,.row SZ (row (bst a (b-a) m (a+(b-a)/4*2-1) d t).2))]) (λt=>3-t)
  0 (by omega) ⟨rfl,rfl,rfl,rfl,rfl,rfl,HJ⟩ ⟨rfl,rfl,HJ⟩ (λt ht=>?_)
 have hs:=bst_size a (b-a) m (a+(b-a)/4*2-1) d t;have hst:bst a (b-a) m (a+(b-a)/4*2-1) d (t+1)=breakStep a (b-a) m (bst a (b-a) m (a+(b-a)/4*2-1) d t) (a+(b-a)/4*2-1+t):=rfl;have hend:t=3→(bst a (b-a) m (a+(b-a)/4*2-1) d t).2=(bst a (b-a) m (a+(b-a)/4*2-1) d 3).2:=λh=>by rw[h]
 generalize hst':bst a (b-a) m (a+(b-a)/4*2-1) d t=st at *
 obtain ⟨r,e⟩:=st;simp only at hs;refine .intro (by omega) (X1 _ q4 (.intro ⟨by omega,by omega⟩ ?_));refine X1 (((b-a)/4*2:Nat):Int) (wI (by simp) (by omega) (by omega)) ?_;refine X1 ((a+(b-a)/4*2:Nat):Int) (wI (by simp) (by omega) (by omega)) ?_;refine X1 ((a+(b-a)/4*2+1:Nat):Int) (wI (by simp) (by omega) (by omega)) ?_;refine ah (λh5=>?_) (λh5=>?_)
 ·refine X2 (.upd 9) ?_;refine ⟨_,_,uW r,?_⟩;refine X1 ((m-1:Nat):Int) (wU (by omega) (by omega) (by omega)) ?_;refine X1 _ (DN (xorNext r) (n:=m-1) (by omega)) ?_;have hle:(xorNext r).toNat&&&(m-1)≤m-1:=Nat.and_le_right;rw[breakStep]at hst;simp only at hst;generalize (xorNext r).toNat&&&(m-1)=o at *
  refine X1 ((o:Nat):Int) (wI rfl (by omega) (by omega)) ?_;refine ah (λh6=>?_) (λh6=>?_)
  ·rw[if_pos (by omega)]at hst;refine X1 ((o-(b-a):Nat):Int) (wI (by omega) (by omega) (by omega)) ?_;refine X1 ((a+(o-(b-a)):Nat):Int) (wI (by omega) (by omega) (by omega)) ?_;refine X1 ((a+(o-(b-a)):Nat):Int) (wI (by omega) (by omega) (by omega)) ?_;refine .intro (by omega) (.intro (by omega) (X1 _ (row_get (d:=e) (n:=a+(o-(b-a))) rfl (by omega)) ?_));refine .intro (by omega) (.intro (by omega) (X1 _ (row_get (d:=e) (n:=a+(b-a)/4*2-1+t) rfl (by omega)) ?_));refine .intro (by omega) (.intro (by omega) (X1 _ (row_get (d:=e) (n:=a+(b-a)/4*2-1+t) rfl (by omega)) ?_));refine .intro (by omega) (.intro (by omega) (X1 _ (row_get2 (d:=e) (y:=e[a+(o-(b-a))]!) (m:=a+(b-a)/4*2-1+t) (n:=a+(o-(b-a))) rfl rfl (by omega)) ?_));refine .intro rfl ?_;refine X1 ((a+(b-a)/4*2-1+(t+1):Nat):Int) (wI (by omega) (by omega) (by omega)) ?_;exact ⟨t+1,by omega,by show 3-(t+1)<3-t; omega,⟨rfl,rfl,rfl,rfl,rfl,rfl,HJ⟩,⟨by rw[hst]; rfl,aB (by rw[hst]; exact row_swp (m:=a+(b-a)/4*2-1+t) (n:=a+(o-(b-a))) rfl rfl),HJ⟩⟩
  ·rw[if_neg (by omega)]at hst;refine X1 ((a+o:Nat):Int) (wI (by omega) (by omega) (by omega)) ?_;refine X1 ((a+o:Nat):Int) (wI (by omega) (by omega) (by omega)) ?_;refine .intro (by omega) (.intro (by omega) (X1 _ (row_get (d:=e) (n:=a+o) rfl (by omega)) ?_));refine .intro (by omega) (.intro (by omega) (X1 _ (row_get (d:=e) (n:=a+(b-a)/4*2-1+t) rfl (by omega)) ?_));refine .intro (by omega) (.intro (by omega) (X1 _ (row_get (d:=e) (n:=a+(b-a)/4*2-1+t) rfl (by omega)) ?_));refine .intro (by omega) (.intro (by omega) (X1 _ (row_get2 (d:=e) (y:=e[a+o]!) (m:=a+(b-a)/4*2-1+t) (n:=a+o) rfl rfl (by omega)) ?_));refine .intro rfl ?_;refine X1 ((a+(b-a)/4*2-1+(t+1):Nat):Int) (wI (by omega) (by omega) (by omega)) ?_;exact ⟨t+1,by omega,by show 3-(t+1)<3-t; omega,⟨rfl,rfl,rfl,rfl,rfl,rfl,HJ⟩,⟨by rw[hst]; rfl,aB (by rw[hst]; exact row_swp (m:=a+(b-a)/4*2-1+t) (n:=a+o) rfl rfl),HJ⟩⟩
 ·rw[←hend (by omega)];exact ⟨HJ,SubO.of (l:=[(1000000,.row _ _)]) ⟨rfl,HJ⟩,HJ⟩
section
variable {cm:El→El→Int} {a b i j:Nat} {e:Array El}
theorem scanS_a (h:¬ i<b):scanSorted (lt cm) e b i=i:=by rw[scanSorted,if_neg (by simp; omega)]
theorem scanS_b (h:cm e[i]! e[i-1]! < 0):scanSorted (lt cm) e b i=i:=by rw[scanSorted,if_neg (by simp[lt,h])]
theorem scanS_c (h:i<b) (h2:¬ cm e[i]! e[i-1]! < 0):scanSorted (lt cm) e b i=scanSorted (lt cm) e b (i+1):=by rw[scanSorted,if_pos (by simp[lt]; omega)]
theorem shD_a (h:j<1):shiftDown (lt cm) j e=e:=by
 have:j=0:=by omega
 subst this; rfl
theorem shD_b (h:¬ cm e[j]! e[j-1]! < 0):shiftDown (lt cm) j e=e:=by
 cases j with
 | zero=>rfl
 | succ j=>simp only[F1]at h; rw[shiftDown,if_pos (by simp[lt]; omega)]
theorem shD_c (h0:1≤j) (h:cm e[j]! e[j-1]! < 0):shiftDown (lt cm) j e=shiftDown (lt cm) (j-1) (swp e j (j-1)):=by
 cases j with
 | zero=>omega
 | succ j=>simp only[F1]at h ⊢; rw[shiftDown,if_neg (by simp[lt,h])]
theorem shU_a (h:¬ j<b):shiftUp (lt cm) b j e=e:=by rw[shiftUp,if_neg h]
theorem shU_b (h0:j<b) (h:¬ cm e[j]! e[j-1]! < 0):shiftUp (lt cm) b j e=e:=by rw[shiftUp,if_pos h0,if_pos (by simp[lt]; omega)]
theorem shU_c (h0:j<b) (h:cm e[j]! e[j-1]! < 0):shiftUp (lt cm) b j e=shiftUp (lt cm) b (j+1) (swp e j (j-1)):=by rw[shiftUp,if_pos h0,if_neg (by simp[lt,h])]
end
variable (hc:∀ x y,Ct P g [VL x,VL y] [.c (eI .i64 (cm x y))])
include hc
theorem pIns_ct (d:Array El) (a b:Nat) (hab:a<b) (hb:b≤d.size) (hd:d.size≤1000000) :
  CtO P 196 [dO d] [dA d,.c (nI .i64 a),.c (nI .i64 b),.c (.fn g [])] [dO (partialInsertionSort (lt cm) d a b).1] [.c (.sc (.bool (partialInsertionSort (lt cm) d a b).2))]:=by
 have key:∀ F:Array El × Bool,partialIns (lt cm) a b 5 (a+1) d=F→CtO P 196 [dO d] [dA d,.c (nI .i64 a),.c (nI .i64 b),.c (.fn g [])] [dO F.1] [.c (.sc (.bool F.2))]:=by
  intro F hF;refine Ct.io aj aa (N:=141) Tryz.func196 rfl rfl rfl rfl ?_;refine X1 ((a+1:Nat):Int) (wI (by simp) (by omega) (by omega)) ?_;refine aw aj aa (G:=Nat × Nat × Array El) (λ(s,i,e)=>s≤5∧partialIns (lt cm) a b (5-s) i e=F∧e.size=d.size∧a+1≤i∧i≤b) (λ(s,i,_)=>[(0,.c (.ow 1000000 SZ d.size)),(1,.c (nI .i64 a)),(2,.c (nI .i64 b)),(3,.c (.fn g [])),(9,.c (nI .i64 i)),(10,.c (nI .i64 s))]) (λ(_,_,e)=>[(1000000,.row SZ (row e))]) (λ(s,_,_)=>5-s)
   (0,a+1,d) ⟨by omega,hF,rfl,by omega,by omega⟩ ⟨rfl,rfl,rfl,rfl,rfl,rfl,HJ⟩ ⟨rfl,HJ⟩ (G2:=Array El) (λe=>F=(e,false)) (λ_=>[]) (λe=>[(1000000,.row SZ (row e))]) (λ(s,i,e0) hi=>?_) (λe he=>?_)
  ·obtain ⟨i1,i2,i3,i4,i5⟩:=hi;refine ah (λh5=>?_) (λh5=>?_)
   ·rw[show 5-s=(4-s)+1 by omega,partialIns]at i2;refine aw aj aa (G:=Nat) (λj=>scanSorted (lt cm) e0 b j=scanSorted (lt cm) e0 b i∧i≤j∧j≤b) (λj=>[(0,.c (.ow 1000000 SZ d.size)),(1,.c (nI .i64 a)),(2,.c (nI .i64 b)),(3,.c (.fn g [])),(9,.c (nI .i64 j)),(10,.c (nI .i64 s))]) (λ_=>[(1000000,.row SZ (row e0))]) (λj=>b-j)
     i ⟨rfl,by omega,by omega⟩ ⟨rfl,rfl,rfl,rfl,rfl,rfl,HJ⟩ ⟨rfl,HJ⟩ (G2:=Nat) (λj=>scanSorted (lt cm) e0 b i=j∧i≤j∧j≤b) (λj=>[(0,.c (.ow 1000000 SZ d.size)),(1,.c (nI .i64 a)),(2,.c (nI .i64 b)),(3,.c (.fn g [])),(9,.c (nI .i64 j)),(10,.c (nI .i64 s))]) (λ_=>[(1000000,.row SZ (row e0))]) (λj hj=>?_) (λk hk=>?_)
    ·obtain ⟨j1,j2,j3⟩:=hj;refine ah (λh6=>?_) (λh6=>?_)
     ·refine .intro (by omega) (.intro (by omega) (X1 _ (row_get (n:=j) rfl (by omega)) ?_));refine X1 ((j-1:Nat):Int) (wI (by omega) (by omega) (by omega)) ?_;refine .intro (by omega) (.intro (by omega) (X1 _ (row_get (n:=j-1) rfl (by omega)) ?_));refine X1 _ (hc _ _) ?_;refine .intro rfl ?_;refine aP (λh7=>?_) (λh7=>?_)
      ·have h7':¬ cm e0[j]! e0[j-1]! < 0:=by simpa using h7
       rw[scanS_c (by omega) h7']at j1;refine X1 ((j+1:Nat):Int) (wI (by simp) (by omega) (by omega)) ?_;exact ⟨j+1,⟨j1,by omega,by omega⟩,by omega,⟨rfl,rfl,rfl,rfl,rfl,rfl,HJ⟩,⟨rfl,HJ⟩⟩
      ·have h7':cm e0[j]! e0[j-1]! < 0:=by simpa using h7
       rw[scanS_b h7']at j1;exact ⟨j,⟨j1.symm,j2,j3⟩,⟨rfl,rfl,rfl,rfl,rfl,rfl,HJ⟩,⟨rfl,HJ⟩⟩
     ·refine .intro rfl ?_;rw[scanS_a (by omega)]at j1;exact ⟨j,⟨j1.symm,j2,j3⟩,⟨rfl,rfl,rfl,rfl,rfl,rfl,HJ⟩,⟨rfl,HJ⟩⟩
    ·obtain ⟨k1,k2,k3⟩:=hk;simp only[k1]at i2;refine aU (λh6=>?_) (λh6=>?_)
     ·rw[if_pos (by omega)]at i2;rw[←i2];exact ⟨HJ,SubO.of (l:=[(1000000,.row _ _)]) ⟨rfl,HJ⟩,r1 rfl,HJ⟩
     ·rw[if_neg (by omega)]at i2;refine X1 ((b-a:Nat):Int) (wI (by omega) (by omega) (by omega)) ?_;refine ah (λh7=>?_) (λh7=>?_)
      ·rw[if_pos (by omega)]at i2;rw[←i2];exact ⟨HJ,SubO.of (l:=[(1000000,.row _ _)]) ⟨rfl,HJ⟩,r1 rfl,HJ⟩
      ·rw[if_neg (by omega)]at i2;refine X1 ((k-1:Nat):Int) (wI (by omega) (by omega) (by omega)) ?_;refine X1 ((k-1:Nat):Int) (wI (by omega) (by omega) (by omega)) ?_;refine .intro (by omega) (.intro (by omega) (X1 _ (row_get (d:=e0) (n:=k-1) rfl (by omega)) ?_));refine .intro (by omega) (.intro (by omega) (X1 _ (row_get (d:=e0) (n:=k) rfl (by omega)) ?_));refine .intro (by omega) (.intro (by omega) (X1 _ (row_get (d:=e0) (n:=k) rfl (by omega)) ?_));refine .intro (by omega) (.intro (by omega) (X1 _ (row_get2 (d:=e0) (y:=e0[k-1]!) (m:=k) (n:=k-1) rfl rfl (by omega)) ?_));refine .intro rfl ?_;have hrow:=row_swp (d:=e0) (i:=(k:Int)) (j:=((k-1:Nat):Int)) (m:=k) (n:=k-1) rfl rfl;have hsz:(swp e0 k (k-1)).size=d.size:=by rw[swp_size]; exact i3
       generalize swp e0 k (k-1)=e1 at *
       refine X1 ((k-a:Nat):Int) (wI (by omega) (by omega) (by omega)) ?_;refine ah (λh8=>?_) (λh8=>?_)
       ·rw[if_pos (show k-a≥2 by omega)]at i2;refine X1 ((k-1:Nat):Int) (wI (by omega) (by omega) (by omega)) ?_;refine ci aj aa (G:=Nat × Array El) (λ(j,e)=>shiftDown (lt cm) j e=shiftDown (lt cm) (k-1) e1∧e.size=d.size∧j≤k-1) (λ(j,_)=>[(0,.c (.ow 1000000 SZ d.size)),(1,.c (nI .i64 a)),(2,.c (nI .i64 b)),(3,.c (.fn g [])),(9,.c (nI .i64 k)),(10,.c (nI .i64 s)),(11,.c (nI .i64 j))]) (λ(_,e)=>[(1000000,.row SZ (row e))]) (λ(j,_)=>j)
         (k-1,e1) ⟨rfl,hsz,by omega⟩ ⟨rfl,rfl,rfl,rfl,rfl,rfl,rfl,HJ⟩ ⟨aB hrow,HJ⟩ (λ(j,e) hj=>?_)
        obtain ⟨j1,j2,j3⟩:=hj;refine ah (λh9=>?_) (λh9=>?_)
        ·refine .intro (by omega) (.intro (by omega) (X1 _ (row_get (n:=j) rfl (by omega)) ?_));refine X1 ((j-1:Nat):Int) (wI (by omega) (by omega) (by omega)) ?_;refine .intro (by omega) (.intro (by omega) (X1 _ (row_get (n:=j-1) rfl (by omega)) ?_));refine X1 _ (hc _ _) ?_;refine .intro rfl ?_;refine aP (λha=>?_) (λha=>?_)
         ·have ha':¬ cm e[j]! e[j-1]! < 0:=by simpa using ha
          rw[shD_b ha']at j1;rw[←j1]at i2;refine X1 ((b-k:Nat):Int) (wI (by omega) (by omega) (by omega)) ?_;refine ah (λhb8=>?_) (λhb8=>?_)
          ·rw[if_pos (show b-k≥2 by omega)]at i2;refine X1 ((k+1:Nat):Int) (wI (by simp) (by omega) (by omega)) ?_;refine ci aj aa (G:=Nat × Array El) (λ(j,e')=>shiftUp (lt cm) b j e'=shiftUp (lt cm) b (k+1) e∧e'.size=d.size∧k+1≤j∧j≤b) (λ(j,_)=>[(0,.c (.ow 1000000 SZ d.size)),(1,.c (nI .i64 a)),(2,.c (nI .i64 b)),(3,.c (.fn g [])),(9,.c (nI .i64 k)),(10,.c (nI .i64 s)),(12,.c (nI .i64 j))]) (λ(_,e')=>[(1000000,.row SZ (row e'))]) (λ(j,_)=>b-j)
            (k+1,e) ⟨rfl,j2,by omega,by omega⟩ ⟨rfl,rfl,rfl,rfl,rfl,rfl,rfl,HJ⟩ ⟨rfl,HJ⟩ (λ(q,e') hq=>?_)
           obtain ⟨q1,q2,q3,q4⟩:=hq;have fin:∀ e2:Array El,shiftUp (lt cm) b (k+1) e=e2→e2.size=d.size→s+1≤5∧partialIns (lt cm) a b (5-(s+1)) k e2=F∧e2.size=d.size∧a+1≤k∧k≤b:=λe2 g1 g2=>⟨by omega,by rw[←g1,show 5-(s+1)=4-s by omega]; exact i2,g2,by omega,by omega⟩
           refine ah (λhb9=>?_) (λhb9=>?_)
           ·refine .intro (by omega) (.intro (by omega) (X1 _ (row_get (n:=q) rfl (by omega)) ?_));refine X1 ((q-1:Nat):Int) (wI (by omega) (by omega) (by omega)) ?_;refine .intro (by omega) (.intro (by omega) (X1 _ (row_get (n:=q-1) rfl (by omega)) ?_));refine X1 _ (hc _ _) ?_;refine .intro rfl ?_;refine aP (λhba=>?_) (λhba=>?_)
            ·have hba':¬ cm e'[q]! e'[q-1]! < 0:=by simpa using hba
             rw[shU_b (by omega) hba']at q1;refine X1 ((s+1:Nat):Int) (wI (by simp) (by omega) (by omega)) ?_;exact ⟨(s+1,k,e'),fin e' q1.symm q2,by show 5-(s+1)<5-s; omega,⟨rfl,rfl,rfl,rfl,rfl,rfl,HJ⟩,⟨rfl,HJ⟩⟩
            ·have hba':cm e'[q]! e'[q-1]! < 0:=by simpa using hba
             rw[shU_c (by omega) hba']at q1;refine X1 ((q-1:Nat):Int) (wI (by omega) (by omega) (by omega)) ?_;refine X1 ((q-1:Nat):Int) (wI (by omega) (by omega) (by omega)) ?_;refine .intro (by omega) (.intro (by omega) (X1 _ (row_get (d:=e') (n:=q-1) rfl (by omega)) ?_));refine .intro (by omega) (.intro (by omega) (X1 _ (row_get (d:=e') (n:=q) rfl (by omega)) ?_));refine .intro (by omega) (.intro (by omega) (X1 _ (row_get (d:=e') (n:=q) rfl (by omega)) ?_));refine .intro (by omega) (.intro (by omega) (X1 _ (row_get2 (d:=e') (y:=e'[q-1]!) (m:=q) (n:=q-1) rfl rfl (by omega)) ?_));refine .intro rfl ?_;refine X1 ((q+1:Nat):Int) (wI (by simp) (by omega) (by omega)) ?_;exact ⟨(q+1,swp e' q (q-1)),⟨q1,by rw[swp_size]; exact q2,by omega,by omega⟩,by show b-(q+1)<b-q; omega,⟨rfl,rfl,rfl,rfl,rfl,rfl,rfl,HJ⟩,⟨aB (row_swp (m:=q) (n:=q-1) rfl rfl),HJ⟩⟩
           ·rw[shU_a (by omega)]at q1;refine X1 ((s+1:Nat):Int) (wI (by simp) (by omega) (by omega)) ?_;exact ⟨(s+1,k,e'),fin e' q1.symm q2,by show 5-(s+1)<5-s; omega,⟨rfl,rfl,rfl,rfl,rfl,rfl,HJ⟩,⟨rfl,HJ⟩⟩
          ·rw[if_neg (show ¬ b-k≥2 by omega)]at i2;refine X1 ((s+1:Nat):Int) (wI (by simp) (by omega) (by omega)) ?_;exact ⟨(s+1,k,e),⟨by omega,by rw[show 5-(s+1)=4-s by omega]; exact i2,j2,by omega,by omega⟩,by show 5-(s+1)<5-s; omega,⟨rfl,rfl,rfl,rfl,rfl,rfl,HJ⟩,⟨rfl,HJ⟩⟩
         ·have ha':cm e[j]! e[j-1]! < 0:=by simpa using ha
          rw[shD_c (by omega) ha']at j1;refine X1 ((j-1:Nat):Int) (wI (by omega) (by omega) (by omega)) ?_;refine X1 ((j-1:Nat):Int) (wI (by omega) (by omega) (by omega)) ?_;refine .intro (by omega) (.intro (by omega) (X1 _ (row_get (d:=e) (n:=j-1) rfl (by omega)) ?_));refine .intro (by omega) (.intro (by omega) (X1 _ (row_get (d:=e) (n:=j) rfl (by omega)) ?_));refine .intro (by omega) (.intro (by omega) (X1 _ (row_get (d:=e) (n:=j) rfl (by omega)) ?_));refine .intro (by omega) (.intro (by omega) (X1 _ (row_get2 (d:=e) (y:=e[j-1]!) (m:=j) (n:=j-1) rfl rfl (by omega)) ?_));refine .intro rfl ?_;refine X1 ((j-1:Nat):Int) (wI (by omega) (by omega) (by omega)) ?_;exact ⟨(j-1,swp e j (j-1)),⟨j1,by rw[swp_size]; exact j2,by omega⟩,by show j-1<j; omega,⟨rfl,rfl,rfl,rfl,rfl,rfl,rfl,HJ⟩,⟨aB (row_swp (m:=j) (n:=j-1) rfl rfl),HJ⟩⟩
        ·rw[shD_a (by omega)]at j1;rw[←j1]at i2;refine X1 ((b-k:Nat):Int) (wI (by omega) (by omega) (by omega)) ?_;refine ah (λhb8=>?_) (λhb8=>?_)
         ·rw[if_pos (show b-k≥2 by omega)]at i2;refine X1 ((k+1:Nat):Int) (wI (by simp) (by omega) (by omega)) ?_;refine ci aj aa (G:=Nat × Array El) (λ(j,e')=>shiftUp (lt cm) b j e'=shiftUp (lt cm) b (k+1) e∧e'.size=d.size∧k+1≤j∧j≤b) (λ(j,_)=>[(0,.c (.ow 1000000 SZ d.size)),(1,.c (nI .i64 a)),(2,.c (nI .i64 b)),(3,.c (.fn g [])),(9,.c (nI .i64 k)),(10,.c (nI .i64 s)),(12,.c (nI .i64 j))]) (λ(_,e')=>[(1000000,.row SZ (row e'))]) (λ(j,_)=>b-j)
           (k+1,e) ⟨rfl,j2,by omega,by omega⟩ ⟨rfl,rfl,rfl,rfl,rfl,rfl,rfl,HJ⟩ ⟨rfl,HJ⟩ (λ(q,e') hq=>?_)
          obtain ⟨q1,q2,q3,q4⟩:=hq;have fin:∀ e2:Array El,shiftUp (lt cm) b (k+1) e=e2→e2.size=d.size→s+1≤5∧partialIns (lt cm) a b (5-(s+1)) k e2=F∧e2.size=d.size∧a+1≤k∧k≤b:=λe2 g1 g2=>⟨by omega,by rw[←g1,show 5-(s+1)=4-s by omega]; exact i2,g2,by omega,by omega⟩
          refine ah (λhb9=>?_) (λhb9=>?_)
          ·refine .intro (by omega) (.intro (by omega) (X1 _ (row_get (n:=q) rfl (by omega)) ?_));refine X1 ((q-1:Nat):Int) (wI (by omega) (by omega) (by omega)) ?_;refine .intro (by omega) (.intro (by omega) (X1 _ (row_get (n:=q-1) rfl (by omega)) ?_));refine X1 _ (hc _ _) ?_;refine .intro rfl ?_;refine aP (λhba=>?_) (λhba=>?_)
           ·have hba':¬ cm e'[q]! e'[q-1]! < 0:=by simpa using hba
            rw[shU_b (by omega) hba']at q1;refine X1 ((s+1:Nat):Int) (wI (by simp) (by omega) (by omega)) ?_;exact ⟨(s+1,k,e'),fin e' q1.symm q2,by show 5-(s+1)<5-s; omega,⟨rfl,rfl,rfl,rfl,rfl,rfl,HJ⟩,⟨rfl,HJ⟩⟩
           ·have hba':cm e'[q]! e'[q-1]! < 0:=by simpa using hba
            rw[shU_c (by omega) hba']at q1;refine X1 ((q-1:Nat):Int) (wI (by omega) (by omega) (by omega)) ?_;refine X1 ((q-1:Nat):Int) (wI (by omega) (by omega) (by omega)) ?_;refine .intro (by omega) (.intro (by omega) (X1 _ (row_get (d:=e') (n:=q-1) rfl (by omega)) ?_));refine .intro (by omega) (.intro (by omega) (X1 _ (row_get (d:=e') (n:=q) rfl (by omega)) ?_));refine .intro (by omega) (.intro (by omega) (X1 _ (row_get (d:=e') (n:=q) rfl (by omega)) ?_));refine .intro (by omega) (.intro (by omega) (X1 _ (row_get2 (d:=e') (y:=e'[q-1]!) (m:=q) (n:=q-1) rfl rfl (by omega)) ?_));refine .intro rfl ?_;refine X1 ((q+1:Nat):Int) (wI (by simp) (by omega) (by omega)) ?_;exact ⟨(q+1,swp e' q (q-1)),⟨q1,by rw[swp_size]; exact q2,by omega,by omega⟩,by show b-(q+1)<b-q; omega,⟨rfl,rfl,rfl,rfl,rfl,rfl,rfl,HJ⟩,⟨aB (row_swp (m:=q) (n:=q-1) rfl rfl),HJ⟩⟩
          ·rw[shU_a (by omega)]at q1;refine X1 ((s+1:Nat):Int) (wI (by simp) (by omega) (by omega)) ?_;exact ⟨(s+1,k,e'),fin e' q1.symm q2,by show 5-(s+1)<5-s; omega,⟨rfl,rfl,rfl,rfl,rfl,rfl,HJ⟩,⟨rfl,HJ⟩⟩
         ·rw[if_neg (show ¬ b-k≥2 by omega)]at i2;refine X1 ((s+1:Nat):Int) (wI (by simp) (by omega) (by omega)) ?_;exact ⟨(s+1,k,e),⟨by omega,by rw[show 5-(s+1)=4-s by omega]; exact i2,j2,by omega,by omega⟩,by show 5-(s+1)<5-s; omega,⟨rfl,rfl,rfl,rfl,rfl,rfl,HJ⟩,⟨rfl,HJ⟩⟩
       ·rw[if_neg (show ¬ k-a≥2 by omega)]at i2;refine X1 ((b-k:Nat):Int) (wI (by omega) (by omega) (by omega)) ?_;refine ah (λhb8=>?_) (λhb8=>?_)
        ·rw[if_pos (show b-k≥2 by omega)]at i2;refine X1 ((k+1:Nat):Int) (wI (by simp) (by omega) (by omega)) ?_;refine ci aj aa (G:=Nat × Array El) (λ(j,e')=>shiftUp (lt cm) b j e'=shiftUp (lt cm) b (k+1) e1∧e'.size=d.size∧k+1≤j∧j≤b) (λ(j,_)=>[(0,.c (.ow 1000000 SZ d.size)),(1,.c (nI .i64 a)),(2,.c (nI .i64 b)),(3,.c (.fn g [])),(9,.c (nI .i64 k)),(10,.c (nI .i64 s)),(12,.c (nI .i64 j))]) (λ(_,e')=>[(1000000,.row SZ (row e'))]) (λ(j,_)=>b-j)
          (k+1,e1) ⟨rfl,hsz,by omega,by omega⟩ ⟨rfl,rfl,rfl,rfl,rfl,rfl,rfl,HJ⟩ ⟨aB hrow,HJ⟩ (λ(q,e') hq=>?_)
         obtain ⟨q1,q2,q3,q4⟩:=hq;have fin:∀ e2:Array El,shiftUp (lt cm) b (k+1) e1=e2→e2.size=d.size→s+1≤5∧partialIns (lt cm) a b (5-(s+1)) k e2=F∧e2.size=d.size∧a+1≤k∧k≤b:=λe2 g1 g2=>⟨by omega,by rw[←g1,show 5-(s+1)=4-s by omega]; exact i2,g2,by omega,by omega⟩
         refine ah (λhb9=>?_) (λhb9=>?_)
         ·refine .intro (by omega) (.intro (by omega) (X1 _ (row_get (n:=q) rfl (by omega)) ?_));refine X1 ((q-1:Nat):Int) (wI (by omega) (by omega) (by omega)) ?_;refine .intro (by omega) (.intro (by omega) (X1 _ (row_get (n:=q-1) rfl (by omega)) ?_));refine X1 _ (hc _ _) ?_;refine .intro rfl ?_;refine aP (λhba=>?_) (λhba=>?_)
          ·have hba':¬ cm e'[q]! e'[q-1]! < 0:=by simpa using hba
           rw[shU_b (by omega) hba']at q1;refine X1 ((s+1:Nat):Int) (wI (by simp) (by omega) (by omega)) ?_;exact ⟨(s+1,k,e'),fin e' q1.symm q2,by show 5-(s+1)<5-s; omega,⟨rfl,rfl,rfl,rfl,rfl,rfl,HJ⟩,⟨rfl,HJ⟩⟩
          ·have hba':cm e'[q]! e'[q-1]! < 0:=by simpa using hba
           rw[shU_c (by omega) hba']at q1;refine X1 ((q-1:Nat):Int) (wI (by omega) (by omega) (by omega)) ?_;refine X1 ((q-1:Nat):Int) (wI (by omega) (by omega) (by omega)) ?_;refine .intro (by omega) (.intro (by omega) (X1 _ (row_get (d:=e') (n:=q-1) rfl (by omega)) ?_));refine .intro (by omega) (.intro (by omega) (X1 _ (row_get (d:=e') (n:=q) rfl (by omega)) ?_));refine .intro (by omega) (.intro (by omega) (X1 _ (row_get (d:=e') (n:=q) rfl (by omega)) ?_));refine .intro (by omega) (.intro (by omega) (X1 _ (row_get2 (d:=e') (y:=e'[q-1]!) (m:=q) (n:=q-1) rfl rfl (by omega)) ?_));refine .intro rfl ?_;refine X1 ((q+1:Nat):Int) (wI (by simp) (by omega) (by omega)) ?_;exact ⟨(q+1,swp e' q (q-1)),⟨q1,by rw[swp_size]; exact q2,by omega,by omega⟩,by show b-(q+1)<b-q; omega,⟨rfl,rfl,rfl,rfl,rfl,rfl,rfl,HJ⟩,⟨aB (row_swp (m:=q) (n:=q-1) rfl rfl),HJ⟩⟩
         ·rw[shU_a (by omega)]at q1;refine X1 ((s+1:Nat):Int) (wI (by simp) (by omega) (by omega)) ?_;exact ⟨(s+1,k,e'),fin e' q1.symm q2,by show 5-(s+1)<5-s; omega,⟨rfl,rfl,rfl,rfl,rfl,rfl,HJ⟩,⟨rfl,HJ⟩⟩
        ·rw[if_neg (show ¬ b-k≥2 by omega)]at i2;refine X1 ((s+1:Nat):Int) (wI (by simp) (by omega) (by omega)) ?_;exact ⟨(s+1,k,e1),⟨by omega,by rw[show 5-(s+1)=4-s by omega]; exact i2,hsz,by omega,by omega⟩,by show 5-(s+1)<5-s; omega,⟨rfl,rfl,rfl,rfl,rfl,rfl,HJ⟩,⟨aB hrow,HJ⟩⟩
   ·rw[show 5-s=0 by omega,partialIns]at i2;exact ⟨e0,i2.symm,HJ,⟨rfl,HJ⟩⟩
  ·rw[he];exact ⟨HJ,SubO.of (l:=[(1000000,.row _ _)]) ⟨rfl,HJ⟩,r1 rfl,HJ⟩
 exact key _ rfl
end Go.Proofs.YtgceikecdedfcaaGreat.Pv.SrtI
namespace Go.Proofs.YtgceikecdedfcaaGreat.Pv.SrtI
open Go Go.Sort
section
variable {p:El→Bool} {e:Array El} {i j:Nat}
theorem sUp_a (h:¬ i≤j):scanUp p e j i=i:=by rw[scanUp,if_neg (by simp; omega)]
theorem sUp_b (h:p e[i]! = false):scanUp p e j i=i:=by rw[scanUp,if_neg (by simp[h])]
theorem sUp_c (h:i≤j) (h2:p e[i]! = true):scanUp p e j i=scanUp p e j (i+1):=by rw[scanUp,if_pos (by simp[h2]; omega)]
theorem sDn_a (h:¬ i≤j):scanDown p e i j=j:=by
 cases j with
 | zero=>rfl
 | succ j=>rw[scanDown,if_neg (by simp; omega)]
theorem sDn_b (h:p e[j]! = false):scanDown p e i j=j:=by
 cases j with
 | zero=>rfl
 | succ j=>rw[scanDown,if_neg (by simp[h])]
theorem sDn_c (h0:1≤j) (h:i≤j) (h2:p e[j]! = true):scanDown p e i j=scanDown p e i (j-1):=by
 cases j with
 | zero=>omega
 | succ j=>rw[scanDown,if_pos (by simp[h2]; omega)]; rfl
end
variable {cm:El→El→Int}
theorem pEqL {a i j i2 j2:Nat} {e:Array El} (hi2:scanUp (λx=>!lt cm e[a]! x) e j i=i2) (hj2:scanDown (λx=>lt cm e[a]! x) e i2 j=j2):partEqLoop (lt cm) a i j e=if i2>j2 then (i2,e) else if _h:(j2-1)+1-(i2+1)<j+1-i then partEqLoop (lt cm) a (i2+1) (j2-1) (swp e i2 j2) else (i2,e):=by
 subst hi2 hj2;rw[partEqLoop]
theorem pL {a i j i2 j2:Nat} {e:Array El} (hi2:scanUp (λx=>lt cm x e[a]!) e j i=i2) (hj2:scanDown (λx=>!lt cm x e[a]!) e i2 j=j2):partLoop (lt cm) a i j e=if i2>j2 then (j2,e) else if _h:(j2-1)+1-(i2+1)<j+1-i then partLoop (lt cm) a (i2+1) (j2-1) (swp e i2 j2) else (j2,e):=by
 subst hi2 hj2;rw[partLoop]
variable (g:FuncId) (cm)
variable (hc:∀ x y,Ct P g [VL x,VL y] [.c (eI .i64 (cm x y))])
include hc
theorem pEq_ct (d:Array El) (a b p:Nat) (hab:a<b) (hp:p<d.size) (hb:b≤d.size) (hd:d.size≤1000000) :
  CtO P 197 [dO d] [dA d,.c (nI .i64 a),.c (nI .i64 b),.c (nI .i64 p),.c (.fn g [])] [dO (partitionEqual (lt cm) d a b p).2] [.c (nI .i64 (partitionEqual (lt cm) d a b p).1)]:=by
 have key:∀ F:Nat × Array El,partEqLoop (lt cm) a (a+1) (b-1) (swp d a p)=F→CtO P 197 [dO d] [dA d,.c (nI .i64 a),.c (nI .i64 b),.c (nI .i64 p),.c (.fn g [])] [dO F.2] [.c (nI .i64 F.1)]:=by
  intro F hF;refine Ct.io aj aa (N:=90) Tryz.func197 rfl rfl rfl rfl ?_;refine .intro (by omega) (.intro (by omega) (X1 _ (row_get (d:=d) (n:=p) rfl (by omega)) ?_));refine .intro (by omega) (.intro (by omega) (X1 _ (row_get (d:=d) (n:=a) rfl (by omega)) ?_));refine .intro (by omega) (.intro (by omega) (X1 _ (row_get (d:=d) (n:=a) rfl (by omega)) ?_));refine .intro (by omega) (.intro (by omega) (X1 _ (row_get2 (d:=d) (y:=d[p]!) (m:=a) (n:=p) rfl rfl (by omega)) ?_));refine .intro rfl ?_;refine X1 ((a+1:Nat):Int) (wI (by simp) (by omega) (by omega)) ?_;refine X1 ((b-1:Nat):Int) (wI (by omega) (by omega) (by omega)) ?_;refine aw aj aa (G:=Nat × Nat × Array El) (λ(i,j,e)=>partEqLoop (lt cm) a i j e=F∧e.size=d.size∧1≤i∧j<d.size∧i≤j+2) (λ(i,j,_)=>[(0,.c (.ow 1000000 SZ d.size)),(1,.c (nI .i64 a)),(4,.c (.fn g [])),(11,.c (nI .i64 i)),(12,.c (nI .i64 j))]) (λ(_,_,e)=>[(1000000,.row SZ (row e))]) (λ(i,j,_)=>j+1-i)
   (a+1,b-1,swp d a p) ⟨hF,swp_size,by omega,by omega,by omega⟩ ⟨rfl,rfl,rfl,rfl,rfl,HJ⟩ ⟨aB (row_swp (m:=a) (n:=p) rfl rfl),HJ⟩ (G2:=Nat × Array El) (λ(i,e)=>F=(i,e)) (λ(i,_)=>[(11,.c (nI .i64 i))]) (λ(_,e)=>[(1000000,.row SZ (row e))]) (λ(i,j,e) hi=>?_) (λ(i,e) he=>?_)
  ·obtain ⟨i1,i2,i3,i4,i5⟩:=hi;refine aw aj aa (G:=Nat) (λq=>scanUp (λx=>!lt cm e[a]! x) e j q=scanUp (λx=>!lt cm e[a]! x) e j i∧i≤q∧(q≤j+1∨q=i)) (λq=>[(0,.c (.ow 1000000 SZ d.size)),(1,.c (nI .i64 a)),(4,.c (.fn g [])),(11,.c (nI .i64 q)),(12,.c (nI .i64 j))]) (λ_=>[(1000000,.row SZ (row e))]) (λq=>j+1-q)
    i ⟨rfl,by omega,by omega⟩ ⟨rfl,rfl,rfl,rfl,rfl,HJ⟩ ⟨rfl,HJ⟩ (G2:=Nat) (λq=>scanUp (λx=>!lt cm e[a]! x) e j i=q∧i≤q∧(q≤j+1∨q=i)) (λq=>[(0,.c (.ow 1000000 SZ d.size)),(1,.c (nI .i64 a)),(4,.c (.fn g [])),(11,.c (nI .i64 q)),(12,.c (nI .i64 j))]) (λ_=>[(1000000,.row SZ (row e))]) (λq hq=>?_) (λk hk=>?_)
   ·obtain ⟨q1,q2,q3⟩:=hq;refine ah (λh6=>?_) (λh6=>?_)
    ·refine .intro (by omega) (.intro (by omega) (X1 _ (row_get (d:=e) (n:=a) rfl (by omega)) ?_));refine .intro (by omega) (.intro (by omega) (X1 _ (row_get (d:=e) (n:=q) rfl (by omega)) ?_));refine X1 _ (hc _ _) ?_;refine .intro rfl ?_;refine aP (λh7=>?_) (λh7=>?_)
     ·have h7p:(!lt cm e[a]! e[q]!)=true:=h7;rw[sUp_c (p:=(λx=>!lt cm e[a]! x)) (e:=e) (i:=q) (by omega) h7p]at q1;refine X1 ((q+1:Nat):Int) (wI (by simp) (by omega) (by omega)) ?_;exact ⟨q+1,⟨q1,by omega,by omega⟩,by show j+1-(q+1)<j+1-q; omega,⟨rfl,rfl,rfl,rfl,rfl,HJ⟩,⟨rfl,HJ⟩⟩
     ·have h7p:(!lt cm e[a]! e[q]!)=false:=h7;rw[sUp_b (p:=(λx=>!lt cm e[a]! x)) (e:=e) (i:=q) h7p]at q1;exact ⟨q,⟨q1.symm,q2,q3⟩,⟨rfl,rfl,rfl,rfl,rfl,HJ⟩,⟨rfl,HJ⟩⟩
    ·refine .intro rfl ?_;rw[sUp_a (by omega)]at q1;exact ⟨q,⟨q1.symm,q2,q3⟩,⟨rfl,rfl,rfl,rfl,rfl,HJ⟩,⟨rfl,HJ⟩⟩
   ·obtain ⟨k1,k2,k3⟩:=hk;refine aw aj aa (G:=Nat) (λq=>scanDown (λx=>lt cm e[a]! x) e k q=scanDown (λx=>lt cm e[a]! x) e k j∧q≤j∧(k≤q+1∨q=j)) (λq=>[(0,.c (.ow 1000000 SZ d.size)),(1,.c (nI .i64 a)),(4,.c (.fn g [])),(11,.c (nI .i64 k)),(12,.c (nI .i64 q))]) (λ_=>[(1000000,.row SZ (row e))]) (λq=>q)
     j ⟨rfl,by omega,by omega⟩ ⟨rfl,rfl,rfl,rfl,rfl,HJ⟩ ⟨rfl,HJ⟩ (G2:=Nat) (λq=>scanDown (λx=>lt cm e[a]! x) e k j=q∧q≤j∧(k≤q+1∨q=j)) (λq=>[(0,.c (.ow 1000000 SZ d.size)),(1,.c (nI .i64 a)),(4,.c (.fn g [])),(11,.c (nI .i64 k)),(12,.c (nI .i64 q))]) (λ_=>[(1000000,.row SZ (row e))]) (λq hq=>?_) (λr hr=>?_)
    ·obtain ⟨q1,q2,q3⟩:=hq;refine ah (λh6=>?_) (λh6=>?_)
     ·refine .intro (by omega) (.intro (by omega) (X1 _ (row_get (d:=e) (n:=a) rfl (by omega)) ?_));refine .intro (by omega) (.intro (by omega) (X1 _ (row_get (d:=e) (n:=q) rfl (by omega)) ?_));refine X1 _ (hc _ _) ?_;refine .intro rfl ?_;refine aP (λh7=>?_) (λh7=>?_)
      ·have h7p:lt cm e[a]! e[q]! = true:=h7;rw[sDn_c (p:=(λx=>lt cm e[a]! x)) (e:=e) (j:=q) (by omega) (by omega) h7p]at q1;refine X1 ((q-1:Nat):Int) (wI (by omega) (by omega) (by omega)) ?_;exact ⟨q-1,⟨q1,by omega,by omega⟩,by show q-1<q; omega,⟨rfl,rfl,rfl,rfl,rfl,HJ⟩,⟨rfl,HJ⟩⟩
      ·have h7p:lt cm e[a]! e[q]! = false:=h7;rw[sDn_b (p:=(λx=>lt cm e[a]! x)) (e:=e) (j:=q) h7p]at q1;exact ⟨q,⟨q1.symm,q2,q3⟩,⟨rfl,rfl,rfl,rfl,rfl,HJ⟩,⟨rfl,HJ⟩⟩
     ·refine .intro rfl ?_;rw[sDn_a (by omega)]at q1;exact ⟨q,⟨q1.symm,q2,q3⟩,⟨rfl,rfl,rfl,rfl,rfl,HJ⟩,⟨rfl,HJ⟩⟩
    ·obtain ⟨r1',r2',r3'⟩:=hr;rw[pEqL k1 r1']at i1;refine ah (λh8=>?_) (λh8=>?_)
     ·rw[if_pos (by omega)]at i1;exact ⟨(k,e),i1.symm,⟨rfl,HJ⟩,⟨rfl,HJ⟩⟩
     ·rw[if_neg (by omega),dif_pos (by omega)]at i1;refine .intro (by omega) (.intro (by omega) (X1 _ (row_get (d:=e) (n:=r) rfl (by omega)) ?_));refine .intro (by omega) (.intro (by omega) (X1 _ (row_get (d:=e) (n:=k) rfl (by omega)) ?_));refine .intro (by omega) (.intro (by omega) (X1 _ (row_get (d:=e) (n:=k) rfl (by omega)) ?_));refine .intro (by omega) (.intro (by omega) (X1 _ (row_get2 (d:=e) (y:=e[r]!) (m:=k) (n:=r) rfl rfl (by omega)) ?_));refine .intro rfl ?_;refine X1 ((k+1:Nat):Int) (wI (by simp) (by omega) (by omega)) ?_;refine X1 ((r-1:Nat):Int) (wI (by omega) (by omega) (by omega)) ?_;exact ⟨(k+1,r-1,swp e k r),⟨i1,by rw[swp_size]; exact i2,by omega,by omega,by omega⟩,by show r-1+1-(k+1)<j+1-i; omega,⟨rfl,rfl,rfl,rfl,rfl,HJ⟩,⟨aB (row_swp (m:=k) (n:=r) rfl rfl),HJ⟩⟩
  ·rw[he];exact ⟨HJ,SubO.of (l:=[(1000000,.row _ _)]) ⟨rfl,HJ⟩,r1 rfl,HJ⟩
 exact key _ rfl
theorem part_ct (d:Array El) (a b p:Nat) (hab:a<b) (hp:p<d.size) (hb:b≤d.size) (hd:d.size≤1000000) :
  CtO P 198 [dO d] [dA d,.c (nI .i64 a),.c (nI .i64 b),.c (nI .i64 p),.c (.fn g [])] [dO (partition (lt cm) d a b p).2.2] [.c (nI .i64 (partition (lt cm) d a b p).1),.c (.sc (.bool (partition (lt cm) d a b p).2.1))]:=by
 have key:∀ e0:Array El,swp d a p=e0→CtO P 198 [dO d] [dA d,.c (nI .i64 a),.c (nI .i64 b),.c (nI .i64 p),.c (.fn g [])] [dO (partition (lt cm) d a b p).2.2] [.c (nI .i64 (partition (lt cm) d a b p).1),.c (.sc (.bool (partition (lt cm) d a b p).2.1))]:=by
  intro e0 he0;have hpt:partition (lt cm) d a b p=(if scanUp (λx=>lt cm x e0[a]!) e0 (b-1) (a+1)>scanDown (λx=>!lt cm x e0[a]!) e0 (scanUp (λx=>lt cm x e0[a]!) e0 (b-1) (a+1)) (b-1) then (scanDown (λx=>!lt cm x e0[a]!) e0 (scanUp (λx=>lt cm x e0[a]!) e0 (b-1) (a+1)) (b-1),true,swp e0 (scanDown (λx=>!lt cm x e0[a]!) e0 (scanUp (λx=>lt cm x e0[a]!) e0 (b-1) (a+1)) (b-1)) a) else
    ((partLoop (lt cm) a (scanUp (λx=>lt cm x e0[a]!) e0 (b-1) (a+1)+1) (scanDown (λx=>!lt cm x e0[a]!) e0 (scanUp (λx=>lt cm x e0[a]!) e0 (b-1) (a+1)) (b-1)-1) (swp e0 (scanUp (λx=>lt cm x e0[a]!) e0 (b-1) (a+1)) (scanDown (λx=>!lt cm x e0[a]!) e0 (scanUp (λx=>lt cm x e0[a]!) e0 (b-1) (a+1)) (b-1)))).1,false,swp (partLoop (lt cm) a (scanUp (λx=>lt cm x e0[a]!) e0 (b-1) (a+1)+1) (scanDown (λx=>!lt cm x e0[a]!) e0 (scanUp (λx=>lt cm x e0[a]!) e0 (b-1) (a+1)) (b-1)-1) (swp e0 (scanUp (λx=>lt cm x e0[a]!) e0 (b-1) (a+1)) (scanDown (λx=>!lt cm x e0[a]!) e0 (scanUp (λx=>lt cm x e0[a]!) e0 (b-1) (a+1)) (b-1)))).2 (partLoop (lt cm) a (scanUp (λx=>lt cm x e0[a]!) e0 (b-1) (a+1)+1) (scanDown (λx=>!lt cm x e0[a]!) e0 (scanUp (λx=>lt cm x e0[a]!) e0 (b-1) (a+1)) (b-1)-1) (swp e0 (scanUp (λx=>lt cm x e0[a]!) e0 (b-1) (a+1)) (scanDown (λx=>!lt cm x e0[a]!) e0 (scanUp (λx=>lt cm x e0[a]!) e0 (b-1) (a+1)) (b-1)))).1 a)):=by
   rw[←he0]; rfl
  have hs0:e0.size=d.size:=by rw[←he0,swp_size]
  refine Ct.io aj aa (N:=178) Tryz.func198 rfl rfl rfl rfl ?_;refine .intro (by omega) (.intro (by omega) (X1 _ (row_get (d:=d) (n:=p) rfl (by omega)) ?_));refine .intro (by omega) (.intro (by omega) (X1 _ (row_get (d:=d) (n:=a) rfl (by omega)) ?_));refine .intro (by omega) (.intro (by omega) (X1 _ (row_get (d:=d) (n:=a) rfl (by omega)) ?_));refine .intro (by omega) (.intro (by omega) (X1 _ (row_get2 (d:=d) (y:=d[p]!) (m:=a) (n:=p) rfl rfl (by omega)) ?_));refine .intro rfl ?_;have hrow:=row_swp (d:=d) (i:=(a:Int)) (j:=(p:Int)) (m:=a) (n:=p) rfl rfl;rw[he0]at hrow;refine X1 ((a+1:Nat):Int) (wI (by simp) (by omega) (by omega)) ?_;refine X1 ((b-1:Nat):Int) (wI (by omega) (by omega) (by omega)) ?_;refine aw aj aa (G:=Nat) (λq=>scanUp (λx=>lt cm x e0[a]!) e0 (b-1) q=scanUp (λx=>lt cm x e0[a]!) e0 (b-1) (a+1)∧(a+1)≤q∧(q≤(b-1)+1∨q=(a+1))) (λq=>[(0,.c (.ow 1000000 SZ d.size)),(1,.c (nI .i64 a)),(4,.c (.fn g [])),(12,.c (nI .i64 q)),(13,.c (nI .i64 (b-1)))]) (λ_=>[(1000000,.row SZ (row e0))]) (λq=>(b-1)+1-q)
   (a+1) ⟨rfl,by omega,by omega⟩ ⟨rfl,rfl,rfl,rfl,rfl,HJ⟩ ⟨aB hrow,HJ⟩ (G2:=Nat) (λq=>scanUp (λx=>lt cm x e0[a]!) e0 (b-1) (a+1)=q∧(a+1)≤q∧(q≤(b-1)+1∨q=(a+1))) (λq=>[(0,.c (.ow 1000000 SZ d.size)),(1,.c (nI .i64 a)),(4,.c (.fn g [])),(12,.c (nI .i64 q)),(13,.c (nI .i64 (b-1)))]) (λ_=>[(1000000,.row SZ (row e0))]) (λq hq=>?_) (λk hk=>?_)
  ·obtain ⟨q1,q2,q3⟩:=hq;refine ah (λh6=>?_) (λh6=>?_)
   ·refine .intro (by omega) (.intro (by omega) (X1 _ (row_get (d:=e0) (n:=q) rfl (by omega)) ?_));refine .intro (by omega) (.intro (by omega) (X1 _ (row_get (d:=e0) (n:=a) rfl (by omega)) ?_));refine X1 _ (hc _ _) ?_;refine .intro rfl ?_;refine aP (λh7=>?_) (λh7=>?_)
    ·have h7p:lt cm e0[q]! e0[a]! = true:=h7;rw[sUp_c (p:=(λx=>lt cm x e0[a]!)) (e:=e0) (i:=q) (by omega) h7p]at q1;refine X1 ((q+1:Nat):Int) (wI (by simp) (by omega) (by omega)) ?_;exact ⟨q+1,⟨q1,by omega,by omega⟩,by show (b-1)+1-(q+1)<(b-1)+1-q; omega,⟨rfl,rfl,rfl,rfl,rfl,HJ⟩,⟨rfl,HJ⟩⟩
    ·have h7p:lt cm e0[q]! e0[a]! = false:=h7;rw[sUp_b (p:=(λx=>lt cm x e0[a]!)) (e:=e0) (i:=q) h7p]at q1;exact ⟨q,⟨q1.symm,q2,q3⟩,⟨rfl,rfl,rfl,rfl,rfl,HJ⟩,⟨rfl,HJ⟩⟩
   ·refine .intro rfl ?_;rw[sUp_a (by omega)]at q1;exact ⟨q,⟨q1.symm,q2,q3⟩,⟨rfl,rfl,rfl,rfl,rfl,HJ⟩,⟨rfl,HJ⟩⟩
  ·obtain ⟨k1,k2,k3⟩:=hk;refine aw aj aa (G:=Nat) (λq=>scanDown (λx=>!lt cm x e0[a]!) e0 k q=scanDown (λx=>!lt cm x e0[a]!) e0 k (b-1)∧q≤(b-1)∧(k≤q+1∨q=(b-1))) (λq=>[(0,.c (.ow 1000000 SZ d.size)),(1,.c (nI .i64 a)),(4,.c (.fn g [])),(12,.c (nI .i64 k)),(13,.c (nI .i64 q))]) (λ_=>[(1000000,.row SZ (row e0))]) (λq=>q)
    (b-1) ⟨rfl,by omega,by omega⟩ ⟨rfl,rfl,rfl,rfl,rfl,HJ⟩ ⟨rfl,HJ⟩ (G2:=Nat) (λq=>scanDown (λx=>!lt cm x e0[a]!) e0 k (b-1)=q∧q≤(b-1)∧(k≤q+1∨q=(b-1))) (λq=>[(0,.c (.ow 1000000 SZ d.size)),(1,.c (nI .i64 a)),(4,.c (.fn g [])),(12,.c (nI .i64 k)),(13,.c (nI .i64 q))]) (λ_=>[(1000000,.row SZ (row e0))]) (λq hq=>?_) (λr hr=>?_)
   ·obtain ⟨q1,q2,q3⟩:=hq;refine ah (λh6=>?_) (λh6=>?_)
    ·refine .intro (by omega) (.intro (by omega) (X1 _ (row_get (d:=e0) (n:=q) rfl (by omega)) ?_));refine .intro (by omega) (.intro (by omega) (X1 _ (row_get (d:=e0) (n:=a) rfl (by omega)) ?_));refine X1 _ (hc _ _) ?_;refine .intro rfl ?_;refine aP (λh7=>?_) (λh7=>?_)
     ·have h7p:(!lt cm e0[q]! e0[a]!)=true:=h7;rw[sDn_c (p:=(λx=>!lt cm x e0[a]!)) (e:=e0) (j:=q) (by omega) (by omega) h7p]at q1;refine X1 ((q-1:Nat):Int) (wI (by omega) (by omega) (by omega)) ?_;exact ⟨q-1,⟨q1,by omega,by omega⟩,by show q-1<q; omega,⟨rfl,rfl,rfl,rfl,rfl,HJ⟩,⟨rfl,HJ⟩⟩
     ·have h7p:(!lt cm e0[q]! e0[a]!)=false:=h7;rw[sDn_b (p:=(λx=>!lt cm x e0[a]!)) (e:=e0) (j:=q) h7p]at q1;exact ⟨q,⟨q1.symm,q2,q3⟩,⟨rfl,rfl,rfl,rfl,rfl,HJ⟩,⟨rfl,HJ⟩⟩
    ·refine .intro rfl ?_;rw[sDn_a (by omega)]at q1;exact ⟨q,⟨q1.symm,q2,q3⟩,⟨rfl,rfl,rfl,rfl,rfl,HJ⟩,⟨rfl,HJ⟩⟩
   ·obtain ⟨s1,s2,s3⟩:=hr;rw[k1,s1]at hpt;refine ah (λh8=>?_) (λh8=>?_)
    ·rw[if_pos (by omega)]at hpt;rw[hpt];refine .intro (by omega) (.intro (by omega) (X1 _ (row_get (d:=e0) (n:=a) rfl (by omega)) ?_));refine .intro (by omega) (.intro (by omega) (X1 _ (row_get (d:=e0) (n:=r) rfl (by omega)) ?_));refine .intro (by omega) (.intro (by omega) (X1 _ (row_get (d:=e0) (n:=r) rfl (by omega)) ?_));refine .intro (by omega) (.intro (by omega) (X1 _ (row_get2 (d:=e0) (y:=e0[a]!) (m:=r) (n:=a) rfl rfl (by omega)) ?_));refine .intro rfl ?_;exact ⟨HJ,SubO.of (l:=[(1000000,.row _ _)]) ⟨aB (row_swp (m:=r) (n:=a) rfl rfl),HJ⟩,r1 rfl,r1 rfl,HJ⟩
    ·rw[if_neg (by omega)]at hpt;rw[hpt];refine .intro (by omega) (.intro (by omega) (X1 _ (row_get (d:=e0) (n:=r) rfl (by omega)) ?_));refine .intro (by omega) (.intro (by omega) (X1 _ (row_get (d:=e0) (n:=k) rfl (by omega)) ?_));refine .intro (by omega) (.intro (by omega) (X1 _ (row_get (d:=e0) (n:=k) rfl (by omega)) ?_));refine .intro (by omega) (.intro (by omega) (X1 _ (row_get2 (d:=e0) (y:=e0[r]!) (m:=k) (n:=r) rfl rfl (by omega)) ?_));refine .intro rfl ?_;have hrow2:=row_swp (d:=e0) (i:=(k:Int)) (j:=(r:Int)) (m:=k) (n:=r) rfl rfl;have hs1:(swp e0 k r).size=d.size:=by rw[swp_size]; exact hs0
     generalize swp e0 k r=e1 at *
     generalize hF:partLoop (lt cm) a (k+1) (r-1) e1=F at *
     refine X1 ((k+1:Nat):Int) (wI (by simp) (by omega) (by omega)) ?_;refine X1 ((r-1:Nat):Int) (wI (by omega) (by omega) (by omega)) ?_;refine aw aj aa (G:=Nat × Nat × Array El) (λ(i,j,e)=>partLoop (lt cm) a i j e=F∧e.size=d.size∧1≤i∧j<d.size∧i≤j+2) (λ(i,j,_)=>[(0,.c (.ow 1000000 SZ d.size)),(1,.c (nI .i64 a)),(4,.c (.fn g [])),(12,.c (nI .i64 i)),(13,.c (nI .i64 j))]) (λ(_,_,e)=>[(1000000,.row SZ (row e))]) (λ(i,j,_)=>j+1-i)
      (k+1,r-1,e1) ⟨hF,hs1,by omega,by omega,by omega⟩ ⟨rfl,rfl,rfl,rfl,rfl,HJ⟩ ⟨aB hrow2,HJ⟩ (G2:=Nat × Array El) (λ(j,e)=>F=(j,e)∧j<d.size∧e.size=d.size) (λ(j,_)=>[(0,.c (.ow 1000000 SZ d.size)),(1,.c (nI .i64 a)),(13,.c (nI .i64 j))]) (λ(_,e)=>[(1000000,.row SZ (row e))]) (λ(i,j,e) hi=>?_) (λ(j,e) he=>?_)
     ·obtain ⟨i1,i2,i3,i4,i5⟩:=hi;refine aw aj aa (G:=Nat) (λq=>scanUp (λx=>lt cm x e[a]!) e j q=scanUp (λx=>lt cm x e[a]!) e j i∧i≤q∧(q≤j+1∨q=i)) (λq=>[(0,.c (.ow 1000000 SZ d.size)),(1,.c (nI .i64 a)),(4,.c (.fn g [])),(12,.c (nI .i64 q)),(13,.c (nI .i64 j))]) (λ_=>[(1000000,.row SZ (row e))]) (λq=>j+1-q)
       i ⟨rfl,by omega,by omega⟩ ⟨rfl,rfl,rfl,rfl,rfl,HJ⟩ ⟨rfl,HJ⟩ (G2:=Nat) (λq=>scanUp (λx=>lt cm x e[a]!) e j i=q∧i≤q∧(q≤j+1∨q=i)) (λq=>[(0,.c (.ow 1000000 SZ d.size)),(1,.c (nI .i64 a)),(4,.c (.fn g [])),(12,.c (nI .i64 q)),(13,.c (nI .i64 j))]) (λ_=>[(1000000,.row SZ (row e))]) (λq hq=>?_) (λu hu=>?_)
      ·obtain ⟨q1,q2,q3⟩:=hq;refine ah (λh6=>?_) (λh6=>?_)
       ·refine .intro (by omega) (.intro (by omega) (X1 _ (row_get (d:=e) (n:=q) rfl (by omega)) ?_));refine .intro (by omega) (.intro (by omega) (X1 _ (row_get (d:=e) (n:=a) rfl (by omega)) ?_));refine X1 _ (hc _ _) ?_;refine .intro rfl ?_;refine aP (λh7=>?_) (λh7=>?_)
        ·have h7p:lt cm e[q]! e[a]! = true:=h7;rw[sUp_c (p:=(λx=>lt cm x e[a]!)) (e:=e) (i:=q) (by omega) h7p]at q1;refine X1 ((q+1:Nat):Int) (wI (by simp) (by omega) (by omega)) ?_;exact ⟨q+1,⟨q1,by omega,by omega⟩,by show j+1-(q+1)<j+1-q; omega,⟨rfl,rfl,rfl,rfl,rfl,HJ⟩,⟨rfl,HJ⟩⟩
        ·have h7p:lt cm e[q]! e[a]! = false:=h7;rw[sUp_b (p:=(λx=>lt cm x e[a]!)) (e:=e) (i:=q) h7p]at q1;exact ⟨q,⟨q1.symm,q2,q3⟩,⟨rfl,rfl,rfl,rfl,rfl,HJ⟩,⟨rfl,HJ⟩⟩
       ·refine .intro rfl ?_;rw[sUp_a (by omega)]at q1;exact ⟨q,⟨q1.symm,q2,q3⟩,⟨rfl,rfl,rfl,rfl,rfl,HJ⟩,⟨rfl,HJ⟩⟩
      ·obtain ⟨u1,u2,u3⟩:=hu;refine aw aj aa (G:=Nat) (λq=>scanDown (λx=>!lt cm x e[a]!) e u q=scanDown (λx=>!lt cm x e[a]!) e u j∧q≤j∧(u≤q+1∨q=j)) (λq=>[(0,.c (.ow 1000000 SZ d.size)),(1,.c (nI .i64 a)),(4,.c (.fn g [])),(12,.c (nI .i64 u)),(13,.c (nI .i64 q))]) (λ_=>[(1000000,.row SZ (row e))]) (λq=>q)
        j ⟨rfl,by omega,by omega⟩ ⟨rfl,rfl,rfl,rfl,rfl,HJ⟩ ⟨rfl,HJ⟩ (G2:=Nat) (λq=>scanDown (λx=>!lt cm x e[a]!) e u j=q∧q≤j∧(u≤q+1∨q=j)) (λq=>[(0,.c (.ow 1000000 SZ d.size)),(1,.c (nI .i64 a)),(4,.c (.fn g [])),(12,.c (nI .i64 u)),(13,.c (nI .i64 q))]) (λ_=>[(1000000,.row SZ (row e))]) (λq hq=>?_) (λv hv=>?_)
       ·obtain ⟨q1,q2,q3⟩:=hq;refine ah (λh6=>?_) (λh6=>?_)
        ·refine .intro (by omega) (.intro (by omega) (X1 _ (row_get (d:=e) (n:=q) rfl (by omega)) ?_));refine .intro (by omega) (.intro (by omega) (X1 _ (row_get (d:=e) (n:=a) rfl (by omega)) ?_));refine X1 _ (hc _ _) ?_;refine .intro rfl ?_;refine aP (λh7=>?_) (λh7=>?_)
         ·have h7p:(!lt cm e[q]! e[a]!)=true:=h7;rw[sDn_c (p:=(λx=>!lt cm x e[a]!)) (e:=e) (j:=q) (by omega) (by omega) h7p]at q1;refine X1 ((q-1:Nat):Int) (wI (by omega) (by omega) (by omega)) ?_;exact ⟨q-1,⟨q1,by omega,by omega⟩,by show q-1<q; omega,⟨rfl,rfl,rfl,rfl,rfl,HJ⟩,⟨rfl,HJ⟩⟩
         ·have h7p:(!lt cm e[q]! e[a]!)=false:=h7;rw[sDn_b (p:=(λx=>!lt cm x e[a]!)) (e:=e) (j:=q) h7p]at q1;exact ⟨q,⟨q1.symm,q2,q3⟩,⟨rfl,rfl,rfl,rfl,rfl,HJ⟩,⟨rfl,HJ⟩⟩
        ·refine .intro rfl ?_;rw[sDn_a (by omega)]at q1;exact ⟨q,⟨q1.symm,q2,q3⟩,⟨rfl,rfl,rfl,rfl,rfl,HJ⟩,⟨rfl,HJ⟩⟩
       ·obtain ⟨v1,v2,v3⟩:=hv;rw[pL u1 v1]at i1;refine ah (λh8=>?_) (λh8=>?_)
        ·rw[if_pos (by omega)]at i1;exact ⟨(v,e),⟨i1.symm,by omega,i2⟩,⟨rfl,rfl,rfl,HJ⟩,⟨rfl,HJ⟩⟩
        ·rw[if_neg (by omega),dif_pos (by omega)]at i1;refine .intro (by omega) (.intro (by omega) (X1 _ (row_get (d:=e) (n:=v) rfl (by omega)) ?_));refine .intro (by omega) (.intro (by omega) (X1 _ (row_get (d:=e) (n:=u) rfl (by omega)) ?_));refine .intro (by omega) (.intro (by omega) (X1 _ (row_get (d:=e) (n:=u) rfl (by omega)) ?_));refine .intro (by omega) (.intro (by omega) (X1 _ (row_get2 (d:=e) (y:=e[v]!) (m:=u) (n:=v) rfl rfl (by omega)) ?_));refine .intro rfl ?_;refine X1 ((u+1:Nat):Int) (wI (by simp) (by omega) (by omega)) ?_;refine X1 ((v-1:Nat):Int) (wI (by omega) (by omega) (by omega)) ?_;exact ⟨(u+1,v-1,swp e u v),⟨i1,by rw[swp_size]; exact i2,by omega,by omega,by omega⟩,by show v-1+1-(u+1)<j+1-i; omega,⟨rfl,rfl,rfl,rfl,rfl,HJ⟩,⟨aB (row_swp (m:=u) (n:=v) rfl rfl),HJ⟩⟩
     ·obtain ⟨g1,g2,g3⟩:=he;rw[g1];refine .intro (by omega) (.intro (by omega) (X1 _ (row_get (d:=e) (n:=a) rfl (by omega)) ?_));refine .intro (by omega) (.intro (by omega) (X1 _ (row_get (d:=e) (n:=j) rfl (by omega)) ?_));refine .intro (by omega) (.intro (by omega) (X1 _ (row_get (d:=e) (n:=j) rfl (by omega)) ?_));refine .intro (by omega) (.intro (by omega) (X1 _ (row_get2 (d:=e) (y:=e[a]!) (m:=j) (n:=a) rfl rfl (by omega)) ?_));refine .intro rfl ?_;exact ⟨HJ,SubO.of (l:=[(1000000,.row _ _)]) ⟨aB (row_swp (m:=j) (n:=a) rfl rfl),HJ⟩,r1 rfl,r1 rfl,HJ⟩
 exact key _ rfl
end Go.Proofs.YtgceikecdedfcaaGreat.Pv.SrtI
