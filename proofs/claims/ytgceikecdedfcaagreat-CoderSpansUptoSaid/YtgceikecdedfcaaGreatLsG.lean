/- Parts of a proof, joined: PvTy Da Cc Cf Fj Hr Ch Cn Co. -/
import Derived.Test.YtgceikecdedfcaaGreatLsF
import Derived.Test.YtgceikecdedfcaaGreatChecked
import Derived.KernelRfl
import Derived.Shelf.Spec.BitsCarry
import Derived.Test.YtgceikecdedfcaaGreatRows
import Derived.ProofKit
import Derived.OpenShut
import Derived.Carry
namespace Go.Proofs.YtgceikecdedfcaaGreat.Pv
open Go
section
set_option maxRecDepth 100000
def ty1:TD:=⟨.oth,1,8,false,[.nilFunc]⟩
theorem CF:ty1.ok Tryz.prog 1:=⟨⟨by kernel_rfl,by kernel_rfl⟩,HJ⟩
def ty2:TD:=⟨.int .i64,1,8,false,[.int .i64 0]⟩
theorem CG:ty2.ok Tryz.prog 2:=⟨⟨by kernel_rfl,by kernel_rfl⟩,(show Tryz.prog.underlying 2=some (.int .i64) by kernel_rfl)⟩
def ty3:TD:=⟨.int .i64,1,8,false,[.int .i64 0]⟩
theorem CH:ty3.ok Tryz.prog 3:=⟨⟨by kernel_rfl,by kernel_rfl⟩,(show Tryz.prog.underlying 3=some (.int .i64) by kernel_rfl)⟩
def ty4:TD:=⟨.bool,1,1,false,[.bool false]⟩
theorem CI:ty4.ok Tryz.prog 4:=⟨⟨by kernel_rfl,by kernel_rfl⟩,(show Tryz.prog.underlying 4=some .bool by kernel_rfl)⟩
def ty5:TD:=⟨.int .u8,1,1,false,[.int .u8 0]⟩
theorem CJ:ty5.ok Tryz.prog 5:=⟨⟨by kernel_rfl,by kernel_rfl⟩,(show Tryz.prog.underlying 5=some (.int .u8) by kernel_rfl)⟩
def ty6:TD:=⟨.int .u8,1,1,false,[.int .u8 0]⟩
theorem CK:ty6.ok Tryz.prog 6:=⟨⟨by kernel_rfl,by kernel_rfl⟩,(show Tryz.prog.underlying 6=some (.int .u8) by kernel_rfl)⟩
def ty7:TD:=⟨.st [(0,2,1),(1,3,1),(2,4,1),(3,6,1)],4,24,true,[.int .i64 0,.int .i64 0,.bool false,.int .u8 0]⟩
theorem CL:ty7.ok Tryz.prog 7:=⟨⟨by kernel_rfl,by kernel_rfl⟩,⟨λf off ft n h=>by
  match f,h with
  | 0,h=>cases h; exact ⟨by kernel_rfl⟩
  | 1,h=>cases h; exact ⟨by kernel_rfl⟩
  | 2,h=>cases h; exact ⟨by kernel_rfl⟩
  | 3,h=>cases h; exact ⟨by kernel_rfl⟩
  | f+4,h=>simp at h,⟨by kernel_rfl⟩⟩⟩
def ty8:TD:=⟨.st [(0,2,1),(1,3,1),(2,4,1),(3,6,1)],4,24,true,[.int .i64 0,.int .i64 0,.bool false,.int .u8 0]⟩
theorem CM:ty8.ok Tryz.prog 8:=⟨⟨by kernel_rfl,by kernel_rfl⟩,⟨λf off ft n h=>by
  match f,h with
  | 0,h=>cases h; exact ⟨by kernel_rfl⟩
  | 1,h=>cases h; exact ⟨by kernel_rfl⟩
  | 2,h=>cases h; exact ⟨by kernel_rfl⟩
  | 3,h=>cases h; exact ⟨by kernel_rfl⟩
  | f+4,h=>simp at h,⟨by kernel_rfl⟩⟩⟩
def ty9:TD:=⟨.str,1,16,false,[.string .empty]⟩
theorem CN:ty9.ok Tryz.prog 9:=⟨⟨by kernel_rfl,by kernel_rfl⟩,(show Tryz.prog.underlying 9=some .string by kernel_rfl)⟩
def ty10:TD:=⟨.str,1,16,false,[.string .empty]⟩
theorem Av:ty10.ok Tryz.prog 10:=⟨⟨by kernel_rfl,by kernel_rfl⟩,(show Tryz.prog.underlying 10=some .string by kernel_rfl)⟩
def ty11:TD:=⟨.str,1,16,false,[.string .empty]⟩
theorem Aw:ty11.ok Tryz.prog 11:=⟨⟨by kernel_rfl,by kernel_rfl⟩,(show Tryz.prog.underlying 11=some .string by kernel_rfl)⟩
def ty16:TD:=⟨.ptr 270,1,8,false,[.pointer none]⟩
theorem Ax:ty16.ok Tryz.prog 16:=⟨⟨by kernel_rfl,by kernel_rfl⟩,(show Tryz.prog.underlying 16=some (.pointer 270) by kernel_rfl)⟩
def ty22:TD:=⟨.sl 3,1,24,false,[.slice none 0 0]⟩
theorem Ay:ty22.ok Tryz.prog 22:=⟨⟨by kernel_rfl,by kernel_rfl⟩,⟨by kernel_rfl⟩⟩
def ty26:TD:=⟨.ptr 133,1,8,false,[.pointer none]⟩
theorem Az:ty26.ok Tryz.prog 26:=⟨⟨by kernel_rfl,by kernel_rfl⟩,(show Tryz.prog.underlying 26=some (.pointer 133) by kernel_rfl)⟩
def ty27:TD:=⟨.sl 134,1,24,false,[.slice none 0 0]⟩
theorem AA:ty27.ok Tryz.prog 27:=⟨⟨by kernel_rfl,by kernel_rfl⟩,⟨by kernel_rfl⟩⟩
def ty28:TD:=⟨.sl 150,1,24,false,[.slice none 0 0]⟩
theorem AB:ty28.ok Tryz.prog 28:=⟨⟨by kernel_rfl,by kernel_rfl⟩,⟨by kernel_rfl⟩⟩
def ty29:TD:=⟨.st [(0,27,1),(1,3,1),(2,28,1)],3,56,true,[.slice none 0 0,.int .i64 0,.slice none 0 0]⟩
theorem AC:ty29.ok Tryz.prog 29:=⟨⟨by kernel_rfl,by kernel_rfl⟩,⟨λf off ft n h=>by
  match f,h with
  | 0,h=>cases h; exact ⟨by kernel_rfl⟩
  | 1,h=>cases h; exact ⟨by kernel_rfl⟩
  | 2,h=>cases h; exact ⟨by kernel_rfl⟩
  | f+3,h=>simp at h,⟨by kernel_rfl⟩⟩⟩
def ty30:TD:=⟨.st [(0,27,1),(1,3,1),(2,28,1)],3,56,true,[.slice none 0 0,.int .i64 0,.slice none 0 0]⟩
theorem AD:ty30.ok Tryz.prog 30:=⟨⟨by kernel_rfl,by kernel_rfl⟩,⟨λf off ft n h=>by
  match f,h with
  | 0,h=>cases h; exact ⟨by kernel_rfl⟩
  | 1,h=>cases h; exact ⟨by kernel_rfl⟩
  | 2,h=>cases h; exact ⟨by kernel_rfl⟩
  | f+3,h=>simp at h,⟨by kernel_rfl⟩⟩⟩
def ty32:TD:=⟨.oth,1,8,false,[.nilFunc]⟩
theorem AE:ty32.ok Tryz.prog 32:=⟨⟨by kernel_rfl,by kernel_rfl⟩,HJ⟩
def ty33:TD:=⟨.ptr 97,1,8,false,[.pointer none]⟩
theorem AF:ty33.ok Tryz.prog 33:=⟨⟨by kernel_rfl,by kernel_rfl⟩,(show Tryz.prog.underlying 33=some (.pointer 97) by kernel_rfl)⟩
def ty34:TD:=⟨.int .i64,1,8,false,[.int .i64 0]⟩
theorem AG:ty34.ok Tryz.prog 34:=⟨⟨by kernel_rfl,by kernel_rfl⟩,(show Tryz.prog.underlying 34=some (.int .i64) by kernel_rfl)⟩
def ty38:TD:=⟨.oth,1,8,false,[.nilFunc]⟩
theorem AH:ty38.ok Tryz.prog 38:=⟨⟨by kernel_rfl,by kernel_rfl⟩,HJ⟩
def ty40:TD:=⟨.int .u64,1,8,false,[.int .u64 0]⟩
theorem AI:ty40.ok Tryz.prog 40:=⟨⟨by kernel_rfl,by kernel_rfl⟩,(show Tryz.prog.underlying 40=some (.int .u64) by kernel_rfl)⟩
def ty47:TD:=⟨.oth,1,8,false,[.nilFunc]⟩
theorem AJ:ty47.ok Tryz.prog 47:=⟨⟨by kernel_rfl,by kernel_rfl⟩,HJ⟩
def ty50:TD:=⟨.st [(0,22,1),(1,22,1)],2,48,true,[.slice none 0 0,.slice none 0 0]⟩
theorem AK:ty50.ok Tryz.prog 50:=⟨⟨by kernel_rfl,by kernel_rfl⟩,⟨λf off ft n h=>by
  match f,h with
  | 0,h=>cases h; exact ⟨by kernel_rfl⟩
  | 1,h=>cases h; exact ⟨by kernel_rfl⟩
  | f+2,h=>simp at h,⟨by kernel_rfl⟩⟩⟩
def ty51:TD:=⟨.st [(0,22,1),(1,22,1)],2,48,true,[.slice none 0 0,.slice none 0 0]⟩
theorem AL:ty51.ok Tryz.prog 51:=⟨⟨by kernel_rfl,by kernel_rfl⟩,⟨λf off ft n h=>by
  match f,h with
  | 0,h=>cases h; exact ⟨by kernel_rfl⟩
  | 1,h=>cases h; exact ⟨by kernel_rfl⟩
  | f+2,h=>simp at h,⟨by kernel_rfl⟩⟩⟩
def ty52:TD:=⟨.st [(0,51,2),(2,51,2)],4,96,true,[.slice none 0 0,.slice none 0 0,.slice none 0 0,.slice none 0 0]⟩
theorem AM:ty52.ok Tryz.prog 52:=⟨⟨by kernel_rfl,by kernel_rfl⟩,⟨λf off ft n h=>by
  match f,h with
  | 0,h=>cases h; exact ⟨by kernel_rfl⟩
  | 1,h=>cases h; exact ⟨by kernel_rfl⟩
  | f+2,h=>simp at h,⟨by kernel_rfl⟩⟩⟩
def ty53:TD:=⟨.st [(0,51,2),(2,51,2)],4,96,true,[.slice none 0 0,.slice none 0 0,.slice none 0 0,.slice none 0 0]⟩
theorem AN:ty53.ok Tryz.prog 53:=⟨⟨by kernel_rfl,by kernel_rfl⟩,⟨λf off ft n h=>by
  match f,h with
  | 0,h=>cases h; exact ⟨by kernel_rfl⟩
  | 1,h=>cases h; exact ⟨by kernel_rfl⟩
  | f+2,h=>simp at h,⟨by kernel_rfl⟩⟩⟩
def ty58:TD:=⟨.sl 40,1,24,false,[.slice none 0 0]⟩
theorem AO:ty58.ok Tryz.prog 58:=⟨⟨by kernel_rfl,by kernel_rfl⟩,⟨by kernel_rfl⟩⟩
def ty60:TD:=⟨.oth,1,8,false,[.nilFunc]⟩
theorem AP:ty60.ok Tryz.prog 60:=⟨⟨by kernel_rfl,by kernel_rfl⟩,HJ⟩
def ty62:TD:=⟨.int .u16,1,2,false,[.int .u16 0]⟩
theorem AQ:ty62.ok Tryz.prog 62:=⟨⟨by kernel_rfl,by kernel_rfl⟩,(show Tryz.prog.underlying 62=some (.int .u16) by kernel_rfl)⟩
def ty64:TD:=⟨.st [(0,58,1)],1,24,true,[.slice none 0 0]⟩
theorem AR:ty64.ok Tryz.prog 64:=⟨⟨by kernel_rfl,by kernel_rfl⟩,⟨λf off ft n h=>by
  match f,h with
  | 0,h=>cases h; exact ⟨by kernel_rfl⟩
  | f+1,h=>simp at h,⟨by kernel_rfl⟩⟩⟩
def ty65:TD:=⟨.st [(0,58,1)],1,24,true,[.slice none 0 0]⟩
theorem AS:ty65.ok Tryz.prog 65:=⟨⟨by kernel_rfl,by kernel_rfl⟩,⟨λf off ft n h=>by
  match f,h with
  | 0,h=>cases h; exact ⟨by kernel_rfl⟩
  | f+1,h=>simp at h,⟨by kernel_rfl⟩⟩⟩
def ty66:TD:=⟨.st [(0,65,1),(1,65,1)],2,48,true,[.slice none 0 0,.slice none 0 0]⟩
theorem AT:ty66.ok Tryz.prog 66:=⟨⟨by kernel_rfl,by kernel_rfl⟩,⟨λf off ft n h=>by
  match f,h with
  | 0,h=>cases h; exact ⟨by kernel_rfl⟩
  | 1,h=>cases h; exact ⟨by kernel_rfl⟩
  | f+2,h=>simp at h,⟨by kernel_rfl⟩⟩⟩
def ty67:TD:=⟨.st [(0,65,1),(1,65,1)],2,48,true,[.slice none 0 0,.slice none 0 0]⟩
theorem AU:ty67.ok Tryz.prog 67:=⟨⟨by kernel_rfl,by kernel_rfl⟩,⟨λf off ft n h=>by
  match f,h with
  | 0,h=>cases h; exact ⟨by kernel_rfl⟩
  | 1,h=>cases h; exact ⟨by kernel_rfl⟩
  | f+2,h=>simp at h,⟨by kernel_rfl⟩⟩⟩
def ty83:TD:=⟨.sl 9,1,24,false,[.slice none 0 0]⟩
theorem AW:ty83.ok Tryz.prog 83:=⟨⟨by kernel_rfl,by kernel_rfl⟩,⟨by kernel_rfl⟩⟩
def ty86:TD:=⟨.sl 22,1,24,false,[.slice none 0 0]⟩
theorem AX:ty86.ok Tryz.prog 86:=⟨⟨by kernel_rfl,by kernel_rfl⟩,⟨by kernel_rfl⟩⟩
def ty91:TD:=⟨.st [(0,67,2),(2,67,2)],4,96,true,[.slice none 0 0,.slice none 0 0,.slice none 0 0,.slice none 0 0]⟩
theorem AY:ty91.ok Tryz.prog 91:=⟨⟨by kernel_rfl,by kernel_rfl⟩,⟨λf off ft n h=>by
  match f,h with
  | 0,h=>cases h; exact ⟨by kernel_rfl⟩
  | 1,h=>cases h; exact ⟨by kernel_rfl⟩
  | f+2,h=>simp at h,⟨by kernel_rfl⟩⟩⟩
def ty92:TD:=⟨.st [(0,67,2),(2,67,2)],4,96,true,[.slice none 0 0,.slice none 0 0,.slice none 0 0,.slice none 0 0]⟩
theorem AZ:ty92.ok Tryz.prog 92:=⟨⟨by kernel_rfl,by kernel_rfl⟩,⟨λf off ft n h=>by
  match f,h with
  | 0,h=>cases h; exact ⟨by kernel_rfl⟩
  | 1,h=>cases h; exact ⟨by kernel_rfl⟩
  | f+2,h=>simp at h,⟨by kernel_rfl⟩⟩⟩
def ty96:TD:=⟨.st [(0,58,1),(1,3,1)],2,32,true,[.slice none 0 0,.int .i64 0]⟩
theorem A3:ty96.ok Tryz.prog 96:=⟨⟨by kernel_rfl,by kernel_rfl⟩,⟨λf off ft n h=>by
  match f,h with
  | 0,h=>cases h; exact ⟨by kernel_rfl⟩
  | 1,h=>cases h; exact ⟨by kernel_rfl⟩
  | f+2,h=>simp at h,⟨by kernel_rfl⟩⟩⟩
def ty97:TD:=⟨.st [(0,58,1),(1,3,1)],2,32,true,[.slice none 0 0,.int .i64 0]⟩
theorem A4:ty97.ok Tryz.prog 97:=⟨⟨by kernel_rfl,by kernel_rfl⟩,⟨λf off ft n h=>by
  match f,h with
  | 0,h=>cases h; exact ⟨by kernel_rfl⟩
  | 1,h=>cases h; exact ⟨by kernel_rfl⟩
  | f+2,h=>simp at h,⟨by kernel_rfl⟩⟩⟩
def ty98:TD:=⟨.int .u64,1,8,false,[.int .u64 0]⟩
theorem A5:ty98.ok Tryz.prog 98:=⟨⟨by kernel_rfl,by kernel_rfl⟩,(show Tryz.prog.underlying 98=some (.int .u64) by kernel_rfl)⟩
def ty107:TD:=⟨.oth,1,8,false,[.nilFunc]⟩
theorem xF:ty107.ok Tryz.prog 107:=⟨⟨by kernel_rfl,by kernel_rfl⟩,HJ⟩
def ty110:TD:=⟨.oth,1,8,false,[.nilFunc]⟩
theorem xG:ty110.ok Tryz.prog 110:=⟨⟨by kernel_rfl,by kernel_rfl⟩,HJ⟩
def ty115:TD:=⟨.oth,1,8,false,[.nilFunc]⟩
theorem xH:ty115.ok Tryz.prog 115:=⟨⟨by kernel_rfl,by kernel_rfl⟩,HJ⟩
def ty116:TD:=⟨.oth,1,8,false,[.nilFunc]⟩
theorem xI:ty116.ok Tryz.prog 116:=⟨⟨by kernel_rfl,by kernel_rfl⟩,HJ⟩
def ty117:TD:=⟨.oth,1,8,false,[.nilFunc]⟩
theorem xJ:ty117.ok Tryz.prog 117:=⟨⟨by kernel_rfl,by kernel_rfl⟩,HJ⟩
def ty130:TD:=⟨.mp 9 206 .string false,1,8,false,[.map none]⟩
theorem xK:ty130.ok Tryz.prog 130:=⟨⟨by kernel_rfl,by kernel_rfl⟩,⟨⟨by kernel_rfl⟩,by kernel_rfl,⟨by kernel_rfl⟩⟩⟩
def ty131:TD:=⟨.sl 137,1,24,false,[.slice none 0 0]⟩
theorem xL:ty131.ok Tryz.prog 131:=⟨⟨by kernel_rfl,by kernel_rfl⟩,⟨by kernel_rfl⟩⟩
def ty132:TD:=⟨.st [(0,27,1),(1,131,1),(2,3,1),(3,130,1)],4,64,true,[.slice none 0 0,.slice none 0 0,.int .i64 0,.map none]⟩
theorem xN:ty132.ok Tryz.prog 132:=⟨⟨by kernel_rfl,by kernel_rfl⟩,⟨λf off ft n h=>by
  match f,h with
  | 0,h=>cases h; exact ⟨by kernel_rfl⟩
  | 1,h=>cases h; exact ⟨by kernel_rfl⟩
  | 2,h=>cases h; exact ⟨by kernel_rfl⟩
  | 3,h=>cases h; exact ⟨by kernel_rfl⟩
  | f+4,h=>simp at h,⟨by kernel_rfl⟩⟩⟩
def ty133:TD:=⟨.st [(0,27,1),(1,131,1),(2,3,1),(3,130,1)],4,64,true,[.slice none 0 0,.slice none 0 0,.int .i64 0,.map none]⟩
theorem xP:ty133.ok Tryz.prog 133:=⟨⟨by kernel_rfl,by kernel_rfl⟩,⟨λf off ft n h=>by
  match f,h with
  | 0,h=>cases h; exact ⟨by kernel_rfl⟩
  | 1,h=>cases h; exact ⟨by kernel_rfl⟩
  | 2,h=>cases h; exact ⟨by kernel_rfl⟩
  | 3,h=>cases h; exact ⟨by kernel_rfl⟩
  | f+4,h=>simp at h,⟨by kernel_rfl⟩⟩⟩
def ty134:TD:=⟨.sl 185,1,24,false,[.slice none 0 0]⟩
theorem xQ:ty134.ok Tryz.prog 134:=⟨⟨by kernel_rfl,by kernel_rfl⟩,⟨by kernel_rfl⟩⟩
def ty135:TD:=⟨.arr 4 67,8,192,true,[.slice none 0 0,.slice none 0 0,.slice none 0 0,.slice none 0 0,.slice none 0 0,.slice none 0 0,.slice none 0 0,.slice none 0 0]⟩
theorem xR:ty135.ok Tryz.prog 135:=⟨⟨by kernel_rfl,by kernel_rfl⟩,⟨by kernel_rfl⟩⟩
def ty136:TD:=⟨.st [(0,135,8)],8,192,true,[.slice none 0 0,.slice none 0 0,.slice none 0 0,.slice none 0 0,.slice none 0 0,.slice none 0 0,.slice none 0 0,.slice none 0 0]⟩
theorem xS:ty136.ok Tryz.prog 136:=⟨⟨by kernel_rfl,by kernel_rfl⟩,⟨λf off ft n h=>by
  match f,h with
  | 0,h=>cases h; exact ⟨by kernel_rfl⟩
  | f+1,h=>simp at h,⟨by kernel_rfl⟩⟩⟩
def ty137:TD:=⟨.st [(0,135,8)],8,192,true,[.slice none 0 0,.slice none 0 0,.slice none 0 0,.slice none 0 0,.slice none 0 0,.slice none 0 0,.slice none 0 0,.slice none 0 0]⟩
theorem xT:ty137.ok Tryz.prog 137:=⟨⟨by kernel_rfl,by kernel_rfl⟩,⟨λf off ft n h=>by
  match f,h with
  | 0,h=>cases h; exact ⟨by kernel_rfl⟩
  | f+1,h=>simp at h,⟨by kernel_rfl⟩⟩⟩
def ty139:TD:=⟨.arr 5 3,5,40,true,[.int .i64 0,.int .i64 0,.int .i64 0,.int .i64 0,.int .i64 0]⟩
theorem xU:ty139.ok Tryz.prog 139:=⟨⟨by kernel_rfl,by kernel_rfl⟩,⟨by kernel_rfl⟩⟩
def ty140:TD:=⟨.st [(0,3,1),(1,3,1),(2,139,5)],7,56,true,[.int .i64 0,.int .i64 0,.int .i64 0,.int .i64 0,.int .i64 0,.int .i64 0,.int .i64 0]⟩
theorem xV:ty140.ok Tryz.prog 140:=⟨⟨by kernel_rfl,by kernel_rfl⟩,⟨λf off ft n h=>by
  match f,h with
  | 0,h=>cases h; exact ⟨by kernel_rfl⟩
  | 1,h=>cases h; exact ⟨by kernel_rfl⟩
  | 2,h=>cases h; exact ⟨by kernel_rfl⟩
  | f+3,h=>simp at h,⟨by kernel_rfl⟩⟩⟩
def ty141:TD:=⟨.st [(0,3,1),(1,3,1),(2,139,5)],7,56,true,[.int .i64 0,.int .i64 0,.int .i64 0,.int .i64 0,.int .i64 0,.int .i64 0,.int .i64 0]⟩
theorem xW:ty141.ok Tryz.prog 141:=⟨⟨by kernel_rfl,by kernel_rfl⟩,⟨λf off ft n h=>by
  match f,h with
  | 0,h=>cases h; exact ⟨by kernel_rfl⟩
  | 1,h=>cases h; exact ⟨by kernel_rfl⟩
  | 2,h=>cases h; exact ⟨by kernel_rfl⟩
  | f+3,h=>simp at h,⟨by kernel_rfl⟩⟩⟩
def ty144:TD:=⟨.sl 83,1,24,false,[.slice none 0 0]⟩
theorem xY:ty144.ok Tryz.prog 144:=⟨⟨by kernel_rfl,by kernel_rfl⟩,⟨by kernel_rfl⟩⟩
def ty150:TD:=⟨.arr 4 51,8,192,true,[.slice none 0 0,.slice none 0 0,.slice none 0 0,.slice none 0 0,.slice none 0 0,.slice none 0 0,.slice none 0 0,.slice none 0 0]⟩
theorem xZ:ty150.ok Tryz.prog 150:=⟨⟨by kernel_rfl,by kernel_rfl⟩,⟨by kernel_rfl⟩⟩
def ty152:TD:=⟨.arr 6 3,6,48,true,[.int .i64 0,.int .i64 0,.int .i64 0,.int .i64 0,.int .i64 0,.int .i64 0]⟩
theorem x4:ty152.ok Tryz.prog 152:=⟨⟨by kernel_rfl,by kernel_rfl⟩,⟨by kernel_rfl⟩⟩
def ty170:TD:=⟨.oth,1,8,false,[.nilFunc]⟩
theorem x5:ty170.ok Tryz.prog 170:=⟨⟨by kernel_rfl,by kernel_rfl⟩,HJ⟩
def ty177:TD:=⟨.sl 5,1,24,false,[.slice none 0 0]⟩
theorem x6:ty177.ok Tryz.prog 177:=⟨⟨by kernel_rfl,by kernel_rfl⟩,⟨by kernel_rfl⟩⟩
def ty184:TD:=⟨.st [(0,22,1),(1,3,1)],2,32,true,[.slice none 0 0,.int .i64 0]⟩
theorem x7:ty184.ok Tryz.prog 184:=⟨⟨by kernel_rfl,by kernel_rfl⟩,⟨λf off ft n h=>by
  match f,h with
  | 0,h=>cases h; exact ⟨by kernel_rfl⟩
  | 1,h=>cases h; exact ⟨by kernel_rfl⟩
  | f+2,h=>simp at h,⟨by kernel_rfl⟩⟩⟩
def ty185:TD:=⟨.st [(0,22,1),(1,3,1)],2,32,true,[.slice none 0 0,.int .i64 0]⟩
theorem x8:ty185.ok Tryz.prog 185:=⟨⟨by kernel_rfl,by kernel_rfl⟩,⟨λf off ft n h=>by
  match f,h with
  | 0,h=>cases h; exact ⟨by kernel_rfl⟩
  | 1,h=>cases h; exact ⟨by kernel_rfl⟩
  | f+2,h=>simp at h,⟨by kernel_rfl⟩⟩⟩
def ty187:TD:=⟨.oth,1,8,false,[.nilFunc]⟩
theorem x9:ty187.ok Tryz.prog 187:=⟨⟨by kernel_rfl,by kernel_rfl⟩,HJ⟩
def ty195:TD:=⟨.oth,1,8,false,[.nilFunc]⟩
theorem ya:ty195.ok Tryz.prog 195:=⟨⟨by kernel_rfl,by kernel_rfl⟩,HJ⟩
def ty206:TD:=⟨.ptr 209,1,8,false,[.pointer none]⟩
theorem yb:ty206.ok Tryz.prog 206:=⟨⟨by kernel_rfl,by kernel_rfl⟩,(show Tryz.prog.underlying 206=some (.pointer 209) by kernel_rfl)⟩
def ty208:TD:=⟨.st [(0,3,1),(1,67,2)],3,56,true,[.int .i64 0,.slice none 0 0,.slice none 0 0]⟩
theorem yc:ty208.ok Tryz.prog 208:=⟨⟨by kernel_rfl,by kernel_rfl⟩,⟨λf off ft n h=>by
  match f,h with
  | 0,h=>cases h; exact ⟨by kernel_rfl⟩
  | 1,h=>cases h; exact ⟨by kernel_rfl⟩
  | f+2,h=>simp at h,⟨by kernel_rfl⟩⟩⟩
def ty209:TD:=⟨.st [(0,3,1),(1,67,2)],3,56,true,[.int .i64 0,.slice none 0 0,.slice none 0 0]⟩
theorem yd:ty209.ok Tryz.prog 209:=⟨⟨by kernel_rfl,by kernel_rfl⟩,⟨λf off ft n h=>by
  match f,h with
  | 0,h=>cases h; exact ⟨by kernel_rfl⟩
  | 1,h=>cases h; exact ⟨by kernel_rfl⟩
  | f+2,h=>simp at h,⟨by kernel_rfl⟩⟩⟩
def ty211:TD:=⟨.sl 67,1,24,false,[.slice none 0 0]⟩
theorem ye:ty211.ok Tryz.prog 211:=⟨⟨by kernel_rfl,by kernel_rfl⟩,⟨by kernel_rfl⟩⟩
def ty216:TD:=⟨.oth,1,8,false,[.nilFunc]⟩
theorem yf:ty216.ok Tryz.prog 216:=⟨⟨by kernel_rfl,by kernel_rfl⟩,HJ⟩
def ty219:TD:=⟨.oth,1,8,false,[.nilFunc]⟩
theorem yg:ty219.ok Tryz.prog 219:=⟨⟨by kernel_rfl,by kernel_rfl⟩,HJ⟩
def ty220:TD:=⟨.ptr 141,1,8,false,[.pointer none]⟩
theorem yh:ty220.ok Tryz.prog 220:=⟨⟨by kernel_rfl,by kernel_rfl⟩,(show Tryz.prog.underlying 220=some (.pointer 141) by kernel_rfl)⟩
def ty232:TD:=⟨.oth,1,16,false,[.nilIface]⟩
theorem yi:ty232.ok Tryz.prog 232:=⟨⟨by kernel_rfl,by kernel_rfl⟩,HJ⟩
def ty233:TD:=⟨.oth,1,16,false,[.nilIface]⟩
theorem yj:ty233.ok Tryz.prog 233:=⟨⟨by kernel_rfl,by kernel_rfl⟩,HJ⟩
def ty234:TD:=⟨.oth,1,8,false,[.nilFunc]⟩
theorem yk:ty234.ok Tryz.prog 234:=⟨⟨by kernel_rfl,by kernel_rfl⟩,HJ⟩
def ty235:TD:=⟨.oth,1,8,false,[.nilFunc]⟩
theorem yl:ty235.ok Tryz.prog 235:=⟨⟨by kernel_rfl,by kernel_rfl⟩,HJ⟩
def ty238:TD:=⟨.int .i64,1,8,false,[.int .i64 0]⟩
theorem ym:ty238.ok Tryz.prog 238:=⟨⟨by kernel_rfl,by kernel_rfl⟩,(show Tryz.prog.underlying 238=some (.int .i64) by kernel_rfl)⟩
def ty245:TD:=⟨.int .u32,1,4,false,[.int .u32 0]⟩
theorem yn:ty245.ok Tryz.prog 245:=⟨⟨by kernel_rfl,by kernel_rfl⟩,(show Tryz.prog.underlying 245=some (.int .u32) by kernel_rfl)⟩
def ty251:TD:=⟨.oth,1,8,false,[.nilFunc]⟩
theorem yo:ty251.ok Tryz.prog 251:=⟨⟨by kernel_rfl,by kernel_rfl⟩,HJ⟩
def ty253:TD:=⟨.int .u64,1,8,false,[.int .u64 0]⟩
theorem yp:ty253.ok Tryz.prog 253:=⟨⟨by kernel_rfl,by kernel_rfl⟩,(show Tryz.prog.underlying 253=some (.int .u64) by kernel_rfl)⟩
def ty256:TD:=⟨.oth,1,8,false,[.nilFunc]⟩
theorem yq:ty256.ok Tryz.prog 256:=⟨⟨by kernel_rfl,by kernel_rfl⟩,HJ⟩
def ty257:TD:=⟨.ptr 3,1,8,false,[.pointer none]⟩
theorem yr:ty257.ok Tryz.prog 257:=⟨⟨by kernel_rfl,by kernel_rfl⟩,(show Tryz.prog.underlying 257=some (.pointer 3) by kernel_rfl)⟩
def ty261:TD:=⟨.ptr 253,1,8,false,[.pointer none]⟩
theorem yt:ty261.ok Tryz.prog 261:=⟨⟨by kernel_rfl,by kernel_rfl⟩,(show Tryz.prog.underlying 261=some (.pointer 253) by kernel_rfl)⟩
def ty268:TD:=⟨.arr 0 16,0,0,true,[]⟩
theorem yu:ty268.ok Tryz.prog 268:=⟨⟨by kernel_rfl,by kernel_rfl⟩,⟨by kernel_rfl⟩⟩
def ty269:TD:=⟨.st [(0,268,0)],0,0,true,[]⟩
theorem yw:ty269.ok Tryz.prog 269:=⟨⟨by kernel_rfl,by kernel_rfl⟩,⟨λf off ft n h=>by
  match f,h with
  | 0,h=>cases h; exact ⟨by kernel_rfl⟩
  | f+1,h=>simp at h,⟨by kernel_rfl⟩⟩⟩
def ty270:TD:=⟨.st [(0,268,0)],0,0,true,[]⟩
theorem yx:ty270.ok Tryz.prog 270:=⟨⟨by kernel_rfl,by kernel_rfl⟩,⟨λf off ft n h=>by
  match f,h with
  | 0,h=>cases h; exact ⟨by kernel_rfl⟩
  | f+1,h=>simp at h,⟨by kernel_rfl⟩⟩⟩
def T:Ty:=(.node 115 ty115 (.node 40 ty40 (.node 16 ty16 (.node 6 ty6 (.node 3 ty3 (.node 2 ty2 (.node 1 ty1 .leaf .leaf) .leaf) (.node 5 ty5 (.node 4 ty4 .leaf .leaf) .leaf)) (.node 9 ty9 (.node 8 ty8 (.node 7 ty7 .leaf .leaf) .leaf) (.node 11 ty11 (.node 10 ty10 .leaf .leaf) .leaf))) (.node 30 ty30 (.node 27 ty27 (.node 26 ty26 (.node 22 ty22 .leaf .leaf) .leaf) (.node 29 ty29 (.node 28 ty28 .leaf .leaf) .leaf)) (.node 34 ty34 (.node 33 ty33 (.node 32 ty32 .leaf .leaf) .leaf) (.node 38 ty38 .leaf .leaf)))) (.node 66 ty66 (.node 58 ty58 (.node 51 ty51 (.node 50 ty50 (.node 47 ty47 .leaf .leaf) .leaf) (.node 53 ty53 (.node 52 ty52 .leaf .leaf) .leaf)) (.node 64 ty64 (.node 62 ty62 (.node 60 ty60 .leaf .leaf) .leaf) (.node 65 ty65 .leaf .leaf))) (.node 96 ty96 (.node 86 ty86 (.node 83 ty83 (.node 67 ty67 .leaf .leaf) .leaf) (.node 92 ty92 (.node 91 ty91 .leaf .leaf) .leaf)) (.node 107 ty107 (.node 98 ty98 (.node 97 ty97 .leaf .leaf) .leaf) (.node 110 ty110 .leaf .leaf))))) (.node 195 ty195 (.node 139 ty139 (.node 133 ty133 (.node 130 ty130 (.node 117 ty117 (.node 116 ty116 .leaf .leaf) .leaf) (.node 132 ty132 (.node 131 ty131 .leaf .leaf) .leaf)) (.node 136 ty136 (.node 135 ty135 (.node 134 ty134 .leaf .leaf) .leaf) (.node 137 ty137 .leaf .leaf))) (.node 170 ty170 (.node 144 ty144 (.node 141 ty141 (.node 140 ty140 .leaf .leaf) .leaf) (.node 152 ty152 (.node 150 ty150 .leaf .leaf) .leaf)) (.node 185 ty185 (.node 184 ty184 (.node 177 ty177 .leaf .leaf) .leaf) (.node 187 ty187 .leaf .leaf)))) (.node 235 ty235 (.node 219 ty219 (.node 209 ty209 (.node 208 ty208 (.node 206 ty206 .leaf .leaf) .leaf) (.node 216 ty216 (.node 211 ty211 .leaf .leaf) .leaf)) (.node 233 ty233 (.node 232 ty232 (.node 220 ty220 .leaf .leaf) .leaf) (.node 234 ty234 .leaf .leaf))) (.node 257 ty257 (.node 251 ty251 (.node 245 ty245 (.node 238 ty238 .leaf .leaf) .leaf) (.node 256 ty256 (.node 253 ty253 .leaf .leaf) .leaf)) (.node 269 ty269 (.node 268 ty268 (.node 261 ty261 .leaf .leaf) .leaf) (.node 270 ty270 .leaf .leaf))))))
theorem aj:T.ok Tryz.prog:=Ty.ok_of (show T.All Tryz.prog from ⟨xH,⟨AI,⟨Ax,⟨CK,⟨CH,⟨CG,⟨CF,HJ,HJ⟩,HJ⟩,⟨CJ,⟨CI,HJ,HJ⟩,HJ⟩⟩,⟨CN,⟨CM,⟨CL,HJ,HJ⟩,HJ⟩,⟨Aw,⟨Av,HJ,HJ⟩,HJ⟩⟩⟩,⟨AD,⟨AA,⟨Az,⟨Ay,HJ,HJ⟩,HJ⟩,⟨AC,⟨AB,HJ,HJ⟩,HJ⟩⟩,⟨AG,⟨AF,⟨AE,HJ,HJ⟩,HJ⟩,⟨AH,HJ,HJ⟩⟩⟩⟩,⟨AT,⟨AO,⟨AL,⟨AK,⟨AJ,HJ,HJ⟩,HJ⟩,⟨AN,⟨AM,HJ,HJ⟩,HJ⟩⟩,⟨AR,⟨AQ,⟨AP,HJ,HJ⟩,HJ⟩,⟨AS,HJ,HJ⟩⟩⟩,⟨A3,⟨AX,⟨AW,⟨AU,HJ,HJ⟩,HJ⟩,⟨AZ,⟨AY,HJ,HJ⟩,HJ⟩⟩,⟨xF,⟨A5,⟨A4,HJ,HJ⟩,HJ⟩,⟨xG,HJ,HJ⟩⟩⟩⟩⟩,⟨ya,⟨xU,⟨xP,⟨xK,⟨xJ,⟨xI,HJ,HJ⟩,HJ⟩,⟨xN,⟨xL,HJ,HJ⟩,HJ⟩⟩,⟨xS,⟨xR,⟨xQ,HJ,HJ⟩,HJ⟩,⟨xT,HJ,HJ⟩⟩⟩,⟨x5,⟨xY,⟨xW,⟨xV,HJ,HJ⟩,HJ⟩,⟨x4,⟨xZ,HJ,HJ⟩,HJ⟩⟩,⟨x8,⟨x7,⟨x6,HJ,HJ⟩,HJ⟩,⟨x9,HJ,HJ⟩⟩⟩⟩,⟨yl,⟨yg,⟨yd,⟨yc,⟨yb,HJ,HJ⟩,HJ⟩,⟨yf,⟨ye,HJ,HJ⟩,HJ⟩⟩,⟨yj,⟨yi,⟨yh,HJ,HJ⟩,HJ⟩,⟨yk,HJ,HJ⟩⟩⟩,⟨yr,⟨yo,⟨yn,⟨ym,HJ,HJ⟩,HJ⟩,⟨yq,⟨yp,HJ,HJ⟩,HJ⟩⟩,⟨yw,⟨yu,⟨yt,HJ,HJ⟩,HJ⟩,⟨yx,HJ,HJ⟩⟩⟩⟩⟩⟩)
theorem aa:(Tryz.prog).follows .mixedOrders=true:=by kernel_rfl
noncomputable abbrev P:Program:=Tryz.prog
def cr (l:List Nat):List Nat:=(l.reverse.dropWhile (· == 0)).reverse
theorem rF (l:List Nat):cr (l++[0])=cr l:=by simp[cr]
theorem tP (l:List Nat) {x:Nat} (h:x≠0):cr (l++[x])=l++[x]:=by simp[cr,h]
theorem tQ (x:Nat) (l:List Nat):cr (x::l)=if cr l=[]∧x=0 then [] else x::cr l:=by
 unfold cr;rw[List.reverse_cons,List.dropWhile_append]
 cases h:(l.reverse.dropWhile (· == 0)) with
 | nil=>
  by_cases hx:x=0
  ·simp[hx]
  ·simp[hx]
 | cons y m=>simp
theorem jv (l:List Nat) {n:Nat} (hn:n≤l.length) (h0:cr l=cr (l.take n)) (h1:n=0∨l.getD (n-1) 0≠0):l.take n=cr l:=by
 rw[h0];by_cases hz:n=0
 ·subst hz; simp[cr]
 ·have h1:=h1.resolve_left hz;obtain ⟨m,rfl⟩:∃ m,n=m+1:=⟨n-1,by omega⟩;have hm:m<l.length:=by omega
  simp only[F1,EB,EY hm,F8]at h1;rw[EH hm,tP _ h1]
theorem nE (l:List Nat) {n:Nat} (hn:n+1≤l.length) (h0:l.getD n 0=0):cr (l.take (n+1))=cr (l.take n):=by
 have hm:n<l.length:=by omega
 simp only[EB,EY hm,F8]at h0;rw[EH hm,h0,rF]
def val (B:Nat):List Nat→Nat
 | []=>0
 | x::l=>x+B*val B l
theorem ka (B:Nat):∀ (l m:List Nat),val B (l++m)=val B l+B^l.length*val B m
 | [],m=>by simp[val]
 | x::l,m=>by
  simp only[Ge,val,ka B l m,Fe,Fk,E5];rw[EV (B^l.length) B,ES,FG]
theorem nG (B:Nat) (l:List Nat) (x:Nat):val B (l++[x])=val B l+B^l.length*x:=by
 rw[ka]; simp[val]
def Dig (B:Nat) (l:List Nat):Prop:=∀ x,x∈l→x<B
theorem Dig.nil {B:Nat}:Dig B []:=by intro x h; cases h
theorem Dig.cons {B x:Nat} {l:List Nat} (hx:x<B) (h:Dig B l):Dig B (x::l):=by
 intro y hy;simp only[Fg]at hy;rcases hy with rfl | hy
 ·exact hx
 ·exact h y hy
theorem Dig.app {B:Nat} {l m:List Nat} (h:Dig B l) (h':Dig B m):Dig B (l++m):=by
 intro y hy;rcases Fl.1 hy with hy | hy
 ·exact h y hy
 ·exact h' y hy
theorem Dig.snoc {B x:Nat} {l:List Nat} (h:Dig B l) (hx:x<B):Dig B (l++[x]):=h.app (.cons hx .nil)
theorem Dig.tail {B x:Nat} {l:List Nat} (h:Dig B (x::l)):Dig B l:=λy hy=>h y (by simp[hy])
theorem Dig.take {B n:Nat} {l:List Nat} (h:Dig B l):Dig B (l.take n):=λy hy=>h y (F6 hy)
theorem Dig.drop {B n:Nat} {l:List Nat} (h:Dig B l):Dig B (l.drop n):=λy hy=>h y (GW hy)
theorem Dig.set {B i x:Nat} {l:List Nat} (h:Dig B l) (hx:x<B):Dig B (l.set i x):=λy hy=>by
 rcases GV hy with hy | rfl
 ·exact h y hy
 ·exact hx
theorem Dig.getD {B:Nat} {l:List Nat} (h:Dig B l) (hB:0<B) (i:Nat):l.getD i 0<B:=by
 rw[EB]
 cases hi:l[i]? with
 | none=>exact hB
 | some x=>exact h x (Fc hi)
theorem ee {B:Nat} (hB:0<B):∀ {l:List Nat},Dig B l→val B l<B^l.length
 | [],_=>by simp[val]
 | x::l,h=>by
  have h1:=ee hB h.tail;have h2:=h x (by simp);simp only[val,Fe,Fk];have:B*(val B l+1)≤B*B^l.length:=Fw _ h1;rw[E5,F2]at this;rw[EV (B^l.length)];omega
theorem fv (B:Nat) (l:List Nat) (n:Nat):val B l=val B (l.take n)+B^(min n l.length)*val B (l.drop n):=by
 conv=>lhs; rw[←GN n l]
 rw[ka,EQ]
theorem aC (B:Nat) (l:List Nat) (n:Nat):val B (l.take (n+1))=val B (l.take n)+B^n*l.getD n 0:=by
 by_cases hn:n<l.length
 ·rw[EH hn,nG,EQ,F7 (by omega)];simp[EB,hn]
 ·rw[Fj (by omega),Fj (by omega)];have:l.getD n 0=0:=by simp[EB,EZ (by omega:l.length≤n)]
  rw[this]; simp
theorem dp (B:Nat) (l:List Nat) {i v:Nat} (h:i<l.length):val B ((l.set i v).take (i+1))=val B (l.take i)+B^i*v:=by
 rw[aC];have e1:(l.set i v).take i=l.take i:=by rw[List.take_set_of_le (EE _)]
 have e2:(l.set i v).getD i 0=v:=by simp[EB,h]
 rw[e1,e2]
theorem aS {B:Nat} {l:List Nat} {n:Nat} (h:l.length≤n):val B (l.take n)=val B l:=by rw[Fj h]
theorem fN {B:Nat}:∀ {l:List Nat} {i x:Nat},i<l.length→val B (l.set i x)+B^i*l.getD i 0=val B l+B^i*x
 | [],i,x,h=>by simp at h
 | y::l,0,x,_=>by simp[val]; omega
 | y::l,i+1,x,h=>by
  have:=fN (B:=B) (l:=l) (i:=i) (x:=x) (by simpa using h);simp only[List.set_cons_succ,val,List.getD_cons_succ,Fk];have h2:B*(val B (l.set i x)+B^i*l.getD i 0)=B*(val B l+B^i*x):=by rw[this]
  simp only[E5]at h2;rw[EV (B^i) B,ES,ES];omega
theorem mz (B n:Nat):val B (List.replicate n 0)=0:=by
 induction n with
 | zero=>rfl
 | succ n ih=>simp[List.replicate_succ,val,ih]
def dg (B n:Nat):List Nat:=if _h:n=0∨B<2 then [] else n%B::dg B (n/B)
 termination_by n
 decreasing_by exact Nat.div_lt_self (by omega) (by omega)
theorem a9 (B:Nat):dg B 0=[]:=by rw[dg]; simp
theorem fW {B n:Nat} (hB:2≤B) (hn:n≠0):dg B n=n%B::dg B (n/B):=by
 rw[dg,dif_neg (by omega)]
theorem A6 {B x v:Nat} (hB:2≤B) (hx:x<B):dg B (x+B*v)=if x+B*v=0 then [] else x::dg B v:=by
 by_cases h:x+B*v=0
 ·rw[if_pos h,h,a9]
 ·rw[if_neg h,fW hB h];rw[Gz,Fi hx,GX _ _ (by omega),Gf hx,Fu]
theorem ij {B n:Nat} (hB:2≤B):dg B n=[]↔n=0:=by
 constructor
 ·intro h;rcases Gc n with h0 | h0
  ·exact h0
  ·rw[fW hB (by omega)]at h; cases h
 ·rintro rfl; exact a9 B
theorem cE {B:Nat} (hB:2≤B):∀ {l:List Nat},Dig B l→cr l=dg B (val B l)
 | [],_=>by simp[cr,val,a9]
 | x::l,h=>by
  have ih:=cE hB h.tail;have hx:=h x (by simp);rw[tQ,val,A6 hB hx,ih];by_cases h1:val B l=0
  ·rw[h1];simp only[a9,true_and,FZ,FT]
  ·have h2:¬ (x+B*val B l=0):=by
    have:B*val B l≠0:=E6 (by omega) h1;omega
   rw[if_neg h2,if_neg];intro ⟨h3,_⟩;exact h1 ((ij hB).1 h3)
theorem bq {B:Nat} (hB:2≤B) (n:Nat):val B (dg B n)=n:=by
 induction n using Nat.strongRecOn with
 | _ n ih=>
  rcases Gc n with rfl | h
  ·rw[a9]; rfl
  ·rw[fW hB (by omega),val,ih _ (Nat.div_lt_self h (by omega))];exact Nat.mod_add_div n B
theorem br {B:Nat} (hB:2≤B) (n:Nat):Dig B (dg B n):=by
 induction n using Nat.strongRecOn with
 | _ n ih=>
  rcases Gc n with rfl | h
  ·rw[a9]; exact .nil
  ·rw[fW hB (by omega)];exact .cons (FE _ (by omega)) (ih _ (Nat.div_lt_self h (by omega)))
theorem bQ {B:Nat} (hB:2≤B):∀ {k n:Nat},n<B^k→(dg B n).length≤k
 | 0,n,h=>by
  have:n=0:=by simpa using h
  subst this; rw[a9]; simp
 | k+1,n,h=>by
  rcases Gc n with rfl | h0
  ·rw[a9]; simp
  ·rw[fW hB (by omega),Fe];have:=bQ hB (k:=k) (n:=n/B) (by rw[G8 (by omega)]; rw[Fk]at h; exact h);omega
theorem bj {B:Nat} (hB:2≤B) (n:Nat):n<B^(dg B n).length:=by
 have:=ee (by omega:0<B) (br hB n);rwa [bq hB]at this
theorem bi {B:Nat} (hB:2≤B) {m n:Nat} (h:m≤n):(dg B m).length≤(dg B n).length:=bQ hB (Gn h (bj hB n))
theorem mA {B:Nat} (hB:2≤B) {n:Nat} (h:n≠0):B^((dg B n).length-1)≤n:=by
 apply FK;intro hlt;have:=bQ hB hlt;have h1:(dg B n).length≠0:=by
  intro h0;exact h ((ij hB).1 (Fa.1 h0))
 omega
theorem iM {B:Nat} (hB:2≤B) {m n:Nat} (h:(dg B m).length<(dg B n).length):m<n:=by
 apply GI;intro hle;have:=bi hB hle;omega
theorem iN {B:Nat} (hB:2≤B) {l m:List Nat} {i:Nat} (hl:Dig B l) (hlen:l.length=m.length) (hi:i<l.length) (hd:l.drop (i+1)=m.drop (i+1)) (hlt:l.getD i 0<m.getD i 0):val B l<val B m:=by
 rw[fv B l (i+1),fv B m (i+1),hd,aC,aC,←hlen];have h1:=ee (by omega:0<B) (hl.take (n:=i));rw[EQ,F7 (by omega)]at h1;have h2:B^i*(l.getD i 0+1)≤B^i*m.getD i 0:=Fw _ hlt;rw[E5,F2]at h2;omega
theorem uN (n:Int):Ct P 164 [.c (eI .i64 n)] [.c (.sc (.bool false))]:=by
 refine Ct.go aj aa (N:=6) Tryz.func164 rfl rfl rfl rfl ?_;have e:(n != n)=false:=by simp
 exact ⟨HJ,r1 (by rw[←e]; rfl),HJ⟩
theorem uO (n:Int):Ct P 165 [.c (eI .u64 n)] [.c (.sc (.bool false))]:=by
 refine Ct.go aj aa (N:=6) Tryz.func165 rfl rfl rfl rfl ?_;have e:(n != n)=false:=by simp
 exact ⟨HJ,r1 (by rw[←e]; rfl),HJ⟩
def bF (a b:Int):Int:=if a<b then -1 else if b<a then 1 else 0
theorem mB (a b:Int):Ct P 125 [.c (eI .i64 a),.c (eI .i64 b)] [.c (eI .i64 (bF a b))]:=by
 refine Ct.go aj aa (N:=20) Tryz.func125 rfl rfl rfl rfl ?_;refine X1 _ (uN a) ?_;refine X1 _ (uN b) ?_;refine ah (λh=>?_) (λh=>?_)
 ·exact ⟨HJ,r1 (iE (by rw[bF,if_pos h])),HJ⟩
 ·refine ah (λh2=>?_) (λh2=>?_)
  ·exact ⟨HJ,r1 (iE (by rw[bF,if_neg h,if_pos h2])),HJ⟩
  ·exact ⟨HJ,r1 (iE (by rw[bF,if_neg h,if_neg h2])),HJ⟩
theorem A7 (a b:Int):Ct P 126 [.c (eI .u64 a),.c (eI .u64 b)] [.c (eI .i64 (bF a b))]:=by
 refine Ct.go aj aa (N:=20) Tryz.func126 rfl rfl rfl rfl ?_;refine X1 _ (uO a) ?_;refine X1 _ (uO b) ?_;refine ah (λh=>?_) (λh=>?_)
 ·exact ⟨HJ,r1 (iE (by rw[bF,if_pos h])),HJ⟩
 ·refine ah (λh2=>?_) (λh2=>?_)
  ·exact ⟨HJ,r1 (iE (by rw[bF,if_neg h,if_pos h2])),HJ⟩
  ·exact ⟨HJ,r1 (iE (by rw[bF,if_neg h,if_neg h2])),HJ⟩
theorem Ct.ans3 {P:Program} {f:FuncId} {a b c:Value} {r s:PC} {v:Value} (hr:∀ w,(callFunc f #[a,b,c]).run P w = .ok (.value v) w) (hv:∀ K ok w,RelV K ok w (ct [.c r,.c s]) v):Ct P f [.c (.sc a),.c (.sc b),.c (.sc c)] [.c r,.c s]:=by
 refine ⟨λK ok w vs hp hrel=>.inr ?_⟩;obtain ⟨v1,us,rfl,h1,hrel⟩:=hrel.head;obtain ⟨v2,us,rfl,h2,hrel⟩:=hrel.head;obtain ⟨v3,us,rfl,h3,hrel⟩:=hrel.head;have:us=[]:=by have:=hrel.len; simpa using this
 subst this;have e1:=(RelV.o h1).sc.1;have e2:=(RelV.o h2).sc.1;have e3:=(RelV.o h3).sc.1;subst e1 e2 e3;exact ⟨v,w,hr w,v,K,ok,rfl,hv K ok w,hp,Fr.refl _ _ _ _⟩
theorem uP {K:Km} {ok:Nat→Prop} {w:World} {k k':IntKind} {a b:Int} (ha:inR k a) (hb:inR k' b):RelV K ok w (ct [.c (eI k a),.c (eI k' b)]) (.tuple #[.int k a,.int k' b]):=
 .tup (RelAs.cons (.c (.cl (.sc ha))) (RelAs.cons (.c (.cl (.sc hb))) RelAs.nil))
theorem ef (x y c:Nat) (hx:x<18446744073709551616) (hy:y<18446744073709551616) (hc:c≤1):Ct P 145 [.c (nI .u64 x),.c (nI .u64 y),.c (nI .u64 c)] [.c (nI .u64 ((x+y+c)%18446744073709551616)),.c (nI .u64 ((x+y+c)/18446744073709551616))]:=by
 refine Ct.ans3 (λw=>?_) (λK ok w=>uP (k:=.u64) (k':=.u64) ⟨by omega,by omega⟩ ⟨by omega,by omega⟩);rw[run_callFunc_extern Tryz.func145 (by kernel_rfl) (by kernel_rfl) (by kernel_rfl) (e:=add64Entry) (by kernel_rfl),run_add64 x y c (by omega) (by omega) (by omega) (by omega)];simp only[Result.andThen];congr 5<;>omega
theorem kb (x y b:Nat) (hx:x<18446744073709551616) (hy:y<18446744073709551616) (hb:b≤1):Ct P 150 [.c (nI .u64 x),.c (nI .u64 y),.c (nI .u64 b)] [.c (nI .u64 ((x+18446744073709551616-y-b)%18446744073709551616)),.c (nI .u64 (if x<y+b then 1 else 0))]:=by
 refine Ct.ans3 (λw=>?_) (λK ok w=>uP (k:=.u64) (k':=.u64) ⟨by omega,by omega⟩ ⟨by split<;>omega,by split<;>omega⟩);rw[run_callFunc_extern Tryz.func150 (by kernel_rfl) (by kernel_rfl) (by kernel_rfl) (e:=sub64Entry) (by kernel_rfl),run_sub64 x y b hb];rfl
abbrev nV (n:Nat):A1:=.ag [nSl .u64 (dg 18446744073709551616 n)]
theorem eg (l:List Nat) (hl:l.length≤1000000):Ct P 113 [.c (nSl .u64 l)] [.ag [nSl .u64 (cr l)]]:=by
 refine Ct.go aj aa (N:=22) Tryz.func113 rfl rfl rfl rfl ?_;refine aw aj aa (λm:List Nat=>m.length≤l.length∧cr l=cr m) (λm=>[(0,.c (nSl .u64 m)),(2,.c (.ad 2 0))]) (λ_=>[(2,.var [.sc (.slice none 0 0)])]) (λm=>m.length) l ⟨EE _,rfl⟩ ⟨rfl,rfl,HJ⟩ ⟨rfl,HJ⟩
  (λ_:Unit=>True) (λ_=>[(0,.c (nSl .u64 (cr l))),(2,.c (.ad 2 0))]) (λ_=>[(2,.var [.sc (.slice none 0 0)])]) (λm hm=>?_) (λ_ _=>?_)
 ·obtain ⟨h1,h2⟩:=hm;refine .intro (by rw[ai]; omega) ?_;rw[ai];refine ah (λh=>?_) (λh=>?_)
  ·refine .intro (by rw[ai]; omega) ?_;rw[ai];obtain ⟨k,hk⟩:∃ k,m.length=k+1:=⟨m.length-1,by omega⟩;refine X1 (k:Int) (wI (by omega) (by omega) (by omega)) ?_;refine .intro (by omega) (X1 _ (al rfl (by omega)) ?_);refine aU (λh3=>?_) (λh3=>?_)
   ·refine .intro (by rw[ai]; omega) ?_;rw[ai];refine X1 (k:Int) (wI (by omega) (by omega) (by omega)) ?_;refine ⟨0,k,rfl,rfl,by omega,by rw[ai]; omega,?_⟩;have:=nE m (n:=k) (by omega) (by omega);rw[←hk,E7]at this;exact ⟨m.take k,⟨by simp; omega,h2.trans this⟩,by simp; omega,⟨qe (by rw[ii]; rfl),rfl,HJ⟩,⟨rfl,HJ⟩⟩
   ·have e:m=cr l:=by
     rw[h2,←jv m (n:=m.length) (EE _) (by rw[E7]) (.inr (by rw[hk]; simpa using h3)),E7]
    exact ⟨(),HJ,⟨qe (by rw[e]),rfl,HJ⟩,⟨rfl,HJ⟩⟩
  ·have e:m=cr l:=by
    have:m=[]:=Fa.1 (by omega);rw[h2,this]; rfl
   exact ⟨(),HJ,⟨qe (by rw[e]),rfl,HJ⟩,⟨rfl,HJ⟩⟩
 ·exact ⟨HJ,rc rfl,HJ⟩
theorem fX (v:Nat) (hv:v<18446744073709551616):Ct P 69 [.c (nI .u64 v)] [nV v]:=by
 refine Ct.go aj aa (N:=6) Tryz.func69 rfl rfl rfl rfl ?_;refine X2 .frz ?_;have h:=eg [v] (by simp);rw[cE (B:=18446744073709551616) (by omega) (Dig.cons hv .nil)]at h;have e:val 18446744073709551616 [v]=v:=by simp[val]
 rw[e]at h;refine X1 _ h ?_;exact ⟨HJ,rc rfl,HJ⟩
theorem fw (n:Nat) (hn:(dg 18446744073709551616 n).length≤1000000):Ct P 78 [nV n] [.c (.sc (.bool (n==0)))]:=by
 refine Ct.go aj aa (N:=7) Tryz.func78 rfl rfl rfl rfl ?_;refine .intro (by rw[ai]; omega) ?_;have e:((((aE .u64 (dg 18446744073709551616 n)).length:Nat):Int)==0)=(n==0):=by
  rw[ai];have:=ij (B:=18446744073709551616) (n:=n) (by omega);rw[←Fa]at this;rw[Bool.eq_iff_iff];simp only[beq_iff_eq];omega
 exact ⟨HJ,r1 (by rw[←e]; rfl),HJ⟩
theorem kc (a b:Nat) (ha:(dg 18446744073709551616 a).length≤1000000) (hb:(dg 18446744073709551616 b).length≤1000000):Ct P 81 [nV a,nV b] [.c (eI .i64 (bF a b))]:=by
 refine Ct.go aj aa (N:=40) Tryz.func81 rfl rfl rfl rfl ?_;refine .intro (by rw[ai]; omega) ?_;refine .intro (by rw[ai]; omega) ?_;rw[ai,ai];refine X1 _ (mB _ _) ?_;refine dq (λh=>?_) (λh=>?_)
 ·have e:bF ((dg 18446744073709551616 a).length:Int) (dg 18446744073709551616 b).length=bF a b:=by
   unfold bF at h ⊢;split at h
   ·rename_i h1;have:a<b:=iM (B:=18446744073709551616) (by omega) (by omega);rw[if_pos h1,if_pos (by omega)]
   ·split at h
    ·rename_i h1 h2;have:b<a:=iM (B:=18446744073709551616) (by omega) (by omega);rw[if_neg h1,if_pos h2,if_neg (by omega),if_pos (by omega)]
    ·exact absurd rfl h
  exact ⟨HJ,r1 (iE e),HJ⟩
 ·have hlen:(dg 18446744073709551616 a).length=(dg 18446744073709551616 b).length:=by
   unfold bF at h;split at h
   ·omega
   ·split at h<;>omega
  refine .intro (by rw[ai]; omega) ?_;rw[ai];refine X1 (((dg 18446744073709551616 a).length:Int)-1) (wi (by omega) (by omega)) ?_;refine aw aj aa (λn:Nat=>n≤(dg 18446744073709551616 a).length∧(dg 18446744073709551616 a).drop n=(dg 18446744073709551616 b).drop n)
   (λn=>[(2,.c (.ad 2 0)),(3,.c (.ad 3 0)),(6,.c (eI .i64 ((n:Int)-1)))]) (λ_=>[(2,.var [nSl .u64 (dg 18446744073709551616 a)]),(3,.var [nSl .u64 (dg 18446744073709551616 b)])]) (λn=>n)
   (dg 18446744073709551616 a).length ⟨EE _,by rw[F9,FS (by omega)]⟩ ⟨rfl,rfl,rfl,HJ⟩ ⟨rfl,rfl,HJ⟩
   (λ_:Unit=>a=b) (λ_=>[]) (λ_=>[]) (λn hn=>?_) (λ_ he=>?_)
  ·obtain ⟨h1,h2⟩:=hn;refine ah (λh5=>?_) (λh5=>?_)
   ·obtain ⟨m,rfl⟩:∃ m,n=m+1:=⟨n-1,by omega⟩;have hA:=br (B:=18446744073709551616) (by omega) a;have hB:=br (B:=18446744073709551616) (by omega) b;have vA:=bq (B:=18446744073709551616) (by omega) a;have vB:=bq (B:=18446744073709551616) (by omega) b;refine .intro (by omega) (X1 _ (al (n:=m) (by omega) (by omega)) ?_);refine .intro (by omega) (X1 _ (al (n:=m) (by omega) (by omega)) ?_);refine X1 _ (A7 _ _) ?_;refine .intro rfl ?_;refine dq (λh6=>?_) (λh6=>?_)
    ·have e:bF ((dg 18446744073709551616 a).getD m 0:Nat) ((dg 18446744073709551616 b).getD m 0:Nat)=bF a b:=by
      unfold bF at h6 ⊢;split at h6
      ·rename_i h7;have:=iN (B:=18446744073709551616) (by omega) hA hlen (by omega) h2 (by omega);rw[if_pos h7,if_pos (by omega)]
      ·split at h6
       ·rename_i h7 h8;have:=iN (B:=18446744073709551616) (by omega) hB hlen.symm (by omega) h2.symm (by omega);rw[if_neg h7,if_pos h8,if_neg (by omega),if_pos (by omega)]
       ·exact absurd rfl h6
     exact ⟨HJ,r1 (iE e),HJ⟩
    ·have e1:(dg 18446744073709551616 a).getD m 0=(dg 18446744073709551616 b).getD m 0:=by
      unfold bF at h6;split at h6
      ·omega
      ·split at h6<;>omega
     refine X1 ((m:Int)-1) (wI (by omega) (by omega) (by omega)) ?_;refine ⟨m,⟨by omega,?_⟩,by omega,⟨rfl,rfl,rfl,HJ⟩,⟨rfl,rfl,HJ⟩⟩;rw[EB,EB,EY (by omega:m<(dg 18446744073709551616 a).length),EY (by omega:m<(dg 18446744073709551616 b).length)]at e1;rw[E8 (by omega:m<(dg 18446744073709551616 a).length),E8 (by omega:m<(dg 18446744073709551616 b).length),h2];simp only[F8]at e1;rw[e1]
   ·have hn:n=0:=by omega
    subst hn;refine ⟨(),?_,HJ,HJ⟩;rw[F3,F3]at h2;rw[←bq (B:=18446744073709551616) (by omega) a,h2,bq (by omega)]
  ·exact ⟨HJ,r1 (iE (by rw[bF,if_neg (by omega),if_neg (by omega)])),HJ⟩
theorem uQ (a b:Nat) (hab:b≤a) (ha:(dg 18446744073709551616 a).length≤1000000):Ct P 104 [nV a,nV b] [nV (a-b),.c (eI .i64 0)]:=by
 have hlb:(dg 18446744073709551616 b).length≤(dg 18446744073709551616 a).length:=bi (by omega) hab;refine Ct.go aj aa (N:=52) Tryz.func104 rfl rfl rfl rfl ?_;refine X1 _ (kc a b ha (by omega)) ?_;refine tB (decide_eq_false (by unfold bF; split<;>(try split)<;>omega)) ?_;refine .intro (by rw[ai]; omega) ?_;rw[ai];refine ⟨by omega,by omega,by omega,.inl (by decide),?_⟩;refine .intro (by rw[ai]; omega) ?_;rw[ai];refine aw aj aa (G:=Nat × List Nat × Nat) (λ(i,out,c)=>i≤(dg 18446744073709551616 a).length∧out.length=(dg 18446744073709551616 a).length∧Dig 18446744073709551616 out∧c≤1∧val 18446744073709551616 ((dg 18446744073709551616 a).take i)+18446744073709551616^i*c=val 18446744073709551616 ((dg 18446744073709551616 b).take i)+val 18446744073709551616 (out.take i))
  (λ(i,out,c)=>[(2,.c (.ad 2 0)),(3,.c (.ad 3 0)),(4,.c (.ad 4 0)),(6,.c (.ow 18 1 (dg 18446744073709551616 a).length)),(7,.c (nI .u64 c)),(21,.c (nI .i64 (dg 18446744073709551616 a).length)),(22,.c (nI .i64 i))])
  (λ((i,out,c):Nat × List Nat × Nat)=>[(2,.var [nSl .u64 (dg 18446744073709551616 a)]),(3,.var [nSl .u64 (dg 18446744073709551616 b)]),(4,.var [.sc (.slice none 0 0)]),(18,.row 1 (aE .u64 out))]) (λ(i,out,c)=>(dg 18446744073709551616 a).length-i)
  (0,List.replicate (dg 18446744073709551616 a).length 0,0) ⟨by simp,by simp,λx hx=>by rw[FD hx]; omega,by simp,by simp[val]⟩
  ⟨rfl,rfl,rfl,owE (by omega),rfl,rfl,rfl,HJ⟩ ⟨rfl,rfl,rfl,aB (ff rfl),HJ⟩
  (λl:List Nat=>Dig 18446744073709551616 l∧val 18446744073709551616 l=a-b∧l.length≤1000000) (λl=>[(4,.c (.ad 4 0)),(6,.c (.ow 18 1 (dg 18446744073709551616 a).length))]) (λl=>[(4,.var [.sc (.slice none 0 0)]),(18,.row 1 (aE .u64 l))]) (λg hg=>?_) (λl hl=>?_)
 ·obtain ⟨i,out,c⟩:=g;obtain ⟨h1,h2,h6,h3,h4⟩:=hg;refine ah (λh5=>?_) (λh5=>?_)
  ·have hx:=(br (B:=18446744073709551616) (by omega) a).getD (by omega) i;have hy:=(br (B:=18446744073709551616) (by omega) b).getD (by omega) i;have hA:=aC 18446744073709551616 (dg 18446744073709551616 a) i;have hB:=aC 18446744073709551616 (dg 18446744073709551616 b) i;generalize hxx:(dg 18446744073709551616 a).getD i 0=x at hx hA;refine .intro (by rw[ai]; omega) ?_;rw[ai];refine ah (λh7=>And.intro (by omega) (X1 _ (al rfl (by omega)) ?_)) (λh7=>?_)
   ·generalize hyy:(dg 18446744073709551616 b).getD i 0=y at hy hB ⊢;refine .intro (by omega) (X1 _ (al rfl (by omega)) ?_);rw[hxx];refine X1 _ (kb x y c hx (by omega) h3) ?_;refine .intro (by omega) (.intro (by simp<;>omega) ?_);refine X1 _ (al rfl (by omega)) ?_;refine X1 ((i+1:Nat):Int) (wI1 (by omega)) ?_;refine ⟨(i+1,out.set i ((x+18446744073709551616-y-c)%18446744073709551616),if x<y+c then 1 else 0),⟨by omega,by simp[h2],h6.set (by omega),by split<;>omega,?_⟩,by show _-(i+1)<_-i; omega,⟨rfl,rfl,rfl,rfl,rfl,rfl,rfl,HJ⟩,⟨rfl,rfl,rfl,aB nRow_set,HJ⟩⟩;have hst:=dp 18446744073709551616 out (i:=i) (v:=(x+18446744073709551616-y-c)%18446744073709551616) (by omega);rw[hst,hA,hB];have key:x+18446744073709551616*(if x<y+c then 1 else 0)=(x+18446744073709551616-y-c)%18446744073709551616+y+c:=by split<;>omega
    have k2:=congrArg (18446744073709551616^i * ·) key;simp only[E5]at k2;rw[Fk,ES];omega
   ·have hyy:(dg 18446744073709551616 b).getD i 0=0:=by rw[EB,EZ (by omega)]; rfl
    rw[hyy]at hB;refine .intro (by omega) (X1 _ (al rfl (by omega)) ?_);rw[hxx];refine X1 _ (kb x 0 c hx (by omega) h3) ?_;refine .intro (by omega) (.intro (by simp<;>omega) ?_);refine X1 _ (al rfl (by omega)) ?_;refine X1 ((i+1:Nat):Int) (wI1 (by omega)) ?_;refine ⟨(i+1,out.set i ((x+18446744073709551616-0-c)%18446744073709551616),if x<0+c then 1 else 0),⟨by omega,by simp[h2],h6.set (by omega),by split<;>omega,?_⟩,by show _-(i+1)<_-i; omega,⟨rfl,rfl,rfl,rfl,rfl,rfl,rfl,HJ⟩,⟨rfl,rfl,rfl,aB nRow_set,HJ⟩⟩;have hst:=dp 18446744073709551616 out (i:=i) (v:=(x+18446744073709551616-0-c)%18446744073709551616) (by omega);rw[hst,hA,hB];have key:x+18446744073709551616*(if x<0+c then 1 else 0)=(x+18446744073709551616-0-c)%18446744073709551616+0+c:=by split<;>omega
    have k2:=congrArg (18446744073709551616^i * ·) key;simp only[E5]at k2;rw[Fk,ES];omega
  ·have e:i=(dg 18446744073709551616 a).length:=by omega
   subst e;refine ⟨out,⟨h6,?_,by omega⟩,⟨rfl,rfl,HJ⟩,⟨rfl,rfl,HJ⟩⟩;rw[aS (EE _),aS hlb,aS (by omega),bq (by omega),bq (by omega)]at h4;have h7:=ee (by omega:0<18446744073709551616) h6;rw[h2]at h7;have h8:c=0:=by
    rcases Gc c with h | h
    ·exact h
    ·have:c=1:=by omega
     subst this;omega
   subst h8;omega
 ·obtain ⟨h1,h2,h3⟩:=hl;refine X2 .frz ?_;refine X1 _ (eg l h3) ?_;rw[cE (by omega) h1,h2];exact ⟨HJ,rc rfl,r1 rfl,HJ⟩
def aF (l:List Int):List (List PC):=l.map λx=>[eI .i64 x]
abbrev iSl (l:List Int):PC:=.sl 1 (aF l)
theorem ac {l:List Int}:(aF l).length=l.length:=by simp[aF]
theorem bl {l:List Int} {i:Int} {n:Nat} (h0:i=n) (h:n<l.length):(aF l)[i.toNat]? = some [eI .i64 (l.getD n 0)]:=by
 subst h0;simp[aF,h]
theorem tR {l m:List Int} {i:Nat} (hl:i<l.length) (hm:i<m.length) (h:l.getD i 0=m.getD i 0):l[i]? = m[i]?:=by
 rw[EB,EB,EY hl,EY hm]at h;rw[EY hl,EY hm];exact congrArg some h
theorem ke {l m:List Int} {i:Nat} (hl:i<l.length) (hm:i<m.length) (h0:l.take i=m.take i) (h:l.getD i 0=m.getD i 0):l.take (i+1)=m.take (i+1):=by
 rw[List.take_add_one,List.take_add_one,h0,tR hl hm h]
theorem rG (l m:List Int) (hl:l.length≤1000000) (hm:m.length≤1000000):Ct P 170 [.c (iSl l),.c (iSl m)] [.c (.sc (.bool (decide (l=m))))]:=by
 refine Ct.go aj aa (N:=26) Tryz.func170 rfl rfl rfl rfl ?_;refine .intro (by rw[ac]; omega) ?_;refine .intro (by rw[ac]; omega) ?_;rw[ac,ac];refine dq (λh=>?_) (λh=>?_)
 ·have hne:l≠m:=λe=>h (by rw[e])
  rw[decide_eq_false hne];exact ⟨HJ,r1 rfl,HJ⟩
 ·refine .intro (by rw[ac]; omega) ?_;rw[ac];refine aw aj aa (λi:Nat=>i≤l.length∧l.take i=m.take i) (λi=>[(0,.c (iSl l)),(1,.c (iSl m)),(12,.c (nI .i64 l.length)),(13,.c (nI .i64 i))]) (λ_=>[]) (λi=>l.length-i)
   0 ⟨by omega,rfl⟩ ⟨rfl,rfl,rfl,rfl,HJ⟩ HJ (λ_:Unit=>l=m) (λ_=>[]) (λ_=>[]) (λi hi=>?_) (λ_ he=>?_)
  ·obtain ⟨h1,h2⟩:=hi;refine ah (λh5=>?_) (λh5=>?_)
   ·refine .intro (by omega) (X1 _ (bl rfl (by omega)) ?_);refine .intro (by omega) (X1 _ (bl rfl (by omega)) ?_);refine .intro rfl ?_;refine dq (λh6=>?_) (λh6=>?_)
    ·have hne:l≠m:=λe=>h6 (by rw[e])
     rw[decide_eq_false hne];exact ⟨HJ,r1 rfl,HJ⟩
    ·refine X1 ((i+1:Nat):Int) (wI1 (by omega)) ?_;exact ⟨i+1,⟨by omega,ke (by omega) (by omega) h2 h6⟩,by omega,⟨rfl,rfl,rfl,rfl,HJ⟩,HJ⟩
   ·have e:i=l.length:=by omega
    subst e;rw[E7,Fj (by omega)]at h2;exact ⟨(),h2,HJ,HJ⟩
  ·rw[decide_eq_true he];exact ⟨HJ,r1 rfl,HJ⟩
theorem mC (l m:List Int) (hl:l.length≤1000000) (hm:m.length≤1000000):Ct P 10 [.c (iSl l),.c (iSl m)] [.c (.sc (.bool (decide (l=m))))]:=by
 refine Ct.go aj aa (N:=26) Tryz.func10 rfl rfl rfl rfl ?_;refine .intro (by rw[ac]; omega) ?_;refine .intro (by rw[ac]; omega) ?_;rw[ac,ac];refine dq (λh=>?_) (λh=>?_)
 ·have hne:l≠m:=λe=>h (by rw[e])
  rw[decide_eq_false hne];exact ⟨HJ,r1 rfl,HJ⟩
 ·refine aw aj aa (λi:Nat=>i≤l.length∧l.take i=m.take i) (λi=>[(0,.c (iSl l)),(1,.c (iSl m)),(5,.c (nI .i64 i))]) (λ_=>[]) (λi=>l.length-i)
   0 ⟨by omega,rfl⟩ ⟨rfl,rfl,rfl,HJ⟩ HJ (λ_:Unit=>l=m) (λ_=>[]) (λ_=>[]) (λi hi=>?_) (λ_ he=>?_)
  ·obtain ⟨h1,h2⟩:=hi;refine .intro (by rw[ac]; omega) ?_;rw[ac];refine ah (λh5=>?_) (λh5=>?_)
   ·refine .intro (by omega) (X1 _ (bl rfl (by omega)) ?_);refine .intro (by omega) (X1 _ (bl rfl (by omega)) ?_);refine .intro rfl ?_;refine dq (λh6=>?_) (λh6=>?_)
    ·have hne:l≠m:=λe=>h6 (by rw[e])
     rw[decide_eq_false hne];exact ⟨HJ,r1 rfl,HJ⟩
    ·refine X1 ((i+1:Nat):Int) (wI1 (by omega)) ?_;exact ⟨i+1,⟨by omega,ke (by omega) (by omega) h2 h6⟩,by omega,⟨rfl,rfl,rfl,HJ⟩,HJ⟩
   ·have e:i=l.length:=by omega
    subst e;rw[E7,Fj (by omega)]at h2;exact ⟨(),h2,HJ,HJ⟩
  ·rw[decide_eq_true he];exact ⟨HJ,r1 rfl,HJ⟩
def idx (x:Int):List Int→Int
 | []=>-1
 | y::l=>if x=y then 0 else if idx x l<0 then -1 else idx x l+1
theorem rH (x:Int):∀ (l:List Int) (i:Nat),(∀ j,j<i→l[j]? ≠ some x)→l[i]? = some x→idx x l=i
 | [],i,_,h=>by simp at h
 | y::l,0,_,h=>by simp at h; simp[idx,h]
 | y::l,i+1,h1,h=>by
  have h0:y≠x:=λe=>h1 0 (by omega) (by simp[e])
  have:=rH x l i (λj hj=>by simpa using h1 (j+1) (by omega)) (by simpa using h);simp only[idx,this];rw[if_neg (λe=>h0 e.symm),if_neg (by omega)];simp
theorem rI (x:Int):∀ (l:List Int),(∀ j:Nat,l[j]? ≠ some x)→idx x l = -1
 | [],_=>rfl
 | y::l,h=>by
  have h0:y≠x:=λe=>h 0 (by simp[e])
  have:=rI x l (λj=>by simpa using h (j+1));simp only[idx,this];rw[if_neg (λe=>h0 e.symm),if_pos (by omega)]
theorem yy (l:List Int) (x:Int) (hl:l.length≤1000000):Ct P 95 [.c (iSl l),.c (eI .i64 x)] [.c (eI .i64 (idx x l))]:=by
 refine Ct.go aj aa (N:=19) Tryz.func95 rfl rfl rfl rfl ?_;refine .intro (by rw[ac]; omega) ?_;rw[ac];refine aw aj aa (λi:Nat=>i≤l.length∧∀ j,j<i→l[j]? ≠ some x) (λi=>[(0,.c (iSl l)),(1,.c (eI .i64 x)),(7,.c (nI .i64 l.length)),(8,.c (nI .i64 i))]) (λ_=>[]) (λi=>l.length-i)
  0 ⟨by omega,λj hj=>by omega⟩ ⟨rfl,rfl,rfl,rfl,HJ⟩ HJ (λ_:Unit=>idx x l = -1) (λ_=>[]) (λ_=>[]) (λi hi=>?_) (λ_ he=>?_)
 ·obtain ⟨h1,h2⟩:=hi;refine ah (λh5=>?_) (λh5=>?_)
  ·refine .intro (by omega) (X1 _ (bl rfl (by omega)) ?_);have hg:l[i]? = some (l.getD i 0):=by simp[EB,(by omega:i<l.length)]
   refine aU (λh6=>?_) (λh6=>?_)
   ·exact ⟨HJ,r1 (iE (rH x l i h2 (by rw[hg,h6])).symm),HJ⟩
   ·refine X1 ((i+1:Nat):Int) (wI1 (by omega)) ?_;refine ⟨i+1,⟨by omega,λj hj=>?_⟩,by omega,⟨rfl,rfl,rfl,rfl,HJ⟩,HJ⟩;by_cases hji:j=i
    ·subst hji;rw[hg];intro e;exact h6 (Gk e).symm
    ·exact h2 j (by omega)
  ·refine ⟨(),rI x l (λj=>?_),HJ,HJ⟩;by_cases hj:j<i
   ·exact h2 j hj
   ·rw[EZ (by omega)]; simp
 ·exact ⟨HJ,r1 (iE he.symm),HJ⟩
theorem ik (l:List Int) (x:Int) (hl:l.length≤1000000):Ct P 44 [.c (iSl l),.c (eI .i64 x)] [.c (.sc (.bool (decide (idx x l≥0))))]:=by
 refine Ct.go aj aa (N:=9) Tryz.func44 rfl rfl rfl rfl ?_;refine X1 _ (yy l x hl) ?_;exact ⟨HJ,r1 rfl,HJ⟩
def aH:List Int→List Int→Int
 | [],[]=>0
 | [],_::_=>-1
 | _::_,[]=>1
 | x::l,y::m=>if bF x y≠0 then bF x y else aH l m
theorem tS (l m:List Int) (hl:l.length≤1000000) (hm:m.length≤1000000):Ct P 185 [.c (iSl l),.c (iSl m)] [.c (eI .i64 (aH l m))]:=by
 refine Ct.go aj aa (N:=36) Tryz.func185 rfl rfl rfl rfl ?_;refine .intro (by rw[ac]; omega) ?_;rw[ac];refine aw aj aa (λi:Nat=>i≤l.length∧i≤m.length∧aH l m=aH (l.drop i) (m.drop i)) (λi=>[(0,.c (iSl l)),(1,.c (iSl m)),(9,.c (iSl l)),(10,.c (nI .i64 l.length)),(11,.c (nI .i64 i))]) (λ_=>[]) (λi=>l.length-i)
  0 ⟨by omega,by omega,rfl⟩ ⟨rfl,rfl,rfl,rfl,rfl,HJ⟩ HJ (λ_:Unit=>l.length≤m.length∧aH l m=if l.length<m.length then -1 else 0) (λ_=>[(0,.c (iSl l)),(1,.c (iSl m))]) (λ_=>[]) (λi hi=>?_) (λ_ he=>?_)
 ·obtain ⟨h1,h2,h3⟩:=hi;refine ah (λh5=>?_) (λh5=>?_)
  ·refine .intro (by omega) (X1 _ (bl rfl (by omega)) ?_);refine .intro (by rw[ac]; omega) ?_;rw[ac];have dl:l.drop i=l.getD i 0::l.drop (i+1):=by
    rw[E8 (by omega)]; simp[EB,(by omega:i<l.length)]
   refine ah (λh6=>?_) (λh6=>?_)
   ·have dm:m.drop i=[]:=FS (by omega);rw[dl,dm,aH]at h3;exact ⟨HJ,r1 (iE h3.symm),HJ⟩
   ·have dm:m.drop i=m.getD i 0::m.drop (i+1):=by
     rw[E8 (by omega)]; simp[EB,(by omega:i<m.length)]
    rw[dl,dm,aH]at h3;refine .intro (by omega) (X1 _ (bl rfl (by omega)) ?_);refine X1 _ (mB _ _) ?_;refine dq (λh7=>?_) (λh7=>?_)
    ·rw[if_pos h7]at h3;exact ⟨HJ,r1 (iE h3.symm),HJ⟩
    ·rw[if_neg (λh=>h h7)]at h3;refine X1 ((i+1:Nat):Int) (wI1 (by omega)) ?_;exact ⟨i+1,⟨by omega,by omega,h3⟩,by omega,⟨rfl,rfl,rfl,rfl,rfl,HJ⟩,HJ⟩
  ·have e:i=l.length:=by omega
   subst e;refine ⟨(),⟨h2,?_⟩,⟨rfl,rfl,HJ⟩,HJ⟩;rw[h3,F9]
   cases hd:m.drop l.length with
   | nil=>
    have:=List.drop_eq_nil_iff.1 hd;rw[if_neg (by omega)]; rfl
   | cons y t=>
    have:¬ m.length≤l.length:=λh=>by rw[FS h]at hd; cases hd
    rw[if_pos (by omega)]; rfl
 ·obtain ⟨h1,h2⟩:=he;refine .intro (by rw[ac]; omega) ?_;refine .intro (by rw[ac]; omega) ?_;rw[ac,ac];refine ah (λh5=>?_) (λh5=>?_)
  ·rw[if_pos (by omega)]at h2;exact ⟨HJ,r1 (iE h2.symm),HJ⟩
  ·rw[if_neg (by omega)]at h2;exact ⟨HJ,r1 (iE h2.symm),HJ⟩
theorem fO (l m:List Int) (hl:l.length≤1000000) (hm:m.length≤1000000):Ct P 166 [.c (iSl l),.c (iSl m)] [.c (eI .i64 (aH l m))]:=by
 refine Ct.go aj aa (N:=8) Tryz.func166 rfl rfl rfl rfl ?_;refine X1 _ (tS l m hl hm) ?_;exact ⟨HJ,r1 rfl,HJ⟩
theorem aV {l:List Int}:ax (aF l):=by
 intro el h;obtain ⟨x,_,rfl⟩:=Fd.1 h;rfl
end
section
theorem yz {H:Type} (d:DataW H):1≤Rows.uptoBulk d:=by
 cases d with
 | lit l=>cases l<;>simp[Rows.uptoBulk]
 | _=>simp[Rows.uptoBulk]
theorem vX {H:Type} {d:DataW H} {l:List (DataW H)} (h:d∈l):Rows.uptoBulk d≤Rows.uptoBulkAll l:=by
 induction l with
 | nil=>cases h
 | cons x r ih=>
  simp only[Rows.uptoBulkAll]
  cases Fg.1 h with
  | inl e=>subst e; omega
  | inr e=>have:=ih e; omega
theorem yA {H:Type} (l:List (DataW H)):l.length≤Rows.uptoBulkAll l:=by
 induction l with
 | nil=>simp[Rows.uptoBulkAll]
 | cons x r ih=>have:=yz x; simp only[Rows.uptoBulkAll,Fe]; omega
theorem uR {α:Type} {R:Nat→α→Prop}:∀ (n:Nat),(∀ i,i<n→∃ y,R i y)→∃ l:List α,l.length=n∧∀ (i:Nat) x,l[i]? = some x→R i x
 | 0,_=>⟨[],rfl,λi x h=>by simp at h⟩
 | n+1,h=>by
  obtain ⟨l,h1,h2⟩:=uR n λi hi=>h i (by omega)
  obtain ⟨y,hy⟩:=h n (by omega);refine ⟨l++[y],by simp[h1],λi x hx=>?_⟩;rcases FY i n with hlt | rfl | hgt
  ·rw[EK (by omega)]at hx; exact h2 i x hx
  ·rw[EJ (by omega),h1,G1]at hx;cases hx; exact hy
  ·rw[EZ (by simp; omega)]at hx; cases hx
section
variable {H:Type} {enc:TypeId × Value→H} {W:World} {sp:Nat→Bool} {held:Bool}
abbrev okW (W:World):Nat→Prop:=λb=>b<W.heap.size
theorem yB {t e sz:Nat} (ht:P.underlying t=some (.slice e)) (hc:P.cellsOf e=sz) (hsz:0<sz) {α:Type} (R:α→List PC) (hR:∀ x,(R x).length=sz) (B:Nat) (hB:B≤140737488355328) (Q:α→Prop)
  (elem:∀ (n:Nat) (cs:List Value) (y:DataW H × List MemPlace),DataW.trod enc P W 0 sp held n e cs=some y→Rows.uptoBulk y.1≤B→∃ x,Q x∧∀ (i:Nat) c,(R x)[i]? = some c→∃ u,cs[i]? = some u∧Rel (okW W) W c u)
  {fuel:Nat} {cs:List Value} {y:DataW H × List MemPlace} (h:DataW.trod enc P W 0 sp held fuel t cs=some y) (hb:Rows.uptoBulk y.1≤B) :
  ∃ (v:Value) (l:List α),cs=[v]∧l.length≤B∧(∀ x,x∈l→Q x)∧Rel (okW W) W (.sl sz (l.map R)) v:=by
 rcases DataW.trod_slice ht h with ⟨rfl,rfl⟩ | ⟨a,len,cap,elems,rest,n,rfl,rfl,rfl,_,hl,hm,hlen,hel,_⟩
 ·exact ⟨_,[],rfl,by simp,λx hx=>by simp at hx,.sl0⟩
 ·simp only[Rows.uptoBulk]at hb;have hlb:=yA (elems.map (·.1));rw[Fs]at hlb;have each:∀ i,i<len→∃ x:α,Q x∧∀ (q:Nat) c,(R x)[q]? = some c→∃ u,W.cell? ((a.add (i*sz)).add q)=some u∧Rel (okW W) W c u:=by
   intro i hi;have h1:=hel i hi;rw[EY (by omega),Option.bind_eq_some_iff]at h1;obtain ⟨cs',hcs,hy⟩:=h1;rw[hc]at hcs;obtain ⟨_,hcl,hcg⟩:=World.cells?_some hcs;have hbe:Rows.uptoBulk (elems[i]).1≤B:=by
    have:=vX (d:=(elems[i]).1) (l:=elems.map (·.1)) (Fd.2 ⟨_,EO _,rfl⟩);omega
   obtain ⟨x,hq,hx⟩:=elem n cs' _ hy hbe;refine ⟨x,hq,λq c hqc=>?_⟩;obtain ⟨u,hu,hr⟩:=hx q c hqc;exact ⟨u,(hcg q (by rw[←hR x]; exact (EF.1 hqc).1)).trans hu,hr⟩
  obtain ⟨l,hll,hlx⟩:=uR len each;refine ⟨_,l,rfl,by omega,λx hx=>?_,?_⟩
  ·obtain ⟨i,hi⟩:=Gy.1 hx;exact (hlx i x hi).1
  ·by_cases h0:len=0
   ·subst h0;have:l=[]:=Fa.1 hll;subst this;exact .sl0
   ·obtain ⟨b,off,spot⟩:=a;have hcell:∀ (j q:Nat) x c,l[j]? = some x→(R x)[q]? = some c→∃ u,W.cell? (((⟨b,off,spot⟩:Addr).add (j*sz)).add q)=some u∧Rel (okW W) W c u:=λj q x c hj hq=>(hlx j x hj).2 q c hq
    have hpos:0<l.length:=by rw[hll]; exact Fb h0
    obtain ⟨x0,hx0⟩:∃ x0,l[0]? = some x0:=⟨l[0]'hpos,EY hpos⟩;have hposR:0<(R x0).length:=by rw[hR]; exact hsz
    obtain ⟨c0,hc0⟩:∃ c0,(R x0)[0]? = some c0:=⟨(R x0)[0]'hposR,EY hposR⟩;obtain ⟨u0,hu0,_⟩:=hcell 0 0 _ _ hx0 hc0;have hu0':W.cell? ⟨b,off,spot⟩=some u0:=by simpa [Addr.add] using hu0
    have hspot:spot=none:=by simpa using World.cell?_spot hu0'
    subst hspot;have hblk:b<W.heap.size:=by
     unfold World.cell? at hu0'
     cases hbb:W.heap[b]? with
     | none=>simp[hbb]at hu0'
     | some o=>exact (E9.1 hbb).1
    have hadd:∀ j q:Nat,(((⟨b,off,none⟩:Addr).add (j*sz)).add q)=⟨b,off+(j*sz+q),none⟩:=λj q=>by
     rw[Addr.add_lit,Addr.add_lit,FG]
    have hlm:(l.map R).length=len:=by rw[Fs,hll]
    rw[←hlm];have key:∀ (j i:Nat) (el:List PC) (x:PC),(l.map R)[j]? = some el→el[i]? = some x→∃ u,W.cell? ⟨b,off+(j*sz+i),none⟩=some u∧Rel (okW W) W x u:=λj i el x hj hi=>by
     rw[EP,EI]at hj;obtain ⟨z,hz,rfl⟩:=hj;obtain ⟨u,hu,hr⟩:=hcell j i z x hz hi;rw[hadd]at hu;exact ⟨u,hu,hr⟩
    refine .sl (λj i=>(W.cell? ⟨b,off+(j*sz+i),none⟩).getD (.bool true)) (by rw[hlm]; exact hl) (by rw[hlm,dL]; exact EG (by omega) hB) hblk hblk (λj el hj=>?_) (λj i el x hj hi=>?_) (λj i el x hj hi=>?_)
    ·rw[EP,EI]at hj;obtain ⟨z,_,rfl⟩:=hj;exact hR z
    ·obtain ⟨u,hu,_⟩:=key j i el x hj hi;rw[hu]; rfl
    ·obtain ⟨u,hu,hr⟩:=key j i el x hj hi;rw[hu]; exact hr
end
end
section
section
variable {H:Type} {enc:TypeId × Value→H} {W:World} {sp:Nat→Bool} {held:Bool} {B:Nat}
theorem CO {n:Int} (h:(Lit.int .i64 n).wf=true):inR .i64 n:=by
 have:-9223372036854775808≤n∧n≤9223372036854775807:=by simpa [Lit.wf,IntKind.min,IntKind.max,IntKind.signed,IntKind.bits] using h
 exact this
theorem CP {n:Nat} {cs:List Value} {y:DataW H × List MemPlace} (h:DataW.trod enc P W 0 sp held n 3 cs=some y):∃ z:Int,cs=[.int .i64 z]∧Rel (okW W) W (eI .i64 z) (.int .i64 z):=by
 obtain ⟨z,rfl,rfl,hw⟩:=DataW.trod_int Tryz.underlying3 h;exact ⟨z,rfl,.sc (CO hw)⟩
theorem rd_ints (hB:B≤140737488355328) {n:Nat} {cs:List Value} {y:DataW H × List MemPlace} (h:DataW.trod enc P W 0 sp held n 22 cs=some y) (hb:Rows.uptoBulk y.1≤B) :
  ∃ (v:Value) (l:List Int),cs=[v]∧l.length≤B∧Rel (okW W) W (iSl l) v:=by
 obtain ⟨v,l,h1,h2,_,h4⟩:=yB Tryz.underlying22 (sz:=1) (by kernel_rfl) (by omega) (λz:Int=>[eI .i64 z]) (λ_=>rfl) B hB (λ_=>True) (λn cs y h _=>by
  obtain ⟨z,rfl,hr⟩:=CP h;refine ⟨z,HJ,λi c hi=>?_⟩
  cases i with
  | zero=>cases hi; exact ⟨_,rfl,hr⟩
  | succ i=>simp at hi) h hb
 exact ⟨v,l,h1,h2,h4⟩
end
end
section
def lj (n:Int):Bool:=n==9||n==11||n==12||n==13||n==32
theorem blE {a b:Bool} (h:a=b):(some (.c (.sc (.bool a))):Option AV)=some (.c (.sc (.bool b))):=by rw[h]
theorem rJ (n:Int):Ct P 175 [.c (eI .u8 n)] [.c (.sc (.bool (lj n)))]:=by
 refine Ct.go aj aa (N:=21) Tryz.func175 rfl rfl rfl rfl ?_;refine aU (λh1=>?_) (λh1=>?_)
 ·exact ⟨HJ,r1 (blE (by subst h1; rfl)),HJ⟩
 ·refine aU (λh2=>?_) (λh2=>?_)
  ·exact ⟨HJ,r1 (blE (by subst h2; rfl)),HJ⟩
  ·refine aU (λh3=>?_) (λh3=>?_)
   ·exact ⟨HJ,r1 (blE (by subst h3; rfl)),HJ⟩
   ·refine aU (λh4=>?_) (λh4=>?_)
    ·exact ⟨HJ,r1 (blE (by subst h4; rfl)),HJ⟩
    ·exact ⟨HJ,r1 (blE (show (n==32)=lj n by simp[lj,h1,h2,h3,h4])),HJ⟩
abbrev sS (s:ByteArray):PC:=.sc (.string s)
def kf (s:ByteArray):Bool:=(s.toList==(ByteArray.mk #[60,115,62]).toList)||(s.toList==(ByteArray.mk #[60,47,115,62]).toList)
theorem A8 (s:ByteArray):Ct P 176 [.c (sS s)] [.c (.sc (.bool (kf s)))]:=by
 refine Ct.go aj aa (N:=9) Tryz.func176 rfl rfl rfl rfl ?_;refine aP (λh1=>?_) (λh1=>?_)
 ·exact ⟨HJ,r1 (blE (show true=kf s by unfold kf; rw[show (s.toList==(ByteArray.mk #[60,115,62]).toList)=true from h1]; rfl)),HJ⟩
 ·exact ⟨HJ,r1 (blE (show (s.toList==(ByteArray.mk #[60,47,115,62]).toList)=kf s by unfold kf; rw[show (s.toList==(ByteArray.mk #[60,115,62]).toList)=false from h1]; rfl)),HJ⟩
def gF (l:List ByteArray):List (List PC):=l.map λx=>[sS x]
abbrev sSl (l:List ByteArray):PC:=.sl 1 (gF l)
theorem aM {l:List ByteArray}:(gF l).length=l.length:=by simp[gF]
theorem iO {l:List ByteArray} {i:Int} {n:Nat} (h0:i=n) (h:n<l.length):(gF l)[i.toNat]? = some [sS l[n]]:=by
 subst h0;simp[gF,h]
def ca (s:ByteArray):List ByteArray→Int
 | []=>-1
 | y::l=>if (y.toList==s.toList)=true then 0 else if ca s l<0 then -1 else ca s l+1
theorem mc (s:ByteArray):∀ (l:List ByteArray) (i:Nat) (h:i<l.length),(∀ (j:Nat) (hj:j<i),(l[j].toList==s.toList)=false)→(l[i].toList==s.toList)=true→ca s l=i
 | [],i,h,_,_=>by simp at h
 | y::l,0,_,_,h=>by simp at h; simp[ca,h]
 | y::l,i+1,hi,h1,h=>by
  have h0:=h1 0 (by omega);have:=mc s l i (by simpa using hi) (λj hj=>by simpa using h1 (j+1) (by omega)) (by simpa using h);simp only[G6]at h0;simp only[ca,this,h0];rw[if_neg (by simp),if_neg (by omega)];simp
theorem md (s:ByteArray):∀ (l:List ByteArray),(∀ (j:Nat) (hj:j<l.length),(l[j].toList==s.toList)=false)→ca s l = -1
 | [],_=>rfl
 | y::l,h=>by
  have h0:=h 0 (by simp);have:=md s l (λj hj=>h (j+1) (Nat.succ_lt_succ hj));simp only[G6]at h0;simp only[ca,this,h0];rw[if_neg (by simp),if_pos (by omega)]
theorem lm (l:List ByteArray) (s:ByteArray) (hl:l.length≤1000000):Ct P 137 [.c (sSl l),.c (sS s)] [.c (eI .i64 (ca s l))]:=by
 refine Ct.go aj aa (N:=19) Tryz.func137 rfl rfl rfl rfl ?_;refine aw aj aa (λi:Nat=>i≤l.length∧∀ (j:Nat) (hj:j<l.length),j<i→(l[j].toList==s.toList)=false) (λi=>[(0,.c (sSl l)),(1,.c (sS s)),(5,.c (nI .i64 i))]) (λ_=>[]) (λi=>l.length-i)
  0 ⟨by omega,λj _ hj=>by omega⟩ ⟨rfl,rfl,rfl,HJ⟩ HJ (λ_:Unit=>ca s l = -1) (λ_=>[]) (λ_=>[]) (λi hi=>?_) (λ_ he=>?_)
 ·obtain ⟨h1,h2⟩:=hi;refine .intro (by rw[aM]; omega) ?_;rw[aM];refine ah (λh5=>?_) (λh5=>?_)
  ·refine .intro (by omega) (X1 _ (iO rfl (by omega)) ?_);refine aP (λh6=>?_) (λh6=>?_)
   ·exact ⟨HJ,r1 (iE (mc s l i (by omega) (λj hj=>h2 j (by omega) hj) h6).symm),HJ⟩
   ·refine X1 ((i+1:Nat):Int) (wI1 (by omega)) ?_;refine ⟨i+1,⟨by omega,λj hj hji=>?_⟩,by omega,⟨rfl,rfl,rfl,HJ⟩,HJ⟩;by_cases e:j=i
    ·subst e; exact h6
    ·exact h2 j hj (by omega)
  ·exact ⟨(),md s l (λj hj=>h2 j hj (by omega)),HJ,HJ⟩
 ·exact ⟨HJ,r1 (iE he.symm),HJ⟩
theorem vY (s:ByteArray) (l:List ByteArray):-1≤ca s l∧ca s l<l.length:=by
 induction l with
 | nil=>simp[ca]
 | cons y l ih=>
  simp only[ca,Fe];split
  ·omega
  ·split<;>omega
theorem A9 (l:List ByteArray) (s:ByteArray) (hl:l.length≤1000000):Ct P 179 [.c (sSl l),.c (sS s)] [.c (eI .i64 (if 0>ca s l then 0 else ca s l))]:=by
 refine Ct.go aj aa (N:=9) Tryz.func179 rfl rfl rfl rfl ?_;refine X1 _ (lm l s hl) ?_;exact ⟨HJ,r1 rfl,HJ⟩
def gU (l:List ByteArray) (s:ByteArray):Int:=if 0>ca s l then 0 else ca s l
theorem Eh {l:List Int} {x:Int}:aF l++[[eI .i64 x]]=aF (l++[x]):=by simp[aF]
theorem yC (l m:List ByteArray) (hl:l.length≤1000000) (hm:m.length≤1000000):Ct P 140 [.c (sSl l),.c (sSl m)] [.c (iSl (m.map (gU l)))]:=by
 refine Ct.go aj aa (N:=23) Tryz.func140 rfl rfl rfl rfl ?_;refine ie (r:=50) (t:=5) (sz:=1) rfl rfl ?_;refine aw aj aa (λi:Nat=>i≤m.length) (λi=>[(0,.c (sSl l)),(1,.c (sSl m)),(5,.c (.ow 50 1 i)),(6,.c (nI .i64 i))]) (λi=>[(50,.row 1 (aF ((m.take i).map (gU l))))]) (λi=>m.length-i)
  0 (by omega) ⟨rfl,rfl,rfl,rfl,HJ⟩ ⟨rfl,HJ⟩ (λ_:Unit=>True) (λ_=>[(5,.c (.ow 50 1 m.length))]) (λ_=>[(50,.row 1 (aF (m.map (gU l))))]) (λi hi=>?_) (λ_ he=>?_)
 ·refine .intro (by rw[aM]; omega) ?_;rw[aM];refine ah (λh5=>?_) (λh5=>?_)
  ·refine .intro (by omega) (X1 _ (iO rfl (by omega)) ?_);refine X1 _ (A9 l m[i] hl) ?_;have e0:(aF ((m.take i).map (gU l))).length=i:=by simp[aF]; omega
   refine ⟨e0.symm,by rw[e0]; show (i+1+768)*8≤_; omega,by rw[e0]; show i+1≤_; omega,aV,iL,?_⟩;refine X1 ((i+1:Nat):Int) (wI1 (by omega)) ?_;have e1:(m.take (i+1)).map (gU l)=(m.take i).map (gU l)++[gU l m[i]]:=by
    rw[EH (by omega),FM]; rfl
   exact ⟨i+1,by omega,by omega,⟨rfl,rfl,owE (by rw[EC,e0]; rfl),rfl,HJ⟩,⟨aB (by rw[e1,←Eh]; rfl),HJ⟩⟩
  ·have e:i=m.length:=by omega
   subst e;exact ⟨(),HJ,⟨rfl,HJ⟩,⟨aB (by rw[E7]),HJ⟩⟩
 ·exact ⟨HJ,r1 rfl,HJ⟩
def marks15:List ByteArray:=[⟨#[60,117,110,107,62]⟩,⟨#[60,115,62]⟩,⟨#[60,47,115,62]⟩]
theorem tT:Ct P 87 [] [.c (sSl marks15)]:=by
 refine Ct.go aj aa (N:=2) Tryz.func87 rfl rfl rfl rfl ?_;exact ⟨HJ,r1 rfl,HJ⟩
abbrev Cnt:=List Int × Int
def cj (l:List Cnt):List (List PC):=l.map λx=>[iSl x.1,eI .i64 x.2]
abbrev cSl (l:List Cnt):PC:=.sl 2 (cj l)
def a8 (L:List (List Cnt)):List (List PC):=L.map λl=>[cSl l]
abbrev cK (L:List (List Cnt)):PC:=.sl 1 (a8 L)
theorem cRow_len {l:List Cnt}:(cj l).length=l.length:=by simp[cj]
theorem aq {l:List (List Cnt)}:(a8 l).length=l.length:=by simp[a8]
theorem bs {l:List Cnt} {i:Int} {n:Nat} (h0:i=n) (h:n<l.length):(cj l)[i.toNat]? = some [iSl l[n].1,eI .i64 l[n].2]:=by
 subst h0;simp[cj,h]
theorem bH {l:List (List Cnt)} {i:Int} {n:Nat} (h0:i=n) (h:n<l.length):(a8 l)[i.toNat]? = some [cSl l[n]]:=by
 subst h0;simp[a8,h]
structure CLim (l:List Cnt):Prop where
 len:l.length≤1000000
 g:∀ x,x∈l→x.1.length≤1000000
structure CCLim (L:List (List Cnt)):Prop where
 len:L.length≤1000000
 l:∀ l,l∈L→CLim l
theorem CLim.at' {l:List Cnt} (h:CLim l) {i:Nat} (hi:i<l.length):l[i].1.length≤1000000:=h.g _ (EO hi)
theorem CCLim.at' {L:List (List Cnt)} (h:CCLim L) {i:Nat} (hi:i<L.length):CLim L[i]:=h.l _ (EO hi)
theorem fk {l:List Int} {i:Nat} (h:i<l.length):l.drop i=l.getD i 0::l.drop (i+1):=by
 rw[E8 h]; simp[EB,h]
theorem nH {l m:List Int} {i:Nat} (h1:i≤l.length) (h2:i≤m.length) (h3:i=l.length∨i=m.length) (h:aH l m=aH (l.drop i) (m.drop i)):aH l m=if l.length<m.length then -1 else if l.length>m.length then 1 else 0:=by
 rw[h];rcases FY l.length m.length with hl | hl | hl
 ·have:i=l.length:=by omega
  subst this;rw[if_pos hl,F9,fk hl]; rfl
 ·have e1:l.drop i=[]:=FS (by omega);have e2:m.drop i=[]:=FS (by omega);rw[e1,e2,if_neg (by omega),if_neg (by omega)]; rfl
 ·have:i=m.length:=by omega
  subst this;rw[if_neg (by omega),if_pos hl,F9,fk hl]; rfl
theorem rK (l m:List Int) (hl:l.length≤1000000) (hm:m.length≤1000000):Ct P 178 [.c (iSl l),.c (iSl m)] [.c (eI .i64 (aH l m))]:=by
 refine Ct.go aj aa (N:=46) Tryz.func178 rfl rfl rfl rfl ?_;refine aw aj aa (λi:Nat=>i≤l.length∧i≤m.length∧aH l m=aH (l.drop i) (m.drop i)) (λi=>[(0,.c (iSl l)),(1,.c (iSl m)),(5,.c (nI .i64 i))]) (λ_=>[]) (λi=>l.length-i)
  0 ⟨by omega,by omega,rfl⟩ ⟨rfl,rfl,rfl,HJ⟩ HJ (λ_:Unit=>aH l m=if l.length<m.length then -1 else if l.length>m.length then 1 else 0) (λ_=>[(0,.c (iSl l)),(1,.c (iSl m))]) (λ_=>[]) (λi hi=>?_) (λ_ he=>?_)
 ·obtain ⟨h1,h2,h3⟩:=hi;refine .intro (by rw[ac]; omega) ?_;rw[ac];refine ah (λh5=>?_) (λh5=>?_)
  ·refine .intro (by rw[ac]; omega) ?_;rw[ac];refine ah (λh6=>?_) (λh6=>?_)
   ·have hd:=h3;rw[fk (l:=l) (i:=i) (by omega),fk (l:=m) (i:=i) (by omega),aH]at hd;refine .intro (by omega) (X1 _ (bl rfl (by omega)) ?_);refine .intro (by omega) (X1 _ (bl rfl (by omega)) ?_);refine .intro rfl ?_;refine ah (λh7=>?_) (λh7=>?_)
    ·have e:bF (l.getD i 0) (m.getD i 0) = -1:=by rw[bF,if_pos h7]
     rw[e,if_pos (by decide)]at hd;exact ⟨HJ,r1 (iE hd.symm),HJ⟩
    ·refine .intro (by omega) (X1 _ (bl rfl (by omega)) ?_);refine .intro (by omega) (X1 _ (bl rfl (by omega)) ?_);refine .intro rfl ?_;refine ah (λh8=>?_) (λh8=>?_)
     ·have e:bF (l.getD i 0) (m.getD i 0)=1:=by rw[bF,if_neg h7,if_pos h8]
      rw[e,if_pos (by decide)]at hd;exact ⟨HJ,r1 (iE hd.symm),HJ⟩
     ·have e:bF (l.getD i 0) (m.getD i 0)=0:=by rw[bF,if_neg h7,if_neg h8]
      rw[e,if_neg (by decide)]at hd;refine X1 ((i+1:Nat):Int) (wI1 (by omega)) ?_;exact ⟨i+1,⟨by omega,by omega,hd⟩,by omega,⟨rfl,rfl,rfl,HJ⟩,HJ⟩
   ·exact ⟨(),nH h1 h2 (.inr (by omega)) h3,⟨rfl,rfl,HJ⟩,HJ⟩
  ·exact ⟨(),nH h1 h2 (.inl (by omega)) h3,⟨rfl,rfl,HJ⟩,HJ⟩
 ·refine .intro (by rw[ac]; omega) ?_;refine .intro (by rw[ac]; omega) ?_;rw[ac,ac];refine ah (λh5=>?_) (λh5=>?_)
  ·rw[if_pos (by omega)]at he;exact ⟨HJ,r1 (iE he.symm),HJ⟩
  ·rw[if_neg (by omega)]at he;refine .intro (by rw[ac]; omega) ?_;refine .intro (by rw[ac]; omega) ?_;rw[ac,ac];refine ah (λh6=>?_) (λh6=>?_)
   ·rw[if_pos (by omega)]at he;exact ⟨HJ,r1 (iE he.symm),HJ⟩
   ·rw[if_neg (by omega)]at he;exact ⟨HJ,r1 (iE he.symm),HJ⟩
def cq (g:List Int):List Cnt→Int
 | []=>-1
 | x::l=>if x.1=g then 0 else if cq g l<0 then -1 else cq g l+1
theorem ln (g:List Int):∀ (l:List Cnt) (i:Nat) (h:i<l.length),(∀ (j:Nat) (hj:j<i),l[j].1≠g)→l[i].1=g→cq g l=i
 | [],i,h,_,_=>by simp at h
 | x::l,0,_,_,h=>by simp at h; simp[cq,h]
 | x::l,i+1,hi,h1,h=>by
  have h0:=h1 0 (by omega);have:=ln g l i (by simpa using hi) (λj hj=>by simpa using h1 (j+1) (by omega)) (by simpa using h);simp only[G6]at h0;rw[cq,if_neg h0,this,if_neg (by omega)]; simp
theorem fl (g:List Int):∀ (l:List Cnt),(∀ (j:Nat) (hj:j<l.length),l[j].1≠g)→cq g l = -1
 | [],_=>rfl
 | x::l,h=>by
  have h0:=h 0 (by simp);have:=fl g l (λj hj=>h (j+1) (Nat.succ_lt_succ hj));simp only[G6]at h0;rw[cq,if_neg h0,this,if_pos (by omega)]
theorem yD (l:List Cnt) (g:List Int) (hl:CLim l) (hg:g.length≤1000000):Ct P 162 [.c (cSl l),.c (iSl g)] [.c (eI .i64 (cq g l))]:=by
 have hll:=hl.len;refine Ct.go aj aa (N:=20) Tryz.func162 rfl rfl rfl rfl ?_;refine aw aj aa (λi:Nat=>i≤l.length∧∀ (j:Nat) (hj:j<l.length),j<i→l[j].1≠g) (λi=>[(0,.c (cSl l)),(1,.c (iSl g)),(5,.c (nI .i64 i))]) (λ_=>[]) (λi=>l.length-i)
  0 ⟨by omega,λj _ hj=>by omega⟩ ⟨rfl,rfl,rfl,HJ⟩ HJ (λ_:Unit=>cq g l = -1) (λ_=>[]) (λ_=>[]) (λi hi=>?_) (λ_ he=>?_)
 ·obtain ⟨h1,h2⟩:=hi;refine .intro (by rw[cRow_len]; omega) ?_;rw[cRow_len];refine ah (λh5=>?_) (λh5=>?_)
  ·refine .intro (by omega) (X1 _ (bs rfl (by omega)) ?_);refine X1 _ (mC _ g (hl.at' (by omega)) hg) ?_;refine ah (λh6=>?_) (λh6=>?_)
   ·exact ⟨HJ,r1 (iE (ln g l i (by omega) (λj hj=>h2 j (by omega) hj) h6).symm),HJ⟩
   ·refine X1 ((i+1:Nat):Int) (wI1 (by omega)) ?_;refine ⟨i+1,⟨by omega,λj hj hji=>?_⟩,by omega,⟨rfl,rfl,rfl,HJ⟩,HJ⟩;by_cases e:j=i
    ·subst e; exact h6
    ·exact h2 j hj (by omega)
  ·exact ⟨(),fl g l (λj hj=>h2 j hj (by omega)),HJ,HJ⟩
 ·exact ⟨HJ,r1 (iE he.symm),HJ⟩
theorem blC {a b:Bool} (h:a=b):(some (.c (.sc (.bool a))):Option AV)=some (.c (.sc (.bool b))):=by rw[h]
structure WLim (l:List Cnt):Prop where
 len:l.length≤140737488355328
 g:∀ x,x∈l→x.1.length≤140737488355328
structure WWLim (L:List (List Cnt)):Prop where
 len:L.length≤140737488355328
 l:∀ l,l∈L→WLim l
theorem WLim.at' {l:List Cnt} (h:WLim l) {i:Nat} (hi:i<l.length):l[i].1.length≤140737488355328:=h.g _ (EO hi)
theorem WWLim.at' {L:List (List Cnt)} (h:WWLim L) {i:Nat} (hi:i<L.length):WLim L[i]:=h.l _ (EO hi)
def cT (n:Nat):Option (List Int)→List Cnt→Int
 | _,[]=>0
 | p,x::l=>if (x.1.length:Int)≠n+1 then 1 else if x.2<1 then 8 else if (match p with | none=>false | some q=>decide (aH q x.1≥0))=true then 9 else cT n (some x.1) l
def cX:Nat→List (List Cnt)→Int
 | _,[]=>0
 | n,l::ls=>if cT n none l≠0 then cT n none l else cX (n+1) ls
def fx (L:List (List Cnt)):Int:=if (L.length:Int)=0∨(L.length:Int)>8 then 1 else cX 0 L
def kg (l:List Cnt):Nat→Option (List Int)
 | 0=>none
 | i+1=>(l[i]?).map (·.1)
theorem im {n:Nat} {p:Option (List Int)} {x:Cnt} {l:List Cnt}:cT n p (x::l)=if (x.1.length:Int)≠n+1 then 1 else if x.2<1 then 8 else if (match p with | none=>false | some q=>decide (aH q x.1≥0))=true then 9 else cT n (some x.1) l:=by cases p<;>rfl
theorem nJ {n:Nat} {p:Option (List Int)}:cT n p []=0:=by cases p<;>rfl
theorem vZ {n:Nat} {l:List Cnt} {i:Nat} (h:i<l.length):cT n (kg l i) (l.drop i)=if (l[i].1.length:Int)≠n+1 then 1 else if l[i].2<1 then 8 else if (match kg l i with | none=>false | some q=>decide (aH q l[i].1≥0))=true then 9 else cT n (kg l (i+1)) (l.drop (i+1)):=by
 have e:kg l (i+1)=some l[i].1:=by simp[kg,h]
 rw[E8 h,im,e]
theorem nK {n:Nat} {L:List (List Cnt)} (h:n<L.length) {v:Int} (hv:cT n none L[n]=v) (h0:v≠0):cX n (L.drop n)=v:=by
 rw[E8 h,cX,hv,if_pos h0]
theorem kh {n:Nat} {L:List (List Cnt)} (h:n<L.length) (hv:cT n none L[n]=0):cX n (L.drop n)=cX (n+1) (L.drop (n+1)):=by
 rw[E8 h,cX,hv,if_neg (by simp)]
theorem v4 (L:List (List Cnt)) (hL:CCLim L):Ct P 127 [.c (cK L)] [.c (eI .i64 (fx L))]:=by
 have hll:=hL.len;refine Ct.go aj aa (N:=57) Tryz.func127 rfl rfl rfl rfl ?_;refine .intro (by rw[aq]; omega) ?_;rw[aq];refine aU (λh0=>?_) (λh0=>?_)
 ·exact ⟨HJ,r1 (iE (by rw[fx,if_pos (.inl h0)])),HJ⟩
 refine .intro (by rw[aq]; omega) ?_;rw[aq];refine ah (λh1=>?_) (λh1=>?_)
 ·exact ⟨HJ,r1 (iE (by rw[fx,if_pos (.inr h1)])),HJ⟩
 have hw:fx L=cX 0 L:=by rw[fx,if_neg (by omega)]
 rw[hw];refine .intro (by rw[aq]; omega) ?_;rw[aq];refine aw aj aa (λn:Nat=>n≤L.length∧cX 0 L=cX n (L.drop n)) (λn=>[(15,.c (cK L)),(16,.c (nI .i64 L.length)),(17,.c (nI .i64 n))]) (λ_=>[]) (λn=>L.length-n)
  0 ⟨by omega,rfl⟩ ⟨rfl,rfl,rfl,HJ⟩ HJ (λ_:Unit=>cX 0 L=0) (λ_=>[]) (λ_=>[]) (λn hi=>?_) (λ_ he=>?_)
 ·obtain ⟨h2,h3⟩:=hi;refine ah (λh4=>?_) (λh4=>?_)
  ·have hn:n<L.length:=by omega
   have hl:=hL.at' hn;have hlen:=hl.len;have hget:=bH (l:=L) (i:=(n:Int)) (n:=n) rfl hn;have hof:=λv=>nK (n:=n) (L:=L) hn (v:=v)
   have hnext:=kh (n:=n) (L:=L) hn;generalize L[n]=l at *
   refine .intro (by omega) (X1 _ hget ?_);refine .intro (by rw[cRow_len]; omega) ?_;rw[cRow_len];refine ci aj aa (λi:Nat=>i≤l.length∧cT n none l=cT n (kg l i) (l.drop i)) (λi=>[(3,.c (nI .i64 n)),(4,.c (cSl l)),(15,.c (cK L)),(16,.c (nI .i64 L.length)),(17,.c (nI .i64 n)),(22,.c (cSl l)),(23,.c (nI .i64 l.length)),(24,.c (nI .i64 i))]) (λ_=>[]) (λi=>l.length-i)
    0 ⟨by omega,rfl⟩ ⟨rfl,rfl,rfl,rfl,rfl,rfl,rfl,rfl,HJ⟩ HJ (λi hi=>?_)
   ·obtain ⟨i1,i2⟩:=hi;refine ah (λh5=>?_) (λh5=>?_)
    ·have hi:i<l.length:=by omega
     have hxl:=hl.at' hi;have hx:=bs (l:=l) (i:=(i:Int)) (n:=i) rfl hi;rw[vZ hi]at i2;refine .intro (by omega) (X1 _ hx ?_);refine .intro (by rw[ac]; omega) ?_;rw[ac];refine X1 ((n+1:Nat):Int) (wI (by simp) (by omega) (by omega)) ?_;refine dq (λh6=>?_) (λh6=>?_)
     ·rw[if_pos (by simpa using h6)]at i2;exact ⟨HJ,r1 (iE (by rw[h3,hof 1 i2 (by decide)])),HJ⟩
     ·rw[if_neg (by simpa using h6)]at i2;refine ah (λh7=>?_) (λh7=>?_)
      ·rw[if_pos h7]at i2;exact ⟨HJ,r1 (iE (by rw[h3,hof 8 i2 (by decide)])),HJ⟩
      ·rw[if_neg h7]at i2;refine ah (λh8=>?_) (λh8=>?_)
       ·obtain ⟨j,rfl⟩:∃ j,i=j+1:=⟨i-1,by omega⟩;have hp:kg l (j+1)=some l[j].1:=by simp[kg,(by omega:j<l.length)]
        rw[hp]at i2;refine X1 ((j:Nat):Int) (wI (by omega) (by omega) (by omega)) ?_;refine .intro (by omega) (X1 _ (bs rfl (by omega)) ?_);refine X1 _ (fO l[j].1 l[j+1].1 (hl.at' (by omega)) hxl) ?_;refine .intro rfl ?_;refine ah (λh9=>?_) (λh9=>?_)
        ·rw[if_pos (decide_eq_true h9)]at i2;exact ⟨HJ,r1 (iE (by rw[h3,hof 9 i2 (by decide)])),HJ⟩
        ·rw[if_neg (by simpa using h9)]at i2;refine X1 ((j+1+1:Nat):Int) (wI (by simp) (by omega) (by omega)) ?_;exact ⟨j+1+1,⟨by omega,i2⟩,by omega,⟨rfl,rfl,rfl,rfl,rfl,rfl,rfl,rfl,HJ⟩,HJ⟩
       ·have e0:i=0:=by omega
        subst e0;rw[if_neg (by simp[kg])]at i2;refine .intro rfl ?_;refine X1 ((0+1:Nat):Int) (wI (by simp) (by omega) (by omega)) ?_;exact ⟨0+1,⟨by omega,i2⟩,by omega,⟨rfl,rfl,rfl,rfl,rfl,rfl,rfl,rfl,HJ⟩,HJ⟩
    ·have e:i=l.length:=by omega
     subst e;rw[F9,nJ]at i2;refine X1 ((n+1:Nat):Int) (wI (by simp) (by omega) (by omega)) ?_;exact ⟨n+1,⟨by omega,by rw[h3,hnext i2]⟩,by omega,⟨rfl,rfl,rfl,HJ⟩,HJ⟩
  ·have e:n=L.length:=by omega
   subst e;rw[F9]at h3;exact ⟨(),h3,HJ,HJ⟩
 ·rw[he];exact ⟨HJ,r1 rfl,HJ⟩
end
end Go.Proofs.YtgceikecdedfcaaGreat.Pv
