/- Parts of a proof, joined: PvTy Da Cc Cf Fj Hr Hx Cn Co Cp. -/
import Derived.Test.YtgceikecdedfcaaGreatLpF
import Derived.Test.YtgceikecdedfcaaGreatChecked
import Derived.KernelRfl
import Derived.Shelf.Spec.BitsCarry
import Derived.Test.YtgceikecdedfcaaGreatRows
import Derived.ProofKit
import Derived.OpenShut
import Derived.Carry
namespace Go.Proofs.YtgceikecdedfcaaGreat.Pv
open Go
section
set_option maxRecDepth 100000
def ty1:TD:=⟨.oth,1,8,false,[.nilFunc]⟩
theorem CB:ty1.ok Tryz.prog 1:=⟨⟨by kernel_rfl,by kernel_rfl⟩,HB⟩
def ty2:TD:=⟨.int .i64,1,8,false,[.int .i64 0]⟩
theorem CC:ty2.ok Tryz.prog 2:=⟨⟨by kernel_rfl,by kernel_rfl⟩,(show Tryz.prog.underlying 2=some (.int .i64) by kernel_rfl)⟩
def ty3:TD:=⟨.int .i64,1,8,false,[.int .i64 0]⟩
theorem CD:ty3.ok Tryz.prog 3:=⟨⟨by kernel_rfl,by kernel_rfl⟩,(show Tryz.prog.underlying 3=some (.int .i64) by kernel_rfl)⟩
def ty4:TD:=⟨.bool,1,1,false,[.bool false]⟩
theorem CE:ty4.ok Tryz.prog 4:=⟨⟨by kernel_rfl,by kernel_rfl⟩,(show Tryz.prog.underlying 4=some .bool by kernel_rfl)⟩
def ty5:TD:=⟨.int .u8,1,1,false,[.int .u8 0]⟩
theorem CF:ty5.ok Tryz.prog 5:=⟨⟨by kernel_rfl,by kernel_rfl⟩,(show Tryz.prog.underlying 5=some (.int .u8) by kernel_rfl)⟩
def ty6:TD:=⟨.int .u8,1,1,false,[.int .u8 0]⟩
theorem CG:ty6.ok Tryz.prog 6:=⟨⟨by kernel_rfl,by kernel_rfl⟩,(show Tryz.prog.underlying 6=some (.int .u8) by kernel_rfl)⟩
def ty7:TD:=⟨.st [(0,2,1),(1,3,1),(2,4,1),(3,6,1)],4,24,true,[.int .i64 0,.int .i64 0,.bool false,.int .u8 0]⟩
theorem CH:ty7.ok Tryz.prog 7:=⟨⟨by kernel_rfl,by kernel_rfl⟩,⟨λf off ft n h=>by
  match f,h with
  | 0,h=>cases h; exact ⟨by kernel_rfl⟩
  | 1,h=>cases h; exact ⟨by kernel_rfl⟩
  | 2,h=>cases h; exact ⟨by kernel_rfl⟩
  | 3,h=>cases h; exact ⟨by kernel_rfl⟩
  | f+4,h=>simp at h,⟨by kernel_rfl⟩⟩⟩
def ty8:TD:=⟨.st [(0,2,1),(1,3,1),(2,4,1),(3,6,1)],4,24,true,[.int .i64 0,.int .i64 0,.bool false,.int .u8 0]⟩
theorem CI:ty8.ok Tryz.prog 8:=⟨⟨by kernel_rfl,by kernel_rfl⟩,⟨λf off ft n h=>by
  match f,h with
  | 0,h=>cases h; exact ⟨by kernel_rfl⟩
  | 1,h=>cases h; exact ⟨by kernel_rfl⟩
  | 2,h=>cases h; exact ⟨by kernel_rfl⟩
  | 3,h=>cases h; exact ⟨by kernel_rfl⟩
  | f+4,h=>simp at h,⟨by kernel_rfl⟩⟩⟩
def ty9:TD:=⟨.str,1,16,false,[.string .empty]⟩
theorem CJ:ty9.ok Tryz.prog 9:=⟨⟨by kernel_rfl,by kernel_rfl⟩,(show Tryz.prog.underlying 9=some .string by kernel_rfl)⟩
def ty10:TD:=⟨.str,1,16,false,[.string .empty]⟩
theorem Ay:ty10.ok Tryz.prog 10:=⟨⟨by kernel_rfl,by kernel_rfl⟩,(show Tryz.prog.underlying 10=some .string by kernel_rfl)⟩
def ty11:TD:=⟨.str,1,16,false,[.string .empty]⟩
theorem Az:ty11.ok Tryz.prog 11:=⟨⟨by kernel_rfl,by kernel_rfl⟩,(show Tryz.prog.underlying 11=some .string by kernel_rfl)⟩
def ty16:TD:=⟨.ptr 270,1,8,false,[.pointer none]⟩
theorem AA:ty16.ok Tryz.prog 16:=⟨⟨by kernel_rfl,by kernel_rfl⟩,(show Tryz.prog.underlying 16=some (.pointer 270) by kernel_rfl)⟩
def ty22:TD:=⟨.sl 3,1,24,false,[.slice none 0 0]⟩
theorem AB:ty22.ok Tryz.prog 22:=⟨⟨by kernel_rfl,by kernel_rfl⟩,⟨by kernel_rfl⟩⟩
def ty26:TD:=⟨.ptr 133,1,8,false,[.pointer none]⟩
theorem AC:ty26.ok Tryz.prog 26:=⟨⟨by kernel_rfl,by kernel_rfl⟩,(show Tryz.prog.underlying 26=some (.pointer 133) by kernel_rfl)⟩
def ty27:TD:=⟨.sl 134,1,24,false,[.slice none 0 0]⟩
theorem AD:ty27.ok Tryz.prog 27:=⟨⟨by kernel_rfl,by kernel_rfl⟩,⟨by kernel_rfl⟩⟩
def ty28:TD:=⟨.sl 150,1,24,false,[.slice none 0 0]⟩
theorem AE:ty28.ok Tryz.prog 28:=⟨⟨by kernel_rfl,by kernel_rfl⟩,⟨by kernel_rfl⟩⟩
def ty29:TD:=⟨.st [(0,27,1),(1,3,1),(2,28,1)],3,56,true,[.slice none 0 0,.int .i64 0,.slice none 0 0]⟩
theorem AF:ty29.ok Tryz.prog 29:=⟨⟨by kernel_rfl,by kernel_rfl⟩,⟨λf off ft n h=>by
  match f,h with
  | 0,h=>cases h; exact ⟨by kernel_rfl⟩
  | 1,h=>cases h; exact ⟨by kernel_rfl⟩
  | 2,h=>cases h; exact ⟨by kernel_rfl⟩
  | f+3,h=>simp at h,⟨by kernel_rfl⟩⟩⟩
def ty30:TD:=⟨.st [(0,27,1),(1,3,1),(2,28,1)],3,56,true,[.slice none 0 0,.int .i64 0,.slice none 0 0]⟩
theorem AG:ty30.ok Tryz.prog 30:=⟨⟨by kernel_rfl,by kernel_rfl⟩,⟨λf off ft n h=>by
  match f,h with
  | 0,h=>cases h; exact ⟨by kernel_rfl⟩
  | 1,h=>cases h; exact ⟨by kernel_rfl⟩
  | 2,h=>cases h; exact ⟨by kernel_rfl⟩
  | f+3,h=>simp at h,⟨by kernel_rfl⟩⟩⟩
def ty32:TD:=⟨.oth,1,8,false,[.nilFunc]⟩
theorem AH:ty32.ok Tryz.prog 32:=⟨⟨by kernel_rfl,by kernel_rfl⟩,HB⟩
def ty33:TD:=⟨.ptr 97,1,8,false,[.pointer none]⟩
theorem AI:ty33.ok Tryz.prog 33:=⟨⟨by kernel_rfl,by kernel_rfl⟩,(show Tryz.prog.underlying 33=some (.pointer 97) by kernel_rfl)⟩
def ty34:TD:=⟨.int .i64,1,8,false,[.int .i64 0]⟩
theorem AJ:ty34.ok Tryz.prog 34:=⟨⟨by kernel_rfl,by kernel_rfl⟩,(show Tryz.prog.underlying 34=some (.int .i64) by kernel_rfl)⟩
def ty38:TD:=⟨.oth,1,8,false,[.nilFunc]⟩
theorem AK:ty38.ok Tryz.prog 38:=⟨⟨by kernel_rfl,by kernel_rfl⟩,HB⟩
def ty40:TD:=⟨.int .u64,1,8,false,[.int .u64 0]⟩
theorem AL:ty40.ok Tryz.prog 40:=⟨⟨by kernel_rfl,by kernel_rfl⟩,(show Tryz.prog.underlying 40=some (.int .u64) by kernel_rfl)⟩
def ty47:TD:=⟨.oth,1,8,false,[.nilFunc]⟩
theorem AM:ty47.ok Tryz.prog 47:=⟨⟨by kernel_rfl,by kernel_rfl⟩,HB⟩
def ty50:TD:=⟨.st [(0,22,1),(1,22,1)],2,48,true,[.slice none 0 0,.slice none 0 0]⟩
theorem AN:ty50.ok Tryz.prog 50:=⟨⟨by kernel_rfl,by kernel_rfl⟩,⟨λf off ft n h=>by
  match f,h with
  | 0,h=>cases h; exact ⟨by kernel_rfl⟩
  | 1,h=>cases h; exact ⟨by kernel_rfl⟩
  | f+2,h=>simp at h,⟨by kernel_rfl⟩⟩⟩
def ty51:TD:=⟨.st [(0,22,1),(1,22,1)],2,48,true,[.slice none 0 0,.slice none 0 0]⟩
theorem AO:ty51.ok Tryz.prog 51:=⟨⟨by kernel_rfl,by kernel_rfl⟩,⟨λf off ft n h=>by
  match f,h with
  | 0,h=>cases h; exact ⟨by kernel_rfl⟩
  | 1,h=>cases h; exact ⟨by kernel_rfl⟩
  | f+2,h=>simp at h,⟨by kernel_rfl⟩⟩⟩
def ty58:TD:=⟨.sl 40,1,24,false,[.slice none 0 0]⟩
theorem AP:ty58.ok Tryz.prog 58:=⟨⟨by kernel_rfl,by kernel_rfl⟩,⟨by kernel_rfl⟩⟩
def ty60:TD:=⟨.oth,1,8,false,[.nilFunc]⟩
theorem AQ:ty60.ok Tryz.prog 60:=⟨⟨by kernel_rfl,by kernel_rfl⟩,HB⟩
def ty62:TD:=⟨.int .u16,1,2,false,[.int .u16 0]⟩
theorem AR:ty62.ok Tryz.prog 62:=⟨⟨by kernel_rfl,by kernel_rfl⟩,(show Tryz.prog.underlying 62=some (.int .u16) by kernel_rfl)⟩
def ty63:TD:=⟨.arr 2 62,2,4,true,[.int .u16 0,.int .u16 0]⟩
theorem AS:ty63.ok Tryz.prog 63:=⟨⟨by kernel_rfl,by kernel_rfl⟩,⟨by kernel_rfl⟩⟩
def ty64:TD:=⟨.st [(0,58,1)],1,24,true,[.slice none 0 0]⟩
theorem AT:ty64.ok Tryz.prog 64:=⟨⟨by kernel_rfl,by kernel_rfl⟩,⟨λf off ft n h=>by
  match f,h with
  | 0,h=>cases h; exact ⟨by kernel_rfl⟩
  | f+1,h=>simp at h,⟨by kernel_rfl⟩⟩⟩
def ty65:TD:=⟨.st [(0,58,1)],1,24,true,[.slice none 0 0]⟩
theorem AU:ty65.ok Tryz.prog 65:=⟨⟨by kernel_rfl,by kernel_rfl⟩,⟨λf off ft n h=>by
  match f,h with
  | 0,h=>cases h; exact ⟨by kernel_rfl⟩
  | f+1,h=>simp at h,⟨by kernel_rfl⟩⟩⟩
def ty66:TD:=⟨.st [(0,65,1),(1,65,1)],2,48,true,[.slice none 0 0,.slice none 0 0]⟩
theorem AW:ty66.ok Tryz.prog 66:=⟨⟨by kernel_rfl,by kernel_rfl⟩,⟨λf off ft n h=>by
  match f,h with
  | 0,h=>cases h; exact ⟨by kernel_rfl⟩
  | 1,h=>cases h; exact ⟨by kernel_rfl⟩
  | f+2,h=>simp at h,⟨by kernel_rfl⟩⟩⟩
def ty67:TD:=⟨.st [(0,65,1),(1,65,1)],2,48,true,[.slice none 0 0,.slice none 0 0]⟩
theorem AX:ty67.ok Tryz.prog 67:=⟨⟨by kernel_rfl,by kernel_rfl⟩,⟨λf off ft n h=>by
  match f,h with
  | 0,h=>cases h; exact ⟨by kernel_rfl⟩
  | 1,h=>cases h; exact ⟨by kernel_rfl⟩
  | f+2,h=>simp at h,⟨by kernel_rfl⟩⟩⟩
def ty83:TD:=⟨.sl 9,1,24,false,[.slice none 0 0]⟩
theorem AY:ty83.ok Tryz.prog 83:=⟨⟨by kernel_rfl,by kernel_rfl⟩,⟨by kernel_rfl⟩⟩
def ty86:TD:=⟨.sl 22,1,24,false,[.slice none 0 0]⟩
theorem AZ:ty86.ok Tryz.prog 86:=⟨⟨by kernel_rfl,by kernel_rfl⟩,⟨by kernel_rfl⟩⟩
def ty91:TD:=⟨.st [(0,67,2),(2,67,2)],4,96,true,[.slice none 0 0,.slice none 0 0,.slice none 0 0,.slice none 0 0]⟩
theorem A3:ty91.ok Tryz.prog 91:=⟨⟨by kernel_rfl,by kernel_rfl⟩,⟨λf off ft n h=>by
  match f,h with
  | 0,h=>cases h; exact ⟨by kernel_rfl⟩
  | 1,h=>cases h; exact ⟨by kernel_rfl⟩
  | f+2,h=>simp at h,⟨by kernel_rfl⟩⟩⟩
def ty92:TD:=⟨.st [(0,67,2),(2,67,2)],4,96,true,[.slice none 0 0,.slice none 0 0,.slice none 0 0,.slice none 0 0]⟩
theorem A4:ty92.ok Tryz.prog 92:=⟨⟨by kernel_rfl,by kernel_rfl⟩,⟨λf off ft n h=>by
  match f,h with
  | 0,h=>cases h; exact ⟨by kernel_rfl⟩
  | 1,h=>cases h; exact ⟨by kernel_rfl⟩
  | f+2,h=>simp at h,⟨by kernel_rfl⟩⟩⟩
def ty96:TD:=⟨.st [(0,58,1),(1,3,1)],2,32,true,[.slice none 0 0,.int .i64 0]⟩
theorem A5:ty96.ok Tryz.prog 96:=⟨⟨by kernel_rfl,by kernel_rfl⟩,⟨λf off ft n h=>by
  match f,h with
  | 0,h=>cases h; exact ⟨by kernel_rfl⟩
  | 1,h=>cases h; exact ⟨by kernel_rfl⟩
  | f+2,h=>simp at h,⟨by kernel_rfl⟩⟩⟩
def ty97:TD:=⟨.st [(0,58,1),(1,3,1)],2,32,true,[.slice none 0 0,.int .i64 0]⟩
theorem A6:ty97.ok Tryz.prog 97:=⟨⟨by kernel_rfl,by kernel_rfl⟩,⟨λf off ft n h=>by
  match f,h with
  | 0,h=>cases h; exact ⟨by kernel_rfl⟩
  | 1,h=>cases h; exact ⟨by kernel_rfl⟩
  | f+2,h=>simp at h,⟨by kernel_rfl⟩⟩⟩
def ty98:TD:=⟨.int .u64,1,8,false,[.int .u64 0]⟩
theorem A7:ty98.ok Tryz.prog 98:=⟨⟨by kernel_rfl,by kernel_rfl⟩,(show Tryz.prog.underlying 98=some (.int .u64) by kernel_rfl)⟩
def ty107:TD:=⟨.oth,1,8,false,[.nilFunc]⟩
theorem xB:ty107.ok Tryz.prog 107:=⟨⟨by kernel_rfl,by kernel_rfl⟩,HB⟩
def ty110:TD:=⟨.oth,1,8,false,[.nilFunc]⟩
theorem xD:ty110.ok Tryz.prog 110:=⟨⟨by kernel_rfl,by kernel_rfl⟩,HB⟩
def ty115:TD:=⟨.oth,1,8,false,[.nilFunc]⟩
theorem xF:ty115.ok Tryz.prog 115:=⟨⟨by kernel_rfl,by kernel_rfl⟩,HB⟩
def ty116:TD:=⟨.oth,1,8,false,[.nilFunc]⟩
theorem xG:ty116.ok Tryz.prog 116:=⟨⟨by kernel_rfl,by kernel_rfl⟩,HB⟩
def ty117:TD:=⟨.oth,1,8,false,[.nilFunc]⟩
theorem xH:ty117.ok Tryz.prog 117:=⟨⟨by kernel_rfl,by kernel_rfl⟩,HB⟩
def ty130:TD:=⟨.mp 9 206 .string false,1,8,false,[.map none]⟩
theorem xI:ty130.ok Tryz.prog 130:=⟨⟨by kernel_rfl,by kernel_rfl⟩,⟨⟨by kernel_rfl⟩,by kernel_rfl,⟨by kernel_rfl⟩⟩⟩
def ty131:TD:=⟨.sl 137,1,24,false,[.slice none 0 0]⟩
theorem xJ:ty131.ok Tryz.prog 131:=⟨⟨by kernel_rfl,by kernel_rfl⟩,⟨by kernel_rfl⟩⟩
def ty132:TD:=⟨.st [(0,27,1),(1,131,1),(2,3,1),(3,130,1)],4,64,true,[.slice none 0 0,.slice none 0 0,.int .i64 0,.map none]⟩
theorem xK:ty132.ok Tryz.prog 132:=⟨⟨by kernel_rfl,by kernel_rfl⟩,⟨λf off ft n h=>by
  match f,h with
  | 0,h=>cases h; exact ⟨by kernel_rfl⟩
  | 1,h=>cases h; exact ⟨by kernel_rfl⟩
  | 2,h=>cases h; exact ⟨by kernel_rfl⟩
  | 3,h=>cases h; exact ⟨by kernel_rfl⟩
  | f+4,h=>simp at h,⟨by kernel_rfl⟩⟩⟩
def ty133:TD:=⟨.st [(0,27,1),(1,131,1),(2,3,1),(3,130,1)],4,64,true,[.slice none 0 0,.slice none 0 0,.int .i64 0,.map none]⟩
theorem xL:ty133.ok Tryz.prog 133:=⟨⟨by kernel_rfl,by kernel_rfl⟩,⟨λf off ft n h=>by
  match f,h with
  | 0,h=>cases h; exact ⟨by kernel_rfl⟩
  | 1,h=>cases h; exact ⟨by kernel_rfl⟩
  | 2,h=>cases h; exact ⟨by kernel_rfl⟩
  | 3,h=>cases h; exact ⟨by kernel_rfl⟩
  | f+4,h=>simp at h,⟨by kernel_rfl⟩⟩⟩
def ty134:TD:=⟨.sl 185,1,24,false,[.slice none 0 0]⟩
theorem xN:ty134.ok Tryz.prog 134:=⟨⟨by kernel_rfl,by kernel_rfl⟩,⟨by kernel_rfl⟩⟩
def ty135:TD:=⟨.arr 4 67,8,192,true,[.slice none 0 0,.slice none 0 0,.slice none 0 0,.slice none 0 0,.slice none 0 0,.slice none 0 0,.slice none 0 0,.slice none 0 0]⟩
theorem xP:ty135.ok Tryz.prog 135:=⟨⟨by kernel_rfl,by kernel_rfl⟩,⟨by kernel_rfl⟩⟩
def ty136:TD:=⟨.st [(0,135,8)],8,192,true,[.slice none 0 0,.slice none 0 0,.slice none 0 0,.slice none 0 0,.slice none 0 0,.slice none 0 0,.slice none 0 0,.slice none 0 0]⟩
theorem xQ:ty136.ok Tryz.prog 136:=⟨⟨by kernel_rfl,by kernel_rfl⟩,⟨λf off ft n h=>by
  match f,h with
  | 0,h=>cases h; exact ⟨by kernel_rfl⟩
  | f+1,h=>simp at h,⟨by kernel_rfl⟩⟩⟩
def ty137:TD:=⟨.st [(0,135,8)],8,192,true,[.slice none 0 0,.slice none 0 0,.slice none 0 0,.slice none 0 0,.slice none 0 0,.slice none 0 0,.slice none 0 0,.slice none 0 0]⟩
theorem xR:ty137.ok Tryz.prog 137:=⟨⟨by kernel_rfl,by kernel_rfl⟩,⟨λf off ft n h=>by
  match f,h with
  | 0,h=>cases h; exact ⟨by kernel_rfl⟩
  | f+1,h=>simp at h,⟨by kernel_rfl⟩⟩⟩
def ty139:TD:=⟨.arr 5 3,5,40,true,[.int .i64 0,.int .i64 0,.int .i64 0,.int .i64 0,.int .i64 0]⟩
theorem xS:ty139.ok Tryz.prog 139:=⟨⟨by kernel_rfl,by kernel_rfl⟩,⟨by kernel_rfl⟩⟩
def ty140:TD:=⟨.st [(0,3,1),(1,3,1),(2,139,5)],7,56,true,[.int .i64 0,.int .i64 0,.int .i64 0,.int .i64 0,.int .i64 0,.int .i64 0,.int .i64 0]⟩
theorem xT:ty140.ok Tryz.prog 140:=⟨⟨by kernel_rfl,by kernel_rfl⟩,⟨λf off ft n h=>by
  match f,h with
  | 0,h=>cases h; exact ⟨by kernel_rfl⟩
  | 1,h=>cases h; exact ⟨by kernel_rfl⟩
  | 2,h=>cases h; exact ⟨by kernel_rfl⟩
  | f+3,h=>simp at h,⟨by kernel_rfl⟩⟩⟩
def ty141:TD:=⟨.st [(0,3,1),(1,3,1),(2,139,5)],7,56,true,[.int .i64 0,.int .i64 0,.int .i64 0,.int .i64 0,.int .i64 0,.int .i64 0,.int .i64 0]⟩
theorem xU:ty141.ok Tryz.prog 141:=⟨⟨by kernel_rfl,by kernel_rfl⟩,⟨λf off ft n h=>by
  match f,h with
  | 0,h=>cases h; exact ⟨by kernel_rfl⟩
  | 1,h=>cases h; exact ⟨by kernel_rfl⟩
  | 2,h=>cases h; exact ⟨by kernel_rfl⟩
  | f+3,h=>simp at h,⟨by kernel_rfl⟩⟩⟩
def ty144:TD:=⟨.sl 83,1,24,false,[.slice none 0 0]⟩
theorem xV:ty144.ok Tryz.prog 144:=⟨⟨by kernel_rfl,by kernel_rfl⟩,⟨by kernel_rfl⟩⟩
def ty150:TD:=⟨.arr 4 51,8,192,true,[.slice none 0 0,.slice none 0 0,.slice none 0 0,.slice none 0 0,.slice none 0 0,.slice none 0 0,.slice none 0 0,.slice none 0 0]⟩
theorem xW:ty150.ok Tryz.prog 150:=⟨⟨by kernel_rfl,by kernel_rfl⟩,⟨by kernel_rfl⟩⟩
def ty152:TD:=⟨.arr 6 3,6,48,true,[.int .i64 0,.int .i64 0,.int .i64 0,.int .i64 0,.int .i64 0,.int .i64 0]⟩
theorem xY:ty152.ok Tryz.prog 152:=⟨⟨by kernel_rfl,by kernel_rfl⟩,⟨by kernel_rfl⟩⟩
def ty170:TD:=⟨.oth,1,8,false,[.nilFunc]⟩
theorem xZ:ty170.ok Tryz.prog 170:=⟨⟨by kernel_rfl,by kernel_rfl⟩,HB⟩
def ty177:TD:=⟨.sl 5,1,24,false,[.slice none 0 0]⟩
theorem x4:ty177.ok Tryz.prog 177:=⟨⟨by kernel_rfl,by kernel_rfl⟩,⟨by kernel_rfl⟩⟩
def ty184:TD:=⟨.st [(0,22,1),(1,3,1)],2,32,true,[.slice none 0 0,.int .i64 0]⟩
theorem x5:ty184.ok Tryz.prog 184:=⟨⟨by kernel_rfl,by kernel_rfl⟩,⟨λf off ft n h=>by
  match f,h with
  | 0,h=>cases h; exact ⟨by kernel_rfl⟩
  | 1,h=>cases h; exact ⟨by kernel_rfl⟩
  | f+2,h=>simp at h,⟨by kernel_rfl⟩⟩⟩
def ty185:TD:=⟨.st [(0,22,1),(1,3,1)],2,32,true,[.slice none 0 0,.int .i64 0]⟩
theorem x6:ty185.ok Tryz.prog 185:=⟨⟨by kernel_rfl,by kernel_rfl⟩,⟨λf off ft n h=>by
  match f,h with
  | 0,h=>cases h; exact ⟨by kernel_rfl⟩
  | 1,h=>cases h; exact ⟨by kernel_rfl⟩
  | f+2,h=>simp at h,⟨by kernel_rfl⟩⟩⟩
def ty187:TD:=⟨.oth,1,8,false,[.nilFunc]⟩
theorem x7:ty187.ok Tryz.prog 187:=⟨⟨by kernel_rfl,by kernel_rfl⟩,HB⟩
def ty195:TD:=⟨.oth,1,8,false,[.nilFunc]⟩
theorem x8:ty195.ok Tryz.prog 195:=⟨⟨by kernel_rfl,by kernel_rfl⟩,HB⟩
def ty206:TD:=⟨.ptr 209,1,8,false,[.pointer none]⟩
theorem x9:ty206.ok Tryz.prog 206:=⟨⟨by kernel_rfl,by kernel_rfl⟩,(show Tryz.prog.underlying 206=some (.pointer 209) by kernel_rfl)⟩
def ty208:TD:=⟨.st [(0,3,1),(1,67,2)],3,56,true,[.int .i64 0,.slice none 0 0,.slice none 0 0]⟩
theorem ya:ty208.ok Tryz.prog 208:=⟨⟨by kernel_rfl,by kernel_rfl⟩,⟨λf off ft n h=>by
  match f,h with
  | 0,h=>cases h; exact ⟨by kernel_rfl⟩
  | 1,h=>cases h; exact ⟨by kernel_rfl⟩
  | f+2,h=>simp at h,⟨by kernel_rfl⟩⟩⟩
def ty209:TD:=⟨.st [(0,3,1),(1,67,2)],3,56,true,[.int .i64 0,.slice none 0 0,.slice none 0 0]⟩
theorem yb:ty209.ok Tryz.prog 209:=⟨⟨by kernel_rfl,by kernel_rfl⟩,⟨λf off ft n h=>by
  match f,h with
  | 0,h=>cases h; exact ⟨by kernel_rfl⟩
  | 1,h=>cases h; exact ⟨by kernel_rfl⟩
  | f+2,h=>simp at h,⟨by kernel_rfl⟩⟩⟩
def ty211:TD:=⟨.sl 67,1,24,false,[.slice none 0 0]⟩
theorem yc:ty211.ok Tryz.prog 211:=⟨⟨by kernel_rfl,by kernel_rfl⟩,⟨by kernel_rfl⟩⟩
def ty216:TD:=⟨.oth,1,8,false,[.nilFunc]⟩
theorem yd:ty216.ok Tryz.prog 216:=⟨⟨by kernel_rfl,by kernel_rfl⟩,HB⟩
def ty219:TD:=⟨.oth,1,8,false,[.nilFunc]⟩
theorem ye:ty219.ok Tryz.prog 219:=⟨⟨by kernel_rfl,by kernel_rfl⟩,HB⟩
def ty220:TD:=⟨.ptr 141,1,8,false,[.pointer none]⟩
theorem yf:ty220.ok Tryz.prog 220:=⟨⟨by kernel_rfl,by kernel_rfl⟩,(show Tryz.prog.underlying 220=some (.pointer 141) by kernel_rfl)⟩
def ty232:TD:=⟨.oth,1,16,false,[.nilIface]⟩
theorem yg:ty232.ok Tryz.prog 232:=⟨⟨by kernel_rfl,by kernel_rfl⟩,HB⟩
def ty233:TD:=⟨.oth,1,16,false,[.nilIface]⟩
theorem yh:ty233.ok Tryz.prog 233:=⟨⟨by kernel_rfl,by kernel_rfl⟩,HB⟩
def ty234:TD:=⟨.oth,1,8,false,[.nilFunc]⟩
theorem yi:ty234.ok Tryz.prog 234:=⟨⟨by kernel_rfl,by kernel_rfl⟩,HB⟩
def ty235:TD:=⟨.oth,1,8,false,[.nilFunc]⟩
theorem yj:ty235.ok Tryz.prog 235:=⟨⟨by kernel_rfl,by kernel_rfl⟩,HB⟩
def ty238:TD:=⟨.int .i64,1,8,false,[.int .i64 0]⟩
theorem yk:ty238.ok Tryz.prog 238:=⟨⟨by kernel_rfl,by kernel_rfl⟩,(show Tryz.prog.underlying 238=some (.int .i64) by kernel_rfl)⟩
def ty245:TD:=⟨.int .u32,1,4,false,[.int .u32 0]⟩
theorem yl:ty245.ok Tryz.prog 245:=⟨⟨by kernel_rfl,by kernel_rfl⟩,(show Tryz.prog.underlying 245=some (.int .u32) by kernel_rfl)⟩
def ty251:TD:=⟨.oth,1,8,false,[.nilFunc]⟩
theorem ym:ty251.ok Tryz.prog 251:=⟨⟨by kernel_rfl,by kernel_rfl⟩,HB⟩
def ty253:TD:=⟨.int .u64,1,8,false,[.int .u64 0]⟩
theorem yn:ty253.ok Tryz.prog 253:=⟨⟨by kernel_rfl,by kernel_rfl⟩,(show Tryz.prog.underlying 253=some (.int .u64) by kernel_rfl)⟩
def ty256:TD:=⟨.oth,1,8,false,[.nilFunc]⟩
theorem yo:ty256.ok Tryz.prog 256:=⟨⟨by kernel_rfl,by kernel_rfl⟩,HB⟩
def ty257:TD:=⟨.ptr 3,1,8,false,[.pointer none]⟩
theorem yp:ty257.ok Tryz.prog 257:=⟨⟨by kernel_rfl,by kernel_rfl⟩,(show Tryz.prog.underlying 257=some (.pointer 3) by kernel_rfl)⟩
def ty261:TD:=⟨.ptr 253,1,8,false,[.pointer none]⟩
theorem yq:ty261.ok Tryz.prog 261:=⟨⟨by kernel_rfl,by kernel_rfl⟩,(show Tryz.prog.underlying 261=some (.pointer 253) by kernel_rfl)⟩
def ty268:TD:=⟨.arr 0 16,0,0,true,[]⟩
theorem yr:ty268.ok Tryz.prog 268:=⟨⟨by kernel_rfl,by kernel_rfl⟩,⟨by kernel_rfl⟩⟩
def ty269:TD:=⟨.st [(0,268,0)],0,0,true,[]⟩
theorem yt:ty269.ok Tryz.prog 269:=⟨⟨by kernel_rfl,by kernel_rfl⟩,⟨λf off ft n h=>by
  match f,h with
  | 0,h=>cases h; exact ⟨by kernel_rfl⟩
  | f+1,h=>simp at h,⟨by kernel_rfl⟩⟩⟩
def ty270:TD:=⟨.st [(0,268,0)],0,0,true,[]⟩
theorem yu:ty270.ok Tryz.prog 270:=⟨⟨by kernel_rfl,by kernel_rfl⟩,⟨λf off ft n h=>by
  match f,h with
  | 0,h=>cases h; exact ⟨by kernel_rfl⟩
  | f+1,h=>simp at h,⟨by kernel_rfl⟩⟩⟩
def T:Ty:=(.node 115 ty115 (.node 38 ty38 (.node 11 ty11 (.node 6 ty6 (.node 3 ty3 (.node 2 ty2 (.node 1 ty1 .leaf .leaf) .leaf) (.node 5 ty5 (.node 4 ty4 .leaf .leaf) .leaf)) (.node 9 ty9 (.node 8 ty8 (.node 7 ty7 .leaf .leaf) .leaf) (.node 10 ty10 .leaf .leaf))) (.node 29 ty29 (.node 26 ty26 (.node 22 ty22 (.node 16 ty16 .leaf .leaf) .leaf) (.node 28 ty28 (.node 27 ty27 .leaf .leaf) .leaf)) (.node 33 ty33 (.node 32 ty32 (.node 30 ty30 .leaf .leaf) .leaf) (.node 34 ty34 .leaf .leaf)))) (.node 66 ty66 (.node 60 ty60 (.node 50 ty50 (.node 47 ty47 (.node 40 ty40 .leaf .leaf) .leaf) (.node 58 ty58 (.node 51 ty51 .leaf .leaf) .leaf)) (.node 64 ty64 (.node 63 ty63 (.node 62 ty62 .leaf .leaf) .leaf) (.node 65 ty65 .leaf .leaf))) (.node 96 ty96 (.node 86 ty86 (.node 83 ty83 (.node 67 ty67 .leaf .leaf) .leaf) (.node 92 ty92 (.node 91 ty91 .leaf .leaf) .leaf)) (.node 107 ty107 (.node 98 ty98 (.node 97 ty97 .leaf .leaf) .leaf) (.node 110 ty110 .leaf .leaf))))) (.node 195 ty195 (.node 139 ty139 (.node 133 ty133 (.node 130 ty130 (.node 117 ty117 (.node 116 ty116 .leaf .leaf) .leaf) (.node 132 ty132 (.node 131 ty131 .leaf .leaf) .leaf)) (.node 136 ty136 (.node 135 ty135 (.node 134 ty134 .leaf .leaf) .leaf) (.node 137 ty137 .leaf .leaf))) (.node 170 ty170 (.node 144 ty144 (.node 141 ty141 (.node 140 ty140 .leaf .leaf) .leaf) (.node 152 ty152 (.node 150 ty150 .leaf .leaf) .leaf)) (.node 185 ty185 (.node 184 ty184 (.node 177 ty177 .leaf .leaf) .leaf) (.node 187 ty187 .leaf .leaf)))) (.node 235 ty235 (.node 219 ty219 (.node 209 ty209 (.node 208 ty208 (.node 206 ty206 .leaf .leaf) .leaf) (.node 216 ty216 (.node 211 ty211 .leaf .leaf) .leaf)) (.node 233 ty233 (.node 232 ty232 (.node 220 ty220 .leaf .leaf) .leaf) (.node 234 ty234 .leaf .leaf))) (.node 257 ty257 (.node 251 ty251 (.node 245 ty245 (.node 238 ty238 .leaf .leaf) .leaf) (.node 256 ty256 (.node 253 ty253 .leaf .leaf) .leaf)) (.node 269 ty269 (.node 268 ty268 (.node 261 ty261 .leaf .leaf) .leaf) (.node 270 ty270 .leaf .leaf))))))
theorem aj:T.ok Tryz.prog:=Ty.ok_of (show T.All Tryz.prog from ⟨xF,⟨AK,⟨Az,⟨CG,⟨CD,⟨CC,⟨CB,HB,HB⟩,HB⟩,⟨CF,⟨CE,HB,HB⟩,HB⟩⟩,⟨CJ,⟨CI,⟨CH,HB,HB⟩,HB⟩,⟨Ay,HB,HB⟩⟩⟩,⟨AF,⟨AC,⟨AB,⟨AA,HB,HB⟩,HB⟩,⟨AE,⟨AD,HB,HB⟩,HB⟩⟩,⟨AI,⟨AH,⟨AG,HB,HB⟩,HB⟩,⟨AJ,HB,HB⟩⟩⟩⟩,⟨AW,⟨AQ,⟨AN,⟨AM,⟨AL,HB,HB⟩,HB⟩,⟨AP,⟨AO,HB,HB⟩,HB⟩⟩,⟨AT,⟨AS,⟨AR,HB,HB⟩,HB⟩,⟨AU,HB,HB⟩⟩⟩,⟨A5,⟨AZ,⟨AY,⟨AX,HB,HB⟩,HB⟩,⟨A4,⟨A3,HB,HB⟩,HB⟩⟩,⟨xB,⟨A7,⟨A6,HB,HB⟩,HB⟩,⟨xD,HB,HB⟩⟩⟩⟩⟩,⟨x8,⟨xS,⟨xL,⟨xI,⟨xH,⟨xG,HB,HB⟩,HB⟩,⟨xK,⟨xJ,HB,HB⟩,HB⟩⟩,⟨xQ,⟨xP,⟨xN,HB,HB⟩,HB⟩,⟨xR,HB,HB⟩⟩⟩,⟨xZ,⟨xV,⟨xU,⟨xT,HB,HB⟩,HB⟩,⟨xY,⟨xW,HB,HB⟩,HB⟩⟩,⟨x6,⟨x5,⟨x4,HB,HB⟩,HB⟩,⟨x7,HB,HB⟩⟩⟩⟩,⟨yj,⟨ye,⟨yb,⟨ya,⟨x9,HB,HB⟩,HB⟩,⟨yd,⟨yc,HB,HB⟩,HB⟩⟩,⟨yh,⟨yg,⟨yf,HB,HB⟩,HB⟩,⟨yi,HB,HB⟩⟩⟩,⟨yp,⟨ym,⟨yl,⟨yk,HB,HB⟩,HB⟩,⟨yo,⟨yn,HB,HB⟩,HB⟩⟩,⟨yt,⟨yr,⟨yq,HB,HB⟩,HB⟩,⟨yu,HB,HB⟩⟩⟩⟩⟩⟩)
theorem aa:(Tryz.prog).follows .mixedOrders=true:=by kernel_rfl
noncomputable abbrev P:Program:=Tryz.prog
def cu (l:List Nat):List Nat:=(l.reverse.dropWhile (· == 0)).reverse
theorem rK (l:List Nat):cu (l++[0])=cu l:=by simp[cu]
theorem tM (l:List Nat) {x:Nat} (h:x≠0):cu (l++[x])=l++[x]:=by simp[cu,h]
theorem tN (x:Nat) (l:List Nat):cu (x::l)=if cu l=[]∧x=0 then [] else x::cu l:=by
 unfold cu;rw[List.reverse_cons,List.dropWhile_append]
 cases h:(l.reverse.dropWhile (· == 0)) with
 | nil=>
  by_cases hx:x=0
  ·simp[hx]
  ·simp[hx]
 | cons y m=>simp
theorem jI (l:List Nat) {n:Nat} (hn:n≤l.length) (h0:cu l=cu (l.take n)) (h1:n=0∨l.getD (n-1) 0≠0):l.take n=cu l:=by
 rw[h0];by_cases hz:n=0
 ·subst hz; simp[cu]
 ·have h1:=h1.resolve_left hz;obtain ⟨m,rfl⟩:∃ m,n=m+1:=⟨n-1,by omega⟩;have hm:m<l.length:=by omega
  simp only[FS,Ev,ES hm,F2]at h1;rw[EB hm,tM _ h1]
theorem nJ (l:List Nat) {n:Nat} (hn:n+1≤l.length) (h0:l.getD n 0=0):cu (l.take (n+1))=cu (l.take n):=by
 have hm:n<l.length:=by omega
 simp only[Ev,ES hm,F2]at h0;rw[EB hm,h0,rK]
def val (B:Nat):List Nat→Nat
 | []=>0
 | x::l=>x+B*val B l
theorem kr (B:Nat):∀ (l m:List Nat),val B (l++m)=val B l+B^l.length*val B m
 | [],m=>by simp[val]
 | x::l,m=>by
  simp only[F9,val,kr B l m,E7,Ff,EW];rw[EQ (B^l.length) B,EL,Fx]
theorem nK (B:Nat) (l:List Nat) (x:Nat):val B (l++[x])=val B l+B^l.length*x:=by
 rw[kr]; simp[val]
def Dig (B:Nat) (l:List Nat):Prop:=∀ x,x∈l→x<B
theorem Dig.nil {B:Nat}:Dig B []:=by intro x h; cases h
theorem Dig.cons {B x:Nat} {l:List Nat} (hx:x<B) (h:Dig B l):Dig B (x::l):=by
 intro y hy;simp only[E9]at hy;rcases hy with rfl | hy
 ·exact hx
 ·exact h y hy
theorem Dig.app {B:Nat} {l m:List Nat} (h:Dig B l) (h':Dig B m):Dig B (l++m):=by
 intro y hy;rcases Fe.1 hy with hy | hy
 ·exact h y hy
 ·exact h' y hy
theorem Dig.snoc {B x:Nat} {l:List Nat} (h:Dig B l) (hx:x<B):Dig B (l++[x]):=h.app (.cons hx .nil)
theorem Dig.tail {B x:Nat} {l:List Nat} (h:Dig B (x::l)):Dig B l:=λy hy=>h y (by simp[hy])
theorem Dig.take {B n:Nat} {l:List Nat} (h:Dig B l):Dig B (l.take n):=λy hy=>h y (FZ hy)
theorem Dig.drop {B n:Nat} {l:List Nat} (h:Dig B l):Dig B (l.drop n):=λy hy=>h y (GO hy)
theorem Dig.set {B i x:Nat} {l:List Nat} (h:Dig B l) (hx:x<B):Dig B (l.set i x):=λy hy=>by
 rcases GN hy with hy | rfl
 ·exact h y hy
 ·exact hx
theorem Dig.getD {B:Nat} {l:List Nat} (h:Dig B l) (hB:0<B) (i:Nat):l.getD i 0<B:=by
 rw[Ev]
 cases hi:l[i]? with
 | none=>exact hB
 | some x=>exact h x (E6 hi)
theorem eg {B:Nat} (hB:0<B):∀ {l:List Nat},Dig B l→val B l<B^l.length
 | [],_=>by simp[val]
 | x::l,h=>by
  have h1:=eg hB h.tail;have h2:=h x (by simp);simp only[val,E7,Ff];have:B*(val B l+1)≤B*B^l.length:=Fp _ h1;rw[EW,FT]at this;rw[EQ (B^l.length)];omega
theorem fB (B:Nat) (l:List Nat) (n:Nat):val B l=val B (l.take n)+B^(min n l.length)*val B (l.drop n):=by
 conv=>lhs; rw[←GG n l]
 rw[kr,EJ]
theorem aC (B:Nat) (l:List Nat) (n:Nat):val B (l.take (n+1))=val B (l.take n)+B^n*l.getD n 0:=by
 by_cases hn:n<l.length
 ·rw[EB hn,nK,EJ,F1 (by omega)];simp[Ev,hn]
 ·rw[E3 (by omega),E3 (by omega)];have:l.getD n 0=0:=by simp[Ev,ET (by omega:l.length≤n)]
  rw[this]; simp
theorem du (B:Nat) (l:List Nat) {i v:Nat} (h:i<l.length):val B ((l.set i v).take (i+1))=val B (l.take i)+B^i*v:=by
 rw[aC];have e1:(l.set i v).take i=l.take i:=by rw[List.take_set_of_le (Ew _)]
 have e2:(l.set i v).getD i 0=v:=by simp[Ev,h]
 rw[e1,e2]
theorem aU {B:Nat} {l:List Nat} {n:Nat} (h:l.length≤n):val B (l.take n)=val B l:=by rw[E3 h]
theorem fT {B:Nat}:∀ {l:List Nat} {i x:Nat},i<l.length→val B (l.set i x)+B^i*l.getD i 0=val B l+B^i*x
 | [],i,x,h=>by simp at h
 | y::l,0,x,_=>by simp[val]; omega
 | y::l,i+1,x,h=>by
  have:=fT (B:=B) (l:=l) (i:=i) (x:=x) (by simpa using h);simp only[List.set_cons_succ,val,List.getD_cons_succ,Ff];have h2:B*(val B (l.set i x)+B^i*l.getD i 0)=B*(val B l+B^i*x):=by rw[this]
  simp only[EW]at h2;rw[EQ (B^i) B,EL,EL];omega
theorem mD (B n:Nat):val B (List.replicate n 0)=0:=by
 induction n with
 | zero=>rfl
 | succ n ih=>simp[List.replicate_succ,val,ih]
def dg (B n:Nat):List Nat:=if _h:n=0∨B<2 then [] else n%B::dg B (n/B)
 termination_by n
 decreasing_by exact Nat.div_lt_self (by omega) (by omega)
theorem bE (B:Nat):dg B 0=[]:=by rw[dg]; simp
theorem gJ {B n:Nat} (hB:2≤B) (hn:n≠0):dg B n=n%B::dg B (n/B):=by
 rw[dg,dif_neg (by omega)]
theorem A8 {B x v:Nat} (hB:2≤B) (hx:x<B):dg B (x+B*v)=if x+B*v=0 then [] else x::dg B v:=by
 by_cases h:x+B*v=0
 ·rw[if_pos h,h,bE]
 ·rw[if_neg h,gJ hB h];rw[Gr,Fc hx,GP _ _ (by omega),Ga hx,Fn]
theorem iq {B n:Nat} (hB:2≤B):dg B n=[]↔n=0:=by
 constructor
 ·intro h;rcases F7 n with h0 | h0
  ·exact h0
  ·rw[gJ hB (by omega)]at h; cases h
 ·rintro rfl; exact bE B
theorem cE {B:Nat} (hB:2≤B):∀ {l:List Nat},Dig B l→cu l=dg B (val B l)
 | [],_=>by simp[cu,val,bE]
 | x::l,h=>by
  have ih:=cE hB h.tail;have hx:=h x (by simp);rw[tN,val,A8 hB hx,ih];by_cases h1:val B l=0
  ·rw[h1];simp only[bE,true_and,FQ,FM]
  ·have h2:¬ (x+B*val B l=0):=by
    have:B*val B l≠0:=EU (by omega) h1;omega
   rw[if_neg h2,if_neg];intro ⟨h3,_⟩;exact h1 ((iq hB).1 h3)
theorem bp {B:Nat} (hB:2≤B) (n:Nat):val B (dg B n)=n:=by
 induction n using Nat.strongRecOn with
 | _ n ih=>
  rcases F7 n with rfl | h
  ·rw[bE]; rfl
  ·rw[gJ hB (by omega),val,ih _ (Nat.div_lt_self h (by omega))];exact Nat.mod_add_div n B
theorem bw {B:Nat} (hB:2≤B) (n:Nat):Dig B (dg B n):=by
 induction n using Nat.strongRecOn with
 | _ n ih=>
  rcases F7 n with rfl | h
  ·rw[bE]; exact .nil
  ·rw[gJ hB (by omega)];exact .cons (Fz _ (by omega)) (ih _ (Nat.div_lt_self h (by omega)))
theorem cr {B:Nat} (hB:2≤B):∀ {k n:Nat},n<B^k→(dg B n).length≤k
 | 0,n,h=>by
  have:n=0:=by simpa using h
  subst this; rw[bE]; simp
 | k+1,n,h=>by
  rcases F7 n with rfl | h0
  ·rw[bE]; simp
  ·rw[gJ hB (by omega),E7];have:=cr hB (k:=k) (n:=n/B) (by rw[GZ (by omega)]; rw[Ff]at h; exact h);omega
theorem bA {B:Nat} (hB:2≤B) (n:Nat):n<B^(dg B n).length:=by
 have:=eg (by omega:0<B) (bw hB n);rwa [bp hB]at this
theorem bj {B:Nat} (hB:2≤B) {m n:Nat} (h:m≤n):(dg B m).length≤(dg B n).length:=cr hB (Gq h (bA hB n))
theorem mE {B:Nat} (hB:2≤B) {n:Nat} (h:n≠0):B^((dg B n).length-1)≤n:=by
 apply FD;intro hlt;have:=cr hB hlt;have h1:(dg B n).length≠0:=by
  intro h0;exact h ((iq hB).1 (EZ.1 h0))
 omega
theorem iS {B:Nat} (hB:2≤B) {m n:Nat} (h:(dg B m).length<(dg B n).length):m<n:=by
 apply Gz;intro hle;have:=bj hB hle;omega
theorem iT {B:Nat} (hB:2≤B) {l m:List Nat} {i:Nat} (hl:Dig B l) (hlen:l.length=m.length) (hi:i<l.length) (hd:l.drop (i+1)=m.drop (i+1)) (hlt:l.getD i 0<m.getD i 0):val B l<val B m:=by
 rw[fB B l (i+1),fB B m (i+1),hd,aC,aC,←hlen];have h1:=eg (by omega:0<B) (hl.take (n:=i));rw[EJ,F1 (by omega)]at h1;have h2:B^i*(l.getD i 0+1)≤B^i*m.getD i 0:=Fp _ hlt;rw[EW,FT]at h2;omega
theorem uJ (n:Int):Ct P 164 [.c (eI .i64 n)] [.c (.sc (.bool false))]:=by
 refine Ct.go aj aa (N:=6) Tryz.func164 rfl rfl rfl rfl ?_;have e:(n != n)=false:=by simp
 exact ⟨HB,r1 (by rw[←e]; rfl),HB⟩
theorem uK (n:Int):Ct P 165 [.c (eI .u64 n)] [.c (.sc (.bool false))]:=by
 refine Ct.go aj aa (N:=6) Tryz.func165 rfl rfl rfl rfl ?_;have e:(n != n)=false:=by simp
 exact ⟨HB,r1 (by rw[←e]; rfl),HB⟩
def bC (a b:Int):Int:=if a<b then -1 else if b<a then 1 else 0
theorem mF (a b:Int):Ct P 125 [.c (eI .i64 a),.c (eI .i64 b)] [.c (eI .i64 (bC a b))]:=by
 refine Ct.go aj aa (N:=20) Tryz.func125 rfl rfl rfl rfl ?_;refine X1 _ (uJ a) ?_;refine X1 _ (uJ b) ?_;refine ae (λh=>?_) (λh=>?_)
 ·exact ⟨HB,r1 (iE (by rw[bC,if_pos h])),HB⟩
 ·refine ae (λh2=>?_) (λh2=>?_)
  ·exact ⟨HB,r1 (iE (by rw[bC,if_neg h,if_pos h2])),HB⟩
  ·exact ⟨HB,r1 (iE (by rw[bC,if_neg h,if_neg h2])),HB⟩
theorem A9 (a b:Int):Ct P 126 [.c (eI .u64 a),.c (eI .u64 b)] [.c (eI .i64 (bC a b))]:=by
 refine Ct.go aj aa (N:=20) Tryz.func126 rfl rfl rfl rfl ?_;refine X1 _ (uK a) ?_;refine X1 _ (uK b) ?_;refine ae (λh=>?_) (λh=>?_)
 ·exact ⟨HB,r1 (iE (by rw[bC,if_pos h])),HB⟩
 ·refine ae (λh2=>?_) (λh2=>?_)
  ·exact ⟨HB,r1 (iE (by rw[bC,if_neg h,if_pos h2])),HB⟩
  ·exact ⟨HB,r1 (iE (by rw[bC,if_neg h,if_neg h2])),HB⟩
theorem Ct.ans3 {P:Program} {f:FuncId} {a b c:Value} {r s:PC} {v:Value} (hr:∀ w,(callFunc f #[a,b,c]).run P w = .ok (.value v) w) (hv:∀ K ok w,RelV K ok w (cw [.c r,.c s]) v):Ct P f [.c (.sc a),.c (.sc b),.c (.sc c)] [.c r,.c s]:=by
 refine ⟨λK ok w vs hp hrel=>.inr ?_⟩;obtain ⟨v1,us,rfl,h1,hrel⟩:=hrel.head;obtain ⟨v2,us,rfl,h2,hrel⟩:=hrel.head;obtain ⟨v3,us,rfl,h3,hrel⟩:=hrel.head;have:us=[]:=by have:=hrel.len; simpa using this
 subst this;have e1:=(RelV.o h1).sc.1;have e2:=(RelV.o h2).sc.1;have e3:=(RelV.o h3).sc.1;subst e1 e2 e3;exact ⟨v,w,hr w,v,K,ok,rfl,hv K ok w,hp,Fr.refl _ _ _ _⟩
theorem uL {K:Km} {ok:Nat→Prop} {w:World} {k k':IntKind} {a b:Int} (ha:inR k a) (hb:inR k' b):RelV K ok w (cw [.c (eI k a),.c (eI k' b)]) (.tuple #[.int k a,.int k' b]):=
 .tup (RelAs.cons (.c (.cl (.sc ha))) (RelAs.cons (.c (.cl (.sc hb))) RelAs.nil))
theorem ei (x y c:Nat) (hx:x<18446744073709551616) (hy:y<18446744073709551616) (hc:c≤1):Ct P 145 [.c (nI .u64 x),.c (nI .u64 y),.c (nI .u64 c)] [.c (nI .u64 ((x+y+c)%18446744073709551616)),.c (nI .u64 ((x+y+c)/18446744073709551616))]:=by
 refine Ct.ans3 (λw=>?_) (λK ok w=>uL (k:=.u64) (k':=.u64) ⟨by omega,by omega⟩ ⟨by omega,by omega⟩);rw[run_callFunc_extern Tryz.func145 (by kernel_rfl) (by kernel_rfl) (by kernel_rfl) (e:=add64Entry) (by kernel_rfl),run_add64 x y c (by omega) (by omega) (by omega) (by omega)];simp only[Result.andThen];congr 5<;>omega
theorem ku (x y b:Nat) (hx:x<18446744073709551616) (hy:y<18446744073709551616) (hb:b≤1):Ct P 150 [.c (nI .u64 x),.c (nI .u64 y),.c (nI .u64 b)] [.c (nI .u64 ((x+18446744073709551616-y-b)%18446744073709551616)),.c (nI .u64 (if x<y+b then 1 else 0))]:=by
 refine Ct.ans3 (λw=>?_) (λK ok w=>uL (k:=.u64) (k':=.u64) ⟨by omega,by omega⟩ ⟨by split<;>omega,by split<;>omega⟩);rw[run_callFunc_extern Tryz.func150 (by kernel_rfl) (by kernel_rfl) (by kernel_rfl) (e:=sub64Entry) (by kernel_rfl),run_sub64 x y b hb];rfl
abbrev nV (n:Nat):A1:=.ag [nSl .u64 (dg 18446744073709551616 n)]
theorem ej (l:List Nat) (hl:l.length≤1000000):Ct P 113 [.c (nSl .u64 l)] [.ag [nSl .u64 (cu l)]]:=by
 refine Ct.go aj aa (N:=22) Tryz.func113 rfl rfl rfl rfl ?_;refine ax aj aa (λm:List Nat=>m.length≤l.length∧cu l=cu m) (λm=>[(0,.c (nSl .u64 m)),(2,.c (.ad 2 0))]) (λ_=>[(2,.var [.sc (.slice none 0 0)])]) (λm=>m.length) l ⟨Ew _,rfl⟩ ⟨rfl,rfl,HB⟩ ⟨rfl,HB⟩
  (λ_:Unit=>True) (λ_=>[(0,.c (nSl .u64 (cu l))),(2,.c (.ad 2 0))]) (λ_=>[(2,.var [.sc (.slice none 0 0)])]) (λm hm=>?_) (λ_ _=>?_)
 ·obtain ⟨h1,h2⟩:=hm;refine .intro (by rw[ai]; omega) ?_;rw[ai];refine ae (λh=>?_) (λh=>?_)
  ·refine .intro (by rw[ai]; omega) ?_;rw[ai];obtain ⟨k,hk⟩:∃ k,m.length=k+1:=⟨m.length-1,by omega⟩;refine X1 (k:Int) (wI (by omega) (by omega) (by omega)) ?_;refine .intro (by omega) (X1 _ (al rfl (by omega)) ?_);refine aT (λh3=>?_) (λh3=>?_)
   ·refine .intro (by rw[ai]; omega) ?_;rw[ai];refine X1 (k:Int) (wI (by omega) (by omega) (by omega)) ?_;refine ⟨0,k,rfl,rfl,by omega,by rw[ai]; omega,?_⟩;have:=nJ m (n:=k) (by omega) (by omega);rw[←hk,Fd]at this;exact ⟨m.take k,⟨by simp; omega,h2.trans this⟩,by simp; omega,⟨qh (by rw[ip]; rfl),rfl,HB⟩,⟨rfl,HB⟩⟩
   ·have e:m=cu l:=by
     rw[h2,←jI m (n:=m.length) (Ew _) (by rw[Fd]) (.inr (by rw[hk]; simpa using h3)),Fd]
    exact ⟨(),HB,⟨qh (by rw[e]),rfl,HB⟩,⟨rfl,HB⟩⟩
  ·have e:m=cu l:=by
    have:m=[]:=EZ.1 (by omega);rw[h2,this]; rfl
   exact ⟨(),HB,⟨qh (by rw[e]),rfl,HB⟩,⟨rfl,HB⟩⟩
 ·exact ⟨HB,rc rfl,HB⟩
theorem ga (v:Nat) (hv:v<18446744073709551616):Ct P 69 [.c (nI .u64 v)] [nV v]:=by
 refine Ct.go aj aa (N:=6) Tryz.func69 rfl rfl rfl rfl ?_;refine X2 .frz ?_;have h:=ej [v] (by simp);rw[cE (B:=18446744073709551616) (by omega) (Dig.cons hv .nil)]at h;have e:val 18446744073709551616 [v]=v:=by simp[val]
 rw[e]at h;refine X1 _ h ?_;exact ⟨HB,rc rfl,HB⟩
theorem fC (n:Nat) (hn:(dg 18446744073709551616 n).length≤1000000):Ct P 78 [nV n] [.c (.sc (.bool (n==0)))]:=by
 refine Ct.go aj aa (N:=7) Tryz.func78 rfl rfl rfl rfl ?_;refine .intro (by rw[ai]; omega) ?_;have e:((((aF .u64 (dg 18446744073709551616 n)).length:Nat):Int)==0)=(n==0):=by
  rw[ai];have:=iq (B:=18446744073709551616) (n:=n) (by omega);rw[←EZ]at this;rw[Bool.eq_iff_iff];simp only[beq_iff_eq];omega
 exact ⟨HB,r1 (by rw[←e]; rfl),HB⟩
theorem kv (a b:Nat) (ha:(dg 18446744073709551616 a).length≤1000000) (hb:(dg 18446744073709551616 b).length≤1000000):Ct P 81 [nV a,nV b] [.c (eI .i64 (bC a b))]:=by
 refine Ct.go aj aa (N:=40) Tryz.func81 rfl rfl rfl rfl ?_;refine .intro (by rw[ai]; omega) ?_;refine .intro (by rw[ai]; omega) ?_;rw[ai,ai];refine X1 _ (mF _ _) ?_;refine ez (λh=>?_) (λh=>?_)
 ·have e:bC ((dg 18446744073709551616 a).length:Int) (dg 18446744073709551616 b).length=bC a b:=by
   unfold bC at h ⊢;split at h
   ·rename_i h1;have:a<b:=iS (B:=18446744073709551616) (by omega) (by omega);rw[if_pos h1,if_pos (by omega)]
   ·split at h
    ·rename_i h1 h2;have:b<a:=iS (B:=18446744073709551616) (by omega) (by omega);rw[if_neg h1,if_pos h2,if_neg (by omega),if_pos (by omega)]
    ·exact absurd rfl h
  exact ⟨HB,r1 (iE e),HB⟩
 ·have hlen:(dg 18446744073709551616 a).length=(dg 18446744073709551616 b).length:=by
   unfold bC at h;split at h
   ·omega
   ·split at h<;>omega
  refine .intro (by rw[ai]; omega) ?_;rw[ai];refine X1 (((dg 18446744073709551616 a).length:Int)-1) (wi (by omega) (by omega)) ?_;refine ax aj aa (λn:Nat=>n≤(dg 18446744073709551616 a).length∧(dg 18446744073709551616 a).drop n=(dg 18446744073709551616 b).drop n)
   (λn=>[(2,.c (.ad 2 0)),(3,.c (.ad 3 0)),(6,.c (eI .i64 ((n:Int)-1)))]) (λ_=>[(2,.var [nSl .u64 (dg 18446744073709551616 a)]),(3,.var [nSl .u64 (dg 18446744073709551616 b)])]) (λn=>n)
   (dg 18446744073709551616 a).length ⟨Ew _,by rw[F3,FL (by omega)]⟩ ⟨rfl,rfl,rfl,HB⟩ ⟨rfl,rfl,HB⟩
   (λ_:Unit=>a=b) (λ_=>[]) (λ_=>[]) (λn hn=>?_) (λ_ he=>?_)
  ·obtain ⟨h1,h2⟩:=hn;refine ae (λh5=>?_) (λh5=>?_)
   ·obtain ⟨m,rfl⟩:∃ m,n=m+1:=⟨n-1,by omega⟩;have hA:=bw (B:=18446744073709551616) (by omega) a;have hB:=bw (B:=18446744073709551616) (by omega) b;have vA:=bp (B:=18446744073709551616) (by omega) a;have vB:=bp (B:=18446744073709551616) (by omega) b;refine .intro (by omega) (X1 _ (al (n:=m) (by omega) (by omega)) ?_);refine .intro (by omega) (X1 _ (al (n:=m) (by omega) (by omega)) ?_);refine X1 _ (A9 _ _) ?_;refine .intro rfl ?_;refine ez (λh6=>?_) (λh6=>?_)
    ·have e:bC ((dg 18446744073709551616 a).getD m 0:Nat) ((dg 18446744073709551616 b).getD m 0:Nat)=bC a b:=by
      unfold bC at h6 ⊢;split at h6
      ·rename_i h7;have:=iT (B:=18446744073709551616) (by omega) hA hlen (by omega) h2 (by omega);rw[if_pos h7,if_pos (by omega)]
      ·split at h6
       ·rename_i h7 h8;have:=iT (B:=18446744073709551616) (by omega) hB hlen.symm (by omega) h2.symm (by omega);rw[if_neg h7,if_pos h8,if_neg (by omega),if_pos (by omega)]
       ·exact absurd rfl h6
     exact ⟨HB,r1 (iE e),HB⟩
    ·have e1:(dg 18446744073709551616 a).getD m 0=(dg 18446744073709551616 b).getD m 0:=by
      unfold bC at h6;split at h6
      ·omega
      ·split at h6<;>omega
     refine X1 ((m:Int)-1) (wI (by omega) (by omega) (by omega)) ?_;refine ⟨m,⟨by omega,?_⟩,by omega,⟨rfl,rfl,rfl,HB⟩,⟨rfl,rfl,HB⟩⟩;rw[Ev,Ev,ES (by omega:m<(dg 18446744073709551616 a).length),ES (by omega:m<(dg 18446744073709551616 b).length)]at e1;rw[E4 (by omega:m<(dg 18446744073709551616 a).length),E4 (by omega:m<(dg 18446744073709551616 b).length),h2];simp only[F2]at e1;rw[e1]
   ·have hn:n=0:=by omega
    subst hn;refine ⟨(),?_,HB,HB⟩;rw[FU,FU]at h2;rw[←bp (B:=18446744073709551616) (by omega) a,h2,bp (by omega)]
  ·exact ⟨HB,r1 (iE (by rw[bC,if_neg (by omega),if_neg (by omega)])),HB⟩
theorem uM (a b:Nat) (hab:b≤a) (ha:(dg 18446744073709551616 a).length≤1000000):Ct P 104 [nV a,nV b] [nV (a-b),.c (eI .i64 0)]:=by
 have hlb:(dg 18446744073709551616 b).length≤(dg 18446744073709551616 a).length:=bj (by omega) hab;refine Ct.go aj aa (N:=52) Tryz.func104 rfl rfl rfl rfl ?_;refine X1 _ (kv a b ha (by omega)) ?_;refine tx (decide_eq_false (by unfold bC; split<;>(try split)<;>omega)) ?_;refine .intro (by rw[ai]; omega) ?_;rw[ai];refine ⟨by omega,by omega,by omega,.inl (by decide),?_⟩;refine .intro (by rw[ai]; omega) ?_;rw[ai];refine ax aj aa (G:=Nat × List Nat × Nat) (λ(i,out,c)=>i≤(dg 18446744073709551616 a).length∧out.length=(dg 18446744073709551616 a).length∧Dig 18446744073709551616 out∧c≤1∧val 18446744073709551616 ((dg 18446744073709551616 a).take i)+18446744073709551616^i*c=val 18446744073709551616 ((dg 18446744073709551616 b).take i)+val 18446744073709551616 (out.take i))
  (λ(i,out,c)=>[(2,.c (.ad 2 0)),(3,.c (.ad 3 0)),(4,.c (.ad 4 0)),(6,.c (.ow 18 1 (dg 18446744073709551616 a).length)),(7,.c (nI .u64 c)),(21,.c (nI .i64 (dg 18446744073709551616 a).length)),(22,.c (nI .i64 i))])
  (λ((i,out,c):Nat × List Nat × Nat)=>[(2,.var [nSl .u64 (dg 18446744073709551616 a)]),(3,.var [nSl .u64 (dg 18446744073709551616 b)]),(4,.var [.sc (.slice none 0 0)]),(18,.row 1 (aF .u64 out))]) (λ(i,out,c)=>(dg 18446744073709551616 a).length-i)
  (0,List.replicate (dg 18446744073709551616 a).length 0,0) ⟨by simp,by simp,λx hx=>by rw[Fv hx]; omega,by simp,by simp[val]⟩
  ⟨rfl,rfl,rfl,owE (by omega),rfl,rfl,rfl,HB⟩ ⟨rfl,rfl,rfl,aB (fg rfl),HB⟩
  (λl:List Nat=>Dig 18446744073709551616 l∧val 18446744073709551616 l=a-b∧l.length≤1000000) (λl=>[(4,.c (.ad 4 0)),(6,.c (.ow 18 1 (dg 18446744073709551616 a).length))]) (λl=>[(4,.var [.sc (.slice none 0 0)]),(18,.row 1 (aF .u64 l))]) (λg hg=>?_) (λl hl=>?_)
 ·obtain ⟨i,out,c⟩:=g;obtain ⟨h1,h2,h6,h3,h4⟩:=hg;refine ae (λh5=>?_) (λh5=>?_)
  ·have hx:=(bw (B:=18446744073709551616) (by omega) a).getD (by omega) i;have hy:=(bw (B:=18446744073709551616) (by omega) b).getD (by omega) i;have hA:=aC 18446744073709551616 (dg 18446744073709551616 a) i;have hB:=aC 18446744073709551616 (dg 18446744073709551616 b) i;generalize hxx:(dg 18446744073709551616 a).getD i 0=x at hx hA;refine .intro (by rw[ai]; omega) ?_;rw[ai];refine ae (λh7=>And.intro (by omega) (X1 _ (al rfl (by omega)) ?_)) (λh7=>?_)
   ·generalize hyy:(dg 18446744073709551616 b).getD i 0=y at hy hB ⊢;refine .intro (by omega) (X1 _ (al rfl (by omega)) ?_);rw[hxx];refine X1 _ (ku x y c hx (by omega) h3) ?_;refine .intro (by omega) (.intro (by simp<;>omega) ?_);refine X1 _ (al rfl (by omega)) ?_;refine X1 ((i+1:Nat):Int) (wI1 (by omega)) ?_;refine ⟨(i+1,out.set i ((x+18446744073709551616-y-c)%18446744073709551616),if x<y+c then 1 else 0),⟨by omega,by simp[h2],h6.set (by omega),by split<;>omega,?_⟩,by show _-(i+1)<_-i; omega,⟨rfl,rfl,rfl,rfl,rfl,rfl,rfl,HB⟩,⟨rfl,rfl,rfl,aB nRow_set,HB⟩⟩;have hst:=du 18446744073709551616 out (i:=i) (v:=(x+18446744073709551616-y-c)%18446744073709551616) (by omega);rw[hst,hA,hB];have key:x+18446744073709551616*(if x<y+c then 1 else 0)=(x+18446744073709551616-y-c)%18446744073709551616+y+c:=by split<;>omega
    have k2:=congrArg (18446744073709551616^i * ·) key;simp only[EW]at k2;rw[Ff,EL];omega
   ·have hyy:(dg 18446744073709551616 b).getD i 0=0:=by rw[Ev,ET (by omega)]; rfl
    rw[hyy]at hB;refine .intro (by omega) (X1 _ (al rfl (by omega)) ?_);rw[hxx];refine X1 _ (ku x 0 c hx (by omega) h3) ?_;refine .intro (by omega) (.intro (by simp<;>omega) ?_);refine X1 _ (al rfl (by omega)) ?_;refine X1 ((i+1:Nat):Int) (wI1 (by omega)) ?_;refine ⟨(i+1,out.set i ((x+18446744073709551616-0-c)%18446744073709551616),if x<0+c then 1 else 0),⟨by omega,by simp[h2],h6.set (by omega),by split<;>omega,?_⟩,by show _-(i+1)<_-i; omega,⟨rfl,rfl,rfl,rfl,rfl,rfl,rfl,HB⟩,⟨rfl,rfl,rfl,aB nRow_set,HB⟩⟩;have hst:=du 18446744073709551616 out (i:=i) (v:=(x+18446744073709551616-0-c)%18446744073709551616) (by omega);rw[hst,hA,hB];have key:x+18446744073709551616*(if x<0+c then 1 else 0)=(x+18446744073709551616-0-c)%18446744073709551616+0+c:=by split<;>omega
    have k2:=congrArg (18446744073709551616^i * ·) key;simp only[EW]at k2;rw[Ff,EL];omega
  ·have e:i=(dg 18446744073709551616 a).length:=by omega
   subst e;refine ⟨out,⟨h6,?_,by omega⟩,⟨rfl,rfl,HB⟩,⟨rfl,rfl,HB⟩⟩;rw[aU (Ew _),aU hlb,aU (by omega),bp (by omega),bp (by omega)]at h4;have h7:=eg (by omega:0<18446744073709551616) h6;rw[h2]at h7;have h8:c=0:=by
    rcases F7 c with h | h
    ·exact h
    ·have:c=1:=by omega
     subst this;omega
   subst h8;omega
 ·obtain ⟨h1,h2,h3⟩:=hl;refine X2 .frz ?_;refine X1 _ (ej l h3) ?_;rw[cE (by omega) h1,h2];exact ⟨HB,rc rfl,r1 rfl,HB⟩
def aI (l:List Int):List (List PC):=l.map λx=>[eI .i64 x]
abbrev iSl (l:List Int):PC:=.sl 1 (aI l)
theorem ac {l:List Int}:(aI l).length=l.length:=by simp[aI]
theorem bl {l:List Int} {i:Int} {n:Nat} (h0:i=n) (h:n<l.length):(aI l)[i.toNat]? = some [eI .i64 (l.getD n 0)]:=by
 subst h0;simp[aI,h]
theorem tO {l m:List Int} {i:Nat} (hl:i<l.length) (hm:i<m.length) (h:l.getD i 0=m.getD i 0):l[i]? = m[i]?:=by
 rw[Ev,Ev,ES hl,ES hm]at h;rw[ES hl,ES hm];exact congrArg some h
theorem kw {l m:List Int} {i:Nat} (hl:i<l.length) (hm:i<m.length) (h0:l.take i=m.take i) (h:l.getD i 0=m.getD i 0):l.take (i+1)=m.take (i+1):=by
 rw[List.take_add_one,List.take_add_one,h0,tO hl hm h]
theorem rL (l m:List Int) (hl:l.length≤1000000) (hm:m.length≤1000000):Ct P 170 [.c (iSl l),.c (iSl m)] [.c (.sc (.bool (decide (l=m))))]:=by
 refine Ct.go aj aa (N:=26) Tryz.func170 rfl rfl rfl rfl ?_;refine .intro (by rw[ac]; omega) ?_;refine .intro (by rw[ac]; omega) ?_;rw[ac,ac];refine ez (λh=>?_) (λh=>?_)
 ·have hne:l≠m:=λe=>h (by rw[e])
  rw[decide_eq_false hne];exact ⟨HB,r1 rfl,HB⟩
 ·refine .intro (by rw[ac]; omega) ?_;rw[ac];refine ax aj aa (λi:Nat=>i≤l.length∧l.take i=m.take i) (λi=>[(0,.c (iSl l)),(1,.c (iSl m)),(12,.c (nI .i64 l.length)),(13,.c (nI .i64 i))]) (λ_=>[]) (λi=>l.length-i)
   0 ⟨by omega,rfl⟩ ⟨rfl,rfl,rfl,rfl,HB⟩ HB (λ_:Unit=>l=m) (λ_=>[]) (λ_=>[]) (λi hi=>?_) (λ_ he=>?_)
  ·obtain ⟨h1,h2⟩:=hi;refine ae (λh5=>?_) (λh5=>?_)
   ·refine .intro (by omega) (X1 _ (bl rfl (by omega)) ?_);refine .intro (by omega) (X1 _ (bl rfl (by omega)) ?_);refine .intro rfl ?_;refine ez (λh6=>?_) (λh6=>?_)
    ·have hne:l≠m:=λe=>h6 (by rw[e])
     rw[decide_eq_false hne];exact ⟨HB,r1 rfl,HB⟩
    ·refine X1 ((i+1:Nat):Int) (wI1 (by omega)) ?_;exact ⟨i+1,⟨by omega,kw (by omega) (by omega) h2 h6⟩,by omega,⟨rfl,rfl,rfl,rfl,HB⟩,HB⟩
   ·have e:i=l.length:=by omega
    subst e;rw[Fd,E3 (by omega)]at h2;exact ⟨(),h2,HB,HB⟩
  ·rw[decide_eq_true he];exact ⟨HB,r1 rfl,HB⟩
theorem mG (l m:List Int) (hl:l.length≤1000000) (hm:m.length≤1000000):Ct P 10 [.c (iSl l),.c (iSl m)] [.c (.sc (.bool (decide (l=m))))]:=by
 refine Ct.go aj aa (N:=26) Tryz.func10 rfl rfl rfl rfl ?_;refine .intro (by rw[ac]; omega) ?_;refine .intro (by rw[ac]; omega) ?_;rw[ac,ac];refine ez (λh=>?_) (λh=>?_)
 ·have hne:l≠m:=λe=>h (by rw[e])
  rw[decide_eq_false hne];exact ⟨HB,r1 rfl,HB⟩
 ·refine ax aj aa (λi:Nat=>i≤l.length∧l.take i=m.take i) (λi=>[(0,.c (iSl l)),(1,.c (iSl m)),(5,.c (nI .i64 i))]) (λ_=>[]) (λi=>l.length-i)
   0 ⟨by omega,rfl⟩ ⟨rfl,rfl,rfl,HB⟩ HB (λ_:Unit=>l=m) (λ_=>[]) (λ_=>[]) (λi hi=>?_) (λ_ he=>?_)
  ·obtain ⟨h1,h2⟩:=hi;refine .intro (by rw[ac]; omega) ?_;rw[ac];refine ae (λh5=>?_) (λh5=>?_)
   ·refine .intro (by omega) (X1 _ (bl rfl (by omega)) ?_);refine .intro (by omega) (X1 _ (bl rfl (by omega)) ?_);refine .intro rfl ?_;refine ez (λh6=>?_) (λh6=>?_)
    ·have hne:l≠m:=λe=>h6 (by rw[e])
     rw[decide_eq_false hne];exact ⟨HB,r1 rfl,HB⟩
    ·refine X1 ((i+1:Nat):Int) (wI1 (by omega)) ?_;exact ⟨i+1,⟨by omega,kw (by omega) (by omega) h2 h6⟩,by omega,⟨rfl,rfl,rfl,HB⟩,HB⟩
   ·have e:i=l.length:=by omega
    subst e;rw[Fd,E3 (by omega)]at h2;exact ⟨(),h2,HB,HB⟩
  ·rw[decide_eq_true he];exact ⟨HB,r1 rfl,HB⟩
def idx (x:Int):List Int→Int
 | []=>-1
 | y::l=>if x=y then 0 else if idx x l<0 then -1 else idx x l+1
theorem rN (x:Int):∀ (l:List Int) (i:Nat),(∀ j,j<i→l[j]? ≠ some x)→l[i]? = some x→idx x l=i
 | [],i,_,h=>by simp at h
 | y::l,0,_,h=>by simp at h; simp[idx,h]
 | y::l,i+1,h1,h=>by
  have h0:y≠x:=λe=>h1 0 (by omega) (by simp[e])
  have:=rN x l i (λj hj=>by simpa using h1 (j+1) (by omega)) (by simpa using h);simp only[idx,this];rw[if_neg (λe=>h0 e.symm),if_neg (by omega)];simp
theorem rO (x:Int):∀ (l:List Int),(∀ j:Nat,l[j]? ≠ some x)→idx x l = -1
 | [],_=>rfl
 | y::l,h=>by
  have h0:y≠x:=λe=>h 0 (by simp[e])
  have:=rO x l (λj=>by simpa using h (j+1));simp only[idx,this];rw[if_neg (λe=>h0 e.symm),if_pos (by omega)]
theorem yw (l:List Int) (x:Int) (hl:l.length≤1000000):Ct P 95 [.c (iSl l),.c (eI .i64 x)] [.c (eI .i64 (idx x l))]:=by
 refine Ct.go aj aa (N:=19) Tryz.func95 rfl rfl rfl rfl ?_;refine .intro (by rw[ac]; omega) ?_;rw[ac];refine ax aj aa (λi:Nat=>i≤l.length∧∀ j,j<i→l[j]? ≠ some x) (λi=>[(0,.c (iSl l)),(1,.c (eI .i64 x)),(7,.c (nI .i64 l.length)),(8,.c (nI .i64 i))]) (λ_=>[]) (λi=>l.length-i)
  0 ⟨by omega,λj hj=>by omega⟩ ⟨rfl,rfl,rfl,rfl,HB⟩ HB (λ_:Unit=>idx x l = -1) (λ_=>[]) (λ_=>[]) (λi hi=>?_) (λ_ he=>?_)
 ·obtain ⟨h1,h2⟩:=hi;refine ae (λh5=>?_) (λh5=>?_)
  ·refine .intro (by omega) (X1 _ (bl rfl (by omega)) ?_);have hg:l[i]? = some (l.getD i 0):=by simp[Ev,(by omega:i<l.length)]
   refine aT (λh6=>?_) (λh6=>?_)
   ·exact ⟨HB,r1 (iE (rN x l i h2 (by rw[hg,h6])).symm),HB⟩
   ·refine X1 ((i+1:Nat):Int) (wI1 (by omega)) ?_;refine ⟨i+1,⟨by omega,λj hj=>?_⟩,by omega,⟨rfl,rfl,rfl,rfl,HB⟩,HB⟩;by_cases hji:j=i
    ·subst hji;rw[hg];intro e;exact h6 (Gc e).symm
    ·exact h2 j (by omega)
  ·refine ⟨(),rO x l (λj=>?_),HB,HB⟩;by_cases hj:j<i
   ·exact h2 j hj
   ·rw[ET (by omega)]; simp
 ·exact ⟨HB,r1 (iE he.symm),HB⟩
theorem ir (l:List Int) (x:Int) (hl:l.length≤1000000):Ct P 44 [.c (iSl l),.c (eI .i64 x)] [.c (.sc (.bool (decide (idx x l≥0))))]:=by
 refine Ct.go aj aa (N:=9) Tryz.func44 rfl rfl rfl rfl ?_;refine X1 _ (yw l x hl) ?_;exact ⟨HB,r1 rfl,HB⟩
def aG:List Int→List Int→Int
 | [],[]=>0
 | [],_::_=>-1
 | _::_,[]=>1
 | x::l,y::m=>if bC x y≠0 then bC x y else aG l m
theorem tP (l m:List Int) (hl:l.length≤1000000) (hm:m.length≤1000000):Ct P 185 [.c (iSl l),.c (iSl m)] [.c (eI .i64 (aG l m))]:=by
 refine Ct.go aj aa (N:=36) Tryz.func185 rfl rfl rfl rfl ?_;refine .intro (by rw[ac]; omega) ?_;rw[ac];refine ax aj aa (λi:Nat=>i≤l.length∧i≤m.length∧aG l m=aG (l.drop i) (m.drop i)) (λi=>[(0,.c (iSl l)),(1,.c (iSl m)),(9,.c (iSl l)),(10,.c (nI .i64 l.length)),(11,.c (nI .i64 i))]) (λ_=>[]) (λi=>l.length-i)
  0 ⟨by omega,by omega,rfl⟩ ⟨rfl,rfl,rfl,rfl,rfl,HB⟩ HB (λ_:Unit=>l.length≤m.length∧aG l m=if l.length<m.length then -1 else 0) (λ_=>[(0,.c (iSl l)),(1,.c (iSl m))]) (λ_=>[]) (λi hi=>?_) (λ_ he=>?_)
 ·obtain ⟨h1,h2,h3⟩:=hi;refine ae (λh5=>?_) (λh5=>?_)
  ·refine .intro (by omega) (X1 _ (bl rfl (by omega)) ?_);refine .intro (by rw[ac]; omega) ?_;rw[ac];have dl:l.drop i=l.getD i 0::l.drop (i+1):=by
    rw[E4 (by omega)]; simp[Ev,(by omega:i<l.length)]
   refine ae (λh6=>?_) (λh6=>?_)
   ·have dm:m.drop i=[]:=FL (by omega);rw[dl,dm,aG]at h3;exact ⟨HB,r1 (iE h3.symm),HB⟩
   ·have dm:m.drop i=m.getD i 0::m.drop (i+1):=by
     rw[E4 (by omega)]; simp[Ev,(by omega:i<m.length)]
    rw[dl,dm,aG]at h3;refine .intro (by omega) (X1 _ (bl rfl (by omega)) ?_);refine X1 _ (mF _ _) ?_;refine ez (λh7=>?_) (λh7=>?_)
    ·rw[if_pos h7]at h3;exact ⟨HB,r1 (iE h3.symm),HB⟩
    ·rw[if_neg (λh=>h h7)]at h3;refine X1 ((i+1:Nat):Int) (wI1 (by omega)) ?_;exact ⟨i+1,⟨by omega,by omega,h3⟩,by omega,⟨rfl,rfl,rfl,rfl,rfl,HB⟩,HB⟩
  ·have e:i=l.length:=by omega
   subst e;refine ⟨(),⟨h2,?_⟩,⟨rfl,rfl,HB⟩,HB⟩;rw[h3,F3]
   cases hd:m.drop l.length with
   | nil=>
    have:=List.drop_eq_nil_iff.1 hd;rw[if_neg (by omega)]; rfl
   | cons y t=>
    have:¬ m.length≤l.length:=λh=>by rw[FL h]at hd; cases hd
    rw[if_pos (by omega)]; rfl
 ·obtain ⟨h1,h2⟩:=he;refine .intro (by rw[ac]; omega) ?_;refine .intro (by rw[ac]; omega) ?_;rw[ac,ac];refine ae (λh5=>?_) (λh5=>?_)
  ·rw[if_pos (by omega)]at h2;exact ⟨HB,r1 (iE h2.symm),HB⟩
  ·rw[if_neg (by omega)]at h2;exact ⟨HB,r1 (iE h2.symm),HB⟩
theorem fU (l m:List Int) (hl:l.length≤1000000) (hm:m.length≤1000000):Ct P 166 [.c (iSl l),.c (iSl m)] [.c (eI .i64 (aG l m))]:=by
 refine Ct.go aj aa (N:=8) Tryz.func166 rfl rfl rfl rfl ?_;refine X1 _ (tP l m hl hm) ?_;exact ⟨HB,r1 rfl,HB⟩
theorem bc {l:List Int}:aA (aI l):=by
 intro el h;obtain ⟨x,_,rfl⟩:=Fb.1 h;rfl
end
section
theorem yx {H:Type} (d:DataW H):1≤Rows.uptoBulk d:=by
 cases d with
 | lit l=>cases l<;>simp[Rows.uptoBulk]
 | _=>simp[Rows.uptoBulk]
theorem vT {H:Type} {d:DataW H} {l:List (DataW H)} (h:d∈l):Rows.uptoBulk d≤Rows.uptoBulkAll l:=by
 induction l with
 | nil=>cases h
 | cons x r ih=>
  simp only[Rows.uptoBulkAll]
  cases E9.1 h with
  | inl e=>subst e; omega
  | inr e=>have:=ih e; omega
theorem yy {H:Type} (l:List (DataW H)):l.length≤Rows.uptoBulkAll l:=by
 induction l with
 | nil=>simp[Rows.uptoBulkAll]
 | cons x r ih=>have:=yx x; simp only[Rows.uptoBulkAll,E7]; omega
theorem uN {α:Type} {R:Nat→α→Prop}:∀ (n:Nat),(∀ i,i<n→∃ y,R i y)→∃ l:List α,l.length=n∧∀ (i:Nat) x,l[i]? = some x→R i x
 | 0,_=>⟨[],rfl,λi x h=>by simp at h⟩
 | n+1,h=>by
  obtain ⟨l,h1,h2⟩:=uN n λi hi=>h i (by omega)
  obtain ⟨y,hy⟩:=h n (by omega);refine ⟨l++[y],by simp[h1],λi x hx=>?_⟩;rcases FP i n with hlt | rfl | hgt
  ·rw[EF (by omega)]at hx; exact h2 i x hx
  ·rw[ED (by omega),h1,G1]at hx;cases hx; exact hy
  ·rw[ET (by simp; omega)]at hx; cases hx
section
variable {H:Type} {enc:TypeId × Value→H} {W:World} {sp:Nat→Bool} {held:Bool}
abbrev okW (W:World):Nat→Prop:=λb=>b<W.heap.size
theorem yz {t e sz:Nat} (ht:P.underlying t=some (.slice e)) (hc:P.cellsOf e=sz) (hsz:0<sz) {α:Type} (R:α→List PC) (hR:∀ x,(R x).length=sz) (B:Nat) (hB:B≤140737488355328) (Q:α→Prop)
  (elem:∀ (n:Nat) (cs:List Value) (y:DataW H × List MemPlace),DataW.trod enc P W 0 sp held n e cs=some y→Rows.uptoBulk y.1≤B→∃ x,Q x∧∀ (i:Nat) c,(R x)[i]? = some c→∃ u,cs[i]? = some u∧Rel (okW W) W c u)
  {fuel:Nat} {cs:List Value} {y:DataW H × List MemPlace} (h:DataW.trod enc P W 0 sp held fuel t cs=some y) (hb:Rows.uptoBulk y.1≤B) :
  ∃ (v:Value) (l:List α),cs=[v]∧l.length≤B∧(∀ x,x∈l→Q x)∧Rel (okW W) W (.sl sz (l.map R)) v:=by
 rcases DataW.trod_slice ht h with ⟨rfl,rfl⟩ | ⟨a,len,cap,elems,rest,n,rfl,rfl,rfl,_,hl,hm,hlen,hel,_⟩
 ·exact ⟨_,[],rfl,by simp,λx hx=>by simp at hx,.sl0⟩
 ·simp only[Rows.uptoBulk]at hb;have hlb:=yy (elems.map (·.1));rw[Fl]at hlb;have each:∀ i,i<len→∃ x:α,Q x∧∀ (q:Nat) c,(R x)[q]? = some c→∃ u,W.cell? ((a.add (i*sz)).add q)=some u∧Rel (okW W) W c u:=by
   intro i hi;have h1:=hel i hi;rw[ES (by omega),Option.bind_eq_some_iff]at h1;obtain ⟨cs',hcs,hy⟩:=h1;rw[hc]at hcs;obtain ⟨_,hcl,hcg⟩:=World.cells?_some hcs;have hbe:Rows.uptoBulk (elems[i]).1≤B:=by
    have:=vT (d:=(elems[i]).1) (l:=elems.map (·.1)) (Fb.2 ⟨_,EI _,rfl⟩);omega
   obtain ⟨x,hq,hx⟩:=elem n cs' _ hy hbe;refine ⟨x,hq,λq c hqc=>?_⟩;obtain ⟨u,hu,hr⟩:=hx q c hqc;exact ⟨u,(hcg q (by rw[←hR x]; exact (Ez.1 hqc).1)).trans hu,hr⟩
  obtain ⟨l,hll,hlx⟩:=uN len each;refine ⟨_,l,rfl,by omega,λx hx=>?_,?_⟩
  ·obtain ⟨i,hi⟩:=Gp.1 hx;exact (hlx i x hi).1
  ·by_cases h0:len=0
   ·subst h0;have:l=[]:=EZ.1 hll;subst this;exact .sl0
   ·obtain ⟨b,off,spot⟩:=a;have hcell:∀ (j q:Nat) x c,l[j]? = some x→(R x)[q]? = some c→∃ u,W.cell? (((⟨b,off,spot⟩:Addr).add (j*sz)).add q)=some u∧Rel (okW W) W c u:=λj q x c hj hq=>(hlx j x hj).2 q c hq
    have hpos:0<l.length:=by rw[hll]; exact E5 h0
    obtain ⟨x0,hx0⟩:∃ x0,l[0]? = some x0:=⟨l[0]'hpos,ES hpos⟩;have hposR:0<(R x0).length:=by rw[hR]; exact hsz
    obtain ⟨c0,hc0⟩:∃ c0,(R x0)[0]? = some c0:=⟨(R x0)[0]'hposR,ES hposR⟩;obtain ⟨u0,hu0,_⟩:=hcell 0 0 _ _ hx0 hc0;have hu0':W.cell? ⟨b,off,spot⟩=some u0:=by simpa [Addr.add] using hu0
    have hspot:spot=none:=by simpa using World.cell?_spot hu0'
    subst hspot;have hblk:b<W.heap.size:=by
     unfold World.cell? at hu0'
     cases hbb:W.heap[b]? with
     | none=>simp[hbb]at hu0'
     | some o=>exact (EY.1 hbb).1
    have hadd:∀ j q:Nat,(((⟨b,off,none⟩:Addr).add (j*sz)).add q)=⟨b,off+(j*sz+q),none⟩:=λj q=>by
     rw[Addr.add_lit,Addr.add_lit,Fx]
    have hlm:(l.map R).length=len:=by rw[Fl,hll]
    rw[←hlm];have key:∀ (j i:Nat) (el:List PC) (x:PC),(l.map R)[j]? = some el→el[i]? = some x→∃ u,W.cell? ⟨b,off+(j*sz+i),none⟩=some u∧Rel (okW W) W x u:=λj i el x hj hi=>by
     rw[EH,EC]at hj;obtain ⟨z,hz,rfl⟩:=hj;obtain ⟨u,hu,hr⟩:=hcell j i z x hz hi;rw[hadd]at hu;exact ⟨u,hu,hr⟩
    refine .sl (λj i=>(W.cell? ⟨b,off+(j*sz+i),none⟩).getD (.bool true)) (by rw[hlm]; exact hl) (by rw[hlm,dP]; exact EA (by omega) hB) hblk hblk (λj el hj=>?_) (λj i el x hj hi=>?_) (λj i el x hj hi=>?_)
    ·rw[EH,EC]at hj;obtain ⟨z,_,rfl⟩:=hj;exact hR z
    ·obtain ⟨u,hu,_⟩:=key j i el x hj hi;rw[hu]; rfl
    ·obtain ⟨u,hu,hr⟩:=key j i el x hj hi;rw[hu]; exact hr
end
end
section
section
variable {H:Type} {enc:TypeId × Value→H} {W:World} {sp:Nat→Bool} {held:Bool} {B:Nat}
theorem CK {n:Int} (h:(Lit.int .i64 n).wf=true):inR .i64 n:=by
 have:-9223372036854775808≤n∧n≤9223372036854775807:=by simpa [Lit.wf,IntKind.min,IntKind.max,IntKind.signed,IntKind.bits] using h
 exact this
theorem CL {n:Nat} {cs:List Value} {y:DataW H × List MemPlace} (h:DataW.trod enc P W 0 sp held n 3 cs=some y):∃ z:Int,cs=[.int .i64 z]∧Rel (okW W) W (eI .i64 z) (.int .i64 z):=by
 obtain ⟨z,rfl,rfl,hw⟩:=DataW.trod_int Tryz.underlying3 h;exact ⟨z,rfl,.sc (CK hw)⟩
theorem rd_ints (hB:B≤140737488355328) {n:Nat} {cs:List Value} {y:DataW H × List MemPlace} (h:DataW.trod enc P W 0 sp held n 22 cs=some y) (hb:Rows.uptoBulk y.1≤B) :
  ∃ (v:Value) (l:List Int),cs=[v]∧l.length≤B∧Rel (okW W) W (iSl l) v:=by
 obtain ⟨v,l,h1,h2,_,h4⟩:=yz Tryz.underlying22 (sz:=1) (by kernel_rfl) (by omega) (λz:Int=>[eI .i64 z]) (λ_=>rfl) B hB (λ_=>True) (λn cs y h _=>by
  obtain ⟨z,rfl,hr⟩:=CL h;refine ⟨z,HB,λi c hi=>?_⟩
  cases i with
  | zero=>cases hi; exact ⟨_,rfl,hr⟩
  | succ i=>simp at hi) h hb
 exact ⟨v,l,h1,h2,h4⟩
end
end
section
section
variable {H:Type} {enc:TypeId × Value→H} {Q:Program} {W:World} {sp:Nat→Bool} {held:Bool}
theorem okWide_arr {t n e:Nat} (ht:Q.underlying t=some (.array n e)) {r:Reach} {b0:Nat} {v:Value} (h:Value.okWide Q W r b0 t v):∃ xs:Array Value,v = .agg xs:=by
 simp only[Value.okWide,ht]at h;obtain ⟨cs,h1,_⟩:=h;exact ⟨cs,h1⟩
theorem Cc {α:Type}:∀ {l:List α},l.length=2→∃ a b,l=[a,b]
 | [],h=>by simp at h
 | [_],h=>by simp at h
 | [a,b],_=>⟨a,b,rfl⟩
 | _::_::_::_,h=>by simp at h
theorem rd_arr2 {t e:Nat} {q:IntKind} (ht:Q.underlying t=some (.array 2 e)) (hc:Q.cellsOf t=2∧Q.cellsOf e=1) (he:Q.underlying e=some (.int q)) {n:Nat} {cs:List Value} {y:DataW H × List MemPlace} (h:DataW.trod enc Q W 0 sp held n t cs=some y) :
  ∃ a b:Int,cs=[.int q a,.int q b]∧(Lit.int q a).wf=true∧(Lit.int q b).wf=true:=by
 obtain ⟨xs,m,rfl,rfl,hcl,hxl,hf⟩:=DataW.trod_array ht h;rw[hc.1]at hcl;obtain ⟨c0,c1,rfl⟩:=Cc hcl;obtain ⟨x0,x1,rfl⟩:=Cc hxl;have f0:=hf 0 (by omega);have f1:=hf 1 (by omega);rw[hc.2]at f0 f1;obtain ⟨a,h1,_,w1⟩:=DataW.trod_int he (cs:=[c0]) (x:=x0) f0;obtain ⟨b,h2,_,w2⟩:=DataW.trod_int he (cs:=[c1]) (x:=x1) f1;have e0:c0 = .int q a:=by simpa using h1
 have e1:c1 = .int q b:=by simpa using h2
 subst e0 e1;exact ⟨a,b,rfl,w1,w2⟩
end
end
section
abbrev Cnt:=List Int × Int
def cj (l:List Cnt):List (List PC):=l.map λx=>[iSl x.1,eI .i64 x.2]
abbrev cSl (l:List Cnt):PC:=.sl 2 (cj l)
def a8 (L:List (List Cnt)):List (List PC):=L.map λl=>[cSl l]
abbrev cK (L:List (List Cnt)):PC:=.sl 1 (a8 L)
theorem cRow_len {l:List Cnt}:(cj l).length=l.length:=by simp[cj]
theorem ar {l:List (List Cnt)}:(a8 l).length=l.length:=by simp[a8]
theorem bq {l:List Cnt} {i:Int} {n:Nat} (h0:i=n) (h:n<l.length):(cj l)[i.toNat]? = some [iSl l[n].1,eI .i64 l[n].2]:=by
 subst h0;simp[cj,h]
theorem bK {l:List (List Cnt)} {i:Int} {n:Nat} (h0:i=n) (h:n<l.length):(a8 l)[i.toNat]? = some [cSl l[n]]:=by
 subst h0;simp[a8,h]
structure CLim (l:List Cnt):Prop where
 len:l.length≤1000000
 g:∀ x,x∈l→x.1.length≤1000000
structure CCLim (L:List (List Cnt)):Prop where
 len:L.length≤1000000
 l:∀ l,l∈L→CLim l
theorem CLim.at' {l:List Cnt} (h:CLim l) {i:Nat} (hi:i<l.length):l[i].1.length≤1000000:=h.g _ (EI hi)
theorem CCLim.at' {L:List (List Cnt)} (h:CCLim L) {i:Nat} (hi:i<L.length):CLim L[i]:=h.l _ (EI hi)
theorem fm {l:List Int} {i:Nat} (h:i<l.length):l.drop i=l.getD i 0::l.drop (i+1):=by
 rw[E4 h]; simp[Ev,h]
theorem nL {l m:List Int} {i:Nat} (h1:i≤l.length) (h2:i≤m.length) (h3:i=l.length∨i=m.length) (h:aG l m=aG (l.drop i) (m.drop i)):aG l m=if l.length<m.length then -1 else if l.length>m.length then 1 else 0:=by
 rw[h];rcases FP l.length m.length with hl | hl | hl
 ·have:i=l.length:=by omega
  subst this;rw[if_pos hl,F3,fm hl]; rfl
 ·have e1:l.drop i=[]:=FL (by omega);have e2:m.drop i=[]:=FL (by omega);rw[e1,e2,if_neg (by omega),if_neg (by omega)]; rfl
 ·have:i=m.length:=by omega
  subst this;rw[if_neg (by omega),if_pos hl,F3,fm hl]; rfl
theorem rQ (l m:List Int) (hl:l.length≤1000000) (hm:m.length≤1000000):Ct P 178 [.c (iSl l),.c (iSl m)] [.c (eI .i64 (aG l m))]:=by
 refine Ct.go aj aa (N:=46) Tryz.func178 rfl rfl rfl rfl ?_;refine ax aj aa (λi:Nat=>i≤l.length∧i≤m.length∧aG l m=aG (l.drop i) (m.drop i)) (λi=>[(0,.c (iSl l)),(1,.c (iSl m)),(5,.c (nI .i64 i))]) (λ_=>[]) (λi=>l.length-i)
  0 ⟨by omega,by omega,rfl⟩ ⟨rfl,rfl,rfl,HB⟩ HB (λ_:Unit=>aG l m=if l.length<m.length then -1 else if l.length>m.length then 1 else 0) (λ_=>[(0,.c (iSl l)),(1,.c (iSl m))]) (λ_=>[]) (λi hi=>?_) (λ_ he=>?_)
 ·obtain ⟨h1,h2,h3⟩:=hi;refine .intro (by rw[ac]; omega) ?_;rw[ac];refine ae (λh5=>?_) (λh5=>?_)
  ·refine .intro (by rw[ac]; omega) ?_;rw[ac];refine ae (λh6=>?_) (λh6=>?_)
   ·have hd:=h3;rw[fm (l:=l) (i:=i) (by omega),fm (l:=m) (i:=i) (by omega),aG]at hd;refine .intro (by omega) (X1 _ (bl rfl (by omega)) ?_);refine .intro (by omega) (X1 _ (bl rfl (by omega)) ?_);refine .intro rfl ?_;refine ae (λh7=>?_) (λh7=>?_)
    ·have e:bC (l.getD i 0) (m.getD i 0) = -1:=by rw[bC,if_pos h7]
     rw[e,if_pos (by decide)]at hd;exact ⟨HB,r1 (iE hd.symm),HB⟩
    ·refine .intro (by omega) (X1 _ (bl rfl (by omega)) ?_);refine .intro (by omega) (X1 _ (bl rfl (by omega)) ?_);refine .intro rfl ?_;refine ae (λh8=>?_) (λh8=>?_)
     ·have e:bC (l.getD i 0) (m.getD i 0)=1:=by rw[bC,if_neg h7,if_pos h8]
      rw[e,if_pos (by decide)]at hd;exact ⟨HB,r1 (iE hd.symm),HB⟩
     ·have e:bC (l.getD i 0) (m.getD i 0)=0:=by rw[bC,if_neg h7,if_neg h8]
      rw[e,if_neg (by decide)]at hd;refine X1 ((i+1:Nat):Int) (wI1 (by omega)) ?_;exact ⟨i+1,⟨by omega,by omega,hd⟩,by omega,⟨rfl,rfl,rfl,HB⟩,HB⟩
   ·exact ⟨(),nL h1 h2 (.inr (by omega)) h3,⟨rfl,rfl,HB⟩,HB⟩
  ·exact ⟨(),nL h1 h2 (.inl (by omega)) h3,⟨rfl,rfl,HB⟩,HB⟩
 ·refine .intro (by rw[ac]; omega) ?_;refine .intro (by rw[ac]; omega) ?_;rw[ac,ac];refine ae (λh5=>?_) (λh5=>?_)
  ·rw[if_pos (by omega)]at he;exact ⟨HB,r1 (iE he.symm),HB⟩
  ·rw[if_neg (by omega)]at he;refine .intro (by rw[ac]; omega) ?_;refine .intro (by rw[ac]; omega) ?_;rw[ac,ac];refine ae (λh6=>?_) (λh6=>?_)
   ·rw[if_pos (by omega)]at he;exact ⟨HB,r1 (iE he.symm),HB⟩
   ·rw[if_neg (by omega)]at he;exact ⟨HB,r1 (iE he.symm),HB⟩
def ct (g:List Int):List Cnt→Int
 | []=>-1
 | x::l=>if x.1=g then 0 else if ct g l<0 then -1 else ct g l+1
theorem ly (g:List Int):∀ (l:List Cnt) (i:Nat) (h:i<l.length),(∀ (j:Nat) (hj:j<i),l[j].1≠g)→l[i].1=g→ct g l=i
 | [],i,h,_,_=>by simp at h
 | x::l,0,_,_,h=>by simp at h; simp[ct,h]
 | x::l,i+1,hi,h1,h=>by
  have h0:=h1 0 (by omega);have:=ly g l i (by simpa using hi) (λj hj=>by simpa using h1 (j+1) (by omega)) (by simpa using h);simp only[GW]at h0;rw[ct,if_neg h0,this,if_neg (by omega)]; simp
theorem fo (g:List Int):∀ (l:List Cnt),(∀ (j:Nat) (hj:j<l.length),l[j].1≠g)→ct g l = -1
 | [],_=>rfl
 | x::l,h=>by
  have h0:=h 0 (by simp);have:=fo g l (λj hj=>h (j+1) (Nat.succ_lt_succ hj));simp only[GW]at h0;rw[ct,if_neg h0,this,if_pos (by omega)]
theorem yA (l:List Cnt) (g:List Int) (hl:CLim l) (hg:g.length≤1000000):Ct P 162 [.c (cSl l),.c (iSl g)] [.c (eI .i64 (ct g l))]:=by
 have hll:=hl.len;refine Ct.go aj aa (N:=20) Tryz.func162 rfl rfl rfl rfl ?_;refine ax aj aa (λi:Nat=>i≤l.length∧∀ (j:Nat) (hj:j<l.length),j<i→l[j].1≠g) (λi=>[(0,.c (cSl l)),(1,.c (iSl g)),(5,.c (nI .i64 i))]) (λ_=>[]) (λi=>l.length-i)
  0 ⟨by omega,λj _ hj=>by omega⟩ ⟨rfl,rfl,rfl,HB⟩ HB (λ_:Unit=>ct g l = -1) (λ_=>[]) (λ_=>[]) (λi hi=>?_) (λ_ he=>?_)
 ·obtain ⟨h1,h2⟩:=hi;refine .intro (by rw[cRow_len]; omega) ?_;rw[cRow_len];refine ae (λh5=>?_) (λh5=>?_)
  ·refine .intro (by omega) (X1 _ (bq rfl (by omega)) ?_);refine X1 _ (mG _ g (hl.at' (by omega)) hg) ?_;refine ae (λh6=>?_) (λh6=>?_)
   ·exact ⟨HB,r1 (iE (ly g l i (by omega) (λj hj=>h2 j (by omega) hj) h6).symm),HB⟩
   ·refine X1 ((i+1:Nat):Int) (wI1 (by omega)) ?_;refine ⟨i+1,⟨by omega,λj hj hji=>?_⟩,by omega,⟨rfl,rfl,rfl,HB⟩,HB⟩;by_cases e:j=i
    ·subst e; exact h6
    ·exact h2 j hj (by omega)
  ·exact ⟨(),fo g l (λj hj=>h2 j hj (by omega)),HB,HB⟩
 ·exact ⟨HB,r1 (iE he.symm),HB⟩
theorem blC {a b:Bool} (h:a=b):(some (.c (.sc (.bool a))):Option AV)=some (.c (.sc (.bool b))):=by rw[h]
structure WLim (l:List Cnt):Prop where
 len:l.length≤140737488355328
 g:∀ x,x∈l→x.1.length≤140737488355328
structure WWLim (L:List (List Cnt)):Prop where
 len:L.length≤140737488355328
 l:∀ l,l∈L→WLim l
theorem WLim.at' {l:List Cnt} (h:WLim l) {i:Nat} (hi:i<l.length):l[i].1.length≤140737488355328:=h.g _ (EI hi)
theorem WWLim.at' {L:List (List Cnt)} (h:WWLim L) {i:Nat} (hi:i<L.length):WLim L[i]:=h.l _ (EI hi)
def cU (n:Nat):Option (List Int)→List Cnt→Int
 | _,[]=>0
 | p,x::l=>if (x.1.length:Int)≠n+1 then 1 else if x.2<1 then 8 else if (match p with | none=>false | some q=>decide (aG q x.1≥0))=true then 9 else cU n (some x.1) l
def cY:Nat→List (List Cnt)→Int
 | _,[]=>0
 | n,l::ls=>if cU n none l≠0 then cU n none l else cY (n+1) ls
def fD (L:List (List Cnt)):Int:=if (L.length:Int)=0∨(L.length:Int)>8 then 1 else cY 0 L
def kx (l:List Cnt):Nat→Option (List Int)
 | 0=>none
 | i+1=>(l[i]?).map (·.1)
theorem iu {n:Nat} {p:Option (List Int)} {x:Cnt} {l:List Cnt}:cU n p (x::l)=if (x.1.length:Int)≠n+1 then 1 else if x.2<1 then 8 else if (match p with | none=>false | some q=>decide (aG q x.1≥0))=true then 9 else cU n (some x.1) l:=by cases p<;>rfl
theorem nM {n:Nat} {p:Option (List Int)}:cU n p []=0:=by cases p<;>rfl
theorem vU {n:Nat} {l:List Cnt} {i:Nat} (h:i<l.length):cU n (kx l i) (l.drop i)=if (l[i].1.length:Int)≠n+1 then 1 else if l[i].2<1 then 8 else if (match kx l i with | none=>false | some q=>decide (aG q l[i].1≥0))=true then 9 else cU n (kx l (i+1)) (l.drop (i+1)):=by
 have e:kx l (i+1)=some l[i].1:=by simp[kx,h]
 rw[E4 h,iu,e]
theorem nN {n:Nat} {L:List (List Cnt)} (h:n<L.length) {v:Int} (hv:cU n none L[n]=v) (h0:v≠0):cY n (L.drop n)=v:=by
 rw[E4 h,cY,hv,if_pos h0]
theorem ky {n:Nat} {L:List (List Cnt)} (h:n<L.length) (hv:cU n none L[n]=0):cY n (L.drop n)=cY (n+1) (L.drop (n+1)):=by
 rw[E4 h,cY,hv,if_neg (by simp)]
theorem vV (L:List (List Cnt)) (hL:CCLim L):Ct P 127 [.c (cK L)] [.c (eI .i64 (fD L))]:=by
 have hll:=hL.len;refine Ct.go aj aa (N:=57) Tryz.func127 rfl rfl rfl rfl ?_;refine .intro (by rw[ar]; omega) ?_;rw[ar];refine aT (λh0=>?_) (λh0=>?_)
 ·exact ⟨HB,r1 (iE (by rw[fD,if_pos (.inl h0)])),HB⟩
 refine .intro (by rw[ar]; omega) ?_;rw[ar];refine ae (λh1=>?_) (λh1=>?_)
 ·exact ⟨HB,r1 (iE (by rw[fD,if_pos (.inr h1)])),HB⟩
 have hw:fD L=cY 0 L:=by rw[fD,if_neg (by omega)]
 rw[hw];refine .intro (by rw[ar]; omega) ?_;rw[ar];refine ax aj aa (λn:Nat=>n≤L.length∧cY 0 L=cY n (L.drop n)) (λn=>[(15,.c (cK L)),(16,.c (nI .i64 L.length)),(17,.c (nI .i64 n))]) (λ_=>[]) (λn=>L.length-n)
  0 ⟨by omega,rfl⟩ ⟨rfl,rfl,rfl,HB⟩ HB (λ_:Unit=>cY 0 L=0) (λ_=>[]) (λ_=>[]) (λn hi=>?_) (λ_ he=>?_)
 ·obtain ⟨h2,h3⟩:=hi;refine ae (λh4=>?_) (λh4=>?_)
  ·have hn:n<L.length:=by omega
   have hl:=hL.at' hn;have hlen:=hl.len;have hget:=bK (l:=L) (i:=(n:Int)) (n:=n) rfl hn;have hof:=λv=>nN (n:=n) (L:=L) hn (v:=v)
   have hnext:=ky (n:=n) (L:=L) hn;generalize L[n]=l at *
   refine .intro (by omega) (X1 _ hget ?_);refine .intro (by rw[cRow_len]; omega) ?_;rw[cRow_len];refine b8 aj aa (λi:Nat=>i≤l.length∧cU n none l=cU n (kx l i) (l.drop i)) (λi=>[(3,.c (nI .i64 n)),(4,.c (cSl l)),(15,.c (cK L)),(16,.c (nI .i64 L.length)),(17,.c (nI .i64 n)),(22,.c (cSl l)),(23,.c (nI .i64 l.length)),(24,.c (nI .i64 i))]) (λ_=>[]) (λi=>l.length-i)
    0 ⟨by omega,rfl⟩ ⟨rfl,rfl,rfl,rfl,rfl,rfl,rfl,rfl,HB⟩ HB (λi hi=>?_)
   ·obtain ⟨i1,i2⟩:=hi;refine ae (λh5=>?_) (λh5=>?_)
    ·have hi:i<l.length:=by omega
     have hxl:=hl.at' hi;have hx:=bq (l:=l) (i:=(i:Int)) (n:=i) rfl hi;rw[vU hi]at i2;refine .intro (by omega) (X1 _ hx ?_);refine .intro (by rw[ac]; omega) ?_;rw[ac];refine X1 ((n+1:Nat):Int) (wI (by simp) (by omega) (by omega)) ?_;refine ez (λh6=>?_) (λh6=>?_)
     ·rw[if_pos (by simpa using h6)]at i2;exact ⟨HB,r1 (iE (by rw[h3,hof 1 i2 (by decide)])),HB⟩
     ·rw[if_neg (by simpa using h6)]at i2;refine ae (λh7=>?_) (λh7=>?_)
      ·rw[if_pos h7]at i2;exact ⟨HB,r1 (iE (by rw[h3,hof 8 i2 (by decide)])),HB⟩
      ·rw[if_neg h7]at i2;refine ae (λh8=>?_) (λh8=>?_)
       ·obtain ⟨j,rfl⟩:∃ j,i=j+1:=⟨i-1,by omega⟩;have hp:kx l (j+1)=some l[j].1:=by simp[kx,(by omega:j<l.length)]
        rw[hp]at i2;refine X1 ((j:Nat):Int) (wI (by omega) (by omega) (by omega)) ?_;refine .intro (by omega) (X1 _ (bq rfl (by omega)) ?_);refine X1 _ (fU l[j].1 l[j+1].1 (hl.at' (by omega)) hxl) ?_;refine .intro rfl ?_;refine ae (λh9=>?_) (λh9=>?_)
        ·rw[if_pos (decide_eq_true h9)]at i2;exact ⟨HB,r1 (iE (by rw[h3,hof 9 i2 (by decide)])),HB⟩
        ·rw[if_neg (by simpa using h9)]at i2;refine X1 ((j+1+1:Nat):Int) (wI (by simp) (by omega) (by omega)) ?_;exact ⟨j+1+1,⟨by omega,i2⟩,by omega,⟨rfl,rfl,rfl,rfl,rfl,rfl,rfl,rfl,HB⟩,HB⟩
       ·have e0:i=0:=by omega
        subst e0;rw[if_neg (by simp[kx])]at i2;refine .intro rfl ?_;refine X1 ((0+1:Nat):Int) (wI (by simp) (by omega) (by omega)) ?_;exact ⟨0+1,⟨by omega,i2⟩,by omega,⟨rfl,rfl,rfl,rfl,rfl,rfl,rfl,rfl,HB⟩,HB⟩
    ·have e:i=l.length:=by omega
     subst e;rw[F3,nM]at i2;refine X1 ((n+1:Nat):Int) (wI (by simp) (by omega) (by omega)) ?_;exact ⟨n+1,⟨by omega,by rw[h3,hnext i2]⟩,by omega,⟨rfl,rfl,rfl,HB⟩,HB⟩
  ·have e:n=L.length:=by omega
   subst e;rw[F3]at h3;exact ⟨(),h3,HB,HB⟩
 ·rw[he];exact ⟨HB,r1 rfl,HB⟩
theorem iRow_sub {l:List Int} {a b:Nat}:((aI l).drop a).take b=aI ((l.drop a).take b):=by simp[aI,List.map_take,List.map_drop]
def ahead (l:List Cnt) (g:List Int):Nat:=(l.filter λx=>decide (x.1.length=g.length+1)&&decide (x.1.drop 1=g)).length
theorem yB (l:List Cnt) (g:List Int) (hl:CLim l) (hg:g.length≤1000000):Ct P 141 [.c (cSl l),.c (iSl g)] [.c (nI .i64 (ahead l g))]:=by
 have hll:=hl.len;refine Ct.go aj aa (N:=36) Tryz.func141 rfl rfl rfl rfl ?_;refine ax aj aa (λi:Nat=>i≤l.length) (λi=>[(0,.c (cSl l)),(1,.c (iSl g)),(5,.c (nI .i64 (ahead (l.take i) g))),(6,.c (nI .i64 i))]) (λ_=>[]) (λi=>l.length-i)
  0 (by omega) ⟨rfl,rfl,rfl,rfl,HB⟩ HB (λ_:Unit=>True) (λ_=>[(5,.c (nI .i64 (ahead l g)))]) (λ_=>[]) (λi hi=>?_) (λ_ _=>?_)
 ·refine .intro (by rw[cRow_len]; omega) ?_;rw[cRow_len];refine ae (λh5=>?_) (λh5=>?_)
  ·have hi':i<l.length:=by omega
   have hxl:=hl.at' hi';have hx:=bq (l:=l) (i:=(i:Int)) (n:=i) rfl hi';have hs:ahead (l.take (i+1)) g=ahead (l.take i) g+(if l[i].1.length=g.length+1∧l[i].1.drop 1=g then 1 else 0):=by
    unfold ahead;rw[EB hi',FH,Ey];congr 1;by_cases h1:l[i].1.length=g.length+1
    ·by_cases h2:l[i].1.drop 1=g
     ·rw[Fi (by rw[decide_eq_true h1,decide_eq_true h2]; rfl),if_pos ⟨h1,h2⟩]; rfl
     ·rw[Fa (by rw[decide_eq_true h1,decide_eq_false h2]; simp),if_neg (λh=>h2 h.2)]; rfl
    ·rw[Fa (by rw[decide_eq_false h1]; simp),if_neg (λh=>h1 h.1)]; rfl
   have ha:ahead (l.take i) g≤i:=by
    unfold ahead;refine EA (Ft _ _) ?_;rw[EJ]; omega
   generalize l[i]=x at *
   refine .intro (by omega) (X1 _ hx ?_);refine .intro (by rw[ac]; omega) ?_;refine .intro (by rw[ac]; omega) ?_;rw[ac,ac];refine X1 ((g.length+1:Nat):Int) (wI (by simp) (by omega) (by omega)) ?_;refine aT (λh6=>?_) (λh6=>?_)
   ·have h6':x.1.length=g.length+1:=by omega
    refine .intro (by omega) (X1 _ hx ?_);refine ⟨1,x.1.length,by simp,by simp[ac],by omega,by rw[ac]; omega,?_⟩;rw[iRow_sub,E3 (show (x.1.drop 1).length≤x.1.length-1 by rw[E8]; exact Ew _)];refine X1 _ (mG _ g (by rw[E8]; omega) hg) ?_;refine ae (λh7=>?_) (λh7=>?_)
    ·rw[if_pos ⟨h6',h7⟩]at hs;refine X1 ((ahead (l.take i) g+1:Nat):Int) (wI (by simp) (by omega) (by omega)) ?_;refine X1 ((i+1:Nat):Int) (wI1 (by omega)) ?_;exact ⟨i+1,by omega,by omega,⟨rfl,rfl,by rw[hs]; rfl,rfl,HB⟩,HB⟩
    ·rw[if_neg (λh=>h7 h.2)]at hs;refine X1 ((i+1:Nat):Int) (wI1 (by omega)) ?_;exact ⟨i+1,by omega,by omega,⟨rfl,rfl,by rw[hs]; rfl,rfl,HB⟩,HB⟩
   ·rw[if_neg (λh=>h6 (by omega))]at hs;refine X1 ((i+1:Nat):Int) (wI1 (by omega)) ?_;exact ⟨i+1,by omega,by omega,⟨rfl,rfl,by rw[hs]; rfl,rfl,HB⟩,HB⟩
  ·have e:i=l.length:=by omega
   subst e;rw[Fd];exact ⟨(),HB,⟨rfl,HB⟩,HB⟩
 ·exact ⟨HB,r1 rfl,HB⟩
def cL (L:List (List Cnt)) (n:Nat) (x:Cnt):Cnt:=if n+1<L.length∧x.1.getD 0 0≠1 then (x.1,(ahead (L.getD (n+1) []) x.1:Int)) else x
def ao (L:List (List Cnt)):List (List Cnt):=(List.range L.length).map λn=>(L.getD n []).map (cL L n)
structure CCForm (L:List (List Cnt)):Prop where
 lim:CCLim L
 form:∀ (n:Nat) (h:n<L.length) (i:Nat) (hi:i<L[n].length),L[n][i].1.length=n+1
theorem br {l:List Cnt}:aA (cj l):=by
 intro el h;obtain ⟨x,_,rfl⟩:=Fb.1 h;rfl
theorem kz {l:List (List Cnt)}:aA (a8 l):=by
 intro el h;obtain ⟨x,_,rfl⟩:=Fb.1 h;rfl
theorem eP {l m:List Cnt}:cj l++cj m=cj (l++m):=by simp[cj]
theorem vW {l m:List (List Cnt)}:a8 l++a8 m=a8 (l++m):=by simp[a8]
theorem aw {el:List PC} (h:closedL el=true):aA [el]:=by
 intro e he;simp only[Fk]at he;subst he; exact h
theorem tQ (L:List (List Cnt)) (hL:CCForm L) (hl8:L.length≤1000):Ct P 92 [.c (cK L)] [.c (cK (ao L))]:=by
 refine Ct.go aj aa (N:=60) Tryz.func92 rfl rfl rfl rfl ?_;refine jo (r:=50) (t:=3) (sz:=1) rfl rfl ?_;refine ax aj aa (λn:Nat=>n≤L.length) (λn=>[(0,.c (cK L)),(3,.c (.ow 50 1 n)),(4,.c (nI .i64 n))]) (λn=>[(50,.row 1 (a8 ((List.range n).map λn=>(L.getD n []).map (cL L n))))]) (λn=>L.length-n)
  0 (by omega) ⟨rfl,rfl,rfl,HB⟩ ⟨rfl,HB⟩ (λ_:Unit=>True) (λ_=>[(3,.c (.ow 50 1 L.length))]) (λ_=>[(50,.row 1 (a8 (ao L)))]) (λn hi=>?_) (λ_ he=>?_)
 ·refine .intro (by rw[ar]; omega) ?_;rw[ar];refine ae (λh4=>?_) (λh4=>?_)
  ·have hn:n<L.length:=by omega
   have hl:=hL.lim.at' hn;have hlen:=hl.len;have hget:=bK (l:=L) (i:=(n:Int)) (n:=n) rfl hn;have hform:=hL.form n hn;have hgd:L.getD n []=L[n]:=by simp[Ev,hn]
   refine jo (r:=51) (t:=5) (sz:=2) rfl rfl ?_;refine uI aj aa (λi:Nat=>i≤L[n].length) (λi=>[(0,.c (cK L)),(3,.c (.ow 50 1 n)),(4,.c (nI .i64 n)),(5,.c (.ow 51 2 i)),(6,.c (nI .i64 i))])
    (λi=>[(50,.row 1 (a8 ((List.range n).map λn=>(L.getD n []).map (cL L n)))),(51,.row 2 (cj ((L[n].take i).map (cL L n))))]) (λi=>L[n].length-i)
    0 (by omega) ⟨rfl,rfl,rfl,rfl,rfl,HB⟩ ⟨rfl,rfl,HB⟩ (λ_:Unit=>True) (λ_=>[(0,.c (cK L)),(3,.c (.ow 50 1 n)),(4,.c (nI .i64 n)),(5,.c (.ow 51 2 L[n].length))])
    (λ_=>[(50,.row 1 (a8 ((List.range n).map λn=>(L.getD n []).map (cL L n)))),(51,.row 2 (cj (L[n].map (cL L n))))]) (λi hi=>?_) (λ_ _=>?_)
   ·refine .intro (by omega) (X1 _ hget ?_);refine .intro (by rw[cRow_len]; omega) ?_;rw[cRow_len];refine ae (λh5=>?_) (λh5=>?_)
    ·have hi':i<L[n].length:=by omega
     have hxl:=hl.at' hi';have hxf:=hform i hi';have hx:=bq (l:=L[n]) (i:=(i:Int)) (n:=i) rfl hi';have e0:(cj ((L[n].take i).map (cL L n))).length=i:=by rw[cRow_len,Fl,EJ]; omega
     have e1:(L[n].take (i+1)).map (cL L n)=(L[n].take i).map (cL L n)++[cL L n L[n][i]]:=by
      rw[EB hi',FG]; rfl
     generalize L[n][i]=x at *
     refine .intro (by omega) (X1 _ hget ?_);refine .intro (by omega) (X1 _ hx ?_);refine .intro (by rw[ar]; omega) ?_;rw[ar];refine X1 ((L.length:Int)-1) (wI rfl (by omega) (by omega)) ?_;refine ae (λh6=>?_) (λh6=>?_)
     ·refine .intro (by omega) (X1 _ (bl (n:=0) rfl (by omega)) ?_);refine ez (λh7=>?_) (λh7=>?_)
      ·have hc:cL L n x=(x.1,(ahead L[n+1] x.1:Int)):=by
        have:L.getD (n+1) []=L[n+1]:=by simp[Ev,(by omega:n+1<L.length)]
        rw[cL,if_pos ⟨by omega,h7⟩,this]
       rw[hc]at e1;refine X1 ((n+1:Nat):Int) (wI (by simp) (by omega) (by omega)) ?_;refine .intro (by omega) (X1 _ (bK rfl (by omega)) ?_);refine X1 _ (yB L[n+1] x.1 (hL.lim.at' (by omega)) hxl) ?_;refine .intro rfl ?_;refine ⟨e0.symm,by rw[e0]; show (i+1+768)*32≤_; omega,by rw[e0]; show i+1≤_; omega,br,aw rfl,?_⟩;refine X1 ((i+1:Nat):Int) (wI1 (by omega)) ?_;exact ⟨i+1,by omega,by omega,⟨rfl,rfl,rfl,owE (by rw[Ey,e0]; rfl),rfl,HB⟩,⟨rfl,aB (by rw[e1,←eP]; rfl),HB⟩⟩
      ·have hc:cL L n x=x:=by rw[cL,if_neg (λh=>h.2 h7)]
       rw[hc]at e1;refine ⟨e0.symm,by rw[e0]; show (i+1+768)*32≤_; omega,by rw[e0]; show i+1≤_; omega,br,aw rfl,?_⟩;refine X1 ((i+1:Nat):Int) (wI1 (by omega)) ?_;exact ⟨i+1,by omega,by omega,⟨rfl,rfl,rfl,owE (by rw[Ey,e0]; rfl),rfl,HB⟩,⟨rfl,aB (by rw[e1,←eP]; rfl),HB⟩⟩
     ·have hc:cL L n x=x:=by rw[cL,if_neg (λh=>h6 (by omega))]
      rw[hc]at e1;refine ⟨e0.symm,by rw[e0]; show (i+1+768)*32≤_; omega,by rw[e0]; show i+1≤_; omega,br,aw rfl,?_⟩;refine X1 ((i+1:Nat):Int) (wI1 (by omega)) ?_;exact ⟨i+1,by omega,by omega,⟨rfl,rfl,rfl,owE (by rw[Ey,e0]; rfl),rfl,HB⟩,⟨rfl,aB (by rw[e1,←eP]; rfl),HB⟩⟩
    ·have e:i=L[n].length:=by omega
     subst e;exact ⟨(),HB,⟨rfl,rfl,rfl,rfl,HB⟩,⟨rfl,aB (by rw[Fd]),HB⟩⟩
   ·refine Ax aj aa [51] ?_;have e0:(a8 ((List.range n).map λn=>(L.getD n []).map (cL L n))).length=n:=by rw[ar,Fl,List.length_range]
    have e1:(List.range (n+1)).map (λn=>(L.getD n []).map (cL L n))=(List.range n).map (λn=>(L.getD n []).map (cL L n))++[L[n].map (cL L n)]:=by
     rw[List.range_succ,FG,←hgd]; rfl
    refine ⟨e0.symm,by rw[e0]; show (n+1+768)*24≤_; omega,by rw[e0]; show n+1≤_; omega,kz,aw rfl,?_⟩;refine X1 ((n+1:Nat):Int) (wI (by simp) (by omega) (by omega)) ?_;exact ⟨n+1,by omega,by omega,⟨rfl,owE (by rw[Ey,e0]; rfl),rfl,HB⟩,⟨aB (by rw[e1,←vW]; rfl),HB⟩⟩
  ·have e:n=L.length:=by omega
   subst e;exact ⟨(),HB,⟨rfl,HB⟩,⟨rfl,HB⟩⟩
 ·exact ⟨HB,r1 rfl,HB⟩
end
end Go.Proofs.YtgceikecdedfcaaGreat.Pv
