/- Parts of a proof, joined: PvTy Da Cc Cf Fj Hr Cn Co Cp. -/
import Derived.Test.YtgceikecdedfcaaGreatLkF
import Derived.Test.YtgceikecdedfcaaGreatChecked
import Derived.KernelRfl
import Derived.Shelf.Spec.BitsCarry
import Derived.Test.YtgceikecdedfcaaGreatRows
import Derived.ProofKit
import Derived.OpenShut
import Derived.Carry
namespace Go.Proofs.YtgceikecdedfcaaGreat.Pv
open Go
section
set_option maxRecDepth 100000
def ty1 : TD := ⟨.oth, 1, 8, false, [.nilFunc]⟩
theorem B2 : ty1.ok Tryz.prog 1 := ⟨⟨by kernel_rfl, by kernel_rfl⟩, trivial⟩
def ty2 : TD := ⟨.int .i64, 1, 8, false, [.int .i64 0]⟩
theorem B3 : ty2.ok Tryz.prog 2 := ⟨⟨by kernel_rfl, by kernel_rfl⟩, (show Tryz.prog.underlying 2 = some (.int .i64) by kernel_rfl)⟩
def ty3 : TD := ⟨.int .i64, 1, 8, false, [.int .i64 0]⟩
theorem B4 : ty3.ok Tryz.prog 3 := ⟨⟨by kernel_rfl, by kernel_rfl⟩, (show Tryz.prog.underlying 3 = some (.int .i64) by kernel_rfl)⟩
def ty4 : TD := ⟨.bool, 1, 1, false, [.bool false]⟩
theorem B5 : ty4.ok Tryz.prog 4 := ⟨⟨by kernel_rfl, by kernel_rfl⟩, (show Tryz.prog.underlying 4 = some .bool by kernel_rfl)⟩
def ty5 : TD := ⟨.int .u8, 1, 1, false, [.int .u8 0]⟩
theorem B6 : ty5.ok Tryz.prog 5 := ⟨⟨by kernel_rfl, by kernel_rfl⟩, (show Tryz.prog.underlying 5 = some (.int .u8) by kernel_rfl)⟩
def ty6 : TD := ⟨.int .u8, 1, 1, false, [.int .u8 0]⟩
theorem B7 : ty6.ok Tryz.prog 6 := ⟨⟨by kernel_rfl, by kernel_rfl⟩, (show Tryz.prog.underlying 6 = some (.int .u8) by kernel_rfl)⟩
def ty7 : TD := ⟨.st [(0, 2, 1), (1, 3, 1), (2, 4, 1), (3, 6, 1)], 4, 24, true, [.int .i64 0, .int .i64 0, .bool false, .int .u8 0]⟩
theorem B8 : ty7.ok Tryz.prog 7 := ⟨⟨by kernel_rfl, by kernel_rfl⟩, ⟨fun f off ft n h => by
  match f, h with
  | 0, h => cases h; exact ⟨by kernel_rfl⟩
  | 1, h => cases h; exact ⟨by kernel_rfl⟩
  | 2, h => cases h; exact ⟨by kernel_rfl⟩
  | 3, h => cases h; exact ⟨by kernel_rfl⟩
  | f + 4, h => simp at h, ⟨by kernel_rfl⟩⟩⟩
def ty8 : TD := ⟨.st [(0, 2, 1), (1, 3, 1), (2, 4, 1), (3, 6, 1)], 4, 24, true, [.int .i64 0, .int .i64 0, .bool false, .int .u8 0]⟩
theorem B9 : ty8.ok Tryz.prog 8 := ⟨⟨by kernel_rfl, by kernel_rfl⟩, ⟨fun f off ft n h => by
  match f, h with
  | 0, h => cases h; exact ⟨by kernel_rfl⟩
  | 1, h => cases h; exact ⟨by kernel_rfl⟩
  | 2, h => cases h; exact ⟨by kernel_rfl⟩
  | 3, h => cases h; exact ⟨by kernel_rfl⟩
  | f + 4, h => simp at h, ⟨by kernel_rfl⟩⟩⟩
def ty9 : TD := ⟨.str, 1, 16, false, [.string .empty]⟩
theorem Ca : ty9.ok Tryz.prog 9 := ⟨⟨by kernel_rfl, by kernel_rfl⟩, (show Tryz.prog.underlying 9 = some .string by kernel_rfl)⟩
def ty10 : TD := ⟨.str, 1, 16, false, [.string .empty]⟩
theorem zZ : ty10.ok Tryz.prog 10 := ⟨⟨by kernel_rfl, by kernel_rfl⟩, (show Tryz.prog.underlying 10 = some .string by kernel_rfl)⟩
def ty11 : TD := ⟨.str, 1, 16, false, [.string .empty]⟩
theorem z0 : ty11.ok Tryz.prog 11 := ⟨⟨by kernel_rfl, by kernel_rfl⟩, (show Tryz.prog.underlying 11 = some .string by kernel_rfl)⟩
def ty16 : TD := ⟨.ptr 270, 1, 8, false, [.pointer none]⟩
theorem z6 : ty16.ok Tryz.prog 16 := ⟨⟨by kernel_rfl, by kernel_rfl⟩, (show Tryz.prog.underlying 16 = some (.pointer 270) by kernel_rfl)⟩
def ty22 : TD := ⟨.sl 3, 1, 24, false, [.slice none 0 0]⟩
theorem z7 : ty22.ok Tryz.prog 22 := ⟨⟨by kernel_rfl, by kernel_rfl⟩, ⟨by kernel_rfl⟩⟩
def ty26 : TD := ⟨.ptr 133, 1, 8, false, [.pointer none]⟩
theorem z8 : ty26.ok Tryz.prog 26 := ⟨⟨by kernel_rfl, by kernel_rfl⟩, (show Tryz.prog.underlying 26 = some (.pointer 133) by kernel_rfl)⟩
def ty27 : TD := ⟨.sl 134, 1, 24, false, [.slice none 0 0]⟩
theorem z9 : ty27.ok Tryz.prog 27 := ⟨⟨by kernel_rfl, by kernel_rfl⟩, ⟨by kernel_rfl⟩⟩
def ty28 : TD := ⟨.sl 150, 1, 24, false, [.slice none 0 0]⟩
theorem Aa : ty28.ok Tryz.prog 28 := ⟨⟨by kernel_rfl, by kernel_rfl⟩, ⟨by kernel_rfl⟩⟩
def ty29 : TD := ⟨.st [(0, 27, 1), (1, 3, 1), (2, 28, 1)], 3, 56, true, [.slice none 0 0, .int .i64 0, .slice none 0 0]⟩
theorem Ab : ty29.ok Tryz.prog 29 := ⟨⟨by kernel_rfl, by kernel_rfl⟩, ⟨fun f off ft n h => by
  match f, h with
  | 0, h => cases h; exact ⟨by kernel_rfl⟩
  | 1, h => cases h; exact ⟨by kernel_rfl⟩
  | 2, h => cases h; exact ⟨by kernel_rfl⟩
  | f + 3, h => simp at h, ⟨by kernel_rfl⟩⟩⟩
def ty30 : TD := ⟨.st [(0, 27, 1), (1, 3, 1), (2, 28, 1)], 3, 56, true, [.slice none 0 0, .int .i64 0, .slice none 0 0]⟩
theorem Ac : ty30.ok Tryz.prog 30 := ⟨⟨by kernel_rfl, by kernel_rfl⟩, ⟨fun f off ft n h => by
  match f, h with
  | 0, h => cases h; exact ⟨by kernel_rfl⟩
  | 1, h => cases h; exact ⟨by kernel_rfl⟩
  | 2, h => cases h; exact ⟨by kernel_rfl⟩
  | f + 3, h => simp at h, ⟨by kernel_rfl⟩⟩⟩
def ty32 : TD := ⟨.oth, 1, 8, false, [.nilFunc]⟩
theorem Ad : ty32.ok Tryz.prog 32 := ⟨⟨by kernel_rfl, by kernel_rfl⟩, trivial⟩
def ty33 : TD := ⟨.ptr 97, 1, 8, false, [.pointer none]⟩
theorem Ae : ty33.ok Tryz.prog 33 := ⟨⟨by kernel_rfl, by kernel_rfl⟩, (show Tryz.prog.underlying 33 = some (.pointer 97) by kernel_rfl)⟩
def ty34 : TD := ⟨.int .i64, 1, 8, false, [.int .i64 0]⟩
theorem Af : ty34.ok Tryz.prog 34 := ⟨⟨by kernel_rfl, by kernel_rfl⟩, (show Tryz.prog.underlying 34 = some (.int .i64) by kernel_rfl)⟩
def ty38 : TD := ⟨.oth, 1, 8, false, [.nilFunc]⟩
theorem Ag : ty38.ok Tryz.prog 38 := ⟨⟨by kernel_rfl, by kernel_rfl⟩, trivial⟩
def ty40 : TD := ⟨.int .u64, 1, 8, false, [.int .u64 0]⟩
theorem Ah : ty40.ok Tryz.prog 40 := ⟨⟨by kernel_rfl, by kernel_rfl⟩, (show Tryz.prog.underlying 40 = some (.int .u64) by kernel_rfl)⟩
def ty47 : TD := ⟨.oth, 1, 8, false, [.nilFunc]⟩
theorem Ai : ty47.ok Tryz.prog 47 := ⟨⟨by kernel_rfl, by kernel_rfl⟩, trivial⟩
def ty50 : TD := ⟨.st [(0, 22, 1), (1, 22, 1)], 2, 48, true, [.slice none 0 0, .slice none 0 0]⟩
theorem Aj : ty50.ok Tryz.prog 50 := ⟨⟨by kernel_rfl, by kernel_rfl⟩, ⟨fun f off ft n h => by
  match f, h with
  | 0, h => cases h; exact ⟨by kernel_rfl⟩
  | 1, h => cases h; exact ⟨by kernel_rfl⟩
  | f + 2, h => simp at h, ⟨by kernel_rfl⟩⟩⟩
def ty51 : TD := ⟨.st [(0, 22, 1), (1, 22, 1)], 2, 48, true, [.slice none 0 0, .slice none 0 0]⟩
theorem Ak : ty51.ok Tryz.prog 51 := ⟨⟨by kernel_rfl, by kernel_rfl⟩, ⟨fun f off ft n h => by
  match f, h with
  | 0, h => cases h; exact ⟨by kernel_rfl⟩
  | 1, h => cases h; exact ⟨by kernel_rfl⟩
  | f + 2, h => simp at h, ⟨by kernel_rfl⟩⟩⟩
def ty58 : TD := ⟨.sl 40, 1, 24, false, [.slice none 0 0]⟩
theorem Al : ty58.ok Tryz.prog 58 := ⟨⟨by kernel_rfl, by kernel_rfl⟩, ⟨by kernel_rfl⟩⟩
def ty60 : TD := ⟨.oth, 1, 8, false, [.nilFunc]⟩
theorem Am : ty60.ok Tryz.prog 60 := ⟨⟨by kernel_rfl, by kernel_rfl⟩, trivial⟩
def ty62 : TD := ⟨.int .u16, 1, 2, false, [.int .u16 0]⟩
theorem An : ty62.ok Tryz.prog 62 := ⟨⟨by kernel_rfl, by kernel_rfl⟩, (show Tryz.prog.underlying 62 = some (.int .u16) by kernel_rfl)⟩
def ty64 : TD := ⟨.st [(0, 58, 1)], 1, 24, true, [.slice none 0 0]⟩
theorem Ao : ty64.ok Tryz.prog 64 := ⟨⟨by kernel_rfl, by kernel_rfl⟩, ⟨fun f off ft n h => by
  match f, h with
  | 0, h => cases h; exact ⟨by kernel_rfl⟩
  | f + 1, h => simp at h, ⟨by kernel_rfl⟩⟩⟩
def ty65 : TD := ⟨.st [(0, 58, 1)], 1, 24, true, [.slice none 0 0]⟩
theorem Ap : ty65.ok Tryz.prog 65 := ⟨⟨by kernel_rfl, by kernel_rfl⟩, ⟨fun f off ft n h => by
  match f, h with
  | 0, h => cases h; exact ⟨by kernel_rfl⟩
  | f + 1, h => simp at h, ⟨by kernel_rfl⟩⟩⟩
def ty66 : TD := ⟨.st [(0, 65, 1), (1, 65, 1)], 2, 48, true, [.slice none 0 0, .slice none 0 0]⟩
theorem Aq : ty66.ok Tryz.prog 66 := ⟨⟨by kernel_rfl, by kernel_rfl⟩, ⟨fun f off ft n h => by
  match f, h with
  | 0, h => cases h; exact ⟨by kernel_rfl⟩
  | 1, h => cases h; exact ⟨by kernel_rfl⟩
  | f + 2, h => simp at h, ⟨by kernel_rfl⟩⟩⟩
def ty67 : TD := ⟨.st [(0, 65, 1), (1, 65, 1)], 2, 48, true, [.slice none 0 0, .slice none 0 0]⟩
theorem Ar : ty67.ok Tryz.prog 67 := ⟨⟨by kernel_rfl, by kernel_rfl⟩, ⟨fun f off ft n h => by
  match f, h with
  | 0, h => cases h; exact ⟨by kernel_rfl⟩
  | 1, h => cases h; exact ⟨by kernel_rfl⟩
  | f + 2, h => simp at h, ⟨by kernel_rfl⟩⟩⟩
def ty83 : TD := ⟨.sl 9, 1, 24, false, [.slice none 0 0]⟩
theorem As : ty83.ok Tryz.prog 83 := ⟨⟨by kernel_rfl, by kernel_rfl⟩, ⟨by kernel_rfl⟩⟩
def ty86 : TD := ⟨.sl 22, 1, 24, false, [.slice none 0 0]⟩
theorem At : ty86.ok Tryz.prog 86 := ⟨⟨by kernel_rfl, by kernel_rfl⟩, ⟨by kernel_rfl⟩⟩
def ty91 : TD := ⟨.st [(0, 67, 2), (2, 67, 2)], 4, 96, true, [.slice none 0 0, .slice none 0 0, .slice none 0 0, .slice none 0 0]⟩
theorem Au : ty91.ok Tryz.prog 91 := ⟨⟨by kernel_rfl, by kernel_rfl⟩, ⟨fun f off ft n h => by
  match f, h with
  | 0, h => cases h; exact ⟨by kernel_rfl⟩
  | 1, h => cases h; exact ⟨by kernel_rfl⟩
  | f + 2, h => simp at h, ⟨by kernel_rfl⟩⟩⟩
def ty92 : TD := ⟨.st [(0, 67, 2), (2, 67, 2)], 4, 96, true, [.slice none 0 0, .slice none 0 0, .slice none 0 0, .slice none 0 0]⟩
theorem Av : ty92.ok Tryz.prog 92 := ⟨⟨by kernel_rfl, by kernel_rfl⟩, ⟨fun f off ft n h => by
  match f, h with
  | 0, h => cases h; exact ⟨by kernel_rfl⟩
  | 1, h => cases h; exact ⟨by kernel_rfl⟩
  | f + 2, h => simp at h, ⟨by kernel_rfl⟩⟩⟩
def ty96 : TD := ⟨.st [(0, 58, 1), (1, 3, 1)], 2, 32, true, [.slice none 0 0, .int .i64 0]⟩
theorem Aw : ty96.ok Tryz.prog 96 := ⟨⟨by kernel_rfl, by kernel_rfl⟩, ⟨fun f off ft n h => by
  match f, h with
  | 0, h => cases h; exact ⟨by kernel_rfl⟩
  | 1, h => cases h; exact ⟨by kernel_rfl⟩
  | f + 2, h => simp at h, ⟨by kernel_rfl⟩⟩⟩
def ty97 : TD := ⟨.st [(0, 58, 1), (1, 3, 1)], 2, 32, true, [.slice none 0 0, .int .i64 0]⟩
theorem Ax : ty97.ok Tryz.prog 97 := ⟨⟨by kernel_rfl, by kernel_rfl⟩, ⟨fun f off ft n h => by
  match f, h with
  | 0, h => cases h; exact ⟨by kernel_rfl⟩
  | 1, h => cases h; exact ⟨by kernel_rfl⟩
  | f + 2, h => simp at h, ⟨by kernel_rfl⟩⟩⟩
def ty98 : TD := ⟨.int .u64, 1, 8, false, [.int .u64 0]⟩
theorem Ay : ty98.ok Tryz.prog 98 := ⟨⟨by kernel_rfl, by kernel_rfl⟩, (show Tryz.prog.underlying 98 = some (.int .u64) by kernel_rfl)⟩
def ty107 : TD := ⟨.oth, 1, 8, false, [.nilFunc]⟩
theorem xh : ty107.ok Tryz.prog 107 := ⟨⟨by kernel_rfl, by kernel_rfl⟩, trivial⟩
def ty110 : TD := ⟨.oth, 1, 8, false, [.nilFunc]⟩
theorem xi : ty110.ok Tryz.prog 110 := ⟨⟨by kernel_rfl, by kernel_rfl⟩, trivial⟩
def ty115 : TD := ⟨.oth, 1, 8, false, [.nilFunc]⟩
theorem xj : ty115.ok Tryz.prog 115 := ⟨⟨by kernel_rfl, by kernel_rfl⟩, trivial⟩
def ty116 : TD := ⟨.oth, 1, 8, false, [.nilFunc]⟩
theorem xk : ty116.ok Tryz.prog 116 := ⟨⟨by kernel_rfl, by kernel_rfl⟩, trivial⟩
def ty117 : TD := ⟨.oth, 1, 8, false, [.nilFunc]⟩
theorem xl : ty117.ok Tryz.prog 117 := ⟨⟨by kernel_rfl, by kernel_rfl⟩, trivial⟩
def ty130 : TD := ⟨.mp 9 206 .string false, 1, 8, false, [.map none]⟩
theorem xm : ty130.ok Tryz.prog 130 := ⟨⟨by kernel_rfl, by kernel_rfl⟩, ⟨⟨by kernel_rfl⟩, by kernel_rfl, ⟨by kernel_rfl⟩⟩⟩
def ty131 : TD := ⟨.sl 137, 1, 24, false, [.slice none 0 0]⟩
theorem xn : ty131.ok Tryz.prog 131 := ⟨⟨by kernel_rfl, by kernel_rfl⟩, ⟨by kernel_rfl⟩⟩
def ty132 : TD := ⟨.st [(0, 27, 1), (1, 131, 1), (2, 3, 1), (3, 130, 1)], 4, 64, true, [.slice none 0 0, .slice none 0 0, .int .i64 0, .map none]⟩
theorem xo : ty132.ok Tryz.prog 132 := ⟨⟨by kernel_rfl, by kernel_rfl⟩, ⟨fun f off ft n h => by
  match f, h with
  | 0, h => cases h; exact ⟨by kernel_rfl⟩
  | 1, h => cases h; exact ⟨by kernel_rfl⟩
  | 2, h => cases h; exact ⟨by kernel_rfl⟩
  | 3, h => cases h; exact ⟨by kernel_rfl⟩
  | f + 4, h => simp at h, ⟨by kernel_rfl⟩⟩⟩
def ty133 : TD := ⟨.st [(0, 27, 1), (1, 131, 1), (2, 3, 1), (3, 130, 1)], 4, 64, true, [.slice none 0 0, .slice none 0 0, .int .i64 0, .map none]⟩
theorem xp : ty133.ok Tryz.prog 133 := ⟨⟨by kernel_rfl, by kernel_rfl⟩, ⟨fun f off ft n h => by
  match f, h with
  | 0, h => cases h; exact ⟨by kernel_rfl⟩
  | 1, h => cases h; exact ⟨by kernel_rfl⟩
  | 2, h => cases h; exact ⟨by kernel_rfl⟩
  | 3, h => cases h; exact ⟨by kernel_rfl⟩
  | f + 4, h => simp at h, ⟨by kernel_rfl⟩⟩⟩
def ty134 : TD := ⟨.sl 185, 1, 24, false, [.slice none 0 0]⟩
theorem xq : ty134.ok Tryz.prog 134 := ⟨⟨by kernel_rfl, by kernel_rfl⟩, ⟨by kernel_rfl⟩⟩
def ty135 : TD := ⟨.arr 4 67, 8, 192, true, [.slice none 0 0, .slice none 0 0, .slice none 0 0, .slice none 0 0, .slice none 0 0, .slice none 0 0, .slice none 0 0, .slice none 0 0]⟩
theorem xr : ty135.ok Tryz.prog 135 := ⟨⟨by kernel_rfl, by kernel_rfl⟩, ⟨by kernel_rfl⟩⟩
def ty136 : TD := ⟨.st [(0, 135, 8)], 8, 192, true, [.slice none 0 0, .slice none 0 0, .slice none 0 0, .slice none 0 0, .slice none 0 0, .slice none 0 0, .slice none 0 0, .slice none 0 0]⟩
theorem xt : ty136.ok Tryz.prog 136 := ⟨⟨by kernel_rfl, by kernel_rfl⟩, ⟨fun f off ft n h => by
  match f, h with
  | 0, h => cases h; exact ⟨by kernel_rfl⟩
  | f + 1, h => simp at h, ⟨by kernel_rfl⟩⟩⟩
def ty137 : TD := ⟨.st [(0, 135, 8)], 8, 192, true, [.slice none 0 0, .slice none 0 0, .slice none 0 0, .slice none 0 0, .slice none 0 0, .slice none 0 0, .slice none 0 0, .slice none 0 0]⟩
theorem xu : ty137.ok Tryz.prog 137 := ⟨⟨by kernel_rfl, by kernel_rfl⟩, ⟨fun f off ft n h => by
  match f, h with
  | 0, h => cases h; exact ⟨by kernel_rfl⟩
  | f + 1, h => simp at h, ⟨by kernel_rfl⟩⟩⟩
def ty139 : TD := ⟨.arr 5 3, 5, 40, true, [.int .i64 0, .int .i64 0, .int .i64 0, .int .i64 0, .int .i64 0]⟩
theorem xv : ty139.ok Tryz.prog 139 := ⟨⟨by kernel_rfl, by kernel_rfl⟩, ⟨by kernel_rfl⟩⟩
def ty140 : TD := ⟨.st [(0, 3, 1), (1, 3, 1), (2, 139, 5)], 7, 56, true, [.int .i64 0, .int .i64 0, .int .i64 0, .int .i64 0, .int .i64 0, .int .i64 0, .int .i64 0]⟩
theorem xw : ty140.ok Tryz.prog 140 := ⟨⟨by kernel_rfl, by kernel_rfl⟩, ⟨fun f off ft n h => by
  match f, h with
  | 0, h => cases h; exact ⟨by kernel_rfl⟩
  | 1, h => cases h; exact ⟨by kernel_rfl⟩
  | 2, h => cases h; exact ⟨by kernel_rfl⟩
  | f + 3, h => simp at h, ⟨by kernel_rfl⟩⟩⟩
def ty141 : TD := ⟨.st [(0, 3, 1), (1, 3, 1), (2, 139, 5)], 7, 56, true, [.int .i64 0, .int .i64 0, .int .i64 0, .int .i64 0, .int .i64 0, .int .i64 0, .int .i64 0]⟩
theorem xx : ty141.ok Tryz.prog 141 := ⟨⟨by kernel_rfl, by kernel_rfl⟩, ⟨fun f off ft n h => by
  match f, h with
  | 0, h => cases h; exact ⟨by kernel_rfl⟩
  | 1, h => cases h; exact ⟨by kernel_rfl⟩
  | 2, h => cases h; exact ⟨by kernel_rfl⟩
  | f + 3, h => simp at h, ⟨by kernel_rfl⟩⟩⟩
def ty144 : TD := ⟨.sl 83, 1, 24, false, [.slice none 0 0]⟩
theorem xy : ty144.ok Tryz.prog 144 := ⟨⟨by kernel_rfl, by kernel_rfl⟩, ⟨by kernel_rfl⟩⟩
def ty150 : TD := ⟨.arr 4 51, 8, 192, true, [.slice none 0 0, .slice none 0 0, .slice none 0 0, .slice none 0 0, .slice none 0 0, .slice none 0 0, .slice none 0 0, .slice none 0 0]⟩
theorem xz : ty150.ok Tryz.prog 150 := ⟨⟨by kernel_rfl, by kernel_rfl⟩, ⟨by kernel_rfl⟩⟩
def ty152 : TD := ⟨.arr 6 3, 6, 48, true, [.int .i64 0, .int .i64 0, .int .i64 0, .int .i64 0, .int .i64 0, .int .i64 0]⟩
theorem xA : ty152.ok Tryz.prog 152 := ⟨⟨by kernel_rfl, by kernel_rfl⟩, ⟨by kernel_rfl⟩⟩
def ty170 : TD := ⟨.oth, 1, 8, false, [.nilFunc]⟩
theorem xB : ty170.ok Tryz.prog 170 := ⟨⟨by kernel_rfl, by kernel_rfl⟩, trivial⟩
def ty177 : TD := ⟨.sl 5, 1, 24, false, [.slice none 0 0]⟩
theorem xD : ty177.ok Tryz.prog 177 := ⟨⟨by kernel_rfl, by kernel_rfl⟩, ⟨by kernel_rfl⟩⟩
def ty184 : TD := ⟨.st [(0, 22, 1), (1, 3, 1)], 2, 32, true, [.slice none 0 0, .int .i64 0]⟩
theorem xF : ty184.ok Tryz.prog 184 := ⟨⟨by kernel_rfl, by kernel_rfl⟩, ⟨fun f off ft n h => by
  match f, h with
  | 0, h => cases h; exact ⟨by kernel_rfl⟩
  | 1, h => cases h; exact ⟨by kernel_rfl⟩
  | f + 2, h => simp at h, ⟨by kernel_rfl⟩⟩⟩
def ty185 : TD := ⟨.st [(0, 22, 1), (1, 3, 1)], 2, 32, true, [.slice none 0 0, .int .i64 0]⟩
theorem xG : ty185.ok Tryz.prog 185 := ⟨⟨by kernel_rfl, by kernel_rfl⟩, ⟨fun f off ft n h => by
  match f, h with
  | 0, h => cases h; exact ⟨by kernel_rfl⟩
  | 1, h => cases h; exact ⟨by kernel_rfl⟩
  | f + 2, h => simp at h, ⟨by kernel_rfl⟩⟩⟩
def ty187 : TD := ⟨.oth, 1, 8, false, [.nilFunc]⟩
theorem xH : ty187.ok Tryz.prog 187 := ⟨⟨by kernel_rfl, by kernel_rfl⟩, trivial⟩
def ty195 : TD := ⟨.oth, 1, 8, false, [.nilFunc]⟩
theorem xI : ty195.ok Tryz.prog 195 := ⟨⟨by kernel_rfl, by kernel_rfl⟩, trivial⟩
def ty206 : TD := ⟨.ptr 209, 1, 8, false, [.pointer none]⟩
theorem xJ : ty206.ok Tryz.prog 206 := ⟨⟨by kernel_rfl, by kernel_rfl⟩, (show Tryz.prog.underlying 206 = some (.pointer 209) by kernel_rfl)⟩
def ty208 : TD := ⟨.st [(0, 3, 1), (1, 67, 2)], 3, 56, true, [.int .i64 0, .slice none 0 0, .slice none 0 0]⟩
theorem xK : ty208.ok Tryz.prog 208 := ⟨⟨by kernel_rfl, by kernel_rfl⟩, ⟨fun f off ft n h => by
  match f, h with
  | 0, h => cases h; exact ⟨by kernel_rfl⟩
  | 1, h => cases h; exact ⟨by kernel_rfl⟩
  | f + 2, h => simp at h, ⟨by kernel_rfl⟩⟩⟩
def ty209 : TD := ⟨.st [(0, 3, 1), (1, 67, 2)], 3, 56, true, [.int .i64 0, .slice none 0 0, .slice none 0 0]⟩
theorem xL : ty209.ok Tryz.prog 209 := ⟨⟨by kernel_rfl, by kernel_rfl⟩, ⟨fun f off ft n h => by
  match f, h with
  | 0, h => cases h; exact ⟨by kernel_rfl⟩
  | 1, h => cases h; exact ⟨by kernel_rfl⟩
  | f + 2, h => simp at h, ⟨by kernel_rfl⟩⟩⟩
def ty211 : TD := ⟨.sl 67, 1, 24, false, [.slice none 0 0]⟩
theorem xN : ty211.ok Tryz.prog 211 := ⟨⟨by kernel_rfl, by kernel_rfl⟩, ⟨by kernel_rfl⟩⟩
def ty216 : TD := ⟨.oth, 1, 8, false, [.nilFunc]⟩
theorem xP : ty216.ok Tryz.prog 216 := ⟨⟨by kernel_rfl, by kernel_rfl⟩, trivial⟩
def ty219 : TD := ⟨.oth, 1, 8, false, [.nilFunc]⟩
theorem xQ : ty219.ok Tryz.prog 219 := ⟨⟨by kernel_rfl, by kernel_rfl⟩, trivial⟩
def ty220 : TD := ⟨.ptr 141, 1, 8, false, [.pointer none]⟩
theorem xR : ty220.ok Tryz.prog 220 := ⟨⟨by kernel_rfl, by kernel_rfl⟩, (show Tryz.prog.underlying 220 = some (.pointer 141) by kernel_rfl)⟩
def ty232 : TD := ⟨.oth, 1, 16, false, [.nilIface]⟩
theorem xS : ty232.ok Tryz.prog 232 := ⟨⟨by kernel_rfl, by kernel_rfl⟩, trivial⟩
def ty233 : TD := ⟨.oth, 1, 16, false, [.nilIface]⟩
theorem xT : ty233.ok Tryz.prog 233 := ⟨⟨by kernel_rfl, by kernel_rfl⟩, trivial⟩
def ty234 : TD := ⟨.oth, 1, 8, false, [.nilFunc]⟩
theorem xU : ty234.ok Tryz.prog 234 := ⟨⟨by kernel_rfl, by kernel_rfl⟩, trivial⟩
def ty235 : TD := ⟨.oth, 1, 8, false, [.nilFunc]⟩
theorem xV : ty235.ok Tryz.prog 235 := ⟨⟨by kernel_rfl, by kernel_rfl⟩, trivial⟩
def ty238 : TD := ⟨.int .i64, 1, 8, false, [.int .i64 0]⟩
theorem xW : ty238.ok Tryz.prog 238 := ⟨⟨by kernel_rfl, by kernel_rfl⟩, (show Tryz.prog.underlying 238 = some (.int .i64) by kernel_rfl)⟩
def ty245 : TD := ⟨.int .u32, 1, 4, false, [.int .u32 0]⟩
theorem xY : ty245.ok Tryz.prog 245 := ⟨⟨by kernel_rfl, by kernel_rfl⟩, (show Tryz.prog.underlying 245 = some (.int .u32) by kernel_rfl)⟩
def ty251 : TD := ⟨.oth, 1, 8, false, [.nilFunc]⟩
theorem xZ : ty251.ok Tryz.prog 251 := ⟨⟨by kernel_rfl, by kernel_rfl⟩, trivial⟩
def ty253 : TD := ⟨.int .u64, 1, 8, false, [.int .u64 0]⟩
theorem x4 : ty253.ok Tryz.prog 253 := ⟨⟨by kernel_rfl, by kernel_rfl⟩, (show Tryz.prog.underlying 253 = some (.int .u64) by kernel_rfl)⟩
def ty256 : TD := ⟨.oth, 1, 8, false, [.nilFunc]⟩
theorem x5 : ty256.ok Tryz.prog 256 := ⟨⟨by kernel_rfl, by kernel_rfl⟩, trivial⟩
def ty257 : TD := ⟨.ptr 3, 1, 8, false, [.pointer none]⟩
theorem x6 : ty257.ok Tryz.prog 257 := ⟨⟨by kernel_rfl, by kernel_rfl⟩, (show Tryz.prog.underlying 257 = some (.pointer 3) by kernel_rfl)⟩
def ty261 : TD := ⟨.ptr 253, 1, 8, false, [.pointer none]⟩
theorem x7 : ty261.ok Tryz.prog 261 := ⟨⟨by kernel_rfl, by kernel_rfl⟩, (show Tryz.prog.underlying 261 = some (.pointer 253) by kernel_rfl)⟩
def ty268 : TD := ⟨.arr 0 16, 0, 0, true, []⟩
theorem x8 : ty268.ok Tryz.prog 268 := ⟨⟨by kernel_rfl, by kernel_rfl⟩, ⟨by kernel_rfl⟩⟩
def ty269 : TD := ⟨.st [(0, 268, 0)], 0, 0, true, []⟩
theorem x9 : ty269.ok Tryz.prog 269 := ⟨⟨by kernel_rfl, by kernel_rfl⟩, ⟨fun f off ft n h => by
  match f, h with
  | 0, h => cases h; exact ⟨by kernel_rfl⟩
  | f + 1, h => simp at h, ⟨by kernel_rfl⟩⟩⟩
def ty270 : TD := ⟨.st [(0, 268, 0)], 0, 0, true, []⟩
theorem ya : ty270.ok Tryz.prog 270 := ⟨⟨by kernel_rfl, by kernel_rfl⟩, ⟨fun f off ft n h => by
  match f, h with
  | 0, h => cases h; exact ⟨by kernel_rfl⟩
  | f + 1, h => simp at h, ⟨by kernel_rfl⟩⟩⟩
def T : Ty := (.node 116 ty116 (.node 38 ty38 (.node 11 ty11 (.node 6 ty6 (.node 3 ty3 (.node 2 ty2 (.node 1 ty1 .leaf .leaf) .leaf) (.node 5 ty5 (.node 4 ty4 .leaf .leaf) .leaf)) (.node 9 ty9 (.node 8 ty8 (.node 7 ty7 .leaf .leaf) .leaf) (.node 10 ty10 .leaf .leaf))) (.node 29 ty29 (.node 26 ty26 (.node 22 ty22 (.node 16 ty16 .leaf .leaf) .leaf) (.node 28 ty28 (.node 27 ty27 .leaf .leaf) .leaf)) (.node 33 ty33 (.node 32 ty32 (.node 30 ty30 .leaf .leaf) .leaf) (.node 34 ty34 .leaf .leaf)))) (.node 67 ty67 (.node 60 ty60 (.node 50 ty50 (.node 47 ty47 (.node 40 ty40 .leaf .leaf) .leaf) (.node 58 ty58 (.node 51 ty51 .leaf .leaf) .leaf)) (.node 65 ty65 (.node 64 ty64 (.node 62 ty62 .leaf .leaf) .leaf) (.node 66 ty66 .leaf .leaf))) (.node 97 ty97 (.node 91 ty91 (.node 86 ty86 (.node 83 ty83 .leaf .leaf) .leaf) (.node 96 ty96 (.node 92 ty92 .leaf .leaf) .leaf)) (.node 110 ty110 (.node 107 ty107 (.node 98 ty98 .leaf .leaf) .leaf) (.node 115 ty115 .leaf .leaf))))) (.node 206 ty206 (.node 140 ty140 (.node 134 ty134 (.node 131 ty131 (.node 130 ty130 (.node 117 ty117 .leaf .leaf) .leaf) (.node 133 ty133 (.node 132 ty132 .leaf .leaf) .leaf)) (.node 137 ty137 (.node 136 ty136 (.node 135 ty135 .leaf .leaf) .leaf) (.node 139 ty139 .leaf .leaf))) (.node 177 ty177 (.node 150 ty150 (.node 144 ty144 (.node 141 ty141 .leaf .leaf) .leaf) (.node 170 ty170 (.node 152 ty152 .leaf .leaf) .leaf)) (.node 187 ty187 (.node 185 ty185 (.node 184 ty184 .leaf .leaf) .leaf) (.node 195 ty195 .leaf .leaf)))) (.node 238 ty238 (.node 220 ty220 (.node 211 ty211 (.node 209 ty209 (.node 208 ty208 .leaf .leaf) .leaf) (.node 219 ty219 (.node 216 ty216 .leaf .leaf) .leaf)) (.node 234 ty234 (.node 233 ty233 (.node 232 ty232 .leaf .leaf) .leaf) (.node 235 ty235 .leaf .leaf))) (.node 257 ty257 (.node 253 ty253 (.node 251 ty251 (.node 245 ty245 .leaf .leaf) .leaf) (.node 256 ty256 .leaf .leaf)) (.node 269 ty269 (.node 268 ty268 (.node 261 ty261 .leaf .leaf) .leaf) (.node 270 ty270 .leaf .leaf))))))
theorem aj : T.ok Tryz.prog := Ty.ok_of (show T.All Tryz.prog from ⟨xk, ⟨Ag, ⟨z0, ⟨B7, ⟨B4, ⟨B3, ⟨B2, trivial, trivial⟩, trivial⟩, ⟨B6, ⟨B5, trivial, trivial⟩, trivial⟩⟩, ⟨Ca, ⟨B9, ⟨B8, trivial, trivial⟩, trivial⟩, ⟨zZ, trivial, trivial⟩⟩⟩, ⟨Ab, ⟨z8, ⟨z7, ⟨z6, trivial, trivial⟩, trivial⟩, ⟨Aa, ⟨z9, trivial, trivial⟩, trivial⟩⟩, ⟨Ae, ⟨Ad, ⟨Ac, trivial, trivial⟩, trivial⟩, ⟨Af, trivial, trivial⟩⟩⟩⟩, ⟨Ar, ⟨Am, ⟨Aj, ⟨Ai, ⟨Ah, trivial, trivial⟩, trivial⟩, ⟨Al, ⟨Ak, trivial, trivial⟩, trivial⟩⟩, ⟨Ap, ⟨Ao, ⟨An, trivial, trivial⟩, trivial⟩, ⟨Aq, trivial, trivial⟩⟩⟩, ⟨Ax, ⟨Au, ⟨At, ⟨As, trivial, trivial⟩, trivial⟩, ⟨Aw, ⟨Av, trivial, trivial⟩, trivial⟩⟩, ⟨xi, ⟨xh, ⟨Ay, trivial, trivial⟩, trivial⟩, ⟨xj, trivial, trivial⟩⟩⟩⟩⟩, ⟨xJ, ⟨xw, ⟨xq, ⟨xn, ⟨xm, ⟨xl, trivial, trivial⟩, trivial⟩, ⟨xp, ⟨xo, trivial, trivial⟩, trivial⟩⟩, ⟨xu, ⟨xt, ⟨xr, trivial, trivial⟩, trivial⟩, ⟨xv, trivial, trivial⟩⟩⟩, ⟨xD, ⟨xz, ⟨xy, ⟨xx, trivial, trivial⟩, trivial⟩, ⟨xB, ⟨xA, trivial, trivial⟩, trivial⟩⟩, ⟨xH, ⟨xG, ⟨xF, trivial, trivial⟩, trivial⟩, ⟨xI, trivial, trivial⟩⟩⟩⟩, ⟨xW, ⟨xR, ⟨xN, ⟨xL, ⟨xK, trivial, trivial⟩, trivial⟩, ⟨xQ, ⟨xP, trivial, trivial⟩, trivial⟩⟩, ⟨xU, ⟨xT, ⟨xS, trivial, trivial⟩, trivial⟩, ⟨xV, trivial, trivial⟩⟩⟩, ⟨x6, ⟨x4, ⟨xZ, ⟨xY, trivial, trivial⟩, trivial⟩, ⟨x5, trivial, trivial⟩⟩, ⟨x9, ⟨x8, ⟨x7, trivial, trivial⟩, trivial⟩, ⟨ya, trivial, trivial⟩⟩⟩⟩⟩⟩)
theorem aa : (Tryz.prog).follows .mixedOrders = true := by kernel_rfl
noncomputable abbrev P : Program := Tryz.prog
def ce (l : List Nat) : List Nat := (l.reverse.dropWhile (· == 0)).reverse
theorem rm (l : List Nat) : ce (l ++ [0]) = ce l := by simp [ce]
theorem tu (l : List Nat) {x : Nat} (h : x ≠ 0) : ce (l ++ [x]) = l ++ [x] := by simp [ce, h]
theorem tv (x : Nat) (l : List Nat) : ce (x :: l) = if ce l = [] ∧ x = 0 then [] else x :: ce l := by
 unfold ce;rw [List.reverse_cons, List.dropWhile_append]
 cases h : (l.reverse.dropWhile (· == 0)) with
 | nil =>
  by_cases hx : x = 0
  ·simp [hx]
  ·simp [hx]
 | cons y m => simp
theorem jr (l : List Nat) {n : Nat} (hn : n ≤ l.length) (h0 : ce l = ce (l.take n)) (h1 : n = 0 ∨ l.getD (n - 1) 0 ≠ 0) : l.take n = ce l := by
 rw [h0];by_cases hz : n = 0
 ·subst hz; simp [ce]
 ·have h1 := h1.resolve_left hz;obtain ⟨m, rfl⟩ : ∃ m, n = m + 1 := ⟨n - 1, by omega⟩;have hm : m < l.length := by omega
  simp only [Fo, DZ, Em hm, Fx] at h1;rw [D5 hm, tu _ h1]
theorem nm (l : List Nat) {n : Nat} (hn : n + 1 ≤ l.length) (h0 : l.getD n 0 = 0) : ce (l.take (n + 1)) = ce (l.take n) := by
 have hm : n < l.length := by omega
 simp only [DZ, Em hm, Fx] at h0;rw [D5 hm, h0, rm]
def val (B : Nat) : List Nat → Nat
 | [] => 0
 | x :: l => x + B * val B l
theorem jX (B : Nat) : ∀ (l m : List Nat), val B (l ++ m) = val B l + B ^ l.length * val B m
 | [], m => by simp [val]
 | x :: l, m => by
  simp only [FD, val, jX B l m, EA, EI, Er];rw [Ej (B ^ l.length) B, Ee, E3]
theorem ro (B : Nat) (l : List Nat) (x : Nat) : val B (l ++ [x]) = val B l + B ^ l.length * x := by
 rw [jX]; simp [val]
def Dig (B : Nat) (l : List Nat) : Prop := ∀ x, x ∈ l → x < B
theorem Dig.nil {B : Nat} : Dig B [] := by intro x h; cases h
theorem Dig.cons {B x : Nat} {l : List Nat} (hx : x < B) (h : Dig B l) : Dig B (x :: l) := by
 intro y hy;simp only [Ey] at hy;rcases hy with rfl | hy
 ·exact hx
 ·exact h y hy
theorem Dig.app {B : Nat} {l m : List Nat} (h : Dig B l) (h' : Dig B m) : Dig B (l ++ m) := by
 intro y hy;rcases EF.1 hy with hy | hy
 ·exact h y hy
 ·exact h' y hy
theorem Dig.snoc {B x : Nat} {l : List Nat} (h : Dig B l) (hx : x < B) : Dig B (l ++ [x]) := h.app (.cons hx .nil)
theorem Dig.tail {B x : Nat} {l : List Nat} (h : Dig B (x :: l)) : Dig B l := fun y hy => h y (by simp [hy])
theorem Dig.take {B n : Nat} {l : List Nat} (h : Dig B l) : Dig B (l.take n) := fun y hy => h y (Fv hy)
theorem Dig.drop {B n : Nat} {l : List Nat} (h : Dig B l) : Dig B (l.drop n) := fun y hy => h y (Gk hy)
theorem Dig.set {B i x : Nat} {l : List Nat} (h : Dig B l) (hx : x < B) : Dig B (l.set i x) := fun y hy => by
 rcases Gj hy with hy | rfl
 ·exact h y hy
 ·exact hx
theorem Dig.getD {B : Nat} {l : List Nat} (h : Dig B l) (hB : 0 < B) (i : Nat) : l.getD i 0 < B := by
 rw [DZ]
 cases hi : l[i]? with
 | none => exact hB
 | some x => exact h x (Ex hi)
theorem eL {B : Nat} (hB : 0 < B) : ∀ {l : List Nat}, Dig B l → val B l < B ^ l.length
 | [], _ => by simp [val]
 | x :: l, h => by
  have h1 := eL hB h.tail;have h2 := h x (by simp);simp only [val, EA, EI];have : B * (val B l + 1) ≤ B * B ^ l.length := ET _ h1;rw [Er, Fg] at this;rw [Ej (B ^ l.length)];omega
theorem fg (B : Nat) (l : List Nat) (n : Nat) : val B l = val B (l.take n) + B ^ (min n l.length) * val B (l.drop n) := by
 conv => lhs; rw [← Gb n l]
 rw [jX, Ed]
theorem aJ (B : Nat) (l : List Nat) (n : Nat) : val B (l.take (n + 1)) = val B (l.take n) + B ^ n * l.getD n 0 := by
 by_cases hn : n < l.length
 ·rw [D5 hn, ro, Ed, Fw (by omega)];simp [DZ, hn]
 ·rw [EG (by omega), EG (by omega)];have : l.getD n 0 = 0 := by simp [DZ, Eo (by omega : l.length ≤ n)]
  rw [this]; simp
theorem dh (B : Nat) (l : List Nat) {i v : Nat} (h : i < l.length) : val B ((l.set i v).take (i + 1)) = val B (l.take i) + B ^ i * v := by
 rw [aJ];have e1 : (l.set i v).take i = l.take i := by rw [List.take_set_of_le (D1 _)]
 have e2 : (l.set i v).getD i 0 = v := by simp [DZ, h]
 rw [e1, e2]
theorem aW {B : Nat} {l : List Nat} {n : Nat} (h : l.length ≤ n) : val B (l.take n) = val B l := by rw [EG h]
theorem fC {B : Nat} : ∀ {l : List Nat} {i x : Nat}, i < l.length → val B (l.set i x) + B ^ i * l.getD i 0 = val B l + B ^ i * x
 | [], i, x, h => by simp at h
 | y :: l, 0, x, _ => by simp [val]; omega
 | y :: l, i + 1, x, h => by
  have := fC (B := B) (l := l) (i := i) (x := x) (by simpa using h);simp only [List.set_cons_succ, val, List.getD_cons_succ, EI];have h2 : B * (val B (l.set i x) + B ^ i * l.getD i 0) = B * (val B l + B ^ i * x) := by rw [this]
  simp only [Er] at h2;rw [Ej (B ^ i) B, Ee, Ee];omega
theorem mj (B n : Nat) : val B (List.replicate n 0) = 0 := by
 induction n with
 | zero => rfl
 | succ n ih => simp [List.replicate_succ, val, ih]
def dg (B n : Nat) : List Nat := if _h : n = 0 ∨ B < 2 then [] else n % B :: dg B (n / B)
 termination_by n
 decreasing_by exact Nat.div_lt_self (by omega) (by omega)
theorem bu (B : Nat) : dg B 0 = [] := by rw [dg]; simp
theorem gx {B n : Nat} (hB : 2 ≤ B) (hn : n ≠ 0) : dg B n = n % B :: dg B (n / B) := by
 rw [dg, dif_neg (by omega)]
theorem Az {B x v : Nat} (hB : 2 ≤ B) (hx : x < B) : dg B (x + B * v) = if x + B * v = 0 then [] else x :: dg B v := by
 by_cases h : x + B * v = 0
 ·rw [if_pos h, h, bu]
 ·rw [if_neg h, gx hB h];rw [FT, EB hx, Gl _ _ (by omega), FE hx, ES]
theorem gZ {B n : Nat} (hB : 2 ≤ B) : dg B n = [] ↔ n = 0 := by
 constructor
 ·intro h;rcases FI n with h0 | h0
  ·exact h0
  ·rw [gx hB (by omega)] at h; cases h
 ·rintro rfl; exact bu B
theorem cS {B : Nat} (hB : 2 ≤ B) : ∀ {l : List Nat}, Dig B l → ce l = dg B (val B l)
 | [], _ => by simp [ce, val, bu]
 | x :: l, h => by
  have ih := cS hB h.tail;have hx := h x (by simp);rw [tv, val, Az hB hx, ih];by_cases h1 : val B l = 0
  ·rw [h1];simp only [bu, true_and, Fn, Fi]
  ·have h2 : ¬ (x + B * val B l = 0) := by
    have : B * val B l ≠ 0 := Es (by omega) h1;omega
   rw [if_neg h2, if_neg];intro ⟨h3, _⟩;exact h1 ((gZ hB).1 h3)
theorem bl {B : Nat} (hB : 2 ≤ B) (n : Nat) : val B (dg B n) = n := by
 induction n using Nat.strongRecOn with
 | _ n ih =>
  rcases FI n with rfl | h
  ·rw [bu]; rfl
  ·rw [gx hB (by omega), val, ih _ (Nat.div_lt_self h (by omega))];exact Nat.mod_add_div n B
theorem bz {B : Nat} (hB : 2 ≤ B) (n : Nat) : Dig B (dg B n) := by
 induction n using Nat.strongRecOn with
 | _ n ih =>
  rcases FI n with rfl | h
  ·rw [bu]; exact .nil
  ·rw [gx hB (by omega)];exact .cons (E6 _ (by omega)) (ih _ (Nat.div_lt_self h (by omega)))
theorem cv {B : Nat} (hB : 2 ≤ B) : ∀ {k n : Nat}, n < B ^ k → (dg B n).length ≤ k
 | 0, n, h => by
  have : n = 0 := by simpa using h
  subst this; rw [bu]; simp
 | k + 1, n, h => by
  rcases FI n with rfl | h0
  ·rw [bu]; simp
  ·rw [gx hB (by omega), EA];have := cv hB (k := k) (n := n / B) (by rw [Gw (by omega)]; rw [EI] at h; exact h);omega
theorem bF {B : Nat} (hB : 2 ≤ B) (n : Nat) : n < B ^ (dg B n).length := by
 have := eL (by omega : 0 < B) (bz hB n);rwa [bl hB] at this
theorem ba {B : Nat} (hB : 2 ≤ B) {m n : Nat} (h : m ≤ n) : (dg B m).length ≤ (dg B n).length := cv hB (FJ h (bF hB n))
theorem ml {B : Nat} (hB : 2 ≤ B) {n : Nat} (h : n ≠ 0) : B ^ ((dg B n).length - 1) ≤ n := by
 apply E9;intro hlt;have := cv hB hlt;have h1 : (dg B n).length ≠ 0 := by
  intro h0;exact h ((gZ hB).1 (Ev.1 h0))
 omega
theorem iD {B : Nat} (hB : 2 ≤ B) {m n : Nat} (h : (dg B m).length < (dg B n).length) : m < n := by
 apply F3;intro hle;have := ba hB hle;omega
theorem iF {B : Nat} (hB : 2 ≤ B) {l m : List Nat} {i : Nat} (hl : Dig B l) (hlen : l.length = m.length) (hi : i < l.length) (hd : l.drop (i + 1) = m.drop (i + 1)) (hlt : l.getD i 0 < m.getD i 0) : val B l < val B m := by
 rw [fg B l (i + 1), fg B m (i + 1), hd, aJ, aJ, ← hlen];have h1 := eL (by omega : 0 < B) (hl.take (n := i));rw [Ed, Fw (by omega)] at h1;have h2 : B ^ i * (l.getD i 0 + 1) ≤ B ^ i * m.getD i 0 := ET _ hlt;rw [Er, Fg] at h2;omega
theorem ut (n : Int) : Ct P 164 [.c (eI .i64 n)] [.c (.sc (.bool false))] := by
 refine Ct.go aj aa (N := 6) Tryz.func164 rfl rfl rfl rfl ?_;have e : (n != n) = false := by simp
 exact ⟨trivial, r1 (by rw [← e]; rfl), trivial⟩
theorem uu (n : Int) : Ct P 165 [.c (eI .u64 n)] [.c (.sc (.bool false))] := by
 refine Ct.go aj aa (N := 6) Tryz.func165 rfl rfl rfl rfl ?_;have e : (n != n) = false := by simp
 exact ⟨trivial, r1 (by rw [← e]; rfl), trivial⟩
def bC (a b : Int) : Int := if a < b then -1 else if b < a then 1 else 0
theorem mm (a b : Int) : Ct P 125 [.c (eI .i64 a), .c (eI .i64 b)] [.c (eI .i64 (bC a b))] := by
 refine Ct.go aj aa (N := 20) Tryz.func125 rfl rfl rfl rfl ?_;refine X1 _ (ut a) ?_;refine X1 _ (ut b) ?_;refine ah (fun h => ?_) (fun h => ?_)
 ·exact ⟨trivial, r1 (iE (by rw [bC, if_pos h])), trivial⟩
 ·refine ah (fun h2 => ?_) (fun h2 => ?_)
  ·exact ⟨trivial, r1 (iE (by rw [bC, if_neg h, if_pos h2])), trivial⟩
  ·exact ⟨trivial, r1 (iE (by rw [bC, if_neg h, if_neg h2])), trivial⟩
theorem AA (a b : Int) : Ct P 126 [.c (eI .u64 a), .c (eI .u64 b)] [.c (eI .i64 (bC a b))] := by
 refine Ct.go aj aa (N := 20) Tryz.func126 rfl rfl rfl rfl ?_;refine X1 _ (uu a) ?_;refine X1 _ (uu b) ?_;refine ah (fun h => ?_) (fun h => ?_)
 ·exact ⟨trivial, r1 (iE (by rw [bC, if_pos h])), trivial⟩
 ·refine ah (fun h2 => ?_) (fun h2 => ?_)
  ·exact ⟨trivial, r1 (iE (by rw [bC, if_neg h, if_pos h2])), trivial⟩
  ·exact ⟨trivial, r1 (iE (by rw [bC, if_neg h, if_neg h2])), trivial⟩
theorem Ct.ans3 {P : Program} {f : FuncId} {a b c : Value} {r s : PC} {v : Value} (hr : ∀ w, (callFunc f #[a, b, c]).run P w = .ok (.value v) w) (hv : ∀ K ok w, RelV K ok w (cf [.c r, .c s]) v) : Ct P f [.c (.sc a), .c (.sc b), .c (.sc c)] [.c r, .c s] := by
 refine ⟨fun K ok w vs hp hrel => .inr ?_⟩;obtain ⟨v1, us, rfl, h1, hrel⟩ := hrel.head;obtain ⟨v2, us, rfl, h2, hrel⟩ := hrel.head;obtain ⟨v3, us, rfl, h3, hrel⟩ := hrel.head;have : us = [] := by have := hrel.len; simpa using this
 subst this;have e1 := (RelV.o h1).sc.1;have e2 := (RelV.o h2).sc.1;have e3 := (RelV.o h3).sc.1;subst e1 e2 e3;exact ⟨v, w, hr w, v, K, ok, rfl, hv K ok w, hp, Fr.refl _ _ _ _⟩
theorem uv {K : Km} {ok : Nat → Prop} {w : World} {k k' : IntKind} {a b : Int} (ha : inR k a) (hb : inR k' b) : RelV K ok w (cf [.c (eI k a), .c (eI k' b)]) (.tuple #[.int k a, .int k' b]) :=
 .tup (RelAs.cons (.c (.cl (.sc ha))) (RelAs.cons (.c (.cl (.sc hb))) RelAs.nil))
theorem d8 (x y c : Nat) (hx : x < 18446744073709551616) (hy : y < 18446744073709551616) (hc : c ≤ 1) : Ct P 145 [.c (nI .u64 x), .c (nI .u64 y), .c (nI .u64 c)] [.c (nI .u64 ((x + y + c) % 18446744073709551616)), .c (nI .u64 ((x + y + c) / 18446744073709551616))] := by
 refine Ct.ans3 (fun w => ?_) (fun K ok w => uv (k := .u64) (k' := .u64) ⟨by omega, by omega⟩ ⟨by omega, by omega⟩);rw [run_callFunc_extern Tryz.func145 (by kernel_rfl) (by kernel_rfl) (by kernel_rfl) (e := add64Entry) (by kernel_rfl), run_add64 x y c (by omega) (by omega) (by omega) (by omega)];simp only [Result.andThen];congr 5 <;> omega
theorem jY (x y b : Nat) (hx : x < 18446744073709551616) (hy : y < 18446744073709551616) (hb : b ≤ 1) : Ct P 150 [.c (nI .u64 x), .c (nI .u64 y), .c (nI .u64 b)] [.c (nI .u64 ((x + 18446744073709551616 - y - b) % 18446744073709551616)), .c (nI .u64 (if x < y + b then 1 else 0))] := by
 refine Ct.ans3 (fun w => ?_) (fun K ok w => uv (k := .u64) (k' := .u64) ⟨by omega, by omega⟩ ⟨by split <;> omega, by split <;> omega⟩);rw [run_callFunc_extern Tryz.func150 (by kernel_rfl) (by kernel_rfl) (by kernel_rfl) (e := sub64Entry) (by kernel_rfl), run_sub64 x y b hb];rfl
abbrev nV (n : Nat) : A1 := .ag [nSl .u64 (dg 18446744073709551616 n)]
theorem d9 (l : List Nat) (hl : l.length ≤ 1000000) : Ct P 113 [.c (nSl .u64 l)] [.ag [nSl .u64 (ce l)]] := by
 refine Ct.go aj aa (N := 22) Tryz.func113 rfl rfl rfl rfl ?_;refine au aj aa (fun m : List Nat => m.length ≤ l.length ∧ ce l = ce m) (fun m => [(0, .c (nSl .u64 m)), (2, .c (.ad 2 0))]) (fun _ => [(2, .var [.sc (.slice none 0 0)])]) (fun m => m.length) l ⟨D1 _, rfl⟩ ⟨rfl, rfl, trivial⟩ ⟨rfl, trivial⟩
  (fun _ : Unit => True) (fun _ => [(0, .c (nSl .u64 (ce l))), (2, .c (.ad 2 0))]) (fun _ => [(2, .var [.sc (.slice none 0 0)])]) (fun m hm => ?_) (fun _ _ => ?_)
 ·obtain ⟨h1, h2⟩ := hm;refine .intro (by rw [ai]; omega) ?_;rw [ai];refine ah (fun h => ?_) (fun h => ?_)
  ·refine .intro (by rw [ai]; omega) ?_;rw [ai];obtain ⟨k, hk⟩ : ∃ k, m.length = k + 1 := ⟨m.length - 1, by omega⟩;refine X1 (k : Int) (wI (by omega) (by omega) (by omega)) ?_;refine .intro (by omega) (X1 _ (al rfl (by omega)) ?_);refine aV (fun h3 => ?_) (fun h3 => ?_)
   ·refine .intro (by rw [ai]; omega) ?_;rw [ai];refine X1 (k : Int) (wI (by omega) (by omega) (by omega)) ?_;refine ⟨0, k, rfl, rfl, by omega, by rw [ai]; omega, ?_⟩;have := nm m (n := k) (by omega) (by omega);rw [← hk, EE] at this;exact ⟨m.take k, ⟨by simp; omega, h2.trans this⟩, by simp; omega, ⟨pW (by rw [gY]; rfl), rfl, trivial⟩, ⟨rfl, trivial⟩⟩
   ·have e : m = ce l := by
     rw [h2, ← jr m (n := m.length) (D1 _) (by rw [EE]) (.inr (by rw [hk]; simpa using h3)), EE]
    exact ⟨(), trivial, ⟨pW (by rw [e]), rfl, trivial⟩, ⟨rfl, trivial⟩⟩
  ·have e : m = ce l := by
    have : m = [] := Ev.1 (by omega);rw [h2, this]; rfl
   exact ⟨(), trivial, ⟨pW (by rw [e]), rfl, trivial⟩, ⟨rfl, trivial⟩⟩
 ·exact ⟨trivial, rc rfl, trivial⟩
theorem fM (v : Nat) (hv : v < 18446744073709551616) : Ct P 69 [.c (nI .u64 v)] [nV v] := by
 refine Ct.go aj aa (N := 6) Tryz.func69 rfl rfl rfl rfl ?_;refine X2 .frz ?_;have h := d9 [v] (by simp);rw [cS (B := 18446744073709551616) (by omega) (Dig.cons hv .nil)] at h;have e : val 18446744073709551616 [v] = v := by simp [val]
 rw [e] at h;refine X1 _ h ?_;exact ⟨trivial, rc rfl, trivial⟩
theorem fh (n : Nat) (hn : (dg 18446744073709551616 n).length ≤ 1000000) : Ct P 78 [nV n] [.c (.sc (.bool (n == 0)))] := by
 refine Ct.go aj aa (N := 7) Tryz.func78 rfl rfl rfl rfl ?_;refine .intro (by rw [ai]; omega) ?_;have e : ((((aF .u64 (dg 18446744073709551616 n)).length : Nat) : Int) == 0) = (n == 0) := by
  rw [ai];have := gZ (B := 18446744073709551616) (n := n) (by omega);rw [← Ev] at this;rw [Bool.eq_iff_iff];simp only [beq_iff_eq];omega
 exact ⟨trivial, r1 (by rw [← e]; rfl), trivial⟩
theorem iG (a b : Nat) (ha : (dg 18446744073709551616 a).length ≤ 1000000) (hb : (dg 18446744073709551616 b).length ≤ 1000000) : Ct P 81 [nV a, nV b] [.c (eI .i64 (bC a b))] := by
 refine Ct.go aj aa (N := 40) Tryz.func81 rfl rfl rfl rfl ?_;refine .intro (by rw [ai]; omega) ?_;refine .intro (by rw [ai]; omega) ?_;rw [ai, ai];refine X1 _ (mm _ _) ?_;refine dL (fun h => ?_) (fun h => ?_)
 ·have e : bC ((dg 18446744073709551616 a).length : Int) (dg 18446744073709551616 b).length = bC a b := by
   unfold bC at h ⊢;split at h
   ·rename_i h1;have : a < b := iD (B := 18446744073709551616) (by omega) (by omega);rw [if_pos h1, if_pos (by omega)]
   ·split at h
    ·rename_i h1 h2;have : b < a := iD (B := 18446744073709551616) (by omega) (by omega);rw [if_neg h1, if_pos h2, if_neg (by omega), if_pos (by omega)]
    ·exact absurd rfl h
  exact ⟨trivial, r1 (iE e), trivial⟩
 ·have hlen : (dg 18446744073709551616 a).length = (dg 18446744073709551616 b).length := by
   unfold bC at h;split at h
   ·omega
   ·split at h <;> omega
  refine .intro (by rw [ai]; omega) ?_;rw [ai];refine X1 (((dg 18446744073709551616 a).length : Int) - 1) (wi (by omega) (by omega)) ?_;refine au aj aa (fun n : Nat => n ≤ (dg 18446744073709551616 a).length ∧ (dg 18446744073709551616 a).drop n = (dg 18446744073709551616 b).drop n)
   (fun n => [(2, .c (.ad 2 0)), (3, .c (.ad 3 0)), (6, .c (eI .i64 ((n : Int) - 1)))]) (fun _ => [(2, .var [nSl .u64 (dg 18446744073709551616 a)]), (3, .var [nSl .u64 (dg 18446744073709551616 b)])]) (fun n => n)
   (dg 18446744073709551616 a).length ⟨D1 _, by rw [Fy, Fh (by omega)]⟩ ⟨rfl, rfl, rfl, trivial⟩ ⟨rfl, rfl, trivial⟩
   (fun _ : Unit => a = b) (fun _ => []) (fun _ => []) (fun n hn => ?_) (fun _ he => ?_)
  ·obtain ⟨h1, h2⟩ := hn;refine ah (fun h5 => ?_) (fun h5 => ?_)
   ·obtain ⟨m, rfl⟩ : ∃ m, n = m + 1 := ⟨n - 1, by omega⟩;have hA := bz (B := 18446744073709551616) (by omega) a;have hB := bz (B := 18446744073709551616) (by omega) b;have vA := bl (B := 18446744073709551616) (by omega) a;have vB := bl (B := 18446744073709551616) (by omega) b;refine .intro (by omega) (X1 _ (al (n := m) (by omega) (by omega)) ?_);refine .intro (by omega) (X1 _ (al (n := m) (by omega) (by omega)) ?_);refine X1 _ (AA _ _) ?_;refine .intro rfl ?_;refine dL (fun h6 => ?_) (fun h6 => ?_)
    ·have e : bC ((dg 18446744073709551616 a).getD m 0 : Nat) ((dg 18446744073709551616 b).getD m 0 : Nat) = bC a b := by
      unfold bC at h6 ⊢;split at h6
      ·rename_i h7;have := iF (B := 18446744073709551616) (by omega) hA hlen (by omega) h2 (by omega);rw [if_pos h7, if_pos (by omega)]
      ·split at h6
       ·rename_i h7 h8;have := iF (B := 18446744073709551616) (by omega) hB hlen.symm (by omega) h2.symm (by omega);rw [if_neg h7, if_pos h8, if_neg (by omega), if_pos (by omega)]
       ·exact absurd rfl h6
     exact ⟨trivial, r1 (iE e), trivial⟩
    ·have e1 : (dg 18446744073709551616 a).getD m 0 = (dg 18446744073709551616 b).getD m 0 := by
      unfold bC at h6;split at h6
      ·omega
      ·split at h6 <;> omega
     refine X1 ((m : Int) - 1) (wI (by omega) (by omega) (by omega)) ?_;refine ⟨m, ⟨by omega, ?_⟩, by omega, ⟨rfl, rfl, rfl, trivial⟩, ⟨rfl, rfl, trivial⟩⟩;rw [DZ, DZ, Em (by omega : m < (dg 18446744073709551616 a).length), Em (by omega : m < (dg 18446744073709551616 b).length)] at e1;rw [Ew (by omega : m < (dg 18446744073709551616 a).length), Ew (by omega : m < (dg 18446744073709551616 b).length), h2];simp only [Fx] at e1;rw [e1]
   ·have hn : n = 0 := by omega
    subst hn;refine ⟨(), ?_, trivial, trivial⟩;rw [Fu, Fu] at h2;rw [← bl (B := 18446744073709551616) (by omega) a, h2, bl (by omega)]
  ·exact ⟨trivial, r1 (iE (by rw [bC, if_neg (by omega), if_neg (by omega)])), trivial⟩
theorem uw (a b : Nat) (hab : b ≤ a) (ha : (dg 18446744073709551616 a).length ≤ 1000000) : Ct P 104 [nV a, nV b] [nV (a - b), .c (eI .i64 0)] := by
 have hlb : (dg 18446744073709551616 b).length ≤ (dg 18446744073709551616 a).length := ba (by omega) hab;refine Ct.go aj aa (N := 52) Tryz.func104 rfl rfl rfl rfl ?_;refine X1 _ (iG a b ha (by omega)) ?_;refine ta (decide_eq_false (by unfold bC; split <;> (try split) <;> omega)) ?_;refine .intro (by rw [ai]; omega) ?_;rw [ai];refine ⟨by omega, by omega, by omega, .inl (by decide), ?_⟩;refine .intro (by rw [ai]; omega) ?_;rw [ai];refine au aj aa (G := Nat × List Nat × Nat) (fun (i, out, c) => i ≤ (dg 18446744073709551616 a).length ∧ out.length = (dg 18446744073709551616 a).length ∧ Dig 18446744073709551616 out ∧ c ≤ 1 ∧ val 18446744073709551616 ((dg 18446744073709551616 a).take i) + 18446744073709551616 ^ i * c = val 18446744073709551616 ((dg 18446744073709551616 b).take i) + val 18446744073709551616 (out.take i))
  (fun (i, out, c) => [(2, .c (.ad 2 0)), (3, .c (.ad 3 0)), (4, .c (.ad 4 0)), (6, .c (.ow 18 1 (dg 18446744073709551616 a).length)), (7, .c (nI .u64 c)), (21, .c (nI .i64 (dg 18446744073709551616 a).length)), (22, .c (nI .i64 i))])
  (fun ((i, out, c) : Nat × List Nat × Nat) => [(2, .var [nSl .u64 (dg 18446744073709551616 a)]), (3, .var [nSl .u64 (dg 18446744073709551616 b)]), (4, .var [.sc (.slice none 0 0)]), (18, .row 1 (aF .u64 out))]) (fun (i, out, c) => (dg 18446744073709551616 a).length - i)
  (0, List.replicate (dg 18446744073709551616 a).length 0, 0) ⟨by simp, by simp, fun x hx => by rw [EY hx]; omega, by simp, by simp [val]⟩
  ⟨rfl, rfl, rfl, owE (by omega), rfl, rfl, rfl, trivial⟩ ⟨rfl, rfl, rfl, aB (eV rfl), trivial⟩
  (fun l : List Nat => Dig 18446744073709551616 l ∧ val 18446744073709551616 l = a - b ∧ l.length ≤ 1000000) (fun l => [(4, .c (.ad 4 0)), (6, .c (.ow 18 1 (dg 18446744073709551616 a).length))]) (fun l => [(4, .var [.sc (.slice none 0 0)]), (18, .row 1 (aF .u64 l))]) (fun g hg => ?_) (fun l hl => ?_)
 ·obtain ⟨i, out, c⟩ := g;obtain ⟨h1, h2, h6, h3, h4⟩ := hg;refine ah (fun h5 => ?_) (fun h5 => ?_)
  ·have hx := (bz (B := 18446744073709551616) (by omega) a).getD (by omega) i;have hy := (bz (B := 18446744073709551616) (by omega) b).getD (by omega) i;have hA := aJ 18446744073709551616 (dg 18446744073709551616 a) i;have hB := aJ 18446744073709551616 (dg 18446744073709551616 b) i;generalize hxx : (dg 18446744073709551616 a).getD i 0 = x at hx hA;refine .intro (by rw [ai]; omega) ?_;rw [ai];refine ah (fun h7 => And.intro (by omega) (X1 _ (al rfl (by omega)) ?_)) (fun h7 => ?_)
   ·generalize hyy : (dg 18446744073709551616 b).getD i 0 = y at hy hB ⊢;refine .intro (by omega) (X1 _ (al rfl (by omega)) ?_);rw [hxx];refine X1 _ (jY x y c hx (by omega) h3) ?_;refine .intro (by omega) (And.intro (by simp <;> omega) ?_);refine X1 _ (al rfl (by omega)) ?_;refine X1 ((i + 1 : Nat) : Int) (wI1 (by omega)) ?_;refine ⟨(i + 1, out.set i ((x + 18446744073709551616 - y - c) % 18446744073709551616), if x < y + c then 1 else 0), ⟨by omega, by simp [h2], h6.set (by omega), by split <;> omega, ?_⟩, by show _ - (i + 1) < _ - i; omega, ⟨rfl, rfl, rfl, rfl, rfl, rfl, rfl, trivial⟩, ⟨rfl, rfl, rfl, aB nRow_set, trivial⟩⟩;have hst := dh 18446744073709551616 out (i := i) (v := (x + 18446744073709551616 - y - c) % 18446744073709551616) (by omega);rw [hst, hA, hB];have key : x + 18446744073709551616 * (if x < y + c then 1 else 0) = (x + 18446744073709551616 - y - c) % 18446744073709551616 + y + c := by split <;> omega
    have k2 := congrArg (18446744073709551616 ^ i * ·) key;simp only [Er] at k2;rw [EI, Ee];omega
   ·have hyy : (dg 18446744073709551616 b).getD i 0 = 0 := by rw [DZ, Eo (by omega)]; rfl
    rw [hyy] at hB;refine .intro (by omega) (X1 _ (al rfl (by omega)) ?_);rw [hxx];refine X1 _ (jY x 0 c hx (by omega) h3) ?_;refine .intro (by omega) (And.intro (by simp <;> omega) ?_);refine X1 _ (al rfl (by omega)) ?_;refine X1 ((i + 1 : Nat) : Int) (wI1 (by omega)) ?_;refine ⟨(i + 1, out.set i ((x + 18446744073709551616 - 0 - c) % 18446744073709551616), if x < 0 + c then 1 else 0), ⟨by omega, by simp [h2], h6.set (by omega), by split <;> omega, ?_⟩, by show _ - (i + 1) < _ - i; omega, ⟨rfl, rfl, rfl, rfl, rfl, rfl, rfl, trivial⟩, ⟨rfl, rfl, rfl, aB nRow_set, trivial⟩⟩;have hst := dh 18446744073709551616 out (i := i) (v := (x + 18446744073709551616 - 0 - c) % 18446744073709551616) (by omega);rw [hst, hA, hB];have key : x + 18446744073709551616 * (if x < 0 + c then 1 else 0) = (x + 18446744073709551616 - 0 - c) % 18446744073709551616 + 0 + c := by split <;> omega
    have k2 := congrArg (18446744073709551616 ^ i * ·) key;simp only [Er] at k2;rw [EI, Ee];omega
  ·have e : i = (dg 18446744073709551616 a).length := by omega
   subst e;refine ⟨out, ⟨h6, ?_, by omega⟩, ⟨rfl, rfl, trivial⟩, ⟨rfl, rfl, trivial⟩⟩;rw [aW (D1 _), aW hlb, aW (by omega), bl (by omega), bl (by omega)] at h4;have h7 := eL (by omega : 0 < 18446744073709551616) h6;rw [h2] at h7;have h8 : c = 0 := by
    rcases FI c with h | h
    ·exact h
    ·have : c = 1 := by omega
     subst this;omega
   subst h8;omega
 ·obtain ⟨h1, h2, h3⟩ := hl;refine X2 .frz ?_;refine X1 _ (d9 l h3) ?_;rw [cS (by omega) h1, h2];exact ⟨trivial, rc rfl, r1 rfl, trivial⟩
def aM (l : List Int) : List (List PC) := l.map fun x => [eI .i64 x]
abbrev iSl (l : List Int) : PC := .sl 1 (aM l)
theorem ae {l : List Int} : (aM l).length = l.length := by simp [aM]
theorem bc {l : List Int} {i : Int} {n : Nat} (h0 : i = n) (h : n < l.length) : (aM l)[i.toNat]? = some [eI .i64 (l.getD n 0)] := by
 subst h0;simp [aM, h]
theorem tw {l m : List Int} {i : Nat} (hl : i < l.length) (hm : i < m.length) (h : l.getD i 0 = m.getD i 0) : l[i]? = m[i]? := by
 rw [DZ, DZ, Em hl, Em hm] at h;rw [Em hl, Em hm];exact congrArg some h
theorem jZ {l m : List Int} {i : Nat} (hl : i < l.length) (hm : i < m.length) (h0 : l.take i = m.take i) (h : l.getD i 0 = m.getD i 0) : l.take (i + 1) = m.take (i + 1) := by
 rw [List.take_add_one, List.take_add_one, h0, tw hl hm h]
theorem rp (l m : List Int) (hl : l.length ≤ 1000000) (hm : m.length ≤ 1000000) : Ct P 170 [.c (iSl l), .c (iSl m)] [.c (.sc (.bool (decide (l = m))))] := by
 refine Ct.go aj aa (N := 26) Tryz.func170 rfl rfl rfl rfl ?_;refine .intro (by rw [ae]; omega) ?_;refine .intro (by rw [ae]; omega) ?_;rw [ae, ae];refine dL (fun h => ?_) (fun h => ?_)
 ·have hne : l ≠ m := fun e => h (by rw [e])
  rw [decide_eq_false hne];exact ⟨trivial, r1 rfl, trivial⟩
 ·refine .intro (by rw [ae]; omega) ?_;rw [ae];refine au aj aa (fun i : Nat => i ≤ l.length ∧ l.take i = m.take i) (fun i => [(0, .c (iSl l)), (1, .c (iSl m)), (12, .c (nI .i64 l.length)), (13, .c (nI .i64 i))]) (fun _ => []) (fun i => l.length - i)
   0 ⟨by omega, rfl⟩ ⟨rfl, rfl, rfl, rfl, trivial⟩ trivial (fun _ : Unit => l = m) (fun _ => []) (fun _ => []) (fun i hi => ?_) (fun _ he => ?_)
  ·obtain ⟨h1, h2⟩ := hi;refine ah (fun h5 => ?_) (fun h5 => ?_)
   ·refine .intro (by omega) (X1 _ (bc rfl (by omega)) ?_);refine .intro (by omega) (X1 _ (bc rfl (by omega)) ?_);refine .intro rfl ?_;refine dL (fun h6 => ?_) (fun h6 => ?_)
    ·have hne : l ≠ m := fun e => h6 (by rw [e])
     rw [decide_eq_false hne];exact ⟨trivial, r1 rfl, trivial⟩
    ·refine X1 ((i + 1 : Nat) : Int) (wI1 (by omega)) ?_;exact ⟨i + 1, ⟨by omega, jZ (by omega) (by omega) h2 h6⟩, by omega, ⟨rfl, rfl, rfl, rfl, trivial⟩, trivial⟩
   ·have e : i = l.length := by omega
    subst e;rw [EE, EG (by omega)] at h2;exact ⟨(), h2, trivial, trivial⟩
  ·rw [decide_eq_true he];exact ⟨trivial, r1 rfl, trivial⟩
theorem pY (l m : List Int) (hl : l.length ≤ 1000000) (hm : m.length ≤ 1000000) : Ct P 10 [.c (iSl l), .c (iSl m)] [.c (.sc (.bool (decide (l = m))))] := by
 refine Ct.go aj aa (N := 26) Tryz.func10 rfl rfl rfl rfl ?_;refine .intro (by rw [ae]; omega) ?_;refine .intro (by rw [ae]; omega) ?_;rw [ae, ae];refine dL (fun h => ?_) (fun h => ?_)
 ·have hne : l ≠ m := fun e => h (by rw [e])
  rw [decide_eq_false hne];exact ⟨trivial, r1 rfl, trivial⟩
 ·refine au aj aa (fun i : Nat => i ≤ l.length ∧ l.take i = m.take i) (fun i => [(0, .c (iSl l)), (1, .c (iSl m)), (5, .c (nI .i64 i))]) (fun _ => []) (fun i => l.length - i)
   0 ⟨by omega, rfl⟩ ⟨rfl, rfl, rfl, trivial⟩ trivial (fun _ : Unit => l = m) (fun _ => []) (fun _ => []) (fun i hi => ?_) (fun _ he => ?_)
  ·obtain ⟨h1, h2⟩ := hi;refine .intro (by rw [ae]; omega) ?_;rw [ae];refine ah (fun h5 => ?_) (fun h5 => ?_)
   ·refine .intro (by omega) (X1 _ (bc rfl (by omega)) ?_);refine .intro (by omega) (X1 _ (bc rfl (by omega)) ?_);refine .intro rfl ?_;refine dL (fun h6 => ?_) (fun h6 => ?_)
    ·have hne : l ≠ m := fun e => h6 (by rw [e])
     rw [decide_eq_false hne];exact ⟨trivial, r1 rfl, trivial⟩
    ·refine X1 ((i + 1 : Nat) : Int) (wI1 (by omega)) ?_;exact ⟨i + 1, ⟨by omega, jZ (by omega) (by omega) h2 h6⟩, by omega, ⟨rfl, rfl, rfl, trivial⟩, trivial⟩
   ·have e : i = l.length := by omega
    subst e;rw [EE, EG (by omega)] at h2;exact ⟨(), h2, trivial, trivial⟩
  ·rw [decide_eq_true he];exact ⟨trivial, r1 rfl, trivial⟩
def idx (x : Int) : List Int → Int
 | [] => -1
 | y :: l => if x = y then 0 else if idx x l < 0 then -1 else idx x l + 1
theorem rq (x : Int) : ∀ (l : List Int) (i : Nat), (∀ j, j < i → l[j]? ≠ some x) → l[i]? = some x → idx x l = i
 | [], i, _, h => by simp at h
 | y :: l, 0, _, h => by simp at h; simp [idx, h]
 | y :: l, i + 1, h1, h => by
  have h0 : y ≠ x := fun e => h1 0 (by omega) (by simp [e])
  have := rq x l i (fun j hj => by simpa using h1 (j + 1) (by omega)) (by simpa using h);simp only [idx, this];rw [if_neg (fun e => h0 e.symm), if_neg (by omega)];simp
theorem rr (x : Int) : ∀ (l : List Int), (∀ j : Nat, l[j]? ≠ some x) → idx x l = -1
 | [], _ => rfl
 | y :: l, h => by
  have h0 : y ≠ x := fun e => h 0 (by simp [e])
  have := rr x l (fun j => by simpa using h (j + 1));simp only [idx, this];rw [if_neg (fun e => h0 e.symm), if_pos (by omega)]
theorem yb (l : List Int) (x : Int) (hl : l.length ≤ 1000000) : Ct P 95 [.c (iSl l), .c (eI .i64 x)] [.c (eI .i64 (idx x l))] := by
 refine Ct.go aj aa (N := 19) Tryz.func95 rfl rfl rfl rfl ?_;refine .intro (by rw [ae]; omega) ?_;rw [ae];refine au aj aa (fun i : Nat => i ≤ l.length ∧ ∀ j, j < i → l[j]? ≠ some x) (fun i => [(0, .c (iSl l)), (1, .c (eI .i64 x)), (7, .c (nI .i64 l.length)), (8, .c (nI .i64 i))]) (fun _ => []) (fun i => l.length - i)
  0 ⟨by omega, fun j hj => by omega⟩ ⟨rfl, rfl, rfl, rfl, trivial⟩ trivial (fun _ : Unit => idx x l = -1) (fun _ => []) (fun _ => []) (fun i hi => ?_) (fun _ he => ?_)
 ·obtain ⟨h1, h2⟩ := hi;refine ah (fun h5 => ?_) (fun h5 => ?_)
  ·refine .intro (by omega) (X1 _ (bc rfl (by omega)) ?_);have hg : l[i]? = some (l.getD i 0) := by simp [DZ, (by omega : i < l.length)]
   refine aV (fun h6 => ?_) (fun h6 => ?_)
   ·exact ⟨trivial, r1 (iE (rq x l i h2 (by rw [hg, h6])).symm), trivial⟩
   ·refine X1 ((i + 1 : Nat) : Int) (wI1 (by omega)) ?_;refine ⟨i + 1, ⟨by omega, fun j hj => ?_⟩, by omega, ⟨rfl, rfl, rfl, rfl, trivial⟩, trivial⟩;by_cases hji : j = i
    ·subst hji;rw [hg];intro e;exact h6 (FG e).symm
    ·exact h2 j (by omega)
  ·refine ⟨(), rr x l (fun j => ?_), trivial, trivial⟩;by_cases hj : j < i
   ·exact h2 j hj
   ·rw [Eo (by omega)]; simp
 ·exact ⟨trivial, r1 (iE he.symm), trivial⟩
theorem g9 (l : List Int) (x : Int) (hl : l.length ≤ 1000000) : Ct P 44 [.c (iSl l), .c (eI .i64 x)] [.c (.sc (.bool (decide (idx x l ≥ 0))))] := by
 refine Ct.go aj aa (N := 9) Tryz.func44 rfl rfl rfl rfl ?_;refine X1 _ (yb l x hl) ?_;exact ⟨trivial, r1 rfl, trivial⟩
def aD : List Int → List Int → Int
 | [], [] => 0
 | [], _ :: _ => -1
 | _ :: _, [] => 1
 | x :: l, y :: m => if bC x y ≠ 0 then bC x y else aD l m
theorem tx (l m : List Int) (hl : l.length ≤ 1000000) (hm : m.length ≤ 1000000) : Ct P 185 [.c (iSl l), .c (iSl m)] [.c (eI .i64 (aD l m))] := by
 refine Ct.go aj aa (N := 36) Tryz.func185 rfl rfl rfl rfl ?_;refine .intro (by rw [ae]; omega) ?_;rw [ae];refine au aj aa (fun i : Nat => i ≤ l.length ∧ i ≤ m.length ∧ aD l m = aD (l.drop i) (m.drop i)) (fun i => [(0, .c (iSl l)), (1, .c (iSl m)), (9, .c (iSl l)), (10, .c (nI .i64 l.length)), (11, .c (nI .i64 i))]) (fun _ => []) (fun i => l.length - i)
  0 ⟨by omega, by omega, rfl⟩ ⟨rfl, rfl, rfl, rfl, rfl, trivial⟩ trivial (fun _ : Unit => l.length ≤ m.length ∧ aD l m = if l.length < m.length then -1 else 0) (fun _ => [(0, .c (iSl l)), (1, .c (iSl m))]) (fun _ => []) (fun i hi => ?_) (fun _ he => ?_)
 ·obtain ⟨h1, h2, h3⟩ := hi;refine ah (fun h5 => ?_) (fun h5 => ?_)
  ·refine .intro (by omega) (X1 _ (bc rfl (by omega)) ?_);refine .intro (by rw [ae]; omega) ?_;rw [ae];have dl : l.drop i = l.getD i 0 :: l.drop (i + 1) := by
    rw [Ew (by omega)]; simp [DZ, (by omega : i < l.length)]
   refine ah (fun h6 => ?_) (fun h6 => ?_)
   ·have dm : m.drop i = [] := Fh (by omega);rw [dl, dm, aD] at h3;exact ⟨trivial, r1 (iE h3.symm), trivial⟩
   ·have dm : m.drop i = m.getD i 0 :: m.drop (i + 1) := by
     rw [Ew (by omega)]; simp [DZ, (by omega : i < m.length)]
    rw [dl, dm, aD] at h3;refine .intro (by omega) (X1 _ (bc rfl (by omega)) ?_);refine X1 _ (mm _ _) ?_;refine dL (fun h7 => ?_) (fun h7 => ?_)
    ·rw [if_pos h7] at h3;exact ⟨trivial, r1 (iE h3.symm), trivial⟩
    ·rw [if_neg (fun h => h h7)] at h3;refine X1 ((i + 1 : Nat) : Int) (wI1 (by omega)) ?_;exact ⟨i + 1, ⟨by omega, by omega, h3⟩, by omega, ⟨rfl, rfl, rfl, rfl, rfl, trivial⟩, trivial⟩
  ·have e : i = l.length := by omega
   subst e;refine ⟨(), ⟨h2, ?_⟩, ⟨rfl, rfl, trivial⟩, trivial⟩;rw [h3, Fy]
   cases hd : m.drop l.length with
   | nil =>
    have := List.drop_eq_nil_iff.1 hd;rw [if_neg (by omega)]; rfl
   | cons y t =>
    have : ¬ m.length ≤ l.length := fun h => by rw [Fh h] at hd; cases hd
    rw [if_pos (by omega)]; rfl
 ·obtain ⟨h1, h2⟩ := he;refine .intro (by rw [ae]; omega) ?_;refine .intro (by rw [ae]; omega) ?_;rw [ae, ae];refine ah (fun h5 => ?_) (fun h5 => ?_)
  ·rw [if_pos (by omega)] at h2;exact ⟨trivial, r1 (iE h2.symm), trivial⟩
  ·rw [if_neg (by omega)] at h2;exact ⟨trivial, r1 (iE h2.symm), trivial⟩
theorem fD (l m : List Int) (hl : l.length ≤ 1000000) (hm : m.length ≤ 1000000) : Ct P 166 [.c (iSl l), .c (iSl m)] [.c (eI .i64 (aD l m))] := by
 refine Ct.go aj aa (N := 8) Tryz.func166 rfl rfl rfl rfl ?_;refine X1 _ (tx l m hl hm) ?_;exact ⟨trivial, r1 rfl, trivial⟩
theorem aZ {l : List Int} : ax (aM l) := by
 intro el h;obtain ⟨x, _, rfl⟩ := Ez.1 h;rfl
end
section
theorem yc {H : Type} (d : DataW H) : 1 ≤ Rows.uptoBulk d := by
 cases d with
 | lit l => cases l <;> simp [Rows.uptoBulk]
 | _ => simp [Rows.uptoBulk]
theorem vF {H : Type} {d : DataW H} {l : List (DataW H)} (h : d ∈ l) : Rows.uptoBulk d ≤ Rows.uptoBulkAll l := by
 induction l with
 | nil => cases h
 | cons x r ih =>
  simp only [Rows.uptoBulkAll]
  cases Ey.1 h with
  | inl e => subst e; omega
  | inr e => have := ih e; omega
theorem yd {H : Type} (l : List (DataW H)) : l.length ≤ Rows.uptoBulkAll l := by
 induction l with
 | nil => simp [Rows.uptoBulkAll]
 | cons x r ih => have := yc x; simp only [Rows.uptoBulkAll, EA]; omega
theorem ux {α : Type} {R : Nat → α → Prop} : ∀ (n : Nat), (∀ i, i < n → ∃ y, R i y) → ∃ l : List α, l.length = n ∧ ∀ (i : Nat) x, l[i]? = some x → R i x
 | 0, _ => ⟨[], rfl, fun i x h => by simp at h⟩
 | n + 1, h => by
  obtain ⟨l, h1, h2⟩ := ux n fun i hi => h i (by omega)
  obtain ⟨y, hy⟩ := h n (by omega);refine ⟨l ++ [y], by simp [h1], fun i x hx => ?_⟩;rcases Fm i n with hlt | rfl | hgt
  ·rw [D9 (by omega)] at hx; exact h2 i x hx
  ·rw [D7 (by omega), h1, Gy] at hx;cases hx; exact hy
  ·rw [Eo (by simp; omega)] at hx; cases hx
section
variable {H : Type} {enc : TypeId × Value → H} {W : World} {sp : Nat → Bool} {held : Bool}
abbrev okW (W : World) : Nat → Prop := fun b => b < W.heap.size
theorem ye {t e sz : Nat} (ht : P.underlying t = some (.slice e)) (hc : P.cellsOf e = sz) (hsz : 0 < sz) {α : Type} (R : α → List PC) (hR : ∀ x, (R x).length = sz) (B : Nat) (hB : B ≤ 140737488355328) (Q : α → Prop)
  (elem : ∀ (n : Nat) (cs : List Value) (y : DataW H × List MemPlace), DataW.trod enc P W 0 sp held n e cs = some y → Rows.uptoBulk y.1 ≤ B → ∃ x, Q x ∧ ∀ (i : Nat) c, (R x)[i]? = some c → ∃ u, cs[i]? = some u ∧ Rel (okW W) W c u)
  {fuel : Nat} {cs : List Value} {y : DataW H × List MemPlace} (h : DataW.trod enc P W 0 sp held fuel t cs = some y) (hb : Rows.uptoBulk y.1 ≤ B) :
  ∃ (v : Value) (l : List α), cs = [v] ∧ l.length ≤ B ∧ (∀ x, x ∈ l → Q x) ∧ Rel (okW W) W (.sl sz (l.map R)) v := by
 rcases DataW.trod_slice ht h with ⟨rfl, rfl⟩ | ⟨a, len, cap, elems, rest, n, rfl, rfl, rfl, _, hl, hm, hlen, hel, _⟩
 ·exact ⟨_, [], rfl, by simp, fun x hx => by simp at hx, .sl0⟩
 ·simp only [Rows.uptoBulk] at hb;have hlb := yd (elems.map (·.1));rw [EP] at hlb;have each : ∀ i, i < len → ∃ x : α, Q x ∧ ∀ (q : Nat) c, (R x)[q]? = some c → ∃ u, W.cell? ((a.add (i * sz)).add q) = some u ∧ Rel (okW W) W c u := by
   intro i hi;have h1 := hel i hi;rw [Em (by omega), Option.bind_eq_some_iff] at h1;obtain ⟨cs', hcs, hy⟩ := h1;rw [hc] at hcs;obtain ⟨_, hcl, hcg⟩ := World.cells?_some hcs;have hbe : Rows.uptoBulk (elems[i]).1 ≤ B := by
    have := vF (d := (elems[i]).1) (l := elems.map (·.1)) (Ez.2 ⟨_, Ec _, rfl⟩);omega
   obtain ⟨x, hq, hx⟩ := elem n cs' _ hy hbe;refine ⟨x, hq, fun q c hqc => ?_⟩;obtain ⟨u, hu, hr⟩ := hx q c hqc;exact ⟨u, (hcg q (by rw [← hR x]; exact (D2.1 hqc).1)).trans hu, hr⟩
  obtain ⟨l, hll, hlx⟩ := ux len each;refine ⟨_, l, rfl, by omega, fun x hx => ?_, ?_⟩
  ·obtain ⟨i, hi⟩ := FS.1 hx;exact (hlx i x hi).1
  ·by_cases h0 : len = 0
   ·subst h0;have : l = [] := Ev.1 hll;subst this;exact .sl0
   ·obtain ⟨b, off, spot⟩ := a;have hcell : ∀ (j q : Nat) x c, l[j]? = some x → (R x)[q]? = some c → ∃ u, W.cell? (((⟨b, off, spot⟩ : Addr).add (j * sz)).add q) = some u ∧ Rel (okW W) W c u := fun j q x c hj hq => (hlx j x hj).2 q c hq
    have hpos : 0 < l.length := by rw [hll]; exact Eu h0
    obtain ⟨x0, hx0⟩ : ∃ x0, l[0]? = some x0 := ⟨l[0]'hpos, Em hpos⟩;have hposR : 0 < (R x0).length := by rw [hR]; exact hsz
    obtain ⟨c0, hc0⟩ : ∃ c0, (R x0)[0]? = some c0 := ⟨(R x0)[0]'hposR, Em hposR⟩;obtain ⟨u0, hu0, _⟩ := hcell 0 0 _ _ hx0 hc0;have hu0' : W.cell? ⟨b, off, spot⟩ = some u0 := by simpa [Addr.add] using hu0
    have hspot : spot = none := by simpa using World.cell?_spot hu0'
    subst hspot;have hblk : b < W.heap.size := by
     unfold World.cell? at hu0'
     cases hbb : W.heap[b]? with
     | none => simp [hbb] at hu0'
     | some o => exact (Et.1 hbb).1
    have hadd : ∀ j q : Nat, (((⟨b, off, none⟩ : Addr).add (j * sz)).add q) = ⟨b, off + (j * sz + q), none⟩ := fun j q => by
     rw [Addr.add_lit, Addr.add_lit, E3]
    have hlm : (l.map R).length = len := by rw [EP, hll]
    rw [← hlm];have key : ∀ (j i : Nat) (el : List PC) (x : PC), (l.map R)[j]? = some el → el[i]? = some x → ∃ u, W.cell? ⟨b, off + (j * sz + i), none⟩ = some u ∧ Rel (okW W) W x u := fun j i el x hj hi => by
     rw [Eb, D6] at hj;obtain ⟨z, hz, rfl⟩ := hj;obtain ⟨u, hu, hr⟩ := hcell j i z x hz hi;rw [hadd] at hu;exact ⟨u, hu, hr⟩
    refine .sl (fun j i => (W.cell? ⟨b, off + (j * sz + i), none⟩).getD (.bool true)) (by rw [hlm]; exact hl) (by rw [hlm, dG]; exact D4 (by omega) hB) hblk hblk (fun j el hj => ?_) (fun j i el x hj hi => ?_) (fun j i el x hj hi => ?_)
    ·rw [Eb, D6] at hj;obtain ⟨z, _, rfl⟩ := hj;exact hR z
    ·obtain ⟨u, hu, _⟩ := key j i el x hj hi;rw [hu]; rfl
    ·obtain ⟨u, hu, hr⟩ := key j i el x hj hi;rw [hu]; exact hr
end
end
section
section
variable {H : Type} {enc : TypeId × Value → H} {W : World} {sp : Nat → Bool} {held : Bool} {B : Nat}
theorem Cb {n : Int} (h : (Lit.int .i64 n).wf = true) : inR .i64 n := by
 have : -9223372036854775808 ≤ n ∧ n ≤ 9223372036854775807 := by simpa [Lit.wf, IntKind.min, IntKind.max, IntKind.signed, IntKind.bits] using h
 exact this
theorem Cc {n : Nat} {cs : List Value} {y : DataW H × List MemPlace} (h : DataW.trod enc P W 0 sp held n 3 cs = some y) : ∃ z : Int, cs = [.int .i64 z] ∧ Rel (okW W) W (eI .i64 z) (.int .i64 z) := by
 obtain ⟨z, rfl, rfl, hw⟩ := DataW.trod_int Tryz.underlying3 h;exact ⟨z, rfl, .sc (Cb hw)⟩
theorem rd_ints (hB : B ≤ 140737488355328) {n : Nat} {cs : List Value} {y : DataW H × List MemPlace} (h : DataW.trod enc P W 0 sp held n 22 cs = some y) (hb : Rows.uptoBulk y.1 ≤ B) :
  ∃ (v : Value) (l : List Int), cs = [v] ∧ l.length ≤ B ∧ Rel (okW W) W (iSl l) v := by
 obtain ⟨v, l, h1, h2, _, h4⟩ := ye Tryz.underlying22 (sz := 1) (by kernel_rfl) (by omega) (fun z : Int => [eI .i64 z]) (fun _ => rfl) B hB (fun _ => True) (fun n cs y h _ => by
  obtain ⟨z, rfl, hr⟩ := Cc h;refine ⟨z, trivial, fun i c hi => ?_⟩
  cases i with
  | zero => cases hi; exact ⟨_, rfl, hr⟩
  | succ i => simp at hi) h hb
 exact ⟨v, l, h1, h2, h4⟩
end
end
section
abbrev Cnt := List Int × Int
def ci (l : List Cnt) : List (List PC) := l.map fun x => [iSl x.1, eI .i64 x.2]
abbrev cSl (l : List Cnt) : PC := .sl 2 (ci l)
def aU (L : List (List Cnt)) : List (List PC) := L.map fun l => [cSl l]
abbrev cE (L : List (List Cnt)) : PC := .sl 1 (aU L)
theorem cRow_len {l : List Cnt} : (ci l).length = l.length := by simp [ci]
theorem ay {l : List (List Cnt)} : (aU l).length = l.length := by simp [aU]
theorem bD {l : List Cnt} {i : Int} {n : Nat} (h0 : i = n) (h : n < l.length) : (ci l)[i.toNat]? = some [iSl l[n].1, eI .i64 l[n].2] := by
 subst h0;simp [ci, h]
theorem cw {l : List (List Cnt)} {i : Int} {n : Nat} (h0 : i = n) (h : n < l.length) : (aU l)[i.toNat]? = some [cSl l[n]] := by
 subst h0;simp [aU, h]
structure CLim (l : List Cnt) : Prop where
 len : l.length ≤ 1000000
 g : ∀ x, x ∈ l → x.1.length ≤ 1000000
structure CCLim (L : List (List Cnt)) : Prop where
 len : L.length ≤ 1000000
 l : ∀ l, l ∈ L → CLim l
theorem CLim.at' {l : List Cnt} (h : CLim l) {i : Nat} (hi : i < l.length) : l[i].1.length ≤ 1000000 := h.g _ (Ec hi)
theorem CCLim.at' {L : List (List Cnt)} (h : CCLim L) {i : Nat} (hi : i < L.length) : CLim L[i] := h.l _ (Ec hi)
theorem e9 {l : List Int} {i : Nat} (h : i < l.length) : l.drop i = l.getD i 0 :: l.drop (i + 1) := by
 rw [Ew h]; simp [DZ, h]
theorem np {l m : List Int} {i : Nat} (h1 : i ≤ l.length) (h2 : i ≤ m.length) (h3 : i = l.length ∨ i = m.length) (h : aD l m = aD (l.drop i) (m.drop i)) : aD l m = if l.length < m.length then -1 else if l.length > m.length then 1 else 0 := by
 rw [h];rcases Fm l.length m.length with hl | hl | hl
 ·have : i = l.length := by omega
  subst this;rw [if_pos hl, Fy, e9 hl]; rfl
 ·have e1 : l.drop i = [] := Fh (by omega);have e2 : m.drop i = [] := Fh (by omega);rw [e1, e2, if_neg (by omega), if_neg (by omega)]; rfl
 ·have : i = m.length := by omega
  subst this;rw [if_neg (by omega), if_pos hl, Fy, e9 hl]; rfl
theorem rt (l m : List Int) (hl : l.length ≤ 1000000) (hm : m.length ≤ 1000000) : Ct P 178 [.c (iSl l), .c (iSl m)] [.c (eI .i64 (aD l m))] := by
 refine Ct.go aj aa (N := 46) Tryz.func178 rfl rfl rfl rfl ?_;refine au aj aa (fun i : Nat => i ≤ l.length ∧ i ≤ m.length ∧ aD l m = aD (l.drop i) (m.drop i)) (fun i => [(0, .c (iSl l)), (1, .c (iSl m)), (5, .c (nI .i64 i))]) (fun _ => []) (fun i => l.length - i)
  0 ⟨by omega, by omega, rfl⟩ ⟨rfl, rfl, rfl, trivial⟩ trivial (fun _ : Unit => aD l m = if l.length < m.length then -1 else if l.length > m.length then 1 else 0) (fun _ => [(0, .c (iSl l)), (1, .c (iSl m))]) (fun _ => []) (fun i hi => ?_) (fun _ he => ?_)
 ·obtain ⟨h1, h2, h3⟩ := hi;refine .intro (by rw [ae]; omega) ?_;rw [ae];refine ah (fun h5 => ?_) (fun h5 => ?_)
  ·refine .intro (by rw [ae]; omega) ?_;rw [ae];refine ah (fun h6 => ?_) (fun h6 => ?_)
   ·have hd := h3;rw [e9 (l := l) (i := i) (by omega), e9 (l := m) (i := i) (by omega), aD] at hd;refine .intro (by omega) (X1 _ (bc rfl (by omega)) ?_);refine .intro (by omega) (X1 _ (bc rfl (by omega)) ?_);refine .intro rfl ?_;refine ah (fun h7 => ?_) (fun h7 => ?_)
    ·have e : bC (l.getD i 0) (m.getD i 0) = -1 := by rw [bC, if_pos h7]
     rw [e, if_pos (by decide)] at hd;exact ⟨trivial, r1 (iE hd.symm), trivial⟩
    ·refine .intro (by omega) (X1 _ (bc rfl (by omega)) ?_);refine .intro (by omega) (X1 _ (bc rfl (by omega)) ?_);refine .intro rfl ?_;refine ah (fun h8 => ?_) (fun h8 => ?_)
     ·have e : bC (l.getD i 0) (m.getD i 0) = 1 := by rw [bC, if_neg h7, if_pos h8]
      rw [e, if_pos (by decide)] at hd;exact ⟨trivial, r1 (iE hd.symm), trivial⟩
     ·have e : bC (l.getD i 0) (m.getD i 0) = 0 := by rw [bC, if_neg h7, if_neg h8]
      rw [e, if_neg (by decide)] at hd;refine X1 ((i + 1 : Nat) : Int) (wI1 (by omega)) ?_;exact ⟨i + 1, ⟨by omega, by omega, hd⟩, by omega, ⟨rfl, rfl, rfl, trivial⟩, trivial⟩
   ·exact ⟨(), np h1 h2 (.inr (by omega)) h3, ⟨rfl, rfl, trivial⟩, trivial⟩
  ·exact ⟨(), np h1 h2 (.inl (by omega)) h3, ⟨rfl, rfl, trivial⟩, trivial⟩
 ·refine .intro (by rw [ae]; omega) ?_;refine .intro (by rw [ae]; omega) ?_;rw [ae, ae];refine ah (fun h5 => ?_) (fun h5 => ?_)
  ·rw [if_pos (by omega)] at he;exact ⟨trivial, r1 (iE he.symm), trivial⟩
  ·rw [if_neg (by omega)] at he;refine .intro (by rw [ae]; omega) ?_;refine .intro (by rw [ae]; omega) ?_;rw [ae, ae];refine ah (fun h6 => ?_) (fun h6 => ?_)
   ·rw [if_pos (by omega)] at he;exact ⟨trivial, r1 (iE he.symm), trivial⟩
   ·rw [if_neg (by omega)] at he;exact ⟨trivial, r1 (iE he.symm), trivial⟩
def cM (g : List Int) : List Cnt → Int
 | [] => -1
 | x :: l => if x.1 = g then 0 else if cM g l < 0 then -1 else cM g l + 1
theorem oU (g : List Int) : ∀ (l : List Cnt) (i : Nat) (h : i < l.length), (∀ (j : Nat) (hj : j < i), l[j].1 ≠ g) → l[i].1 = g → cM g l = i
 | [], i, h, _, _ => by simp at h
 | x :: l, 0, _, _, h => by simp at h; simp [cM, h]
 | x :: l, i + 1, hi, h1, h => by
  have h0 := h1 0 (by omega);have := oU g l i (by simpa using hi) (fun j hj => by simpa using h1 (j + 1) (by omega)) (by simpa using h);simp only [Gs] at h0;rw [cM, if_neg h0, this, if_neg (by omega)]; simp
theorem f9 (g : List Int) : ∀ (l : List Cnt), (∀ (j : Nat) (hj : j < l.length), l[j].1 ≠ g) → cM g l = -1
 | [], _ => rfl
 | x :: l, h => by
  have h0 := h 0 (by simp);have := f9 g l (fun j hj => h (j + 1) (Nat.succ_lt_succ hj));simp only [Gs] at h0;rw [cM, if_neg h0, this, if_pos (by omega)]
theorem blC {a b : Bool} (h : a = b) : (some (.c (.sc (.bool a))) : Option AV) = some (.c (.sc (.bool b))) := by rw [h]
structure WLim (l : List Cnt) : Prop where
 len : l.length ≤ 140737488355328
 g : ∀ x, x ∈ l → x.1.length ≤ 140737488355328
structure WWLim (L : List (List Cnt)) : Prop where
 len : L.length ≤ 140737488355328
 l : ∀ l, l ∈ L → WLim l
theorem WLim.at' {l : List Cnt} (h : WLim l) {i : Nat} (hi : i < l.length) : l[i].1.length ≤ 140737488355328 := h.g _ (Ec hi)
theorem WWLim.at' {L : List (List Cnt)} (h : WWLim L) {i : Nat} (hi : i < L.length) : WLim L[i] := h.l _ (Ec hi)
def cO (n : Nat) : Option (List Int) → List Cnt → Int
 | _, [] => 0
 | p, x :: l => if (x.1.length : Int) ≠ n + 1 then 1 else if x.2 < 1 then 8 else if (match p with | none => false | some q => decide (aD q x.1 ≥ 0)) = true then 9 else cO n (some x.1) l
def cT : Nat → List (List Cnt) → Int
 | _, [] => 0
 | n, l :: ls => if cO n none l ≠ 0 then cO n none l else cT (n + 1) ls
def fi (L : List (List Cnt)) : Int := if (L.length : Int) = 0 ∨ (L.length : Int) > 8 then 1 else cT 0 L
def j0 (l : List Cnt) : Nat → Option (List Int)
 | 0 => none
 | i + 1 => (l[i]?).map (·.1)
theorem hG {n : Nat} {p : Option (List Int)} {x : Cnt} {l : List Cnt} : cO n p (x :: l) = if (x.1.length : Int) ≠ n + 1 then 1 else if x.2 < 1 then 8 else if (match p with | none => false | some q => decide (aD q x.1 ≥ 0)) = true then 9 else cO n (some x.1) l := by cases p <;> rfl
theorem nq {n : Nat} {p : Option (List Int)} : cO n p [] = 0 := by cases p <;> rfl
theorem vG {n : Nat} {l : List Cnt} {i : Nat} (h : i < l.length) : cO n (j0 l i) (l.drop i) = if (l[i].1.length : Int) ≠ n + 1 then 1 else if l[i].2 < 1 then 8 else if (match j0 l i with | none => false | some q => decide (aD q l[i].1 ≥ 0)) = true then 9 else cO n (j0 l (i + 1)) (l.drop (i + 1)) := by
 have e : j0 l (i + 1) = some l[i].1 := by simp [j0, h]
 rw [Ew h, hG, e]
theorem nr {n : Nat} {L : List (List Cnt)} (h : n < L.length) {v : Int} (hv : cO n none L[n] = v) (h0 : v ≠ 0) : cT n (L.drop n) = v := by
 rw [Ew h, cT, hv, if_pos h0]
theorem ka {n : Nat} {L : List (List Cnt)} (h : n < L.length) (hv : cO n none L[n] = 0) : cT n (L.drop n) = cT (n + 1) (L.drop (n + 1)) := by
 rw [Ew h, cT, hv, if_neg (by simp)]
theorem vH (L : List (List Cnt)) (hL : CCLim L) : Ct P 127 [.c (cE L)] [.c (eI .i64 (fi L))] := by
 have hll := hL.len;refine Ct.go aj aa (N := 57) Tryz.func127 rfl rfl rfl rfl ?_;refine .intro (by rw [ay]; omega) ?_;rw [ay];refine aV (fun h0 => ?_) (fun h0 => ?_)
 ·exact ⟨trivial, r1 (iE (by rw [fi, if_pos (.inl h0)])), trivial⟩
 refine .intro (by rw [ay]; omega) ?_;rw [ay];refine ah (fun h1 => ?_) (fun h1 => ?_)
 ·exact ⟨trivial, r1 (iE (by rw [fi, if_pos (.inr h1)])), trivial⟩
 have hw : fi L = cT 0 L := by rw [fi, if_neg (by omega)]
 rw [hw];refine .intro (by rw [ay]; omega) ?_;rw [ay];refine au aj aa (fun n : Nat => n ≤ L.length ∧ cT 0 L = cT n (L.drop n)) (fun n => [(15, .c (cE L)), (16, .c (nI .i64 L.length)), (17, .c (nI .i64 n))]) (fun _ => []) (fun n => L.length - n)
  0 ⟨by omega, rfl⟩ ⟨rfl, rfl, rfl, trivial⟩ trivial (fun _ : Unit => cT 0 L = 0) (fun _ => []) (fun _ => []) (fun n hi => ?_) (fun _ he => ?_)
 ·obtain ⟨h2, h3⟩ := hi;refine ah (fun h4 => ?_) (fun h4 => ?_)
  ·have hn : n < L.length := by omega
   have hl := hL.at' hn;have hlen := hl.len;have hget := cw (l := L) (i := (n : Int)) (n := n) rfl hn;have hof := fun v => nr (n := n) (L := L) hn (v := v)
   have hnext := ka (n := n) (L := L) hn;generalize L[n] = l at *
   refine .intro (by omega) (X1 _ hget ?_);refine .intro (by rw [cRow_len]; omega) ?_;rw [cRow_len];refine b9 aj aa (fun i : Nat => i ≤ l.length ∧ cO n none l = cO n (j0 l i) (l.drop i)) (fun i => [(3, .c (nI .i64 n)), (4, .c (cSl l)), (15, .c (cE L)), (16, .c (nI .i64 L.length)), (17, .c (nI .i64 n)), (22, .c (cSl l)), (23, .c (nI .i64 l.length)), (24, .c (nI .i64 i))]) (fun _ => []) (fun i => l.length - i)
    0 ⟨by omega, rfl⟩ ⟨rfl, rfl, rfl, rfl, rfl, rfl, rfl, rfl, trivial⟩ trivial (fun i hi => ?_)
   ·obtain ⟨i1, i2⟩ := hi;refine ah (fun h5 => ?_) (fun h5 => ?_)
    ·have hi : i < l.length := by omega
     have hxl := hl.at' hi;have hx := bD (l := l) (i := (i : Int)) (n := i) rfl hi;rw [vG hi] at i2;refine .intro (by omega) (X1 _ hx ?_);refine .intro (by rw [ae]; omega) ?_;rw [ae];refine X1 ((n + 1 : Nat) : Int) (wI (by simp) (by omega) (by omega)) ?_;refine dL (fun h6 => ?_) (fun h6 => ?_)
     ·rw [if_pos (by simpa using h6)] at i2;exact ⟨trivial, r1 (iE (by rw [h3, hof 1 i2 (by decide)])), trivial⟩
     ·rw [if_neg (by simpa using h6)] at i2;refine ah (fun h7 => ?_) (fun h7 => ?_)
      ·rw [if_pos h7] at i2;exact ⟨trivial, r1 (iE (by rw [h3, hof 8 i2 (by decide)])), trivial⟩
      ·rw [if_neg h7] at i2;refine ah (fun h8 => ?_) (fun h8 => ?_)
       ·obtain ⟨j, rfl⟩ : ∃ j, i = j + 1 := ⟨i - 1, by omega⟩;have hp : j0 l (j + 1) = some l[j].1 := by simp [j0, (by omega : j < l.length)]
        rw [hp] at i2;refine X1 ((j : Nat) : Int) (wI (by omega) (by omega) (by omega)) ?_;refine .intro (by omega) (X1 _ (bD rfl (by omega)) ?_);refine X1 _ (fD l[j].1 l[j + 1].1 (hl.at' (by omega)) hxl) ?_;refine .intro rfl ?_;refine ah (fun h9 => ?_) (fun h9 => ?_)
        ·rw [if_pos (decide_eq_true h9)] at i2;exact ⟨trivial, r1 (iE (by rw [h3, hof 9 i2 (by decide)])), trivial⟩
        ·rw [if_neg (by simpa using h9)] at i2;refine X1 ((j + 1 + 1 : Nat) : Int) (wI (by simp) (by omega) (by omega)) ?_;exact ⟨j + 1 + 1, ⟨by omega, i2⟩, by omega, ⟨rfl, rfl, rfl, rfl, rfl, rfl, rfl, rfl, trivial⟩, trivial⟩
       ·have e0 : i = 0 := by omega
        subst e0;rw [if_neg (by simp [j0])] at i2;refine .intro rfl ?_;refine X1 ((0 + 1 : Nat) : Int) (wI (by simp) (by omega) (by omega)) ?_;exact ⟨0 + 1, ⟨by omega, i2⟩, by omega, ⟨rfl, rfl, rfl, rfl, rfl, rfl, rfl, rfl, trivial⟩, trivial⟩
    ·have e : i = l.length := by omega
     subst e;rw [Fy, nq] at i2;refine X1 ((n + 1 : Nat) : Int) (wI (by simp) (by omega) (by omega)) ?_;exact ⟨n + 1, ⟨by omega, by rw [h3, hnext i2]⟩, by omega, ⟨rfl, rfl, rfl, trivial⟩, trivial⟩
  ·have e : n = L.length := by omega
   subst e;rw [Fy] at h3;exact ⟨(), h3, trivial, trivial⟩
 ·rw [he];exact ⟨trivial, r1 rfl, trivial⟩
theorem iRow_sub {l : List Int} {a b : Nat} : ((aM l).drop a).take b = aM ((l.drop a).take b) := by simp [aM, List.map_take, List.map_drop]
def ahead (l : List Cnt) (g : List Int) : Nat := (l.filter fun x => decide (x.1.length = g.length + 1) && decide (x.1.drop 1 = g)).length
theorem yf (l : List Cnt) (g : List Int) (hl : CLim l) (hg : g.length ≤ 1000000) : Ct P 141 [.c (cSl l), .c (iSl g)] [.c (nI .i64 (ahead l g))] := by
 have hll := hl.len;refine Ct.go aj aa (N := 36) Tryz.func141 rfl rfl rfl rfl ?_;refine au aj aa (fun i : Nat => i ≤ l.length) (fun i => [(0, .c (cSl l)), (1, .c (iSl g)), (5, .c (nI .i64 (ahead (l.take i) g))), (6, .c (nI .i64 i))]) (fun _ => []) (fun i => l.length - i)
  0 (by omega) ⟨rfl, rfl, rfl, rfl, trivial⟩ trivial (fun _ : Unit => True) (fun _ => [(5, .c (nI .i64 (ahead l g)))]) (fun _ => []) (fun i hi => ?_) (fun _ _ => ?_)
 ·refine .intro (by rw [cRow_len]; omega) ?_;rw [cRow_len];refine ah (fun h5 => ?_) (fun h5 => ?_)
  ·have hi' : i < l.length := by omega
   have hxl := hl.at' hi';have hx := bD (l := l) (i := (i : Int)) (n := i) rfl hi';have hs : ahead (l.take (i + 1)) g = ahead (l.take i) g + (if l[i].1.length = g.length + 1 ∧ l[i].1.drop 1 = g then 1 else 0) := by
    unfold ahead;rw [D5 hi', Fj, D3];congr 1;by_cases h1 : l[i].1.length = g.length + 1
    ·by_cases h2 : l[i].1.drop 1 = g
     ·rw [EL (by rw [decide_eq_true h1, decide_eq_true h2]; rfl), if_pos ⟨h1, h2⟩]; rfl
     ·rw [ED (by rw [decide_eq_true h1, decide_eq_false h2]; simp), if_neg (fun h => h2 h.2)]; rfl
    ·rw [ED (by rw [decide_eq_false h1]; simp), if_neg (fun h => h1 h.1)]; rfl
   have ha : ahead (l.take i) g ≤ i := by
    unfold ahead;refine D4 (E4 _ _) ?_;rw [Ed]; omega
   generalize l[i] = x at *
   refine .intro (by omega) (X1 _ hx ?_);refine .intro (by rw [ae]; omega) ?_;refine .intro (by rw [ae]; omega) ?_;rw [ae, ae];refine X1 ((g.length + 1 : Nat) : Int) (wI (by simp) (by omega) (by omega)) ?_;refine aV (fun h6 => ?_) (fun h6 => ?_)
   ·have h6' : x.1.length = g.length + 1 := by omega
    refine .intro (by omega) (X1 _ hx ?_);refine ⟨1, x.1.length, by simp, by simp [ae], by omega, by rw [ae]; omega, ?_⟩;rw [iRow_sub, EG (show (x.1.drop 1).length ≤ x.1.length - 1 by rw [EJ]; exact D1 _)];refine X1 _ (pY _ g (by rw [EJ]; omega) hg) ?_;refine ah (fun h7 => ?_) (fun h7 => ?_)
    ·rw [if_pos ⟨h6', h7⟩] at hs;refine X1 ((ahead (l.take i) g + 1 : Nat) : Int) (wI (by simp) (by omega) (by omega)) ?_;refine X1 ((i + 1 : Nat) : Int) (wI1 (by omega)) ?_;exact ⟨i + 1, by omega, by omega, ⟨rfl, rfl, by rw [hs]; rfl, rfl, trivial⟩, trivial⟩
    ·rw [if_neg (fun h => h7 h.2)] at hs;refine X1 ((i + 1 : Nat) : Int) (wI1 (by omega)) ?_;exact ⟨i + 1, by omega, by omega, ⟨rfl, rfl, by rw [hs]; rfl, rfl, trivial⟩, trivial⟩
   ·rw [if_neg (fun h => h6 (by omega))] at hs;refine X1 ((i + 1 : Nat) : Int) (wI1 (by omega)) ?_;exact ⟨i + 1, by omega, by omega, ⟨rfl, rfl, by rw [hs]; rfl, rfl, trivial⟩, trivial⟩
  ·have e : i = l.length := by omega
   subst e;rw [EE];exact ⟨(), trivial, ⟨rfl, trivial⟩, trivial⟩
 ·exact ⟨trivial, r1 rfl, trivial⟩
def cF (L : List (List Cnt)) (n : Nat) (x : Cnt) : Cnt := if n + 1 < L.length ∧ x.1.getD 0 0 ≠ 1 then (x.1, (ahead (L.getD (n + 1) []) x.1 : Int)) else x
def ao (L : List (List Cnt)) : List (List Cnt) := (List.range L.length).map fun n => (L.getD n []).map (cF L n)
structure CCForm (L : List (List Cnt)) : Prop where
 lim : CCLim L
 form : ∀ (n : Nat) (h : n < L.length) (i : Nat) (hi : i < L[n].length), L[n][i].1.length = n + 1
theorem br {l : List Cnt} : ax (ci l) := by
 intro el h;obtain ⟨x, _, rfl⟩ := Ez.1 h;rfl
theorem kb {l : List (List Cnt)} : ax (aU l) := by
 intro el h;obtain ⟨x, _, rfl⟩ := Ez.1 h;rfl
theorem fj {l m : List Cnt} : ci l ++ ci m = ci (l ++ m) := by simp [ci]
theorem vI {l m : List (List Cnt)} : aU l ++ aU m = aU (l ++ m) := by simp [aU]
theorem ar {el : List PC} (h : closedL el = true) : ax [el] := by
 intro e he;simp only [EO] at he;subst he; exact h
theorem tz (L : List (List Cnt)) (hL : CCForm L) (hl8 : L.length ≤ 1000) : Ct P 92 [.c (cE L)] [.c (cE (ao L))] := by
 refine Ct.go aj aa (N := 60) Tryz.func92 rfl rfl rfl rfl ?_;refine jU (r := 50) (t := 3) (sz := 1) rfl rfl ?_;refine au aj aa (fun n : Nat => n ≤ L.length) (fun n => [(0, .c (cE L)), (3, .c (.ow 50 1 n)), (4, .c (nI .i64 n))]) (fun n => [(50, .row 1 (aU ((List.range n).map fun n => (L.getD n []).map (cF L n))))]) (fun n => L.length - n)
  0 (by omega) ⟨rfl, rfl, rfl, trivial⟩ ⟨rfl, trivial⟩ (fun _ : Unit => True) (fun _ => [(3, .c (.ow 50 1 L.length))]) (fun _ => [(50, .row 1 (aU (ao L)))]) (fun n hi => ?_) (fun _ he => ?_)
 ·refine .intro (by rw [ay]; omega) ?_;rw [ay];refine ah (fun h4 => ?_) (fun h4 => ?_)
  ·have hn : n < L.length := by omega
   have hl := hL.lim.at' hn;have hlen := hl.len;have hget := cw (l := L) (i := (n : Int)) (n := n) rfl hn;have hform := hL.form n hn;have hgd : L.getD n [] = L[n] := by simp [DZ, hn]
   refine jU (r := 51) (t := 5) (sz := 2) rfl rfl ?_;refine xf aj aa (fun i : Nat => i ≤ L[n].length) (fun i => [(0, .c (cE L)), (3, .c (.ow 50 1 n)), (4, .c (nI .i64 n)), (5, .c (.ow 51 2 i)), (6, .c (nI .i64 i))])
    (fun i => [(50, .row 1 (aU ((List.range n).map fun n => (L.getD n []).map (cF L n)))), (51, .row 2 (ci ((L[n].take i).map (cF L n))))]) (fun i => L[n].length - i)
    0 (by omega) ⟨rfl, rfl, rfl, rfl, rfl, trivial⟩ ⟨rfl, rfl, trivial⟩ (fun _ : Unit => True) (fun _ => [(0, .c (cE L)), (3, .c (.ow 50 1 n)), (4, .c (nI .i64 n)), (5, .c (.ow 51 2 L[n].length))])
    (fun _ => [(50, .row 1 (aU ((List.range n).map fun n => (L.getD n []).map (cF L n)))), (51, .row 2 (ci (L[n].map (cF L n))))]) (fun i hi => ?_) (fun _ _ => ?_)
   ·refine .intro (by omega) (X1 _ hget ?_);refine .intro (by rw [cRow_len]; omega) ?_;rw [cRow_len];refine ah (fun h5 => ?_) (fun h5 => ?_)
    ·have hi' : i < L[n].length := by omega
     have hxl := hl.at' hi';have hxf := hform i hi';have hx := bD (l := L[n]) (i := (i : Int)) (n := i) rfl hi';have e0 : (ci ((L[n].take i).map (cF L n))).length = i := by rw [cRow_len, EP, Ed]; omega
     have e1 : (L[n].take (i + 1)).map (cF L n) = (L[n].take i).map (cF L n) ++ [cF L n L[n][i]] := by
      rw [D5 hi', Fb]; rfl
     generalize L[n][i] = x at *
     refine .intro (by omega) (X1 _ hget ?_);refine .intro (by omega) (X1 _ hx ?_);refine .intro (by rw [ay]; omega) ?_;rw [ay];refine X1 ((L.length : Int) - 1) (wI rfl (by omega) (by omega)) ?_;refine ah (fun h6 => ?_) (fun h6 => ?_)
     ·refine .intro (by omega) (X1 _ (bc (n := 0) rfl (by omega)) ?_);refine dL (fun h7 => ?_) (fun h7 => ?_)
      ·have hc : cF L n x = (x.1, (ahead L[n + 1] x.1 : Int)) := by
        have : L.getD (n + 1) [] = L[n + 1] := by simp [DZ, (by omega : n + 1 < L.length)]
        rw [cF, if_pos ⟨by omega, h7⟩, this]
       rw [hc] at e1;refine X1 ((n + 1 : Nat) : Int) (wI (by simp) (by omega) (by omega)) ?_;refine .intro (by omega) (X1 _ (cw rfl (by omega)) ?_);refine X1 _ (yf L[n + 1] x.1 (hL.lim.at' (by omega)) hxl) ?_;refine .intro rfl ?_;refine ⟨e0.symm, by rw [e0]; show (i + 1 + 768) * 32 ≤ _; omega, by rw [e0]; show i + 1 ≤ _; omega, br, ar rfl, ?_⟩;refine X1 ((i + 1 : Nat) : Int) (wI1 (by omega)) ?_;exact ⟨i + 1, by omega, by omega, ⟨rfl, rfl, rfl, owE (by rw [D3, e0]; rfl), rfl, trivial⟩, ⟨rfl, aB (by rw [e1, ← fj]; rfl), trivial⟩⟩
      ·have hc : cF L n x = x := by rw [cF, if_neg (fun h => h.2 h7)]
       rw [hc] at e1;refine ⟨e0.symm, by rw [e0]; show (i + 1 + 768) * 32 ≤ _; omega, by rw [e0]; show i + 1 ≤ _; omega, br, ar rfl, ?_⟩;refine X1 ((i + 1 : Nat) : Int) (wI1 (by omega)) ?_;exact ⟨i + 1, by omega, by omega, ⟨rfl, rfl, rfl, owE (by rw [D3, e0]; rfl), rfl, trivial⟩, ⟨rfl, aB (by rw [e1, ← fj]; rfl), trivial⟩⟩
     ·have hc : cF L n x = x := by rw [cF, if_neg (fun h => h6 (by omega))]
      rw [hc] at e1;refine ⟨e0.symm, by rw [e0]; show (i + 1 + 768) * 32 ≤ _; omega, by rw [e0]; show i + 1 ≤ _; omega, br, ar rfl, ?_⟩;refine X1 ((i + 1 : Nat) : Int) (wI1 (by omega)) ?_;exact ⟨i + 1, by omega, by omega, ⟨rfl, rfl, rfl, owE (by rw [D3, e0]; rfl), rfl, trivial⟩, ⟨rfl, aB (by rw [e1, ← fj]; rfl), trivial⟩⟩
    ·have e : i = L[n].length := by omega
     subst e;exact ⟨(), trivial, ⟨rfl, rfl, rfl, rfl, trivial⟩, ⟨rfl, aB (by rw [EE]), trivial⟩⟩
   ·refine B1 aj aa [51] ?_;have e0 : (aU ((List.range n).map fun n => (L.getD n []).map (cF L n))).length = n := by rw [ay, EP, List.length_range]
    have e1 : (List.range (n + 1)).map (fun n => (L.getD n []).map (cF L n)) = (List.range n).map (fun n => (L.getD n []).map (cF L n)) ++ [L[n].map (cF L n)] := by
     rw [List.range_succ, Fb, ← hgd]; rfl
    refine ⟨e0.symm, by rw [e0]; show (n + 1 + 768) * 24 ≤ _; omega, by rw [e0]; show n + 1 ≤ _; omega, kb, ar rfl, ?_⟩;refine X1 ((n + 1 : Nat) : Int) (wI (by simp) (by omega) (by omega)) ?_;exact ⟨n + 1, by omega, by omega, ⟨rfl, owE (by rw [D3, e0]; rfl), rfl, trivial⟩, ⟨aB (by rw [e1, ← vI]; rfl), trivial⟩⟩
  ·have e : n = L.length := by omega
   subst e;exact ⟨(), trivial, ⟨rfl, trivial⟩, ⟨rfl, trivial⟩⟩
 ·exact ⟨trivial, r1 rfl, trivial⟩
end
end Go.Proofs.YtgceikecdedfcaaGreat.Pv
