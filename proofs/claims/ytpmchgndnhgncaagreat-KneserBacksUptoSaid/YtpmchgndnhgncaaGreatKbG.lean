/- Parts of a proof, joined: PvTy Da Cc Cd Ce Cg. -/
import Derived.Test.YtpmchgndnhgncaaGreatKbF
import Derived.Test.YtpmchgndnhgncaaGreatChecked
import Derived.KernelRfl
import Derived.Shelf.Spec.BitsCarry
namespace Go.Proofs.YtpmchgndnhgncaaGreat.Pv
open Go
set_option maxRecDepth 100000
def ty1 : TD := ⟨.oth, 1, 8, false, [.nilFunc]⟩
theorem ty1_ok : ty1.ok Tryz.prog 1 := ⟨⟨by kernel_rfl, by kernel_rfl⟩, trivial⟩
def ty2 : TD := ⟨.int .i64, 1, 8, false, [.int .i64 0]⟩
theorem ty2_ok : ty2.ok Tryz.prog 2 := ⟨⟨by kernel_rfl, by kernel_rfl⟩, (show Tryz.prog.underlying 2 = some (.int .i64) by kernel_rfl)⟩
def ty3 : TD := ⟨.int .i64, 1, 8, false, [.int .i64 0]⟩
theorem ty3_ok : ty3.ok Tryz.prog 3 := ⟨⟨by kernel_rfl, by kernel_rfl⟩, (show Tryz.prog.underlying 3 = some (.int .i64) by kernel_rfl)⟩
def ty4 : TD := ⟨.oth, 1, 1, false, [.bool false]⟩
theorem ty4_ok : ty4.ok Tryz.prog 4 := ⟨⟨by kernel_rfl, by kernel_rfl⟩, trivial⟩
def ty5 : TD := ⟨.int .u8, 1, 1, false, [.int .u8 0]⟩
theorem ty5_ok : ty5.ok Tryz.prog 5 := ⟨⟨by kernel_rfl, by kernel_rfl⟩, (show Tryz.prog.underlying 5 = some (.int .u8) by kernel_rfl)⟩
def ty6 : TD := ⟨.int .u8, 1, 1, false, [.int .u8 0]⟩
theorem ty6_ok : ty6.ok Tryz.prog 6 := ⟨⟨by kernel_rfl, by kernel_rfl⟩, (show Tryz.prog.underlying 6 = some (.int .u8) by kernel_rfl)⟩
def ty7 : TD := ⟨.st [(0, 2, 1), (1, 3, 1), (2, 4, 1), (3, 6, 1)], 4, 24, true, [.int .i64 0, .int .i64 0, .bool false, .int .u8 0]⟩
theorem ty7_ok : ty7.ok Tryz.prog 7 := ⟨⟨by kernel_rfl, by kernel_rfl⟩, ⟨fun f off ft n h => by
    match f, h with
    | 0, h => cases h; exact ⟨by kernel_rfl⟩
    | 1, h => cases h; exact ⟨by kernel_rfl⟩
    | 2, h => cases h; exact ⟨by kernel_rfl⟩
    | 3, h => cases h; exact ⟨by kernel_rfl⟩
    | f + 4, h => simp at h, ⟨by kernel_rfl⟩⟩⟩
def ty8 : TD := ⟨.st [(0, 2, 1), (1, 3, 1), (2, 4, 1), (3, 6, 1)], 4, 24, true, [.int .i64 0, .int .i64 0, .bool false, .int .u8 0]⟩
theorem ty8_ok : ty8.ok Tryz.prog 8 := ⟨⟨by kernel_rfl, by kernel_rfl⟩, ⟨fun f off ft n h => by
    match f, h with
    | 0, h => cases h; exact ⟨by kernel_rfl⟩
    | 1, h => cases h; exact ⟨by kernel_rfl⟩
    | 2, h => cases h; exact ⟨by kernel_rfl⟩
    | 3, h => cases h; exact ⟨by kernel_rfl⟩
    | f + 4, h => simp at h, ⟨by kernel_rfl⟩⟩⟩
def ty9 : TD := ⟨.str, 1, 16, false, [.string .empty]⟩
theorem ty9_ok : ty9.ok Tryz.prog 9 := ⟨⟨by kernel_rfl, by kernel_rfl⟩, (show Tryz.prog.underlying 9 = some .string by kernel_rfl)⟩
def ty10 : TD := ⟨.str, 1, 16, false, [.string .empty]⟩
theorem ty10_ok : ty10.ok Tryz.prog 10 := ⟨⟨by kernel_rfl, by kernel_rfl⟩, (show Tryz.prog.underlying 10 = some .string by kernel_rfl)⟩
def ty16 : TD := ⟨.ptr 225, 1, 8, false, [.pointer none]⟩
theorem ty16_ok : ty16.ok Tryz.prog 16 := ⟨⟨by kernel_rfl, by kernel_rfl⟩, (show Tryz.prog.underlying 16 = some (.pointer 225) by kernel_rfl)⟩
def ty20 : TD := ⟨.oth, 1, 16, false, [.nilIface]⟩
theorem ty20_ok : ty20.ok Tryz.prog 20 := ⟨⟨by kernel_rfl, by kernel_rfl⟩, trivial⟩
def ty22 : TD := ⟨.sl 3, 1, 24, false, [.slice none 0 0]⟩
theorem ty22_ok : ty22.ok Tryz.prog 22 := ⟨⟨by kernel_rfl, by kernel_rfl⟩, ⟨by kernel_rfl⟩⟩
def ty25 : TD := ⟨.ptr 84, 1, 8, false, [.pointer none]⟩
theorem ty25_ok : ty25.ok Tryz.prog 25 := ⟨⟨by kernel_rfl, by kernel_rfl⟩, (show Tryz.prog.underlying 25 = some (.pointer 84) by kernel_rfl)⟩
def ty26 : TD := ⟨.sl 67, 1, 24, false, [.slice none 0 0]⟩
theorem ty26_ok : ty26.ok Tryz.prog 26 := ⟨⟨by kernel_rfl, by kernel_rfl⟩, ⟨by kernel_rfl⟩⟩
def ty27 : TD := ⟨.sl 63, 1, 24, false, [.slice none 0 0]⟩
theorem ty27_ok : ty27.ok Tryz.prog 27 := ⟨⟨by kernel_rfl, by kernel_rfl⟩, ⟨by kernel_rfl⟩⟩
def ty28 : TD := ⟨.st [(0, 26, 1), (1, 3, 1), (2, 27, 1)], 3, 56, true, [.slice none 0 0, .int .i64 0, .slice none 0 0]⟩
theorem ty28_ok : ty28.ok Tryz.prog 28 := ⟨⟨by kernel_rfl, by kernel_rfl⟩, ⟨fun f off ft n h => by
    match f, h with
    | 0, h => cases h; exact ⟨by kernel_rfl⟩
    | 1, h => cases h; exact ⟨by kernel_rfl⟩
    | 2, h => cases h; exact ⟨by kernel_rfl⟩
    | f + 3, h => simp at h, ⟨by kernel_rfl⟩⟩⟩
def ty29 : TD := ⟨.st [(0, 26, 1), (1, 3, 1), (2, 27, 1)], 3, 56, true, [.slice none 0 0, .int .i64 0, .slice none 0 0]⟩
theorem ty29_ok : ty29.ok Tryz.prog 29 := ⟨⟨by kernel_rfl, by kernel_rfl⟩, ⟨fun f off ft n h => by
    match f, h with
    | 0, h => cases h; exact ⟨by kernel_rfl⟩
    | 1, h => cases h; exact ⟨by kernel_rfl⟩
    | 2, h => cases h; exact ⟨by kernel_rfl⟩
    | f + 3, h => simp at h, ⟨by kernel_rfl⟩⟩⟩
def ty32 : TD := ⟨.sl 38, 1, 24, false, [.slice none 0 0]⟩
theorem ty32_ok : ty32.ok Tryz.prog 32 := ⟨⟨by kernel_rfl, by kernel_rfl⟩, ⟨by kernel_rfl⟩⟩
def ty33 : TD := ⟨.st [(0, 32, 1)], 1, 24, true, [.slice none 0 0]⟩
theorem ty33_ok : ty33.ok Tryz.prog 33 := ⟨⟨by kernel_rfl, by kernel_rfl⟩, ⟨fun f off ft n h => by
    match f, h with
    | 0, h => cases h; exact ⟨by kernel_rfl⟩
    | f + 1, h => simp at h, ⟨by kernel_rfl⟩⟩⟩
def ty34 : TD := ⟨.st [(0, 32, 1)], 1, 24, true, [.slice none 0 0]⟩
theorem ty34_ok : ty34.ok Tryz.prog 34 := ⟨⟨by kernel_rfl, by kernel_rfl⟩, ⟨fun f off ft n h => by
    match f, h with
    | 0, h => cases h; exact ⟨by kernel_rfl⟩
    | f + 1, h => simp at h, ⟨by kernel_rfl⟩⟩⟩
def ty35 : TD := ⟨.st [(0, 34, 1), (1, 34, 1)], 2, 48, true, [.slice none 0 0, .slice none 0 0]⟩
theorem ty35_ok : ty35.ok Tryz.prog 35 := ⟨⟨by kernel_rfl, by kernel_rfl⟩, ⟨fun f off ft n h => by
    match f, h with
    | 0, h => cases h; exact ⟨by kernel_rfl⟩
    | 1, h => cases h; exact ⟨by kernel_rfl⟩
    | f + 2, h => simp at h, ⟨by kernel_rfl⟩⟩⟩
def ty36 : TD := ⟨.st [(0, 34, 1), (1, 34, 1)], 2, 48, true, [.slice none 0 0, .slice none 0 0]⟩
theorem ty36_ok : ty36.ok Tryz.prog 36 := ⟨⟨by kernel_rfl, by kernel_rfl⟩, ⟨fun f off ft n h => by
    match f, h with
    | 0, h => cases h; exact ⟨by kernel_rfl⟩
    | 1, h => cases h; exact ⟨by kernel_rfl⟩
    | f + 2, h => simp at h, ⟨by kernel_rfl⟩⟩⟩
def ty38 : TD := ⟨.int .u64, 1, 8, false, [.int .u64 0]⟩
theorem ty38_ok : ty38.ok Tryz.prog 38 := ⟨⟨by kernel_rfl, by kernel_rfl⟩, (show Tryz.prog.underlying 38 = some (.int .u64) by kernel_rfl)⟩
def ty44 : TD := ⟨.st [(0, 22, 1), (1, 22, 1)], 2, 48, true, [.slice none 0 0, .slice none 0 0]⟩
theorem ty44_ok : ty44.ok Tryz.prog 44 := ⟨⟨by kernel_rfl, by kernel_rfl⟩, ⟨fun f off ft n h => by
    match f, h with
    | 0, h => cases h; exact ⟨by kernel_rfl⟩
    | 1, h => cases h; exact ⟨by kernel_rfl⟩
    | f + 2, h => simp at h, ⟨by kernel_rfl⟩⟩⟩
def ty45 : TD := ⟨.st [(0, 22, 1), (1, 22, 1)], 2, 48, true, [.slice none 0 0, .slice none 0 0]⟩
theorem ty45_ok : ty45.ok Tryz.prog 45 := ⟨⟨by kernel_rfl, by kernel_rfl⟩, ⟨fun f off ft n h => by
    match f, h with
    | 0, h => cases h; exact ⟨by kernel_rfl⟩
    | 1, h => cases h; exact ⟨by kernel_rfl⟩
    | f + 2, h => simp at h, ⟨by kernel_rfl⟩⟩⟩
def ty47 : TD := ⟨.oth, 1, 8, false, [.nilFunc]⟩
theorem ty47_ok : ty47.ok Tryz.prog 47 := ⟨⟨by kernel_rfl, by kernel_rfl⟩, trivial⟩
def ty48 : TD := ⟨.oth, 1, 8, false, [.nilFunc]⟩
theorem ty48_ok : ty48.ok Tryz.prog 48 := ⟨⟨by kernel_rfl, by kernel_rfl⟩, trivial⟩
def ty49 : TD := ⟨.oth, 1, 8, false, [.nilFunc]⟩
theorem ty49_ok : ty49.ok Tryz.prog 49 := ⟨⟨by kernel_rfl, by kernel_rfl⟩, trivial⟩
def ty50 : TD := ⟨.arr 4 36, 8, 192, true, [.slice none 0 0, .slice none 0 0, .slice none 0 0, .slice none 0 0, .slice none 0 0, .slice none 0 0, .slice none 0 0, .slice none 0 0]⟩
theorem ty50_ok : ty50.ok Tryz.prog 50 := ⟨⟨by kernel_rfl, by kernel_rfl⟩, ⟨by kernel_rfl⟩⟩
def ty51 : TD := ⟨.st [(0, 50, 8)], 8, 192, true, [.slice none 0 0, .slice none 0 0, .slice none 0 0, .slice none 0 0, .slice none 0 0, .slice none 0 0, .slice none 0 0, .slice none 0 0]⟩
theorem ty51_ok : ty51.ok Tryz.prog 51 := ⟨⟨by kernel_rfl, by kernel_rfl⟩, ⟨fun f off ft n h => by
    match f, h with
    | 0, h => cases h; exact ⟨by kernel_rfl⟩
    | f + 1, h => simp at h, ⟨by kernel_rfl⟩⟩⟩
def ty52 : TD := ⟨.st [(0, 50, 8)], 8, 192, true, [.slice none 0 0, .slice none 0 0, .slice none 0 0, .slice none 0 0, .slice none 0 0, .slice none 0 0, .slice none 0 0, .slice none 0 0]⟩
theorem ty52_ok : ty52.ok Tryz.prog 52 := ⟨⟨by kernel_rfl, by kernel_rfl⟩, ⟨fun f off ft n h => by
    match f, h with
    | 0, h => cases h; exact ⟨by kernel_rfl⟩
    | f + 1, h => simp at h, ⟨by kernel_rfl⟩⟩⟩
def ty58 : TD := ⟨.int .i64, 1, 8, false, [.int .i64 0]⟩
theorem ty58_ok : ty58.ok Tryz.prog 58 := ⟨⟨by kernel_rfl, by kernel_rfl⟩, (show Tryz.prog.underlying 58 = some (.int .i64) by kernel_rfl)⟩
def ty60 : TD := ⟨.oth, 1, 8, false, [.nilFunc]⟩
theorem ty60_ok : ty60.ok Tryz.prog 60 := ⟨⟨by kernel_rfl, by kernel_rfl⟩, trivial⟩
def ty62 : TD := ⟨.oth, 1, 8, false, [.nilFunc]⟩
theorem ty62_ok : ty62.ok Tryz.prog 62 := ⟨⟨by kernel_rfl, by kernel_rfl⟩, trivial⟩
def ty63 : TD := ⟨.arr 4 45, 8, 192, true, [.slice none 0 0, .slice none 0 0, .slice none 0 0, .slice none 0 0, .slice none 0 0, .slice none 0 0, .slice none 0 0, .slice none 0 0]⟩
theorem ty63_ok : ty63.ok Tryz.prog 63 := ⟨⟨by kernel_rfl, by kernel_rfl⟩, ⟨by kernel_rfl⟩⟩
def ty64 : TD := ⟨.oth, 1, 8, false, [.nilFunc]⟩
theorem ty64_ok : ty64.ok Tryz.prog 64 := ⟨⟨by kernel_rfl, by kernel_rfl⟩, trivial⟩
def ty65 : TD := ⟨.arr 6 3, 6, 48, true, [.int .i64 0, .int .i64 0, .int .i64 0, .int .i64 0, .int .i64 0, .int .i64 0]⟩
theorem ty65_ok : ty65.ok Tryz.prog 65 := ⟨⟨by kernel_rfl, by kernel_rfl⟩, ⟨by kernel_rfl⟩⟩
def ty67 : TD := ⟨.sl 98, 1, 24, false, [.slice none 0 0]⟩
theorem ty67_ok : ty67.ok Tryz.prog 67 := ⟨⟨by kernel_rfl, by kernel_rfl⟩, ⟨by kernel_rfl⟩⟩
def ty70 : TD := ⟨.sl 9, 1, 24, false, [.slice none 0 0]⟩
theorem ty70_ok : ty70.ok Tryz.prog 70 := ⟨⟨by kernel_rfl, by kernel_rfl⟩, ⟨by kernel_rfl⟩⟩
def ty73 : TD := ⟨.sl 22, 1, 24, false, [.slice none 0 0]⟩
theorem ty73_ok : ty73.ok Tryz.prog 73 := ⟨⟨by kernel_rfl, by kernel_rfl⟩, ⟨by kernel_rfl⟩⟩
def ty77 : TD := ⟨.sl 36, 1, 24, false, [.slice none 0 0]⟩
theorem ty77_ok : ty77.ok Tryz.prog 77 := ⟨⟨by kernel_rfl, by kernel_rfl⟩, ⟨by kernel_rfl⟩⟩
def ty81 : TD := ⟨.sl 52, 1, 24, false, [.slice none 0 0]⟩
theorem ty81_ok : ty81.ok Tryz.prog 81 := ⟨⟨by kernel_rfl, by kernel_rfl⟩, ⟨by kernel_rfl⟩⟩
def ty82 : TD := ⟨.mp 9 85 .string false, 1, 8, false, [.map none]⟩
theorem ty82_ok : ty82.ok Tryz.prog 82 := ⟨⟨by kernel_rfl, by kernel_rfl⟩, ⟨⟨by kernel_rfl⟩, by kernel_rfl, ⟨by kernel_rfl⟩⟩⟩
def ty83 : TD := ⟨.st [(0, 26, 1), (1, 81, 1), (2, 3, 1), (3, 82, 1)], 4, 64, true, [.slice none 0 0, .slice none 0 0, .int .i64 0, .map none]⟩
theorem ty83_ok : ty83.ok Tryz.prog 83 := ⟨⟨by kernel_rfl, by kernel_rfl⟩, ⟨fun f off ft n h => by
    match f, h with
    | 0, h => cases h; exact ⟨by kernel_rfl⟩
    | 1, h => cases h; exact ⟨by kernel_rfl⟩
    | 2, h => cases h; exact ⟨by kernel_rfl⟩
    | 3, h => cases h; exact ⟨by kernel_rfl⟩
    | f + 4, h => simp at h, ⟨by kernel_rfl⟩⟩⟩
def ty84 : TD := ⟨.st [(0, 26, 1), (1, 81, 1), (2, 3, 1), (3, 82, 1)], 4, 64, true, [.slice none 0 0, .slice none 0 0, .int .i64 0, .map none]⟩
theorem ty84_ok : ty84.ok Tryz.prog 84 := ⟨⟨by kernel_rfl, by kernel_rfl⟩, ⟨fun f off ft n h => by
    match f, h with
    | 0, h => cases h; exact ⟨by kernel_rfl⟩
    | 1, h => cases h; exact ⟨by kernel_rfl⟩
    | 2, h => cases h; exact ⟨by kernel_rfl⟩
    | 3, h => cases h; exact ⟨by kernel_rfl⟩
    | f + 4, h => simp at h, ⟨by kernel_rfl⟩⟩⟩
def ty85 : TD := ⟨.ptr 88, 1, 8, false, [.pointer none]⟩
theorem ty85_ok : ty85.ok Tryz.prog 85 := ⟨⟨by kernel_rfl, by kernel_rfl⟩, (show Tryz.prog.underlying 85 = some (.pointer 88) by kernel_rfl)⟩
def ty87 : TD := ⟨.st [(0, 3, 1), (1, 36, 2)], 3, 56, true, [.int .i64 0, .slice none 0 0, .slice none 0 0]⟩
theorem ty87_ok : ty87.ok Tryz.prog 87 := ⟨⟨by kernel_rfl, by kernel_rfl⟩, ⟨fun f off ft n h => by
    match f, h with
    | 0, h => cases h; exact ⟨by kernel_rfl⟩
    | 1, h => cases h; exact ⟨by kernel_rfl⟩
    | f + 2, h => simp at h, ⟨by kernel_rfl⟩⟩⟩
def ty88 : TD := ⟨.st [(0, 3, 1), (1, 36, 2)], 3, 56, true, [.int .i64 0, .slice none 0 0, .slice none 0 0]⟩
theorem ty88_ok : ty88.ok Tryz.prog 88 := ⟨⟨by kernel_rfl, by kernel_rfl⟩, ⟨fun f off ft n h => by
    match f, h with
    | 0, h => cases h; exact ⟨by kernel_rfl⟩
    | 1, h => cases h; exact ⟨by kernel_rfl⟩
    | f + 2, h => simp at h, ⟨by kernel_rfl⟩⟩⟩
def ty90 : TD := ⟨.oth, 1, 8, false, [.nilFunc]⟩
theorem ty90_ok : ty90.ok Tryz.prog 90 := ⟨⟨by kernel_rfl, by kernel_rfl⟩, trivial⟩
def ty97 : TD := ⟨.st [(0, 22, 1), (1, 3, 1)], 2, 32, true, [.slice none 0 0, .int .i64 0]⟩
theorem ty97_ok : ty97.ok Tryz.prog 97 := ⟨⟨by kernel_rfl, by kernel_rfl⟩, ⟨fun f off ft n h => by
    match f, h with
    | 0, h => cases h; exact ⟨by kernel_rfl⟩
    | 1, h => cases h; exact ⟨by kernel_rfl⟩
    | f + 2, h => simp at h, ⟨by kernel_rfl⟩⟩⟩
def ty98 : TD := ⟨.st [(0, 22, 1), (1, 3, 1)], 2, 32, true, [.slice none 0 0, .int .i64 0]⟩
theorem ty98_ok : ty98.ok Tryz.prog 98 := ⟨⟨by kernel_rfl, by kernel_rfl⟩, ⟨fun f off ft n h => by
    match f, h with
    | 0, h => cases h; exact ⟨by kernel_rfl⟩
    | 1, h => cases h; exact ⟨by kernel_rfl⟩
    | f + 2, h => simp at h, ⟨by kernel_rfl⟩⟩⟩
def ty99 : TD := ⟨.oth, 1, 8, false, [.nilFunc]⟩
theorem ty99_ok : ty99.ok Tryz.prog 99 := ⟨⟨by kernel_rfl, by kernel_rfl⟩, trivial⟩
def ty102 : TD := ⟨.oth, 1, 8, false, [.nilFunc]⟩
theorem ty102_ok : ty102.ok Tryz.prog 102 := ⟨⟨by kernel_rfl, by kernel_rfl⟩, trivial⟩
def ty103 : TD := ⟨.oth, 1, 8, false, [.nilFunc]⟩
theorem ty103_ok : ty103.ok Tryz.prog 103 := ⟨⟨by kernel_rfl, by kernel_rfl⟩, trivial⟩
def ty105 : TD := ⟨.arr 5 3, 5, 40, true, [.int .i64 0, .int .i64 0, .int .i64 0, .int .i64 0, .int .i64 0]⟩
theorem ty105_ok : ty105.ok Tryz.prog 105 := ⟨⟨by kernel_rfl, by kernel_rfl⟩, ⟨by kernel_rfl⟩⟩
def ty106 : TD := ⟨.st [(0, 3, 1), (1, 3, 1), (2, 105, 5)], 7, 56, true, [.int .i64 0, .int .i64 0, .int .i64 0, .int .i64 0, .int .i64 0, .int .i64 0, .int .i64 0]⟩
theorem ty106_ok : ty106.ok Tryz.prog 106 := ⟨⟨by kernel_rfl, by kernel_rfl⟩, ⟨fun f off ft n h => by
    match f, h with
    | 0, h => cases h; exact ⟨by kernel_rfl⟩
    | 1, h => cases h; exact ⟨by kernel_rfl⟩
    | 2, h => cases h; exact ⟨by kernel_rfl⟩
    | f + 3, h => simp at h, ⟨by kernel_rfl⟩⟩⟩
def ty107 : TD := ⟨.st [(0, 3, 1), (1, 3, 1), (2, 105, 5)], 7, 56, true, [.int .i64 0, .int .i64 0, .int .i64 0, .int .i64 0, .int .i64 0, .int .i64 0, .int .i64 0]⟩
theorem ty107_ok : ty107.ok Tryz.prog 107 := ⟨⟨by kernel_rfl, by kernel_rfl⟩, ⟨fun f off ft n h => by
    match f, h with
    | 0, h => cases h; exact ⟨by kernel_rfl⟩
    | 1, h => cases h; exact ⟨by kernel_rfl⟩
    | 2, h => cases h; exact ⟨by kernel_rfl⟩
    | f + 3, h => simp at h, ⟨by kernel_rfl⟩⟩⟩
def ty108 : TD := ⟨.oth, 1, 8, false, [.nilFunc]⟩
theorem ty108_ok : ty108.ok Tryz.prog 108 := ⟨⟨by kernel_rfl, by kernel_rfl⟩, trivial⟩
def ty110 : TD := ⟨.oth, 1, 8, false, [.nilFunc]⟩
theorem ty110_ok : ty110.ok Tryz.prog 110 := ⟨⟨by kernel_rfl, by kernel_rfl⟩, trivial⟩
def ty111 : TD := ⟨.oth, 1, 8, false, [.nilFunc]⟩
theorem ty111_ok : ty111.ok Tryz.prog 111 := ⟨⟨by kernel_rfl, by kernel_rfl⟩, trivial⟩
def ty114 : TD := ⟨.oth, 1, 8, false, [.nilFunc]⟩
theorem ty114_ok : ty114.ok Tryz.prog 114 := ⟨⟨by kernel_rfl, by kernel_rfl⟩, trivial⟩
def ty115 : TD := ⟨.sl 70, 1, 24, false, [.slice none 0 0]⟩
theorem ty115_ok : ty115.ok Tryz.prog 115 := ⟨⟨by kernel_rfl, by kernel_rfl⟩, ⟨by kernel_rfl⟩⟩
def ty116 : TD := ⟨.oth, 1, 8, false, [.nilFunc]⟩
theorem ty116_ok : ty116.ok Tryz.prog 116 := ⟨⟨by kernel_rfl, by kernel_rfl⟩, trivial⟩
def ty117 : TD := ⟨.oth, 1, 8, false, [.nilFunc]⟩
theorem ty117_ok : ty117.ok Tryz.prog 117 := ⟨⟨by kernel_rfl, by kernel_rfl⟩, trivial⟩
def ty118 : TD := ⟨.oth, 1, 8, false, [.nilFunc]⟩
theorem ty118_ok : ty118.ok Tryz.prog 118 := ⟨⟨by kernel_rfl, by kernel_rfl⟩, trivial⟩
def ty123 : TD := ⟨.oth, 1, 8, false, [.nilFunc]⟩
theorem ty123_ok : ty123.ok Tryz.prog 123 := ⟨⟨by kernel_rfl, by kernel_rfl⟩, trivial⟩
def ty138 : TD := ⟨.sl 141, 1, 24, false, [.slice none 0 0]⟩
theorem ty138_ok : ty138.ok Tryz.prog 138 := ⟨⟨by kernel_rfl, by kernel_rfl⟩, ⟨by kernel_rfl⟩⟩
def ty141 : TD := ⟨.sl 5, 1, 24, false, [.slice none 0 0]⟩
theorem ty141_ok : ty141.ok Tryz.prog 141 := ⟨⟨by kernel_rfl, by kernel_rfl⟩, ⟨by kernel_rfl⟩⟩
def ty153 : TD := ⟨.oth, 1, 8, false, [.nilFunc]⟩
theorem ty153_ok : ty153.ok Tryz.prog 153 := ⟨⟨by kernel_rfl, by kernel_rfl⟩, trivial⟩
def ty154 : TD := ⟨.oth, 1, 8, false, [.nilFunc]⟩
theorem ty154_ok : ty154.ok Tryz.prog 154 := ⟨⟨by kernel_rfl, by kernel_rfl⟩, trivial⟩
def ty171 : TD := ⟨.int .u64, 1, 8, false, [.int .u64 0]⟩
theorem ty171_ok : ty171.ok Tryz.prog 171 := ⟨⟨by kernel_rfl, by kernel_rfl⟩, (show Tryz.prog.underlying 171 = some (.int .u64) by kernel_rfl)⟩
def ty172 : TD := ⟨.oth, 1, 8, false, [.nilFunc]⟩
theorem ty172_ok : ty172.ok Tryz.prog 172 := ⟨⟨by kernel_rfl, by kernel_rfl⟩, trivial⟩
def ty173 : TD := ⟨.oth, 1, 8, false, [.nilFunc]⟩
theorem ty173_ok : ty173.ok Tryz.prog 173 := ⟨⟨by kernel_rfl, by kernel_rfl⟩, trivial⟩
def ty180 : TD := ⟨.oth, 1, 8, false, [.nilFunc]⟩
theorem ty180_ok : ty180.ok Tryz.prog 180 := ⟨⟨by kernel_rfl, by kernel_rfl⟩, trivial⟩
def ty184 : TD := ⟨.oth, 1, 8, false, [.nilFunc]⟩
theorem ty184_ok : ty184.ok Tryz.prog 184 := ⟨⟨by kernel_rfl, by kernel_rfl⟩, trivial⟩
def ty185 : TD := ⟨.ptr 107, 1, 8, false, [.pointer none]⟩
theorem ty185_ok : ty185.ok Tryz.prog 185 := ⟨⟨by kernel_rfl, by kernel_rfl⟩, (show Tryz.prog.underlying 185 = some (.pointer 107) by kernel_rfl)⟩
def ty188 : TD := ⟨.oth, 1, 8, false, [.nilFunc]⟩
theorem ty188_ok : ty188.ok Tryz.prog 188 := ⟨⟨by kernel_rfl, by kernel_rfl⟩, trivial⟩
def ty190 : TD := ⟨.oth, 1, 16, false, [.nilIface]⟩
theorem ty190_ok : ty190.ok Tryz.prog 190 := ⟨⟨by kernel_rfl, by kernel_rfl⟩, trivial⟩
def ty191 : TD := ⟨.oth, 1, 16, false, [.nilIface]⟩
theorem ty191_ok : ty191.ok Tryz.prog 191 := ⟨⟨by kernel_rfl, by kernel_rfl⟩, trivial⟩
def ty196 : TD := ⟨.int .i64, 1, 8, false, [.int .i64 0]⟩
theorem ty196_ok : ty196.ok Tryz.prog 196 := ⟨⟨by kernel_rfl, by kernel_rfl⟩, (show Tryz.prog.underlying 196 = some (.int .i64) by kernel_rfl)⟩
def ty203 : TD := ⟨.int .u32, 1, 4, false, [.int .u32 0]⟩
theorem ty203_ok : ty203.ok Tryz.prog 203 := ⟨⟨by kernel_rfl, by kernel_rfl⟩, (show Tryz.prog.underlying 203 = some (.int .u32) by kernel_rfl)⟩
def ty209 : TD := ⟨.int .u64, 1, 8, false, [.int .u64 0]⟩
theorem ty209_ok : ty209.ok Tryz.prog 209 := ⟨⟨by kernel_rfl, by kernel_rfl⟩, (show Tryz.prog.underlying 209 = some (.int .u64) by kernel_rfl)⟩
def ty213 : TD := ⟨.ptr 3, 1, 8, false, [.pointer none]⟩
theorem ty213_ok : ty213.ok Tryz.prog 213 := ⟨⟨by kernel_rfl, by kernel_rfl⟩, (show Tryz.prog.underlying 213 = some (.pointer 3) by kernel_rfl)⟩
def ty217 : TD := ⟨.ptr 209, 1, 8, false, [.pointer none]⟩
theorem ty217_ok : ty217.ok Tryz.prog 217 := ⟨⟨by kernel_rfl, by kernel_rfl⟩, (show Tryz.prog.underlying 217 = some (.pointer 209) by kernel_rfl)⟩
def ty223 : TD := ⟨.arr 0 16, 0, 0, true, []⟩
theorem ty223_ok : ty223.ok Tryz.prog 223 := ⟨⟨by kernel_rfl, by kernel_rfl⟩, ⟨by kernel_rfl⟩⟩
def ty224 : TD := ⟨.st [(0, 223, 0)], 0, 0, true, []⟩
theorem ty224_ok : ty224.ok Tryz.prog 224 := ⟨⟨by kernel_rfl, by kernel_rfl⟩, ⟨fun f off ft n h => by
    match f, h with
    | 0, h => cases h; exact ⟨by kernel_rfl⟩
    | f + 1, h => simp at h, ⟨by kernel_rfl⟩⟩⟩
def ty225 : TD := ⟨.st [(0, 223, 0)], 0, 0, true, []⟩
theorem ty225_ok : ty225.ok Tryz.prog 225 := ⟨⟨by kernel_rfl, by kernel_rfl⟩, ⟨fun f off ft n h => by
    match f, h with
    | 0, h => cases h; exact ⟨by kernel_rfl⟩
    | f + 1, h => simp at h, ⟨by kernel_rfl⟩⟩⟩
def T : Ty := (.node 83 ty83 (.node 36 ty36 (.node 20 ty20 (.node 6 ty6 (.node 3 ty3 (.node 2 ty2 (.node 1 ty1 .leaf .leaf) .leaf) (.node 5 ty5 (.node 4 ty4 .leaf .leaf) .leaf)) (.node 9 ty9 (.node 8 ty8 (.node 7 ty7 .leaf .leaf) .leaf) (.node 16 ty16 (.node 10 ty10 .leaf .leaf) .leaf))) (.node 29 ty29 (.node 26 ty26 (.node 25 ty25 (.node 22 ty22 .leaf .leaf) .leaf) (.node 28 ty28 (.node 27 ty27 .leaf .leaf) .leaf)) (.node 34 ty34 (.node 33 ty33 (.node 32 ty32 .leaf .leaf) .leaf) (.node 35 ty35 .leaf .leaf)))) (.node 60 ty60 (.node 49 ty49 (.node 45 ty45 (.node 44 ty44 (.node 38 ty38 .leaf .leaf) .leaf) (.node 48 ty48 (.node 47 ty47 .leaf .leaf) .leaf)) (.node 52 ty52 (.node 51 ty51 (.node 50 ty50 .leaf .leaf) .leaf) (.node 58 ty58 .leaf .leaf))) (.node 70 ty70 (.node 64 ty64 (.node 63 ty63 (.node 62 ty62 .leaf .leaf) .leaf) (.node 67 ty67 (.node 65 ty65 .leaf .leaf) .leaf)) (.node 81 ty81 (.node 77 ty77 (.node 73 ty73 .leaf .leaf) .leaf) (.node 82 ty82 .leaf .leaf))))) (.node 123 ty123 (.node 105 ty105 (.node 97 ty97 (.node 87 ty87 (.node 85 ty85 (.node 84 ty84 .leaf .leaf) .leaf) (.node 90 ty90 (.node 88 ty88 .leaf .leaf) .leaf)) (.node 102 ty102 (.node 99 ty99 (.node 98 ty98 .leaf .leaf) .leaf) (.node 103 ty103 .leaf .leaf))) (.node 114 ty114 (.node 108 ty108 (.node 107 ty107 (.node 106 ty106 .leaf .leaf) .leaf) (.node 111 ty111 (.node 110 ty110 .leaf .leaf) .leaf)) (.node 117 ty117 (.node 116 ty116 (.node 115 ty115 .leaf .leaf) .leaf) (.node 118 ty118 .leaf .leaf)))) (.node 188 ty188 (.node 172 ty172 (.node 153 ty153 (.node 141 ty141 (.node 138 ty138 .leaf .leaf) .leaf) (.node 171 ty171 (.node 154 ty154 .leaf .leaf) .leaf)) (.node 184 ty184 (.node 180 ty180 (.node 173 ty173 .leaf .leaf) .leaf) (.node 185 ty185 .leaf .leaf))) (.node 213 ty213 (.node 196 ty196 (.node 191 ty191 (.node 190 ty190 .leaf .leaf) .leaf) (.node 209 ty209 (.node 203 ty203 .leaf .leaf) .leaf)) (.node 224 ty224 (.node 223 ty223 (.node 217 ty217 .leaf .leaf) .leaf) (.node 225 ty225 .leaf .leaf))))))
theorem T_ok : T.ok Tryz.prog := Ty.ok_of (show T.All Tryz.prog from ⟨ty83_ok, ⟨ty36_ok, ⟨ty20_ok, ⟨ty6_ok, ⟨ty3_ok, ⟨ty2_ok, ⟨ty1_ok, trivial, trivial⟩, trivial⟩, ⟨ty5_ok, ⟨ty4_ok, trivial, trivial⟩, trivial⟩⟩, ⟨ty9_ok, ⟨ty8_ok, ⟨ty7_ok, trivial, trivial⟩, trivial⟩, ⟨ty16_ok, ⟨ty10_ok, trivial, trivial⟩, trivial⟩⟩⟩, ⟨ty29_ok, ⟨ty26_ok, ⟨ty25_ok, ⟨ty22_ok, trivial, trivial⟩, trivial⟩, ⟨ty28_ok, ⟨ty27_ok, trivial, trivial⟩, trivial⟩⟩, ⟨ty34_ok, ⟨ty33_ok, ⟨ty32_ok, trivial, trivial⟩, trivial⟩, ⟨ty35_ok, trivial, trivial⟩⟩⟩⟩, ⟨ty60_ok, ⟨ty49_ok, ⟨ty45_ok, ⟨ty44_ok, ⟨ty38_ok, trivial, trivial⟩, trivial⟩, ⟨ty48_ok, ⟨ty47_ok, trivial, trivial⟩, trivial⟩⟩, ⟨ty52_ok, ⟨ty51_ok, ⟨ty50_ok, trivial, trivial⟩, trivial⟩, ⟨ty58_ok, trivial, trivial⟩⟩⟩, ⟨ty70_ok, ⟨ty64_ok, ⟨ty63_ok, ⟨ty62_ok, trivial, trivial⟩, trivial⟩, ⟨ty67_ok, ⟨ty65_ok, trivial, trivial⟩, trivial⟩⟩, ⟨ty81_ok, ⟨ty77_ok, ⟨ty73_ok, trivial, trivial⟩, trivial⟩, ⟨ty82_ok, trivial, trivial⟩⟩⟩⟩⟩, ⟨ty123_ok, ⟨ty105_ok, ⟨ty97_ok, ⟨ty87_ok, ⟨ty85_ok, ⟨ty84_ok, trivial, trivial⟩, trivial⟩, ⟨ty90_ok, ⟨ty88_ok, trivial, trivial⟩, trivial⟩⟩, ⟨ty102_ok, ⟨ty99_ok, ⟨ty98_ok, trivial, trivial⟩, trivial⟩, ⟨ty103_ok, trivial, trivial⟩⟩⟩, ⟨ty114_ok, ⟨ty108_ok, ⟨ty107_ok, ⟨ty106_ok, trivial, trivial⟩, trivial⟩, ⟨ty111_ok, ⟨ty110_ok, trivial, trivial⟩, trivial⟩⟩, ⟨ty117_ok, ⟨ty116_ok, ⟨ty115_ok, trivial, trivial⟩, trivial⟩, ⟨ty118_ok, trivial, trivial⟩⟩⟩⟩, ⟨ty188_ok, ⟨ty172_ok, ⟨ty153_ok, ⟨ty141_ok, ⟨ty138_ok, trivial, trivial⟩, trivial⟩, ⟨ty171_ok, ⟨ty154_ok, trivial, trivial⟩, trivial⟩⟩, ⟨ty184_ok, ⟨ty180_ok, ⟨ty173_ok, trivial, trivial⟩, trivial⟩, ⟨ty185_ok, trivial, trivial⟩⟩⟩, ⟨ty213_ok, ⟨ty196_ok, ⟨ty191_ok, ⟨ty190_ok, trivial, trivial⟩, trivial⟩, ⟨ty209_ok, ⟨ty203_ok, trivial, trivial⟩, trivial⟩⟩, ⟨ty224_ok, ⟨ty223_ok, ⟨ty217_ok, trivial, trivial⟩, trivial⟩, ⟨ty225_ok, trivial, trivial⟩⟩⟩⟩⟩⟩)
theorem T_mix : (Tryz.prog).follows .mixedOrders = true := by kernel_rfl
noncomputable abbrev P : Program := Tryz.prog
def trimL (l : List Nat) : List Nat := (l.reverse.dropWhile (· == 0)).reverse
theorem trimL_snoc0 (l : List Nat) : trimL (l ++ [0]) = trimL l := by simp [trimL]
theorem trimL_snoc (l : List Nat) {x : Nat} (h : x ≠ 0) : trimL (l ++ [x]) = l ++ [x] := by simp [trimL, h]
theorem trimL_cons (x : Nat) (l : List Nat) : trimL (x :: l) = if trimL l = [] ∧ x = 0 then [] else x :: trimL l := by
  unfold trimL
  rw [List.reverse_cons, List.dropWhile_append]
  cases h : (l.reverse.dropWhile (· == 0)) with
  | nil =>
    by_cases hx : x = 0
    · simp [hx]
    · simp [hx]
  | cons y m => simp
theorem trimL_take (l : List Nat) {n : Nat} (hn : n ≤ l.length) (h0 : trimL l = trimL (l.take n)) (h1 : n = 0 ∨ l.getD (n - 1) 0 ≠ 0) : l.take n = trimL l := by
  rw [h0]
  by_cases hz : n = 0
  · subst hz; simp [trimL]
  · have h1 := h1.resolve_left hz
    obtain ⟨m, rfl⟩ : ∃ m, n = m + 1 := ⟨n - 1, by omega⟩
    have hm : m < l.length := by omega
    simp only [Nat.add_sub_cancel, List.getD_eq_getElem?_getD, List.getElem?_eq_getElem hm, Option.getD_some] at h1
    rw [List.take_succ_eq_append_getElem hm, trimL_snoc _ h1]
theorem trimL_step (l : List Nat) {n : Nat} (hn : n + 1 ≤ l.length) (h0 : l.getD n 0 = 0) : trimL (l.take (n + 1)) = trimL (l.take n) := by
  have hm : n < l.length := by omega
  simp only [List.getD_eq_getElem?_getD, List.getElem?_eq_getElem hm, Option.getD_some] at h0
  rw [List.take_succ_eq_append_getElem hm, h0, trimL_snoc0]
def val (B : Nat) : List Nat → Nat
  | [] => 0
  | x :: l => x + B * val B l
theorem val_app (B : Nat) : ∀ (l m : List Nat), val B (l ++ m) = val B l + B ^ l.length * val B m
  | [], m => by simp [val]
  | x :: l, m => by
    simp only [List.cons_append, val, val_app B l m, List.length_cons, Nat.pow_succ, Nat.mul_add]
    rw [Nat.mul_comm (B ^ l.length) B, Nat.mul_assoc, Nat.add_assoc]
theorem val_snoc (B : Nat) (l : List Nat) (x : Nat) : val B (l ++ [x]) = val B l + B ^ l.length * x := by
  rw [val_app]; simp [val]
def Dig (B : Nat) (l : List Nat) : Prop := ∀ x, x ∈ l → x < B
theorem Dig.nil {B : Nat} : Dig B [] := by intro x h; cases h
theorem Dig.cons {B x : Nat} {l : List Nat} (hx : x < B) (h : Dig B l) : Dig B (x :: l) := by
  intro y hy
  simp only [List.mem_cons] at hy
  rcases hy with rfl | hy
  · exact hx
  · exact h y hy
theorem Dig.app {B : Nat} {l m : List Nat} (h : Dig B l) (h' : Dig B m) : Dig B (l ++ m) := by
  intro y hy
  rcases List.mem_append.1 hy with hy | hy
  · exact h y hy
  · exact h' y hy
theorem Dig.snoc {B x : Nat} {l : List Nat} (h : Dig B l) (hx : x < B) : Dig B (l ++ [x]) := h.app (.cons hx .nil)
theorem Dig.tail {B x : Nat} {l : List Nat} (h : Dig B (x :: l)) : Dig B l := fun y hy => h y (by simp [hy])
theorem Dig.take {B n : Nat} {l : List Nat} (h : Dig B l) : Dig B (l.take n) := fun y hy => h y (List.mem_of_mem_take hy)
theorem Dig.drop {B n : Nat} {l : List Nat} (h : Dig B l) : Dig B (l.drop n) := fun y hy => h y (List.mem_of_mem_drop hy)
theorem Dig.set {B i x : Nat} {l : List Nat} (h : Dig B l) (hx : x < B) : Dig B (l.set i x) := fun y hy => by
  rcases List.mem_or_eq_of_mem_set hy with hy | rfl
  · exact h y hy
  · exact hx
theorem Dig.getD {B : Nat} {l : List Nat} (h : Dig B l) (hB : 0 < B) (i : Nat) : l.getD i 0 < B := by
  rw [List.getD_eq_getElem?_getD]
  cases hi : l[i]? with
  | none => exact hB
  | some x => exact h x (List.mem_of_getElem? hi)
theorem val_lt {B : Nat} (hB : 0 < B) : ∀ {l : List Nat}, Dig B l → val B l < B ^ l.length
  | [], _ => by simp [val]
  | x :: l, h => by
    have h1 := val_lt hB h.tail
    have h2 := h x (by simp)
    simp only [val, List.length_cons, Nat.pow_succ]
    have : B * (val B l + 1) ≤ B * B ^ l.length := Nat.mul_le_mul_left _ h1
    rw [Nat.mul_add, Nat.mul_one] at this
    rw [Nat.mul_comm (B ^ l.length)]
    omega
theorem val_take (B : Nat) (l : List Nat) (n : Nat) : val B l = val B (l.take n) + B ^ (min n l.length) * val B (l.drop n) := by
  conv => lhs; rw [← List.take_append_drop n l]
  rw [val_app, List.length_take]
theorem val_take_succ (B : Nat) (l : List Nat) (n : Nat) : val B (l.take (n + 1)) = val B (l.take n) + B ^ n * l.getD n 0 := by
  by_cases hn : n < l.length
  · rw [List.take_succ_eq_append_getElem hn, val_snoc, List.length_take, Nat.min_eq_left (by omega)]
    simp [List.getD_eq_getElem?_getD, hn]
  · rw [List.take_of_length_le (by omega), List.take_of_length_le (by omega)]
    have : l.getD n 0 = 0 := by simp [List.getD_eq_getElem?_getD, List.getElem?_eq_none (by omega : l.length ≤ n)]
    rw [this]; simp
theorem val_take_set (B : Nat) (l : List Nat) {i v : Nat} (h : i < l.length) : val B ((l.set i v).take (i + 1)) = val B (l.take i) + B ^ i * v := by
  rw [val_take_succ]
  have e1 : (l.set i v).take i = l.take i := by rw [List.take_set_of_le (Nat.le_refl _)]
  have e2 : (l.set i v).getD i 0 = v := by simp [List.getD_eq_getElem?_getD, h]
  rw [e1, e2]
theorem val_take_all {B : Nat} {l : List Nat} {n : Nat} (h : l.length ≤ n) : val B (l.take n) = val B l := by rw [List.take_of_length_le h]
theorem val_set {B : Nat} : ∀ {l : List Nat} {i x : Nat}, i < l.length → val B (l.set i x) + B ^ i * l.getD i 0 = val B l + B ^ i * x
  | [], i, x, h => by simp at h
  | y :: l, 0, x, _ => by simp [val]; omega
  | y :: l, i + 1, x, h => by
    have := val_set (B := B) (l := l) (i := i) (x := x) (by simpa using h)
    simp only [List.set_cons_succ, val, List.getD_cons_succ, Nat.pow_succ]
    have h2 : B * (val B (l.set i x) + B ^ i * l.getD i 0) = B * (val B l + B ^ i * x) := by rw [this]
    simp only [Nat.mul_add] at h2
    rw [Nat.mul_comm (B ^ i) B, Nat.mul_assoc, Nat.mul_assoc]
    omega
theorem val_rep (B n : Nat) : val B (List.replicate n 0) = 0 := by
  induction n with
  | zero => rfl
  | succ n ih => simp [List.replicate_succ, val, ih]
def dg (B n : Nat) : List Nat := if _h : n = 0 ∨ B < 2 then [] else n % B :: dg B (n / B)
  termination_by n
  decreasing_by exact Nat.div_lt_self (by omega) (by omega)
theorem dg_zero (B : Nat) : dg B 0 = [] := by rw [dg]; simp
theorem dg_pos {B n : Nat} (hB : 2 ≤ B) (hn : n ≠ 0) : dg B n = n % B :: dg B (n / B) := by
  rw [dg, dif_neg (by omega)]
theorem dg_cons {B x v : Nat} (hB : 2 ≤ B) (hx : x < B) : dg B (x + B * v) = if x + B * v = 0 then [] else x :: dg B v := by
  by_cases h : x + B * v = 0
  · rw [if_pos h, h, dg_zero]
  · rw [if_neg h, dg_pos hB h]
    rw [Nat.add_mul_mod_self_left, Nat.mod_eq_of_lt hx, Nat.add_mul_div_left _ _ (by omega), Nat.div_eq_of_lt hx, Nat.zero_add]
theorem dg_nil {B n : Nat} (hB : 2 ≤ B) : dg B n = [] ↔ n = 0 := by
  constructor
  · intro h
    rcases Nat.eq_zero_or_pos n with h0 | h0
    · exact h0
    · rw [dg_pos hB (by omega)] at h; cases h
  · rintro rfl; exact dg_zero B
theorem trim_dg {B : Nat} (hB : 2 ≤ B) : ∀ {l : List Nat}, Dig B l → trimL l = dg B (val B l)
  | [], _ => by simp [trimL, val, dg_zero]
  | x :: l, h => by
    have ih := trim_dg hB h.tail
    have hx := h x (by simp)
    rw [trimL_cons, val, dg_cons hB hx, ih]
    by_cases h1 : val B l = 0
    · rw [h1]
      simp only [dg_zero, true_and, Nat.mul_zero, Nat.add_zero]
    · have h2 : ¬ (x + B * val B l = 0) := by
        have : B * val B l ≠ 0 := Nat.mul_ne_zero (by omega) h1
        omega
      rw [if_neg h2, if_neg]
      intro ⟨h3, _⟩
      exact h1 ((dg_nil hB).1 h3)
theorem val_dg {B : Nat} (hB : 2 ≤ B) (n : Nat) : val B (dg B n) = n := by
  induction n using Nat.strongRecOn with
  | _ n ih =>
    rcases Nat.eq_zero_or_pos n with rfl | h
    · rw [dg_zero]; rfl
    · rw [dg_pos hB (by omega), val, ih _ (Nat.div_lt_self h (by omega))]
      exact Nat.mod_add_div n B
theorem dig_dg {B : Nat} (hB : 2 ≤ B) (n : Nat) : Dig B (dg B n) := by
  induction n using Nat.strongRecOn with
  | _ n ih =>
    rcases Nat.eq_zero_or_pos n with rfl | h
    · rw [dg_zero]; exact .nil
    · rw [dg_pos hB (by omega)]
      exact .cons (Nat.mod_lt _ (by omega)) (ih _ (Nat.div_lt_self h (by omega)))
theorem dg_len {B : Nat} (hB : 2 ≤ B) : ∀ {k n : Nat}, n < B ^ k → (dg B n).length ≤ k
  | 0, n, h => by
    have : n = 0 := by simpa using h
    subst this; rw [dg_zero]; simp
  | k + 1, n, h => by
    rcases Nat.eq_zero_or_pos n with rfl | h0
    · rw [dg_zero]; simp
    · rw [dg_pos hB (by omega), List.length_cons]
      have := dg_len hB (k := k) (n := n / B) (by rw [Nat.div_lt_iff_lt_mul (by omega)]; rw [Nat.pow_succ] at h; exact h)
      omega
theorem lt_dg_len {B : Nat} (hB : 2 ≤ B) (n : Nat) : n < B ^ (dg B n).length := by
  have := val_lt (by omega : 0 < B) (dig_dg hB n)
  rwa [val_dg hB] at this
theorem dg_len_mono {B : Nat} (hB : 2 ≤ B) {m n : Nat} (h : m ≤ n) : (dg B m).length ≤ (dg B n).length := dg_len hB (Nat.lt_of_le_of_lt h (lt_dg_len hB n))
theorem dg_last {B : Nat} (hB : 2 ≤ B) {n : Nat} (h : n ≠ 0) : B ^ ((dg B n).length - 1) ≤ n := by
  apply Nat.le_of_not_lt
  intro hlt
  have := dg_len hB hlt
  have h1 : (dg B n).length ≠ 0 := by
    intro h0
    exact h ((dg_nil hB).1 (List.length_eq_zero_iff.1 h0))
  omega
theorem dg_len_lt {B : Nat} (hB : 2 ≤ B) {m n : Nat} (h : (dg B m).length < (dg B n).length) : m < n := by
  apply Nat.lt_of_not_le
  intro hle
  have := dg_len_mono hB hle
  omega
theorem val_lt_of {B : Nat} (hB : 2 ≤ B) {l m : List Nat} {i : Nat} (hl : Dig B l) (hlen : l.length = m.length) (hi : i < l.length) (hd : l.drop (i + 1) = m.drop (i + 1)) (hlt : l.getD i 0 < m.getD i 0) : val B l < val B m := by
  rw [val_take B l (i + 1), val_take B m (i + 1), hd, val_take_succ, val_take_succ, ← hlen]
  have h1 := val_lt (by omega : 0 < B) (hl.take (n := i))
  rw [List.length_take, Nat.min_eq_left (by omega)] at h1
  have h2 : B ^ i * (l.getD i 0 + 1) ≤ B ^ i * m.getD i 0 := Nat.mul_le_mul_left _ hlt
  rw [Nat.mul_add, Nat.mul_one] at h2
  omega
theorem nanI_ct (n : Int) : Ct P 141 [.c (eI .i64 n)] [.c (.sc (.bool false))] := by
  refine Ct.go T_ok T_mix (N := 6) Tryz.func141 rfl rfl rfl rfl ?_
  have e : (n != n) = false := by simp
  exact ⟨trivial, r1 (by rw [← e]; rfl), trivial⟩
theorem nanU_ct (n : Int) : Ct P 142 [.c (eI .u64 n)] [.c (.sc (.bool false))] := by
  refine Ct.go T_ok T_mix (N := 6) Tryz.func142 rfl rfl rfl rfl ?_
  have e : (n != n) = false := by simp
  exact ⟨trivial, r1 (by rw [← e]; rfl), trivial⟩
def cmpI (a b : Int) : Int := if a < b then -1 else if b < a then 1 else 0
theorem cmpI_ct (a b : Int) : Ct P 103 [.c (eI .i64 a), .c (eI .i64 b)] [.c (eI .i64 (cmpI a b))] := by
  refine Ct.go T_ok T_mix (N := 20) Tryz.func103 rfl rfl rfl rfl ?_
  refine X1 _ (nanI_ct a) ?_
  refine X1 _ (nanI_ct b) ?_
  refine dcase (fun h => ?_) (fun h => ?_)
  · exact ⟨trivial, r1 (iE (by rw [cmpI, if_pos h])), trivial⟩
  · refine dcase (fun h2 => ?_) (fun h2 => ?_)
    · exact ⟨trivial, r1 (iE (by rw [cmpI, if_neg h, if_pos h2])), trivial⟩
    · exact ⟨trivial, r1 (iE (by rw [cmpI, if_neg h, if_neg h2])), trivial⟩
theorem cmpU_ct (a b : Int) : Ct P 104 [.c (eI .u64 a), .c (eI .u64 b)] [.c (eI .i64 (cmpI a b))] := by
  refine Ct.go T_ok T_mix (N := 20) Tryz.func104 rfl rfl rfl rfl ?_
  refine X1 _ (nanU_ct a) ?_
  refine X1 _ (nanU_ct b) ?_
  refine dcase (fun h => ?_) (fun h => ?_)
  · exact ⟨trivial, r1 (iE (by rw [cmpI, if_pos h])), trivial⟩
  · refine dcase (fun h2 => ?_) (fun h2 => ?_)
    · exact ⟨trivial, r1 (iE (by rw [cmpI, if_neg h, if_pos h2])), trivial⟩
    · exact ⟨trivial, r1 (iE (by rw [cmpI, if_neg h, if_neg h2])), trivial⟩
theorem Ct.ans3 {P : Program} {f : FuncId} {a b c : Value} {r s : PC} {v : Value} (hr : ∀ w, (callFunc f #[a, b, c]).run P w = .ok (.value v) w) (hv : ∀ K ok w, RelV K ok w (retV [.c r, .c s]) v) : Ct P f [.c (.sc a), .c (.sc b), .c (.sc c)] [.c r, .c s] := by
  refine ⟨fun K ok w vs hp hrel => .inr ?_⟩
  obtain ⟨v1, us, rfl, h1, hrel⟩ := hrel.head
  obtain ⟨v2, us, rfl, h2, hrel⟩ := hrel.head
  obtain ⟨v3, us, rfl, h3, hrel⟩ := hrel.head
  have : us = [] := by have := hrel.len; simpa using this
  subst this
  have e1 := (RelV.o h1).sc.1
  have e2 := (RelV.o h2).sc.1
  have e3 := (RelV.o h3).sc.1
  subst e1 e2 e3
  exact ⟨v, w, hr w, v, K, ok, rfl, hv K ok w, hp, Fr.refl _ _ _ _⟩
theorem pairRel {K : Km} {ok : Nat → Prop} {w : World} {k k' : IntKind} {a b : Int} (ha : inR k a) (hb : inR k' b) : RelV K ok w (retV [.c (eI k a), .c (eI k' b)]) (.tuple #[.int k a, .int k' b]) :=
  .tup (RelAs.cons (.c (.cl (.sc ha))) (RelAs.cons (.c (.cl (.sc hb))) RelAs.nil))
theorem add64_ct (x y c : Nat) (hx : x < 18446744073709551616) (hy : y < 18446744073709551616) (hc : c ≤ 1) : Ct P 79 [.c (nI .u64 x), .c (nI .u64 y), .c (nI .u64 c)] [.c (nI .u64 ((x + y + c) % 18446744073709551616)), .c (nI .u64 ((x + y + c) / 18446744073709551616))] := by
  refine Ct.ans3 (fun w => ?_) (fun K ok w => pairRel (k := .u64) (k' := .u64) ⟨by omega, by omega⟩ ⟨by omega, by omega⟩)
  rw [run_callFunc_extern Tryz.func79 (by kernel_rfl) (by kernel_rfl) (by kernel_rfl) (e := add64Entry) (by kernel_rfl), run_add64 x y c (by omega) (by omega) (by omega) (by omega)]
  simp only [Result.andThen]
  congr 5 <;> omega
theorem sub64_ct (x y b : Nat) (hx : x < 18446744073709551616) (hy : y < 18446744073709551616) (hb : b ≤ 1) : Ct P 131 [.c (nI .u64 x), .c (nI .u64 y), .c (nI .u64 b)] [.c (nI .u64 ((x + 18446744073709551616 - y - b) % 18446744073709551616)), .c (nI .u64 (if x < y + b then 1 else 0))] := by
  refine Ct.ans3 (fun w => ?_) (fun K ok w => pairRel (k := .u64) (k' := .u64) ⟨by omega, by omega⟩ ⟨by split <;> omega, by split <;> omega⟩)
  rw [run_callFunc_extern Tryz.func131 (by kernel_rfl) (by kernel_rfl) (by kernel_rfl) (e := sub64Entry) (by kernel_rfl), run_sub64 x y b hb]
  rfl
abbrev nV (n : Nat) : A1 := .ag [nSl .u64 (dg 18446744073709551616 n)]
theorem ntrim_ct (l : List Nat) (hl : l.length ≤ 1000000) : Ct P 76 [.c (nSl .u64 l)] [.ag [nSl .u64 (trimL l)]] := by
  refine Ct.go T_ok T_mix (N := 22) Tryz.func76 rfl rfl rfl rfl ?_
  refine loopJ T_ok T_mix (fun m : List Nat => m.length ≤ l.length ∧ trimL l = trimL m) (fun m => [(0, .c (nSl .u64 m)), (2, .c (.ad 2 0))]) (fun _ => [(2, .var [.sc (.slice none 0 0)])]) (fun m => m.length) l ⟨Nat.le_refl _, rfl⟩ ⟨rfl, rfl, trivial⟩ ⟨rfl, trivial⟩
    (fun _ : Unit => True) (fun _ => [(0, .c (nSl .u64 (trimL l))), (2, .c (.ad 2 0))]) (fun _ => [(2, .var [.sc (.slice none 0 0)])]) (fun m hm => ?_) (fun _ _ => ?_)
  · obtain ⟨h1, h2⟩ := hm
    refine And.intro (by rw [nRow_len]; omega) ?_
    rw [nRow_len]
    refine dcase (fun h => ?_) (fun h => ?_)
    · refine And.intro (by rw [nRow_len]; omega) ?_
      rw [nRow_len]
      obtain ⟨k, hk⟩ : ∃ k, m.length = k + 1 := ⟨m.length - 1, by omega⟩
      refine X1 (k : Int) (wI (by omega) (by omega) (by omega)) ?_
      refine And.intro (by omega) (X1 _ (nRow_getN rfl (by omega)) ?_)
      refine ecase (fun h3 => ?_) (fun h3 => ?_)
      · refine And.intro (by rw [nRow_len]; omega) ?_
        rw [nRow_len]
        refine X1 (k : Int) (wI (by omega) (by omega) (by omega)) ?_
        refine ⟨0, k, rfl, rfl, by omega, by rw [nRow_len]; omega, ?_⟩
        have := trimL_step m (n := k) (by omega) (by omega)
        rw [← hk, List.take_length] at this
        exact ⟨m.take k, ⟨by simp; omega, h2.trans this⟩, by simp; omega, ⟨toSl (by rw [nRow_sub]; rfl), rfl, trivial⟩, ⟨rfl, trivial⟩⟩
      · have e : m = trimL l := by
          rw [h2, ← trimL_take m (n := m.length) (Nat.le_refl _) (by rw [List.take_length]) (.inr (by rw [hk]; simpa using h3)), List.take_length]
        exact ⟨(), trivial, ⟨toSl (by rw [e]), rfl, trivial⟩, ⟨rfl, trivial⟩⟩
    · have e : m = trimL l := by
        have : m = [] := List.length_eq_zero_iff.1 (by omega)
        rw [h2, this]; rfl
      exact ⟨(), trivial, ⟨toSl (by rw [e]), rfl, trivial⟩, ⟨rfl, trivial⟩⟩
  · exact ⟨trivial, rc rfl, trivial⟩
theorem nof_ct (v : Nat) (hv : v < 18446744073709551616) : Ct P 36 [.c (nI .u64 v)] [nV v] := by
  refine Ct.go T_ok T_mix (N := 6) Tryz.func36 rfl rfl rfl rfl ?_
  refine X2 .frz ?_
  have h := ntrim_ct [v] (by simp)
  rw [trim_dg (B := 18446744073709551616) (by omega) (Dig.cons hv .nil)] at h
  have e : val 18446744073709551616 [v] = v := by simp [val]
  rw [e] at h
  refine X1 _ h ?_
  exact ⟨trivial, rc rfl, trivial⟩
theorem nzero_ct (n : Nat) (hn : (dg 18446744073709551616 n).length ≤ 1000000) : Ct P 57 [nV n] [.c (.sc (.bool (n == 0)))] := by
  refine Ct.go T_ok T_mix (N := 7) Tryz.func57 rfl rfl rfl rfl ?_
  refine And.intro (by rw [nRow_len]; omega) ?_
  have e : ((((nRow .u64 (dg 18446744073709551616 n)).length : Nat) : Int) == 0) = (n == 0) := by
    rw [nRow_len]
    have := dg_nil (B := 18446744073709551616) (n := n) (by omega)
    rw [← List.length_eq_zero_iff] at this
    rw [Bool.eq_iff_iff]
    simp only [beq_iff_eq]
    omega
  exact ⟨trivial, r1 (by rw [← e]; rfl), trivial⟩
theorem ncmp_ct (a b : Nat) (ha : (dg 18446744073709551616 a).length ≤ 1000000) (hb : (dg 18446744073709551616 b).length ≤ 1000000) : Ct P 59 [nV a, nV b] [.c (eI .i64 (cmpI a b))] := by
  refine Ct.go T_ok T_mix (N := 40) Tryz.func59 rfl rfl rfl rfl ?_
  refine And.intro (by rw [nRow_len]; omega) ?_
  refine And.intro (by rw [nRow_len]; omega) ?_
  rw [nRow_len, nRow_len]
  refine X1 _ (cmpI_ct _ _) ?_
  refine ncase (fun h => ?_) (fun h => ?_)
  · have e : cmpI ((dg 18446744073709551616 a).length : Int) (dg 18446744073709551616 b).length = cmpI a b := by
      unfold cmpI at h ⊢
      split at h
      · rename_i h1
        have : a < b := dg_len_lt (B := 18446744073709551616) (by omega) (by omega)
        rw [if_pos h1, if_pos (by omega)]
      · split at h
        · rename_i h1 h2
          have : b < a := dg_len_lt (B := 18446744073709551616) (by omega) (by omega)
          rw [if_neg h1, if_pos h2, if_neg (by omega), if_pos (by omega)]
        · exact absurd rfl h
    exact ⟨trivial, r1 (iE e), trivial⟩
  · have hlen : (dg 18446744073709551616 a).length = (dg 18446744073709551616 b).length := by
      unfold cmpI at h
      split at h
      · omega
      · split at h <;> omega
    refine And.intro (by rw [nRow_len]; omega) ?_
    rw [nRow_len]
    refine X1 (((dg 18446744073709551616 a).length : Int) - 1) (wi (by omega) (by omega)) ?_
    refine loopJ T_ok T_mix (fun n : Nat => n ≤ (dg 18446744073709551616 a).length ∧ (dg 18446744073709551616 a).drop n = (dg 18446744073709551616 b).drop n)
      (fun n => [(2, .c (.ad 2 0)), (3, .c (.ad 3 0)), (6, .c (eI .i64 ((n : Int) - 1)))]) (fun _ => [(2, .var [nSl .u64 (dg 18446744073709551616 a)]), (3, .var [nSl .u64 (dg 18446744073709551616 b)])]) (fun n => n)
      (dg 18446744073709551616 a).length ⟨Nat.le_refl _, by rw [List.drop_length, List.drop_eq_nil_of_le (by omega)]⟩ ⟨rfl, rfl, rfl, trivial⟩ ⟨rfl, rfl, trivial⟩
      (fun _ : Unit => a = b) (fun _ => []) (fun _ => []) (fun n hn => ?_) (fun _ he => ?_)
    · obtain ⟨h1, h2⟩ := hn
      refine dcase (fun h5 => ?_) (fun h5 => ?_)
      · obtain ⟨m, rfl⟩ : ∃ m, n = m + 1 := ⟨n - 1, by omega⟩
        have hA := dig_dg (B := 18446744073709551616) (by omega) a
        have hB := dig_dg (B := 18446744073709551616) (by omega) b
        have vA := val_dg (B := 18446744073709551616) (by omega) a
        have vB := val_dg (B := 18446744073709551616) (by omega) b
        refine And.intro (by omega) (X1 _ (nRow_getN (n := m) (by omega) (by omega)) ?_)
        refine And.intro (by omega) (X1 _ (nRow_getN (n := m) (by omega) (by omega)) ?_)
        refine X1 _ (cmpU_ct _ _) ?_
        refine And.intro rfl ?_
        refine ncase (fun h6 => ?_) (fun h6 => ?_)
        · have e : cmpI ((dg 18446744073709551616 a).getD m 0 : Nat) ((dg 18446744073709551616 b).getD m 0 : Nat) = cmpI a b := by
            unfold cmpI at h6 ⊢
            split at h6
            · rename_i h7
              have := val_lt_of (B := 18446744073709551616) (by omega) hA hlen (by omega) h2 (by omega)
              rw [if_pos h7, if_pos (by omega)]
            · split at h6
              · rename_i h7 h8
                have := val_lt_of (B := 18446744073709551616) (by omega) hB hlen.symm (by omega) h2.symm (by omega)
                rw [if_neg h7, if_pos h8, if_neg (by omega), if_pos (by omega)]
              · exact absurd rfl h6
          exact ⟨trivial, r1 (iE e), trivial⟩
        · have e1 : (dg 18446744073709551616 a).getD m 0 = (dg 18446744073709551616 b).getD m 0 := by
            unfold cmpI at h6
            split at h6
            · omega
            · split at h6 <;> omega
          refine X1 ((m : Int) - 1) (wI (by omega) (by omega) (by omega)) ?_
          refine ⟨m, ⟨by omega, ?_⟩, by omega, ⟨rfl, rfl, rfl, trivial⟩, ⟨rfl, rfl, trivial⟩⟩
          rw [List.getD_eq_getElem?_getD, List.getD_eq_getElem?_getD, List.getElem?_eq_getElem (by omega : m < (dg 18446744073709551616 a).length), List.getElem?_eq_getElem (by omega : m < (dg 18446744073709551616 b).length)] at e1
          rw [List.drop_eq_getElem_cons (by omega : m < (dg 18446744073709551616 a).length), List.drop_eq_getElem_cons (by omega : m < (dg 18446744073709551616 b).length), h2]
          simp only [Option.getD_some] at e1
          rw [e1]
      · have hn : n = 0 := by omega
        subst hn
        refine ⟨(), ?_, trivial, trivial⟩
        rw [List.drop_zero, List.drop_zero] at h2
        rw [← val_dg (B := 18446744073709551616) (by omega) a, h2, val_dg (by omega)]
    · exact ⟨trivial, r1 (iE (by rw [cmpI, if_neg (by omega), if_neg (by omega)])), trivial⟩
theorem nsub_ct (a b : Nat) (hab : b ≤ a) (ha : (dg 18446744073709551616 a).length ≤ 1000000) : Ct P 87 [nV a, nV b] [nV (a - b), .c (eI .i64 0)] := by
  have hlb : (dg 18446744073709551616 b).length ≤ (dg 18446744073709551616 a).length := dg_len_mono (by omega) hab
  refine Ct.go T_ok T_mix (N := 52) Tryz.func87 rfl rfl rfl rfl ?_
  refine X1 _ (ncmp_ct a b ha (by omega)) ?_
  refine bfalse (decide_eq_false (by unfold cmpI; split <;> (try split) <;> omega)) ?_
  refine And.intro (by rw [nRow_len]; omega) ?_
  rw [nRow_len]
  refine ⟨by omega, by omega, by omega, .inl (by decide), ?_⟩
  refine And.intro (by rw [nRow_len]; omega) ?_
  rw [nRow_len]
  refine loopJ T_ok T_mix (G := Nat × List Nat × Nat) (fun (i, out, c) => i ≤ (dg 18446744073709551616 a).length ∧ out.length = (dg 18446744073709551616 a).length ∧ Dig 18446744073709551616 out ∧ c ≤ 1 ∧ val 18446744073709551616 ((dg 18446744073709551616 a).take i) + 18446744073709551616 ^ i * c = val 18446744073709551616 ((dg 18446744073709551616 b).take i) + val 18446744073709551616 (out.take i))
    (fun (i, out, c) => [(2, .c (.ad 2 0)), (3, .c (.ad 3 0)), (4, .c (.ad 4 0)), (6, .c (.ow 18 1 (dg 18446744073709551616 a).length)), (7, .c (nI .u64 c)), (21, .c (nI .i64 (dg 18446744073709551616 a).length)), (22, .c (nI .i64 i))])
    (fun ((i, out, c) : Nat × List Nat × Nat) => [(2, .var [nSl .u64 (dg 18446744073709551616 a)]), (3, .var [nSl .u64 (dg 18446744073709551616 b)]), (4, .var [.sc (.slice none 0 0)]), (18, .row 1 (nRow .u64 out))]) (fun (i, out, c) => (dg 18446744073709551616 a).length - i)
    (0, List.replicate (dg 18446744073709551616 a).length 0, 0) ⟨by simp, by simp, fun x hx => by rw [List.eq_of_mem_replicate hx]; omega, by simp, by simp [val]⟩
    ⟨rfl, rfl, rfl, owE (by omega), rfl, rfl, rfl, trivial⟩ ⟨rfl, rfl, rfl, rowE (rep_row rfl), trivial⟩
    (fun l : List Nat => Dig 18446744073709551616 l ∧ val 18446744073709551616 l = a - b ∧ l.length ≤ 1000000) (fun l => [(4, .c (.ad 4 0)), (6, .c (.ow 18 1 (dg 18446744073709551616 a).length))]) (fun l => [(4, .var [.sc (.slice none 0 0)]), (18, .row 1 (nRow .u64 l))]) (fun g hg => ?_) (fun l hl => ?_)
  · obtain ⟨i, out, c⟩ := g
    obtain ⟨h1, h2, h6, h3, h4⟩ := hg
    refine dcase (fun h5 => ?_) (fun h5 => ?_)
    · have hx := (dig_dg (B := 18446744073709551616) (by omega) a).getD (by omega) i
      have hy := (dig_dg (B := 18446744073709551616) (by omega) b).getD (by omega) i
      have hA := val_take_succ 18446744073709551616 (dg 18446744073709551616 a) i
      have hB := val_take_succ 18446744073709551616 (dg 18446744073709551616 b) i
      generalize hxx : (dg 18446744073709551616 a).getD i 0 = x at hx hA
      refine And.intro (by rw [nRow_len]; omega) ?_
      rw [nRow_len]
      refine dcase (fun h7 => And.intro (by omega) (X1 _ (nRow_getN rfl (by omega)) ?_)) (fun h7 => ?_)
      · generalize hyy : (dg 18446744073709551616 b).getD i 0 = y at hy hB ⊢
        refine And.intro (by omega) (X1 _ (nRow_getN rfl (by omega)) ?_)
        rw [hxx]
        refine X1 _ (sub64_ct x y c hx (by omega) h3) ?_
        refine And.intro (by omega) (And.intro (by simp <;> omega) ?_)
        refine X1 _ (nRow_getN rfl (by omega)) ?_
        refine X1 ((i + 1 : Nat) : Int) (wI1 (by omega)) ?_
        refine ⟨(i + 1, out.set i ((x + 18446744073709551616 - y - c) % 18446744073709551616), if x < y + c then 1 else 0), ⟨by omega, by simp [h2], h6.set (by omega), by split <;> omega, ?_⟩, by show _ - (i + 1) < _ - i; omega, ⟨rfl, rfl, rfl, rfl, rfl, rfl, rfl, trivial⟩, ⟨rfl, rfl, rfl, rowE nRow_set, trivial⟩⟩
        have hst := val_take_set 18446744073709551616 out (i := i) (v := (x + 18446744073709551616 - y - c) % 18446744073709551616) (by omega)
        rw [hst, hA, hB]
        have key : x + 18446744073709551616 * (if x < y + c then 1 else 0) = (x + 18446744073709551616 - y - c) % 18446744073709551616 + y + c := by split <;> omega
        have k2 := congrArg (18446744073709551616 ^ i * ·) key
        simp only [Nat.mul_add] at k2
        rw [Nat.pow_succ, Nat.mul_assoc]
        omega
      · have hyy : (dg 18446744073709551616 b).getD i 0 = 0 := by rw [List.getD_eq_getElem?_getD, List.getElem?_eq_none (by omega)]; rfl
        rw [hyy] at hB
        refine And.intro (by omega) (X1 _ (nRow_getN rfl (by omega)) ?_)
        rw [hxx]
        refine X1 _ (sub64_ct x 0 c hx (by omega) h3) ?_
        refine And.intro (by omega) (And.intro (by simp <;> omega) ?_)
        refine X1 _ (nRow_getN rfl (by omega)) ?_
        refine X1 ((i + 1 : Nat) : Int) (wI1 (by omega)) ?_
        refine ⟨(i + 1, out.set i ((x + 18446744073709551616 - 0 - c) % 18446744073709551616), if x < 0 + c then 1 else 0), ⟨by omega, by simp [h2], h6.set (by omega), by split <;> omega, ?_⟩, by show _ - (i + 1) < _ - i; omega, ⟨rfl, rfl, rfl, rfl, rfl, rfl, rfl, trivial⟩, ⟨rfl, rfl, rfl, rowE nRow_set, trivial⟩⟩
        have hst := val_take_set 18446744073709551616 out (i := i) (v := (x + 18446744073709551616 - 0 - c) % 18446744073709551616) (by omega)
        rw [hst, hA, hB]
        have key : x + 18446744073709551616 * (if x < 0 + c then 1 else 0) = (x + 18446744073709551616 - 0 - c) % 18446744073709551616 + 0 + c := by split <;> omega
        have k2 := congrArg (18446744073709551616 ^ i * ·) key
        simp only [Nat.mul_add] at k2
        rw [Nat.pow_succ, Nat.mul_assoc]
        omega
    · have e : i = (dg 18446744073709551616 a).length := by omega
      subst e
      refine ⟨out, ⟨h6, ?_, by omega⟩, ⟨rfl, rfl, trivial⟩, ⟨rfl, rfl, trivial⟩⟩
      rw [val_take_all (Nat.le_refl _), val_take_all hlb, val_take_all (by omega), val_dg (by omega), val_dg (by omega)] at h4
      have h7 := val_lt (by omega : 0 < 18446744073709551616) h6
      rw [h2] at h7
      have h8 : c = 0 := by
        rcases Nat.eq_zero_or_pos c with h | h
        · exact h
        · have : c = 1 := by omega
          subst this
          omega
      subst h8
      omega
  · obtain ⟨h1, h2, h3⟩ := hl
    refine X2 .frz ?_
    refine X1 _ (ntrim_ct l h3) ?_
    rw [trim_dg (by omega) h1, h2]
    exact ⟨trivial, rc rfl, r1 rfl, trivial⟩
def blen (n : Nat) : Nat := (dg 2 n).length
theorem blen_zero : blen 0 = 0 := by rw [blen, dg_zero]; rfl
theorem blen_pos {n : Nat} (h : n ≠ 0) : blen n = 1 + blen (n / 2) := by rw [blen, dg_pos (by omega) h, List.length_cons, Nat.add_comm]; rfl
theorem blen_shift : ∀ (k : Nat) {n : Nat}, 2 ^ k ≤ n → blen n = k + blen (n / 2 ^ k)
  | 0, n, _ => by simp
  | k + 1, n, h => by
    rw [Nat.pow_succ] at h
    have hp : 0 < 2 ^ k := Nat.two_pow_pos k
    rw [blen_pos (by omega), blen_shift k (n := n / 2) (by omega), Nat.div_div_eq_div_mul, Nat.pow_succ, Nat.mul_comm 2]
    omega
theorem lt_blen (n : Nat) : n < 2 ^ blen n := lt_dg_len (by omega) n
theorem blen_le {n k : Nat} (h : n < 2 ^ k) : blen n ≤ k := dg_len (by omega) h
theorem le_blen {n : Nat} (h : n ≠ 0) : 2 ^ (blen n - 1) ≤ n := dg_last (by omega) h
def len8 (n : Nat) : Nat := if n < 1 then 0 else if n < 2 then 1 else if n < 4 then 2 else if n < 8 then 3 else if n < 16 then 4 else if n < 32 then 5 else if n < 64 then 6 else if n < 128 then 7 else 8
theorem len8_le (n : Nat) : len8 n ≤ 8 := by
  unfold len8
  repeat' split
  all_goals omega
theorem blen_is {n k : Nat} (h1 : 2 ^ k ≤ n) (h2 : n < 2 ^ (k + 1)) : blen n = k + 1 := by
  have h3 := blen_le h2
  have h4 := lt_blen n
  apply Nat.le_antisymm h3
  apply Nat.le_of_not_lt
  intro hlt
  have : 2 ^ blen n ≤ 2 ^ k := Nat.pow_le_pow_right (by omega) (by omega)
  omega
theorem len8_blen {n : Nat} (h : n < 256) : len8 n = blen n := by
  unfold len8
  split
  · have : n = 0 := by omega
    subst this; exact blen_zero.symm
  · split
    · exact (blen_is (k := 0) (by omega) (by omega)).symm
    · split
      · exact (blen_is (k := 1) (by omega) (by omega)).symm
      · split
        · exact (blen_is (k := 2) (by omega) (by omega)).symm
        · split
          · exact (blen_is (k := 3) (by omega) (by omega)).symm
          · split
            · exact (blen_is (k := 4) (by omega) (by omega)).symm
            · split
              · exact (blen_is (k := 5) (by omega) (by omega)).symm
              · split
                · exact (blen_is (k := 6) (by omega) (by omega)).symm
                · exact (blen_is (k := 7) (by omega) (by omega)).symm
def chk8 (l : List UInt8) : Bool := l == (List.range 256).map fun i => UInt8.ofNat (len8 i)
theorem tab8 {d : Array UInt8} (h : chk8 d.toList = true) {x : Nat} (hx : x < 256) : d[((x : Nat) : Int).toNat]? = some (UInt8.ofNat (len8 x)) := by
  have e := eq_of_beq h
  rw [Int.toNat_natCast, ← Array.getElem?_toList, e]
  simp [hx]
theorem u8n {n : Nat} (h : n < 256) : ((UInt8.ofNat n).toNat : Int) = n := by
  rw [UInt8.toNat_ofNat_of_lt' (by simpa using h)]
theorem shrN {x k : Nat} (h : k ≤ 64) : (x : Int).fdiv (2 ^ min ((k : Nat) : Int).toNat 64) = ((x / 2 ^ k : Nat) : Int) := by
  rw [Int.toNat_natCast, Nat.min_eq_left h, Int.fdiv_eq_ediv_of_nonneg _ (Int.le_of_lt (Int.pow_pos (by omega)))]
  simp
set_option maxRecDepth 100000 in
theorem len64_ct (v : Nat) (hv : v < 18446744073709551616) : Ct P 120 [.c (nI .u64 v)] [.c (nI .i64 (blen v))] := by
  refine Ct.go T_ok T_mix (N := 25) Tryz.func120 rfl rfl rfl rfl ?_
  refine dcase (fun h0 => ?_) (fun h0 => ?_)
  · obtain ⟨x1, e0⟩ : ∃ x1, x1 = v / 2 ^ 32 := ⟨_, rfl⟩
    have b0 : blen v = 32 + blen x1 := by rw [e0]; exact blen_shift _ (by omega)
    refine And.intro (by omega) (X1 ((x1 : Nat) : Int) (by rw [e0]; exact shrN (k := 32) (by decide)) (And.intro ⟨by omega, by omega⟩ ?_))
    refine dcase (fun h1 => ?_) (fun h1 => ?_)
    · obtain ⟨x2, e1⟩ : ∃ x2, x2 = x1 / 2 ^ 16 := ⟨_, rfl⟩
      have b1 : blen x1 = 16 + blen x2 := by rw [e1]; exact blen_shift _ (by omega)
      refine And.intro (by omega) (X1 ((x2 : Nat) : Int) (by rw [e1]; exact shrN (k := 16) (by decide)) (And.intro ⟨by omega, by omega⟩ ?_))
      refine X1 ((32 + 16 : Nat) : Int) (wI (by simp) (by omega) (by omega)) ?_
      refine dcase (fun h2 => ?_) (fun h2 => ?_)
      · obtain ⟨x3, e2⟩ : ∃ x3, x3 = x2 / 2 ^ 8 := ⟨_, rfl⟩
        have b2 : blen x2 = 8 + blen x3 := by rw [e2]; exact blen_shift _ (by omega)
        refine And.intro (by omega) (X1 ((x3 : Nat) : Int) (by rw [e2]; exact shrN (k := 8) (by decide)) (And.intro ⟨by omega, by omega⟩ ?_))
        refine X1 ((32 + 16 + 8 : Nat) : Int) (wI (by simp) (by omega) (by omega)) ?_
        have hx8 : x3 < 256 := by omega
        refine X1 ((x3 : Nat) : Int) (wrap_of_inR ⟨by omega, by omega⟩) ?_
        refine And.intro (by omega) (X1 (UInt8.ofNat (len8 x3)) (tab8 (by rfl) hx8) ?_)
        have hb := len8_le x3
        refine X1 ((len8 x3 : Nat) : Int) (wI (by rw [u8n (by omega)]) (by omega) (by omega)) ?_
        refine X1 (((32 + 16 + 8) + len8 x3 : Nat) : Int) (wI (by simp) (by omega) (by omega)) ?_
        rw [len8_blen hx8] at *
        exact ⟨trivial, r1 (iE (by rw [show blen v = 32 + 16 + 8 + blen x3 by omega])), trivial⟩
      · skip
        have hx8 : x2 < 256 := by omega
        refine X1 ((x2 : Nat) : Int) (wrap_of_inR ⟨by omega, by omega⟩) ?_
        refine And.intro (by omega) (X1 (UInt8.ofNat (len8 x2)) (tab8 (by rfl) hx8) ?_)
        have hb := len8_le x2
        refine X1 ((len8 x2 : Nat) : Int) (wI (by rw [u8n (by omega)]) (by omega) (by omega)) ?_
        refine X1 (((32 + 16) + len8 x2 : Nat) : Int) (wI (by simp) (by omega) (by omega)) ?_
        rw [len8_blen hx8] at *
        exact ⟨trivial, r1 (iE (by rw [show blen v = 32 + 16 + blen x2 by omega])), trivial⟩
    · skip
      refine dcase (fun h2 => ?_) (fun h2 => ?_)
      · obtain ⟨x3, e2⟩ : ∃ x3, x3 = x1 / 2 ^ 8 := ⟨_, rfl⟩
        have b2 : blen x1 = 8 + blen x3 := by rw [e2]; exact blen_shift _ (by omega)
        refine And.intro (by omega) (X1 ((x3 : Nat) : Int) (by rw [e2]; exact shrN (k := 8) (by decide)) (And.intro ⟨by omega, by omega⟩ ?_))
        refine X1 ((32 + 8 : Nat) : Int) (wI (by simp) (by omega) (by omega)) ?_
        have hx8 : x3 < 256 := by omega
        refine X1 ((x3 : Nat) : Int) (wrap_of_inR ⟨by omega, by omega⟩) ?_
        refine And.intro (by omega) (X1 (UInt8.ofNat (len8 x3)) (tab8 (by rfl) hx8) ?_)
        have hb := len8_le x3
        refine X1 ((len8 x3 : Nat) : Int) (wI (by rw [u8n (by omega)]) (by omega) (by omega)) ?_
        refine X1 (((32 + 8) + len8 x3 : Nat) : Int) (wI (by simp) (by omega) (by omega)) ?_
        rw [len8_blen hx8] at *
        exact ⟨trivial, r1 (iE (by rw [show blen v = 32 + 8 + blen x3 by omega])), trivial⟩
      · skip
        have hx8 : x1 < 256 := by omega
        refine X1 ((x1 : Nat) : Int) (wrap_of_inR ⟨by omega, by omega⟩) ?_
        refine And.intro (by omega) (X1 (UInt8.ofNat (len8 x1)) (tab8 (by rfl) hx8) ?_)
        have hb := len8_le x1
        refine X1 ((len8 x1 : Nat) : Int) (wI (by rw [u8n (by omega)]) (by omega) (by omega)) ?_
        refine X1 (((32) + len8 x1 : Nat) : Int) (wI (by simp) (by omega) (by omega)) ?_
        rw [len8_blen hx8] at *
        exact ⟨trivial, r1 (iE (by rw [show blen v = 32 + blen x1 by omega])), trivial⟩
  · skip
    refine dcase (fun h1 => ?_) (fun h1 => ?_)
    · obtain ⟨x2, e1⟩ : ∃ x2, x2 = v / 2 ^ 16 := ⟨_, rfl⟩
      have b1 : blen v = 16 + blen x2 := by rw [e1]; exact blen_shift _ (by omega)
      refine And.intro (by omega) (X1 ((x2 : Nat) : Int) (by rw [e1]; exact shrN (k := 16) (by decide)) (And.intro ⟨by omega, by omega⟩ ?_))
      refine X1 ((0 + 16 : Nat) : Int) (wI (by simp) (by omega) (by omega)) ?_
      refine dcase (fun h2 => ?_) (fun h2 => ?_)
      · obtain ⟨x3, e2⟩ : ∃ x3, x3 = x2 / 2 ^ 8 := ⟨_, rfl⟩
        have b2 : blen x2 = 8 + blen x3 := by rw [e2]; exact blen_shift _ (by omega)
        refine And.intro (by omega) (X1 ((x3 : Nat) : Int) (by rw [e2]; exact shrN (k := 8) (by decide)) (And.intro ⟨by omega, by omega⟩ ?_))
        refine X1 ((0 + 16 + 8 : Nat) : Int) (wI (by simp) (by omega) (by omega)) ?_
        have hx8 : x3 < 256 := by omega
        refine X1 ((x3 : Nat) : Int) (wrap_of_inR ⟨by omega, by omega⟩) ?_
        refine And.intro (by omega) (X1 (UInt8.ofNat (len8 x3)) (tab8 (by rfl) hx8) ?_)
        have hb := len8_le x3
        refine X1 ((len8 x3 : Nat) : Int) (wI (by rw [u8n (by omega)]) (by omega) (by omega)) ?_
        refine X1 (((0 + 16 + 8) + len8 x3 : Nat) : Int) (wI (by simp) (by omega) (by omega)) ?_
        rw [len8_blen hx8] at *
        exact ⟨trivial, r1 (iE (by rw [show blen v = 0 + 16 + 8 + blen x3 by omega])), trivial⟩
      · skip
        have hx8 : x2 < 256 := by omega
        refine X1 ((x2 : Nat) : Int) (wrap_of_inR ⟨by omega, by omega⟩) ?_
        refine And.intro (by omega) (X1 (UInt8.ofNat (len8 x2)) (tab8 (by rfl) hx8) ?_)
        have hb := len8_le x2
        refine X1 ((len8 x2 : Nat) : Int) (wI (by rw [u8n (by omega)]) (by omega) (by omega)) ?_
        refine X1 (((0 + 16) + len8 x2 : Nat) : Int) (wI (by simp) (by omega) (by omega)) ?_
        rw [len8_blen hx8] at *
        exact ⟨trivial, r1 (iE (by rw [show blen v = 0 + 16 + blen x2 by omega])), trivial⟩
    · skip
      refine dcase (fun h2 => ?_) (fun h2 => ?_)
      · obtain ⟨x3, e2⟩ : ∃ x3, x3 = v / 2 ^ 8 := ⟨_, rfl⟩
        have b2 : blen v = 8 + blen x3 := by rw [e2]; exact blen_shift _ (by omega)
        refine And.intro (by omega) (X1 ((x3 : Nat) : Int) (by rw [e2]; exact shrN (k := 8) (by decide)) (And.intro ⟨by omega, by omega⟩ ?_))
        refine X1 ((0 + 8 : Nat) : Int) (wI (by simp) (by omega) (by omega)) ?_
        have hx8 : x3 < 256 := by omega
        refine X1 ((x3 : Nat) : Int) (wrap_of_inR ⟨by omega, by omega⟩) ?_
        refine And.intro (by omega) (X1 (UInt8.ofNat (len8 x3)) (tab8 (by rfl) hx8) ?_)
        have hb := len8_le x3
        refine X1 ((len8 x3 : Nat) : Int) (wI (by rw [u8n (by omega)]) (by omega) (by omega)) ?_
        refine X1 (((0 + 8) + len8 x3 : Nat) : Int) (wI (by simp) (by omega) (by omega)) ?_
        rw [len8_blen hx8] at *
        exact ⟨trivial, r1 (iE (by rw [show blen v = 0 + 8 + blen x3 by omega])), trivial⟩
      · skip
        have hx8 : v < 256 := by omega
        refine X1 ((v : Nat) : Int) (wrap_of_inR ⟨by omega, by omega⟩) ?_
        refine And.intro (by omega) (X1 (UInt8.ofNat (len8 v)) (tab8 (by rfl) hx8) ?_)
        have hb := len8_le v
        refine X1 ((len8 v : Nat) : Int) (wI (by rw [u8n (by omega)]) (by omega) (by omega)) ?_
        refine X1 (((0) + len8 v : Nat) : Int) (wI (by simp) (by omega) (by omega)) ?_
        rw [len8_blen hx8] at *
        exact ⟨trivial, r1 (iE (by simp)), trivial⟩
theorem lz64_ct (v : Nat) (hv : v < 18446744073709551616) : Ct P 122 [.c (nI .u64 v)] [.c (nI .i64 (64 - blen v))] := by
  have h := blen_le (n := v) (k := 64) hv
  refine Ct.go T_ok T_mix (N := 6) Tryz.func122 rfl rfl rfl rfl ?_
  refine X1 _ (len64_ct v hv) ?_
  refine X1 ((64 - blen v : Nat) : Int) (wI (by omega) (by omega) (by omega)) ?_
  exact ⟨trivial, r1 rfl, trivial⟩
theorem w_pow (k : Nat) : 18446744073709551616 ^ k = 2 ^ (64 * k) := by rw [Nat.pow_mul]
theorem blen_top {n : Nat} (h : n ≠ 0) : blen n = 64 * ((dg 18446744073709551616 n).length - 1) + blen ((dg 18446744073709551616 n).getD ((dg 18446744073709551616 n).length - 1) 0) := by
  obtain ⟨m, hm⟩ : ∃ m, (dg 18446744073709551616 n).length = m + 1 := ⟨(dg 18446744073709551616 n).length - 1, by
    have : (dg 18446744073709551616 n).length ≠ 0 := fun h0 => h ((dg_nil (by omega)).1 (List.length_eq_zero_iff.1 h0))
    omega⟩
  have h1 := val_take_succ 18446744073709551616 (dg 18446744073709551616 n) m
  rw [val_take_all (by omega), val_dg (by omega)] at h1
  have h2 := val_lt (by omega : 0 < 18446744073709551616) ((dig_dg (B := 18446744073709551616) (by omega) n).take (n := m))
  rw [List.length_take, Nat.min_eq_left (by omega)] at h2
  have h3 := dg_last (B := 18446744073709551616) (by omega) h
  rw [hm, Nat.add_sub_cancel] at h3 ⊢
  have h4 : n / 18446744073709551616 ^ m = (dg 18446744073709551616 n).getD m 0 := by
    conv => lhs; rw [h1]
    rw [Nat.add_mul_div_left _ _ (Nat.pow_pos (by omega)), Nat.div_eq_of_lt h2, Nat.zero_add]
  rw [← h4]
  rw [w_pow] at h3 ⊢
  exact blen_shift _ h3
theorem blen_len (n : Nat) : blen n ≤ 64 * (dg 18446744073709551616 n).length := by
  apply blen_le
  rw [← w_pow]
  exact lt_dg_len (by omega) n
theorem nbits_ct (n : Nat) (hn : (dg 18446744073709551616 n).length ≤ 1000000) : Ct P 78 [nV n] [.c (nI .i64 (blen n))] := by
  refine Ct.go T_ok T_mix (N := 22) Tryz.func78 rfl rfl rfl rfl ?_
  refine And.intro (by rw [nRow_len]; omega) ?_
  rw [nRow_len]
  refine ecase (fun h => ?_) (fun h => ?_)
  · have : n = 0 := (dg_nil (B := 18446744073709551616) (by omega)).1 (List.length_eq_zero_iff.1 (by omega))
    subst this
    exact ⟨trivial, r1 (iE (by rw [blen_zero]; rfl)), trivial⟩
  · have h0 : n ≠ 0 := fun h0 => h (by rw [h0, dg_zero]; rfl)
    refine And.intro (by rw [nRow_len]; omega) ?_
    rw [nRow_len]
    refine X1 (((dg 18446744073709551616 n).length - 1 : Nat) : Int) (wI (by omega) (by omega) (by omega)) ?_
    refine X1 ((64 * ((dg 18446744073709551616 n).length - 1) : Nat) : Int) (wI (by omega) (by omega) (by omega)) ?_
    refine And.intro (by rw [nRow_len]; omega) ?_
    rw [nRow_len]
    refine X1 (((dg 18446744073709551616 n).length - 1 : Nat) : Int) (wI (by omega) (by omega) (by omega)) ?_
    refine And.intro (by omega) (X1 _ (nRow_getN rfl (by omega)) ?_)
    have hd := (dig_dg (B := 18446744073709551616) (by omega) n).getD (by omega) ((dg 18446744073709551616 n).length - 1)
    refine X1 _ (len64_ct _ hd) ?_
    have hb := blen_top h0
    have hle := blen_len n
    refine X1 ((blen n : Nat) : Int) (wI (by omega) (by omega) (by omega)) ?_
    refine And.intro rfl ?_
    exact ⟨trivial, r1 rfl, trivial⟩
theorem nlonger_ct (a b : Nat) (ha : (dg 18446744073709551616 a).length ≤ 1000000) (hb : (dg 18446744073709551616 b).length ≤ 1000000) : Ct P 77 [.c (.fn 78 []), nV a, nV b] [nV (if blen a < blen b then b else a), nV (if blen a < blen b then a else b)] := by
  refine Ct.go T_ok T_mix (N := 19) Tryz.func77 rfl rfl rfl rfl ?_
  refine X1 _ (nbits_ct a ha) ?_
  refine X1 _ (nbits_ct b hb) ?_
  refine And.intro rfl ?_
  refine dcase (fun h => ?_) (fun h => ?_)
  · refine And.intro rfl ?_
    rw [if_pos (by omega), if_pos (by omega)]
    exact ⟨trivial, rc rfl, rc rfl, trivial⟩
  · refine And.intro rfl ?_
    rw [if_neg (by omega), if_neg (by omega)]
    exact ⟨trivial, rc rfl, rc rfl, trivial⟩
theorem and32 {x : Nat} (hx : x < 18446744073709551616) : IntKind.u64.wrap ((BitVec.ofInt IntKind.u64.bits (x : Int) &&& BitVec.ofInt IntKind.u64.bits 4294967295).toNat : Int) = ((x % 4294967296 : Nat) : Int) := by
  have e : (BitVec.ofInt IntKind.u64.bits (x : Int) &&& BitVec.ofInt IntKind.u64.bits 4294967295).toNat = x % 4294967296 := by
    show (BitVec.ofInt 64 (x : Int) &&& BitVec.ofInt 64 ((4294967295 : Nat) : Int)).toNat = _
    rw [BitVec.ofInt_natCast, BitVec.ofInt_natCast, BitVec.toNat_and, BitVec.toNat_ofNat, BitVec.toNat_ofNat, Nat.mod_eq_of_lt (by omega : x < 2 ^ 64), Nat.mod_eq_of_lt (by omega : 4294967295 < 2 ^ 64)]
    exact Nat.and_two_pow_sub_one_eq_mod x 32
  rw [e]
  exact wU rfl (by omega) (by omega)
theorem modU {n : Nat} : IntKind.u64.wrap (n : Int) = ((n % 18446744073709551616 : Nat) : Int) := by
  simp [IntKind.wrap, IntKind.bits, IntKind.signed]
theorem mul64_ct (x y : Nat) (hx : x < 18446744073709551616) (hy : y < 18446744073709551616) : Ct P 121 [.c (nI .u64 x), .c (nI .u64 y)] [.c (nI .u64 (x * y / 18446744073709551616)), .c (nI .u64 (x * y % 18446744073709551616))] := by
  have q : x * y = (x / 4294967296) * (y / 4294967296) * 18446744073709551616 + (x / 4294967296) * (y % 4294967296) * 4294967296 + (x % 4294967296) * (y / 4294967296) * 4294967296 + (x % 4294967296) * (y % 4294967296) := by
    conv => lhs; rw [← Nat.div_add_mod x 4294967296, ← Nat.div_add_mod y 4294967296]
    simp only [Nat.mul_add, Nat.add_mul]
    have e1 : 4294967296 * (x / 4294967296) * (4294967296 * (y / 4294967296)) = (x / 4294967296) * (y / 4294967296) * 18446744073709551616 := by
      rw [Nat.mul_mul_mul_comm, Nat.mul_comm (4294967296 * 4294967296)]
    have e2 : x % 4294967296 * (4294967296 * (y / 4294967296)) = (x % 4294967296) * (y / 4294967296) * 4294967296 := by rw [Nat.mul_left_comm, Nat.mul_comm 4294967296]
    have e3 : 4294967296 * (x / 4294967296) * (y % 4294967296) = (x / 4294967296) * (y % 4294967296) * 4294967296 := by rw [Nat.mul_assoc, Nat.mul_comm 4294967296]
    omega
  refine Ct.go T_ok T_mix (N := 51) Tryz.func121 rfl rfl rfl rfl ?_
  refine X1 _ (and32 hx) ?_
  refine And.intro (by omega) (X1 ((x / 4294967296 : Nat) : Int) (shrN (k := 32) (by decide)) (And.intro ⟨by omega, by omega⟩ ?_))
  refine X1 _ (and32 hy) ?_
  refine And.intro (by omega) (X1 ((y / 4294967296 : Nat) : Int) (shrN (k := 32) (by decide)) (And.intro ⟨by omega, by omega⟩ ?_))
  have hx0 : x % 4294967296 < 4294967296 := by omega
  have hx1 : x / 4294967296 < 4294967296 := by omega
  have hy0 : y % 4294967296 < 4294967296 := by omega
  have hy1 : y / 4294967296 < 4294967296 := by omega
  generalize x % 4294967296 = x0 at *
  generalize x / 4294967296 = x1 at *
  generalize y % 4294967296 = y0 at *
  generalize y / 4294967296 = y1 at *
  have l00 : x0 * y0 ≤ 4294967295 * 4294967295 := Nat.mul_le_mul (by omega) (by omega)
  have l01 : x0 * y1 ≤ 4294967295 * 4294967295 := Nat.mul_le_mul (by omega) (by omega)
  have l10 : x1 * y0 ≤ 4294967295 * 4294967295 := Nat.mul_le_mul (by omega) (by omega)
  have l11 : x1 * y1 ≤ 4294967295 * 4294967295 := Nat.mul_le_mul (by omega) (by omega)
  refine X1 ((x0 * y0 : Nat) : Int) (wU (by simp) (by omega) (by omega)) ?_
  refine X1 ((x1 * y0 : Nat) : Int) (wU (by simp) (by omega) (by omega)) ?_
  refine And.intro (by omega) (X1 ((x0 * y0 / 4294967296 : Nat) : Int) (shrN (k := 32) (by decide)) (And.intro ⟨by omega, by omega⟩ ?_))
  obtain ⟨t, ht⟩ : ∃ t, t = x1 * y0 + x0 * y0 / 4294967296 := ⟨_, rfl⟩
  refine X1 ((t : Nat) : Int) (wU (by rw [ht]; simp) (by omega) (by omega)) ?_
  refine X1 _ (and32 (by omega)) ?_
  refine And.intro (by omega) (X1 ((t / 4294967296 : Nat) : Int) (shrN (k := 32) (by decide)) (And.intro ⟨by omega, by omega⟩ ?_))
  refine X1 ((x0 * y1 : Nat) : Int) (wU (by simp) (by omega) (by omega)) ?_
  obtain ⟨u, hu⟩ : ∃ u, u = t % 4294967296 + x0 * y1 := ⟨_, rfl⟩
  refine X1 ((u : Nat) : Int) (wU (by rw [hu]; simp) (by omega) (by omega)) ?_
  refine X1 ((x1 * y1 : Nat) : Int) (wU (by simp) (by omega) (by omega)) ?_
  refine X1 ((x1 * y1 + t / 4294967296 : Nat) : Int) (wU (by simp) (by omega) (by omega)) ?_
  refine And.intro (by omega) (X1 ((u / 4294967296 : Nat) : Int) (shrN (k := 32) (by decide)) (And.intro ⟨by omega, by omega⟩ ?_))
  refine X1 ((x1 * y1 + t / 4294967296 + u / 4294967296 : Nat) : Int) (wU (by simp) (by omega) (by omega)) ?_
  refine X1 ((x * y % 18446744073709551616 : Nat) : Int) (by rw [← modU]; simp) ?_
  exact ⟨trivial, r1 (iE (by rw [show x * y / 18446744073709551616 = x1 * y1 + t / 4294967296 + u / 4294967296 by omega])), r1 rfl, trivial⟩
theorem nadd_len {a b k : Nat} (ha : (dg 18446744073709551616 a).length ≤ k) (hb : (dg 18446744073709551616 b).length ≤ k) : (dg 18446744073709551616 (a + b)).length ≤ k + 1 := by
  apply dg_len (by omega)
  have h1 := Nat.lt_of_lt_of_le (lt_dg_len (B := 18446744073709551616) (by omega) a) (Nat.pow_le_pow_right (by omega) ha)
  have h2 := Nat.lt_of_lt_of_le (lt_dg_len (B := 18446744073709551616) (by omega) b) (Nat.pow_le_pow_right (by omega) hb)
  rw [Nat.pow_succ]
  omega
theorem nadd_ct (a0 b0 : Nat) (ha : (dg 18446744073709551616 a0).length ≤ 400000) (hb : (dg 18446744073709551616 b0).length ≤ 400000) : Ct P 38 [nV a0, nV b0] [nV (a0 + b0)] := by
  refine Ct.go T_ok T_mix (N := 59) Tryz.func38 rfl rfl rfl rfl ?_
  refine X1 _ (nlonger_ct a0 b0 (by omega) (by omega)) ?_
  obtain ⟨a, hae⟩ : ∃ a, a = if blen a0 < blen b0 then b0 else a0 := ⟨_, rfl⟩
  obtain ⟨b, hbe⟩ : ∃ b, b = if blen a0 < blen b0 then a0 else b0 := ⟨_, rfl⟩
  rw [← hae, ← hbe]
  have hsum : a0 + b0 = a + b := by rw [hae, hbe]; split <;> omega
  have hla : (dg 18446744073709551616 a).length ≤ 400000 := by rw [hae]; split <;> assumption
  have hlb : (dg 18446744073709551616 b).length ≤ (dg 18446744073709551616 a).length := by
    apply dg_len (by omega)
    have h1 : blen b ≤ blen a := by rw [hae, hbe]; split <;> omega
    have h2 := blen_len a
    rw [w_pow]
    exact Nat.lt_of_lt_of_le (lt_blen b) (Nat.pow_le_pow_right (by omega) (by omega))
  rw [hsum]
  clear hae hbe hsum ha hb
  refine And.intro (by rw [nRow_len]; omega) ?_
  rw [nRow_len]
  refine X1 (((dg 18446744073709551616 a).length + 1 : Nat) : Int) (wI (by simp) (by omega) (by omega)) ?_
  refine ⟨by omega, by omega, by omega, .inl (by decide), ?_⟩
  refine And.intro (by rw [nRow_len]; omega) ?_
  rw [nRow_len]
  refine loopJ T_ok T_mix (G := Nat × List Nat × Nat) (fun (i, out, c) => i ≤ (dg 18446744073709551616 a).length ∧ out.length = (dg 18446744073709551616 a).length + 1 ∧ Dig 18446744073709551616 out ∧ c ≤ 1 ∧ val 18446744073709551616 ((dg 18446744073709551616 a).take i) + val 18446744073709551616 ((dg 18446744073709551616 b).take i) = val 18446744073709551616 (out.take i) + 18446744073709551616 ^ i * c)
    (fun (i, out, c) => [(2, .c (.ad 2 0)), (3, .c (.ad 3 0)), (4, .c (.ad 4 0)), (5, .c (.ow 19 1 ((dg 18446744073709551616 a).length + 1))), (6, .c (nI .u64 c)), (22, .c (nI .i64 (dg 18446744073709551616 a).length)), (23, .c (nI .i64 i))])
    (fun ((i, out, c) : Nat × List Nat × Nat) => [(2, .var [nSl .u64 (dg 18446744073709551616 a)]), (3, .var [nSl .u64 (dg 18446744073709551616 b)]), (4, .var [.sc (.slice none 0 0)]), (19, .row 1 (nRow .u64 out))]) (fun (i, out, c) => (dg 18446744073709551616 a).length - i)
    (0, List.replicate ((dg 18446744073709551616 a).length + 1) 0, 0) ⟨by simp, by simp, fun x hx => by rw [List.eq_of_mem_replicate hx]; omega, by simp, by simp [val]⟩
    ⟨rfl, rfl, rfl, owE (by omega), rfl, rfl, rfl, trivial⟩ ⟨rfl, rfl, rfl, rowE (rep_row rfl), trivial⟩
    (G2 := List Nat × Nat) (fun (l, c) => Dig 18446744073709551616 l ∧ c ≤ 1 ∧ val 18446744073709551616 (l.take (dg 18446744073709551616 a).length) + 18446744073709551616 ^ (dg 18446744073709551616 a).length * c = a + b ∧ l.length = (dg 18446744073709551616 a).length + 1) (fun (l, c) => [(2, .c (.ad 2 0)), (4, .c (.ad 4 0)), (5, .c (.ow 19 1 ((dg 18446744073709551616 a).length + 1))), (6, .c (nI .u64 c))])
    (fun ((l, c) : List Nat × Nat) => [(2, .var [nSl .u64 (dg 18446744073709551616 a)]), (4, .var [.sc (.slice none 0 0)]), (19, .row 1 (nRow .u64 l))]) (fun g hg => ?_) (fun g hg => ?_)
  · obtain ⟨i, out, c⟩ := g
    obtain ⟨h1, h2, h6, h3, h4⟩ := hg
    refine dcase (fun h5 => ?_) (fun h5 => ?_)
    · have hx := (dig_dg (B := 18446744073709551616) (by omega) a).getD (by omega) i
      have hy := (dig_dg (B := 18446744073709551616) (by omega) b).getD (by omega) i
      have hA := val_take_succ 18446744073709551616 (dg 18446744073709551616 a) i
      have hB := val_take_succ 18446744073709551616 (dg 18446744073709551616 b) i
      generalize hxx : (dg 18446744073709551616 a).getD i 0 = x at hx hA
      refine And.intro (by rw [nRow_len]; omega) ?_
      rw [nRow_len]
      refine dcase (fun h7 => And.intro (by omega) (X1 _ (nRow_getN rfl (by omega)) ?_)) (fun h7 => ?_)
      · generalize hyy : (dg 18446744073709551616 b).getD i 0 = y at hy hB ⊢
        refine And.intro (by omega) (X1 _ (nRow_getN rfl (by omega)) ?_)
        rw [hxx]
        refine X1 _ (add64_ct x y c hx (by omega) h3) ?_
        refine And.intro (by omega) (And.intro (by simp <;> omega) ?_)
        refine X1 _ (nRow_getN rfl (by omega)) ?_
        refine X1 ((i + 1 : Nat) : Int) (wI1 (by omega)) ?_
        refine ⟨(i + 1, out.set i ((x + y + c) % 18446744073709551616), (x + y + c) / 18446744073709551616), ⟨by omega, by simp [h2], h6.set (by omega), by omega, ?_⟩, by show _ - (i + 1) < _ - i; omega, ⟨rfl, rfl, rfl, rfl, rfl, rfl, rfl, trivial⟩, ⟨rfl, rfl, rfl, rowE nRow_set, trivial⟩⟩
        have hst := val_take_set 18446744073709551616 out (i := i) (v := (x + y + c) % 18446744073709551616) (by omega)
        rw [hst, hA, hB]
        have key : x + y + c = (x + y + c) % 18446744073709551616 + 18446744073709551616 * ((x + y + c) / 18446744073709551616) := by omega
        have k2 := congrArg (18446744073709551616 ^ i * ·) key
        simp only [Nat.mul_add] at k2
        rw [Nat.pow_succ, Nat.mul_assoc]
        omega
      · have hyy : (dg 18446744073709551616 b).getD i 0 = 0 := by rw [List.getD_eq_getElem?_getD, List.getElem?_eq_none (by omega)]; rfl
        rw [hyy] at hB
        refine And.intro (by omega) (X1 _ (nRow_getN rfl (by omega)) ?_)
        rw [hxx]
        refine X1 _ (add64_ct x 0 c hx (by omega) h3) ?_
        refine And.intro (by omega) (And.intro (by simp <;> omega) ?_)
        refine X1 _ (nRow_getN rfl (by omega)) ?_
        refine X1 ((i + 1 : Nat) : Int) (wI1 (by omega)) ?_
        refine ⟨(i + 1, out.set i ((x + 0 + c) % 18446744073709551616), (x + 0 + c) / 18446744073709551616), ⟨by omega, by simp [h2], h6.set (by omega), by omega, ?_⟩, by show _ - (i + 1) < _ - i; omega, ⟨rfl, rfl, rfl, rfl, rfl, rfl, rfl, trivial⟩, ⟨rfl, rfl, rfl, rowE nRow_set, trivial⟩⟩
        have hst := val_take_set 18446744073709551616 out (i := i) (v := (x + 0 + c) % 18446744073709551616) (by omega)
        rw [hst, hA, hB]
        have key : x + 0 + c = (x + 0 + c) % 18446744073709551616 + 18446744073709551616 * ((x + 0 + c) / 18446744073709551616) := by omega
        have k2 := congrArg (18446744073709551616 ^ i * ·) key
        simp only [Nat.mul_add] at k2
        rw [Nat.pow_succ, Nat.mul_assoc]
        omega
    · have e : i = (dg 18446744073709551616 a).length := by omega
      subst e
      refine ⟨(out, c), ⟨h6, h3, ?_, h2⟩, ⟨rfl, rfl, rfl, rfl, trivial⟩, ⟨rfl, rfl, rfl, trivial⟩⟩
      rw [val_take_all (Nat.le_refl _), val_take_all hlb, val_dg (by omega), val_dg (by omega)] at h4
      exact h4.symm
  · obtain ⟨l, c⟩ := g
    obtain ⟨h1, h2, h3, h4⟩ := hg
    refine And.intro (by rw [nRow_len]; omega) ?_
    rw [nRow_len]
    refine And.intro (by omega) (And.intro (by omega) ?_)
    refine X1 _ (nRow_getN rfl (by omega)) ?_
    refine X2 .frz ?_
    have hv := val_take_set 18446744073709551616 l (i := (dg 18446744073709551616 a).length) (v := c) (by omega)
    rw [val_take_all (by simp; omega), h3] at hv
    have ht := ntrim_ct (l.set (dg 18446744073709551616 a).length c) (by simp; omega)
    rw [trim_dg (by omega) (h1.set (by omega)), hv] at ht
    refine X1 _ (show Ct P 76 [.c (.sl 1 ((nRow .u64 l).set (dg 18446744073709551616 a).length [nI .u64 c]))] [nV (a + b)] by rw [nRow_set]; exact ht) ?_
    exact ⟨trivial, rc rfl, trivial⟩
theorem nRow_getA {k : IntKind} {l : List Nat} {a n : Nat} (h0 : a = n) (h : n < l.length) : (nRow k l)[a]? = some [nI k (l.getD n 0)] := by
  subst h0
  simp [nRow, h]
def am (t l : List Nat) (x lo : Nat) : Nat → List Nat × Nat
  | 0 => (t, 0)
  | i + 1 => ((am t l x lo i).1.set (lo + i) (((am t l x lo i).1.getD (lo + i) 0 + x * l.getD i 0 + (am t l x lo i).2) % 18446744073709551616), ((am t l x lo i).1.getD (lo + i) 0 + x * l.getD i 0 + (am t l x lo i).2) / 18446744073709551616)
theorem am_specG {t l : List Nat} {x lo : Nat} (ht : Dig 18446744073709551616 t) (hl : Dig 18446744073709551616 l) (hx : x < 18446744073709551616) : ∀ i, lo + i ≤ t.length →
    (am t l x lo i).1.length = t.length ∧ Dig 18446744073709551616 (am t l x lo i).1 ∧ (am t l x lo i).2 < 18446744073709551616 ∧ val 18446744073709551616 (am t l x lo i).1 + 18446744073709551616 ^ (lo + i) * (am t l x lo i).2 = val 18446744073709551616 t + 18446744073709551616 ^ lo * (x * val 18446744073709551616 (l.take i))
  | 0, _ => ⟨rfl, ht, by show 0 < 18446744073709551616; omega, by simp [am, val]⟩
  | i + 1, hi => by
    obtain ⟨h1, h2, h3, h4⟩ := am_specG (lo := lo) ht hl hx i (by omega)
    simp only [am]
    generalize (am t l x lo i).1 = s at *
    generalize (am t l x lo i).2 = c at *
    have hz := h2.getD (by omega) (lo + i)
    have hy := hl.getD (by omega) i
    have hT := val_take_succ 18446744073709551616 l i
    have hset := fun v : Nat => val_set (B := 18446744073709551616) (l := s) (i := lo + i) (x := v) (by omega)
    generalize s.getD (lo + i) 0 = z at *
    generalize l.getD i 0 = y at *
    have hxy : x * y ≤ 18446744073709551615 * 18446744073709551615 := Nat.mul_le_mul (by omega) (by omega)
    obtain ⟨v, hv⟩ : ∃ v, v = z + x * y + c := ⟨_, rfl⟩
    rw [← hv]
    refine ⟨by simp [h1], h2.set (by omega), by omega, ?_⟩
    have hs := hset (v % 18446744073709551616)
    have e1 : 18446744073709551616 ^ (lo + (i + 1)) * (v / 18446744073709551616) + 18446744073709551616 ^ (lo + i) * (v % 18446744073709551616) = 18446744073709551616 ^ (lo + i) * v := by
      rw [← Nat.add_assoc, Nat.pow_succ, Nat.mul_assoc, ← Nat.mul_add]
      congr 1; omega
    have e2 : 18446744073709551616 ^ (lo + i) * v = 18446744073709551616 ^ (lo + i) * z + 18446744073709551616 ^ (lo + i) * (x * y) + 18446744073709551616 ^ (lo + i) * c := by rw [hv, Nat.mul_add, Nat.mul_add]
    have e3 : 18446744073709551616 ^ lo * (x * val 18446744073709551616 (l.take (i + 1))) = 18446744073709551616 ^ lo * (x * val 18446744073709551616 (l.take i)) + 18446744073709551616 ^ (lo + i) * (x * y) := by
      rw [hT, Nat.mul_add, Nat.mul_add, Nat.pow_add, Nat.mul_assoc, Nat.mul_left_comm x]
    omega
theorem am_spec {t l : List Nat} {x lo : Nat} (ht : Dig 18446744073709551616 t) (hl : Dig 18446744073709551616 l) (hx : x < 18446744073709551616) (hlen : lo + l.length ≤ t.length) (i : Nat) (hi : i ≤ l.length) :
    (am t l x lo i).1.length = t.length ∧ Dig 18446744073709551616 (am t l x lo i).1 ∧ (am t l x lo i).2 < 18446744073709551616 ∧ val 18446744073709551616 (am t l x lo i).1 + 18446744073709551616 ^ (lo + i) * (am t l x lo i).2 = val 18446744073709551616 t + 18446744073709551616 ^ lo * (x * val 18446744073709551616 (l.take i)) := am_specG (lo := lo) ht hl hx i (by omega)
theorem am_one {t l : List Nat} {lo : Nat} (ht : Dig 18446744073709551616 t) (hl : Dig 18446744073709551616 l) : ∀ i, lo + i ≤ t.length → (am t l 1 lo i).2 ≤ 1
  | 0, _ => Nat.zero_le _
  | i + 1, hi => by
    have h1 := am_one (lo := lo) ht hl i (by omega)
    obtain ⟨_, h2, _, _⟩ := am_specG (lo := lo) (x := 1) ht hl (by omega) i (by omega)
    have hz := h2.getD (by omega) (lo + i)
    have hy := hl.getD (by omega) i
    simp only [am]
    omega
theorem addMul_ct (t l : List Nat) (x lo n : Nat) (ht : Dig 18446744073709551616 t) (hl : Dig 18446744073709551616 l) (hx : x < 18446744073709551616) (hlen : lo + n ≤ t.length) (hn : l.length ≤ n) (hb : t.length ≤ 1000000) :
    CtO P 80 [(1000000, some (.row 1 (nRow .u64 t)))] [.c (.os 1000000 1 lo n), .c (nSl .u64 l), .c (nI .u64 x)] [(1000000, some (.row 1 (nRow .u64 (am t l x lo l.length).1)))] [.c (nI .u64 (am t l x lo l.length).2)] := by
  refine Ct.io T_ok T_mix (N := 52) Tryz.func80 rfl rfl rfl rfl ?_
  refine And.intro (by rw [nRow_len]; omega) ?_
  rw [nRow_len]
  refine loopJ T_ok T_mix (fun i : Nat => i ≤ l.length) (fun i => [(0, .c (.os 1000000 1 lo n)), (2, .c (nI .u64 x)), (7, .c (nI .u64 (am t l x lo i).2)), (13, .c (nSl .u64 l)), (14, .c (nI .i64 l.length)), (15, .c (nI .i64 i))])
    (fun i => [(1000000, .row 1 (nRow .u64 (am t l x lo i).1))]) (fun i => l.length - i) 0 (by omega) ⟨rfl, rfl, rfl, rfl, rfl, rfl, trivial⟩ ⟨rfl, trivial⟩
    (fun _ : Unit => True) (fun _ => [(7, .c (nI .u64 (am t l x lo l.length).2))]) (fun _ => [(1000000, .row 1 (nRow .u64 (am t l x lo l.length).1))]) (fun i hi => ?_) (fun _ _ => ?_)
  · refine dcase (fun h5 => ?_) (fun h5 => ?_)
    · obtain ⟨h1, h2, h3, h4⟩ := am_spec (lo := lo) ht hl hx (by omega) i hi
      have hz := h2.getD (by omega) (lo + i)
      have hy := hl.getD (by omega) i
      have hxy : x * l.getD i 0 ≤ 18446744073709551615 * 18446744073709551615 := Nat.mul_le_mul (by omega) (by omega)
      refine And.intro (by omega) (X1 _ (nRow_getN rfl (by omega)) ?_)
      refine X1 _ (mul64_ct x (l.getD i 0) hx hy) ?_
      refine X1 _ (add64_ct _ _ 0 (by omega) h3 (by omega)) ?_
      refine X1 ((x * l.getD i 0 / 18446744073709551616 + (x * l.getD i 0 % 18446744073709551616 + (am t l x lo i).2 + 0) / 18446744073709551616 : Nat) : Int) (wU (by simp) (by omega) (by omega)) ?_
      refine And.intro (by omega) (And.intro (by omega) ?_)
      refine X1 _ (nRow_getA (n := lo + i) (by omega) (by omega)) ?_
      refine X1 _ (add64_ct _ _ 0 hz (by omega) (by omega)) ?_
      refine And.intro (by omega) (And.intro (by omega) ?_)
      refine X1 _ (nRow_getA (n := lo + i) (by omega) (by omega)) ?_
      have hs : am t l x lo (i + 1) = ((am t l x lo i).1.set (lo + i) (((am t l x lo i).1.getD (lo + i) 0 + x * l.getD i 0 + (am t l x lo i).2) % 18446744073709551616), ((am t l x lo i).1.getD (lo + i) 0 + x * l.getD i 0 + (am t l x lo i).2) / 18446744073709551616) := rfl
      have e1 : (am t l x lo (i + 1)).1 = (am t l x lo i).1.set (lo + i) (((am t l x lo i).1.getD (lo + i) 0 + (x * l.getD i 0 % 18446744073709551616 + (am t l x lo i).2 + 0) % 18446744073709551616 + 0) % 18446744073709551616) := by
        rw [hs]; show List.set _ _ _ = _; congr 1; omega
      have e2 : (am t l x lo (i + 1)).2 = x * l.getD i 0 / 18446744073709551616 + (x * l.getD i 0 % 18446744073709551616 + (am t l x lo i).2 + 0) / 18446744073709551616 + ((am t l x lo i).1.getD (lo + i) 0 + (x * l.getD i 0 % 18446744073709551616 + (am t l x lo i).2 + 0) % 18446744073709551616 + 0) / 18446744073709551616 := by
        rw [hs]; show (_ : Nat) / _ = _; omega
      refine X1 (((am t l x lo (i + 1)).2 : Nat) : Int) (wU (by rw [e2]; simp) (by omega) (by omega)) ?_
      refine X1 ((i + 1 : Nat) : Int) (wI1 (by omega)) ?_
      refine ⟨i + 1, by omega, by omega, ⟨rfl, rfl, rfl, rfl, rfl, rfl, trivial⟩, ⟨rowE ?_, trivial⟩⟩
      rw [e1, ← nRow_set]
      rfl
    · have e : i = l.length := by omega
      subst e
      exact ⟨(), trivial, ⟨rfl, trivial⟩, ⟨rfl, trivial⟩⟩
  · exact ⟨trivial, SubO.of (l := [(1000000, .row 1 (nRow .u64 (am t l x lo l.length).1))]) ⟨rfl, trivial⟩, r1 rfl, trivial⟩
theorem getD_set_ne {l : List Nat} {i j v : Nat} (h : i ≠ j) : (l.set i v).getD j 0 = l.getD j 0 := by
  rw [List.getD_eq_getElem?_getD, List.getD_eq_getElem?_getD, List.getElem?_set_ne h]
theorem am_high {t l : List Nat} {x lo : Nat} : ∀ {i j : Nat}, lo + i ≤ j → (am t l x lo i).1.getD j 0 = t.getD j 0
  | 0, j, _ => rfl
  | i + 1, j, h => by
    simp only [am]
    rw [getD_set_ne (by omega)]
    exact am_high (by omega)
theorem nmul_ct (a b : Nat) (ha : (dg 18446744073709551616 a).length ≤ 400000) (hb : (dg 18446744073709551616 b).length ≤ 400000) : Ct P 39 [nV a, nV b] [nV (a * b)] := by
  refine Ct.go T_ok T_mix (N := 41) Tryz.func39 rfl rfl rfl rfl ?_
  refine And.intro (by rw [nRow_len]; omega) ?_
  refine And.intro (by rw [nRow_len]; omega) ?_
  rw [nRow_len, nRow_len]
  refine X1 (((dg 18446744073709551616 a).length + (dg 18446744073709551616 b).length : Nat) : Int) (wI (by simp) (by omega) (by omega)) ?_
  refine ⟨by omega, by omega, by omega, .inl (by decide), ?_⟩
  refine And.intro (by rw [nRow_len]; omega) ?_
  rw [nRow_len]
  have hA := dig_dg (B := 18446744073709551616) (by omega) a
  have hB := dig_dg (B := 18446744073709551616) (by omega) b
  have vA := val_dg (B := 18446744073709551616) (by omega) a
  have vB := val_dg (B := 18446744073709551616) (by omega) b
  refine loopJ T_ok T_mix (G := Nat × List Nat) (fun (i, out) => i ≤ (dg 18446744073709551616 a).length ∧ out.length = (dg 18446744073709551616 a).length + (dg 18446744073709551616 b).length ∧ Dig 18446744073709551616 out ∧ (∀ j, i + (dg 18446744073709551616 b).length ≤ j → out.getD j 0 = 0) ∧ val 18446744073709551616 out = val 18446744073709551616 ((dg 18446744073709551616 a).take i) * b)
    (fun (i, out) => [(2, .c (.ad 2 0)), (3, .c (.ad 3 0)), (4, .c (.ad 4 0)), (5, .c (.ow 15 1 ((dg 18446744073709551616 a).length + (dg 18446744073709551616 b).length))), (17, .c (nSl .u64 (dg 18446744073709551616 a))), (18, .c (nI .i64 (dg 18446744073709551616 a).length)), (19, .c (nI .i64 i))])
    (fun ((i, out) : Nat × List Nat) => [(2, .var [nSl .u64 (dg 18446744073709551616 a)]), (3, .var [nSl .u64 (dg 18446744073709551616 b)]), (4, .var [.sc (.slice none 0 0)]), (15, .row 1 (nRow .u64 out))]) (fun (i, out) => (dg 18446744073709551616 a).length - i)
    (0, List.replicate ((dg 18446744073709551616 a).length + (dg 18446744073709551616 b).length) 0) ⟨by simp, by simp, fun x hx => by rw [List.eq_of_mem_replicate hx]; omega, fun j _ => by simp [List.getD_eq_getElem?_getD, List.getElem?_replicate]; split <;> rfl, by simp [val, val_rep]⟩
    ⟨rfl, rfl, rfl, owE (by omega), rfl, rfl, rfl, trivial⟩ ⟨rfl, rfl, rfl, rowE (rep_row rfl), trivial⟩
    (fun l : List Nat => Dig 18446744073709551616 l ∧ val 18446744073709551616 l = a * b ∧ l.length ≤ 1000000) (fun l => [(4, .c (.ad 4 0)), (5, .c (.ow 15 1 ((dg 18446744073709551616 a).length + (dg 18446744073709551616 b).length)))])
    (fun l => [(4, .var [.sc (.slice none 0 0)]), (15, .row 1 (nRow .u64 l))]) (fun g hg => ?_) (fun l hl => ?_)
  · obtain ⟨i, out⟩ := g
    obtain ⟨h1, h2, h3, h4, h6⟩ := hg
    refine dcase (fun h5 => ?_) (fun h5 => ?_)
    · have hx := hA.getD (by omega) i
      have hT := val_take_succ 18446744073709551616 (dg 18446744073709551616 a) i
      refine And.intro (by omega) (X1 _ (nRow_getN rfl (by omega)) ?_)
      generalize (dg 18446744073709551616 a).getD i 0 = x at hx hT ⊢
      refine And.intro (by rw [nRow_len]; omega) ?_
      rw [nRow_len]
      refine X1 ((i + (dg 18446744073709551616 b).length : Nat) : Int) (wI (by simp) (by omega) (by omega)) ?_
      refine ⟨i, (dg 18446744073709551616 a).length + (dg 18446744073709551616 b).length, rfl, rfl, by omega, by omega, .inr ⟨by omega, ?_⟩⟩
      refine X2 (.upd 15) ?_
      refine ⟨_, _, addMul_ct out (dg 18446744073709551616 b) x i ((dg 18446744073709551616 a).length + (dg 18446744073709551616 b).length - i) h3 hB hx (by omega) (by omega) (by omega), ?_⟩
      obtain ⟨g1, g2, g3, g4⟩ := am_spec (t := out) (l := dg 18446744073709551616 b) (x := x) (lo := i) h3 hB hx (by omega) (dg 18446744073709551616 b).length (by omega)
      have g5 : (am out (dg 18446744073709551616 b) x i (dg 18446744073709551616 b).length).1.getD (i + (dg 18446744073709551616 b).length) 0 = 0 := (am_high (by omega)).trans (h4 _ (by omega))
      have g6 : ∀ j, i + 1 + (dg 18446744073709551616 b).length ≤ j → (am out (dg 18446744073709551616 b) x i (dg 18446744073709551616 b).length).1.getD j 0 = 0 := fun j hj => (am_high (by omega)).trans (h4 _ (by omega))
      rw [val_take_all (l := dg 18446744073709551616 b) (by omega), vB] at g4
      generalize (am out (dg 18446744073709551616 b) x i (dg 18446744073709551616 b).length).1 = o2 at *
      generalize (am out (dg 18446744073709551616 b) x i (dg 18446744073709551616 b).length).2 = c at *
      refine And.intro (by omega) (And.intro (by omega) ?_)
      refine X1 _ (nRow_getN rfl (by omega)) ?_
      refine And.intro rfl ?_
      refine X1 ((i + 1 : Nat) : Int) (wI1 (by omega)) ?_
      have hs := val_set (B := 18446744073709551616) (l := o2) (i := i + (dg 18446744073709551616 b).length) (x := c) (by omega)
      rw [g5] at hs
      refine ⟨(i + 1, o2.set (i + (dg 18446744073709551616 b).length) c), ⟨by omega, by simp [g1, h2], g2.set g3, fun j hj => by rw [getD_set_ne (by omega)]; exact g6 j (by omega), ?_⟩, by show _ - (i + 1) < _ - i; omega, ⟨rfl, rfl, rfl, rfl, rfl, rfl, rfl, trivial⟩, ⟨rfl, rfl, rfl, rowE nRow_set, trivial⟩⟩
      rw [hT, Nat.add_mul, Nat.mul_assoc, ← h6]
      omega
    · have e : i = (dg 18446744073709551616 a).length := by omega
      subst e
      rw [val_take_all (Nat.le_refl _), vA] at h6
      exact ⟨out, ⟨h3, h6, by omega⟩, ⟨rfl, rfl, trivial⟩, ⟨rfl, rfl, trivial⟩⟩
  · obtain ⟨h1, h2, h3⟩ := hl
    refine X2 .frz ?_
    refine X1 _ (ntrim_ct l h3) ?_
    rw [trim_dg (by omega) h1, h2]
    exact ⟨trivial, rc rfl, trivial⟩
theorem addBack_ct (t l : List Nat) (lo n : Nat) (ht : Dig 18446744073709551616 t) (hl : Dig 18446744073709551616 l) (hlen : lo + n ≤ t.length) (hn : l.length < n) (hb : t.length ≤ 1000000) :
    CtO P 126 [(1000000, some (.row 1 (nRow .u64 t)))] [.c (.os 1000000 1 lo n), .c (nSl .u64 l)] [(1000000, some (.row 1 (nRow .u64 (am t l 1 lo (l.length + 1)).1)))] [.c (.sc (.bool (decide (((am t l 1 lo (l.length + 1)).2 : Int) > 0))))] := by
  have stepE : ∀ i, (am t l 1 lo (i + 1)).1 = (am t l 1 lo i).1.set (lo + i) (((am t l 1 lo i).1.getD (lo + i) 0 + l.getD i 0 + (am t l 1 lo i).2) % 18446744073709551616) := fun i => by simp only [am, Nat.one_mul]
  have stepC : ∀ i, (am t l 1 lo (i + 1)).2 = ((am t l 1 lo i).1.getD (lo + i) 0 + l.getD i 0 + (am t l 1 lo i).2) / 18446744073709551616 := fun i => by simp only [am, Nat.one_mul]
  refine Ct.io T_ok T_mix (N := 45) Tryz.func126 rfl rfl rfl rfl ?_
  refine And.intro (by rw [nRow_len]; omega) ?_
  rw [nRow_len]
  refine loopJ T_ok T_mix (fun i : Nat => i ≤ l.length) (fun i => [(0, .c (.os 1000000 1 lo n)), (1, .c (nSl .u64 l)), (5, .c (nI .u64 (am t l 1 lo i).2)), (8, .c (nSl .u64 l)), (9, .c (nI .i64 l.length)), (10, .c (nI .i64 i))])
    (fun i => [(1000000, .row 1 (nRow .u64 (am t l 1 lo i).1))]) (fun i => l.length - i) 0 (by omega) ⟨rfl, rfl, rfl, rfl, rfl, rfl, trivial⟩ ⟨rfl, trivial⟩
    (fun _ : Unit => True) (fun _ => [(0, .c (.os 1000000 1 lo n)), (1, .c (nSl .u64 l)), (5, .c (nI .u64 (am t l 1 lo l.length).2))]) (fun _ => [(1000000, .row 1 (nRow .u64 (am t l 1 lo l.length).1))]) (fun i hi => ?_) (fun _ _ => ?_)
  · refine dcase (fun h5 => ?_) (fun h5 => ?_)
    · obtain ⟨h1, h2, h3, h4⟩ := am_specG (lo := lo) (x := 1) ht hl (by omega) i (by omega)
      have h6 := am_one (lo := lo) ht hl i (by omega)
      have hz := h2.getD (by omega) (lo + i)
      have hy := hl.getD (by omega) i
      refine And.intro (by omega) (X1 _ (nRow_getN rfl (by omega)) ?_)
      refine And.intro (by omega) (And.intro (by omega) ?_)
      refine X1 _ (nRow_getA (n := lo + i) (by omega) (by omega)) ?_
      refine X1 _ (add64_ct _ _ _ hz hy h6) ?_
      refine And.intro (by omega) (And.intro (by omega) ?_)
      refine X1 _ (nRow_getA (n := lo + i) (by omega) (by omega)) ?_
      refine X1 ((i + 1 : Nat) : Int) (wI1 (by omega)) ?_
      refine ⟨i + 1, by omega, by omega, ⟨rfl, rfl, iE (by rw [stepC]), rfl, rfl, rfl, trivial⟩, ⟨rowE ?_, trivial⟩⟩
      rw [stepE, ← nRow_set]
      rfl
    · have e : i = l.length := by omega
      subst e
      exact ⟨(), trivial, ⟨rfl, rfl, rfl, trivial⟩, ⟨rfl, trivial⟩⟩
  · obtain ⟨h1, h2, h3, h4⟩ := am_specG (lo := lo) (x := 1) ht hl (by omega) l.length (by omega)
    have h6 := am_one (lo := lo) ht hl l.length (by omega)
    have hz := h2.getD (by omega) (lo + l.length)
    have hy : l.getD l.length 0 = 0 := by rw [List.getD_eq_getElem?_getD, List.getElem?_eq_none (by omega)]; rfl
    refine And.intro (by rw [nRow_len]; omega) ?_
    refine And.intro (by rw [nRow_len]; omega) ?_
    rw [nRow_len]
    refine And.intro (by omega) (And.intro (by omega) ?_)
    refine X1 _ (nRow_getA (n := lo + l.length) (by omega) (by omega)) ?_
    refine X1 _ (add64_ct _ 0 _ hz (by omega) h6) ?_
    refine And.intro (by omega) (And.intro (by omega) ?_)
    refine X1 _ (nRow_getA (n := lo + l.length) (by omega) (by omega)) ?_
    have e1 : (nRow .u64 (am t l 1 lo l.length).1).set (lo + l.length) [nI .u64 (((am t l 1 lo l.length).1.getD (lo + l.length) 0 + 0 + (am t l 1 lo l.length).2) % 18446744073709551616)] = nRow .u64 (am t l 1 lo (l.length + 1)).1 := by
      rw [nRow_set, stepE, hy]
    have e2 : (am t l 1 lo (l.length + 1)).2 = ((am t l 1 lo l.length).1.getD (lo + l.length) 0 + 0 + (am t l 1 lo l.length).2) / 18446744073709551616 := by rw [stepC, hy]
    rw [e2, ← e1]
    exact ⟨trivial, SubO.of (l := [(1000000, .row 1 _)]) ⟨rfl, trivial⟩, r1 rfl, trivial⟩
structure SM where
  s : List Nat
  c : Nat
  b : Nat
def sm (t l : List Nat) (x lo : Nat) : Nat → SM
  | 0 => ⟨t, 0, 0⟩
  | i + 1 => ⟨(sm t l x lo i).s.set (lo + i) (((sm t l x lo i).s.getD (lo + i) 0 + 18446744073709551616 - (x * l.getD i 0 + (sm t l x lo i).c) % 18446744073709551616 - (sm t l x lo i).b) % 18446744073709551616),
      (x * l.getD i 0 + (sm t l x lo i).c) / 18446744073709551616, if (sm t l x lo i).s.getD (lo + i) 0 < (x * l.getD i 0 + (sm t l x lo i).c) % 18446744073709551616 + (sm t l x lo i).b then 1 else 0⟩
theorem sm_spec {t l : List Nat} {x lo : Nat} (ht : Dig 18446744073709551616 t) (hl : Dig 18446744073709551616 l) (hx : x < 18446744073709551616) : ∀ i, lo + i ≤ t.length →
    (sm t l x lo i).s.length = t.length ∧ Dig 18446744073709551616 (sm t l x lo i).s ∧ (sm t l x lo i).c < 18446744073709551616 ∧ (sm t l x lo i).b ≤ 1 ∧ val 18446744073709551616 (sm t l x lo i).s + 18446744073709551616 ^ lo * (x * val 18446744073709551616 (l.take i)) = val 18446744073709551616 t + 18446744073709551616 ^ (lo + i) * ((sm t l x lo i).c + (sm t l x lo i).b)
  | 0, _ => ⟨rfl, ht, by show 0 < 18446744073709551616; omega, Nat.zero_le _, by simp [sm, val]⟩
  | i + 1, hi => by
    obtain ⟨h1, h2, h3, h5, h4⟩ := sm_spec (lo := lo) ht hl hx i (by omega)
    simp only [sm]
    generalize (sm t l x lo i).s = s at *
    generalize (sm t l x lo i).c = c at *
    generalize (sm t l x lo i).b = b at *
    have hz := h2.getD (by omega) (lo + i)
    have hy := hl.getD (by omega) i
    have hT := val_take_succ 18446744073709551616 l i
    have hset := fun v : Nat => val_set (B := 18446744073709551616) (l := s) (i := lo + i) (x := v) (by omega)
    generalize s.getD (lo + i) 0 = z at *
    generalize l.getD i 0 = y at *
    have hxy : x * y ≤ 18446744073709551615 * 18446744073709551615 := Nat.mul_le_mul (by omega) (by omega)
    obtain ⟨p, hp⟩ : ∃ p, p = x * y + c := ⟨_, rfl⟩
    rw [← hp]
    refine ⟨by simp [h1], h2.set (by omega), by omega, by split <;> omega, ?_⟩
    obtain ⟨r, hr⟩ : ∃ r, r = (z + 18446744073709551616 - p % 18446744073709551616 - b) % 18446744073709551616 := ⟨_, rfl⟩
    obtain ⟨b', hb'⟩ : ∃ b', b' = if z < p % 18446744073709551616 + b then 1 else 0 := ⟨_, rfl⟩
    rw [← hr, ← hb']
    have k1 : r + p + b = z + 18446744073709551616 * (p / 18446744073709551616 + b') := by
      rw [hr, hb']; split <;> omega
    have k2 := congrArg (18446744073709551616 ^ (lo + i) * ·) k1
    simp only [Nat.mul_add] at k2
    have hs := hset r
    have e3 : 18446744073709551616 ^ lo * (x * val 18446744073709551616 (l.take (i + 1))) = 18446744073709551616 ^ lo * (x * val 18446744073709551616 (l.take i)) + 18446744073709551616 ^ (lo + i) * (x * y) := by
      rw [hT, Nat.mul_add, Nat.mul_add, Nat.pow_add, Nat.mul_assoc, Nat.mul_left_comm x]
    have e4 : 18446744073709551616 ^ (lo + i) * p = 18446744073709551616 ^ (lo + i) * (x * y) + 18446744073709551616 ^ (lo + i) * c := by rw [hp, Nat.mul_add]
    rw [← Nat.add_assoc lo i 1, Nat.pow_succ, Nat.mul_assoc, e3]
    simp only [Nat.mul_add] at h4 ⊢
    omega
theorem subMul_ct (t l : List Nat) (x lo n : Nat) (ht : Dig 18446744073709551616 t) (hl : Dig 18446744073709551616 l) (hx : x < 18446744073709551616) (hlen : lo + n ≤ t.length) (hn : l.length < n) (hb : t.length ≤ 1000000) :
    CtO P 125 [(1000000, some (.row 1 (nRow .u64 t)))] [.c (.os 1000000 1 lo n), .c (nSl .u64 l), .c (nI .u64 x)] [(1000000, some (.row 1 (nRow .u64 (sm t l x lo (l.length + 1)).s)))] [.c (.sc (.bool (decide (((sm t l x lo (l.length + 1)).b : Int) > 0))))] := by
  refine Ct.io T_ok T_mix (N := 68) Tryz.func125 rfl rfl rfl rfl ?_
  refine And.intro (by rw [nRow_len]; omega) ?_
  rw [nRow_len]
  refine loopJ T_ok T_mix (fun i : Nat => i ≤ l.length) (fun i => [(0, .c (.os 1000000 1 lo n)), (1, .c (nSl .u64 l)), (2, .c (nI .u64 x)), (7, .c (nI .u64 (sm t l x lo i).c)), (8, .c (nI .u64 (sm t l x lo i).b)), (15, .c (nSl .u64 l)), (16, .c (nI .i64 l.length)), (17, .c (nI .i64 i))])
    (fun i => [(1000000, .row 1 (nRow .u64 (sm t l x lo i).s))]) (fun i => l.length - i) 0 (by omega) ⟨rfl, rfl, rfl, rfl, rfl, rfl, rfl, rfl, trivial⟩ ⟨rfl, trivial⟩
    (fun _ : Unit => True) (fun _ => [(0, .c (.os 1000000 1 lo n)), (1, .c (nSl .u64 l)), (7, .c (nI .u64 (sm t l x lo l.length).c)), (8, .c (nI .u64 (sm t l x lo l.length).b))]) (fun _ => [(1000000, .row 1 (nRow .u64 (sm t l x lo l.length).s))]) (fun i hi => ?_) (fun _ _ => ?_)
  · refine dcase (fun h5 => ?_) (fun h5 => ?_)
    · obtain ⟨h1, h2, h3, h6, h4⟩ := sm_spec (lo := lo) ht hl hx i (by omega)
      have hz := h2.getD (by omega) (lo + i)
      have hy := hl.getD (by omega) i
      have hxy : x * l.getD i 0 ≤ 18446744073709551615 * 18446744073709551615 := Nat.mul_le_mul (by omega) (by omega)
      have hs : sm t l x lo (i + 1) = ⟨(sm t l x lo i).s.set (lo + i) (((sm t l x lo i).s.getD (lo + i) 0 + 18446744073709551616 - (x * l.getD i 0 + (sm t l x lo i).c) % 18446744073709551616 - (sm t l x lo i).b) % 18446744073709551616),
        (x * l.getD i 0 + (sm t l x lo i).c) / 18446744073709551616, if (sm t l x lo i).s.getD (lo + i) 0 < (x * l.getD i 0 + (sm t l x lo i).c) % 18446744073709551616 + (sm t l x lo i).b then 1 else 0⟩ := rfl
      have em : (x * l.getD i 0 % 18446744073709551616 + (sm t l x lo i).c + 0) % 18446744073709551616 = (x * l.getD i 0 + (sm t l x lo i).c) % 18446744073709551616 := by omega
      refine And.intro (by omega) (X1 _ (nRow_getN rfl (by omega)) ?_)
      refine X1 _ (mul64_ct x (l.getD i 0) hx hy) ?_
      refine X1 _ (add64_ct _ _ 0 (by omega) h3 (by omega)) ?_
      rw [em]
      refine X1 (((sm t l x lo (i + 1)).c : Nat) : Int) (wU (by rw [hs]; show _ = (((x * l.getD i 0 + (sm t l x lo i).c) / 18446744073709551616 : Nat) : Int); omega) (by omega) (by rw [hs]; show (((x * l.getD i 0 + (sm t l x lo i).c) / 18446744073709551616 : Nat) : Int) ≤ _; omega)) ?_
      refine And.intro (by omega) (And.intro (by omega) ?_)
      refine X1 _ (nRow_getA (n := lo + i) (by omega) (by omega)) ?_
      refine X1 _ (sub64_ct _ _ _ hz (by omega) h6) ?_
      refine And.intro (by omega) (And.intro (by omega) ?_)
      refine X1 _ (nRow_getA (n := lo + i) (by omega) (by omega)) ?_
      refine X1 ((i + 1 : Nat) : Int) (wI1 (by omega)) ?_
      refine ⟨i + 1, by omega, by omega, ⟨rfl, rfl, rfl, rfl, rfl, rfl, rfl, rfl, trivial⟩, ⟨rowE ?_, trivial⟩⟩
      rw [hs, ← nRow_set]
      rfl
    · have e : i = l.length := by omega
      subst e
      exact ⟨(), trivial, ⟨rfl, rfl, rfl, rfl, trivial⟩, ⟨rfl, trivial⟩⟩
  · obtain ⟨h1, h2, h3, h6, h4⟩ := sm_spec (lo := lo) ht hl hx l.length (by omega)
    have hz := h2.getD (by omega) (lo + l.length)
    have hy : l.getD l.length 0 = 0 := by rw [List.getD_eq_getElem?_getD, List.getElem?_eq_none (by omega)]; rfl
    refine And.intro (by rw [nRow_len]; omega) ?_
    rw [nRow_len]
    refine And.intro (by omega) (And.intro (by omega) ?_)
    refine X1 _ (nRow_getA (n := lo + l.length) (by omega) (by omega)) ?_
    refine X1 _ (sub64_ct _ _ _ hz h3 h6) ?_
    refine And.intro (by omega) (And.intro (by omega) ?_)
    refine X1 _ (nRow_getA (n := lo + l.length) (by omega) (by omega)) ?_
    have ec : (x * l.getD l.length 0 + (sm t l x lo l.length).c) % 18446744073709551616 = (sm t l x lo l.length).c := by rw [hy, Nat.mul_zero, Nat.zero_add, Nat.mod_eq_of_lt h3]
    have e1 : nRow .u64 (sm t l x lo (l.length + 1)).s = (nRow .u64 (sm t l x lo l.length).s).set (lo + l.length) [nI .u64 (((sm t l x lo l.length).s.getD (lo + l.length) 0 + 18446744073709551616 - (sm t l x lo l.length).c - (sm t l x lo l.length).b) % 18446744073709551616)] := by
      rw [nRow_set]; simp only [sm, ec]
    have e2 : (sm t l x lo (l.length + 1)).b = if (sm t l x lo l.length).s.getD (lo + l.length) 0 < (sm t l x lo l.length).c + (sm t l x lo l.length).b then 1 else 0 := by simp only [sm, ec]
    rw [e1, e2]
    exact ⟨trivial, SubO.of (l := [(1000000, .row 1 _)]) ⟨rfl, trivial⟩, r1 rfl, trivial⟩
end Go.Proofs.YtpmchgndnhgncaaGreat.Pv
