/- Parts of a proof, joined: PvTy Da Cc Cd. -/
import Derived.Test.YtpmchgndnhgncaaGreatKcF
import Derived.Test.YtpmchgndnhgncaaGreatChecked
import Derived.KernelRfl
import Derived.Shelf.Spec.BitsCarry
namespace Go.Proofs.YtpmchgndnhgncaaGreat.Pv
open Go
set_option maxRecDepth 100000
def ty1 : TD := ⟨.oth, 1, 8, false, [.nilFunc]⟩
theorem ty1_ok : ty1.ok Tryz.prog 1 := ⟨⟨by kernel_rfl, by kernel_rfl⟩, trivial⟩
def ty2 : TD := ⟨.int .i64, 1, 8, false, [.int .i64 0]⟩
theorem ty2_ok : ty2.ok Tryz.prog 2 := ⟨⟨by kernel_rfl, by kernel_rfl⟩, (show Tryz.prog.underlying 2 = some (.int .i64) by kernel_rfl)⟩
def ty3 : TD := ⟨.int .i64, 1, 8, false, [.int .i64 0]⟩
theorem ty3_ok : ty3.ok Tryz.prog 3 := ⟨⟨by kernel_rfl, by kernel_rfl⟩, (show Tryz.prog.underlying 3 = some (.int .i64) by kernel_rfl)⟩
def ty4 : TD := ⟨.oth, 1, 1, false, [.bool false]⟩
theorem ty4_ok : ty4.ok Tryz.prog 4 := ⟨⟨by kernel_rfl, by kernel_rfl⟩, trivial⟩
def ty5 : TD := ⟨.int .u8, 1, 1, false, [.int .u8 0]⟩
theorem ty5_ok : ty5.ok Tryz.prog 5 := ⟨⟨by kernel_rfl, by kernel_rfl⟩, (show Tryz.prog.underlying 5 = some (.int .u8) by kernel_rfl)⟩
def ty6 : TD := ⟨.int .u8, 1, 1, false, [.int .u8 0]⟩
theorem ty6_ok : ty6.ok Tryz.prog 6 := ⟨⟨by kernel_rfl, by kernel_rfl⟩, (show Tryz.prog.underlying 6 = some (.int .u8) by kernel_rfl)⟩
def ty7 : TD := ⟨.st [(0, 2, 1), (1, 3, 1), (2, 4, 1), (3, 6, 1)], 4, 24, true, [.int .i64 0, .int .i64 0, .bool false, .int .u8 0]⟩
theorem ty7_ok : ty7.ok Tryz.prog 7 := ⟨⟨by kernel_rfl, by kernel_rfl⟩, ⟨fun f off ft n h => by
    match f, h with
    | 0, h => cases h; exact ⟨by kernel_rfl⟩
    | 1, h => cases h; exact ⟨by kernel_rfl⟩
    | 2, h => cases h; exact ⟨by kernel_rfl⟩
    | 3, h => cases h; exact ⟨by kernel_rfl⟩
    | f + 4, h => simp at h, ⟨by kernel_rfl⟩⟩⟩
def ty8 : TD := ⟨.st [(0, 2, 1), (1, 3, 1), (2, 4, 1), (3, 6, 1)], 4, 24, true, [.int .i64 0, .int .i64 0, .bool false, .int .u8 0]⟩
theorem ty8_ok : ty8.ok Tryz.prog 8 := ⟨⟨by kernel_rfl, by kernel_rfl⟩, ⟨fun f off ft n h => by
    match f, h with
    | 0, h => cases h; exact ⟨by kernel_rfl⟩
    | 1, h => cases h; exact ⟨by kernel_rfl⟩
    | 2, h => cases h; exact ⟨by kernel_rfl⟩
    | 3, h => cases h; exact ⟨by kernel_rfl⟩
    | f + 4, h => simp at h, ⟨by kernel_rfl⟩⟩⟩
def ty9 : TD := ⟨.str, 1, 16, false, [.string .empty]⟩
theorem ty9_ok : ty9.ok Tryz.prog 9 := ⟨⟨by kernel_rfl, by kernel_rfl⟩, (show Tryz.prog.underlying 9 = some .string by kernel_rfl)⟩
def ty10 : TD := ⟨.str, 1, 16, false, [.string .empty]⟩
theorem ty10_ok : ty10.ok Tryz.prog 10 := ⟨⟨by kernel_rfl, by kernel_rfl⟩, (show Tryz.prog.underlying 10 = some .string by kernel_rfl)⟩
def ty11 : TD := ⟨.str, 1, 16, false, [.string .empty]⟩
theorem ty11_ok : ty11.ok Tryz.prog 11 := ⟨⟨by kernel_rfl, by kernel_rfl⟩, (show Tryz.prog.underlying 11 = some .string by kernel_rfl)⟩
def ty12 : TD := ⟨.int .u64, 1, 8, false, [.int .u64 0]⟩
theorem ty12_ok : ty12.ok Tryz.prog 12 := ⟨⟨by kernel_rfl, by kernel_rfl⟩, (show Tryz.prog.underlying 12 = some (.int .u64) by kernel_rfl)⟩
def ty13 : TD := ⟨.st [(0, 9, 1), (1, 12, 1)], 2, 24, true, [.string .empty, .int .u64 0]⟩
theorem ty13_ok : ty13.ok Tryz.prog 13 := ⟨⟨by kernel_rfl, by kernel_rfl⟩, ⟨fun f off ft n h => by
    match f, h with
    | 0, h => cases h; exact ⟨by kernel_rfl⟩
    | 1, h => cases h; exact ⟨by kernel_rfl⟩
    | f + 2, h => simp at h, ⟨by kernel_rfl⟩⟩⟩
def ty14 : TD := ⟨.st [(0, 9, 1), (1, 12, 1)], 2, 24, true, [.string .empty, .int .u64 0]⟩
theorem ty14_ok : ty14.ok Tryz.prog 14 := ⟨⟨by kernel_rfl, by kernel_rfl⟩, ⟨fun f off ft n h => by
    match f, h with
    | 0, h => cases h; exact ⟨by kernel_rfl⟩
    | 1, h => cases h; exact ⟨by kernel_rfl⟩
    | f + 2, h => simp at h, ⟨by kernel_rfl⟩⟩⟩
def ty15 : TD := ⟨.ptr 222, 1, 8, false, [.pointer none]⟩
theorem ty15_ok : ty15.ok Tryz.prog 15 := ⟨⟨by kernel_rfl, by kernel_rfl⟩, (show Tryz.prog.underlying 15 = some (.pointer 222) by kernel_rfl)⟩
def ty16 : TD := ⟨.ptr 225, 1, 8, false, [.pointer none]⟩
theorem ty16_ok : ty16.ok Tryz.prog 16 := ⟨⟨by kernel_rfl, by kernel_rfl⟩, (show Tryz.prog.underlying 16 = some (.pointer 225) by kernel_rfl)⟩
def ty17 : TD := ⟨.ptr 233, 1, 8, false, [.pointer none]⟩
theorem ty17_ok : ty17.ok Tryz.prog 17 := ⟨⟨by kernel_rfl, by kernel_rfl⟩, (show Tryz.prog.underlying 17 = some (.pointer 233) by kernel_rfl)⟩
def ty18 : TD := ⟨.st [(0, 17, 1)], 1, 8, true, [.pointer none]⟩
theorem ty18_ok : ty18.ok Tryz.prog 18 := ⟨⟨by kernel_rfl, by kernel_rfl⟩, ⟨fun f off ft n h => by
    match f, h with
    | 0, h => cases h; exact ⟨by kernel_rfl⟩
    | f + 1, h => simp at h, ⟨by kernel_rfl⟩⟩⟩
def ty19 : TD := ⟨.st [(0, 17, 1)], 1, 8, true, [.pointer none]⟩
theorem ty19_ok : ty19.ok Tryz.prog 19 := ⟨⟨by kernel_rfl, by kernel_rfl⟩, ⟨fun f off ft n h => by
    match f, h with
    | 0, h => cases h; exact ⟨by kernel_rfl⟩
    | f + 1, h => simp at h, ⟨by kernel_rfl⟩⟩⟩
def ty20 : TD := ⟨.oth, 1, 16, false, [.nilIface]⟩
theorem ty20_ok : ty20.ok Tryz.prog 20 := ⟨⟨by kernel_rfl, by kernel_rfl⟩, trivial⟩
def ty21 : TD := ⟨.int .i32, 1, 4, false, [.int .i32 0]⟩
theorem ty21_ok : ty21.ok Tryz.prog 21 := ⟨⟨by kernel_rfl, by kernel_rfl⟩, (show Tryz.prog.underlying 21 = some (.int .i32) by kernel_rfl)⟩
def ty22 : TD := ⟨.sl 3, 1, 24, false, [.slice none 0 0]⟩
theorem ty22_ok : ty22.ok Tryz.prog 22 := ⟨⟨by kernel_rfl, by kernel_rfl⟩, ⟨by kernel_rfl⟩⟩
def ty23 : TD := ⟨.oth, 1, 8, false, [.nilFunc]⟩
theorem ty23_ok : ty23.ok Tryz.prog 23 := ⟨⟨by kernel_rfl, by kernel_rfl⟩, trivial⟩
def ty24 : TD := ⟨.oth, 1, 8, false, [.nilFunc]⟩
theorem ty24_ok : ty24.ok Tryz.prog 24 := ⟨⟨by kernel_rfl, by kernel_rfl⟩, trivial⟩
def ty25 : TD := ⟨.ptr 84, 1, 8, false, [.pointer none]⟩
theorem ty25_ok : ty25.ok Tryz.prog 25 := ⟨⟨by kernel_rfl, by kernel_rfl⟩, (show Tryz.prog.underlying 25 = some (.pointer 84) by kernel_rfl)⟩
def ty26 : TD := ⟨.sl 67, 1, 24, false, [.slice none 0 0]⟩
theorem ty26_ok : ty26.ok Tryz.prog 26 := ⟨⟨by kernel_rfl, by kernel_rfl⟩, ⟨by kernel_rfl⟩⟩
def ty27 : TD := ⟨.sl 63, 1, 24, false, [.slice none 0 0]⟩
theorem ty27_ok : ty27.ok Tryz.prog 27 := ⟨⟨by kernel_rfl, by kernel_rfl⟩, ⟨by kernel_rfl⟩⟩
def ty28 : TD := ⟨.st [(0, 26, 1), (1, 3, 1), (2, 27, 1)], 3, 56, true, [.slice none 0 0, .int .i64 0, .slice none 0 0]⟩
theorem ty28_ok : ty28.ok Tryz.prog 28 := ⟨⟨by kernel_rfl, by kernel_rfl⟩, ⟨fun f off ft n h => by
    match f, h with
    | 0, h => cases h; exact ⟨by kernel_rfl⟩
    | 1, h => cases h; exact ⟨by kernel_rfl⟩
    | 2, h => cases h; exact ⟨by kernel_rfl⟩
    | f + 3, h => simp at h, ⟨by kernel_rfl⟩⟩⟩
def ty29 : TD := ⟨.st [(0, 26, 1), (1, 3, 1), (2, 27, 1)], 3, 56, true, [.slice none 0 0, .int .i64 0, .slice none 0 0]⟩
theorem ty29_ok : ty29.ok Tryz.prog 29 := ⟨⟨by kernel_rfl, by kernel_rfl⟩, ⟨fun f off ft n h => by
    match f, h with
    | 0, h => cases h; exact ⟨by kernel_rfl⟩
    | 1, h => cases h; exact ⟨by kernel_rfl⟩
    | 2, h => cases h; exact ⟨by kernel_rfl⟩
    | f + 3, h => simp at h, ⟨by kernel_rfl⟩⟩⟩
def ty31 : TD := ⟨.oth, 1, 8, false, [.nilFunc]⟩
theorem ty31_ok : ty31.ok Tryz.prog 31 := ⟨⟨by kernel_rfl, by kernel_rfl⟩, trivial⟩
def ty32 : TD := ⟨.sl 38, 1, 24, false, [.slice none 0 0]⟩
theorem ty32_ok : ty32.ok Tryz.prog 32 := ⟨⟨by kernel_rfl, by kernel_rfl⟩, ⟨by kernel_rfl⟩⟩
def ty33 : TD := ⟨.st [(0, 32, 1)], 1, 24, true, [.slice none 0 0]⟩
theorem ty33_ok : ty33.ok Tryz.prog 33 := ⟨⟨by kernel_rfl, by kernel_rfl⟩, ⟨fun f off ft n h => by
    match f, h with
    | 0, h => cases h; exact ⟨by kernel_rfl⟩
    | f + 1, h => simp at h, ⟨by kernel_rfl⟩⟩⟩
def ty34 : TD := ⟨.st [(0, 32, 1)], 1, 24, true, [.slice none 0 0]⟩
theorem ty34_ok : ty34.ok Tryz.prog 34 := ⟨⟨by kernel_rfl, by kernel_rfl⟩, ⟨fun f off ft n h => by
    match f, h with
    | 0, h => cases h; exact ⟨by kernel_rfl⟩
    | f + 1, h => simp at h, ⟨by kernel_rfl⟩⟩⟩
def ty35 : TD := ⟨.st [(0, 34, 1), (1, 34, 1)], 2, 48, true, [.slice none 0 0, .slice none 0 0]⟩
theorem ty35_ok : ty35.ok Tryz.prog 35 := ⟨⟨by kernel_rfl, by kernel_rfl⟩, ⟨fun f off ft n h => by
    match f, h with
    | 0, h => cases h; exact ⟨by kernel_rfl⟩
    | 1, h => cases h; exact ⟨by kernel_rfl⟩
    | f + 2, h => simp at h, ⟨by kernel_rfl⟩⟩⟩
def ty36 : TD := ⟨.st [(0, 34, 1), (1, 34, 1)], 2, 48, true, [.slice none 0 0, .slice none 0 0]⟩
theorem ty36_ok : ty36.ok Tryz.prog 36 := ⟨⟨by kernel_rfl, by kernel_rfl⟩, ⟨fun f off ft n h => by
    match f, h with
    | 0, h => cases h; exact ⟨by kernel_rfl⟩
    | 1, h => cases h; exact ⟨by kernel_rfl⟩
    | f + 2, h => simp at h, ⟨by kernel_rfl⟩⟩⟩
def ty37 : TD := ⟨.oth, 1, 8, false, [.nilFunc]⟩
theorem ty37_ok : ty37.ok Tryz.prog 37 := ⟨⟨by kernel_rfl, by kernel_rfl⟩, trivial⟩
def ty38 : TD := ⟨.int .u64, 1, 8, false, [.int .u64 0]⟩
theorem ty38_ok : ty38.ok Tryz.prog 38 := ⟨⟨by kernel_rfl, by kernel_rfl⟩, (show Tryz.prog.underlying 38 = some (.int .u64) by kernel_rfl)⟩
def ty39 : TD := ⟨.oth, 1, 8, false, [.nilFunc]⟩
theorem ty39_ok : ty39.ok Tryz.prog 39 := ⟨⟨by kernel_rfl, by kernel_rfl⟩, trivial⟩
def ty40 : TD := ⟨.oth, 1, 8, false, [.nilFunc]⟩
theorem ty40_ok : ty40.ok Tryz.prog 40 := ⟨⟨by kernel_rfl, by kernel_rfl⟩, trivial⟩
def ty41 : TD := ⟨.oth, 1, 8, false, [.nilFunc]⟩
theorem ty41_ok : ty41.ok Tryz.prog 41 := ⟨⟨by kernel_rfl, by kernel_rfl⟩, trivial⟩
def ty42 : TD := ⟨.oth, 1, 8, false, [.nilFunc]⟩
theorem ty42_ok : ty42.ok Tryz.prog 42 := ⟨⟨by kernel_rfl, by kernel_rfl⟩, trivial⟩
def ty43 : TD := ⟨.oth, 1, 8, false, [.nilFunc]⟩
theorem ty43_ok : ty43.ok Tryz.prog 43 := ⟨⟨by kernel_rfl, by kernel_rfl⟩, trivial⟩
def ty44 : TD := ⟨.st [(0, 22, 1), (1, 22, 1)], 2, 48, true, [.slice none 0 0, .slice none 0 0]⟩
theorem ty44_ok : ty44.ok Tryz.prog 44 := ⟨⟨by kernel_rfl, by kernel_rfl⟩, ⟨fun f off ft n h => by
    match f, h with
    | 0, h => cases h; exact ⟨by kernel_rfl⟩
    | 1, h => cases h; exact ⟨by kernel_rfl⟩
    | f + 2, h => simp at h, ⟨by kernel_rfl⟩⟩⟩
def ty45 : TD := ⟨.st [(0, 22, 1), (1, 22, 1)], 2, 48, true, [.slice none 0 0, .slice none 0 0]⟩
theorem ty45_ok : ty45.ok Tryz.prog 45 := ⟨⟨by kernel_rfl, by kernel_rfl⟩, ⟨fun f off ft n h => by
    match f, h with
    | 0, h => cases h; exact ⟨by kernel_rfl⟩
    | 1, h => cases h; exact ⟨by kernel_rfl⟩
    | f + 2, h => simp at h, ⟨by kernel_rfl⟩⟩⟩
def ty46 : TD := ⟨.oth, 1, 8, false, [.nilFunc]⟩
theorem ty46_ok : ty46.ok Tryz.prog 46 := ⟨⟨by kernel_rfl, by kernel_rfl⟩, trivial⟩
def ty47 : TD := ⟨.oth, 1, 8, false, [.nilFunc]⟩
theorem ty47_ok : ty47.ok Tryz.prog 47 := ⟨⟨by kernel_rfl, by kernel_rfl⟩, trivial⟩
def ty48 : TD := ⟨.oth, 1, 8, false, [.nilFunc]⟩
theorem ty48_ok : ty48.ok Tryz.prog 48 := ⟨⟨by kernel_rfl, by kernel_rfl⟩, trivial⟩
def ty49 : TD := ⟨.oth, 1, 8, false, [.nilFunc]⟩
theorem ty49_ok : ty49.ok Tryz.prog 49 := ⟨⟨by kernel_rfl, by kernel_rfl⟩, trivial⟩
def ty50 : TD := ⟨.arr 4 36, 8, 192, true, [.slice none 0 0, .slice none 0 0, .slice none 0 0, .slice none 0 0, .slice none 0 0, .slice none 0 0, .slice none 0 0, .slice none 0 0]⟩
theorem ty50_ok : ty50.ok Tryz.prog 50 := ⟨⟨by kernel_rfl, by kernel_rfl⟩, ⟨by kernel_rfl⟩⟩
def ty51 : TD := ⟨.st [(0, 50, 8)], 8, 192, true, [.slice none 0 0, .slice none 0 0, .slice none 0 0, .slice none 0 0, .slice none 0 0, .slice none 0 0, .slice none 0 0, .slice none 0 0]⟩
theorem ty51_ok : ty51.ok Tryz.prog 51 := ⟨⟨by kernel_rfl, by kernel_rfl⟩, ⟨fun f off ft n h => by
    match f, h with
    | 0, h => cases h; exact ⟨by kernel_rfl⟩
    | f + 1, h => simp at h, ⟨by kernel_rfl⟩⟩⟩
def ty52 : TD := ⟨.st [(0, 50, 8)], 8, 192, true, [.slice none 0 0, .slice none 0 0, .slice none 0 0, .slice none 0 0, .slice none 0 0, .slice none 0 0, .slice none 0 0, .slice none 0 0]⟩
theorem ty52_ok : ty52.ok Tryz.prog 52 := ⟨⟨by kernel_rfl, by kernel_rfl⟩, ⟨fun f off ft n h => by
    match f, h with
    | 0, h => cases h; exact ⟨by kernel_rfl⟩
    | f + 1, h => simp at h, ⟨by kernel_rfl⟩⟩⟩
def ty53 : TD := ⟨.oth, 1, 8, false, [.nilFunc]⟩
theorem ty53_ok : ty53.ok Tryz.prog 53 := ⟨⟨by kernel_rfl, by kernel_rfl⟩, trivial⟩
def ty54 : TD := ⟨.oth, 1, 8, false, [.nilFunc]⟩
theorem ty54_ok : ty54.ok Tryz.prog 54 := ⟨⟨by kernel_rfl, by kernel_rfl⟩, trivial⟩
def ty55 : TD := ⟨.oth, 1, 8, false, [.nilFunc]⟩
theorem ty55_ok : ty55.ok Tryz.prog 55 := ⟨⟨by kernel_rfl, by kernel_rfl⟩, trivial⟩
def ty56 : TD := ⟨.oth, 1, 8, false, [.nilFunc]⟩
theorem ty56_ok : ty56.ok Tryz.prog 56 := ⟨⟨by kernel_rfl, by kernel_rfl⟩, trivial⟩
def ty57 : TD := ⟨.oth, 1, 8, false, [.nilFunc]⟩
theorem ty57_ok : ty57.ok Tryz.prog 57 := ⟨⟨by kernel_rfl, by kernel_rfl⟩, trivial⟩
def ty58 : TD := ⟨.int .i64, 1, 8, false, [.int .i64 0]⟩
theorem ty58_ok : ty58.ok Tryz.prog 58 := ⟨⟨by kernel_rfl, by kernel_rfl⟩, (show Tryz.prog.underlying 58 = some (.int .i64) by kernel_rfl)⟩
def ty60 : TD := ⟨.oth, 1, 8, false, [.nilFunc]⟩
theorem ty60_ok : ty60.ok Tryz.prog 60 := ⟨⟨by kernel_rfl, by kernel_rfl⟩, trivial⟩
def ty61 : TD := ⟨.oth, 1, 8, false, [.nilFunc]⟩
theorem ty61_ok : ty61.ok Tryz.prog 61 := ⟨⟨by kernel_rfl, by kernel_rfl⟩, trivial⟩
def ty62 : TD := ⟨.oth, 1, 8, false, [.nilFunc]⟩
theorem ty62_ok : ty62.ok Tryz.prog 62 := ⟨⟨by kernel_rfl, by kernel_rfl⟩, trivial⟩
def ty63 : TD := ⟨.arr 4 45, 8, 192, true, [.slice none 0 0, .slice none 0 0, .slice none 0 0, .slice none 0 0, .slice none 0 0, .slice none 0 0, .slice none 0 0, .slice none 0 0]⟩
theorem ty63_ok : ty63.ok Tryz.prog 63 := ⟨⟨by kernel_rfl, by kernel_rfl⟩, ⟨by kernel_rfl⟩⟩
def ty64 : TD := ⟨.oth, 1, 8, false, [.nilFunc]⟩
theorem ty64_ok : ty64.ok Tryz.prog 64 := ⟨⟨by kernel_rfl, by kernel_rfl⟩, trivial⟩
def ty65 : TD := ⟨.arr 6 3, 6, 48, true, [.int .i64 0, .int .i64 0, .int .i64 0, .int .i64 0, .int .i64 0, .int .i64 0]⟩
theorem ty65_ok : ty65.ok Tryz.prog 65 := ⟨⟨by kernel_rfl, by kernel_rfl⟩, ⟨by kernel_rfl⟩⟩
def ty66 : TD := ⟨.oth, 1, 8, false, [.nilFunc]⟩
theorem ty66_ok : ty66.ok Tryz.prog 66 := ⟨⟨by kernel_rfl, by kernel_rfl⟩, trivial⟩
def ty67 : TD := ⟨.sl 98, 1, 24, false, [.slice none 0 0]⟩
theorem ty67_ok : ty67.ok Tryz.prog 67 := ⟨⟨by kernel_rfl, by kernel_rfl⟩, ⟨by kernel_rfl⟩⟩
def ty68 : TD := ⟨.oth, 1, 8, false, [.nilFunc]⟩
theorem ty68_ok : ty68.ok Tryz.prog 68 := ⟨⟨by kernel_rfl, by kernel_rfl⟩, trivial⟩
def ty69 : TD := ⟨.oth, 1, 8, false, [.nilFunc]⟩
theorem ty69_ok : ty69.ok Tryz.prog 69 := ⟨⟨by kernel_rfl, by kernel_rfl⟩, trivial⟩
def ty70 : TD := ⟨.sl 9, 1, 24, false, [.slice none 0 0]⟩
theorem ty70_ok : ty70.ok Tryz.prog 70 := ⟨⟨by kernel_rfl, by kernel_rfl⟩, ⟨by kernel_rfl⟩⟩
def ty71 : TD := ⟨.oth, 1, 8, false, [.nilFunc]⟩
theorem ty71_ok : ty71.ok Tryz.prog 71 := ⟨⟨by kernel_rfl, by kernel_rfl⟩, trivial⟩
def ty72 : TD := ⟨.oth, 1, 8, false, [.nilFunc]⟩
theorem ty72_ok : ty72.ok Tryz.prog 72 := ⟨⟨by kernel_rfl, by kernel_rfl⟩, trivial⟩
def ty73 : TD := ⟨.sl 22, 1, 24, false, [.slice none 0 0]⟩
theorem ty73_ok : ty73.ok Tryz.prog 73 := ⟨⟨by kernel_rfl, by kernel_rfl⟩, ⟨by kernel_rfl⟩⟩
def ty74 : TD := ⟨.oth, 1, 8, false, [.nilFunc]⟩
theorem ty74_ok : ty74.ok Tryz.prog 74 := ⟨⟨by kernel_rfl, by kernel_rfl⟩, trivial⟩
def ty75 : TD := ⟨.oth, 1, 8, false, [.nilFunc]⟩
theorem ty75_ok : ty75.ok Tryz.prog 75 := ⟨⟨by kernel_rfl, by kernel_rfl⟩, trivial⟩
def ty76 : TD := ⟨.oth, 1, 8, false, [.nilFunc]⟩
theorem ty76_ok : ty76.ok Tryz.prog 76 := ⟨⟨by kernel_rfl, by kernel_rfl⟩, trivial⟩
def ty77 : TD := ⟨.sl 36, 1, 24, false, [.slice none 0 0]⟩
theorem ty77_ok : ty77.ok Tryz.prog 77 := ⟨⟨by kernel_rfl, by kernel_rfl⟩, ⟨by kernel_rfl⟩⟩
def ty78 : TD := ⟨.oth, 1, 8, false, [.nilFunc]⟩
theorem ty78_ok : ty78.ok Tryz.prog 78 := ⟨⟨by kernel_rfl, by kernel_rfl⟩, trivial⟩
def ty79 : TD := ⟨.oth, 1, 8, false, [.nilFunc]⟩
theorem ty79_ok : ty79.ok Tryz.prog 79 := ⟨⟨by kernel_rfl, by kernel_rfl⟩, trivial⟩
def ty80 : TD := ⟨.oth, 1, 8, false, [.nilFunc]⟩
theorem ty80_ok : ty80.ok Tryz.prog 80 := ⟨⟨by kernel_rfl, by kernel_rfl⟩, trivial⟩
def ty81 : TD := ⟨.sl 52, 1, 24, false, [.slice none 0 0]⟩
theorem ty81_ok : ty81.ok Tryz.prog 81 := ⟨⟨by kernel_rfl, by kernel_rfl⟩, ⟨by kernel_rfl⟩⟩
def ty82 : TD := ⟨.mp 9 85 .string false, 1, 8, false, [.map none]⟩
theorem ty82_ok : ty82.ok Tryz.prog 82 := ⟨⟨by kernel_rfl, by kernel_rfl⟩, ⟨⟨by kernel_rfl⟩, by kernel_rfl, ⟨by kernel_rfl⟩⟩⟩
def ty83 : TD := ⟨.st [(0, 26, 1), (1, 81, 1), (2, 3, 1), (3, 82, 1)], 4, 64, true, [.slice none 0 0, .slice none 0 0, .int .i64 0, .map none]⟩
theorem ty83_ok : ty83.ok Tryz.prog 83 := ⟨⟨by kernel_rfl, by kernel_rfl⟩, ⟨fun f off ft n h => by
    match f, h with
    | 0, h => cases h; exact ⟨by kernel_rfl⟩
    | 1, h => cases h; exact ⟨by kernel_rfl⟩
    | 2, h => cases h; exact ⟨by kernel_rfl⟩
    | 3, h => cases h; exact ⟨by kernel_rfl⟩
    | f + 4, h => simp at h, ⟨by kernel_rfl⟩⟩⟩
def ty84 : TD := ⟨.st [(0, 26, 1), (1, 81, 1), (2, 3, 1), (3, 82, 1)], 4, 64, true, [.slice none 0 0, .slice none 0 0, .int .i64 0, .map none]⟩
theorem ty84_ok : ty84.ok Tryz.prog 84 := ⟨⟨by kernel_rfl, by kernel_rfl⟩, ⟨fun f off ft n h => by
    match f, h with
    | 0, h => cases h; exact ⟨by kernel_rfl⟩
    | 1, h => cases h; exact ⟨by kernel_rfl⟩
    | 2, h => cases h; exact ⟨by kernel_rfl⟩
    | 3, h => cases h; exact ⟨by kernel_rfl⟩
    | f + 4, h => simp at h, ⟨by kernel_rfl⟩⟩⟩
def ty85 : TD := ⟨.ptr 88, 1, 8, false, [.pointer none]⟩
theorem ty85_ok : ty85.ok Tryz.prog 85 := ⟨⟨by kernel_rfl, by kernel_rfl⟩, (show Tryz.prog.underlying 85 = some (.pointer 88) by kernel_rfl)⟩
def ty86 : TD := ⟨.oth, 1, 8, false, [.nilFunc]⟩
theorem ty86_ok : ty86.ok Tryz.prog 86 := ⟨⟨by kernel_rfl, by kernel_rfl⟩, trivial⟩
def ty87 : TD := ⟨.st [(0, 3, 1), (1, 36, 2)], 3, 56, true, [.int .i64 0, .slice none 0 0, .slice none 0 0]⟩
theorem ty87_ok : ty87.ok Tryz.prog 87 := ⟨⟨by kernel_rfl, by kernel_rfl⟩, ⟨fun f off ft n h => by
    match f, h with
    | 0, h => cases h; exact ⟨by kernel_rfl⟩
    | 1, h => cases h; exact ⟨by kernel_rfl⟩
    | f + 2, h => simp at h, ⟨by kernel_rfl⟩⟩⟩
def ty88 : TD := ⟨.st [(0, 3, 1), (1, 36, 2)], 3, 56, true, [.int .i64 0, .slice none 0 0, .slice none 0 0]⟩
theorem ty88_ok : ty88.ok Tryz.prog 88 := ⟨⟨by kernel_rfl, by kernel_rfl⟩, ⟨fun f off ft n h => by
    match f, h with
    | 0, h => cases h; exact ⟨by kernel_rfl⟩
    | 1, h => cases h; exact ⟨by kernel_rfl⟩
    | f + 2, h => simp at h, ⟨by kernel_rfl⟩⟩⟩
def ty89 : TD := ⟨.oth, 1, 8, false, [.nilFunc]⟩
theorem ty89_ok : ty89.ok Tryz.prog 89 := ⟨⟨by kernel_rfl, by kernel_rfl⟩, trivial⟩
def ty90 : TD := ⟨.oth, 1, 8, false, [.nilFunc]⟩
theorem ty90_ok : ty90.ok Tryz.prog 90 := ⟨⟨by kernel_rfl, by kernel_rfl⟩, trivial⟩
def ty91 : TD := ⟨.oth, 1, 8, false, [.nilFunc]⟩
theorem ty91_ok : ty91.ok Tryz.prog 91 := ⟨⟨by kernel_rfl, by kernel_rfl⟩, trivial⟩
def ty92 : TD := ⟨.oth, 1, 8, false, [.nilFunc]⟩
theorem ty92_ok : ty92.ok Tryz.prog 92 := ⟨⟨by kernel_rfl, by kernel_rfl⟩, trivial⟩
def ty93 : TD := ⟨.oth, 1, 8, false, [.nilFunc]⟩
theorem ty93_ok : ty93.ok Tryz.prog 93 := ⟨⟨by kernel_rfl, by kernel_rfl⟩, trivial⟩
def ty94 : TD := ⟨.oth, 1, 8, false, [.nilFunc]⟩
theorem ty94_ok : ty94.ok Tryz.prog 94 := ⟨⟨by kernel_rfl, by kernel_rfl⟩, trivial⟩
def ty95 : TD := ⟨.oth, 1, 8, false, [.nilFunc]⟩
theorem ty95_ok : ty95.ok Tryz.prog 95 := ⟨⟨by kernel_rfl, by kernel_rfl⟩, trivial⟩
def ty96 : TD := ⟨.oth, 1, 8, false, [.nilFunc]⟩
theorem ty96_ok : ty96.ok Tryz.prog 96 := ⟨⟨by kernel_rfl, by kernel_rfl⟩, trivial⟩
def ty97 : TD := ⟨.st [(0, 22, 1), (1, 3, 1)], 2, 32, true, [.slice none 0 0, .int .i64 0]⟩
theorem ty97_ok : ty97.ok Tryz.prog 97 := ⟨⟨by kernel_rfl, by kernel_rfl⟩, ⟨fun f off ft n h => by
    match f, h with
    | 0, h => cases h; exact ⟨by kernel_rfl⟩
    | 1, h => cases h; exact ⟨by kernel_rfl⟩
    | f + 2, h => simp at h, ⟨by kernel_rfl⟩⟩⟩
def ty98 : TD := ⟨.st [(0, 22, 1), (1, 3, 1)], 2, 32, true, [.slice none 0 0, .int .i64 0]⟩
theorem ty98_ok : ty98.ok Tryz.prog 98 := ⟨⟨by kernel_rfl, by kernel_rfl⟩, ⟨fun f off ft n h => by
    match f, h with
    | 0, h => cases h; exact ⟨by kernel_rfl⟩
    | 1, h => cases h; exact ⟨by kernel_rfl⟩
    | f + 2, h => simp at h, ⟨by kernel_rfl⟩⟩⟩
def ty99 : TD := ⟨.oth, 1, 8, false, [.nilFunc]⟩
theorem ty99_ok : ty99.ok Tryz.prog 99 := ⟨⟨by kernel_rfl, by kernel_rfl⟩, trivial⟩
def ty100 : TD := ⟨.oth, 1, 8, false, [.nilFunc]⟩
theorem ty100_ok : ty100.ok Tryz.prog 100 := ⟨⟨by kernel_rfl, by kernel_rfl⟩, trivial⟩
def ty102 : TD := ⟨.oth, 1, 8, false, [.nilFunc]⟩
theorem ty102_ok : ty102.ok Tryz.prog 102 := ⟨⟨by kernel_rfl, by kernel_rfl⟩, trivial⟩
def ty103 : TD := ⟨.oth, 1, 8, false, [.nilFunc]⟩
theorem ty103_ok : ty103.ok Tryz.prog 103 := ⟨⟨by kernel_rfl, by kernel_rfl⟩, trivial⟩
def ty104 : TD := ⟨.oth, 1, 8, false, [.nilFunc]⟩
theorem ty104_ok : ty104.ok Tryz.prog 104 := ⟨⟨by kernel_rfl, by kernel_rfl⟩, trivial⟩
def ty105 : TD := ⟨.arr 5 3, 5, 40, true, [.int .i64 0, .int .i64 0, .int .i64 0, .int .i64 0, .int .i64 0]⟩
theorem ty105_ok : ty105.ok Tryz.prog 105 := ⟨⟨by kernel_rfl, by kernel_rfl⟩, ⟨by kernel_rfl⟩⟩
def ty106 : TD := ⟨.st [(0, 3, 1), (1, 3, 1), (2, 105, 5)], 7, 56, true, [.int .i64 0, .int .i64 0, .int .i64 0, .int .i64 0, .int .i64 0, .int .i64 0, .int .i64 0]⟩
theorem ty106_ok : ty106.ok Tryz.prog 106 := ⟨⟨by kernel_rfl, by kernel_rfl⟩, ⟨fun f off ft n h => by
    match f, h with
    | 0, h => cases h; exact ⟨by kernel_rfl⟩
    | 1, h => cases h; exact ⟨by kernel_rfl⟩
    | 2, h => cases h; exact ⟨by kernel_rfl⟩
    | f + 3, h => simp at h, ⟨by kernel_rfl⟩⟩⟩
def ty107 : TD := ⟨.st [(0, 3, 1), (1, 3, 1), (2, 105, 5)], 7, 56, true, [.int .i64 0, .int .i64 0, .int .i64 0, .int .i64 0, .int .i64 0, .int .i64 0, .int .i64 0]⟩
theorem ty107_ok : ty107.ok Tryz.prog 107 := ⟨⟨by kernel_rfl, by kernel_rfl⟩, ⟨fun f off ft n h => by
    match f, h with
    | 0, h => cases h; exact ⟨by kernel_rfl⟩
    | 1, h => cases h; exact ⟨by kernel_rfl⟩
    | 2, h => cases h; exact ⟨by kernel_rfl⟩
    | f + 3, h => simp at h, ⟨by kernel_rfl⟩⟩⟩
def ty108 : TD := ⟨.oth, 1, 8, false, [.nilFunc]⟩
theorem ty108_ok : ty108.ok Tryz.prog 108 := ⟨⟨by kernel_rfl, by kernel_rfl⟩, trivial⟩
def ty109 : TD := ⟨.oth, 1, 8, false, [.nilFunc]⟩
theorem ty109_ok : ty109.ok Tryz.prog 109 := ⟨⟨by kernel_rfl, by kernel_rfl⟩, trivial⟩
def ty110 : TD := ⟨.oth, 1, 8, false, [.nilFunc]⟩
theorem ty110_ok : ty110.ok Tryz.prog 110 := ⟨⟨by kernel_rfl, by kernel_rfl⟩, trivial⟩
def ty111 : TD := ⟨.oth, 1, 8, false, [.nilFunc]⟩
theorem ty111_ok : ty111.ok Tryz.prog 111 := ⟨⟨by kernel_rfl, by kernel_rfl⟩, trivial⟩
def ty112 : TD := ⟨.oth, 1, 8, false, [.nilFunc]⟩
theorem ty112_ok : ty112.ok Tryz.prog 112 := ⟨⟨by kernel_rfl, by kernel_rfl⟩, trivial⟩
def ty113 : TD := ⟨.oth, 1, 8, false, [.nilFunc]⟩
theorem ty113_ok : ty113.ok Tryz.prog 113 := ⟨⟨by kernel_rfl, by kernel_rfl⟩, trivial⟩
def ty114 : TD := ⟨.oth, 1, 8, false, [.nilFunc]⟩
theorem ty114_ok : ty114.ok Tryz.prog 114 := ⟨⟨by kernel_rfl, by kernel_rfl⟩, trivial⟩
def ty115 : TD := ⟨.sl 70, 1, 24, false, [.slice none 0 0]⟩
theorem ty115_ok : ty115.ok Tryz.prog 115 := ⟨⟨by kernel_rfl, by kernel_rfl⟩, ⟨by kernel_rfl⟩⟩
def ty116 : TD := ⟨.oth, 1, 8, false, [.nilFunc]⟩
theorem ty116_ok : ty116.ok Tryz.prog 116 := ⟨⟨by kernel_rfl, by kernel_rfl⟩, trivial⟩
def ty117 : TD := ⟨.oth, 1, 8, false, [.nilFunc]⟩
theorem ty117_ok : ty117.ok Tryz.prog 117 := ⟨⟨by kernel_rfl, by kernel_rfl⟩, trivial⟩
def ty118 : TD := ⟨.oth, 1, 8, false, [.nilFunc]⟩
theorem ty118_ok : ty118.ok Tryz.prog 118 := ⟨⟨by kernel_rfl, by kernel_rfl⟩, trivial⟩
def ty119 : TD := ⟨.oth, 1, 8, false, [.nilFunc]⟩
theorem ty119_ok : ty119.ok Tryz.prog 119 := ⟨⟨by kernel_rfl, by kernel_rfl⟩, trivial⟩
def ty120 : TD := ⟨.oth, 1, 8, false, [.nilFunc]⟩
theorem ty120_ok : ty120.ok Tryz.prog 120 := ⟨⟨by kernel_rfl, by kernel_rfl⟩, trivial⟩
def ty122 : TD := ⟨.oth, 1, 8, false, [.nilFunc]⟩
theorem ty122_ok : ty122.ok Tryz.prog 122 := ⟨⟨by kernel_rfl, by kernel_rfl⟩, trivial⟩
def ty123 : TD := ⟨.oth, 1, 8, false, [.nilFunc]⟩
theorem ty123_ok : ty123.ok Tryz.prog 123 := ⟨⟨by kernel_rfl, by kernel_rfl⟩, trivial⟩
def ty125 : TD := ⟨.oth, 1, 8, false, [.nilFunc]⟩
theorem ty125_ok : ty125.ok Tryz.prog 125 := ⟨⟨by kernel_rfl, by kernel_rfl⟩, trivial⟩
def ty126 : TD := ⟨.oth, 1, 8, false, [.nilFunc]⟩
theorem ty126_ok : ty126.ok Tryz.prog 126 := ⟨⟨by kernel_rfl, by kernel_rfl⟩, trivial⟩
def ty128 : TD := ⟨.oth, 1, 8, false, [.nilFunc]⟩
theorem ty128_ok : ty128.ok Tryz.prog 128 := ⟨⟨by kernel_rfl, by kernel_rfl⟩, trivial⟩
def ty130 : TD := ⟨.oth, 1, 8, false, [.nilFunc]⟩
theorem ty130_ok : ty130.ok Tryz.prog 130 := ⟨⟨by kernel_rfl, by kernel_rfl⟩, trivial⟩
def ty132 : TD := ⟨.oth, 1, 8, false, [.nilFunc]⟩
theorem ty132_ok : ty132.ok Tryz.prog 132 := ⟨⟨by kernel_rfl, by kernel_rfl⟩, trivial⟩
def ty134 : TD := ⟨.oth, 1, 8, false, [.nilFunc]⟩
theorem ty134_ok : ty134.ok Tryz.prog 134 := ⟨⟨by kernel_rfl, by kernel_rfl⟩, trivial⟩
def ty135 : TD := ⟨.oth, 1, 8, false, [.nilFunc]⟩
theorem ty135_ok : ty135.ok Tryz.prog 135 := ⟨⟨by kernel_rfl, by kernel_rfl⟩, trivial⟩
def ty137 : TD := ⟨.oth, 1, 8, false, [.nilFunc]⟩
theorem ty137_ok : ty137.ok Tryz.prog 137 := ⟨⟨by kernel_rfl, by kernel_rfl⟩, trivial⟩
def ty138 : TD := ⟨.sl 141, 1, 24, false, [.slice none 0 0]⟩
theorem ty138_ok : ty138.ok Tryz.prog 138 := ⟨⟨by kernel_rfl, by kernel_rfl⟩, ⟨by kernel_rfl⟩⟩
def ty140 : TD := ⟨.oth, 1, 8, false, [.nilFunc]⟩
theorem ty140_ok : ty140.ok Tryz.prog 140 := ⟨⟨by kernel_rfl, by kernel_rfl⟩, trivial⟩
def ty141 : TD := ⟨.sl 5, 1, 24, false, [.slice none 0 0]⟩
theorem ty141_ok : ty141.ok Tryz.prog 141 := ⟨⟨by kernel_rfl, by kernel_rfl⟩, ⟨by kernel_rfl⟩⟩
def ty142 : TD := ⟨.oth, 1, 8, false, [.nilFunc]⟩
theorem ty142_ok : ty142.ok Tryz.prog 142 := ⟨⟨by kernel_rfl, by kernel_rfl⟩, trivial⟩
def ty143 : TD := ⟨.oth, 1, 8, false, [.nilFunc]⟩
theorem ty143_ok : ty143.ok Tryz.prog 143 := ⟨⟨by kernel_rfl, by kernel_rfl⟩, trivial⟩
def ty144 : TD := ⟨.oth, 1, 8, false, [.nilFunc]⟩
theorem ty144_ok : ty144.ok Tryz.prog 144 := ⟨⟨by kernel_rfl, by kernel_rfl⟩, trivial⟩
def ty145 : TD := ⟨.oth, 1, 8, false, [.nilFunc]⟩
theorem ty145_ok : ty145.ok Tryz.prog 145 := ⟨⟨by kernel_rfl, by kernel_rfl⟩, trivial⟩
def ty146 : TD := ⟨.oth, 1, 8, false, [.nilFunc]⟩
theorem ty146_ok : ty146.ok Tryz.prog 146 := ⟨⟨by kernel_rfl, by kernel_rfl⟩, trivial⟩
def ty147 : TD := ⟨.oth, 1, 8, false, [.nilFunc]⟩
theorem ty147_ok : ty147.ok Tryz.prog 147 := ⟨⟨by kernel_rfl, by kernel_rfl⟩, trivial⟩
def ty148 : TD := ⟨.oth, 1, 8, false, [.nilFunc]⟩
theorem ty148_ok : ty148.ok Tryz.prog 148 := ⟨⟨by kernel_rfl, by kernel_rfl⟩, trivial⟩
def ty149 : TD := ⟨.oth, 1, 8, false, [.nilFunc]⟩
theorem ty149_ok : ty149.ok Tryz.prog 149 := ⟨⟨by kernel_rfl, by kernel_rfl⟩, trivial⟩
def ty150 : TD := ⟨.oth, 1, 8, false, [.nilFunc]⟩
theorem ty150_ok : ty150.ok Tryz.prog 150 := ⟨⟨by kernel_rfl, by kernel_rfl⟩, trivial⟩
def ty152 : TD := ⟨.oth, 1, 8, false, [.nilFunc]⟩
theorem ty152_ok : ty152.ok Tryz.prog 152 := ⟨⟨by kernel_rfl, by kernel_rfl⟩, trivial⟩
def ty153 : TD := ⟨.oth, 1, 8, false, [.nilFunc]⟩
theorem ty153_ok : ty153.ok Tryz.prog 153 := ⟨⟨by kernel_rfl, by kernel_rfl⟩, trivial⟩
def ty154 : TD := ⟨.oth, 1, 8, false, [.nilFunc]⟩
theorem ty154_ok : ty154.ok Tryz.prog 154 := ⟨⟨by kernel_rfl, by kernel_rfl⟩, trivial⟩
def ty155 : TD := ⟨.oth, 1, 8, false, [.nilFunc]⟩
theorem ty155_ok : ty155.ok Tryz.prog 155 := ⟨⟨by kernel_rfl, by kernel_rfl⟩, trivial⟩
def ty156 : TD := ⟨.oth, 1, 8, false, [.nilFunc]⟩
theorem ty156_ok : ty156.ok Tryz.prog 156 := ⟨⟨by kernel_rfl, by kernel_rfl⟩, trivial⟩
def ty157 : TD := ⟨.oth, 1, 8, false, [.nilFunc]⟩
theorem ty157_ok : ty157.ok Tryz.prog 157 := ⟨⟨by kernel_rfl, by kernel_rfl⟩, trivial⟩
def ty158 : TD := ⟨.oth, 1, 8, false, [.nilFunc]⟩
theorem ty158_ok : ty158.ok Tryz.prog 158 := ⟨⟨by kernel_rfl, by kernel_rfl⟩, trivial⟩
def ty159 : TD := ⟨.oth, 1, 8, false, [.nilFunc]⟩
theorem ty159_ok : ty159.ok Tryz.prog 159 := ⟨⟨by kernel_rfl, by kernel_rfl⟩, trivial⟩
def ty160 : TD := ⟨.oth, 1, 8, false, [.nilFunc]⟩
theorem ty160_ok : ty160.ok Tryz.prog 160 := ⟨⟨by kernel_rfl, by kernel_rfl⟩, trivial⟩
def ty161 : TD := ⟨.oth, 1, 8, false, [.nilFunc]⟩
theorem ty161_ok : ty161.ok Tryz.prog 161 := ⟨⟨by kernel_rfl, by kernel_rfl⟩, trivial⟩
def ty162 : TD := ⟨.oth, 1, 8, false, [.nilFunc]⟩
theorem ty162_ok : ty162.ok Tryz.prog 162 := ⟨⟨by kernel_rfl, by kernel_rfl⟩, trivial⟩
def ty163 : TD := ⟨.oth, 1, 8, false, [.nilFunc]⟩
theorem ty163_ok : ty163.ok Tryz.prog 163 := ⟨⟨by kernel_rfl, by kernel_rfl⟩, trivial⟩
def ty164 : TD := ⟨.oth, 1, 8, false, [.nilFunc]⟩
theorem ty164_ok : ty164.ok Tryz.prog 164 := ⟨⟨by kernel_rfl, by kernel_rfl⟩, trivial⟩
def ty165 : TD := ⟨.oth, 1, 8, false, [.nilFunc]⟩
theorem ty165_ok : ty165.ok Tryz.prog 165 := ⟨⟨by kernel_rfl, by kernel_rfl⟩, trivial⟩
def ty166 : TD := ⟨.oth, 1, 8, false, [.nilFunc]⟩
theorem ty166_ok : ty166.ok Tryz.prog 166 := ⟨⟨by kernel_rfl, by kernel_rfl⟩, trivial⟩
def ty167 : TD := ⟨.oth, 1, 8, false, [.nilFunc]⟩
theorem ty167_ok : ty167.ok Tryz.prog 167 := ⟨⟨by kernel_rfl, by kernel_rfl⟩, trivial⟩
def ty168 : TD := ⟨.oth, 1, 8, false, [.nilFunc]⟩
theorem ty168_ok : ty168.ok Tryz.prog 168 := ⟨⟨by kernel_rfl, by kernel_rfl⟩, trivial⟩
def ty169 : TD := ⟨.oth, 1, 8, false, [.nilFunc]⟩
theorem ty169_ok : ty169.ok Tryz.prog 169 := ⟨⟨by kernel_rfl, by kernel_rfl⟩, trivial⟩
def ty170 : TD := ⟨.oth, 1, 8, false, [.nilFunc]⟩
theorem ty170_ok : ty170.ok Tryz.prog 170 := ⟨⟨by kernel_rfl, by kernel_rfl⟩, trivial⟩
def ty171 : TD := ⟨.int .u64, 1, 8, false, [.int .u64 0]⟩
theorem ty171_ok : ty171.ok Tryz.prog 171 := ⟨⟨by kernel_rfl, by kernel_rfl⟩, (show Tryz.prog.underlying 171 = some (.int .u64) by kernel_rfl)⟩
def ty172 : TD := ⟨.oth, 1, 8, false, [.nilFunc]⟩
theorem ty172_ok : ty172.ok Tryz.prog 172 := ⟨⟨by kernel_rfl, by kernel_rfl⟩, trivial⟩
def ty173 : TD := ⟨.oth, 1, 8, false, [.nilFunc]⟩
theorem ty173_ok : ty173.ok Tryz.prog 173 := ⟨⟨by kernel_rfl, by kernel_rfl⟩, trivial⟩
def ty174 : TD := ⟨.oth, 1, 8, false, [.nilFunc]⟩
theorem ty174_ok : ty174.ok Tryz.prog 174 := ⟨⟨by kernel_rfl, by kernel_rfl⟩, trivial⟩
def ty175 : TD := ⟨.oth, 1, 8, false, [.nilFunc]⟩
theorem ty175_ok : ty175.ok Tryz.prog 175 := ⟨⟨by kernel_rfl, by kernel_rfl⟩, trivial⟩
def ty176 : TD := ⟨.oth, 1, 8, false, [.nilFunc]⟩
theorem ty176_ok : ty176.ok Tryz.prog 176 := ⟨⟨by kernel_rfl, by kernel_rfl⟩, trivial⟩
def ty178 : TD := ⟨.oth, 1, 8, false, [.nilFunc]⟩
theorem ty178_ok : ty178.ok Tryz.prog 178 := ⟨⟨by kernel_rfl, by kernel_rfl⟩, trivial⟩
def ty179 : TD := ⟨.oth, 1, 8, false, [.nilFunc]⟩
theorem ty179_ok : ty179.ok Tryz.prog 179 := ⟨⟨by kernel_rfl, by kernel_rfl⟩, trivial⟩
def ty180 : TD := ⟨.oth, 1, 8, false, [.nilFunc]⟩
theorem ty180_ok : ty180.ok Tryz.prog 180 := ⟨⟨by kernel_rfl, by kernel_rfl⟩, trivial⟩
def ty181 : TD := ⟨.oth, 1, 8, false, [.nilFunc]⟩
theorem ty181_ok : ty181.ok Tryz.prog 181 := ⟨⟨by kernel_rfl, by kernel_rfl⟩, trivial⟩
def ty182 : TD := ⟨.oth, 1, 8, false, [.nilFunc]⟩
theorem ty182_ok : ty182.ok Tryz.prog 182 := ⟨⟨by kernel_rfl, by kernel_rfl⟩, trivial⟩
def ty183 : TD := ⟨.oth, 1, 8, false, [.nilFunc]⟩
theorem ty183_ok : ty183.ok Tryz.prog 183 := ⟨⟨by kernel_rfl, by kernel_rfl⟩, trivial⟩
def ty184 : TD := ⟨.oth, 1, 8, false, [.nilFunc]⟩
theorem ty184_ok : ty184.ok Tryz.prog 184 := ⟨⟨by kernel_rfl, by kernel_rfl⟩, trivial⟩
def ty185 : TD := ⟨.ptr 107, 1, 8, false, [.pointer none]⟩
theorem ty185_ok : ty185.ok Tryz.prog 185 := ⟨⟨by kernel_rfl, by kernel_rfl⟩, (show Tryz.prog.underlying 185 = some (.pointer 107) by kernel_rfl)⟩
def ty186 : TD := ⟨.oth, 1, 8, false, [.nilFunc]⟩
theorem ty186_ok : ty186.ok Tryz.prog 186 := ⟨⟨by kernel_rfl, by kernel_rfl⟩, trivial⟩
def ty187 : TD := ⟨.oth, 1, 8, false, [.nilFunc]⟩
theorem ty187_ok : ty187.ok Tryz.prog 187 := ⟨⟨by kernel_rfl, by kernel_rfl⟩, trivial⟩
def ty188 : TD := ⟨.oth, 1, 8, false, [.nilFunc]⟩
theorem ty188_ok : ty188.ok Tryz.prog 188 := ⟨⟨by kernel_rfl, by kernel_rfl⟩, trivial⟩
def ty189 : TD := ⟨.oth, 1, 8, false, [.nilFunc]⟩
theorem ty189_ok : ty189.ok Tryz.prog 189 := ⟨⟨by kernel_rfl, by kernel_rfl⟩, trivial⟩
def ty190 : TD := ⟨.oth, 1, 16, false, [.nilIface]⟩
theorem ty190_ok : ty190.ok Tryz.prog 190 := ⟨⟨by kernel_rfl, by kernel_rfl⟩, trivial⟩
def ty191 : TD := ⟨.oth, 1, 16, false, [.nilIface]⟩
theorem ty191_ok : ty191.ok Tryz.prog 191 := ⟨⟨by kernel_rfl, by kernel_rfl⟩, trivial⟩
def ty192 : TD := ⟨.oth, 1, 8, false, [.nilFunc]⟩
theorem ty192_ok : ty192.ok Tryz.prog 192 := ⟨⟨by kernel_rfl, by kernel_rfl⟩, trivial⟩
def ty193 : TD := ⟨.oth, 1, 8, false, [.nilFunc]⟩
theorem ty193_ok : ty193.ok Tryz.prog 193 := ⟨⟨by kernel_rfl, by kernel_rfl⟩, trivial⟩
def ty194 : TD := ⟨.oth, 1, 8, false, [.nilFunc]⟩
theorem ty194_ok : ty194.ok Tryz.prog 194 := ⟨⟨by kernel_rfl, by kernel_rfl⟩, trivial⟩
def ty195 : TD := ⟨.oth, 1, 8, false, [.nilFunc]⟩
theorem ty195_ok : ty195.ok Tryz.prog 195 := ⟨⟨by kernel_rfl, by kernel_rfl⟩, trivial⟩
def ty196 : TD := ⟨.int .i64, 1, 8, false, [.int .i64 0]⟩
theorem ty196_ok : ty196.ok Tryz.prog 196 := ⟨⟨by kernel_rfl, by kernel_rfl⟩, (show Tryz.prog.underlying 196 = some (.int .i64) by kernel_rfl)⟩
def ty198 : TD := ⟨.oth, 1, 8, false, [.nilFunc]⟩
theorem ty198_ok : ty198.ok Tryz.prog 198 := ⟨⟨by kernel_rfl, by kernel_rfl⟩, trivial⟩
def ty199 : TD := ⟨.oth, 1, 8, false, [.nilFunc]⟩
theorem ty199_ok : ty199.ok Tryz.prog 199 := ⟨⟨by kernel_rfl, by kernel_rfl⟩, trivial⟩
def ty200 : TD := ⟨.oth, 1, 8, false, [.nilFunc]⟩
theorem ty200_ok : ty200.ok Tryz.prog 200 := ⟨⟨by kernel_rfl, by kernel_rfl⟩, trivial⟩
def ty201 : TD := ⟨.oth, 1, 8, false, [.nilFunc]⟩
theorem ty201_ok : ty201.ok Tryz.prog 201 := ⟨⟨by kernel_rfl, by kernel_rfl⟩, trivial⟩
def ty202 : TD := ⟨.oth, 1, 8, false, [.nilFunc]⟩
theorem ty202_ok : ty202.ok Tryz.prog 202 := ⟨⟨by kernel_rfl, by kernel_rfl⟩, trivial⟩
def ty203 : TD := ⟨.int .u32, 1, 4, false, [.int .u32 0]⟩
theorem ty203_ok : ty203.ok Tryz.prog 203 := ⟨⟨by kernel_rfl, by kernel_rfl⟩, (show Tryz.prog.underlying 203 = some (.int .u32) by kernel_rfl)⟩
def ty204 : TD := ⟨.oth, 1, 8, false, [.nilFunc]⟩
theorem ty204_ok : ty204.ok Tryz.prog 204 := ⟨⟨by kernel_rfl, by kernel_rfl⟩, trivial⟩
def ty205 : TD := ⟨.oth, 1, 8, false, [.nilFunc]⟩
theorem ty205_ok : ty205.ok Tryz.prog 205 := ⟨⟨by kernel_rfl, by kernel_rfl⟩, trivial⟩
def ty206 : TD := ⟨.oth, 1, 8, false, [.nilFunc]⟩
theorem ty206_ok : ty206.ok Tryz.prog 206 := ⟨⟨by kernel_rfl, by kernel_rfl⟩, trivial⟩
def ty207 : TD := ⟨.oth, 1, 8, false, [.nilFunc]⟩
theorem ty207_ok : ty207.ok Tryz.prog 207 := ⟨⟨by kernel_rfl, by kernel_rfl⟩, trivial⟩
def ty208 : TD := ⟨.oth, 1, 8, false, [.nilFunc]⟩
theorem ty208_ok : ty208.ok Tryz.prog 208 := ⟨⟨by kernel_rfl, by kernel_rfl⟩, trivial⟩
def ty209 : TD := ⟨.int .u64, 1, 8, false, [.int .u64 0]⟩
theorem ty209_ok : ty209.ok Tryz.prog 209 := ⟨⟨by kernel_rfl, by kernel_rfl⟩, (show Tryz.prog.underlying 209 = some (.int .u64) by kernel_rfl)⟩
def ty210 : TD := ⟨.oth, 1, 8, false, [.nilFunc]⟩
theorem ty210_ok : ty210.ok Tryz.prog 210 := ⟨⟨by kernel_rfl, by kernel_rfl⟩, trivial⟩
def ty211 : TD := ⟨.oth, 1, 8, false, [.nilFunc]⟩
theorem ty211_ok : ty211.ok Tryz.prog 211 := ⟨⟨by kernel_rfl, by kernel_rfl⟩, trivial⟩
def ty212 : TD := ⟨.oth, 1, 8, false, [.nilFunc]⟩
theorem ty212_ok : ty212.ok Tryz.prog 212 := ⟨⟨by kernel_rfl, by kernel_rfl⟩, trivial⟩
def ty213 : TD := ⟨.ptr 3, 1, 8, false, [.pointer none]⟩
theorem ty213_ok : ty213.ok Tryz.prog 213 := ⟨⟨by kernel_rfl, by kernel_rfl⟩, (show Tryz.prog.underlying 213 = some (.pointer 3) by kernel_rfl)⟩
def ty214 : TD := ⟨.oth, 1, 8, false, [.nilFunc]⟩
theorem ty214_ok : ty214.ok Tryz.prog 214 := ⟨⟨by kernel_rfl, by kernel_rfl⟩, trivial⟩
def ty215 : TD := ⟨.oth, 1, 8, false, [.nilFunc]⟩
theorem ty215_ok : ty215.ok Tryz.prog 215 := ⟨⟨by kernel_rfl, by kernel_rfl⟩, trivial⟩
def ty216 : TD := ⟨.oth, 1, 8, false, [.nilFunc]⟩
theorem ty216_ok : ty216.ok Tryz.prog 216 := ⟨⟨by kernel_rfl, by kernel_rfl⟩, trivial⟩
def ty217 : TD := ⟨.ptr 209, 1, 8, false, [.pointer none]⟩
theorem ty217_ok : ty217.ok Tryz.prog 217 := ⟨⟨by kernel_rfl, by kernel_rfl⟩, (show Tryz.prog.underlying 217 = some (.pointer 209) by kernel_rfl)⟩
def ty219 : TD := ⟨.oth, 1, 8, false, [.nilFunc]⟩
theorem ty219_ok : ty219.ok Tryz.prog 219 := ⟨⟨by kernel_rfl, by kernel_rfl⟩, trivial⟩
def ty220 : TD := ⟨.oth, 1, 8, false, [.nilFunc]⟩
theorem ty220_ok : ty220.ok Tryz.prog 220 := ⟨⟨by kernel_rfl, by kernel_rfl⟩, trivial⟩
def ty221 : TD := ⟨.st [(0, 17, 1), (1, 17, 1), (2, 17, 1), (3, 9, 1)], 4, 40, true, [.pointer none, .pointer none, .pointer none, .string .empty]⟩
theorem ty221_ok : ty221.ok Tryz.prog 221 := ⟨⟨by kernel_rfl, by kernel_rfl⟩, ⟨fun f off ft n h => by
    match f, h with
    | 0, h => cases h; exact ⟨by kernel_rfl⟩
    | 1, h => cases h; exact ⟨by kernel_rfl⟩
    | 2, h => cases h; exact ⟨by kernel_rfl⟩
    | 3, h => cases h; exact ⟨by kernel_rfl⟩
    | f + 4, h => simp at h, ⟨by kernel_rfl⟩⟩⟩
def ty222 : TD := ⟨.st [(0, 17, 1), (1, 17, 1), (2, 17, 1), (3, 9, 1)], 4, 40, true, [.pointer none, .pointer none, .pointer none, .string .empty]⟩
theorem ty222_ok : ty222.ok Tryz.prog 222 := ⟨⟨by kernel_rfl, by kernel_rfl⟩, ⟨fun f off ft n h => by
    match f, h with
    | 0, h => cases h; exact ⟨by kernel_rfl⟩
    | 1, h => cases h; exact ⟨by kernel_rfl⟩
    | 2, h => cases h; exact ⟨by kernel_rfl⟩
    | 3, h => cases h; exact ⟨by kernel_rfl⟩
    | f + 4, h => simp at h, ⟨by kernel_rfl⟩⟩⟩
def ty223 : TD := ⟨.arr 0 16, 0, 0, true, []⟩
theorem ty223_ok : ty223.ok Tryz.prog 223 := ⟨⟨by kernel_rfl, by kernel_rfl⟩, ⟨by kernel_rfl⟩⟩
def ty224 : TD := ⟨.st [(0, 223, 0)], 0, 0, true, []⟩
theorem ty224_ok : ty224.ok Tryz.prog 224 := ⟨⟨by kernel_rfl, by kernel_rfl⟩, ⟨fun f off ft n h => by
    match f, h with
    | 0, h => cases h; exact ⟨by kernel_rfl⟩
    | f + 1, h => simp at h, ⟨by kernel_rfl⟩⟩⟩
def ty225 : TD := ⟨.st [(0, 223, 0)], 0, 0, true, []⟩
theorem ty225_ok : ty225.ok Tryz.prog 225 := ⟨⟨by kernel_rfl, by kernel_rfl⟩, ⟨fun f off ft n h => by
    match f, h with
    | 0, h => cases h; exact ⟨by kernel_rfl⟩
    | f + 1, h => simp at h, ⟨by kernel_rfl⟩⟩⟩
def ty226 : TD := ⟨.int .u8, 1, 1, false, [.int .u8 0]⟩
theorem ty226_ok : ty226.ok Tryz.prog 226 := ⟨⟨by kernel_rfl, by kernel_rfl⟩, (show Tryz.prog.underlying 226 = some (.int .u8) by kernel_rfl)⟩
def ty227 : TD := ⟨.int .u8, 1, 1, false, [.int .u8 0]⟩
theorem ty227_ok : ty227.ok Tryz.prog 227 := ⟨⟨by kernel_rfl, by kernel_rfl⟩, (show Tryz.prog.underlying 227 = some (.int .u8) by kernel_rfl)⟩
def ty228 : TD := ⟨.oth, 1, 8, false, [.nilFunc]⟩
theorem ty228_ok : ty228.ok Tryz.prog 228 := ⟨⟨by kernel_rfl, by kernel_rfl⟩, trivial⟩
def ty229 : TD := ⟨.ptr 5, 1, 8, false, [.pointer none]⟩
theorem ty229_ok : ty229.ok Tryz.prog 229 := ⟨⟨by kernel_rfl, by kernel_rfl⟩, (show Tryz.prog.underlying 229 = some (.pointer 5) by kernel_rfl)⟩
def ty230 : TD := ⟨.int .i32, 1, 4, false, [.int .i32 0]⟩
theorem ty230_ok : ty230.ok Tryz.prog 230 := ⟨⟨by kernel_rfl, by kernel_rfl⟩, (show Tryz.prog.underlying 230 = some (.int .i32) by kernel_rfl)⟩
def ty231 : TD := ⟨.int .i32, 1, 4, false, [.int .i32 0]⟩
theorem ty231_ok : ty231.ok Tryz.prog 231 := ⟨⟨by kernel_rfl, by kernel_rfl⟩, (show Tryz.prog.underlying 231 = some (.int .i32) by kernel_rfl)⟩
def ty232 : TD := ⟨.st [(0, 12, 1), (1, 12, 1), (2, 203, 1), (3, 226, 1), (4, 5, 1), (5, 5, 1), (6, 227, 1), (7, 228, 1), (8, 229, 1), (9, 230, 1), (10, 231, 1)], 11, 48, true, [.int .u64 0, .int .u64 0, .int .u32 0, .int .u8 0, .int .u8 0, .int .u8 0, .int .u8 0, .nilFunc, .pointer none, .int .i32 0, .int .i32 0]⟩
theorem ty232_ok : ty232.ok Tryz.prog 232 := ⟨⟨by kernel_rfl, by kernel_rfl⟩, ⟨fun f off ft n h => by
    match f, h with
    | 0, h => cases h; exact ⟨by kernel_rfl⟩
    | 1, h => cases h; exact ⟨by kernel_rfl⟩
    | 2, h => cases h; exact ⟨by kernel_rfl⟩
    | 3, h => cases h; exact ⟨by kernel_rfl⟩
    | 4, h => cases h; exact ⟨by kernel_rfl⟩
    | 5, h => cases h; exact ⟨by kernel_rfl⟩
    | 6, h => cases h; exact ⟨by kernel_rfl⟩
    | 7, h => cases h; exact ⟨by kernel_rfl⟩
    | 8, h => cases h; exact ⟨by kernel_rfl⟩
    | 9, h => cases h; exact ⟨by kernel_rfl⟩
    | 10, h => cases h; exact ⟨by kernel_rfl⟩
    | f + 11, h => simp at h, ⟨by kernel_rfl⟩⟩⟩
def ty233 : TD := ⟨.st [(0, 12, 1), (1, 12, 1), (2, 203, 1), (3, 226, 1), (4, 5, 1), (5, 5, 1), (6, 227, 1), (7, 228, 1), (8, 229, 1), (9, 230, 1), (10, 231, 1)], 11, 48, true, [.int .u64 0, .int .u64 0, .int .u32 0, .int .u8 0, .int .u8 0, .int .u8 0, .int .u8 0, .nilFunc, .pointer none, .int .i32 0, .int .i32 0]⟩
theorem ty233_ok : ty233.ok Tryz.prog 233 := ⟨⟨by kernel_rfl, by kernel_rfl⟩, ⟨fun f off ft n h => by
    match f, h with
    | 0, h => cases h; exact ⟨by kernel_rfl⟩
    | 1, h => cases h; exact ⟨by kernel_rfl⟩
    | 2, h => cases h; exact ⟨by kernel_rfl⟩
    | 3, h => cases h; exact ⟨by kernel_rfl⟩
    | 4, h => cases h; exact ⟨by kernel_rfl⟩
    | 5, h => cases h; exact ⟨by kernel_rfl⟩
    | 6, h => cases h; exact ⟨by kernel_rfl⟩
    | 7, h => cases h; exact ⟨by kernel_rfl⟩
    | 8, h => cases h; exact ⟨by kernel_rfl⟩
    | 9, h => cases h; exact ⟨by kernel_rfl⟩
    | 10, h => cases h; exact ⟨by kernel_rfl⟩
    | f + 11, h => simp at h, ⟨by kernel_rfl⟩⟩⟩
def T : Ty := (.node 113 ty113 (.node 56 ty56 (.node 28 ty28 (.node 14 ty14 (.node 7 ty7 (.node 4 ty4 (.node 2 ty2 (.node 1 ty1 .leaf .leaf) (.node 3 ty3 .leaf .leaf)) (.node 6 ty6 (.node 5 ty5 .leaf .leaf) .leaf)) (.node 11 ty11 (.node 9 ty9 (.node 8 ty8 .leaf .leaf) (.node 10 ty10 .leaf .leaf)) (.node 13 ty13 (.node 12 ty12 .leaf .leaf) .leaf))) (.node 21 ty21 (.node 18 ty18 (.node 16 ty16 (.node 15 ty15 .leaf .leaf) (.node 17 ty17 .leaf .leaf)) (.node 20 ty20 (.node 19 ty19 .leaf .leaf) .leaf)) (.node 25 ty25 (.node 23 ty23 (.node 22 ty22 .leaf .leaf) (.node 24 ty24 .leaf .leaf)) (.node 27 ty27 (.node 26 ty26 .leaf .leaf) .leaf)))) (.node 43 ty43 (.node 36 ty36 (.node 33 ty33 (.node 31 ty31 (.node 29 ty29 .leaf .leaf) (.node 32 ty32 .leaf .leaf)) (.node 35 ty35 (.node 34 ty34 .leaf .leaf) .leaf)) (.node 40 ty40 (.node 38 ty38 (.node 37 ty37 .leaf .leaf) (.node 39 ty39 .leaf .leaf)) (.node 42 ty42 (.node 41 ty41 .leaf .leaf) .leaf))) (.node 50 ty50 (.node 47 ty47 (.node 45 ty45 (.node 44 ty44 .leaf .leaf) (.node 46 ty46 .leaf .leaf)) (.node 49 ty49 (.node 48 ty48 .leaf .leaf) .leaf)) (.node 53 ty53 (.node 52 ty52 (.node 51 ty51 .leaf .leaf) .leaf) (.node 55 ty55 (.node 54 ty54 .leaf .leaf) .leaf))))) (.node 85 ty85 (.node 71 ty71 (.node 64 ty64 (.node 61 ty61 (.node 58 ty58 (.node 57 ty57 .leaf .leaf) (.node 60 ty60 .leaf .leaf)) (.node 63 ty63 (.node 62 ty62 .leaf .leaf) .leaf)) (.node 68 ty68 (.node 66 ty66 (.node 65 ty65 .leaf .leaf) (.node 67 ty67 .leaf .leaf)) (.node 70 ty70 (.node 69 ty69 .leaf .leaf) .leaf))) (.node 78 ty78 (.node 75 ty75 (.node 73 ty73 (.node 72 ty72 .leaf .leaf) (.node 74 ty74 .leaf .leaf)) (.node 77 ty77 (.node 76 ty76 .leaf .leaf) .leaf)) (.node 82 ty82 (.node 80 ty80 (.node 79 ty79 .leaf .leaf) (.node 81 ty81 .leaf .leaf)) (.node 84 ty84 (.node 83 ty83 .leaf .leaf) .leaf)))) (.node 99 ty99 (.node 92 ty92 (.node 89 ty89 (.node 87 ty87 (.node 86 ty86 .leaf .leaf) (.node 88 ty88 .leaf .leaf)) (.node 91 ty91 (.node 90 ty90 .leaf .leaf) .leaf)) (.node 96 ty96 (.node 94 ty94 (.node 93 ty93 .leaf .leaf) (.node 95 ty95 .leaf .leaf)) (.node 98 ty98 (.node 97 ty97 .leaf .leaf) .leaf))) (.node 107 ty107 (.node 104 ty104 (.node 102 ty102 (.node 100 ty100 .leaf .leaf) (.node 103 ty103 .leaf .leaf)) (.node 106 ty106 (.node 105 ty105 .leaf .leaf) .leaf)) (.node 110 ty110 (.node 109 ty109 (.node 108 ty108 .leaf .leaf) .leaf) (.node 112 ty112 (.node 111 ty111 .leaf .leaf) .leaf)))))) (.node 178 ty178 (.node 149 ty149 (.node 132 ty132 (.node 120 ty120 (.node 117 ty117 (.node 115 ty115 (.node 114 ty114 .leaf .leaf) (.node 116 ty116 .leaf .leaf)) (.node 119 ty119 (.node 118 ty118 .leaf .leaf) .leaf)) (.node 126 ty126 (.node 123 ty123 (.node 122 ty122 .leaf .leaf) (.node 125 ty125 .leaf .leaf)) (.node 130 ty130 (.node 128 ty128 .leaf .leaf) .leaf))) (.node 142 ty142 (.node 138 ty138 (.node 135 ty135 (.node 134 ty134 .leaf .leaf) (.node 137 ty137 .leaf .leaf)) (.node 141 ty141 (.node 140 ty140 .leaf .leaf) .leaf)) (.node 146 ty146 (.node 144 ty144 (.node 143 ty143 .leaf .leaf) (.node 145 ty145 .leaf .leaf)) (.node 148 ty148 (.node 147 ty147 .leaf .leaf) .leaf)))) (.node 164 ty164 (.node 157 ty157 (.node 154 ty154 (.node 152 ty152 (.node 150 ty150 .leaf .leaf) (.node 153 ty153 .leaf .leaf)) (.node 156 ty156 (.node 155 ty155 .leaf .leaf) .leaf)) (.node 161 ty161 (.node 159 ty159 (.node 158 ty158 .leaf .leaf) (.node 160 ty160 .leaf .leaf)) (.node 163 ty163 (.node 162 ty162 .leaf .leaf) .leaf))) (.node 171 ty171 (.node 168 ty168 (.node 166 ty166 (.node 165 ty165 .leaf .leaf) (.node 167 ty167 .leaf .leaf)) (.node 170 ty170 (.node 169 ty169 .leaf .leaf) .leaf)) (.node 174 ty174 (.node 173 ty173 (.node 172 ty172 .leaf .leaf) .leaf) (.node 176 ty176 (.node 175 ty175 .leaf .leaf) .leaf))))) (.node 206 ty206 (.node 192 ty192 (.node 185 ty185 (.node 182 ty182 (.node 180 ty180 (.node 179 ty179 .leaf .leaf) (.node 181 ty181 .leaf .leaf)) (.node 184 ty184 (.node 183 ty183 .leaf .leaf) .leaf)) (.node 189 ty189 (.node 187 ty187 (.node 186 ty186 .leaf .leaf) (.node 188 ty188 .leaf .leaf)) (.node 191 ty191 (.node 190 ty190 .leaf .leaf) .leaf))) (.node 200 ty200 (.node 196 ty196 (.node 194 ty194 (.node 193 ty193 .leaf .leaf) (.node 195 ty195 .leaf .leaf)) (.node 199 ty199 (.node 198 ty198 .leaf .leaf) .leaf)) (.node 203 ty203 (.node 202 ty202 (.node 201 ty201 .leaf .leaf) .leaf) (.node 205 ty205 (.node 204 ty204 .leaf .leaf) .leaf)))) (.node 221 ty221 (.node 213 ty213 (.node 210 ty210 (.node 208 ty208 (.node 207 ty207 .leaf .leaf) (.node 209 ty209 .leaf .leaf)) (.node 212 ty212 (.node 211 ty211 .leaf .leaf) .leaf)) (.node 217 ty217 (.node 215 ty215 (.node 214 ty214 .leaf .leaf) (.node 216 ty216 .leaf .leaf)) (.node 220 ty220 (.node 219 ty219 .leaf .leaf) .leaf))) (.node 228 ty228 (.node 225 ty225 (.node 223 ty223 (.node 222 ty222 .leaf .leaf) (.node 224 ty224 .leaf .leaf)) (.node 227 ty227 (.node 226 ty226 .leaf .leaf) .leaf)) (.node 231 ty231 (.node 230 ty230 (.node 229 ty229 .leaf .leaf) .leaf) (.node 233 ty233 (.node 232 ty232 .leaf .leaf) .leaf)))))))
theorem T_ok : T.ok Tryz.prog := Ty.ok_of (show T.All Tryz.prog from ⟨ty113_ok, ⟨ty56_ok, ⟨ty28_ok, ⟨ty14_ok, ⟨ty7_ok, ⟨ty4_ok, ⟨ty2_ok, ⟨ty1_ok, trivial, trivial⟩, ⟨ty3_ok, trivial, trivial⟩⟩, ⟨ty6_ok, ⟨ty5_ok, trivial, trivial⟩, trivial⟩⟩, ⟨ty11_ok, ⟨ty9_ok, ⟨ty8_ok, trivial, trivial⟩, ⟨ty10_ok, trivial, trivial⟩⟩, ⟨ty13_ok, ⟨ty12_ok, trivial, trivial⟩, trivial⟩⟩⟩, ⟨ty21_ok, ⟨ty18_ok, ⟨ty16_ok, ⟨ty15_ok, trivial, trivial⟩, ⟨ty17_ok, trivial, trivial⟩⟩, ⟨ty20_ok, ⟨ty19_ok, trivial, trivial⟩, trivial⟩⟩, ⟨ty25_ok, ⟨ty23_ok, ⟨ty22_ok, trivial, trivial⟩, ⟨ty24_ok, trivial, trivial⟩⟩, ⟨ty27_ok, ⟨ty26_ok, trivial, trivial⟩, trivial⟩⟩⟩⟩, ⟨ty43_ok, ⟨ty36_ok, ⟨ty33_ok, ⟨ty31_ok, ⟨ty29_ok, trivial, trivial⟩, ⟨ty32_ok, trivial, trivial⟩⟩, ⟨ty35_ok, ⟨ty34_ok, trivial, trivial⟩, trivial⟩⟩, ⟨ty40_ok, ⟨ty38_ok, ⟨ty37_ok, trivial, trivial⟩, ⟨ty39_ok, trivial, trivial⟩⟩, ⟨ty42_ok, ⟨ty41_ok, trivial, trivial⟩, trivial⟩⟩⟩, ⟨ty50_ok, ⟨ty47_ok, ⟨ty45_ok, ⟨ty44_ok, trivial, trivial⟩, ⟨ty46_ok, trivial, trivial⟩⟩, ⟨ty49_ok, ⟨ty48_ok, trivial, trivial⟩, trivial⟩⟩, ⟨ty53_ok, ⟨ty52_ok, ⟨ty51_ok, trivial, trivial⟩, trivial⟩, ⟨ty55_ok, ⟨ty54_ok, trivial, trivial⟩, trivial⟩⟩⟩⟩⟩, ⟨ty85_ok, ⟨ty71_ok, ⟨ty64_ok, ⟨ty61_ok, ⟨ty58_ok, ⟨ty57_ok, trivial, trivial⟩, ⟨ty60_ok, trivial, trivial⟩⟩, ⟨ty63_ok, ⟨ty62_ok, trivial, trivial⟩, trivial⟩⟩, ⟨ty68_ok, ⟨ty66_ok, ⟨ty65_ok, trivial, trivial⟩, ⟨ty67_ok, trivial, trivial⟩⟩, ⟨ty70_ok, ⟨ty69_ok, trivial, trivial⟩, trivial⟩⟩⟩, ⟨ty78_ok, ⟨ty75_ok, ⟨ty73_ok, ⟨ty72_ok, trivial, trivial⟩, ⟨ty74_ok, trivial, trivial⟩⟩, ⟨ty77_ok, ⟨ty76_ok, trivial, trivial⟩, trivial⟩⟩, ⟨ty82_ok, ⟨ty80_ok, ⟨ty79_ok, trivial, trivial⟩, ⟨ty81_ok, trivial, trivial⟩⟩, ⟨ty84_ok, ⟨ty83_ok, trivial, trivial⟩, trivial⟩⟩⟩⟩, ⟨ty99_ok, ⟨ty92_ok, ⟨ty89_ok, ⟨ty87_ok, ⟨ty86_ok, trivial, trivial⟩, ⟨ty88_ok, trivial, trivial⟩⟩, ⟨ty91_ok, ⟨ty90_ok, trivial, trivial⟩, trivial⟩⟩, ⟨ty96_ok, ⟨ty94_ok, ⟨ty93_ok, trivial, trivial⟩, ⟨ty95_ok, trivial, trivial⟩⟩, ⟨ty98_ok, ⟨ty97_ok, trivial, trivial⟩, trivial⟩⟩⟩, ⟨ty107_ok, ⟨ty104_ok, ⟨ty102_ok, ⟨ty100_ok, trivial, trivial⟩, ⟨ty103_ok, trivial, trivial⟩⟩, ⟨ty106_ok, ⟨ty105_ok, trivial, trivial⟩, trivial⟩⟩, ⟨ty110_ok, ⟨ty109_ok, ⟨ty108_ok, trivial, trivial⟩, trivial⟩, ⟨ty112_ok, ⟨ty111_ok, trivial, trivial⟩, trivial⟩⟩⟩⟩⟩⟩, ⟨ty178_ok, ⟨ty149_ok, ⟨ty132_ok, ⟨ty120_ok, ⟨ty117_ok, ⟨ty115_ok, ⟨ty114_ok, trivial, trivial⟩, ⟨ty116_ok, trivial, trivial⟩⟩, ⟨ty119_ok, ⟨ty118_ok, trivial, trivial⟩, trivial⟩⟩, ⟨ty126_ok, ⟨ty123_ok, ⟨ty122_ok, trivial, trivial⟩, ⟨ty125_ok, trivial, trivial⟩⟩, ⟨ty130_ok, ⟨ty128_ok, trivial, trivial⟩, trivial⟩⟩⟩, ⟨ty142_ok, ⟨ty138_ok, ⟨ty135_ok, ⟨ty134_ok, trivial, trivial⟩, ⟨ty137_ok, trivial, trivial⟩⟩, ⟨ty141_ok, ⟨ty140_ok, trivial, trivial⟩, trivial⟩⟩, ⟨ty146_ok, ⟨ty144_ok, ⟨ty143_ok, trivial, trivial⟩, ⟨ty145_ok, trivial, trivial⟩⟩, ⟨ty148_ok, ⟨ty147_ok, trivial, trivial⟩, trivial⟩⟩⟩⟩, ⟨ty164_ok, ⟨ty157_ok, ⟨ty154_ok, ⟨ty152_ok, ⟨ty150_ok, trivial, trivial⟩, ⟨ty153_ok, trivial, trivial⟩⟩, ⟨ty156_ok, ⟨ty155_ok, trivial, trivial⟩, trivial⟩⟩, ⟨ty161_ok, ⟨ty159_ok, ⟨ty158_ok, trivial, trivial⟩, ⟨ty160_ok, trivial, trivial⟩⟩, ⟨ty163_ok, ⟨ty162_ok, trivial, trivial⟩, trivial⟩⟩⟩, ⟨ty171_ok, ⟨ty168_ok, ⟨ty166_ok, ⟨ty165_ok, trivial, trivial⟩, ⟨ty167_ok, trivial, trivial⟩⟩, ⟨ty170_ok, ⟨ty169_ok, trivial, trivial⟩, trivial⟩⟩, ⟨ty174_ok, ⟨ty173_ok, ⟨ty172_ok, trivial, trivial⟩, trivial⟩, ⟨ty176_ok, ⟨ty175_ok, trivial, trivial⟩, trivial⟩⟩⟩⟩⟩, ⟨ty206_ok, ⟨ty192_ok, ⟨ty185_ok, ⟨ty182_ok, ⟨ty180_ok, ⟨ty179_ok, trivial, trivial⟩, ⟨ty181_ok, trivial, trivial⟩⟩, ⟨ty184_ok, ⟨ty183_ok, trivial, trivial⟩, trivial⟩⟩, ⟨ty189_ok, ⟨ty187_ok, ⟨ty186_ok, trivial, trivial⟩, ⟨ty188_ok, trivial, trivial⟩⟩, ⟨ty191_ok, ⟨ty190_ok, trivial, trivial⟩, trivial⟩⟩⟩, ⟨ty200_ok, ⟨ty196_ok, ⟨ty194_ok, ⟨ty193_ok, trivial, trivial⟩, ⟨ty195_ok, trivial, trivial⟩⟩, ⟨ty199_ok, ⟨ty198_ok, trivial, trivial⟩, trivial⟩⟩, ⟨ty203_ok, ⟨ty202_ok, ⟨ty201_ok, trivial, trivial⟩, trivial⟩, ⟨ty205_ok, ⟨ty204_ok, trivial, trivial⟩, trivial⟩⟩⟩⟩, ⟨ty221_ok, ⟨ty213_ok, ⟨ty210_ok, ⟨ty208_ok, ⟨ty207_ok, trivial, trivial⟩, ⟨ty209_ok, trivial, trivial⟩⟩, ⟨ty212_ok, ⟨ty211_ok, trivial, trivial⟩, trivial⟩⟩, ⟨ty217_ok, ⟨ty215_ok, ⟨ty214_ok, trivial, trivial⟩, ⟨ty216_ok, trivial, trivial⟩⟩, ⟨ty220_ok, ⟨ty219_ok, trivial, trivial⟩, trivial⟩⟩⟩, ⟨ty228_ok, ⟨ty225_ok, ⟨ty223_ok, ⟨ty222_ok, trivial, trivial⟩, ⟨ty224_ok, trivial, trivial⟩⟩, ⟨ty227_ok, ⟨ty226_ok, trivial, trivial⟩, trivial⟩⟩, ⟨ty231_ok, ⟨ty230_ok, ⟨ty229_ok, trivial, trivial⟩, trivial⟩, ⟨ty233_ok, ⟨ty232_ok, trivial, trivial⟩, trivial⟩⟩⟩⟩⟩⟩⟩)
theorem T_mix : (Tryz.prog).follows .mixedOrders = true := by kernel_rfl
noncomputable abbrev P : Program := Tryz.prog
end Go.Proofs.YtpmchgndnhgncaaGreat.Pv
namespace Go.Proofs.YtpmchgndnhgncaaGreat.Pv
open Go
def trimL (l : List Nat) : List Nat := (l.reverse.dropWhile (· == 0)).reverse
theorem trimL_snoc0 (l : List Nat) : trimL (l ++ [0]) = trimL l := by simp [trimL]
theorem trimL_snoc (l : List Nat) {x : Nat} (h : x ≠ 0) : trimL (l ++ [x]) = l ++ [x] := by simp [trimL, h]
theorem trimL_cons (x : Nat) (l : List Nat) : trimL (x :: l) = if trimL l = [] ∧ x = 0 then [] else x :: trimL l := by
  unfold trimL
  rw [List.reverse_cons, List.dropWhile_append]
  cases h : (l.reverse.dropWhile (· == 0)) with
  | nil =>
    by_cases hx : x = 0
    · simp [hx]
    · simp [hx]
  | cons y m => simp
theorem trimL_take (l : List Nat) {n : Nat} (hn : n ≤ l.length) (h0 : trimL l = trimL (l.take n)) (h1 : n = 0 ∨ l.getD (n - 1) 0 ≠ 0) : l.take n = trimL l := by
  rw [h0]
  by_cases hz : n = 0
  · subst hz; simp [trimL]
  · have h1 := h1.resolve_left hz
    obtain ⟨m, rfl⟩ : ∃ m, n = m + 1 := ⟨n - 1, by omega⟩
    have hm : m < l.length := by omega
    simp only [Nat.add_sub_cancel, List.getD_eq_getElem?_getD, List.getElem?_eq_getElem hm, Option.getD_some] at h1
    rw [List.take_succ_eq_append_getElem hm, trimL_snoc _ h1]
theorem trimL_step (l : List Nat) {n : Nat} (hn : n + 1 ≤ l.length) (h0 : l.getD n 0 = 0) : trimL (l.take (n + 1)) = trimL (l.take n) := by
  have hm : n < l.length := by omega
  simp only [List.getD_eq_getElem?_getD, List.getElem?_eq_getElem hm, Option.getD_some] at h0
  rw [List.take_succ_eq_append_getElem hm, h0, trimL_snoc0]
def val (B : Nat) : List Nat → Nat
  | [] => 0
  | x :: l => x + B * val B l
theorem val_app (B : Nat) : ∀ (l m : List Nat), val B (l ++ m) = val B l + B ^ l.length * val B m
  | [], m => by simp [val]
  | x :: l, m => by
    simp only [List.cons_append, val, val_app B l m, List.length_cons, Nat.pow_succ, Nat.mul_add]
    rw [Nat.mul_comm (B ^ l.length) B, Nat.mul_assoc, Nat.add_assoc]
theorem val_snoc (B : Nat) (l : List Nat) (x : Nat) : val B (l ++ [x]) = val B l + B ^ l.length * x := by
  rw [val_app]; simp [val]
def Dig (B : Nat) (l : List Nat) : Prop := ∀ x, x ∈ l → x < B
theorem Dig.nil {B : Nat} : Dig B [] := by intro x h; cases h
theorem Dig.cons {B x : Nat} {l : List Nat} (hx : x < B) (h : Dig B l) : Dig B (x :: l) := by
  intro y hy
  simp only [List.mem_cons] at hy
  rcases hy with rfl | hy
  · exact hx
  · exact h y hy
theorem Dig.app {B : Nat} {l m : List Nat} (h : Dig B l) (h' : Dig B m) : Dig B (l ++ m) := by
  intro y hy
  rcases List.mem_append.1 hy with hy | hy
  · exact h y hy
  · exact h' y hy
theorem Dig.snoc {B x : Nat} {l : List Nat} (h : Dig B l) (hx : x < B) : Dig B (l ++ [x]) := h.app (.cons hx .nil)
theorem Dig.tail {B x : Nat} {l : List Nat} (h : Dig B (x :: l)) : Dig B l := fun y hy => h y (by simp [hy])
theorem Dig.take {B n : Nat} {l : List Nat} (h : Dig B l) : Dig B (l.take n) := fun y hy => h y (List.mem_of_mem_take hy)
theorem Dig.drop {B n : Nat} {l : List Nat} (h : Dig B l) : Dig B (l.drop n) := fun y hy => h y (List.mem_of_mem_drop hy)
theorem Dig.set {B i x : Nat} {l : List Nat} (h : Dig B l) (hx : x < B) : Dig B (l.set i x) := fun y hy => by
  rcases List.mem_or_eq_of_mem_set hy with hy | rfl
  · exact h y hy
  · exact hx
theorem Dig.getD {B : Nat} {l : List Nat} (h : Dig B l) (hB : 0 < B) (i : Nat) : l.getD i 0 < B := by
  rw [List.getD_eq_getElem?_getD]
  cases hi : l[i]? with
  | none => exact hB
  | some x => exact h x (List.mem_of_getElem? hi)
theorem val_lt {B : Nat} (hB : 0 < B) : ∀ {l : List Nat}, Dig B l → val B l < B ^ l.length
  | [], _ => by simp [val]
  | x :: l, h => by
    have h1 := val_lt hB h.tail
    have h2 := h x (by simp)
    simp only [val, List.length_cons, Nat.pow_succ]
    have : B * (val B l + 1) ≤ B * B ^ l.length := Nat.mul_le_mul_left _ h1
    rw [Nat.mul_add, Nat.mul_one] at this
    rw [Nat.mul_comm (B ^ l.length)]
    omega
theorem val_take (B : Nat) (l : List Nat) (n : Nat) : val B l = val B (l.take n) + B ^ (min n l.length) * val B (l.drop n) := by
  conv => lhs; rw [← List.take_append_drop n l]
  rw [val_app, List.length_take]
theorem val_take_succ (B : Nat) (l : List Nat) (n : Nat) : val B (l.take (n + 1)) = val B (l.take n) + B ^ n * l.getD n 0 := by
  by_cases hn : n < l.length
  · rw [List.take_succ_eq_append_getElem hn, val_snoc, List.length_take, Nat.min_eq_left (by omega)]
    simp [List.getD_eq_getElem?_getD, hn]
  · rw [List.take_of_length_le (by omega), List.take_of_length_le (by omega)]
    have : l.getD n 0 = 0 := by simp [List.getD_eq_getElem?_getD, List.getElem?_eq_none (by omega : l.length ≤ n)]
    rw [this]; simp
theorem val_take_set (B : Nat) (l : List Nat) {i v : Nat} (h : i < l.length) : val B ((l.set i v).take (i + 1)) = val B (l.take i) + B ^ i * v := by
  rw [val_take_succ]
  have e1 : (l.set i v).take i = l.take i := by rw [List.take_set_of_le (Nat.le_refl _)]
  have e2 : (l.set i v).getD i 0 = v := by simp [List.getD_eq_getElem?_getD, h]
  rw [e1, e2]
theorem val_take_all {B : Nat} {l : List Nat} {n : Nat} (h : l.length ≤ n) : val B (l.take n) = val B l := by rw [List.take_of_length_le h]
theorem val_set {B : Nat} : ∀ {l : List Nat} {i x : Nat}, i < l.length → val B (l.set i x) + B ^ i * l.getD i 0 = val B l + B ^ i * x
  | [], i, x, h => by simp at h
  | y :: l, 0, x, _ => by simp [val]; omega
  | y :: l, i + 1, x, h => by
    have := val_set (B := B) (l := l) (i := i) (x := x) (by simpa using h)
    simp only [List.set_cons_succ, val, List.getD_cons_succ, Nat.pow_succ]
    have h2 : B * (val B (l.set i x) + B ^ i * l.getD i 0) = B * (val B l + B ^ i * x) := by rw [this]
    simp only [Nat.mul_add] at h2
    rw [Nat.mul_comm (B ^ i) B, Nat.mul_assoc, Nat.mul_assoc]
    omega
theorem val_rep (B n : Nat) : val B (List.replicate n 0) = 0 := by
  induction n with
  | zero => rfl
  | succ n ih => simp [List.replicate_succ, val, ih]
def dg (B n : Nat) : List Nat := if _h : n = 0 ∨ B < 2 then [] else n % B :: dg B (n / B)
  termination_by n
  decreasing_by exact Nat.div_lt_self (by omega) (by omega)
theorem dg_zero (B : Nat) : dg B 0 = [] := by rw [dg]; simp
theorem dg_pos {B n : Nat} (hB : 2 ≤ B) (hn : n ≠ 0) : dg B n = n % B :: dg B (n / B) := by
  rw [dg, dif_neg (by omega)]
theorem dg_cons {B x v : Nat} (hB : 2 ≤ B) (hx : x < B) : dg B (x + B * v) = if x + B * v = 0 then [] else x :: dg B v := by
  by_cases h : x + B * v = 0
  · rw [if_pos h, h, dg_zero]
  · rw [if_neg h, dg_pos hB h]
    rw [Nat.add_mul_mod_self_left, Nat.mod_eq_of_lt hx, Nat.add_mul_div_left _ _ (by omega), Nat.div_eq_of_lt hx, Nat.zero_add]
theorem dg_nil {B n : Nat} (hB : 2 ≤ B) : dg B n = [] ↔ n = 0 := by
  constructor
  · intro h
    rcases Nat.eq_zero_or_pos n with h0 | h0
    · exact h0
    · rw [dg_pos hB (by omega)] at h; cases h
  · rintro rfl; exact dg_zero B
theorem trim_dg {B : Nat} (hB : 2 ≤ B) : ∀ {l : List Nat}, Dig B l → trimL l = dg B (val B l)
  | [], _ => by simp [trimL, val, dg_zero]
  | x :: l, h => by
    have ih := trim_dg hB h.tail
    have hx := h x (by simp)
    rw [trimL_cons, val, dg_cons hB hx, ih]
    by_cases h1 : val B l = 0
    · rw [h1]
      simp only [dg_zero, true_and, Nat.mul_zero, Nat.add_zero]
    · have h2 : ¬ (x + B * val B l = 0) := by
        have : B * val B l ≠ 0 := Nat.mul_ne_zero (by omega) h1
        omega
      rw [if_neg h2, if_neg]
      intro ⟨h3, _⟩
      exact h1 ((dg_nil hB).1 h3)
theorem val_dg {B : Nat} (hB : 2 ≤ B) (n : Nat) : val B (dg B n) = n := by
  induction n using Nat.strongRecOn with
  | _ n ih =>
    rcases Nat.eq_zero_or_pos n with rfl | h
    · rw [dg_zero]; rfl
    · rw [dg_pos hB (by omega), val, ih _ (Nat.div_lt_self h (by omega))]
      exact Nat.mod_add_div n B
theorem dig_dg {B : Nat} (hB : 2 ≤ B) (n : Nat) : Dig B (dg B n) := by
  induction n using Nat.strongRecOn with
  | _ n ih =>
    rcases Nat.eq_zero_or_pos n with rfl | h
    · rw [dg_zero]; exact .nil
    · rw [dg_pos hB (by omega)]
      exact .cons (Nat.mod_lt _ (by omega)) (ih _ (Nat.div_lt_self h (by omega)))
theorem dg_len {B : Nat} (hB : 2 ≤ B) : ∀ {k n : Nat}, n < B ^ k → (dg B n).length ≤ k
  | 0, n, h => by
    have : n = 0 := by simpa using h
    subst this; rw [dg_zero]; simp
  | k + 1, n, h => by
    rcases Nat.eq_zero_or_pos n with rfl | h0
    · rw [dg_zero]; simp
    · rw [dg_pos hB (by omega), List.length_cons]
      have := dg_len hB (k := k) (n := n / B) (by rw [Nat.div_lt_iff_lt_mul (by omega)]; rw [Nat.pow_succ] at h; exact h)
      omega
theorem lt_dg_len {B : Nat} (hB : 2 ≤ B) (n : Nat) : n < B ^ (dg B n).length := by
  have := val_lt (by omega : 0 < B) (dig_dg hB n)
  rwa [val_dg hB] at this
theorem dg_len_mono {B : Nat} (hB : 2 ≤ B) {m n : Nat} (h : m ≤ n) : (dg B m).length ≤ (dg B n).length := dg_len hB (Nat.lt_of_le_of_lt h (lt_dg_len hB n))
theorem dg_last {B : Nat} (hB : 2 ≤ B) {n : Nat} (h : n ≠ 0) : B ^ ((dg B n).length - 1) ≤ n := by
  apply Nat.le_of_not_lt
  intro hlt
  have := dg_len hB hlt
  have h1 : (dg B n).length ≠ 0 := by
    intro h0
    exact h ((dg_nil hB).1 (List.length_eq_zero_iff.1 h0))
  omega
theorem dg_len_lt {B : Nat} (hB : 2 ≤ B) {m n : Nat} (h : (dg B m).length < (dg B n).length) : m < n := by
  apply Nat.lt_of_not_le
  intro hle
  have := dg_len_mono hB hle
  omega
theorem val_lt_of {B : Nat} (hB : 2 ≤ B) {l m : List Nat} {i : Nat} (hl : Dig B l) (hlen : l.length = m.length) (hi : i < l.length) (hd : l.drop (i + 1) = m.drop (i + 1)) (hlt : l.getD i 0 < m.getD i 0) : val B l < val B m := by
  rw [val_take B l (i + 1), val_take B m (i + 1), hd, val_take_succ, val_take_succ, ← hlen]
  have h1 := val_lt (by omega : 0 < B) (hl.take (n := i))
  rw [List.length_take, Nat.min_eq_left (by omega)] at h1
  have h2 : B ^ i * (l.getD i 0 + 1) ≤ B ^ i * m.getD i 0 := Nat.mul_le_mul_left _ hlt
  rw [Nat.mul_add, Nat.mul_one] at h2
  omega
end Go.Proofs.YtpmchgndnhgncaaGreat.Pv
namespace Go.Proofs.YtpmchgndnhgncaaGreat.Pv
open Go
theorem nanI_ct (n : Int) : Ct P 141 [.c (eI .i64 n)] [.c (.sc (.bool false))] := by
  refine Ct.go T_ok T_mix (N := 6) Tryz.func141 rfl rfl rfl rfl ?_
  have e : (n != n) = false := by simp
  exact ⟨trivial, r1 (by rw [← e]; rfl), trivial⟩
theorem nanU_ct (n : Int) : Ct P 142 [.c (eI .u64 n)] [.c (.sc (.bool false))] := by
  refine Ct.go T_ok T_mix (N := 6) Tryz.func142 rfl rfl rfl rfl ?_
  have e : (n != n) = false := by simp
  exact ⟨trivial, r1 (by rw [← e]; rfl), trivial⟩
def cmpI (a b : Int) : Int := if a < b then -1 else if b < a then 1 else 0
theorem cmpI_ct (a b : Int) : Ct P 103 [.c (eI .i64 a), .c (eI .i64 b)] [.c (eI .i64 (cmpI a b))] := by
  refine Ct.go T_ok T_mix (N := 20) Tryz.func103 rfl rfl rfl rfl ?_
  refine X1 _ (nanI_ct a) ?_
  refine X1 _ (nanI_ct b) ?_
  refine dcase (fun h => ?_) (fun h => ?_)
  · exact ⟨trivial, r1 (iE (by rw [cmpI, if_pos h])), trivial⟩
  · refine dcase (fun h2 => ?_) (fun h2 => ?_)
    · exact ⟨trivial, r1 (iE (by rw [cmpI, if_neg h, if_pos h2])), trivial⟩
    · exact ⟨trivial, r1 (iE (by rw [cmpI, if_neg h, if_neg h2])), trivial⟩
theorem cmpU_ct (a b : Int) : Ct P 104 [.c (eI .u64 a), .c (eI .u64 b)] [.c (eI .i64 (cmpI a b))] := by
  refine Ct.go T_ok T_mix (N := 20) Tryz.func104 rfl rfl rfl rfl ?_
  refine X1 _ (nanU_ct a) ?_
  refine X1 _ (nanU_ct b) ?_
  refine dcase (fun h => ?_) (fun h => ?_)
  · exact ⟨trivial, r1 (iE (by rw [cmpI, if_pos h])), trivial⟩
  · refine dcase (fun h2 => ?_) (fun h2 => ?_)
    · exact ⟨trivial, r1 (iE (by rw [cmpI, if_neg h, if_pos h2])), trivial⟩
    · exact ⟨trivial, r1 (iE (by rw [cmpI, if_neg h, if_neg h2])), trivial⟩
theorem Ct.ans3 {P : Program} {f : FuncId} {a b c : Value} {r s : PC} {v : Value} (hr : ∀ w, (callFunc f #[a, b, c]).run P w = .ok (.value v) w) (hv : ∀ K ok w, RelV K ok w (retV [.c r, .c s]) v) : Ct P f [.c (.sc a), .c (.sc b), .c (.sc c)] [.c r, .c s] := by
  refine ⟨fun K ok w vs hp hrel => .inr ?_⟩
  obtain ⟨v1, us, rfl, h1, hrel⟩ := hrel.head
  obtain ⟨v2, us, rfl, h2, hrel⟩ := hrel.head
  obtain ⟨v3, us, rfl, h3, hrel⟩ := hrel.head
  have : us = [] := by have := hrel.len; simpa using this
  subst this
  have e1 := (RelV.o h1).sc.1
  have e2 := (RelV.o h2).sc.1
  have e3 := (RelV.o h3).sc.1
  subst e1 e2 e3
  exact ⟨v, w, hr w, v, K, ok, rfl, hv K ok w, hp, Fr.refl _ _ _ _⟩
theorem pairRel {K : Km} {ok : Nat → Prop} {w : World} {k k' : IntKind} {a b : Int} (ha : inR k a) (hb : inR k' b) : RelV K ok w (retV [.c (eI k a), .c (eI k' b)]) (.tuple #[.int k a, .int k' b]) :=
  .tup (RelAs.cons (.c (.cl (.sc ha))) (RelAs.cons (.c (.cl (.sc hb))) RelAs.nil))
theorem add64_ct (x y c : Nat) (hx : x < 18446744073709551616) (hy : y < 18446744073709551616) (hc : c ≤ 1) : Ct P 79 [.c (nI .u64 x), .c (nI .u64 y), .c (nI .u64 c)] [.c (nI .u64 ((x + y + c) % 18446744073709551616)), .c (nI .u64 ((x + y + c) / 18446744073709551616))] := by
  refine Ct.ans3 (fun w => ?_) (fun K ok w => pairRel (k := .u64) (k' := .u64) ⟨by omega, by omega⟩ ⟨by omega, by omega⟩)
  rw [run_callFunc_extern Tryz.func79 (by kernel_rfl) (by kernel_rfl) (by kernel_rfl) (e := add64Entry) (by kernel_rfl), run_add64 x y c (by omega) (by omega) (by omega) (by omega)]
  simp only [Result.andThen]
  congr 5 <;> omega
theorem sub64_ct (x y b : Nat) (hx : x < 18446744073709551616) (hy : y < 18446744073709551616) (hb : b ≤ 1) : Ct P 131 [.c (nI .u64 x), .c (nI .u64 y), .c (nI .u64 b)] [.c (nI .u64 ((x + 18446744073709551616 - y - b) % 18446744073709551616)), .c (nI .u64 (if x < y + b then 1 else 0))] := by
  refine Ct.ans3 (fun w => ?_) (fun K ok w => pairRel (k := .u64) (k' := .u64) ⟨by omega, by omega⟩ ⟨by split <;> omega, by split <;> omega⟩)
  rw [run_callFunc_extern Tryz.func131 (by kernel_rfl) (by kernel_rfl) (by kernel_rfl) (e := sub64Entry) (by kernel_rfl), run_sub64 x y b hb]
  rfl
abbrev nV (n : Nat) : A1 := .ag [nSl .u64 (dg 18446744073709551616 n)]
theorem ntrim_ct (l : List Nat) (hl : l.length ≤ 1000000) : Ct P 76 [.c (nSl .u64 l)] [.ag [nSl .u64 (trimL l)]] := by
  refine Ct.go T_ok T_mix (N := 22) Tryz.func76 rfl rfl rfl rfl ?_
  refine loopJ T_ok T_mix (fun m : List Nat => m.length ≤ l.length ∧ trimL l = trimL m) (fun m => [(0, .c (nSl .u64 m)), (2, .c (.ad 2 0))]) (fun _ => [(2, .var [.sc (.slice none 0 0)])]) (fun m => m.length) l ⟨Nat.le_refl _, rfl⟩ ⟨rfl, rfl, trivial⟩ ⟨rfl, trivial⟩
    (fun _ : Unit => True) (fun _ => [(0, .c (nSl .u64 (trimL l))), (2, .c (.ad 2 0))]) (fun _ => [(2, .var [.sc (.slice none 0 0)])]) (fun m hm => ?_) (fun _ _ => ?_)
  · obtain ⟨h1, h2⟩ := hm
    refine And.intro (by rw [nRow_len]; omega) ?_
    rw [nRow_len]
    refine dcase (fun h => ?_) (fun h => ?_)
    · refine And.intro (by rw [nRow_len]; omega) ?_
      rw [nRow_len]
      obtain ⟨k, hk⟩ : ∃ k, m.length = k + 1 := ⟨m.length - 1, by omega⟩
      refine X1 (k : Int) (wI (by omega) (by omega) (by omega)) ?_
      refine And.intro (by omega) (X1 _ (nRow_getN rfl (by omega)) ?_)
      refine ecase (fun h3 => ?_) (fun h3 => ?_)
      · refine And.intro (by rw [nRow_len]; omega) ?_
        rw [nRow_len]
        refine X1 (k : Int) (wI (by omega) (by omega) (by omega)) ?_
        refine ⟨0, k, rfl, rfl, by omega, by rw [nRow_len]; omega, ?_⟩
        have := trimL_step m (n := k) (by omega) (by omega)
        rw [← hk, List.take_length] at this
        exact ⟨m.take k, ⟨by simp; omega, h2.trans this⟩, by simp; omega, ⟨toSl (by rw [nRow_sub]; rfl), rfl, trivial⟩, ⟨rfl, trivial⟩⟩
      · have e : m = trimL l := by
          rw [h2, ← trimL_take m (n := m.length) (Nat.le_refl _) (by rw [List.take_length]) (.inr (by rw [hk]; simpa using h3)), List.take_length]
        exact ⟨(), trivial, ⟨toSl (by rw [e]), rfl, trivial⟩, ⟨rfl, trivial⟩⟩
    · have e : m = trimL l := by
        have : m = [] := List.length_eq_zero_iff.1 (by omega)
        rw [h2, this]; rfl
      exact ⟨(), trivial, ⟨toSl (by rw [e]), rfl, trivial⟩, ⟨rfl, trivial⟩⟩
  · exact ⟨trivial, rc rfl, trivial⟩
theorem nof_ct (v : Nat) (hv : v < 18446744073709551616) : Ct P 36 [.c (nI .u64 v)] [nV v] := by
  refine Ct.go T_ok T_mix (N := 6) Tryz.func36 rfl rfl rfl rfl ?_
  refine X2 .frz ?_
  have h := ntrim_ct [v] (by simp)
  rw [trim_dg (B := 18446744073709551616) (by omega) (Dig.cons hv .nil)] at h
  have e : val 18446744073709551616 [v] = v := by simp [val]
  rw [e] at h
  refine X1 _ h ?_
  exact ⟨trivial, rc rfl, trivial⟩
theorem nzero_ct (n : Nat) (hn : (dg 18446744073709551616 n).length ≤ 1000000) : Ct P 57 [nV n] [.c (.sc (.bool (n == 0)))] := by
  refine Ct.go T_ok T_mix (N := 7) Tryz.func57 rfl rfl rfl rfl ?_
  refine And.intro (by rw [nRow_len]; omega) ?_
  have e : ((((nRow .u64 (dg 18446744073709551616 n)).length : Nat) : Int) == 0) = (n == 0) := by
    rw [nRow_len]
    have := dg_nil (B := 18446744073709551616) (n := n) (by omega)
    rw [← List.length_eq_zero_iff] at this
    rw [Bool.eq_iff_iff]
    simp only [beq_iff_eq]
    omega
  exact ⟨trivial, r1 (by rw [← e]; rfl), trivial⟩
theorem ncmp_ct (a b : Nat) (ha : (dg 18446744073709551616 a).length ≤ 1000000) (hb : (dg 18446744073709551616 b).length ≤ 1000000) : Ct P 59 [nV a, nV b] [.c (eI .i64 (cmpI a b))] := by
  refine Ct.go T_ok T_mix (N := 40) Tryz.func59 rfl rfl rfl rfl ?_
  refine And.intro (by rw [nRow_len]; omega) ?_
  refine And.intro (by rw [nRow_len]; omega) ?_
  rw [nRow_len, nRow_len]
  refine X1 _ (cmpI_ct _ _) ?_
  refine ncase (fun h => ?_) (fun h => ?_)
  · have e : cmpI ((dg 18446744073709551616 a).length : Int) (dg 18446744073709551616 b).length = cmpI a b := by
      unfold cmpI at h ⊢
      split at h
      · rename_i h1
        have : a < b := dg_len_lt (B := 18446744073709551616) (by omega) (by omega)
        rw [if_pos h1, if_pos (by omega)]
      · split at h
        · rename_i h1 h2
          have : b < a := dg_len_lt (B := 18446744073709551616) (by omega) (by omega)
          rw [if_neg h1, if_pos h2, if_neg (by omega), if_pos (by omega)]
        · exact absurd rfl h
    exact ⟨trivial, r1 (iE e), trivial⟩
  · have hlen : (dg 18446744073709551616 a).length = (dg 18446744073709551616 b).length := by
      unfold cmpI at h
      split at h
      · omega
      · split at h <;> omega
    refine And.intro (by rw [nRow_len]; omega) ?_
    rw [nRow_len]
    refine X1 (((dg 18446744073709551616 a).length : Int) - 1) (wi (by omega) (by omega)) ?_
    refine loopJ T_ok T_mix (fun n : Nat => n ≤ (dg 18446744073709551616 a).length ∧ (dg 18446744073709551616 a).drop n = (dg 18446744073709551616 b).drop n)
      (fun n => [(2, .c (.ad 2 0)), (3, .c (.ad 3 0)), (6, .c (eI .i64 ((n : Int) - 1)))]) (fun _ => [(2, .var [nSl .u64 (dg 18446744073709551616 a)]), (3, .var [nSl .u64 (dg 18446744073709551616 b)])]) (fun n => n)
      (dg 18446744073709551616 a).length ⟨Nat.le_refl _, by rw [List.drop_length, List.drop_eq_nil_of_le (by omega)]⟩ ⟨rfl, rfl, rfl, trivial⟩ ⟨rfl, rfl, trivial⟩
      (fun _ : Unit => a = b) (fun _ => []) (fun _ => []) (fun n hn => ?_) (fun _ he => ?_)
    · obtain ⟨h1, h2⟩ := hn
      refine dcase (fun h5 => ?_) (fun h5 => ?_)
      · obtain ⟨m, rfl⟩ : ∃ m, n = m + 1 := ⟨n - 1, by omega⟩
        have hA := dig_dg (B := 18446744073709551616) (by omega) a
        have hB := dig_dg (B := 18446744073709551616) (by omega) b
        have vA := val_dg (B := 18446744073709551616) (by omega) a
        have vB := val_dg (B := 18446744073709551616) (by omega) b
        refine And.intro (by omega) (X1 _ (nRow_getN (n := m) (by omega) (by omega)) ?_)
        refine And.intro (by omega) (X1 _ (nRow_getN (n := m) (by omega) (by omega)) ?_)
        refine X1 _ (cmpU_ct _ _) ?_
        refine And.intro rfl ?_
        refine ncase (fun h6 => ?_) (fun h6 => ?_)
        · have e : cmpI ((dg 18446744073709551616 a).getD m 0 : Nat) ((dg 18446744073709551616 b).getD m 0 : Nat) = cmpI a b := by
            unfold cmpI at h6 ⊢
            split at h6
            · rename_i h7
              have := val_lt_of (B := 18446744073709551616) (by omega) hA hlen (by omega) h2 (by omega)
              rw [if_pos h7, if_pos (by omega)]
            · split at h6
              · rename_i h7 h8
                have := val_lt_of (B := 18446744073709551616) (by omega) hB hlen.symm (by omega) h2.symm (by omega)
                rw [if_neg h7, if_pos h8, if_neg (by omega), if_pos (by omega)]
              · exact absurd rfl h6
          exact ⟨trivial, r1 (iE e), trivial⟩
        · have e1 : (dg 18446744073709551616 a).getD m 0 = (dg 18446744073709551616 b).getD m 0 := by
            unfold cmpI at h6
            split at h6
            · omega
            · split at h6 <;> omega
          refine X1 ((m : Int) - 1) (wI (by omega) (by omega) (by omega)) ?_
          refine ⟨m, ⟨by omega, ?_⟩, by omega, ⟨rfl, rfl, rfl, trivial⟩, ⟨rfl, rfl, trivial⟩⟩
          rw [List.getD_eq_getElem?_getD, List.getD_eq_getElem?_getD, List.getElem?_eq_getElem (by omega : m < (dg 18446744073709551616 a).length), List.getElem?_eq_getElem (by omega : m < (dg 18446744073709551616 b).length)] at e1
          rw [List.drop_eq_getElem_cons (by omega : m < (dg 18446744073709551616 a).length), List.drop_eq_getElem_cons (by omega : m < (dg 18446744073709551616 b).length), h2]
          simp only [Option.getD_some] at e1
          rw [e1]
      · have hn : n = 0 := by omega
        subst hn
        refine ⟨(), ?_, trivial, trivial⟩
        rw [List.drop_zero, List.drop_zero] at h2
        rw [← val_dg (B := 18446744073709551616) (by omega) a, h2, val_dg (by omega)]
    · exact ⟨trivial, r1 (iE (by rw [cmpI, if_neg (by omega), if_neg (by omega)])), trivial⟩
theorem nsub_ct (a b : Nat) (hab : b ≤ a) (ha : (dg 18446744073709551616 a).length ≤ 1000000) : Ct P 87 [nV a, nV b] [nV (a - b), .c (eI .i64 0)] := by
  have hlb : (dg 18446744073709551616 b).length ≤ (dg 18446744073709551616 a).length := dg_len_mono (by omega) hab
  refine Ct.go T_ok T_mix (N := 52) Tryz.func87 rfl rfl rfl rfl ?_
  refine X1 _ (ncmp_ct a b ha (by omega)) ?_
  refine bfalse (decide_eq_false (by unfold cmpI; split <;> (try split) <;> omega)) ?_
  refine And.intro (by rw [nRow_len]; omega) ?_
  rw [nRow_len]
  refine ⟨by omega, by omega, by omega, .inl (by decide), ?_⟩
  refine And.intro (by rw [nRow_len]; omega) ?_
  rw [nRow_len]
  refine loopJ T_ok T_mix (G := Nat × List Nat × Nat) (fun (i, out, c) => i ≤ (dg 18446744073709551616 a).length ∧ out.length = (dg 18446744073709551616 a).length ∧ Dig 18446744073709551616 out ∧ c ≤ 1 ∧ val 18446744073709551616 ((dg 18446744073709551616 a).take i) + 18446744073709551616 ^ i * c = val 18446744073709551616 ((dg 18446744073709551616 b).take i) + val 18446744073709551616 (out.take i))
    (fun (i, out, c) => [(2, .c (.ad 2 0)), (3, .c (.ad 3 0)), (4, .c (.ad 4 0)), (6, .c (.ow 18 1 (dg 18446744073709551616 a).length)), (7, .c (nI .u64 c)), (21, .c (nI .i64 (dg 18446744073709551616 a).length)), (22, .c (nI .i64 i))])
    (fun ((i, out, c) : Nat × List Nat × Nat) => [(2, .var [nSl .u64 (dg 18446744073709551616 a)]), (3, .var [nSl .u64 (dg 18446744073709551616 b)]), (4, .var [.sc (.slice none 0 0)]), (18, .row 1 (nRow .u64 out))]) (fun (i, out, c) => (dg 18446744073709551616 a).length - i)
    (0, List.replicate (dg 18446744073709551616 a).length 0, 0) ⟨by simp, by simp, fun x hx => by rw [List.eq_of_mem_replicate hx]; omega, by simp, by simp [val]⟩
    ⟨rfl, rfl, rfl, owE (by omega), rfl, rfl, rfl, trivial⟩ ⟨rfl, rfl, rfl, rowE (rep_row rfl), trivial⟩
    (fun l : List Nat => Dig 18446744073709551616 l ∧ val 18446744073709551616 l = a - b ∧ l.length ≤ 1000000) (fun l => [(4, .c (.ad 4 0)), (6, .c (.ow 18 1 (dg 18446744073709551616 a).length))]) (fun l => [(4, .var [.sc (.slice none 0 0)]), (18, .row 1 (nRow .u64 l))]) (fun g hg => ?_) (fun l hl => ?_)
  · obtain ⟨i, out, c⟩ := g
    obtain ⟨h1, h2, h6, h3, h4⟩ := hg
    refine dcase (fun h5 => ?_) (fun h5 => ?_)
    · have hx := (dig_dg (B := 18446744073709551616) (by omega) a).getD (by omega) i
      have hy := (dig_dg (B := 18446744073709551616) (by omega) b).getD (by omega) i
      have hA := val_take_succ 18446744073709551616 (dg 18446744073709551616 a) i
      have hB := val_take_succ 18446744073709551616 (dg 18446744073709551616 b) i
      generalize hxx : (dg 18446744073709551616 a).getD i 0 = x at hx hA
      refine And.intro (by rw [nRow_len]; omega) ?_
      rw [nRow_len]
      refine dcase (fun h7 => And.intro (by omega) (X1 _ (nRow_getN rfl (by omega)) ?_)) (fun h7 => ?_)
      · generalize hyy : (dg 18446744073709551616 b).getD i 0 = y at hy hB ⊢
        refine And.intro (by omega) (X1 _ (nRow_getN rfl (by omega)) ?_)
        rw [hxx]
        refine X1 _ (sub64_ct x y c hx (by omega) h3) ?_
        refine And.intro (by omega) (And.intro (by simp <;> omega) ?_)
        refine X1 _ (nRow_getN rfl (by omega)) ?_
        refine X1 ((i + 1 : Nat) : Int) (wI (by simp) (by omega) (by omega)) ?_
        refine ⟨(i + 1, out.set i ((x + 18446744073709551616 - y - c) % 18446744073709551616), if x < y + c then 1 else 0), ⟨by omega, by simp [h2], h6.set (by omega), by split <;> omega, ?_⟩, by show _ - (i + 1) < _ - i; omega, ⟨rfl, rfl, rfl, rfl, rfl, rfl, rfl, trivial⟩, ⟨rfl, rfl, rfl, rowE nRow_set, trivial⟩⟩
        have hst := val_take_set 18446744073709551616 out (i := i) (v := (x + 18446744073709551616 - y - c) % 18446744073709551616) (by omega)
        rw [hst, hA, hB]
        have key : x + 18446744073709551616 * (if x < y + c then 1 else 0) = (x + 18446744073709551616 - y - c) % 18446744073709551616 + y + c := by split <;> omega
        have k2 := congrArg (18446744073709551616 ^ i * ·) key
        simp only [Nat.mul_add] at k2
        rw [Nat.pow_succ, Nat.mul_assoc]
        omega
      · have hyy : (dg 18446744073709551616 b).getD i 0 = 0 := by rw [List.getD_eq_getElem?_getD, List.getElem?_eq_none (by omega)]; rfl
        rw [hyy] at hB
        refine And.intro (by omega) (X1 _ (nRow_getN rfl (by omega)) ?_)
        rw [hxx]
        refine X1 _ (sub64_ct x 0 c hx (by omega) h3) ?_
        refine And.intro (by omega) (And.intro (by simp <;> omega) ?_)
        refine X1 _ (nRow_getN rfl (by omega)) ?_
        refine X1 ((i + 1 : Nat) : Int) (wI (by simp) (by omega) (by omega)) ?_
        refine ⟨(i + 1, out.set i ((x + 18446744073709551616 - 0 - c) % 18446744073709551616), if x < 0 + c then 1 else 0), ⟨by omega, by simp [h2], h6.set (by omega), by split <;> omega, ?_⟩, by show _ - (i + 1) < _ - i; omega, ⟨rfl, rfl, rfl, rfl, rfl, rfl, rfl, trivial⟩, ⟨rfl, rfl, rfl, rowE nRow_set, trivial⟩⟩
        have hst := val_take_set 18446744073709551616 out (i := i) (v := (x + 18446744073709551616 - 0 - c) % 18446744073709551616) (by omega)
        rw [hst, hA, hB]
        have key : x + 18446744073709551616 * (if x < 0 + c then 1 else 0) = (x + 18446744073709551616 - 0 - c) % 18446744073709551616 + 0 + c := by split <;> omega
        have k2 := congrArg (18446744073709551616 ^ i * ·) key
        simp only [Nat.mul_add] at k2
        rw [Nat.pow_succ, Nat.mul_assoc]
        omega
    · have e : i = (dg 18446744073709551616 a).length := by omega
      subst e
      refine ⟨out, ⟨h6, ?_, by omega⟩, ⟨rfl, rfl, trivial⟩, ⟨rfl, rfl, trivial⟩⟩
      rw [val_take_all (Nat.le_refl _), val_take_all hlb, val_take_all (by omega), val_dg (by omega), val_dg (by omega)] at h4
      have h7 := val_lt (by omega : 0 < 18446744073709551616) h6
      rw [h2] at h7
      have h8 : c = 0 := by
        rcases Nat.eq_zero_or_pos c with h | h
        · exact h
        · have : c = 1 := by omega
          subst this
          omega
      subst h8
      omega
  · obtain ⟨h1, h2, h3⟩ := hl
    refine X2 .frz ?_
    refine X1 _ (ntrim_ct l h3) ?_
    rw [trim_dg (by omega) h1, h2]
    exact ⟨trivial, rc rfl, r1 rfl, trivial⟩
end Go.Proofs.YtpmchgndnhgncaaGreat.Pv
namespace Go.Proofs.YtpmchgndnhgncaaGreat.Pv
open Go
def blen (n : Nat) : Nat := (dg 2 n).length
theorem blen_zero : blen 0 = 0 := by rw [blen, dg_zero]; rfl
theorem blen_pos {n : Nat} (h : n ≠ 0) : blen n = 1 + blen (n / 2) := by rw [blen, dg_pos (by omega) h, List.length_cons, Nat.add_comm]; rfl
theorem blen_shift : ∀ (k : Nat) {n : Nat}, 2 ^ k ≤ n → blen n = k + blen (n / 2 ^ k)
  | 0, n, _ => by simp
  | k + 1, n, h => by
    rw [Nat.pow_succ] at h
    have hp : 0 < 2 ^ k := Nat.two_pow_pos k
    rw [blen_pos (by omega), blen_shift k (n := n / 2) (by omega), Nat.div_div_eq_div_mul, Nat.pow_succ, Nat.mul_comm 2]
    omega
theorem lt_blen (n : Nat) : n < 2 ^ blen n := lt_dg_len (by omega) n
theorem blen_le {n k : Nat} (h : n < 2 ^ k) : blen n ≤ k := dg_len (by omega) h
theorem le_blen {n : Nat} (h : n ≠ 0) : 2 ^ (blen n - 1) ≤ n := dg_last (by omega) h
def len8 (n : Nat) : Nat := if n < 1 then 0 else if n < 2 then 1 else if n < 4 then 2 else if n < 8 then 3 else if n < 16 then 4 else if n < 32 then 5 else if n < 64 then 6 else if n < 128 then 7 else 8
theorem len8_le (n : Nat) : len8 n ≤ 8 := by
  unfold len8
  repeat' split
  all_goals omega
theorem blen_is {n k : Nat} (h1 : 2 ^ k ≤ n) (h2 : n < 2 ^ (k + 1)) : blen n = k + 1 := by
  have h3 := blen_le h2
  have h4 := lt_blen n
  apply Nat.le_antisymm h3
  apply Nat.le_of_not_lt
  intro hlt
  have : 2 ^ blen n ≤ 2 ^ k := Nat.pow_le_pow_right (by omega) (by omega)
  omega
theorem len8_blen {n : Nat} (h : n < 256) : len8 n = blen n := by
  unfold len8
  split
  · have : n = 0 := by omega
    subst this; exact blen_zero.symm
  · split
    · exact (blen_is (k := 0) (by omega) (by omega)).symm
    · split
      · exact (blen_is (k := 1) (by omega) (by omega)).symm
      · split
        · exact (blen_is (k := 2) (by omega) (by omega)).symm
        · split
          · exact (blen_is (k := 3) (by omega) (by omega)).symm
          · split
            · exact (blen_is (k := 4) (by omega) (by omega)).symm
            · split
              · exact (blen_is (k := 5) (by omega) (by omega)).symm
              · split
                · exact (blen_is (k := 6) (by omega) (by omega)).symm
                · exact (blen_is (k := 7) (by omega) (by omega)).symm
def chk8 (l : List UInt8) : Bool := l == (List.range 256).map fun i => UInt8.ofNat (len8 i)
theorem tab8 {d : Array UInt8} (h : chk8 d.toList = true) {x : Nat} (hx : x < 256) : d[((x : Nat) : Int).toNat]? = some (UInt8.ofNat (len8 x)) := by
  have e := eq_of_beq h
  rw [Int.toNat_natCast, ← Array.getElem?_toList, e]
  simp [hx]
theorem u8n {n : Nat} (h : n < 256) : ((UInt8.ofNat n).toNat : Int) = n := by
  rw [UInt8.toNat_ofNat_of_lt' (by simpa using h)]
theorem shrN {x k : Nat} (h : k ≤ 64) : (x : Int).fdiv (2 ^ min ((k : Nat) : Int).toNat 64) = ((x / 2 ^ k : Nat) : Int) := by
  rw [Int.toNat_natCast, Nat.min_eq_left h, Int.fdiv_eq_ediv_of_nonneg _ (Int.le_of_lt (Int.pow_pos (by omega)))]
  simp
set_option maxRecDepth 100000 in
theorem len64_ct (v : Nat) (hv : v < 18446744073709551616) : Ct P 120 [.c (nI .u64 v)] [.c (nI .i64 (blen v))] := by
  refine Ct.go T_ok T_mix (N := 25) Tryz.func120 rfl rfl rfl rfl ?_
  refine dcase (fun h0 => ?_) (fun h0 => ?_)
  · obtain ⟨x1, e0⟩ : ∃ x1, x1 = v / 2 ^ 32 := ⟨_, rfl⟩
    have b0 : blen v = 32 + blen x1 := by rw [e0]; exact blen_shift _ (by omega)
    refine And.intro (by omega) (X1 ((x1 : Nat) : Int) (by rw [e0]; exact shrN (k := 32) (by decide)) (And.intro ⟨by omega, by omega⟩ ?_))
    refine dcase (fun h1 => ?_) (fun h1 => ?_)
    · obtain ⟨x2, e1⟩ : ∃ x2, x2 = x1 / 2 ^ 16 := ⟨_, rfl⟩
      have b1 : blen x1 = 16 + blen x2 := by rw [e1]; exact blen_shift _ (by omega)
      refine And.intro (by omega) (X1 ((x2 : Nat) : Int) (by rw [e1]; exact shrN (k := 16) (by decide)) (And.intro ⟨by omega, by omega⟩ ?_))
      refine X1 ((32 + 16 : Nat) : Int) (wI (by simp) (by omega) (by omega)) ?_
      refine dcase (fun h2 => ?_) (fun h2 => ?_)
      · obtain ⟨x3, e2⟩ : ∃ x3, x3 = x2 / 2 ^ 8 := ⟨_, rfl⟩
        have b2 : blen x2 = 8 + blen x3 := by rw [e2]; exact blen_shift _ (by omega)
        refine And.intro (by omega) (X1 ((x3 : Nat) : Int) (by rw [e2]; exact shrN (k := 8) (by decide)) (And.intro ⟨by omega, by omega⟩ ?_))
        refine X1 ((32 + 16 + 8 : Nat) : Int) (wI (by simp) (by omega) (by omega)) ?_
        have hx8 : x3 < 256 := by omega
        refine X1 ((x3 : Nat) : Int) (wrap_of_inR ⟨by omega, by omega⟩) ?_
        refine And.intro (by omega) (X1 (UInt8.ofNat (len8 x3)) (tab8 (by rfl) hx8) ?_)
        have hb := len8_le x3
        refine X1 ((len8 x3 : Nat) : Int) (wI (by rw [u8n (by omega)]) (by omega) (by omega)) ?_
        refine X1 (((32 + 16 + 8) + len8 x3 : Nat) : Int) (wI (by simp) (by omega) (by omega)) ?_
        rw [len8_blen hx8] at *
        exact ⟨trivial, r1 (iE (by rw [show blen v = 32 + 16 + 8 + blen x3 by omega])), trivial⟩
      · skip
        have hx8 : x2 < 256 := by omega
        refine X1 ((x2 : Nat) : Int) (wrap_of_inR ⟨by omega, by omega⟩) ?_
        refine And.intro (by omega) (X1 (UInt8.ofNat (len8 x2)) (tab8 (by rfl) hx8) ?_)
        have hb := len8_le x2
        refine X1 ((len8 x2 : Nat) : Int) (wI (by rw [u8n (by omega)]) (by omega) (by omega)) ?_
        refine X1 (((32 + 16) + len8 x2 : Nat) : Int) (wI (by simp) (by omega) (by omega)) ?_
        rw [len8_blen hx8] at *
        exact ⟨trivial, r1 (iE (by rw [show blen v = 32 + 16 + blen x2 by omega])), trivial⟩
    · skip
      refine dcase (fun h2 => ?_) (fun h2 => ?_)
      · obtain ⟨x3, e2⟩ : ∃ x3, x3 = x1 / 2 ^ 8 := ⟨_, rfl⟩
        have b2 : blen x1 = 8 + blen x3 := by rw [e2]; exact blen_shift _ (by omega)
        refine And.intro (by omega) (X1 ((x3 : Nat) : Int) (by rw [e2]; exact shrN (k := 8) (by decide)) (And.intro ⟨by omega, by omega⟩ ?_))
        refine X1 ((32 + 8 : Nat) : Int) (wI (by simp) (by omega) (by omega)) ?_
        have hx8 : x3 < 256 := by omega
        refine X1 ((x3 : Nat) : Int) (wrap_of_inR ⟨by omega, by omega⟩) ?_
        refine And.intro (by omega) (X1 (UInt8.ofNat (len8 x3)) (tab8 (by rfl) hx8) ?_)
        have hb := len8_le x3
        refine X1 ((len8 x3 : Nat) : Int) (wI (by rw [u8n (by omega)]) (by omega) (by omega)) ?_
        refine X1 (((32 + 8) + len8 x3 : Nat) : Int) (wI (by simp) (by omega) (by omega)) ?_
        rw [len8_blen hx8] at *
        exact ⟨trivial, r1 (iE (by rw [show blen v = 32 + 8 + blen x3 by omega])), trivial⟩
      · skip
        have hx8 : x1 < 256 := by omega
        refine X1 ((x1 : Nat) : Int) (wrap_of_inR ⟨by omega, by omega⟩) ?_
        refine And.intro (by omega) (X1 (UInt8.ofNat (len8 x1)) (tab8 (by rfl) hx8) ?_)
        have hb := len8_le x1
        refine X1 ((len8 x1 : Nat) : Int) (wI (by rw [u8n (by omega)]) (by omega) (by omega)) ?_
        refine X1 (((32) + len8 x1 : Nat) : Int) (wI (by simp) (by omega) (by omega)) ?_
        rw [len8_blen hx8] at *
        exact ⟨trivial, r1 (iE (by rw [show blen v = 32 + blen x1 by omega])), trivial⟩
  · skip
    refine dcase (fun h1 => ?_) (fun h1 => ?_)
    · obtain ⟨x2, e1⟩ : ∃ x2, x2 = v / 2 ^ 16 := ⟨_, rfl⟩
      have b1 : blen v = 16 + blen x2 := by rw [e1]; exact blen_shift _ (by omega)
      refine And.intro (by omega) (X1 ((x2 : Nat) : Int) (by rw [e1]; exact shrN (k := 16) (by decide)) (And.intro ⟨by omega, by omega⟩ ?_))
      refine X1 ((0 + 16 : Nat) : Int) (wI (by simp) (by omega) (by omega)) ?_
      refine dcase (fun h2 => ?_) (fun h2 => ?_)
      · obtain ⟨x3, e2⟩ : ∃ x3, x3 = x2 / 2 ^ 8 := ⟨_, rfl⟩
        have b2 : blen x2 = 8 + blen x3 := by rw [e2]; exact blen_shift _ (by omega)
        refine And.intro (by omega) (X1 ((x3 : Nat) : Int) (by rw [e2]; exact shrN (k := 8) (by decide)) (And.intro ⟨by omega, by omega⟩ ?_))
        refine X1 ((0 + 16 + 8 : Nat) : Int) (wI (by simp) (by omega) (by omega)) ?_
        have hx8 : x3 < 256 := by omega
        refine X1 ((x3 : Nat) : Int) (wrap_of_inR ⟨by omega, by omega⟩) ?_
        refine And.intro (by omega) (X1 (UInt8.ofNat (len8 x3)) (tab8 (by rfl) hx8) ?_)
        have hb := len8_le x3
        refine X1 ((len8 x3 : Nat) : Int) (wI (by rw [u8n (by omega)]) (by omega) (by omega)) ?_
        refine X1 (((0 + 16 + 8) + len8 x3 : Nat) : Int) (wI (by simp) (by omega) (by omega)) ?_
        rw [len8_blen hx8] at *
        exact ⟨trivial, r1 (iE (by rw [show blen v = 0 + 16 + 8 + blen x3 by omega])), trivial⟩
      · skip
        have hx8 : x2 < 256 := by omega
        refine X1 ((x2 : Nat) : Int) (wrap_of_inR ⟨by omega, by omega⟩) ?_
        refine And.intro (by omega) (X1 (UInt8.ofNat (len8 x2)) (tab8 (by rfl) hx8) ?_)
        have hb := len8_le x2
        refine X1 ((len8 x2 : Nat) : Int) (wI (by rw [u8n (by omega)]) (by omega) (by omega)) ?_
        refine X1 (((0 + 16) + len8 x2 : Nat) : Int) (wI (by simp) (by omega) (by omega)) ?_
        rw [len8_blen hx8] at *
        exact ⟨trivial, r1 (iE (by rw [show blen v = 0 + 16 + blen x2 by omega])), trivial⟩
    · skip
      refine dcase (fun h2 => ?_) (fun h2 => ?_)
      · obtain ⟨x3, e2⟩ : ∃ x3, x3 = v / 2 ^ 8 := ⟨_, rfl⟩
        have b2 : blen v = 8 + blen x3 := by rw [e2]; exact blen_shift _ (by omega)
        refine And.intro (by omega) (X1 ((x3 : Nat) : Int) (by rw [e2]; exact shrN (k := 8) (by decide)) (And.intro ⟨by omega, by omega⟩ ?_))
        refine X1 ((0 + 8 : Nat) : Int) (wI (by simp) (by omega) (by omega)) ?_
        have hx8 : x3 < 256 := by omega
        refine X1 ((x3 : Nat) : Int) (wrap_of_inR ⟨by omega, by omega⟩) ?_
        refine And.intro (by omega) (X1 (UInt8.ofNat (len8 x3)) (tab8 (by rfl) hx8) ?_)
        have hb := len8_le x3
        refine X1 ((len8 x3 : Nat) : Int) (wI (by rw [u8n (by omega)]) (by omega) (by omega)) ?_
        refine X1 (((0 + 8) + len8 x3 : Nat) : Int) (wI (by simp) (by omega) (by omega)) ?_
        rw [len8_blen hx8] at *
        exact ⟨trivial, r1 (iE (by rw [show blen v = 0 + 8 + blen x3 by omega])), trivial⟩
      · skip
        have hx8 : v < 256 := by omega
        refine X1 ((v : Nat) : Int) (wrap_of_inR ⟨by omega, by omega⟩) ?_
        refine And.intro (by omega) (X1 (UInt8.ofNat (len8 v)) (tab8 (by rfl) hx8) ?_)
        have hb := len8_le v
        refine X1 ((len8 v : Nat) : Int) (wI (by rw [u8n (by omega)]) (by omega) (by omega)) ?_
        refine X1 (((0) + len8 v : Nat) : Int) (wI (by simp) (by omega) (by omega)) ?_
        rw [len8_blen hx8] at *
        exact ⟨trivial, r1 (iE (by simp)), trivial⟩
theorem lz64_ct (v : Nat) (hv : v < 18446744073709551616) : Ct P 122 [.c (nI .u64 v)] [.c (nI .i64 (64 - blen v))] := by
  have h := blen_le (n := v) (k := 64) hv
  refine Ct.go T_ok T_mix (N := 6) Tryz.func122 rfl rfl rfl rfl ?_
  refine X1 _ (len64_ct v hv) ?_
  refine X1 ((64 - blen v : Nat) : Int) (wI (by omega) (by omega) (by omega)) ?_
  exact ⟨trivial, r1 rfl, trivial⟩
theorem w_pow (k : Nat) : 18446744073709551616 ^ k = 2 ^ (64 * k) := by rw [Nat.pow_mul]
theorem blen_top {n : Nat} (h : n ≠ 0) : blen n = 64 * ((dg 18446744073709551616 n).length - 1) + blen ((dg 18446744073709551616 n).getD ((dg 18446744073709551616 n).length - 1) 0) := by
  obtain ⟨m, hm⟩ : ∃ m, (dg 18446744073709551616 n).length = m + 1 := ⟨(dg 18446744073709551616 n).length - 1, by
    have : (dg 18446744073709551616 n).length ≠ 0 := fun h0 => h ((dg_nil (by omega)).1 (List.length_eq_zero_iff.1 h0))
    omega⟩
  have h1 := val_take_succ 18446744073709551616 (dg 18446744073709551616 n) m
  rw [val_take_all (by omega), val_dg (by omega)] at h1
  have h2 := val_lt (by omega : 0 < 18446744073709551616) ((dig_dg (B := 18446744073709551616) (by omega) n).take (n := m))
  rw [List.length_take, Nat.min_eq_left (by omega)] at h2
  have h3 := dg_last (B := 18446744073709551616) (by omega) h
  rw [hm, Nat.add_sub_cancel] at h3 ⊢
  have h4 : n / 18446744073709551616 ^ m = (dg 18446744073709551616 n).getD m 0 := by
    conv => lhs; rw [h1]
    rw [Nat.add_mul_div_left _ _ (Nat.pow_pos (by omega)), Nat.div_eq_of_lt h2, Nat.zero_add]
  rw [← h4]
  rw [w_pow] at h3 ⊢
  exact blen_shift _ h3
theorem blen_len (n : Nat) : blen n ≤ 64 * (dg 18446744073709551616 n).length := by
  apply blen_le
  rw [← w_pow]
  exact lt_dg_len (by omega) n
theorem nbits_ct (n : Nat) (hn : (dg 18446744073709551616 n).length ≤ 1000000) : Ct P 78 [nV n] [.c (nI .i64 (blen n))] := by
  refine Ct.go T_ok T_mix (N := 22) Tryz.func78 rfl rfl rfl rfl ?_
  refine And.intro (by rw [nRow_len]; omega) ?_
  rw [nRow_len]
  refine ecase (fun h => ?_) (fun h => ?_)
  · have : n = 0 := (dg_nil (B := 18446744073709551616) (by omega)).1 (List.length_eq_zero_iff.1 (by omega))
    subst this
    exact ⟨trivial, r1 (iE (by rw [blen_zero]; rfl)), trivial⟩
  · have h0 : n ≠ 0 := fun h0 => h (by rw [h0, dg_zero]; rfl)
    refine And.intro (by rw [nRow_len]; omega) ?_
    rw [nRow_len]
    refine X1 (((dg 18446744073709551616 n).length - 1 : Nat) : Int) (wI (by omega) (by omega) (by omega)) ?_
    refine X1 ((64 * ((dg 18446744073709551616 n).length - 1) : Nat) : Int) (wI (by omega) (by omega) (by omega)) ?_
    refine And.intro (by rw [nRow_len]; omega) ?_
    rw [nRow_len]
    refine X1 (((dg 18446744073709551616 n).length - 1 : Nat) : Int) (wI (by omega) (by omega) (by omega)) ?_
    refine And.intro (by omega) (X1 _ (nRow_getN rfl (by omega)) ?_)
    have hd := (dig_dg (B := 18446744073709551616) (by omega) n).getD (by omega) ((dg 18446744073709551616 n).length - 1)
    refine X1 _ (len64_ct _ hd) ?_
    have hb := blen_top h0
    have hle := blen_len n
    refine X1 ((blen n : Nat) : Int) (wI (by omega) (by omega) (by omega)) ?_
    refine And.intro rfl ?_
    exact ⟨trivial, r1 rfl, trivial⟩
theorem nlonger_ct (a b : Nat) (ha : (dg 18446744073709551616 a).length ≤ 1000000) (hb : (dg 18446744073709551616 b).length ≤ 1000000) : Ct P 77 [.c (.fn 78 []), nV a, nV b] [nV (if blen a < blen b then b else a), nV (if blen a < blen b then a else b)] := by
  refine Ct.go T_ok T_mix (N := 19) Tryz.func77 rfl rfl rfl rfl ?_
  refine X1 _ (nbits_ct a ha) ?_
  refine X1 _ (nbits_ct b hb) ?_
  refine And.intro rfl ?_
  refine dcase (fun h => ?_) (fun h => ?_)
  · refine And.intro rfl ?_
    rw [if_pos (by omega), if_pos (by omega)]
    exact ⟨trivial, rc rfl, rc rfl, trivial⟩
  · refine And.intro rfl ?_
    rw [if_neg (by omega), if_neg (by omega)]
    exact ⟨trivial, rc rfl, rc rfl, trivial⟩
end Go.Proofs.YtpmchgndnhgncaaGreat.Pv
