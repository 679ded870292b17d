/- Parts of a proof, joined: PvTy Da Cc Cd Ce Cg Ci Cj Ja Jc Jd. -/
import Derived.Test.YtjpbijdpkdmeaaaGreatTfG
import Derived.Test.YtjpbijdpkdmeaaaGreatChecked
import Derived.KernelRfl
import Derived.Shelf.Spec.BitsCarry
namespace Go.Proofs.YtjpbijdpkdmeaaaGreat.Pv
open Go
set_option maxRecDepth 100000
def ty1 : TD := ⟨.oth, 1, 8, false, [.nilFunc]⟩
theorem ty1_ok : ty1.ok Tryz.prog 1 := ⟨⟨by kernel_rfl, by kernel_rfl⟩, trivial⟩
def ty2 : TD := ⟨.int .i64, 1, 8, false, [.int .i64 0]⟩
theorem ty2_ok : ty2.ok Tryz.prog 2 := ⟨⟨by kernel_rfl, by kernel_rfl⟩, (show Tryz.prog.underlying 2 = some (.int .i64) by kernel_rfl)⟩
def ty3 : TD := ⟨.int .i64, 1, 8, false, [.int .i64 0]⟩
theorem ty3_ok : ty3.ok Tryz.prog 3 := ⟨⟨by kernel_rfl, by kernel_rfl⟩, (show Tryz.prog.underlying 3 = some (.int .i64) by kernel_rfl)⟩
def ty4 : TD := ⟨.bool, 1, 1, false, [.bool false]⟩
theorem ty4_ok : ty4.ok Tryz.prog 4 := ⟨⟨by kernel_rfl, by kernel_rfl⟩, (show Tryz.prog.underlying 4 = some .bool by kernel_rfl)⟩
def ty5 : TD := ⟨.int .u8, 1, 1, false, [.int .u8 0]⟩
theorem ty5_ok : ty5.ok Tryz.prog 5 := ⟨⟨by kernel_rfl, by kernel_rfl⟩, (show Tryz.prog.underlying 5 = some (.int .u8) by kernel_rfl)⟩
def ty6 : TD := ⟨.int .u8, 1, 1, false, [.int .u8 0]⟩
theorem ty6_ok : ty6.ok Tryz.prog 6 := ⟨⟨by kernel_rfl, by kernel_rfl⟩, (show Tryz.prog.underlying 6 = some (.int .u8) by kernel_rfl)⟩
def ty7 : TD := ⟨.st [(0, 2, 1), (1, 3, 1), (2, 4, 1), (3, 6, 1)], 4, 24, true, [.int .i64 0, .int .i64 0, .bool false, .int .u8 0]⟩
theorem ty7_ok : ty7.ok Tryz.prog 7 := ⟨⟨by kernel_rfl, by kernel_rfl⟩, ⟨fun f off ft n h => by
    match f, h with
    | 0, h => cases h; exact ⟨by kernel_rfl⟩
    | 1, h => cases h; exact ⟨by kernel_rfl⟩
    | 2, h => cases h; exact ⟨by kernel_rfl⟩
    | 3, h => cases h; exact ⟨by kernel_rfl⟩
    | f + 4, h => simp at h, ⟨by kernel_rfl⟩⟩⟩
def ty8 : TD := ⟨.st [(0, 2, 1), (1, 3, 1), (2, 4, 1), (3, 6, 1)], 4, 24, true, [.int .i64 0, .int .i64 0, .bool false, .int .u8 0]⟩
theorem ty8_ok : ty8.ok Tryz.prog 8 := ⟨⟨by kernel_rfl, by kernel_rfl⟩, ⟨fun f off ft n h => by
    match f, h with
    | 0, h => cases h; exact ⟨by kernel_rfl⟩
    | 1, h => cases h; exact ⟨by kernel_rfl⟩
    | 2, h => cases h; exact ⟨by kernel_rfl⟩
    | 3, h => cases h; exact ⟨by kernel_rfl⟩
    | f + 4, h => simp at h, ⟨by kernel_rfl⟩⟩⟩
def ty9 : TD := ⟨.str, 1, 16, false, [.string .empty]⟩
theorem ty9_ok : ty9.ok Tryz.prog 9 := ⟨⟨by kernel_rfl, by kernel_rfl⟩, (show Tryz.prog.underlying 9 = some .string by kernel_rfl)⟩
def ty10 : TD := ⟨.str, 1, 16, false, [.string .empty]⟩
theorem ty10_ok : ty10.ok Tryz.prog 10 := ⟨⟨by kernel_rfl, by kernel_rfl⟩, (show Tryz.prog.underlying 10 = some .string by kernel_rfl)⟩
def ty11 : TD := ⟨.str, 1, 16, false, [.string .empty]⟩
theorem ty11_ok : ty11.ok Tryz.prog 11 := ⟨⟨by kernel_rfl, by kernel_rfl⟩, (show Tryz.prog.underlying 11 = some .string by kernel_rfl)⟩
def ty12 : TD := ⟨.int .u64, 1, 8, false, [.int .u64 0]⟩
theorem ty12_ok : ty12.ok Tryz.prog 12 := ⟨⟨by kernel_rfl, by kernel_rfl⟩, (show Tryz.prog.underlying 12 = some (.int .u64) by kernel_rfl)⟩
def ty16 : TD := ⟨.ptr 222, 1, 8, false, [.pointer none]⟩
theorem ty16_ok : ty16.ok Tryz.prog 16 := ⟨⟨by kernel_rfl, by kernel_rfl⟩, (show Tryz.prog.underlying 16 = some (.pointer 222) by kernel_rfl)⟩
def ty21 : TD := ⟨.int .i32, 1, 4, false, [.int .i32 0]⟩
theorem ty21_ok : ty21.ok Tryz.prog 21 := ⟨⟨by kernel_rfl, by kernel_rfl⟩, (show Tryz.prog.underlying 21 = some (.int .i32) by kernel_rfl)⟩
def ty22 : TD := ⟨.sl 9, 1, 24, false, [.slice none 0 0]⟩
theorem ty22_ok : ty22.ok Tryz.prog 22 := ⟨⟨by kernel_rfl, by kernel_rfl⟩, ⟨by kernel_rfl⟩⟩
def ty23 : TD := ⟨.sl 42, 1, 24, false, [.slice none 0 0]⟩
theorem ty23_ok : ty23.ok Tryz.prog 23 := ⟨⟨by kernel_rfl, by kernel_rfl⟩, ⟨by kernel_rfl⟩⟩
def ty24 : TD := ⟨.st [(0, 3, 1), (1, 22, 1), (2, 23, 1)], 3, 56, true, [.int .i64 0, .slice none 0 0, .slice none 0 0]⟩
theorem ty24_ok : ty24.ok Tryz.prog 24 := ⟨⟨by kernel_rfl, by kernel_rfl⟩, ⟨fun f off ft n h => by
    match f, h with
    | 0, h => cases h; exact ⟨by kernel_rfl⟩
    | 1, h => cases h; exact ⟨by kernel_rfl⟩
    | 2, h => cases h; exact ⟨by kernel_rfl⟩
    | f + 3, h => simp at h, ⟨by kernel_rfl⟩⟩⟩
def ty25 : TD := ⟨.st [(0, 3, 1), (1, 22, 1), (2, 23, 1)], 3, 56, true, [.int .i64 0, .slice none 0 0, .slice none 0 0]⟩
theorem ty25_ok : ty25.ok Tryz.prog 25 := ⟨⟨by kernel_rfl, by kernel_rfl⟩, ⟨fun f off ft n h => by
    match f, h with
    | 0, h => cases h; exact ⟨by kernel_rfl⟩
    | 1, h => cases h; exact ⟨by kernel_rfl⟩
    | 2, h => cases h; exact ⟨by kernel_rfl⟩
    | f + 3, h => simp at h, ⟨by kernel_rfl⟩⟩⟩
def ty26 : TD := ⟨.sl 3, 1, 24, false, [.slice none 0 0]⟩
theorem ty26_ok : ty26.ok Tryz.prog 26 := ⟨⟨by kernel_rfl, by kernel_rfl⟩, ⟨by kernel_rfl⟩⟩
def ty30 : TD := ⟨.ptr 86, 1, 8, false, [.pointer none]⟩
theorem ty30_ok : ty30.ok Tryz.prog 30 := ⟨⟨by kernel_rfl, by kernel_rfl⟩, (show Tryz.prog.underlying 30 = some (.pointer 86) by kernel_rfl)⟩
def ty31 : TD := ⟨.int .i64, 1, 8, false, [.int .i64 0]⟩
theorem ty31_ok : ty31.ok Tryz.prog 31 := ⟨⟨by kernel_rfl, by kernel_rfl⟩, (show Tryz.prog.underlying 31 = some (.int .i64) by kernel_rfl)⟩
def ty37 : TD := ⟨.st [(0, 26, 1), (1, 3, 1), (2, 3, 1)], 3, 40, true, [.slice none 0 0, .int .i64 0, .int .i64 0]⟩
theorem ty37_ok : ty37.ok Tryz.prog 37 := ⟨⟨by kernel_rfl, by kernel_rfl⟩, ⟨fun f off ft n h => by
    match f, h with
    | 0, h => cases h; exact ⟨by kernel_rfl⟩
    | 1, h => cases h; exact ⟨by kernel_rfl⟩
    | 2, h => cases h; exact ⟨by kernel_rfl⟩
    | f + 3, h => simp at h, ⟨by kernel_rfl⟩⟩⟩
def ty38 : TD := ⟨.st [(0, 26, 1), (1, 3, 1), (2, 3, 1)], 3, 40, true, [.slice none 0 0, .int .i64 0, .int .i64 0]⟩
theorem ty38_ok : ty38.ok Tryz.prog 38 := ⟨⟨by kernel_rfl, by kernel_rfl⟩, ⟨fun f off ft n h => by
    match f, h with
    | 0, h => cases h; exact ⟨by kernel_rfl⟩
    | 1, h => cases h; exact ⟨by kernel_rfl⟩
    | 2, h => cases h; exact ⟨by kernel_rfl⟩
    | f + 3, h => simp at h, ⟨by kernel_rfl⟩⟩⟩
def ty42 : TD := ⟨.sl 38, 1, 24, false, [.slice none 0 0]⟩
theorem ty42_ok : ty42.ok Tryz.prog 42 := ⟨⟨by kernel_rfl, by kernel_rfl⟩, ⟨by kernel_rfl⟩⟩
def ty44 : TD := ⟨.ptr 106, 1, 8, false, [.pointer none]⟩
theorem ty44_ok : ty44.ok Tryz.prog 44 := ⟨⟨by kernel_rfl, by kernel_rfl⟩, (show Tryz.prog.underlying 44 = some (.pointer 106) by kernel_rfl)⟩
def ty45 : TD := ⟨.ptr 109, 1, 8, false, [.pointer none]⟩
theorem ty45_ok : ty45.ok Tryz.prog 45 := ⟨⟨by kernel_rfl, by kernel_rfl⟩, (show Tryz.prog.underlying 45 = some (.pointer 109) by kernel_rfl)⟩
def ty47 : TD := ⟨.oth, 1, 8, false, [.nilFunc]⟩
theorem ty47_ok : ty47.ok Tryz.prog 47 := ⟨⟨by kernel_rfl, by kernel_rfl⟩, trivial⟩
def ty48 : TD := ⟨.ptr 118, 1, 8, false, [.pointer none]⟩
theorem ty48_ok : ty48.ok Tryz.prog 48 := ⟨⟨by kernel_rfl, by kernel_rfl⟩, (show Tryz.prog.underlying 48 = some (.pointer 118) by kernel_rfl)⟩
def ty54 : TD := ⟨.oth, 1, 8, false, [.nilFunc]⟩
theorem ty54_ok : ty54.ok Tryz.prog 54 := ⟨⟨by kernel_rfl, by kernel_rfl⟩, trivial⟩
def ty55 : TD := ⟨.int .u64, 1, 8, false, [.int .u64 0]⟩
theorem ty55_ok : ty55.ok Tryz.prog 55 := ⟨⟨by kernel_rfl, by kernel_rfl⟩, (show Tryz.prog.underlying 55 = some (.int .u64) by kernel_rfl)⟩
def ty58 : TD := ⟨.sl 26, 1, 24, false, [.slice none 0 0]⟩
theorem ty58_ok : ty58.ok Tryz.prog 58 := ⟨⟨by kernel_rfl, by kernel_rfl⟩, ⟨by kernel_rfl⟩⟩
def ty60 : TD := ⟨.oth, 1, 8, false, [.nilFunc]⟩
theorem ty60_ok : ty60.ok Tryz.prog 60 := ⟨⟨by kernel_rfl, by kernel_rfl⟩, trivial⟩
def ty61 : TD := ⟨.ptr 125, 1, 8, false, [.pointer none]⟩
theorem ty61_ok : ty61.ok Tryz.prog 61 := ⟨⟨by kernel_rfl, by kernel_rfl⟩, (show Tryz.prog.underlying 61 = some (.pointer 125) by kernel_rfl)⟩
def ty62 : TD := ⟨.ptr 122, 1, 8, false, [.pointer none]⟩
theorem ty62_ok : ty62.ok Tryz.prog 62 := ⟨⟨by kernel_rfl, by kernel_rfl⟩, (show Tryz.prog.underlying 62 = some (.pointer 122) by kernel_rfl)⟩
def ty64 : TD := ⟨.oth, 1, 8, false, [.nilFunc]⟩
theorem ty64_ok : ty64.ok Tryz.prog 64 := ⟨⟨by kernel_rfl, by kernel_rfl⟩, trivial⟩
def ty67 : TD := ⟨.oth, 1, 8, false, [.nilFunc]⟩
theorem ty67_ok : ty67.ok Tryz.prog 67 := ⟨⟨by kernel_rfl, by kernel_rfl⟩, trivial⟩
def ty75 : TD := ⟨.ptr 132, 1, 8, false, [.pointer none]⟩
theorem ty75_ok : ty75.ok Tryz.prog 75 := ⟨⟨by kernel_rfl, by kernel_rfl⟩, (show Tryz.prog.underlying 75 = some (.pointer 132) by kernel_rfl)⟩
def ty82 : TD := ⟨.ptr 146, 1, 8, false, [.pointer none]⟩
theorem ty82_ok : ty82.ok Tryz.prog 82 := ⟨⟨by kernel_rfl, by kernel_rfl⟩, (show Tryz.prog.underlying 82 = some (.pointer 146) by kernel_rfl)⟩
def ty84 : TD := ⟨.sl 95, 1, 24, false, [.slice none 0 0]⟩
theorem ty84_ok : ty84.ok Tryz.prog 84 := ⟨⟨by kernel_rfl, by kernel_rfl⟩, ⟨by kernel_rfl⟩⟩
def ty85 : TD := ⟨.st [(0, 3, 1), (1, 75, 1), (2, 82, 1), (3, 84, 1)], 4, 48, true, [.int .i64 0, .pointer none, .pointer none, .slice none 0 0]⟩
theorem ty85_ok : ty85.ok Tryz.prog 85 := ⟨⟨by kernel_rfl, by kernel_rfl⟩, ⟨fun f off ft n h => by
    match f, h with
    | 0, h => cases h; exact ⟨by kernel_rfl⟩
    | 1, h => cases h; exact ⟨by kernel_rfl⟩
    | 2, h => cases h; exact ⟨by kernel_rfl⟩
    | 3, h => cases h; exact ⟨by kernel_rfl⟩
    | f + 4, h => simp at h, ⟨by kernel_rfl⟩⟩⟩
def ty86 : TD := ⟨.st [(0, 3, 1), (1, 75, 1), (2, 82, 1), (3, 84, 1)], 4, 48, true, [.int .i64 0, .pointer none, .pointer none, .slice none 0 0]⟩
theorem ty86_ok : ty86.ok Tryz.prog 86 := ⟨⟨by kernel_rfl, by kernel_rfl⟩, ⟨fun f off ft n h => by
    match f, h with
    | 0, h => cases h; exact ⟨by kernel_rfl⟩
    | 1, h => cases h; exact ⟨by kernel_rfl⟩
    | 2, h => cases h; exact ⟨by kernel_rfl⟩
    | 3, h => cases h; exact ⟨by kernel_rfl⟩
    | f + 4, h => simp at h, ⟨by kernel_rfl⟩⟩⟩
def ty89 : TD := ⟨.st [(0, 44, 1), (1, 45, 1)], 2, 16, true, [.pointer none, .pointer none]⟩
theorem ty89_ok : ty89.ok Tryz.prog 89 := ⟨⟨by kernel_rfl, by kernel_rfl⟩, ⟨fun f off ft n h => by
    match f, h with
    | 0, h => cases h; exact ⟨by kernel_rfl⟩
    | 1, h => cases h; exact ⟨by kernel_rfl⟩
    | f + 2, h => simp at h, ⟨by kernel_rfl⟩⟩⟩
def ty90 : TD := ⟨.st [(0, 44, 1), (1, 45, 1)], 2, 16, true, [.pointer none, .pointer none]⟩
theorem ty90_ok : ty90.ok Tryz.prog 90 := ⟨⟨by kernel_rfl, by kernel_rfl⟩, ⟨fun f off ft n h => by
    match f, h with
    | 0, h => cases h; exact ⟨by kernel_rfl⟩
    | 1, h => cases h; exact ⟨by kernel_rfl⟩
    | f + 2, h => simp at h, ⟨by kernel_rfl⟩⟩⟩
def ty91 : TD := ⟨.st [(0, 90, 2), (2, 90, 2)], 4, 32, true, [.pointer none, .pointer none, .pointer none, .pointer none]⟩
theorem ty91_ok : ty91.ok Tryz.prog 91 := ⟨⟨by kernel_rfl, by kernel_rfl⟩, ⟨fun f off ft n h => by
    match f, h with
    | 0, h => cases h; exact ⟨by kernel_rfl⟩
    | 1, h => cases h; exact ⟨by kernel_rfl⟩
    | f + 2, h => simp at h, ⟨by kernel_rfl⟩⟩⟩
def ty92 : TD := ⟨.st [(0, 90, 2), (2, 90, 2)], 4, 32, true, [.pointer none, .pointer none, .pointer none, .pointer none]⟩
theorem ty92_ok : ty92.ok Tryz.prog 92 := ⟨⟨by kernel_rfl, by kernel_rfl⟩, ⟨fun f off ft n h => by
    match f, h with
    | 0, h => cases h; exact ⟨by kernel_rfl⟩
    | 1, h => cases h; exact ⟨by kernel_rfl⟩
    | f + 2, h => simp at h, ⟨by kernel_rfl⟩⟩⟩
def ty94 : TD := ⟨.st [(0, 92, 4), (4, 3, 1), (5, 48, 1), (6, 4, 1)], 7, 56, true, [.pointer none, .pointer none, .pointer none, .pointer none, .int .i64 0, .pointer none, .bool false]⟩
theorem ty94_ok : ty94.ok Tryz.prog 94 := ⟨⟨by kernel_rfl, by kernel_rfl⟩, ⟨fun f off ft n h => by
    match f, h with
    | 0, h => cases h; exact ⟨by kernel_rfl⟩
    | 1, h => cases h; exact ⟨by kernel_rfl⟩
    | 2, h => cases h; exact ⟨by kernel_rfl⟩
    | 3, h => cases h; exact ⟨by kernel_rfl⟩
    | f + 4, h => simp at h, ⟨by kernel_rfl⟩⟩⟩
def ty95 : TD := ⟨.st [(0, 92, 4), (4, 3, 1), (5, 48, 1), (6, 4, 1)], 7, 56, true, [.pointer none, .pointer none, .pointer none, .pointer none, .int .i64 0, .pointer none, .bool false]⟩
theorem ty95_ok : ty95.ok Tryz.prog 95 := ⟨⟨by kernel_rfl, by kernel_rfl⟩, ⟨fun f off ft n h => by
    match f, h with
    | 0, h => cases h; exact ⟨by kernel_rfl⟩
    | 1, h => cases h; exact ⟨by kernel_rfl⟩
    | 2, h => cases h; exact ⟨by kernel_rfl⟩
    | 3, h => cases h; exact ⟨by kernel_rfl⟩
    | f + 4, h => simp at h, ⟨by kernel_rfl⟩⟩⟩
def ty101 : TD := ⟨.oth, 1, 8, false, [.nilFunc]⟩
theorem ty101_ok : ty101.ok Tryz.prog 101 := ⟨⟨by kernel_rfl, by kernel_rfl⟩, trivial⟩
def ty105 : TD := ⟨.st [(0, 26, 1)], 1, 24, true, [.slice none 0 0]⟩
theorem ty105_ok : ty105.ok Tryz.prog 105 := ⟨⟨by kernel_rfl, by kernel_rfl⟩, ⟨fun f off ft n h => by
    match f, h with
    | 0, h => cases h; exact ⟨by kernel_rfl⟩
    | f + 1, h => simp at h, ⟨by kernel_rfl⟩⟩⟩
def ty106 : TD := ⟨.st [(0, 26, 1)], 1, 24, true, [.slice none 0 0]⟩
theorem ty106_ok : ty106.ok Tryz.prog 106 := ⟨⟨by kernel_rfl, by kernel_rfl⟩, ⟨fun f off ft n h => by
    match f, h with
    | 0, h => cases h; exact ⟨by kernel_rfl⟩
    | f + 1, h => simp at h, ⟨by kernel_rfl⟩⟩⟩
def ty107 : TD := ⟨.ptr 150, 1, 8, false, [.pointer none]⟩
theorem ty107_ok : ty107.ok Tryz.prog 107 := ⟨⟨by kernel_rfl, by kernel_rfl⟩, (show Tryz.prog.underlying 107 = some (.pointer 150) by kernel_rfl)⟩
def ty108 : TD := ⟨.st [(0, 107, 1), (1, 3, 1), (2, 3, 1)], 3, 24, true, [.pointer none, .int .i64 0, .int .i64 0]⟩
theorem ty108_ok : ty108.ok Tryz.prog 108 := ⟨⟨by kernel_rfl, by kernel_rfl⟩, ⟨fun f off ft n h => by
    match f, h with
    | 0, h => cases h; exact ⟨by kernel_rfl⟩
    | 1, h => cases h; exact ⟨by kernel_rfl⟩
    | 2, h => cases h; exact ⟨by kernel_rfl⟩
    | f + 3, h => simp at h, ⟨by kernel_rfl⟩⟩⟩
def ty109 : TD := ⟨.st [(0, 107, 1), (1, 3, 1), (2, 3, 1)], 3, 24, true, [.pointer none, .int .i64 0, .int .i64 0]⟩
theorem ty109_ok : ty109.ok Tryz.prog 109 := ⟨⟨by kernel_rfl, by kernel_rfl⟩, ⟨fun f off ft n h => by
    match f, h with
    | 0, h => cases h; exact ⟨by kernel_rfl⟩
    | 1, h => cases h; exact ⟨by kernel_rfl⟩
    | 2, h => cases h; exact ⟨by kernel_rfl⟩
    | f + 3, h => simp at h, ⟨by kernel_rfl⟩⟩⟩
def ty110 : TD := ⟨.oth, 1, 8, false, [.nilFunc]⟩
theorem ty110_ok : ty110.ok Tryz.prog 110 := ⟨⟨by kernel_rfl, by kernel_rfl⟩, trivial⟩
def ty117 : TD := ⟨.st [(0, 61, 1), (1, 62, 1)], 2, 16, true, [.pointer none, .pointer none]⟩
theorem ty117_ok : ty117.ok Tryz.prog 117 := ⟨⟨by kernel_rfl, by kernel_rfl⟩, ⟨fun f off ft n h => by
    match f, h with
    | 0, h => cases h; exact ⟨by kernel_rfl⟩
    | 1, h => cases h; exact ⟨by kernel_rfl⟩
    | f + 2, h => simp at h, ⟨by kernel_rfl⟩⟩⟩
def ty118 : TD := ⟨.st [(0, 61, 1), (1, 62, 1)], 2, 16, true, [.pointer none, .pointer none]⟩
theorem ty118_ok : ty118.ok Tryz.prog 118 := ⟨⟨by kernel_rfl, by kernel_rfl⟩, ⟨fun f off ft n h => by
    match f, h with
    | 0, h => cases h; exact ⟨by kernel_rfl⟩
    | 1, h => cases h; exact ⟨by kernel_rfl⟩
    | f + 2, h => simp at h, ⟨by kernel_rfl⟩⟩⟩
def ty119 : TD := ⟨.ptr 192, 1, 8, false, [.pointer none]⟩
theorem ty119_ok : ty119.ok Tryz.prog 119 := ⟨⟨by kernel_rfl, by kernel_rfl⟩, (show Tryz.prog.underlying 119 = some (.pointer 192) by kernel_rfl)⟩
def ty120 : TD := ⟨.ptr 162, 1, 8, false, [.pointer none]⟩
theorem ty120_ok : ty120.ok Tryz.prog 120 := ⟨⟨by kernel_rfl, by kernel_rfl⟩, (show Tryz.prog.underlying 120 = some (.pointer 162) by kernel_rfl)⟩
def ty121 : TD := ⟨.st [(0, 3, 1), (1, 3, 1), (2, 3, 1), (3, 45, 1), (4, 107, 1), (5, 119, 1), (6, 120, 1)], 7, 56, true, [.int .i64 0, .int .i64 0, .int .i64 0, .pointer none, .pointer none, .pointer none, .pointer none]⟩
theorem ty121_ok : ty121.ok Tryz.prog 121 := ⟨⟨by kernel_rfl, by kernel_rfl⟩, ⟨fun f off ft n h => by
    match f, h with
    | 0, h => cases h; exact ⟨by kernel_rfl⟩
    | 1, h => cases h; exact ⟨by kernel_rfl⟩
    | 2, h => cases h; exact ⟨by kernel_rfl⟩
    | 3, h => cases h; exact ⟨by kernel_rfl⟩
    | 4, h => cases h; exact ⟨by kernel_rfl⟩
    | 5, h => cases h; exact ⟨by kernel_rfl⟩
    | 6, h => cases h; exact ⟨by kernel_rfl⟩
    | f + 7, h => simp at h, ⟨by kernel_rfl⟩⟩⟩
def ty122 : TD := ⟨.st [(0, 3, 1), (1, 3, 1), (2, 3, 1), (3, 45, 1), (4, 107, 1), (5, 119, 1), (6, 120, 1)], 7, 56, true, [.int .i64 0, .int .i64 0, .int .i64 0, .pointer none, .pointer none, .pointer none, .pointer none]⟩
theorem ty122_ok : ty122.ok Tryz.prog 122 := ⟨⟨by kernel_rfl, by kernel_rfl⟩, ⟨fun f off ft n h => by
    match f, h with
    | 0, h => cases h; exact ⟨by kernel_rfl⟩
    | 1, h => cases h; exact ⟨by kernel_rfl⟩
    | 2, h => cases h; exact ⟨by kernel_rfl⟩
    | 3, h => cases h; exact ⟨by kernel_rfl⟩
    | 4, h => cases h; exact ⟨by kernel_rfl⟩
    | 5, h => cases h; exact ⟨by kernel_rfl⟩
    | 6, h => cases h; exact ⟨by kernel_rfl⟩
    | f + 7, h => simp at h, ⟨by kernel_rfl⟩⟩⟩
def ty123 : TD := ⟨.int .u64, 1, 8, false, [.int .u64 0]⟩
theorem ty123_ok : ty123.ok Tryz.prog 123 := ⟨⟨by kernel_rfl, by kernel_rfl⟩, (show Tryz.prog.underlying 123 = some (.int .u64) by kernel_rfl)⟩
def ty124 : TD := ⟨.st [(0, 62, 1)], 1, 8, true, [.pointer none]⟩
theorem ty124_ok : ty124.ok Tryz.prog 124 := ⟨⟨by kernel_rfl, by kernel_rfl⟩, ⟨fun f off ft n h => by
    match f, h with
    | 0, h => cases h; exact ⟨by kernel_rfl⟩
    | f + 1, h => simp at h, ⟨by kernel_rfl⟩⟩⟩
def ty125 : TD := ⟨.st [(0, 62, 1)], 1, 8, true, [.pointer none]⟩
theorem ty125_ok : ty125.ok Tryz.prog 125 := ⟨⟨by kernel_rfl, by kernel_rfl⟩, ⟨fun f off ft n h => by
    match f, h with
    | 0, h => cases h; exact ⟨by kernel_rfl⟩
    | f + 1, h => simp at h, ⟨by kernel_rfl⟩⟩⟩
def ty127 : TD := ⟨.oth, 1, 8, false, [.nilFunc]⟩
theorem ty127_ok : ty127.ok Tryz.prog 127 := ⟨⟨by kernel_rfl, by kernel_rfl⟩, trivial⟩
def ty128 : TD := ⟨.oth, 1, 8, false, [.nilFunc]⟩
theorem ty128_ok : ty128.ok Tryz.prog 128 := ⟨⟨by kernel_rfl, by kernel_rfl⟩, trivial⟩
def ty130 : TD := ⟨.ptr 171, 1, 8, false, [.pointer none]⟩
theorem ty130_ok : ty130.ok Tryz.prog 130 := ⟨⟨by kernel_rfl, by kernel_rfl⟩, (show Tryz.prog.underlying 130 = some (.pointer 171) by kernel_rfl)⟩
def ty131 : TD := ⟨.st [(0, 130, 1)], 1, 8, true, [.pointer none]⟩
theorem ty131_ok : ty131.ok Tryz.prog 131 := ⟨⟨by kernel_rfl, by kernel_rfl⟩, ⟨fun f off ft n h => by
    match f, h with
    | 0, h => cases h; exact ⟨by kernel_rfl⟩
    | f + 1, h => simp at h, ⟨by kernel_rfl⟩⟩⟩
def ty132 : TD := ⟨.st [(0, 130, 1)], 1, 8, true, [.pointer none]⟩
theorem ty132_ok : ty132.ok Tryz.prog 132 := ⟨⟨by kernel_rfl, by kernel_rfl⟩, ⟨fun f off ft n h => by
    match f, h with
    | 0, h => cases h; exact ⟨by kernel_rfl⟩
    | f + 1, h => simp at h, ⟨by kernel_rfl⟩⟩⟩
def ty145 : TD := ⟨.st [(0, 48, 1)], 1, 8, true, [.pointer none]⟩
theorem ty145_ok : ty145.ok Tryz.prog 145 := ⟨⟨by kernel_rfl, by kernel_rfl⟩, ⟨fun f off ft n h => by
    match f, h with
    | 0, h => cases h; exact ⟨by kernel_rfl⟩
    | f + 1, h => simp at h, ⟨by kernel_rfl⟩⟩⟩
def ty146 : TD := ⟨.st [(0, 48, 1)], 1, 8, true, [.pointer none]⟩
theorem ty146_ok : ty146.ok Tryz.prog 146 := ⟨⟨by kernel_rfl, by kernel_rfl⟩, ⟨fun f off ft n h => by
    match f, h with
    | 0, h => cases h; exact ⟨by kernel_rfl⟩
    | f + 1, h => simp at h, ⟨by kernel_rfl⟩⟩⟩
def ty148 : TD := ⟨.sl 55, 1, 24, false, [.slice none 0 0]⟩
theorem ty148_ok : ty148.ok Tryz.prog 148 := ⟨⟨by kernel_rfl, by kernel_rfl⟩, ⟨by kernel_rfl⟩⟩
def ty149 : TD := ⟨.st [(0, 148, 1), (1, 3, 1)], 2, 32, true, [.slice none 0 0, .int .i64 0]⟩
theorem ty149_ok : ty149.ok Tryz.prog 149 := ⟨⟨by kernel_rfl, by kernel_rfl⟩, ⟨fun f off ft n h => by
    match f, h with
    | 0, h => cases h; exact ⟨by kernel_rfl⟩
    | 1, h => cases h; exact ⟨by kernel_rfl⟩
    | f + 2, h => simp at h, ⟨by kernel_rfl⟩⟩⟩
def ty150 : TD := ⟨.st [(0, 148, 1), (1, 3, 1)], 2, 32, true, [.slice none 0 0, .int .i64 0]⟩
theorem ty150_ok : ty150.ok Tryz.prog 150 := ⟨⟨by kernel_rfl, by kernel_rfl⟩, ⟨fun f off ft n h => by
    match f, h with
    | 0, h => cases h; exact ⟨by kernel_rfl⟩
    | 1, h => cases h; exact ⟨by kernel_rfl⟩
    | f + 2, h => simp at h, ⟨by kernel_rfl⟩⟩⟩
def ty160 : TD := ⟨.sl 21, 1, 24, false, [.slice none 0 0]⟩
theorem ty160_ok : ty160.ok Tryz.prog 160 := ⟨⟨by kernel_rfl, by kernel_rfl⟩, ⟨by kernel_rfl⟩⟩
def ty161 : TD := ⟨.st [(0, 148, 1), (1, 119, 1), (2, 160, 1), (3, 160, 1), (4, 3, 1)], 5, 88, true, [.slice none 0 0, .pointer none, .slice none 0 0, .slice none 0 0, .int .i64 0]⟩
theorem ty161_ok : ty161.ok Tryz.prog 161 := ⟨⟨by kernel_rfl, by kernel_rfl⟩, ⟨fun f off ft n h => by
    match f, h with
    | 0, h => cases h; exact ⟨by kernel_rfl⟩
    | 1, h => cases h; exact ⟨by kernel_rfl⟩
    | 2, h => cases h; exact ⟨by kernel_rfl⟩
    | 3, h => cases h; exact ⟨by kernel_rfl⟩
    | 4, h => cases h; exact ⟨by kernel_rfl⟩
    | f + 5, h => simp at h, ⟨by kernel_rfl⟩⟩⟩
def ty162 : TD := ⟨.st [(0, 148, 1), (1, 119, 1), (2, 160, 1), (3, 160, 1), (4, 3, 1)], 5, 88, true, [.slice none 0 0, .pointer none, .slice none 0 0, .slice none 0 0, .int .i64 0]⟩
theorem ty162_ok : ty162.ok Tryz.prog 162 := ⟨⟨by kernel_rfl, by kernel_rfl⟩, ⟨fun f off ft n h => by
    match f, h with
    | 0, h => cases h; exact ⟨by kernel_rfl⟩
    | 1, h => cases h; exact ⟨by kernel_rfl⟩
    | 2, h => cases h; exact ⟨by kernel_rfl⟩
    | 3, h => cases h; exact ⟨by kernel_rfl⟩
    | 4, h => cases h; exact ⟨by kernel_rfl⟩
    | f + 5, h => simp at h, ⟨by kernel_rfl⟩⟩⟩
def ty165 : TD := ⟨.oth, 1, 8, false, [.nilFunc]⟩
theorem ty165_ok : ty165.ok Tryz.prog 165 := ⟨⟨by kernel_rfl, by kernel_rfl⟩, trivial⟩
def ty166 : TD := ⟨.oth, 1, 8, false, [.nilFunc]⟩
theorem ty166_ok : ty166.ok Tryz.prog 166 := ⟨⟨by kernel_rfl, by kernel_rfl⟩, trivial⟩
def ty167 : TD := ⟨.oth, 1, 8, false, [.nilFunc]⟩
theorem ty167_ok : ty167.ok Tryz.prog 167 := ⟨⟨by kernel_rfl, by kernel_rfl⟩, trivial⟩
def ty168 : TD := ⟨.st [(0, 160, 1), (1, 166, 1), (2, 167, 1)], 3, 40, true, [.slice none 0 0, .nilFunc, .nilFunc]⟩
theorem ty168_ok : ty168.ok Tryz.prog 168 := ⟨⟨by kernel_rfl, by kernel_rfl⟩, ⟨fun f off ft n h => by
    match f, h with
    | 0, h => cases h; exact ⟨by kernel_rfl⟩
    | 1, h => cases h; exact ⟨by kernel_rfl⟩
    | 2, h => cases h; exact ⟨by kernel_rfl⟩
    | f + 3, h => simp at h, ⟨by kernel_rfl⟩⟩⟩
def ty169 : TD := ⟨.st [(0, 160, 1), (1, 166, 1), (2, 167, 1)], 3, 40, true, [.slice none 0 0, .nilFunc, .nilFunc]⟩
theorem ty169_ok : ty169.ok Tryz.prog 169 := ⟨⟨by kernel_rfl, by kernel_rfl⟩, ⟨fun f off ft n h => by
    match f, h with
    | 0, h => cases h; exact ⟨by kernel_rfl⟩
    | 1, h => cases h; exact ⟨by kernel_rfl⟩
    | 2, h => cases h; exact ⟨by kernel_rfl⟩
    | f + 3, h => simp at h, ⟨by kernel_rfl⟩⟩⟩
def ty170 : TD := ⟨.st [(0, 22, 1), (1, 169, 3)], 4, 64, true, [.slice none 0 0, .slice none 0 0, .nilFunc, .nilFunc]⟩
theorem ty170_ok : ty170.ok Tryz.prog 170 := ⟨⟨by kernel_rfl, by kernel_rfl⟩, ⟨fun f off ft n h => by
    match f, h with
    | 0, h => cases h; exact ⟨by kernel_rfl⟩
    | 1, h => cases h; exact ⟨by kernel_rfl⟩
    | f + 2, h => simp at h, ⟨by kernel_rfl⟩⟩⟩
def ty171 : TD := ⟨.st [(0, 22, 1), (1, 169, 3)], 4, 64, true, [.slice none 0 0, .slice none 0 0, .nilFunc, .nilFunc]⟩
theorem ty171_ok : ty171.ok Tryz.prog 171 := ⟨⟨by kernel_rfl, by kernel_rfl⟩, ⟨fun f off ft n h => by
    match f, h with
    | 0, h => cases h; exact ⟨by kernel_rfl⟩
    | 1, h => cases h; exact ⟨by kernel_rfl⟩
    | f + 2, h => simp at h, ⟨by kernel_rfl⟩⟩⟩
def ty175 : TD := ⟨.oth, 1, 8, false, [.nilFunc]⟩
theorem ty175_ok : ty175.ok Tryz.prog 175 := ⟨⟨by kernel_rfl, by kernel_rfl⟩, trivial⟩
def ty183 : TD := ⟨.oth, 1, 8, false, [.nilFunc]⟩
theorem ty183_ok : ty183.ok Tryz.prog 183 := ⟨⟨by kernel_rfl, by kernel_rfl⟩, trivial⟩
def ty184 : TD := ⟨.oth, 1, 8, false, [.nilFunc]⟩
theorem ty184_ok : ty184.ok Tryz.prog 184 := ⟨⟨by kernel_rfl, by kernel_rfl⟩, trivial⟩
def ty190 : TD := ⟨.sl 193, 1, 24, false, [.slice none 0 0]⟩
theorem ty190_ok : ty190.ok Tryz.prog 190 := ⟨⟨by kernel_rfl, by kernel_rfl⟩, ⟨by kernel_rfl⟩⟩
def ty191 : TD := ⟨.st [(0, 148, 1), (1, 26, 1), (2, 190, 1), (3, 3, 1)], 4, 80, true, [.slice none 0 0, .slice none 0 0, .slice none 0 0, .int .i64 0]⟩
theorem ty191_ok : ty191.ok Tryz.prog 191 := ⟨⟨by kernel_rfl, by kernel_rfl⟩, ⟨fun f off ft n h => by
    match f, h with
    | 0, h => cases h; exact ⟨by kernel_rfl⟩
    | 1, h => cases h; exact ⟨by kernel_rfl⟩
    | 2, h => cases h; exact ⟨by kernel_rfl⟩
    | 3, h => cases h; exact ⟨by kernel_rfl⟩
    | f + 4, h => simp at h, ⟨by kernel_rfl⟩⟩⟩
def ty192 : TD := ⟨.st [(0, 148, 1), (1, 26, 1), (2, 190, 1), (3, 3, 1)], 4, 80, true, [.slice none 0 0, .slice none 0 0, .slice none 0 0, .int .i64 0]⟩
theorem ty192_ok : ty192.ok Tryz.prog 192 := ⟨⟨by kernel_rfl, by kernel_rfl⟩, ⟨fun f off ft n h => by
    match f, h with
    | 0, h => cases h; exact ⟨by kernel_rfl⟩
    | 1, h => cases h; exact ⟨by kernel_rfl⟩
    | 2, h => cases h; exact ⟨by kernel_rfl⟩
    | 3, h => cases h; exact ⟨by kernel_rfl⟩
    | f + 4, h => simp at h, ⟨by kernel_rfl⟩⟩⟩
def ty193 : TD := ⟨.int .u16, 1, 2, false, [.int .u16 0]⟩
theorem ty193_ok : ty193.ok Tryz.prog 193 := ⟨⟨by kernel_rfl, by kernel_rfl⟩, (show Tryz.prog.underlying 193 = some (.int .u16) by kernel_rfl)⟩
def ty194 : TD := ⟨.ptr 169, 1, 8, false, [.pointer none]⟩
theorem ty194_ok : ty194.ok Tryz.prog 194 := ⟨⟨by kernel_rfl, by kernel_rfl⟩, (show Tryz.prog.underlying 194 = some (.pointer 169) by kernel_rfl)⟩
def ty201 : TD := ⟨.int .i64, 1, 8, false, [.int .i64 0]⟩
theorem ty201_ok : ty201.ok Tryz.prog 201 := ⟨⟨by kernel_rfl, by kernel_rfl⟩, (show Tryz.prog.underlying 201 = some (.int .i64) by kernel_rfl)⟩
def ty208 : TD := ⟨.int .u32, 1, 4, false, [.int .u32 0]⟩
theorem ty208_ok : ty208.ok Tryz.prog 208 := ⟨⟨by kernel_rfl, by kernel_rfl⟩, (show Tryz.prog.underlying 208 = some (.int .u32) by kernel_rfl)⟩
def ty209 : TD := ⟨.int .u64, 1, 8, false, [.int .u64 0]⟩
theorem ty209_ok : ty209.ok Tryz.prog 209 := ⟨⟨by kernel_rfl, by kernel_rfl⟩, (show Tryz.prog.underlying 209 = some (.int .u64) by kernel_rfl)⟩
def ty213 : TD := ⟨.ptr 3, 1, 8, false, [.pointer none]⟩
theorem ty213_ok : ty213.ok Tryz.prog 213 := ⟨⟨by kernel_rfl, by kernel_rfl⟩, (show Tryz.prog.underlying 213 = some (.pointer 3) by kernel_rfl)⟩
def ty215 : TD := ⟨.ptr 209, 1, 8, false, [.pointer none]⟩
theorem ty215_ok : ty215.ok Tryz.prog 215 := ⟨⟨by kernel_rfl, by kernel_rfl⟩, (show Tryz.prog.underlying 215 = some (.pointer 209) by kernel_rfl)⟩
def ty220 : TD := ⟨.arr 0 16, 0, 0, true, []⟩
theorem ty220_ok : ty220.ok Tryz.prog 220 := ⟨⟨by kernel_rfl, by kernel_rfl⟩, ⟨by kernel_rfl⟩⟩
def ty221 : TD := ⟨.st [(0, 220, 0)], 0, 0, true, []⟩
theorem ty221_ok : ty221.ok Tryz.prog 221 := ⟨⟨by kernel_rfl, by kernel_rfl⟩, ⟨fun f off ft n h => by
    match f, h with
    | 0, h => cases h; exact ⟨by kernel_rfl⟩
    | f + 1, h => simp at h, ⟨by kernel_rfl⟩⟩⟩
def ty222 : TD := ⟨.st [(0, 220, 0)], 0, 0, true, []⟩
theorem ty222_ok : ty222.ok Tryz.prog 222 := ⟨⟨by kernel_rfl, by kernel_rfl⟩, ⟨fun f off ft n h => by
    match f, h with
    | 0, h => cases h; exact ⟨by kernel_rfl⟩
    | f + 1, h => simp at h, ⟨by kernel_rfl⟩⟩⟩
def T : Ty := (.node 106 ty106 (.node 44 ty44 (.node 16 ty16 (.node 7 ty7 (.node 4 ty4 (.node 2 ty2 (.node 1 ty1 .leaf .leaf) (.node 3 ty3 .leaf .leaf)) (.node 6 ty6 (.node 5 ty5 .leaf .leaf) .leaf)) (.node 10 ty10 (.node 9 ty9 (.node 8 ty8 .leaf .leaf) .leaf) (.node 12 ty12 (.node 11 ty11 .leaf .leaf) .leaf))) (.node 26 ty26 (.node 23 ty23 (.node 22 ty22 (.node 21 ty21 .leaf .leaf) .leaf) (.node 25 ty25 (.node 24 ty24 .leaf .leaf) .leaf)) (.node 37 ty37 (.node 31 ty31 (.node 30 ty30 .leaf .leaf) .leaf) (.node 42 ty42 (.node 38 ty38 .leaf .leaf) .leaf)))) (.node 82 ty82 (.node 60 ty60 (.node 54 ty54 (.node 47 ty47 (.node 45 ty45 .leaf .leaf) (.node 48 ty48 .leaf .leaf)) (.node 58 ty58 (.node 55 ty55 .leaf .leaf) .leaf)) (.node 64 ty64 (.node 62 ty62 (.node 61 ty61 .leaf .leaf) .leaf) (.node 75 ty75 (.node 67 ty67 .leaf .leaf) .leaf))) (.node 91 ty91 (.node 86 ty86 (.node 85 ty85 (.node 84 ty84 .leaf .leaf) .leaf) (.node 90 ty90 (.node 89 ty89 .leaf .leaf) .leaf)) (.node 95 ty95 (.node 94 ty94 (.node 92 ty92 .leaf .leaf) .leaf) (.node 105 ty105 (.node 101 ty101 .leaf .leaf) .leaf))))) (.node 161 ty161 (.node 125 ty125 (.node 119 ty119 (.node 110 ty110 (.node 108 ty108 (.node 107 ty107 .leaf .leaf) (.node 109 ty109 .leaf .leaf)) (.node 118 ty118 (.node 117 ty117 .leaf .leaf) .leaf)) (.node 122 ty122 (.node 121 ty121 (.node 120 ty120 .leaf .leaf) .leaf) (.node 124 ty124 (.node 123 ty123 .leaf .leaf) .leaf))) (.node 145 ty145 (.node 130 ty130 (.node 128 ty128 (.node 127 ty127 .leaf .leaf) .leaf) (.node 132 ty132 (.node 131 ty131 .leaf .leaf) .leaf)) (.node 149 ty149 (.node 148 ty148 (.node 146 ty146 .leaf .leaf) .leaf) (.node 160 ty160 (.node 150 ty150 .leaf .leaf) .leaf)))) (.node 191 ty191 (.node 170 ty170 (.node 167 ty167 (.node 165 ty165 (.node 162 ty162 .leaf .leaf) (.node 166 ty166 .leaf .leaf)) (.node 169 ty169 (.node 168 ty168 .leaf .leaf) .leaf)) (.node 183 ty183 (.node 175 ty175 (.node 171 ty171 .leaf .leaf) .leaf) (.node 190 ty190 (.node 184 ty184 .leaf .leaf) .leaf))) (.node 209 ty209 (.node 194 ty194 (.node 193 ty193 (.node 192 ty192 .leaf .leaf) .leaf) (.node 208 ty208 (.node 201 ty201 .leaf .leaf) .leaf)) (.node 220 ty220 (.node 215 ty215 (.node 213 ty213 .leaf .leaf) .leaf) (.node 222 ty222 (.node 221 ty221 .leaf .leaf) .leaf))))))
theorem T_ok : T.ok Tryz.prog := Ty.ok_of (show T.All Tryz.prog from ⟨ty106_ok, ⟨ty44_ok, ⟨ty16_ok, ⟨ty7_ok, ⟨ty4_ok, ⟨ty2_ok, ⟨ty1_ok, trivial, trivial⟩, ⟨ty3_ok, trivial, trivial⟩⟩, ⟨ty6_ok, ⟨ty5_ok, trivial, trivial⟩, trivial⟩⟩, ⟨ty10_ok, ⟨ty9_ok, ⟨ty8_ok, trivial, trivial⟩, trivial⟩, ⟨ty12_ok, ⟨ty11_ok, trivial, trivial⟩, trivial⟩⟩⟩, ⟨ty26_ok, ⟨ty23_ok, ⟨ty22_ok, ⟨ty21_ok, trivial, trivial⟩, trivial⟩, ⟨ty25_ok, ⟨ty24_ok, trivial, trivial⟩, trivial⟩⟩, ⟨ty37_ok, ⟨ty31_ok, ⟨ty30_ok, trivial, trivial⟩, trivial⟩, ⟨ty42_ok, ⟨ty38_ok, trivial, trivial⟩, trivial⟩⟩⟩⟩, ⟨ty82_ok, ⟨ty60_ok, ⟨ty54_ok, ⟨ty47_ok, ⟨ty45_ok, trivial, trivial⟩, ⟨ty48_ok, trivial, trivial⟩⟩, ⟨ty58_ok, ⟨ty55_ok, trivial, trivial⟩, trivial⟩⟩, ⟨ty64_ok, ⟨ty62_ok, ⟨ty61_ok, trivial, trivial⟩, trivial⟩, ⟨ty75_ok, ⟨ty67_ok, trivial, trivial⟩, trivial⟩⟩⟩, ⟨ty91_ok, ⟨ty86_ok, ⟨ty85_ok, ⟨ty84_ok, trivial, trivial⟩, trivial⟩, ⟨ty90_ok, ⟨ty89_ok, trivial, trivial⟩, trivial⟩⟩, ⟨ty95_ok, ⟨ty94_ok, ⟨ty92_ok, trivial, trivial⟩, trivial⟩, ⟨ty105_ok, ⟨ty101_ok, trivial, trivial⟩, trivial⟩⟩⟩⟩⟩, ⟨ty161_ok, ⟨ty125_ok, ⟨ty119_ok, ⟨ty110_ok, ⟨ty108_ok, ⟨ty107_ok, trivial, trivial⟩, ⟨ty109_ok, trivial, trivial⟩⟩, ⟨ty118_ok, ⟨ty117_ok, trivial, trivial⟩, trivial⟩⟩, ⟨ty122_ok, ⟨ty121_ok, ⟨ty120_ok, trivial, trivial⟩, trivial⟩, ⟨ty124_ok, ⟨ty123_ok, trivial, trivial⟩, trivial⟩⟩⟩, ⟨ty145_ok, ⟨ty130_ok, ⟨ty128_ok, ⟨ty127_ok, trivial, trivial⟩, trivial⟩, ⟨ty132_ok, ⟨ty131_ok, trivial, trivial⟩, trivial⟩⟩, ⟨ty149_ok, ⟨ty148_ok, ⟨ty146_ok, trivial, trivial⟩, trivial⟩, ⟨ty160_ok, ⟨ty150_ok, trivial, trivial⟩, trivial⟩⟩⟩⟩, ⟨ty191_ok, ⟨ty170_ok, ⟨ty167_ok, ⟨ty165_ok, ⟨ty162_ok, trivial, trivial⟩, ⟨ty166_ok, trivial, trivial⟩⟩, ⟨ty169_ok, ⟨ty168_ok, trivial, trivial⟩, trivial⟩⟩, ⟨ty183_ok, ⟨ty175_ok, ⟨ty171_ok, trivial, trivial⟩, trivial⟩, ⟨ty190_ok, ⟨ty184_ok, trivial, trivial⟩, trivial⟩⟩⟩, ⟨ty209_ok, ⟨ty194_ok, ⟨ty193_ok, ⟨ty192_ok, trivial, trivial⟩, trivial⟩, ⟨ty208_ok, ⟨ty201_ok, trivial, trivial⟩, trivial⟩⟩, ⟨ty220_ok, ⟨ty215_ok, ⟨ty213_ok, trivial, trivial⟩, trivial⟩, ⟨ty222_ok, ⟨ty221_ok, trivial, trivial⟩, trivial⟩⟩⟩⟩⟩⟩)
theorem T_mix : (Tryz.prog).follows .mixedOrders = true := by kernel_rfl
noncomputable abbrev P : Program := Tryz.prog
def val (B : Nat) : List Nat → Nat
  | [] => 0
  | x :: l => x + B * val B l
def Dig (B : Nat) (l : List Nat) : Prop := ∀ x, x ∈ l → x < B
theorem Dig.nil {B : Nat} : Dig B [] := by intro x h; cases h
theorem Dig.cons {B x : Nat} {l : List Nat} (hx : x < B) (h : Dig B l) : Dig B (x :: l) := by
  intro y hy
  simp only [List.mem_cons] at hy
  rcases hy with rfl | hy
  · exact hx
  · exact h y hy
theorem Dig.app {B : Nat} {l m : List Nat} (h : Dig B l) (h' : Dig B m) : Dig B (l ++ m) := by
  intro y hy
  rcases List.mem_append.1 hy with hy | hy
  · exact h y hy
  · exact h' y hy
theorem Dig.snoc {B x : Nat} {l : List Nat} (h : Dig B l) (hx : x < B) : Dig B (l ++ [x]) := h.app (.cons hx .nil)
theorem Dig.tail {B x : Nat} {l : List Nat} (h : Dig B (x :: l)) : Dig B l := fun y hy => h y (by simp [hy])
theorem Dig.take {B n : Nat} {l : List Nat} (h : Dig B l) : Dig B (l.take n) := fun y hy => h y (List.mem_of_mem_take hy)
theorem Dig.drop {B n : Nat} {l : List Nat} (h : Dig B l) : Dig B (l.drop n) := fun y hy => h y (List.mem_of_mem_drop hy)
theorem Dig.set {B i x : Nat} {l : List Nat} (h : Dig B l) (hx : x < B) : Dig B (l.set i x) := fun y hy => by
  rcases List.mem_or_eq_of_mem_set hy with hy | rfl
  · exact h y hy
  · exact hx
theorem Dig.getD {B : Nat} {l : List Nat} (h : Dig B l) (hB : 0 < B) (i : Nat) : l.getD i 0 < B := by
  rw [List.getD_eq_getElem?_getD]
  cases hi : l[i]? with
  | none => exact hB
  | some x => exact h x (List.mem_of_getElem? hi)
theorem val_lt {B : Nat} (hB : 0 < B) : ∀ {l : List Nat}, Dig B l → val B l < B ^ l.length
  | [], _ => by simp [val]
  | x :: l, h => by
    have h1 := val_lt hB h.tail
    have h2 := h x (by simp)
    simp only [val, List.length_cons, Nat.pow_succ]
    have : B * (val B l + 1) ≤ B * B ^ l.length := Nat.mul_le_mul_left _ h1
    rw [Nat.mul_add, Nat.mul_one] at this
    rw [Nat.mul_comm (B ^ l.length)]
    omega
def dg (B n : Nat) : List Nat := if _h : n = 0 ∨ B < 2 then [] else n % B :: dg B (n / B)
  termination_by n
  decreasing_by exact Nat.div_lt_self (by omega) (by omega)
theorem dg_zero (B : Nat) : dg B 0 = [] := by rw [dg]; simp
theorem dg_pos {B n : Nat} (hB : 2 ≤ B) (hn : n ≠ 0) : dg B n = n % B :: dg B (n / B) := by
  rw [dg, dif_neg (by omega)]
theorem dg_nil {B n : Nat} (hB : 2 ≤ B) : dg B n = [] ↔ n = 0 := by
  constructor
  · intro h
    rcases Nat.eq_zero_or_pos n with h0 | h0
    · exact h0
    · rw [dg_pos hB (by omega)] at h; cases h
  · rintro rfl; exact dg_zero B
theorem val_dg {B : Nat} (hB : 2 ≤ B) (n : Nat) : val B (dg B n) = n := by
  induction n using Nat.strongRecOn with
  | _ n ih =>
    rcases Nat.eq_zero_or_pos n with rfl | h
    · rw [dg_zero]; rfl
    · rw [dg_pos hB (by omega), val, ih _ (Nat.div_lt_self h (by omega))]
      exact Nat.mod_add_div n B
theorem dig_dg {B : Nat} (hB : 2 ≤ B) (n : Nat) : Dig B (dg B n) := by
  induction n using Nat.strongRecOn with
  | _ n ih =>
    rcases Nat.eq_zero_or_pos n with rfl | h
    · rw [dg_zero]; exact .nil
    · rw [dg_pos hB (by omega)]
      exact .cons (Nat.mod_lt _ (by omega)) (ih _ (Nat.div_lt_self h (by omega)))
theorem dg_len {B : Nat} (hB : 2 ≤ B) : ∀ {k n : Nat}, n < B ^ k → (dg B n).length ≤ k
  | 0, n, h => by
    have : n = 0 := by simpa using h
    subst this; rw [dg_zero]; simp
  | k + 1, n, h => by
    rcases Nat.eq_zero_or_pos n with rfl | h0
    · rw [dg_zero]; simp
    · rw [dg_pos hB (by omega), List.length_cons]
      have := dg_len hB (k := k) (n := n / B) (by rw [Nat.div_lt_iff_lt_mul (by omega)]; rw [Nat.pow_succ] at h; exact h)
      omega
theorem lt_dg_len {B : Nat} (hB : 2 ≤ B) (n : Nat) : n < B ^ (dg B n).length := by
  have := val_lt (by omega : 0 < B) (dig_dg hB n)
  rwa [val_dg hB] at this
theorem dg_last {B : Nat} (hB : 2 ≤ B) {n : Nat} (h : n ≠ 0) : B ^ ((dg B n).length - 1) ≤ n := by
  apply Nat.le_of_not_lt
  intro hlt
  have := dg_len hB hlt
  have h1 : (dg B n).length ≠ 0 := by
    intro h0
    exact h ((dg_nil hB).1 (List.length_eq_zero_iff.1 h0))
  omega
theorem nanI_ct (n : Int) : Ct P 178 [.c (eI .i64 n)] [.c (.sc (.bool false))] := by
  refine Ct.go T_ok T_mix (N := 6) Tryz.func178 rfl rfl rfl rfl ?_
  have e : (n != n) = false := by simp
  exact ⟨trivial, r1 (by rw [← e]; rfl), trivial⟩
def cmpI (a b : Int) : Int := if a < b then -1 else if b < a then 1 else 0
theorem cmpI_ct (a b : Int) : Ct P 165 [.c (eI .i64 a), .c (eI .i64 b)] [.c (eI .i64 (cmpI a b))] := by
  refine Ct.go T_ok T_mix (N := 20) Tryz.func165 rfl rfl rfl rfl ?_
  refine X1 _ (nanI_ct a) ?_
  refine X1 _ (nanI_ct b) ?_
  refine dcase (fun h => ?_) (fun h => ?_)
  · exact ⟨trivial, r1 (iE (by rw [cmpI, if_pos h])), trivial⟩
  · refine dcase (fun h2 => ?_) (fun h2 => ?_)
    · exact ⟨trivial, r1 (iE (by rw [cmpI, if_neg h, if_pos h2])), trivial⟩
    · exact ⟨trivial, r1 (iE (by rw [cmpI, if_neg h, if_neg h2])), trivial⟩
def blen (n : Nat) : Nat := (dg 2 n).length
theorem blen_zero : blen 0 = 0 := by rw [blen, dg_zero]; rfl
theorem blen_pos {n : Nat} (h : n ≠ 0) : blen n = 1 + blen (n / 2) := by rw [blen, dg_pos (by omega) h, List.length_cons, Nat.add_comm]; rfl
theorem blen_shift : ∀ (k : Nat) {n : Nat}, 2 ^ k ≤ n → blen n = k + blen (n / 2 ^ k)
  | 0, n, _ => by simp
  | k + 1, n, h => by
    rw [Nat.pow_succ] at h
    have hp : 0 < 2 ^ k := Nat.two_pow_pos k
    rw [blen_pos (by omega), blen_shift k (n := n / 2) (by omega), Nat.div_div_eq_div_mul, Nat.pow_succ, Nat.mul_comm 2]
    omega
theorem lt_blen (n : Nat) : n < 2 ^ blen n := lt_dg_len (by omega) n
theorem blen_le {n k : Nat} (h : n < 2 ^ k) : blen n ≤ k := dg_len (by omega) h
theorem le_blen {n : Nat} (h : n ≠ 0) : 2 ^ (blen n - 1) ≤ n := dg_last (by omega) h
def len8 (n : Nat) : Nat := if n < 1 then 0 else if n < 2 then 1 else if n < 4 then 2 else if n < 8 then 3 else if n < 16 then 4 else if n < 32 then 5 else if n < 64 then 6 else if n < 128 then 7 else 8
theorem len8_le (n : Nat) : len8 n ≤ 8 := by
  unfold len8
  repeat' split
  all_goals omega
theorem blen_is {n k : Nat} (h1 : 2 ^ k ≤ n) (h2 : n < 2 ^ (k + 1)) : blen n = k + 1 := by
  have h3 := blen_le h2
  have h4 := lt_blen n
  apply Nat.le_antisymm h3
  apply Nat.le_of_not_lt
  intro hlt
  have : 2 ^ blen n ≤ 2 ^ k := Nat.pow_le_pow_right (by omega) (by omega)
  omega
theorem len8_blen {n : Nat} (h : n < 256) : len8 n = blen n := by
  unfold len8
  split
  · have : n = 0 := by omega
    subst this; exact blen_zero.symm
  · split
    · exact (blen_is (k := 0) (by omega) (by omega)).symm
    · split
      · exact (blen_is (k := 1) (by omega) (by omega)).symm
      · split
        · exact (blen_is (k := 2) (by omega) (by omega)).symm
        · split
          · exact (blen_is (k := 3) (by omega) (by omega)).symm
          · split
            · exact (blen_is (k := 4) (by omega) (by omega)).symm
            · split
              · exact (blen_is (k := 5) (by omega) (by omega)).symm
              · split
                · exact (blen_is (k := 6) (by omega) (by omega)).symm
                · exact (blen_is (k := 7) (by omega) (by omega)).symm
def chk8 (l : List UInt8) : Bool := l == (List.range 256).map fun i => UInt8.ofNat (len8 i)
theorem tab8 {d : Array UInt8} (h : chk8 d.toList = true) {x : Nat} (hx : x < 256) : d[((x : Nat) : Int).toNat]? = some (UInt8.ofNat (len8 x)) := by
  have e := eq_of_beq h
  rw [Int.toNat_natCast, ← Array.getElem?_toList, e]
  simp [hx]
theorem u8n {n : Nat} (h : n < 256) : ((UInt8.ofNat n).toNat : Int) = n := by
  rw [UInt8.toNat_ofNat_of_lt' (by simpa using h)]
theorem shrN {x k : Nat} (h : k ≤ 64) : (x : Int).fdiv (2 ^ min ((k : Nat) : Int).toNat 64) = ((x / 2 ^ k : Nat) : Int) := by
  rw [Int.toNat_natCast, Nat.min_eq_left h, Int.fdiv_eq_ediv_of_nonneg _ (Int.le_of_lt (Int.pow_pos (by omega)))]
  simp
set_option maxRecDepth 100000 in
theorem len64_ct (v : Nat) (hv : v < 18446744073709551616) : Ct P 175 [.c (nI .u64 v)] [.c (nI .i64 (blen v))] := by
  refine Ct.go T_ok T_mix (N := 25) Tryz.func175 rfl rfl rfl rfl ?_
  refine dcase (fun h0 => ?_) (fun h0 => ?_)
  · obtain ⟨x1, e0⟩ : ∃ x1, x1 = v / 2 ^ 32 := ⟨_, rfl⟩
    have b0 : blen v = 32 + blen x1 := by rw [e0]; exact blen_shift _ (by omega)
    refine And.intro (by omega) (X1 ((x1 : Nat) : Int) (by rw [e0]; exact shrN (k := 32) (by decide)) (And.intro ⟨by omega, by omega⟩ ?_))
    refine dcase (fun h1 => ?_) (fun h1 => ?_)
    · obtain ⟨x2, e1⟩ : ∃ x2, x2 = x1 / 2 ^ 16 := ⟨_, rfl⟩
      have b1 : blen x1 = 16 + blen x2 := by rw [e1]; exact blen_shift _ (by omega)
      refine And.intro (by omega) (X1 ((x2 : Nat) : Int) (by rw [e1]; exact shrN (k := 16) (by decide)) (And.intro ⟨by omega, by omega⟩ ?_))
      refine X1 ((32 + 16 : Nat) : Int) (wI (by simp) (by omega) (by omega)) ?_
      refine dcase (fun h2 => ?_) (fun h2 => ?_)
      · obtain ⟨x3, e2⟩ : ∃ x3, x3 = x2 / 2 ^ 8 := ⟨_, rfl⟩
        have b2 : blen x2 = 8 + blen x3 := by rw [e2]; exact blen_shift _ (by omega)
        refine And.intro (by omega) (X1 ((x3 : Nat) : Int) (by rw [e2]; exact shrN (k := 8) (by decide)) (And.intro ⟨by omega, by omega⟩ ?_))
        refine X1 ((32 + 16 + 8 : Nat) : Int) (wI (by simp) (by omega) (by omega)) ?_
        have hx8 : x3 < 256 := by omega
        refine X1 ((x3 : Nat) : Int) (wrap_of_inR ⟨by omega, by omega⟩) ?_
        refine And.intro (by omega) (X1 (UInt8.ofNat (len8 x3)) (tab8 (by rfl) hx8) ?_)
        have hb := len8_le x3
        refine X1 ((len8 x3 : Nat) : Int) (wI (by rw [u8n (by omega)]) (by omega) (by omega)) ?_
        refine X1 (((32 + 16 + 8) + len8 x3 : Nat) : Int) (wI (by simp) (by omega) (by omega)) ?_
        rw [len8_blen hx8] at *
        exact ⟨trivial, r1 (iE (by rw [show blen v = 32 + 16 + 8 + blen x3 by omega])), trivial⟩
      · skip
        have hx8 : x2 < 256 := by omega
        refine X1 ((x2 : Nat) : Int) (wrap_of_inR ⟨by omega, by omega⟩) ?_
        refine And.intro (by omega) (X1 (UInt8.ofNat (len8 x2)) (tab8 (by rfl) hx8) ?_)
        have hb := len8_le x2
        refine X1 ((len8 x2 : Nat) : Int) (wI (by rw [u8n (by omega)]) (by omega) (by omega)) ?_
        refine X1 (((32 + 16) + len8 x2 : Nat) : Int) (wI (by simp) (by omega) (by omega)) ?_
        rw [len8_blen hx8] at *
        exact ⟨trivial, r1 (iE (by rw [show blen v = 32 + 16 + blen x2 by omega])), trivial⟩
    · skip
      refine dcase (fun h2 => ?_) (fun h2 => ?_)
      · obtain ⟨x3, e2⟩ : ∃ x3, x3 = x1 / 2 ^ 8 := ⟨_, rfl⟩
        have b2 : blen x1 = 8 + blen x3 := by rw [e2]; exact blen_shift _ (by omega)
        refine And.intro (by omega) (X1 ((x3 : Nat) : Int) (by rw [e2]; exact shrN (k := 8) (by decide)) (And.intro ⟨by omega, by omega⟩ ?_))
        refine X1 ((32 + 8 : Nat) : Int) (wI (by simp) (by omega) (by omega)) ?_
        have hx8 : x3 < 256 := by omega
        refine X1 ((x3 : Nat) : Int) (wrap_of_inR ⟨by omega, by omega⟩) ?_
        refine And.intro (by omega) (X1 (UInt8.ofNat (len8 x3)) (tab8 (by rfl) hx8) ?_)
        have hb := len8_le x3
        refine X1 ((len8 x3 : Nat) : Int) (wI (by rw [u8n (by omega)]) (by omega) (by omega)) ?_
        refine X1 (((32 + 8) + len8 x3 : Nat) : Int) (wI (by simp) (by omega) (by omega)) ?_
        rw [len8_blen hx8] at *
        exact ⟨trivial, r1 (iE (by rw [show blen v = 32 + 8 + blen x3 by omega])), trivial⟩
      · skip
        have hx8 : x1 < 256 := by omega
        refine X1 ((x1 : Nat) : Int) (wrap_of_inR ⟨by omega, by omega⟩) ?_
        refine And.intro (by omega) (X1 (UInt8.ofNat (len8 x1)) (tab8 (by rfl) hx8) ?_)
        have hb := len8_le x1
        refine X1 ((len8 x1 : Nat) : Int) (wI (by rw [u8n (by omega)]) (by omega) (by omega)) ?_
        refine X1 (((32) + len8 x1 : Nat) : Int) (wI (by simp) (by omega) (by omega)) ?_
        rw [len8_blen hx8] at *
        exact ⟨trivial, r1 (iE (by rw [show blen v = 32 + blen x1 by omega])), trivial⟩
  · skip
    refine dcase (fun h1 => ?_) (fun h1 => ?_)
    · obtain ⟨x2, e1⟩ : ∃ x2, x2 = v / 2 ^ 16 := ⟨_, rfl⟩
      have b1 : blen v = 16 + blen x2 := by rw [e1]; exact blen_shift _ (by omega)
      refine And.intro (by omega) (X1 ((x2 : Nat) : Int) (by rw [e1]; exact shrN (k := 16) (by decide)) (And.intro ⟨by omega, by omega⟩ ?_))
      refine X1 ((0 + 16 : Nat) : Int) (wI (by simp) (by omega) (by omega)) ?_
      refine dcase (fun h2 => ?_) (fun h2 => ?_)
      · obtain ⟨x3, e2⟩ : ∃ x3, x3 = x2 / 2 ^ 8 := ⟨_, rfl⟩
        have b2 : blen x2 = 8 + blen x3 := by rw [e2]; exact blen_shift _ (by omega)
        refine And.intro (by omega) (X1 ((x3 : Nat) : Int) (by rw [e2]; exact shrN (k := 8) (by decide)) (And.intro ⟨by omega, by omega⟩ ?_))
        refine X1 ((0 + 16 + 8 : Nat) : Int) (wI (by simp) (by omega) (by omega)) ?_
        have hx8 : x3 < 256 := by omega
        refine X1 ((x3 : Nat) : Int) (wrap_of_inR ⟨by omega, by omega⟩) ?_
        refine And.intro (by omega) (X1 (UInt8.ofNat (len8 x3)) (tab8 (by rfl) hx8) ?_)
        have hb := len8_le x3
        refine X1 ((len8 x3 : Nat) : Int) (wI (by rw [u8n (by omega)]) (by omega) (by omega)) ?_
        refine X1 (((0 + 16 + 8) + len8 x3 : Nat) : Int) (wI (by simp) (by omega) (by omega)) ?_
        rw [len8_blen hx8] at *
        exact ⟨trivial, r1 (iE (by rw [show blen v = 0 + 16 + 8 + blen x3 by omega])), trivial⟩
      · skip
        have hx8 : x2 < 256 := by omega
        refine X1 ((x2 : Nat) : Int) (wrap_of_inR ⟨by omega, by omega⟩) ?_
        refine And.intro (by omega) (X1 (UInt8.ofNat (len8 x2)) (tab8 (by rfl) hx8) ?_)
        have hb := len8_le x2
        refine X1 ((len8 x2 : Nat) : Int) (wI (by rw [u8n (by omega)]) (by omega) (by omega)) ?_
        refine X1 (((0 + 16) + len8 x2 : Nat) : Int) (wI (by simp) (by omega) (by omega)) ?_
        rw [len8_blen hx8] at *
        exact ⟨trivial, r1 (iE (by rw [show blen v = 0 + 16 + blen x2 by omega])), trivial⟩
    · skip
      refine dcase (fun h2 => ?_) (fun h2 => ?_)
      · obtain ⟨x3, e2⟩ : ∃ x3, x3 = v / 2 ^ 8 := ⟨_, rfl⟩
        have b2 : blen v = 8 + blen x3 := by rw [e2]; exact blen_shift _ (by omega)
        refine And.intro (by omega) (X1 ((x3 : Nat) : Int) (by rw [e2]; exact shrN (k := 8) (by decide)) (And.intro ⟨by omega, by omega⟩ ?_))
        refine X1 ((0 + 8 : Nat) : Int) (wI (by simp) (by omega) (by omega)) ?_
        have hx8 : x3 < 256 := by omega
        refine X1 ((x3 : Nat) : Int) (wrap_of_inR ⟨by omega, by omega⟩) ?_
        refine And.intro (by omega) (X1 (UInt8.ofNat (len8 x3)) (tab8 (by rfl) hx8) ?_)
        have hb := len8_le x3
        refine X1 ((len8 x3 : Nat) : Int) (wI (by rw [u8n (by omega)]) (by omega) (by omega)) ?_
        refine X1 (((0 + 8) + len8 x3 : Nat) : Int) (wI (by simp) (by omega) (by omega)) ?_
        rw [len8_blen hx8] at *
        exact ⟨trivial, r1 (iE (by rw [show blen v = 0 + 8 + blen x3 by omega])), trivial⟩
      · skip
        have hx8 : v < 256 := by omega
        refine X1 ((v : Nat) : Int) (wrap_of_inR ⟨by omega, by omega⟩) ?_
        refine And.intro (by omega) (X1 (UInt8.ofNat (len8 v)) (tab8 (by rfl) hx8) ?_)
        have hb := len8_le v
        refine X1 ((len8 v : Nat) : Int) (wI (by rw [u8n (by omega)]) (by omega) (by omega)) ?_
        refine X1 (((0) + len8 v : Nat) : Int) (wI (by simp) (by omega) (by omega)) ?_
        rw [len8_blen hx8] at *
        exact ⟨trivial, r1 (iE (by simp)), trivial⟩
theorem modU {n : Nat} : IntKind.u64.wrap (n : Int) = ((n % 18446744073709551616 : Nat) : Int) := by
  simp [IntKind.wrap, IntKind.bits, IntKind.signed]
theorem getD_set_ne {l : List Nat} {i j v : Nat} (h : i ≠ j) : (l.set i v).getD j 0 = l.getD j 0 := by
  rw [List.getD_eq_getElem?_getD, List.getD_eq_getElem?_getD, List.getElem?_set_ne h]
structure SM where
  s : List Nat
  c : Nat
  b : Nat
end Go.Proofs.YtjpbijdpkdmeaaaGreat.Pv
namespace Go.Proofs.YtjpbijdpkdmeaaaGreat.Pv
open Go
section
variable {u d1 d0 x q r : Nat}
end
theorem orU {x y : Nat} (hx : x < 18446744073709551616) (hy : y < 18446744073709551616) : IntKind.u64.wrap ((BitVec.ofInt IntKind.u64.bits (x : Int) ||| BitVec.ofInt IntKind.u64.bits (y : Int)).toNat : Int) = ((x ||| y : Nat) : Int) := by
  have e : (BitVec.ofInt IntKind.u64.bits (x : Int) ||| BitVec.ofInt IntKind.u64.bits (y : Int)).toNat = x ||| y := by
    show (BitVec.ofInt 64 (x : Int) ||| BitVec.ofInt 64 (y : Int)).toNat = _
    rw [BitVec.ofInt_natCast, BitVec.ofInt_natCast, BitVec.toNat_or, BitVec.toNat_ofNat, BitVec.toNat_ofNat, Nat.mod_eq_of_lt (by omega : x < 2 ^ 64), Nat.mod_eq_of_lt (by omega : y < 2 ^ 64)]
  have h := Nat.or_lt_two_pow (x := x) (y := y) (n := 64) (by omega) (by omega)
  rw [e, modU, Nat.mod_eq_of_lt]
  simpa using h
theorem inU {n : Nat} (h : n ≤ 18446744073709551615) : inR .u64 (n : Int) := ⟨Int.natCast_nonneg n, Int.ofNat_le.2 h⟩
theorem shlN {x k : Nat} (h : k ≤ 64) : IntKind.u64.wrap ((x : Int) * 2 ^ min ((k : Nat) : Int).toNat IntKind.u64.bits) = ((x * 2 ^ k % 18446744073709551616 : Nat) : Int) := by
  show IntKind.u64.wrap ((x : Int) * 2 ^ min ((k : Nat) : Int).toNat 64) = _
  rw [Int.toNat_natCast, Nat.min_eq_left h, ← modU]
  simp
end Go.Proofs.YtjpbijdpkdmeaaaGreat.Pv
namespace Go.Proofs.YtjpbijdpkdmeaaaGreat.Pv
open Go
theorem or_low {v m s : Nat} (hv : v < 2 ^ s) : (v ||| m * 2 ^ s) = v + m * 2 ^ s := by
  rw [Nat.or_comm, Nat.mul_comm, ← Nat.two_pow_add_eq_or_of_lt hv, Nat.add_comm]
def needN (n : Nat) : Nat := n / 64 + min (n % 64) 1
def wdN (V k : Nat) : Nat := V / 2 ^ (64 * k) % 18446744073709551616
def wsN (n V : Nat) : List Nat := (List.range (needN n)).map (wdN V)
theorem needN_le (n : Nat) : needN n ≤ n := by unfold needN; omega
theorem wsN_len (n V : Nat) : (wsN n V).length = needN n := by simp [wsN]
theorem wsN_get {n V k : Nat} (h : k < needN n) : (wsN n V)[k]? = some (wdN V k) := by simp [wsN, h]
theorem wdN_lt (V k : Nat) : wdN V k < 18446744073709551616 := Nat.mod_lt _ (by decide)
theorem p64 : (2 : Nat) ^ 64 = 18446744073709551616 := rfl
theorem wdN_0 {n V k : Nat} (h : V < 2 ^ n) (hk : n ≤ 64 * k) : wdN V k = 0 := by
  unfold wdN
  rw [Nat.div_eq_of_lt (Nat.lt_of_lt_of_le h (Nat.pow_le_pow_right (by omega) hk))]
theorem wdN_old {n V w k : Nat} (hk : 64 * (k + 1) ≤ n) : wdN (V + w * 2 ^ n) k = wdN V k := by
  unfold wdN
  obtain ⟨c, rfl⟩ := Nat.exists_eq_add_of_le hk
  have e : w * 2 ^ (64 * (k + 1) + c) = (w * 2 ^ c) * 18446744073709551616 * 2 ^ (64 * k) := by
    rw [show 64 * (k + 1) + c = 64 * k + 64 + c by omega, Nat.pow_add, Nat.pow_add, p64]
    simp only [Nat.mul_assoc, Nat.mul_comm, Nat.mul_left_comm]
  rw [e, Nat.add_mul_div_right _ _ (Nat.two_pow_pos _), Nat.add_mul_mod_self_right]
theorem hi_split {n V w : Nat} : (V + w * 2 ^ n) / 2 ^ (64 * (n / 64)) = V / 2 ^ (64 * (n / 64)) + w * 2 ^ (n % 64) := by
  have e : w * 2 ^ n = (w * 2 ^ (n % 64)) * 2 ^ (64 * (n / 64)) := by
    rw [Nat.mul_assoc, ← Nat.pow_add]
    congr 2; omega
  rw [e, Nat.add_mul_div_right _ _ (Nat.two_pow_pos _)]
theorem hi_lt {n V : Nat} (h : V < 2 ^ n) : V / 2 ^ (64 * (n / 64)) < 2 ^ (n % 64) := by
  rw [Nat.div_lt_iff_lt_mul (Nat.two_pow_pos _), ← Nat.pow_add]
  rwa [show n % 64 + 64 * (n / 64) = n by omega]
theorem wdN_here {n V w : Nat} (h : V < 2 ^ n) : wdN (V + w * 2 ^ n) (n / 64) = wdN V (n / 64) + w * 2 ^ (n % 64) % 18446744073709551616 ∧ wdN V (n / 64) < 2 ^ (n % 64) := by
  have h1 := hi_lt h
  have h2 : 2 ^ (n % 64) ≤ 2 ^ 63 := Nat.pow_le_pow_right (by omega) (by omega)
  have h3 : (2 : Nat) ^ 63 = 9223372036854775808 := rfl
  unfold wdN
  rw [hi_split]
  generalize V / 2 ^ (64 * (n / 64)) = v at *
  rw [Nat.mod_eq_of_lt (a := v) (by omega)]
  refine ⟨?_, h1⟩
  have e : (18446744073709551616 : Nat) = 2 ^ (n % 64) * 2 ^ (64 - n % 64) := by rw [← Nat.pow_add, show n % 64 + (64 - n % 64) = 64 by omega]
  have h4 : w * 2 ^ (n % 64) % 18446744073709551616 = 2 ^ (n % 64) * (w % 2 ^ (64 - n % 64)) := by
    rw [e, Nat.mul_comm w, Nat.mul_mod_mul_left]
  rw [h4, e, Nat.add_comm v, Nat.mul_comm w, Nat.mod_mul, Nat.mul_add_mod_self_left, Nat.mod_eq_of_lt h1, Nat.mul_add_div (Nat.two_pow_pos _), Nat.div_eq_of_lt h1, Nat.add_zero]
theorem wdN_next {n V w : Nat} (h : V < 2 ^ n) (hw : w < 18446744073709551616) (h0 : n % 64 ≠ 0) : wdN (V + w * 2 ^ n) (n / 64 + 1) = w / 2 ^ (64 - n % 64) := by
  have h1 := hi_lt h
  unfold wdN
  rw [show 64 * (n / 64 + 1) = 64 * (n / 64) + 64 by omega, Nat.pow_add, ← Nat.div_div_eq_div_mul, hi_split]
  generalize V / 2 ^ (64 * (n / 64)) = v at *
  have e : (2 : Nat) ^ 64 = 2 ^ (n % 64) * 2 ^ (64 - n % 64) := by rw [← Nat.pow_add, show n % 64 + (64 - n % 64) = 64 by omega]
  rw [e, ← Nat.div_div_eq_div_mul, Nat.add_mul_div_right _ _ (Nat.two_pow_pos _), Nat.div_eq_of_lt h1, Nat.zero_add]
  exact Nat.mod_eq_of_lt (Nat.lt_of_le_of_lt (Nat.div_le_self _ _) hw)
theorem wsN_add0 {n V w m : Nat} (h : V < 2 ^ n) (hw : w < 2 ^ m) (hm : m ≤ 64) (h0 : n % 64 = 0) : wsN (n + m) (V + w * 2 ^ n) = if m = 0 then wsN n V else wsN n V ++ [w] := by
  by_cases e : m = 0
  · subst e
    have : w = 0 := by simpa using hw
    subst this
    rw [if_pos rfl, Nat.zero_mul]; rfl
  · rw [if_neg e]
    have hn : needN (n + m) = needN n + 1 := by unfold needN; omega
    have hn2 : needN n = n / 64 := by unfold needN; omega
    have hw64 : w < 18446744073709551616 := Nat.lt_of_lt_of_le hw (by rw [← p64]; exact Nat.pow_le_pow_right (by omega) hm)
    unfold wsN
    rw [hn, List.range_succ, List.map_append, hn2]
    congr 1
    · refine List.map_congr_left fun k hk => ?_
      rw [List.mem_range] at hk
      exact wdN_old (by omega)
    · simp only [List.map_cons, List.map_nil]
      have h1 := (wdN_here (w := w) h).1
      have h2 := (wdN_here (w := w) h).2
      rw [h0, Nat.pow_zero, Nat.mul_one, Nat.mod_eq_of_lt hw64] at h1
      rw [h0, Nat.pow_zero] at h2
      rw [h1]
      congr 1; omega
theorem wsN_add1 {n V w m : Nat} (h : V < 2 ^ n) (hw : w < 2 ^ m) (hm : m ≤ 64) (h0 : n % 64 ≠ 0) :
    wsN (n + m) (V + w * 2 ^ n) = if n % 64 + m ≤ 64 then (wsN n V).set (n / 64) (wdN V (n / 64) + w * 2 ^ (n % 64) % 18446744073709551616) else (wsN n V).set (n / 64) (wdN V (n / 64) + w * 2 ^ (n % 64) % 18446744073709551616) ++ [w / 2 ^ (64 - n % 64)] := by
  have hn2 : needN n = n / 64 + 1 := by unfold needN; omega
  have hw64 : w < 18446744073709551616 := Nat.lt_of_lt_of_le hw (by rw [← p64]; exact Nat.pow_le_pow_right (by omega) hm)
  have hs : (List.range (n / 64 + 1)).map (wdN (V + w * 2 ^ n)) = (wsN n V).set (n / 64) (wdN V (n / 64) + w * 2 ^ (n % 64) % 18446744073709551616) := by
    unfold wsN
    rw [hn2, List.range_succ, List.map_append, List.map_append, List.set_append_right _ _ (by simp)]
    congr 1
    · refine List.map_congr_left fun k hk => ?_
      rw [List.mem_range] at hk
      exact wdN_old (by omega)
    · simp only [List.map_cons, List.map_nil, List.length_map, List.length_range, Nat.sub_self, List.set_cons_zero]
      rw [(wdN_here (w := w) h).1]
  split
  · rename_i hle
    have hn : needN (n + m) = n / 64 + 1 := by unfold needN; omega
    rw [← hs, wsN, hn]
  · rename_i hle
    have hn : needN (n + m) = n / 64 + 1 + 1 := by unfold needN; omega
    rw [← hs, wsN, hn, List.range_succ, List.map_append]
    congr 1
    simp only [List.map_cons, List.map_nil]
    rw [wdN_next h hw64 h0]
theorem wd_cut (V at_ : Nat) (s : Nat) (hs : s < 64) : V / 2 ^ (64 * at_ + s) % 18446744073709551616 = wdN V at_ / 2 ^ s + wdN V (at_ + 1) * 2 ^ (64 - s) % 18446744073709551616 := by
  unfold wdN
  rw [show 64 * (at_ + 1) = 64 * at_ + 64 by omega, Nat.pow_add _ _ 64, ← Nat.div_div_eq_div_mul _ _ (2 ^ 64), Nat.pow_add, ← Nat.div_div_eq_div_mul]
  generalize V / 2 ^ (64 * at_) = v
  have e : (18446744073709551616 : Nat) = 2 ^ s * 2 ^ (64 - s) := by rw [← Nat.pow_add, show s + (64 - s) = 64 by omega]
  have e1 : v % 18446744073709551616 / 2 ^ s = v / 2 ^ s % 2 ^ (64 - s) := by
    conv => lhs; rw [e]
    exact Nat.mod_mul_right_div_self _ _ _
  have e2 : v / 2 ^ 64 % 18446744073709551616 * 2 ^ (64 - s) % 18446744073709551616 = 2 ^ (64 - s) * (v / 2 ^ 64 % 2 ^ s) := by
    have : (18446744073709551616 : Nat) = 2 ^ (64 - s) * 2 ^ s := by rw [e, Nat.mul_comm]
    conv => lhs; rw [this]
    rw [Nat.mul_comm, Nat.mul_mod_mul_left, Nat.mod_mul_left_mod]
  rw [e1, e2]
  conv => lhs; rw [show (18446744073709551616 : Nat) = 2 ^ (64 - s) * 2 ^ s by rw [e, Nat.mul_comm]]
  rw [Nat.mod_mul, Nat.div_div_eq_div_mul, ← Nat.pow_add, show s + (64 - s) = 64 by omega]
def popc (n : Nat) : Nat := if _h : n = 0 then 0 else n % 2 + popc (n / 2)
termination_by n
decreasing_by omega
theorem popc_zero : popc 0 = 0 := by rw [popc]; rfl
theorem popc_step (n : Nat) : popc n = n % 2 + popc (n / 2) := by
  by_cases h : n = 0
  · subst h; rw [popc_zero]
  · rw [popc, dif_neg h]
theorem popc_split : ∀ (k a b : Nat), a < 2 ^ k → popc (a + 2 ^ k * b) = popc a + popc b
  | 0, a, b, h => by
    have : a = 0 := by simpa using h
    subst this
    rw [popc_zero, Nat.pow_zero, Nat.one_mul, Nat.zero_add, Nat.zero_add]
  | k + 1, a, b, h => by
    rw [Nat.pow_succ] at h ⊢
    rw [popc_step (a + 2 ^ k * 2 * b), popc_step a]
    have e1 : (a + 2 ^ k * 2 * b) % 2 = a % 2 := by
      rw [Nat.mul_assoc, Nat.mul_left_comm]; omega
    have e2 : (a + 2 ^ k * 2 * b) / 2 = a / 2 + 2 ^ k * b := by
      rw [Nat.mul_assoc, Nat.mul_left_comm]; omega
    rw [e1, e2, popc_split k (a / 2) b (by omega)]
    omega
theorem and_split {b y k m : Nat} (hb : b < 256) (hk : k < 256) : (b + 256 * y) &&& (k + 256 * m) = (b &&& k) + 256 * (y &&& m) := by
  have h1 : ((b + 256 * y) &&& (k + 256 * m)) / 2 ^ 8 = y &&& m := by
    rw [Nat.and_div_two_pow, show (b + 256 * y) / 2 ^ 8 = y by omega, show (k + 256 * m) / 2 ^ 8 = m by omega]
  have h2 : ((b + 256 * y) &&& (k + 256 * m)) % 2 ^ 8 = b &&& k := by
    rw [Nat.and_mod_two_pow, show (b + 256 * y) % 2 ^ 8 = b by omega, show (k + 256 * m) % 2 ^ 8 = k by omega]
  omega
def rep8 (k : Nat) : Nat → Nat
  | 0 => 0
  | j + 1 => k + 256 * rep8 k j
def sw1 (j x : Nat) : Nat := (x / 2 &&& rep8 85 j) + (x &&& rep8 85 j)
def sw2 (j x : Nat) : Nat := (x / 4 &&& rep8 51 j) + (x &&& rep8 51 j)
def sw3 (j x : Nat) : Nat := (x / 16 + x) &&& rep8 15 j
def s1 (b : Nat) : Nat := (b / 2 &&& 85) + (b &&& 85)
def s2 (b : Nat) : Nat := (b / 4 &&& 51) + (b &&& 51)
def s3 (b : Nat) : Nat := (b / 16 + b) &&& 15
theorem b1 : ∀ b : Fin 256, ∀ c : Fin 2, (b.val / 2 + 128 * c.val) &&& 85 = b.val / 2 &&& 85 := by decide +kernel
theorem b2 : ∀ b : Fin 256, ∀ c : Fin 4, (b.val / 4 + 64 * c.val) &&& 51 = b.val / 4 &&& 51 := by decide +kernel
theorem b3 : ∀ b : Fin 256, ∀ c : Fin 5, (s2 (s1 b.val) / 16 + s2 (s1 b.val) + 16 * c.val) &&& 15 = s3 (s2 (s1 b.val)) := by decide +kernel
theorem b4 : ∀ b : Fin 256, s1 b.val < 256 ∧ s2 (s1 b.val) % 16 ≤ 4 ∧ s2 (s1 b.val) / 16 ≤ 4 ∧ s3 (s2 (s1 b.val)) = popc b.val ∧ popc b.val ≤ 8 := by
  have h : ∀ b : Fin 256, s1 b.val < 256 ∧ s2 (s1 b.val) % 16 ≤ 4 ∧ s2 (s1 b.val) / 16 ≤ 4 ∧ s3 (s2 (s1 b.val)) = ((List.range 8).map fun i => b.val / 2 ^ i % 2).sum ∧ s3 (s2 (s1 b.val)) ≤ 8 := by decide +kernel
  intro b
  obtain ⟨h1, h2, h3, h4, h5⟩ := h b
  have e : popc b.val = ((List.range 8).map fun i => b.val / 2 ^ i % 2).sum := by
    have hb := b.isLt
    generalize b.val = x at *
    have : x / 2 ^ 8 = 0 := Nat.div_eq_of_lt hb
    rw [popc_step x, popc_step (x / 2), popc_step (x / 2 / 2), popc_step (x / 2 / 2 / 2), popc_step (x / 2 / 2 / 2 / 2), popc_step (x / 2 / 2 / 2 / 2 / 2), popc_step (x / 2 / 2 / 2 / 2 / 2 / 2), popc_step (x / 2 / 2 / 2 / 2 / 2 / 2 / 2),
      show x / 2 / 2 / 2 / 2 / 2 / 2 / 2 / 2 = 0 by omega, popc_zero]
    simp [List.range, List.range.loop]
    omega
  exact ⟨h1, h2, h3, by rw [h4, e], by rw [e, ← h4]; exact h5⟩
theorem b1' {b c : Nat} (hb : b < 256) (hc : c < 2) : (b / 2 + 128 * c) &&& 85 = b / 2 &&& 85 := b1 ⟨b, hb⟩ ⟨c, hc⟩
theorem b2' {b c : Nat} (hb : b < 256) (hc : c < 4) : (b / 4 + 64 * c) &&& 51 = b / 4 &&& 51 := b2 ⟨b, hb⟩ ⟨c, hc⟩
theorem b3' {b c : Nat} (hb : b < 256) (hc : c < 5) : (s2 (s1 b) / 16 + s2 (s1 b) + 16 * c) &&& 15 = s3 (s2 (s1 b)) := b3 ⟨b, hb⟩ ⟨c, hc⟩
theorem b4' {b : Nat} (hb : b < 256) : s1 b < 256 ∧ s2 (s1 b) % 16 ≤ 4 ∧ s2 (s1 b) / 16 ≤ 4 ∧ s3 (s2 (s1 b)) = popc b ∧ popc b ≤ 8 := b4 ⟨b, hb⟩
theorem sw1_step {j b y : Nat} (hb : b < 256) : sw1 (j + 1) (b + 256 * y) = s1 b + 256 * sw1 j y := by
  unfold sw1 s1
  rw [show (b + 256 * y) / 2 = (b / 2 + 128 * (y % 2)) + 256 * (y / 2) by omega, show rep8 85 (j + 1) = 85 + 256 * rep8 85 j from rfl, and_split (by omega) (by omega), and_split hb (by omega),
    b1' hb (Nat.mod_lt _ (by decide))]
  omega
theorem sw2_step {j b y : Nat} (hb : b < 256) : sw2 (j + 1) (b + 256 * y) = s2 b + 256 * sw2 j y := by
  unfold sw2 s2
  rw [show (b + 256 * y) / 4 = (b / 4 + 64 * (y % 4)) + 256 * (y / 4) by omega, show rep8 51 (j + 1) = 51 + 256 * rep8 51 j from rfl, and_split (by omega) (by omega), and_split hb (by omega),
    b2' hb (Nat.mod_lt _ (by decide))]
  omega
theorem sw3_step {j b y : Nat} (hb : b < 256) (hy : y % 16 ≤ 4) : sw3 (j + 1) (s2 (s1 b) + 256 * y) = popc b + 256 * sw3 j y := by
  obtain ⟨h1, h2, h3, h4, _⟩ := b4' hb
  unfold sw3
  rw [show (s2 (s1 b) + 256 * y) / 16 + (s2 (s1 b) + 256 * y) = (s2 (s1 b) / 16 + s2 (s1 b) + 16 * (y % 16)) + 256 * (y / 16 + y) by omega, show rep8 15 (j + 1) = 15 + 256 * rep8 15 j from rfl,
    and_split (by omega) (by omega), b3' hb (by omega), h4]
def pg : Nat → Nat → Nat
  | 0, _ => 0
  | j + 1, x => popc (x % 256) + 256 * pg j (x / 256)
theorem sw_all : ∀ (j x : Nat), sw3 j (sw2 j (sw1 j x)) = pg j x ∧ sw2 j (sw1 j x) % 16 ≤ 4
  | 0, x => by simp [sw1, sw2, sw3, rep8, pg]
  | j + 1, x => by
    obtain ⟨i1, i2⟩ := sw_all j (x / 256)
    have hb : x % 256 < 256 := Nat.mod_lt _ (by decide)
    obtain ⟨h1, h2, h3, h4, _⟩ := b4' hb
    have e : sw1 (j + 1) x = s1 (x % 256) + 256 * sw1 j (x / 256) := by
      conv => lhs; rw [show x = x % 256 + 256 * (x / 256) by omega]
      exact sw1_step hb
    rw [e, sw2_step h1, sw3_step hb i2, i1]
    exact ⟨rfl, by omega⟩
theorem popc_pg : ∀ (j x : Nat), x < 256 ^ j → popc x = ((List.range j).map fun i => popc (x / 256 ^ i % 256)).sum
  | 0, x, h => by
    have : x = 0 := by simpa using h
    subst this; rw [popc_zero]; rfl
  | j + 1, x, h => by
    rw [Nat.pow_succ] at h
    have ih := popc_pg j (x / 256) (by omega)
    have e := popc_split 8 (x % 256) (x / 256) (Nat.mod_lt _ (by decide))
    rw [show x % 256 + 2 ^ 8 * (x / 256) = x by omega] at e
    rw [e, ih, List.range_succ_eq_map, List.map_cons, List.sum_cons, List.map_map]
    congr 1
    · rw [Nat.pow_zero, Nat.div_one]
    · congr 1
      refine List.map_congr_left fun i _ => ?_
      simp only [Function.comp]
      rw [Nat.pow_succ', Nat.div_div_eq_div_mul]
theorem dv {a c A : Nat} (h : a = c + 256 * A) (hc : c ≤ 64) : a / 256 = A := by omega
theorem add2 {x y c c' A A' : Nat} (hx : x = c + 256 * A) (hy : y = c' + 256 * A') : x + y = (c + c') + 256 * (A + A') := by omega
theorem le2 {x y k m : Nat} (hx : x ≤ k) (hy : y ≤ k) (hm : m = k + k) : x + y ≤ m := by omega
theorem dm {d s X : Nat} (h : d = s + 256 * X) (hs : s ≤ 64) : d % 128 = s := by omega
theorem swar_fin {c0 c1 c2 c3 c4 c5 c6 c7 A1 A2 A3 A4 A5 A6 A7 a b c d : Nat} (h0 : c0 ≤ 8) (h1 : c1 ≤ 8) (h2 : c2 ≤ 8) (h3 : c3 ≤ 8) (h4 : c4 ≤ 8) (h5 : c5 ≤ 8) (h6 : c6 ≤ 8) (h7 : c7 ≤ 8)
    (ha : a = c0 + 256 * A1) (g1 : A1 = c1 + 256 * A2) (g2 : A2 = c2 + 256 * A3) (g3 : A3 = c3 + 256 * A4) (g4 : A4 = c4 + 256 * A5) (g5 : A5 = c5 + 256 * A6) (g6 : A6 = c6 + 256 * A7) (g7 : A7 = c7 + 256 * 0)
    (hb : b = a + a / 256) (hc : c = b + b / 65536) (hd : d = c + c / 4294967296) : d % 128 = c0 + c1 + (c2 + c3) + (c4 + c5 + (c6 + c7)) ∧ c0 + c1 + (c2 + c3) + (c4 + c5 + (c6 + c7)) ≤ 64 := by
  have l01 := le2 h0 h1 (m := 16) rfl
  have l12 := le2 h1 h2 (m := 16) rfl
  have l23 := le2 h2 h3 (m := 16) rfl
  have l34 := le2 h3 h4 (m := 16) rfl
  have l45 := le2 h4 h5 (m := 16) rfl
  have l56 := le2 h5 h6 (m := 16) rfl
  have l67 := le2 h6 h7 (m := 16) rfl
  rw [dv ha (Nat.le_trans h0 (by decide))] at hb
  have b0 := add2 ha g1
  have b1 := add2 g1 g2
  have b2 := add2 g2 g3
  have b3 := add2 g3 g4
  have b4 := add2 g4 g5
  have b5 := add2 g5 g6
  have b6 := add2 g6 g7
  rw [← hb] at b0
  have e1 : b / 65536 = A2 + A3 := by
    rw [show 65536 = 256 * 256 from rfl, ← Nat.div_div_eq_div_mul, dv b0 (Nat.le_trans l01 (by decide)), dv b1 (Nat.le_trans l12 (by decide))]
  rw [e1] at hc
  have k0 := add2 b0 b2
  have k1 := add2 b1 b3
  have k2 := add2 b2 b4
  have k3 := add2 b3 b5
  have k4 := add2 b4 b6
  rw [← hc] at k0
  have m0 := le2 l01 l23 (m := 32) rfl
  have m1 := le2 l12 l34 (m := 32) rfl
  have m2 := le2 l23 l45 (m := 32) rfl
  have m3 := le2 l34 l56 (m := 32) rfl
  have m4 := le2 l45 l67 (m := 32) rfl
  have e2 : c / 4294967296 = A4 + A5 + (A6 + A7) := by
    rw [show 4294967296 = 256 * 256 * 256 * 256 from rfl, ← Nat.div_div_eq_div_mul, ← Nat.div_div_eq_div_mul, ← Nat.div_div_eq_div_mul, dv k0 (Nat.le_trans m0 (by decide)), dv k1 (Nat.le_trans m1 (by decide)), dv k2 (Nat.le_trans m2 (by decide)), dv k3 (Nat.le_trans m3 (by decide))]
  rw [e2] at hd
  have f0 := add2 k0 k4
  rw [← hd] at f0
  have n0 := le2 m0 m4 (m := 64) rfl
  exact ⟨dm f0 n0, n0⟩
theorem step8 {c A x M : Nat} (h : c ≤ 8) (hA : A ≤ M) (hx : x = c + 256 * A) : x ≤ 8 + 256 * M := by omega
theorem swar_bd {c0 c1 c2 c3 c4 c5 c6 c7 A1 A2 A3 A4 A5 A6 A7 a : Nat} (h0 : c0 ≤ 8) (h1 : c1 ≤ 8) (h2 : c2 ≤ 8) (h3 : c3 ≤ 8) (h4 : c4 ≤ 8) (h5 : c5 ≤ 8) (h6 : c6 ≤ 8) (h7 : c7 ≤ 8)
    (ha : a = c0 + 256 * A1) (g1 : A1 = c1 + 256 * A2) (g2 : A2 = c2 + 256 * A3) (g3 : A3 = c3 + 256 * A4) (g4 : A4 = c4 + 256 * A5) (g5 : A5 = c5 + 256 * A6) (g6 : A6 = c6 + 256 * A7) (g7 : A7 = c7 + 256 * 0) : a ≤ 578721382704613384 := by
  have := step8 h7 (Nat.le_refl 0) g7
  have := step8 h6 this g6
  have := step8 h5 this g5
  have := step8 h4 this g4
  have := step8 h3 this g3
  have := step8 h2 this g2
  have := step8 h1 this g1
  have := step8 h0 this ha
  exact this
theorem swar {x a b c d : Nat} (hx : x < 18446744073709551616) (ha : a = pg 8 x) (hb : b = a + a / 256) (hc : c = b + b / 65536) (hd : d = c + c / 4294967296) : d % 128 = popc x ∧ popc x ≤ 64 ∧ d < 18446744073709551616 ∧ c < 18446744073709551616 ∧ b < 18446744073709551616 := by
  have e := popc_pg 8 x (by show x < 18446744073709551616; exact hx)
  have hp : ∀ i, popc (x / 256 ^ i % 256) ≤ 8 := fun i => (b4' (Nat.mod_lt _ (by decide))).2.2.2.2
  have h0 := hp 0
  have h1 := hp 1
  have h2 := hp 2
  have h3 := hp 3
  have h4 := hp 4
  have h5 := hp 5
  have h6 := hp 6
  have h7 := hp 7
  simp only [pg] at ha
  simp only [List.range, List.range.loop, List.map_cons, List.map_nil, List.sum_cons, List.sum_nil] at e
  have q : ∀ i, x / 256 ^ (i + 1) = x / 256 ^ i / 256 := fun i => by rw [Nat.pow_succ, Nat.div_div_eq_div_mul]
  simp only [q, Nat.pow_zero, Nat.div_one] at e h0 h1 h2 h3 h4 h5 h6 h7
  clear q hp hx
  rw [e]
  have hf := swar_fin h0 h1 h2 h3 h4 h5 h6 h7 ha rfl rfl rfl rfl rfl rfl rfl hb hc hd
  have hbd := swar_bd h0 h1 h2 h3 h4 h5 h6 h7 ha rfl rfl rfl rfl rfl rfl rfl
  obtain ⟨f1, f2⟩ := hf
  simp only [← Nat.add_assoc, Nat.add_zero] at f1 f2 ⊢
  refine ⟨f1, f2, ?_⟩
  clear e f1 f2 ha h0 h1 h2 h3 h4 h5 h6 h7
  omega
def rk (V i : Nat) : Nat := popc (V % 2 ^ i)
theorem rk_0 (V : Nat) : rk V 0 = 0 := by rw [rk, Nat.pow_zero, Nat.mod_one, popc_zero]
theorem rk_add (V i j : Nat) : rk V (i + j) = rk V i + rk (V / 2 ^ i) j := by
  unfold rk
  rw [Nat.pow_add, Nat.mod_mul, popc_split i _ _ (Nat.mod_lt _ (Nat.two_pow_pos i))]
theorem popc_1 {b : Nat} (h : b < 2) : popc b = b := by
  rw [popc_step, show b / 2 = 0 by omega, popc_zero]; omega
theorem rk_succ (V i : Nat) : rk V (i + 1) = rk V i + V / 2 ^ i % 2 := by
  rw [rk_add]
  congr 1
  unfold rk
  rw [Nat.pow_one, popc_1 (Nat.mod_lt _ (by decide))]
theorem rk_le (V : Nat) : ∀ i, rk V i ≤ i
  | 0 => by rw [rk_0]; exact Nat.le_refl _
  | i + 1 => by
    have := rk_le V i
    have := Nat.mod_lt (V / 2 ^ i) (show 0 < 2 by decide)
    rw [rk_succ]; omega
theorem rk_mono (V : Nat) {i j : Nat} (h : i ≤ j) : rk V i ≤ rk V j := by
  obtain ⟨d, rfl⟩ := Nat.exists_eq_add_of_le h
  rw [rk_add]; omega
theorem rk_top {V n i : Nat} (h : V < 2 ^ n) (hi : n ≤ i) : rk V i = popc V := by
  rw [rk, Nat.mod_eq_of_lt (Nat.lt_of_lt_of_le h (Nat.pow_le_pow_right (by omega) hi))]
theorem rk_mod {V i j : Nat} (h : i ≤ j) : rk (V % 2 ^ j) i = rk V i := by
  unfold rk
  rw [Nat.mod_mod_of_dvd _ (Nat.pow_dvd_pow 2 h)]
theorem zk_mono (V : Nat) {i j : Nat} (h : i ≤ j) : i - rk V i ≤ j - rk V j := by
  obtain ⟨d, rfl⟩ := Nat.exists_eq_add_of_le h
  have h1 := rk_le V i
  have h2 := rk_le (V / 2 ^ i) d
  rw [rk_add]; omega
def IsOne (V k i : Nat) : Prop := rk V i = k ∧ V / 2 ^ i % 2 = 1
def IsNil (V k i : Nat) : Prop := i - rk V i = k ∧ V / 2 ^ i % 2 = 0
theorem IsOne.uniq {V k i j : Nat} (h1 : IsOne V k i) (h2 : IsOne V k j) : i = j := by
  obtain ⟨a1, a2⟩ := h1
  obtain ⟨b1, b2⟩ := h2
  have s1 := rk_succ V i
  have s2 := rk_succ V j
  rcases Nat.lt_trichotomy i j with h | h | h
  · have := rk_mono V (i := i + 1) (j := j) h; omega
  · exact h
  · have := rk_mono V (i := j + 1) (j := i) h; omega
theorem IsNil.uniq {V k i j : Nat} (h1 : IsNil V k i) (h2 : IsNil V k j) : i = j := by
  obtain ⟨a1, a2⟩ := h1
  obtain ⟨b1, b2⟩ := h2
  have s1 := rk_succ V i
  have s2 := rk_succ V j
  have l1 := rk_le V i
  have l2 := rk_le V j
  rcases Nat.lt_trichotomy i j with h | h | h
  · have := zk_mono V (i := i + 1) (j := j) h; omega
  · exact h
  · have := zk_mono V (i := j + 1) (j := i) h; omega
structure Sel (W k0 at_ k half : Nat) : Prop where
  r : rk W at_ + k = k0
  s : k < rk (W / 2 ^ at_) (2 * half)
theorem Sel.go {W k0 at_ k half : Nat} (h : Sel W k0 at_ k (2 * half)) :
    if rk (W / 2 ^ at_) (2 * half) ≤ k then Sel W k0 (at_ + 2 * half) (k - rk (W / 2 ^ at_) (2 * half)) half else Sel W k0 at_ k half := by
  obtain ⟨h1, h2⟩ := h
  split
  · rename_i hle
    refine ⟨by rw [rk_add]; omega, ?_⟩
    rw [show 2 * (2 * half) = 2 * half + 2 * half by omega, rk_add, Nat.div_div_eq_div_mul, ← Nat.pow_add] at h2
    omega
  · exact ⟨h1, by omega⟩
theorem sel_end {W k0 at_ k : Nat} (h1 : rk W at_ + k = k0) (h2 : k < rk (W / 2 ^ at_) 1) : IsOne W k0 at_ := by
  rw [show (1 : Nat) = 0 + 1 from rfl, rk_succ, rk_0, Nat.pow_zero, Nat.div_one] at h2
  exact ⟨by omega, by omega⟩
end Go.Proofs.YtjpbijdpkdmeaaaGreat.Pv
