/- The tables of this seat's types, written by a program (env.py) of mine off the translation; each is one closed fact for the kernel. -/
import Derived.Test.YtfekmflnfhjebaaProg
import Derived.Test.YtfekmflnfhjebaaMore
import Derived.KernelRfl
namespace Go.Proofs.Ytfekmflnfhjebaa
open Go Go.Sx
theorem E_fa : ([(7, 0, 0), (7, 1, 1), (7, 2, 2), (7, 3, 3), (8, 0, 0), (8, 1, 1), (8, 2, 2), (8, 3, 3), (13, 0, 0), (13, 1, 1), (14, 0, 0), (14, 1, 1), (18, 0, 0), (19, 0, 0), (24, 0, 0), (24, 1, 1), (24, 2, 2), (25, 0, 0), (25, 1, 1), (25, 2, 2), (32, 0, 0), (33, 0, 0), (46, 0, 0), (46, 1, 1), (47, 0, 0), (47, 1, 1), (70, 0, 0), (70, 1, 1), (70, 2, 2), (70, 3, 3), (70, 4, 4), (70, 5, 5), (70, 6, 6), (71, 0, 0), (71, 1, 1), (71, 2, 2), (71, 3, 3), (71, 4, 4), (71, 5, 5), (71, 6, 6), (77, 0, 0), (78, 0, 0), (82, 0, 0), (82, 1, 1), (83, 0, 0), (83, 1, 1), (84, 0, 0), (85, 0, 0), (86, 0, 0), (88, 0, 0), (88, 1, 1), (88, 2, 2), (88, 3, 3), (88, 4, 4), (89, 0, 0), (89, 1, 1), (89, 2, 2), (89, 3, 3), (89, 4, 4), (93, 0, 0), (93, 1, 1), (93, 2, 2), (93, 3, 5), (94, 0, 0), (94, 1, 1), (94, 2, 2), (94, 3, 5), (105, 0, 0), (105, 1, 1), (105, 2, 2), (105, 3, 3), (106, 0, 0), (106, 1, 1), (106, 2, 2), (106, 3, 3), (117, 0, 0), (117, 1, 1), (117, 2, 2), (117, 3, 3), (117, 4, 4), (117, 5, 5), (117, 6, 6), (117, 7, 7), (117, 8, 8), (117, 9, 9), (117, 10, 10), (118, 0, 0), (118, 1, 1), (118, 2, 2), (118, 3, 3), (118, 4, 4), (118, 5, 5), (118, 6, 6), (118, 7, 7), (118, 8, 8), (118, 9, 9), (118, 10, 10)] : List (Nat × Nat × Nat)).all (faOk Try.prog) = true := by kernel_rfl
theorem E_sl : ([(22, 3, 1), (39, 47, 2), (54, 5, 1), (68, 71, 7), (76, 89, 5)] : List (Nat × Nat × Nat)).all (slOk Try.prog) = true := by kernel_rfl
theorem E_ar : ([(107, 0, 1)] : List (Nat × Nat × Nat)).all (arOk Try.prog) = true := by kernel_rfl
theorem E_ae : ([(107, 16)] : List (Nat × Nat)).all (aeOk Try.prog) = true := by kernel_rfl
theorem E_one : ([1, 2, 3, 4, 5, 6, 9, 10, 11, 12, 15, 16, 17, 21, 22, 23, 26, 27, 28, 29, 30, 31, 34, 35, 36, 37, 38, 39, 40, 41, 42, 43, 44, 45, 48, 49, 51, 52, 53, 54, 55, 56, 57, 58, 59, 60, 61, 62, 64, 65, 66, 67, 68, 69, 72, 73, 74, 75, 76, 79, 80, 81, 87, 90, 92, 95, 97, 98, 99, 100, 101, 102, 103, 104, 110, 111, 112, 113, 114, 115, 116] : List Nat).all (oneOk Try.prog) = true := by kernel_rfl
theorem E_agg : ([(7, 4), (8, 4), (13, 2), (14, 2), (18, 1), (19, 1), (24, 3), (25, 3), (32, 1), (33, 1), (46, 2), (47, 2), (70, 7), (71, 7), (77, 1), (78, 1), (82, 2), (83, 2), (84, 1), (85, 1), (86, 1), (88, 5), (89, 5), (93, 6), (94, 6), (105, 4), (106, 4), (107, 0), (108, 0), (109, 0), (117, 11), (118, 11)] : List (Nat × Nat)).all (aggOk Try.prog) = true := by kernel_rfl
theorem E_ints : ([(2, .i64), (3, .i64), (5, .u8), (6, .u8), (12, .u64), (21, .i32), (61, .u64), (65, .u64), (110, .u32), (111, .u8), (112, .u8), (115, .i32), (116, .i32)] : List (Nat × IntKind)).all (intOk Try.prog) = true := by kernel_rfl
theorem E_bools : ([4] : List Nat).all (boolOk Try.prog) = true := by kernel_rfl
def E : Env Try.prog := ⟨_, _, _, _, _, _, _, _, E_fa, E_sl, E_ar, E_ae, E_one, E_agg, E_ints, E_bools⟩
theorem fl7 : FlatT Try.prog 7 [.int .i64, .int .i64, .bool, .int .u8] := ⟨⟨by kernel_rfl, by kernel_rfl, by kernel_rfl⟩⟩
theorem fl8 : FlatT Try.prog 8 [.int .i64, .int .i64, .bool, .int .u8] := ⟨⟨by kernel_rfl, by kernel_rfl, by kernel_rfl⟩⟩
theorem fl46 : FlatT Try.prog 46 [.int .i64, .int .i64] := ⟨⟨by kernel_rfl, by kernel_rfl, by kernel_rfl⟩⟩
theorem fl47 : FlatT Try.prog 47 [.int .i64, .int .i64] := ⟨⟨by kernel_rfl, by kernel_rfl, by kernel_rfl⟩⟩
theorem ze2 : ZeroT Try.prog 2 [.int .i64 0] := ⟨by kernel_rfl⟩
theorem ze3 : ZeroT Try.prog 3 [.int .i64 0] := ⟨by kernel_rfl⟩
theorem ze4 : ZeroT Try.prog 4 [.bool false] := ⟨by kernel_rfl⟩
theorem ze5 : ZeroT Try.prog 5 [.int .u8 0] := ⟨by kernel_rfl⟩
theorem ze6 : ZeroT Try.prog 6 [.int .u8 0] := ⟨by kernel_rfl⟩
theorem ze7 : ZeroT Try.prog 7 [.int .i64 0, .int .i64 0, .bool false, .int .u8 0] := ⟨by kernel_rfl⟩
theorem ze8 : ZeroT Try.prog 8 [.int .i64 0, .int .i64 0, .bool false, .int .u8 0] := ⟨by kernel_rfl⟩
theorem ze9 : ZeroT Try.prog 9 [.string ByteArray.empty] := ⟨by kernel_rfl⟩
theorem ze10 : ZeroT Try.prog 10 [.string ByteArray.empty] := ⟨by kernel_rfl⟩
theorem ze11 : ZeroT Try.prog 11 [.string ByteArray.empty] := ⟨by kernel_rfl⟩
theorem ze12 : ZeroT Try.prog 12 [.int .u64 0] := ⟨by kernel_rfl⟩
theorem ze13 : ZeroT Try.prog 13 [.string ByteArray.empty, .int .u64 0] := ⟨by kernel_rfl⟩
theorem ze14 : ZeroT Try.prog 14 [.string ByteArray.empty, .int .u64 0] := ⟨by kernel_rfl⟩
theorem ze15 : ZeroT Try.prog 15 [.pointer none] := ⟨by kernel_rfl⟩
theorem ze16 : ZeroT Try.prog 16 [.pointer none] := ⟨by kernel_rfl⟩
theorem ze17 : ZeroT Try.prog 17 [.pointer none] := ⟨by kernel_rfl⟩
theorem ze18 : ZeroT Try.prog 18 [.pointer none] := ⟨by kernel_rfl⟩
theorem ze19 : ZeroT Try.prog 19 [.pointer none] := ⟨by kernel_rfl⟩
theorem ze21 : ZeroT Try.prog 21 [.int .i32 0] := ⟨by kernel_rfl⟩
theorem ze22 : ZeroT Try.prog 22 [.slice none 0 0] := ⟨by kernel_rfl⟩
theorem ze23 : ZeroT Try.prog 23 [.complex .f64 0 0] := ⟨by kernel_rfl⟩
theorem ze24 : ZeroT Try.prog 24 [.complex .f64 0 0, .int .i64 0, .int .i64 0] := ⟨by kernel_rfl⟩
theorem ze25 : ZeroT Try.prog 25 [.complex .f64 0 0, .int .i64 0, .int .i64 0] := ⟨by kernel_rfl⟩
theorem ze32 : ZeroT Try.prog 32 [.slice none 0 0] := ⟨by kernel_rfl⟩
theorem ze33 : ZeroT Try.prog 33 [.slice none 0 0] := ⟨by kernel_rfl⟩
theorem ze39 : ZeroT Try.prog 39 [.slice none 0 0] := ⟨by kernel_rfl⟩
theorem ze40 : ZeroT Try.prog 40 [.pointer none] := ⟨by kernel_rfl⟩
theorem ze42 : ZeroT Try.prog 42 [.pointer none] := ⟨by kernel_rfl⟩
theorem ze44 : ZeroT Try.prog 44 [.pointer none] := ⟨by kernel_rfl⟩
theorem ze46 : ZeroT Try.prog 46 [.int .i64 0, .int .i64 0] := ⟨by kernel_rfl⟩
theorem ze47 : ZeroT Try.prog 47 [.int .i64 0, .int .i64 0] := ⟨by kernel_rfl⟩
theorem ze48 : ZeroT Try.prog 48 [.pointer none] := ⟨by kernel_rfl⟩
theorem ze54 : ZeroT Try.prog 54 [.slice none 0 0] := ⟨by kernel_rfl⟩
theorem ze61 : ZeroT Try.prog 61 [.int .u64 0] := ⟨by kernel_rfl⟩
theorem ze65 : ZeroT Try.prog 65 [.int .u64 0] := ⟨by kernel_rfl⟩
theorem ze68 : ZeroT Try.prog 68 [.slice none 0 0] := ⟨by kernel_rfl⟩
theorem ze70 : ZeroT Try.prog 70 [.int .i64 0, .int .i64 0, .int .i64 0, .int .i64 0, .int .i64 0, .int .u64 0, .slice none 0 0] := ⟨by kernel_rfl⟩
theorem ze71 : ZeroT Try.prog 71 [.int .i64 0, .int .i64 0, .int .i64 0, .int .i64 0, .int .i64 0, .int .u64 0, .slice none 0 0] := ⟨by kernel_rfl⟩
theorem ze76 : ZeroT Try.prog 76 [.slice none 0 0] := ⟨by kernel_rfl⟩
theorem ze77 : ZeroT Try.prog 77 [.slice none 0 0] := ⟨by kernel_rfl⟩
theorem ze78 : ZeroT Try.prog 78 [.slice none 0 0] := ⟨by kernel_rfl⟩
theorem ze79 : ZeroT Try.prog 79 [.float .f64 0] := ⟨by kernel_rfl⟩
theorem ze81 : ZeroT Try.prog 81 [.map none] := ⟨by kernel_rfl⟩
theorem ze82 : ZeroT Try.prog 82 [.map none, .int .i64 0] := ⟨by kernel_rfl⟩
theorem ze83 : ZeroT Try.prog 83 [.map none, .int .i64 0] := ⟨by kernel_rfl⟩
theorem ze84 : ZeroT Try.prog 84 [.slice none 0 0] := ⟨by kernel_rfl⟩
theorem ze85 : ZeroT Try.prog 85 [.slice none 0 0] := ⟨by kernel_rfl⟩
theorem ze86 : ZeroT Try.prog 86 [.slice none 0 0] := ⟨by kernel_rfl⟩
theorem ze88 : ZeroT Try.prog 88 [.slice none 0 0, .int .i64 0, .slice none 0 0, .bool false, .bool false] := ⟨by kernel_rfl⟩
theorem ze89 : ZeroT Try.prog 89 [.slice none 0 0, .int .i64 0, .slice none 0 0, .bool false, .bool false] := ⟨by kernel_rfl⟩
theorem ze90 : ZeroT Try.prog 90 [.pointer none] := ⟨by kernel_rfl⟩
theorem ze93 : ZeroT Try.prog 93 [.slice none 0 0, .int .i64 0, .complex .f64 0 0, .int .i64 0, .int .i64 0, .bool false] := ⟨by kernel_rfl⟩
theorem ze94 : ZeroT Try.prog 94 [.slice none 0 0, .int .i64 0, .complex .f64 0 0, .int .i64 0, .int .i64 0, .bool false] := ⟨by kernel_rfl⟩
theorem ze105 : ZeroT Try.prog 105 [.pointer none, .pointer none, .pointer none, .string ByteArray.empty] := ⟨by kernel_rfl⟩
theorem ze106 : ZeroT Try.prog 106 [.pointer none, .pointer none, .pointer none, .string ByteArray.empty] := ⟨by kernel_rfl⟩
theorem ze110 : ZeroT Try.prog 110 [.int .u32 0] := ⟨by kernel_rfl⟩
theorem ze111 : ZeroT Try.prog 111 [.int .u8 0] := ⟨by kernel_rfl⟩
theorem ze112 : ZeroT Try.prog 112 [.int .u8 0] := ⟨by kernel_rfl⟩
theorem ze114 : ZeroT Try.prog 114 [.pointer none] := ⟨by kernel_rfl⟩
theorem ze115 : ZeroT Try.prog 115 [.int .i32 0] := ⟨by kernel_rfl⟩
theorem ze116 : ZeroT Try.prog 116 [.int .i32 0] := ⟨by kernel_rfl⟩
theorem mixed : Try.prog.follows .mixedOrders = true := by kernel_rfl
end Go.Proofs.Ytfekmflnfhjebaa
