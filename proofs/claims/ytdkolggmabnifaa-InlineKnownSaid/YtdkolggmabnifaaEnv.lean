/- The tables of this seat's types, written by a program (env.py) of mine off the translation; each is one closed fact for the kernel. -/
import Derived.Test.YtdkolggmabnifaaProg
import Derived.Test.YtdkolggmabnifaaMore
import Derived.KernelRfl
namespace Go.Proofs.Ytdkolggmabnifaa
open Go Go.Sx
theorem E_fa : ([(7, 0, 0), (7, 1, 1), (7, 2, 2), (7, 3, 3), (8, 0, 0), (8, 1, 1), (8, 2, 2), (8, 3, 3), (13, 0, 0), (13, 1, 1), (14, 0, 0), (14, 1, 1), (18, 0, 0), (19, 0, 0), (25, 0, 0), (25, 1, 1), (25, 2, 2), (25, 3, 3), (26, 0, 0), (26, 1, 1), (26, 2, 2), (26, 3, 3), (32, 0, 0), (32, 1, 1), (32, 2, 2), (32, 3, 3), (32, 4, 4), (33, 0, 0), (33, 1, 1), (33, 2, 2), (33, 3, 3), (33, 4, 4), (35, 0, 0), (35, 1, 1), (35, 2, 2), (35, 3, 3), (35, 4, 4), (35, 5, 5), (35, 6, 10), (35, 7, 11), (35, 8, 12), (35, 9, 13), (35, 10, 14), (36, 0, 0), (36, 1, 1), (36, 2, 2), (36, 3, 3), (36, 4, 4), (36, 5, 5), (36, 6, 10), (36, 7, 11), (36, 8, 12), (36, 9, 13), (36, 10, 14), (46, 0, 0), (46, 1, 1), (46, 2, 2), (46, 3, 3), (46, 4, 4), (47, 0, 0), (47, 1, 1), (47, 2, 2), (47, 3, 3), (47, 4, 4), (50, 0, 0), (50, 1, 1), (51, 0, 0), (51, 1, 1), (57, 0, 0), (57, 1, 4), (57, 2, 5), (58, 0, 0), (58, 1, 4), (58, 2, 5), (70, 0, 0), (70, 1, 1), (71, 0, 0), (71, 1, 1), (88, 0, 0), (88, 1, 1), (88, 2, 2), (88, 3, 3), (89, 0, 0), (89, 1, 1), (89, 2, 2), (89, 3, 3), (101, 0, 0), (101, 1, 1), (101, 2, 2), (101, 3, 3), (101, 4, 4), (101, 5, 5), (101, 6, 6), (101, 7, 7), (101, 8, 8), (101, 9, 9), (101, 10, 10), (102, 0, 0), (102, 1, 1), (102, 2, 2), (102, 3, 3), (102, 4, 4), (102, 5, 5), (102, 6, 6), (102, 7, 7), (102, 8, 8), (102, 9, 9), (102, 10, 10)] : List (Nat × Nat × Nat)).all (faOk Try.prog) = true := by kernel_rfl
theorem E_sl : ([(22, 36, 15), (23, 3, 1), (24, 47, 5), (27, 26, 4), (34, 51, 2), (45, 5, 1), (72, 71, 2)] : List (Nat × Nat × Nat)).all (slOk Try.prog) = true := by kernel_rfl
theorem E_ar : ([(90, 0, 1)] : List (Nat × Nat × Nat)).all (arOk Try.prog) = true := by kernel_rfl
theorem E_ae : ([(90, 16)] : List (Nat × Nat)).all (aeOk Try.prog) = true := by kernel_rfl
theorem E_one : ([1, 2, 3, 4, 5, 6, 9, 10, 11, 12, 15, 16, 17, 21, 22, 23, 24, 27, 28, 29, 30, 31, 34, 38, 39, 40, 41, 42, 43, 44, 45, 48, 49, 52, 53, 54, 55, 56, 59, 60, 61, 62, 63, 64, 65, 66, 68, 69, 72, 73, 74, 75, 76, 77, 78, 79, 80, 81, 82, 83, 84, 85, 86, 87, 93, 94, 95, 96, 97, 98, 99, 100] : List Nat).all (oneOk Try.prog) = true := by kernel_rfl
theorem E_agg : ([(7, 4), (8, 4), (13, 2), (14, 2), (18, 1), (19, 1), (25, 4), (26, 4), (32, 5), (33, 5), (35, 15), (36, 15), (46, 5), (47, 5), (50, 2), (51, 2), (57, 6), (58, 6), (70, 2), (71, 2), (88, 4), (89, 4), (90, 0), (91, 0), (92, 0), (101, 11), (102, 11)] : List (Nat × Nat)).all (aggOk Try.prog) = true := by kernel_rfl
theorem E_ints : ([(2, .i64), (3, .i64), (5, .u8), (6, .u8), (12, .u64), (21, .i32), (49, .u64), (94, .u32), (95, .u8), (96, .u8), (99, .i32), (100, .i32)] : List (Nat × IntKind)).all (intOk Try.prog) = true := by kernel_rfl
theorem E_bools : ([4] : List Nat).all (boolOk Try.prog) = true := by kernel_rfl
def E : Env Try.prog := ⟨_, _, _, _, _, _, _, _, E_fa, E_sl, E_ar, E_ae, E_one, E_agg, E_ints, E_bools⟩
theorem fl7 : FlatT Try.prog 7 [.int .i64, .int .i64, .bool, .int .u8] := ⟨⟨by kernel_rfl, by kernel_rfl, by kernel_rfl⟩⟩
theorem fl8 : FlatT Try.prog 8 [.int .i64, .int .i64, .bool, .int .u8] := ⟨⟨by kernel_rfl, by kernel_rfl, by kernel_rfl⟩⟩
theorem fl32 : FlatT Try.prog 32 [.int .i64, .int .i64, .int .i64, .int .i64, .int .i64] := ⟨⟨by kernel_rfl, by kernel_rfl, by kernel_rfl⟩⟩
theorem fl33 : FlatT Try.prog 33 [.int .i64, .int .i64, .int .i64, .int .i64, .int .i64] := ⟨⟨by kernel_rfl, by kernel_rfl, by kernel_rfl⟩⟩
theorem fl50 : FlatT Try.prog 50 [.int .i64, .int .u64] := ⟨⟨by kernel_rfl, by kernel_rfl, by kernel_rfl⟩⟩
theorem fl51 : FlatT Try.prog 51 [.int .i64, .int .u64] := ⟨⟨by kernel_rfl, by kernel_rfl, by kernel_rfl⟩⟩
theorem fl70 : FlatT Try.prog 70 [.int .i64, .int .i64] := ⟨⟨by kernel_rfl, by kernel_rfl, by kernel_rfl⟩⟩
theorem fl71 : FlatT Try.prog 71 [.int .i64, .int .i64] := ⟨⟨by kernel_rfl, by kernel_rfl, by kernel_rfl⟩⟩
theorem ze2 : ZeroT Try.prog 2 [.int .i64 0] := ⟨by kernel_rfl⟩
theorem ze3 : ZeroT Try.prog 3 [.int .i64 0] := ⟨by kernel_rfl⟩
theorem ze4 : ZeroT Try.prog 4 [.bool false] := ⟨by kernel_rfl⟩
theorem ze5 : ZeroT Try.prog 5 [.int .u8 0] := ⟨by kernel_rfl⟩
theorem ze6 : ZeroT Try.prog 6 [.int .u8 0] := ⟨by kernel_rfl⟩
theorem ze7 : ZeroT Try.prog 7 [.int .i64 0, .int .i64 0, .bool false, .int .u8 0] := ⟨by kernel_rfl⟩
theorem ze8 : ZeroT Try.prog 8 [.int .i64 0, .int .i64 0, .bool false, .int .u8 0] := ⟨by kernel_rfl⟩
theorem ze9 : ZeroT Try.prog 9 [.string ByteArray.empty] := ⟨by kernel_rfl⟩
theorem ze10 : ZeroT Try.prog 10 [.string ByteArray.empty] := ⟨by kernel_rfl⟩
theorem ze11 : ZeroT Try.prog 11 [.string ByteArray.empty] := ⟨by kernel_rfl⟩
theorem ze12 : ZeroT Try.prog 12 [.int .u64 0] := ⟨by kernel_rfl⟩
theorem ze13 : ZeroT Try.prog 13 [.string ByteArray.empty, .int .u64 0] := ⟨by kernel_rfl⟩
theorem ze14 : ZeroT Try.prog 14 [.string ByteArray.empty, .int .u64 0] := ⟨by kernel_rfl⟩
theorem ze15 : ZeroT Try.prog 15 [.pointer none] := ⟨by kernel_rfl⟩
theorem ze16 : ZeroT Try.prog 16 [.pointer none] := ⟨by kernel_rfl⟩
theorem ze17 : ZeroT Try.prog 17 [.pointer none] := ⟨by kernel_rfl⟩
theorem ze18 : ZeroT Try.prog 18 [.pointer none] := ⟨by kernel_rfl⟩
theorem ze19 : ZeroT Try.prog 19 [.pointer none] := ⟨by kernel_rfl⟩
theorem ze21 : ZeroT Try.prog 21 [.int .i32 0] := ⟨by kernel_rfl⟩
theorem ze22 : ZeroT Try.prog 22 [.slice none 0 0] := ⟨by kernel_rfl⟩
theorem ze23 : ZeroT Try.prog 23 [.slice none 0 0] := ⟨by kernel_rfl⟩
theorem ze24 : ZeroT Try.prog 24 [.slice none 0 0] := ⟨by kernel_rfl⟩
theorem ze25 : ZeroT Try.prog 25 [.int .i64 0, .slice none 0 0, .slice none 0 0, .slice none 0 0] := ⟨by kernel_rfl⟩
theorem ze26 : ZeroT Try.prog 26 [.int .i64 0, .slice none 0 0, .slice none 0 0, .slice none 0 0] := ⟨by kernel_rfl⟩
theorem ze27 : ZeroT Try.prog 27 [.slice none 0 0] := ⟨by kernel_rfl⟩
theorem ze32 : ZeroT Try.prog 32 [.int .i64 0, .int .i64 0, .int .i64 0, .int .i64 0, .int .i64 0] := ⟨by kernel_rfl⟩
theorem ze33 : ZeroT Try.prog 33 [.int .i64 0, .int .i64 0, .int .i64 0, .int .i64 0, .int .i64 0] := ⟨by kernel_rfl⟩
theorem ze34 : ZeroT Try.prog 34 [.slice none 0 0] := ⟨by kernel_rfl⟩
theorem ze35 : ZeroT Try.prog 35 [.int .i64 0, .int .i64 0, .int .i64 0, .int .i64 0, .int .i64 0, .int .i64 0, .int .i64 0, .int .i64 0, .int .i64 0, .int .i64 0, .int .i64 0, .int .i64 0, .int .i64 0, .slice none 0 0, .slice none 0 0] := ⟨by kernel_rfl⟩
theorem ze36 : ZeroT Try.prog 36 [.int .i64 0, .int .i64 0, .int .i64 0, .int .i64 0, .int .i64 0, .int .i64 0, .int .i64 0, .int .i64 0, .int .i64 0, .int .i64 0, .int .i64 0, .int .i64 0, .int .i64 0, .slice none 0 0, .slice none 0 0] := ⟨by kernel_rfl⟩
theorem ze45 : ZeroT Try.prog 45 [.slice none 0 0] := ⟨by kernel_rfl⟩
theorem ze46 : ZeroT Try.prog 46 [.int .i64 0, .int .i64 0, .int .i64 0, .int .i64 0, .slice none 0 0] := ⟨by kernel_rfl⟩
theorem ze47 : ZeroT Try.prog 47 [.int .i64 0, .int .i64 0, .int .i64 0, .int .i64 0, .slice none 0 0] := ⟨by kernel_rfl⟩
theorem ze49 : ZeroT Try.prog 49 [.int .u64 0] := ⟨by kernel_rfl⟩
theorem ze50 : ZeroT Try.prog 50 [.int .i64 0, .int .u64 0] := ⟨by kernel_rfl⟩
theorem ze51 : ZeroT Try.prog 51 [.int .i64 0, .int .u64 0] := ⟨by kernel_rfl⟩
theorem ze54 : ZeroT Try.prog 54 [.pointer none] := ⟨by kernel_rfl⟩
theorem ze56 : ZeroT Try.prog 56 [.map none] := ⟨by kernel_rfl⟩
theorem ze57 : ZeroT Try.prog 57 [.int .i64 0, .slice none 0 0, .slice none 0 0, .slice none 0 0, .slice none 0 0, .map none] := ⟨by kernel_rfl⟩
theorem ze58 : ZeroT Try.prog 58 [.int .i64 0, .slice none 0 0, .slice none 0 0, .slice none 0 0, .slice none 0 0, .map none] := ⟨by kernel_rfl⟩
theorem ze70 : ZeroT Try.prog 70 [.int .i64 0, .int .i64 0] := ⟨by kernel_rfl⟩
theorem ze71 : ZeroT Try.prog 71 [.int .i64 0, .int .i64 0] := ⟨by kernel_rfl⟩
theorem ze72 : ZeroT Try.prog 72 [.slice none 0 0] := ⟨by kernel_rfl⟩
theorem ze79 : ZeroT Try.prog 79 [.pointer none] := ⟨by kernel_rfl⟩
theorem ze88 : ZeroT Try.prog 88 [.pointer none, .pointer none, .pointer none, .string ByteArray.empty] := ⟨by kernel_rfl⟩
theorem ze89 : ZeroT Try.prog 89 [.pointer none, .pointer none, .pointer none, .string ByteArray.empty] := ⟨by kernel_rfl⟩
theorem ze94 : ZeroT Try.prog 94 [.int .u32 0] := ⟨by kernel_rfl⟩
theorem ze95 : ZeroT Try.prog 95 [.int .u8 0] := ⟨by kernel_rfl⟩
theorem ze96 : ZeroT Try.prog 96 [.int .u8 0] := ⟨by kernel_rfl⟩
theorem ze98 : ZeroT Try.prog 98 [.pointer none] := ⟨by kernel_rfl⟩
theorem ze99 : ZeroT Try.prog 99 [.int .i32 0] := ⟨by kernel_rfl⟩
theorem ze100 : ZeroT Try.prog 100 [.int .i32 0] := ⟨by kernel_rfl⟩
theorem mixed : Try.prog.follows .mixedOrders = true := by kernel_rfl
end Go.Proofs.Ytdkolggmabnifaa
