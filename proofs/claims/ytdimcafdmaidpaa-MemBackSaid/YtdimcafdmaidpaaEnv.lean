/- The tables of this seat's types, written by a program (env.py) of mine off the translation; each is one closed fact for the kernel. -/
import Derived.Test.YtdimcafdmaidpaaProg
import Derived.Test.YtdimcafdmaidpaaMore
import Derived.KernelRfl
namespace Go.Proofs.Ytdimcafdmaidpaa
open Go Go.Sx
theorem E_fa : ([(7, 0, 0), (7, 1, 1), (7, 2, 2), (7, 3, 3), (8, 0, 0), (8, 1, 1), (8, 2, 2), (8, 3, 3), (13, 0, 0), (13, 1, 1), (14, 0, 0), (14, 1, 1), (18, 0, 0), (19, 0, 0), (23, 0, 0), (23, 1, 1), (23, 2, 2), (24, 0, 0), (24, 1, 1), (24, 2, 2), (27, 0, 0), (27, 1, 3), (27, 2, 11), (28, 0, 0), (28, 1, 3), (28, 2, 11), (30, 0, 0), (30, 1, 1), (30, 2, 2), (30, 3, 3), (30, 4, 36), (31, 0, 0), (31, 1, 1), (31, 2, 2), (31, 3, 3), (31, 4, 36), (38, 0, 0), (38, 1, 1), (39, 0, 0), (39, 1, 1), (59, 0, 0), (59, 1, 1), (59, 2, 2), (59, 3, 3), (59, 4, 4), (59, 5, 7), (60, 0, 0), (60, 1, 1), (60, 2, 2), (60, 3, 3), (60, 4, 4), (60, 5, 7), (97, 0, 0), (97, 1, 1), (98, 0, 0), (98, 1, 1), (99, 0, 0), (99, 1, 1), (100, 0, 0), (100, 1, 1), (106, 0, 0), (106, 1, 1), (106, 2, 2), (106, 3, 3), (107, 0, 0), (107, 1, 1), (107, 2, 2), (107, 3, 3), (118, 0, 0), (118, 1, 1), (118, 2, 2), (118, 3, 3), (118, 4, 4), (118, 5, 5), (118, 6, 6), (118, 7, 7), (118, 8, 8), (118, 9, 9), (118, 10, 10), (119, 0, 0), (119, 1, 1), (119, 2, 2), (119, 3, 3), (119, 4, 4), (119, 5, 5), (119, 6, 6), (119, 7, 7), (119, 8, 8), (119, 9, 9), (119, 10, 10)] : List (Nat × Nat × Nat)).all (faOk Try.prog) = true := by kernel_rfl
theorem E_sl : ([(35, 39, 2), (47, 3, 1), (57, 60, 8), (58, 5, 1), (86, 24, 3)] : List (Nat × Nat × Nat)).all (slOk Try.prog) = true := by kernel_rfl
theorem E_ar : ([(25, 11, 3), (26, 8, 1), (29, 64, 12), (108, 0, 1)] : List (Nat × Nat × Nat)).all (arOk Try.prog) = true := by kernel_rfl
theorem E_ae : ([(25, 24), (26, 5), (29, 28), (108, 16)] : List (Nat × Nat)).all (aeOk Try.prog) = true := by kernel_rfl
theorem E_one : ([1, 2, 3, 4, 5, 6, 9, 10, 11, 12, 15, 16, 17, 21, 22, 32, 33, 34, 35, 36, 37, 40, 41, 42, 43, 44, 45, 46, 47, 48, 49, 50, 52, 53, 54, 55, 56, 57, 58, 62, 63, 64, 65, 66, 67, 68, 69, 70, 72, 73, 75, 77, 78, 79, 80, 81, 82, 83, 84, 85, 86, 87, 88, 89, 90, 91, 92, 94, 95, 96, 101, 103, 104, 105, 111, 112, 113, 114, 115, 116, 117] : List Nat).all (oneOk Try.prog) = true := by kernel_rfl
theorem E_agg : ([(7, 4), (8, 4), (13, 2), (14, 2), (18, 1), (19, 1), (23, 3), (24, 3), (25, 33), (26, 8), (27, 12), (28, 12), (29, 768), (30, 804), (31, 804), (38, 2), (39, 2), (59, 8), (60, 8), (97, 2), (98, 2), (99, 2), (100, 2), (106, 4), (107, 4), (108, 0), (109, 0), (110, 0), (118, 11), (119, 11)] : List (Nat × Nat)).all (aggOk Try.prog) = true := by kernel_rfl
theorem E_ints : ([(2, .i64), (3, .i64), (5, .u8), (6, .u8), (12, .u64), (21, .i32), (22, .u64), (49, .i64), (55, .u64), (111, .u32), (112, .u8), (113, .u8), (116, .i32), (117, .i32)] : List (Nat × IntKind)).all (intOk Try.prog) = true := by kernel_rfl
theorem E_bools : ([4] : List Nat).all (boolOk Try.prog) = true := by kernel_rfl
def E : Env Try.prog := ⟨_, _, _, _, _, _, _, _, E_fa, E_sl, E_ar, E_ae, E_one, E_agg, E_ints, E_bools⟩
theorem fl7 : FlatT Try.prog 7 [.int .i64, .int .i64, .bool, .int .u8] := ⟨⟨by kernel_rfl, by kernel_rfl, by kernel_rfl⟩⟩
theorem fl8 : FlatT Try.prog 8 [.int .i64, .int .i64, .bool, .int .u8] := ⟨⟨by kernel_rfl, by kernel_rfl, by kernel_rfl⟩⟩
theorem fl23 : FlatT Try.prog 23 [.int .i64, .int .u64, .int .i64] := ⟨⟨by kernel_rfl, by kernel_rfl, by kernel_rfl⟩⟩
theorem fl24 : FlatT Try.prog 24 [.int .i64, .int .u64, .int .i64] := ⟨⟨by kernel_rfl, by kernel_rfl, by kernel_rfl⟩⟩
theorem fl26 : FlatT Try.prog 26 [.int .u8, .int .u8, .int .u8, .int .u8, .int .u8, .int .u8, .int .u8, .int .u8] := ⟨⟨by kernel_rfl, by kernel_rfl, by kernel_rfl⟩⟩
theorem fl27 : FlatT Try.prog 27 [.int .i64, .int .u64, .int .i64, .int .u8, .int .u8, .int .u8, .int .u8, .int .u8, .int .u8, .int .u8, .int .u8, .int .u8] := ⟨⟨by kernel_rfl, by kernel_rfl, by kernel_rfl⟩⟩
theorem fl28 : FlatT Try.prog 28 [.int .i64, .int .u64, .int .i64, .int .u8, .int .u8, .int .u8, .int .u8, .int .u8, .int .u8, .int .u8, .int .u8, .int .u8] := ⟨⟨by kernel_rfl, by kernel_rfl, by kernel_rfl⟩⟩
theorem fl38 : FlatT Try.prog 38 [.int .i64, .int .u64] := ⟨⟨by kernel_rfl, by kernel_rfl, by kernel_rfl⟩⟩
theorem fl39 : FlatT Try.prog 39 [.int .i64, .int .u64] := ⟨⟨by kernel_rfl, by kernel_rfl, by kernel_rfl⟩⟩
theorem ze2 : ZeroT Try.prog 2 [.int .i64 0] := ⟨by kernel_rfl⟩
theorem ze3 : ZeroT Try.prog 3 [.int .i64 0] := ⟨by kernel_rfl⟩
theorem ze4 : ZeroT Try.prog 4 [.bool false] := ⟨by kernel_rfl⟩
theorem ze5 : ZeroT Try.prog 5 [.int .u8 0] := ⟨by kernel_rfl⟩
theorem ze6 : ZeroT Try.prog 6 [.int .u8 0] := ⟨by kernel_rfl⟩
theorem ze7 : ZeroT Try.prog 7 [.int .i64 0, .int .i64 0, .bool false, .int .u8 0] := ⟨by kernel_rfl⟩
theorem ze8 : ZeroT Try.prog 8 [.int .i64 0, .int .i64 0, .bool false, .int .u8 0] := ⟨by kernel_rfl⟩
theorem ze9 : ZeroT Try.prog 9 [.string ByteArray.empty] := ⟨by kernel_rfl⟩
theorem ze10 : ZeroT Try.prog 10 [.string ByteArray.empty] := ⟨by kernel_rfl⟩
theorem ze11 : ZeroT Try.prog 11 [.string ByteArray.empty] := ⟨by kernel_rfl⟩
theorem ze12 : ZeroT Try.prog 12 [.int .u64 0] := ⟨by kernel_rfl⟩
theorem ze13 : ZeroT Try.prog 13 [.string ByteArray.empty, .int .u64 0] := ⟨by kernel_rfl⟩
theorem ze14 : ZeroT Try.prog 14 [.string ByteArray.empty, .int .u64 0] := ⟨by kernel_rfl⟩
theorem ze15 : ZeroT Try.prog 15 [.pointer none] := ⟨by kernel_rfl⟩
theorem ze16 : ZeroT Try.prog 16 [.pointer none] := ⟨by kernel_rfl⟩
theorem ze17 : ZeroT Try.prog 17 [.pointer none] := ⟨by kernel_rfl⟩
theorem ze18 : ZeroT Try.prog 18 [.pointer none] := ⟨by kernel_rfl⟩
theorem ze19 : ZeroT Try.prog 19 [.pointer none] := ⟨by kernel_rfl⟩
theorem ze21 : ZeroT Try.prog 21 [.int .i32 0] := ⟨by kernel_rfl⟩
theorem ze22 : ZeroT Try.prog 22 [.int .u64 0] := ⟨by kernel_rfl⟩
theorem ze23 : ZeroT Try.prog 23 [.int .i64 0, .int .u64 0, .int .i64 0] := ⟨by kernel_rfl⟩
theorem ze24 : ZeroT Try.prog 24 [.int .i64 0, .int .u64 0, .int .i64 0] := ⟨by kernel_rfl⟩
theorem ze26 : ZeroT Try.prog 26 [.int .u8 0, .int .u8 0, .int .u8 0, .int .u8 0, .int .u8 0, .int .u8 0, .int .u8 0, .int .u8 0] := ⟨by kernel_rfl⟩
theorem ze27 : ZeroT Try.prog 27 [.int .i64 0, .int .u64 0, .int .i64 0, .int .u8 0, .int .u8 0, .int .u8 0, .int .u8 0, .int .u8 0, .int .u8 0, .int .u8 0, .int .u8 0, .int .u8 0] := ⟨by kernel_rfl⟩
theorem ze28 : ZeroT Try.prog 28 [.int .i64 0, .int .u64 0, .int .i64 0, .int .u8 0, .int .u8 0, .int .u8 0, .int .u8 0, .int .u8 0, .int .u8 0, .int .u8 0, .int .u8 0, .int .u8 0] := ⟨by kernel_rfl⟩
theorem ze35 : ZeroT Try.prog 35 [.slice none 0 0] := ⟨by kernel_rfl⟩
theorem ze37 : ZeroT Try.prog 37 [.pointer none] := ⟨by kernel_rfl⟩
theorem ze38 : ZeroT Try.prog 38 [.int .i64 0, .int .u64 0] := ⟨by kernel_rfl⟩
theorem ze39 : ZeroT Try.prog 39 [.int .i64 0, .int .u64 0] := ⟨by kernel_rfl⟩
theorem ze47 : ZeroT Try.prog 47 [.slice none 0 0] := ⟨by kernel_rfl⟩
theorem ze49 : ZeroT Try.prog 49 [.int .i64 0] := ⟨by kernel_rfl⟩
theorem ze55 : ZeroT Try.prog 55 [.int .u64 0] := ⟨by kernel_rfl⟩
theorem ze57 : ZeroT Try.prog 57 [.slice none 0 0] := ⟨by kernel_rfl⟩
theorem ze58 : ZeroT Try.prog 58 [.slice none 0 0] := ⟨by kernel_rfl⟩
theorem ze59 : ZeroT Try.prog 59 [.int .i64 0, .int .i64 0, .int .i64 0, .int .u64 0, .int .i64 0, .int .u64 0, .int .i64 0, .slice none 0 0] := ⟨by kernel_rfl⟩
theorem ze60 : ZeroT Try.prog 60 [.int .i64 0, .int .i64 0, .int .i64 0, .int .u64 0, .int .i64 0, .int .u64 0, .int .i64 0, .slice none 0 0] := ⟨by kernel_rfl⟩
theorem ze70 : ZeroT Try.prog 70 [.pointer none] := ⟨by kernel_rfl⟩
theorem ze73 : ZeroT Try.prog 73 [.pointer none] := ⟨by kernel_rfl⟩
theorem ze86 : ZeroT Try.prog 86 [.slice none 0 0] := ⟨by kernel_rfl⟩
theorem ze90 : ZeroT Try.prog 90 [.pointer none] := ⟨by kernel_rfl⟩
theorem ze97 : ZeroT Try.prog 97 [.slice none 0 0, .int .i64 0] := ⟨by kernel_rfl⟩
theorem ze98 : ZeroT Try.prog 98 [.slice none 0 0, .int .i64 0] := ⟨by kernel_rfl⟩
theorem ze99 : ZeroT Try.prog 99 [.slice none 0 0, .int .i64 0] := ⟨by kernel_rfl⟩
theorem ze100 : ZeroT Try.prog 100 [.slice none 0 0, .int .i64 0] := ⟨by kernel_rfl⟩
theorem ze106 : ZeroT Try.prog 106 [.pointer none, .pointer none, .pointer none, .string ByteArray.empty] := ⟨by kernel_rfl⟩
theorem ze107 : ZeroT Try.prog 107 [.pointer none, .pointer none, .pointer none, .string ByteArray.empty] := ⟨by kernel_rfl⟩
theorem ze111 : ZeroT Try.prog 111 [.int .u32 0] := ⟨by kernel_rfl⟩
theorem ze112 : ZeroT Try.prog 112 [.int .u8 0] := ⟨by kernel_rfl⟩
theorem ze113 : ZeroT Try.prog 113 [.int .u8 0] := ⟨by kernel_rfl⟩
theorem ze115 : ZeroT Try.prog 115 [.pointer none] := ⟨by kernel_rfl⟩
theorem ze116 : ZeroT Try.prog 116 [.int .i32 0] := ⟨by kernel_rfl⟩
theorem ze117 : ZeroT Try.prog 117 [.int .i32 0] := ⟨by kernel_rfl⟩
theorem mixed : Try.prog.follows .mixedOrders = true := by kernel_rfl
end Go.Proofs.Ytdimcafdmaidpaa
