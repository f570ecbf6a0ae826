/- The tables of this seat's types, written by a program (env.py) of mine off the translation; each is one closed fact for the kernel. -/
import Derived.Test.YtminmbkhlnaabaaProg
import Derived.Test.YtminmbkhlnaabaaMore
import Derived.KernelRfl
namespace Go.Proofs.Ytminmbkhlnaabaa
open Go Go.Sx
theorem E_fa : ([(7, 0, 0), (7, 1, 1), (7, 2, 2), (7, 3, 3), (8, 0, 0), (8, 1, 1), (8, 2, 2), (8, 3, 3), (13, 0, 0), (13, 1, 1), (14, 0, 0), (14, 1, 1), (18, 0, 0), (19, 0, 0), (41, 0, 0), (41, 1, 1), (41, 2, 2), (42, 0, 0), (42, 1, 1), (42, 2, 2), (62, 0, 0), (62, 1, 1), (62, 2, 2), (63, 0, 0), (63, 1, 1), (63, 2, 2), (68, 0, 0), (68, 1, 1), (69, 0, 0), (69, 1, 1), (72, 0, 0), (72, 1, 1), (72, 2, 2), (73, 0, 0), (73, 1, 1), (73, 2, 2), (75, 0, 0), (75, 1, 1), (76, 0, 0), (76, 1, 1), (80, 0, 0), (80, 1, 1), (80, 2, 2), (80, 3, 3), (81, 0, 0), (81, 1, 1), (81, 2, 2), (81, 3, 3), (82, 0, 0), (82, 1, 1), (82, 2, 2), (83, 0, 0), (83, 1, 1), (83, 2, 2), (86, 0, 0), (86, 1, 1), (86, 2, 2), (86, 3, 3), (86, 4, 4), (86, 5, 5), (87, 0, 0), (87, 1, 1), (87, 2, 2), (87, 3, 3), (87, 4, 4), (87, 5, 5), (92, 0, 0), (92, 1, 1), (92, 2, 2), (93, 0, 0), (93, 1, 1), (93, 2, 2), (94, 0, 0), (94, 1, 1), (94, 2, 2), (95, 0, 0), (95, 1, 1), (95, 2, 2), (102, 0, 0), (102, 1, 1), (102, 2, 2), (102, 3, 3), (103, 0, 0), (103, 1, 1), (103, 2, 2), (103, 3, 3), (113, 0, 0), (113, 1, 1), (113, 2, 2), (113, 3, 3), (113, 4, 4), (113, 5, 5), (113, 6, 6), (113, 7, 7), (113, 8, 8), (113, 9, 9), (113, 10, 10), (114, 0, 0), (114, 1, 1), (114, 2, 2), (114, 3, 3), (114, 4, 4), (114, 5, 5), (114, 6, 6), (114, 7, 7), (114, 8, 8), (114, 9, 9), (114, 10, 10)] : List (Nat × Nat × Nat)).all (faOk Try.prog) = true := by kernel_rfl
theorem E_sl : ([(22, 5, 1), (32, 22, 1), (37, 3, 1), (38, 42, 3), (58, 63, 3), (66, 69, 2), (71, 76, 2), (79, 83, 3), (91, 95, 3)] : List (Nat × Nat × Nat)).all (slOk Try.prog) = true := by kernel_rfl
theorem E_ar : ([(104, 0, 1)] : List (Nat × Nat × Nat)).all (arOk Try.prog) = true := by kernel_rfl
theorem E_ae : ([(104, 16)] : List (Nat × Nat)).all (aeOk Try.prog) = true := by kernel_rfl
theorem E_one : ([1, 2, 3, 4, 5, 6, 9, 10, 11, 12, 15, 16, 17, 21, 22, 23, 24, 25, 27, 29, 30, 31, 32, 33, 34, 35, 36, 37, 38, 39, 40, 43, 44, 45, 46, 47, 48, 49, 50, 51, 52, 53, 54, 55, 56, 57, 58, 59, 60, 61, 64, 65, 66, 67, 70, 71, 74, 77, 78, 79, 84, 85, 88, 89, 90, 91, 96, 97, 98, 99, 100, 101, 107, 108, 109, 110, 111, 112] : List Nat).all (oneOk Try.prog) = true := by kernel_rfl
theorem E_agg : ([(7, 4), (8, 4), (13, 2), (14, 2), (18, 1), (19, 1), (41, 3), (42, 3), (62, 3), (63, 3), (68, 2), (69, 2), (72, 3), (73, 3), (75, 2), (76, 2), (80, 4), (81, 4), (82, 3), (83, 3), (86, 6), (87, 6), (92, 3), (93, 3), (94, 3), (95, 3), (102, 4), (103, 4), (104, 0), (105, 0), (106, 0), (113, 11), (114, 11)] : List (Nat × Nat)).all (aggOk Try.prog) = true := by kernel_rfl
theorem E_ints : ([(2, .i64), (3, .i64), (5, .u8), (6, .u8), (12, .u64), (21, .i32), (25, .i64), (50, .u32), (85, .u64), (107, .u8), (108, .u8), (111, .i32), (112, .i32)] : List (Nat × IntKind)).all (intOk Try.prog) = true := by kernel_rfl
theorem E_bools : ([4] : List Nat).all (boolOk Try.prog) = true := by kernel_rfl
def E : Env Try.prog := ⟨_, _, _, _, _, _, _, _, E_fa, E_sl, E_ar, E_ae, E_one, E_agg, E_ints, E_bools⟩
theorem fl7 : FlatT Try.prog 7 [.int .i64, .int .i64, .bool, .int .u8] := ⟨⟨by kernel_rfl, by kernel_rfl, by kernel_rfl⟩⟩
theorem fl8 : FlatT Try.prog 8 [.int .i64, .int .i64, .bool, .int .u8] := ⟨⟨by kernel_rfl, by kernel_rfl, by kernel_rfl⟩⟩
theorem ze2 : ZeroT Try.prog 2 [.int .i64 0] := ⟨by kernel_rfl⟩
theorem ze3 : ZeroT Try.prog 3 [.int .i64 0] := ⟨by kernel_rfl⟩
theorem ze4 : ZeroT Try.prog 4 [.bool false] := ⟨by kernel_rfl⟩
theorem ze5 : ZeroT Try.prog 5 [.int .u8 0] := ⟨by kernel_rfl⟩
theorem ze6 : ZeroT Try.prog 6 [.int .u8 0] := ⟨by kernel_rfl⟩
theorem ze7 : ZeroT Try.prog 7 [.int .i64 0, .int .i64 0, .bool false, .int .u8 0] := ⟨by kernel_rfl⟩
theorem ze8 : ZeroT Try.prog 8 [.int .i64 0, .int .i64 0, .bool false, .int .u8 0] := ⟨by kernel_rfl⟩
theorem ze9 : ZeroT Try.prog 9 [.string ByteArray.empty] := ⟨by kernel_rfl⟩
theorem ze10 : ZeroT Try.prog 10 [.string ByteArray.empty] := ⟨by kernel_rfl⟩
theorem ze11 : ZeroT Try.prog 11 [.string ByteArray.empty] := ⟨by kernel_rfl⟩
theorem ze12 : ZeroT Try.prog 12 [.int .u64 0] := ⟨by kernel_rfl⟩
theorem ze13 : ZeroT Try.prog 13 [.string ByteArray.empty, .int .u64 0] := ⟨by kernel_rfl⟩
theorem ze14 : ZeroT Try.prog 14 [.string ByteArray.empty, .int .u64 0] := ⟨by kernel_rfl⟩
theorem ze15 : ZeroT Try.prog 15 [.pointer none] := ⟨by kernel_rfl⟩
theorem ze16 : ZeroT Try.prog 16 [.pointer none] := ⟨by kernel_rfl⟩
theorem ze17 : ZeroT Try.prog 17 [.pointer none] := ⟨by kernel_rfl⟩
theorem ze18 : ZeroT Try.prog 18 [.pointer none] := ⟨by kernel_rfl⟩
theorem ze19 : ZeroT Try.prog 19 [.pointer none] := ⟨by kernel_rfl⟩
theorem ze21 : ZeroT Try.prog 21 [.int .i32 0] := ⟨by kernel_rfl⟩
theorem ze22 : ZeroT Try.prog 22 [.slice none 0 0] := ⟨by kernel_rfl⟩
theorem ze23 : ZeroT Try.prog 23 [.pointer none] := ⟨by kernel_rfl⟩
theorem ze25 : ZeroT Try.prog 25 [.int .i64 0] := ⟨by kernel_rfl⟩
theorem ze32 : ZeroT Try.prog 32 [.slice none 0 0] := ⟨by kernel_rfl⟩
theorem ze37 : ZeroT Try.prog 37 [.slice none 0 0] := ⟨by kernel_rfl⟩
theorem ze38 : ZeroT Try.prog 38 [.slice none 0 0] := ⟨by kernel_rfl⟩
theorem ze39 : ZeroT Try.prog 39 [.pointer none] := ⟨by kernel_rfl⟩
theorem ze41 : ZeroT Try.prog 41 [.int .i64 0, .int .i64 0, .slice none 0 0] := ⟨by kernel_rfl⟩
theorem ze42 : ZeroT Try.prog 42 [.int .i64 0, .int .i64 0, .slice none 0 0] := ⟨by kernel_rfl⟩
theorem ze50 : ZeroT Try.prog 50 [.int .u32 0] := ⟨by kernel_rfl⟩
theorem ze54 : ZeroT Try.prog 54 [.pointer none] := ⟨by kernel_rfl⟩
theorem ze58 : ZeroT Try.prog 58 [.slice none 0 0] := ⟨by kernel_rfl⟩
theorem ze60 : ZeroT Try.prog 60 [.pointer none] := ⟨by kernel_rfl⟩
theorem ze62 : ZeroT Try.prog 62 [.int .i64 0, .int .i64 0, .slice none 0 0] := ⟨by kernel_rfl⟩
theorem ze63 : ZeroT Try.prog 63 [.int .i64 0, .int .i64 0, .slice none 0 0] := ⟨by kernel_rfl⟩
theorem ze66 : ZeroT Try.prog 66 [.slice none 0 0] := ⟨by kernel_rfl⟩
theorem ze68 : ZeroT Try.prog 68 [.slice none 0 0, .int .i64 0] := ⟨by kernel_rfl⟩
theorem ze69 : ZeroT Try.prog 69 [.slice none 0 0, .int .i64 0] := ⟨by kernel_rfl⟩
theorem ze71 : ZeroT Try.prog 71 [.slice none 0 0] := ⟨by kernel_rfl⟩
theorem ze72 : ZeroT Try.prog 72 [.int .i64 0, .int .i64 0, .slice none 0 0] := ⟨by kernel_rfl⟩
theorem ze73 : ZeroT Try.prog 73 [.int .i64 0, .int .i64 0, .slice none 0 0] := ⟨by kernel_rfl⟩
theorem ze75 : ZeroT Try.prog 75 [.string ByteArray.empty, .int .i64 0] := ⟨by kernel_rfl⟩
theorem ze76 : ZeroT Try.prog 76 [.string ByteArray.empty, .int .i64 0] := ⟨by kernel_rfl⟩
theorem ze79 : ZeroT Try.prog 79 [.slice none 0 0] := ⟨by kernel_rfl⟩
theorem ze80 : ZeroT Try.prog 80 [.int .i64 0, .int .i64 0, .int .i64 0, .slice none 0 0] := ⟨by kernel_rfl⟩
theorem ze81 : ZeroT Try.prog 81 [.int .i64 0, .int .i64 0, .int .i64 0, .slice none 0 0] := ⟨by kernel_rfl⟩
theorem ze82 : ZeroT Try.prog 82 [.slice none 0 0, .int .i64 0, .int .i64 0] := ⟨by kernel_rfl⟩
theorem ze83 : ZeroT Try.prog 83 [.slice none 0 0, .int .i64 0, .int .i64 0] := ⟨by kernel_rfl⟩
theorem ze85 : ZeroT Try.prog 85 [.int .u64 0] := ⟨by kernel_rfl⟩
theorem ze86 : ZeroT Try.prog 86 [.int .i64 0, .int .i64 0, .int .i64 0, .slice none 0 0, .slice none 0 0, .slice none 0 0] := ⟨by kernel_rfl⟩
theorem ze87 : ZeroT Try.prog 87 [.int .i64 0, .int .i64 0, .int .i64 0, .slice none 0 0, .slice none 0 0, .slice none 0 0] := ⟨by kernel_rfl⟩
theorem ze91 : ZeroT Try.prog 91 [.slice none 0 0] := ⟨by kernel_rfl⟩
theorem ze92 : ZeroT Try.prog 92 [.slice none 0 0, .int .i64 0, .int .i64 0] := ⟨by kernel_rfl⟩
theorem ze93 : ZeroT Try.prog 93 [.slice none 0 0, .int .i64 0, .int .i64 0] := ⟨by kernel_rfl⟩
theorem ze94 : ZeroT Try.prog 94 [.int .i64 0, .slice none 0 0, .int .i64 0] := ⟨by kernel_rfl⟩
theorem ze95 : ZeroT Try.prog 95 [.int .i64 0, .slice none 0 0, .int .i64 0] := ⟨by kernel_rfl⟩
theorem ze102 : ZeroT Try.prog 102 [.pointer none, .pointer none, .pointer none, .string ByteArray.empty] := ⟨by kernel_rfl⟩
theorem ze103 : ZeroT Try.prog 103 [.pointer none, .pointer none, .pointer none, .string ByteArray.empty] := ⟨by kernel_rfl⟩
theorem ze107 : ZeroT Try.prog 107 [.int .u8 0] := ⟨by kernel_rfl⟩
theorem ze108 : ZeroT Try.prog 108 [.int .u8 0] := ⟨by kernel_rfl⟩
theorem ze110 : ZeroT Try.prog 110 [.pointer none] := ⟨by kernel_rfl⟩
theorem ze111 : ZeroT Try.prog 111 [.int .i32 0] := ⟨by kernel_rfl⟩
theorem ze112 : ZeroT Try.prog 112 [.int .i32 0] := ⟨by kernel_rfl⟩
theorem mixed : Try.prog.follows .mixedOrders = true := by kernel_rfl
end Go.Proofs.Ytminmbkhlnaabaa
