/- The tables of this seat's types, written by a program (env.py) of mine off the translation; each is one closed fact for the kernel. -/
import Derived.Test.YtikdbgheefjpkaaProg
import Derived.Test.YtikdbgheefjpkaaMore
import Derived.KernelRfl
namespace Go.Proofs.Ytikdbgheefjpkaa
open Go Go.Sx
theorem E_fa : ([(7, 0, 0), (7, 1, 1), (7, 2, 2), (7, 3, 3), (8, 0, 0), (8, 1, 1), (8, 2, 2), (8, 3, 3), (13, 0, 0), (13, 1, 1), (14, 0, 0), (14, 1, 1), (18, 0, 0), (19, 0, 0), (31, 0, 0), (31, 1, 1), (31, 2, 2), (32, 0, 0), (32, 1, 1), (32, 2, 2), (48, 0, 0), (48, 1, 1), (48, 2, 2), (48, 3, 3), (48, 4, 4), (49, 0, 0), (49, 1, 1), (49, 2, 2), (49, 3, 3), (49, 4, 4), (58, 0, 0), (58, 1, 1), (58, 2, 2), (58, 3, 3), (59, 0, 0), (59, 1, 1), (59, 2, 2), (59, 3, 3), (67, 0, 0), (67, 1, 1), (67, 2, 2), (68, 0, 0), (68, 1, 1), (68, 2, 2), (79, 0, 0), (80, 0, 0), (82, 0, 0), (83, 0, 0), (85, 0, 0), (85, 1, 1), (86, 0, 0), (86, 1, 1), (95, 0, 0), (95, 1, 1), (95, 2, 2), (96, 0, 0), (96, 1, 1), (96, 2, 2), (105, 0, 0), (105, 1, 1), (105, 2, 2), (106, 0, 0), (106, 1, 1), (106, 2, 2), (108, 0, 0), (108, 1, 1), (108, 2, 2), (108, 3, 3), (108, 4, 4), (109, 0, 0), (109, 1, 1), (109, 2, 2), (109, 3, 3), (109, 4, 4), (111, 0, 0), (111, 1, 1), (111, 2, 2), (111, 3, 3), (111, 4, 4), (111, 5, 5), (111, 6, 10), (111, 7, 11), (111, 8, 12), (111, 9, 13), (111, 10, 14), (112, 0, 0), (112, 1, 1), (112, 2, 2), (112, 3, 3), (112, 4, 4), (112, 5, 5), (112, 6, 10), (112, 7, 11), (112, 8, 12), (112, 9, 13), (112, 10, 14), (121, 0, 0), (121, 1, 1), (122, 0, 0), (122, 1, 1), (154, 0, 0), (154, 1, 1), (154, 2, 2), (154, 3, 3), (155, 0, 0), (155, 1, 1), (155, 2, 2), (155, 3, 3), (166, 0, 0), (166, 1, 1), (166, 2, 2), (166, 3, 3), (166, 4, 4), (166, 5, 5), (166, 6, 6), (166, 7, 7), (166, 8, 8), (166, 9, 9), (166, 10, 10), (167, 0, 0), (167, 1, 1), (167, 2, 2), (167, 3, 3), (167, 4, 4), (167, 5, 5), (167, 6, 6), (167, 7, 7), (167, 8, 8), (167, 9, 9), (167, 10, 10)] : List (Nat × Nat × Nat)).all (faOk Try.prog) = true := by kernel_rfl
theorem E_sl : ([(22, 32, 3), (29, 49, 5), (35, 3, 1), (42, 29, 1), (47, 5, 1), (57, 112, 15), (63, 68, 6), (81, 86, 2), (104, 59, 4), (110, 122, 2)] : List (Nat × Nat × Nat)).all (slOk Try.prog) = true := by kernel_rfl
theorem E_ar : ([(54, 256, 1), (156, 0, 1)] : List (Nat × Nat × Nat)).all (arOk Try.prog) = true := by kernel_rfl
theorem E_ae : ([(54, 3), (156, 16)] : List (Nat × Nat)).all (aeOk Try.prog) = true := by kernel_rfl
theorem E_one : ([1, 2, 3, 4, 5, 6, 9, 10, 11, 12, 15, 16, 17, 21, 22, 23, 24, 25, 26, 27, 28, 29, 30, 33, 34, 35, 36, 37, 38, 39, 40, 41, 42, 44, 45, 46, 47, 50, 51, 52, 53, 55, 56, 57, 60, 61, 62, 63, 64, 65, 66, 69, 71, 72, 73, 74, 75, 76, 77, 78, 81, 84, 87, 88, 89, 90, 91, 92, 93, 94, 97, 98, 99, 100, 101, 102, 103, 104, 107, 110, 113, 114, 115, 116, 117, 118, 119, 120, 123, 124, 125, 126, 127, 128, 129, 130, 131, 132, 133, 135, 136, 137, 138, 140, 141, 142, 143, 144, 145, 146, 147, 148, 149, 150, 152, 153, 159, 160, 161, 162, 163, 164, 165] : List Nat).all (oneOk Try.prog) = true := by kernel_rfl
theorem E_agg : ([(7, 4), (8, 4), (13, 2), (14, 2), (18, 1), (19, 1), (31, 3), (32, 3), (48, 5), (49, 5), (54, 256), (58, 4), (59, 4), (67, 6), (68, 6), (79, 1), (80, 1), (82, 1), (83, 1), (85, 2), (86, 2), (95, 3), (96, 3), (105, 3), (106, 3), (108, 5), (109, 5), (111, 15), (112, 15), (121, 2), (122, 2), (154, 4), (155, 4), (156, 0), (157, 0), (158, 0), (166, 11), (167, 11)] : List (Nat × Nat)).all (aggOk Try.prog) = true := by kernel_rfl
theorem E_ints : ([(2, .i64), (3, .i64), (5, .u8), (6, .u8), (12, .u64), (21, .i32), (120, .u64), (130, .u64), (133, .i64), (142, .u32), (144, .u64), (160, .u8), (161, .u8), (164, .i32), (165, .i32)] : List (Nat × IntKind)).all (intOk Try.prog) = true := by kernel_rfl
theorem E_bools : ([4] : List Nat).all (boolOk Try.prog) = true := by kernel_rfl
def E : Env Try.prog := ⟨_, _, _, _, _, _, _, _, E_fa, E_sl, E_ar, E_ae, E_one, E_agg, E_ints, E_bools⟩
theorem fl7 : FlatT Try.prog 7 [.int .i64, .int .i64, .bool, .int .u8] := ⟨⟨by kernel_rfl, by kernel_rfl, by kernel_rfl⟩⟩
theorem fl8 : FlatT Try.prog 8 [.int .i64, .int .i64, .bool, .int .u8] := ⟨⟨by kernel_rfl, by kernel_rfl, by kernel_rfl⟩⟩
theorem fl108 : FlatT Try.prog 108 [.int .i64, .int .i64, .int .i64, .int .i64, .int .i64] := ⟨⟨by kernel_rfl, by kernel_rfl, by kernel_rfl⟩⟩
theorem fl109 : FlatT Try.prog 109 [.int .i64, .int .i64, .int .i64, .int .i64, .int .i64] := ⟨⟨by kernel_rfl, by kernel_rfl, by kernel_rfl⟩⟩
theorem fl121 : FlatT Try.prog 121 [.int .i64, .int .u64] := ⟨⟨by kernel_rfl, by kernel_rfl, by kernel_rfl⟩⟩
theorem fl122 : FlatT Try.prog 122 [.int .i64, .int .u64] := ⟨⟨by kernel_rfl, by kernel_rfl, by kernel_rfl⟩⟩
theorem ze2 : ZeroT Try.prog 2 [.int .i64 0] := ⟨by kernel_rfl⟩
theorem ze3 : ZeroT Try.prog 3 [.int .i64 0] := ⟨by kernel_rfl⟩
theorem ze4 : ZeroT Try.prog 4 [.bool false] := ⟨by kernel_rfl⟩
theorem ze5 : ZeroT Try.prog 5 [.int .u8 0] := ⟨by kernel_rfl⟩
theorem ze6 : ZeroT Try.prog 6 [.int .u8 0] := ⟨by kernel_rfl⟩
theorem ze7 : ZeroT Try.prog 7 [.int .i64 0, .int .i64 0, .bool false, .int .u8 0] := ⟨by kernel_rfl⟩
theorem ze8 : ZeroT Try.prog 8 [.int .i64 0, .int .i64 0, .bool false, .int .u8 0] := ⟨by kernel_rfl⟩
theorem ze9 : ZeroT Try.prog 9 [.string ByteArray.empty] := ⟨by kernel_rfl⟩
theorem ze10 : ZeroT Try.prog 10 [.string ByteArray.empty] := ⟨by kernel_rfl⟩
theorem ze11 : ZeroT Try.prog 11 [.string ByteArray.empty] := ⟨by kernel_rfl⟩
theorem ze12 : ZeroT Try.prog 12 [.int .u64 0] := ⟨by kernel_rfl⟩
theorem ze13 : ZeroT Try.prog 13 [.string ByteArray.empty, .int .u64 0] := ⟨by kernel_rfl⟩
theorem ze14 : ZeroT Try.prog 14 [.string ByteArray.empty, .int .u64 0] := ⟨by kernel_rfl⟩
theorem ze15 : ZeroT Try.prog 15 [.pointer none] := ⟨by kernel_rfl⟩
theorem ze16 : ZeroT Try.prog 16 [.pointer none] := ⟨by kernel_rfl⟩
theorem ze17 : ZeroT Try.prog 17 [.pointer none] := ⟨by kernel_rfl⟩
theorem ze18 : ZeroT Try.prog 18 [.pointer none] := ⟨by kernel_rfl⟩
theorem ze19 : ZeroT Try.prog 19 [.pointer none] := ⟨by kernel_rfl⟩
theorem ze21 : ZeroT Try.prog 21 [.int .i32 0] := ⟨by kernel_rfl⟩
theorem ze22 : ZeroT Try.prog 22 [.slice none 0 0] := ⟨by kernel_rfl⟩
theorem ze25 : ZeroT Try.prog 25 [.pointer none] := ⟨by kernel_rfl⟩
theorem ze27 : ZeroT Try.prog 27 [.pointer none] := ⟨by kernel_rfl⟩
theorem ze29 : ZeroT Try.prog 29 [.slice none 0 0] := ⟨by kernel_rfl⟩
theorem ze31 : ZeroT Try.prog 31 [.int .i64 0, .int .i64 0, .slice none 0 0] := ⟨by kernel_rfl⟩
theorem ze32 : ZeroT Try.prog 32 [.int .i64 0, .int .i64 0, .slice none 0 0] := ⟨by kernel_rfl⟩
theorem ze35 : ZeroT Try.prog 35 [.slice none 0 0] := ⟨by kernel_rfl⟩
theorem ze42 : ZeroT Try.prog 42 [.slice none 0 0] := ⟨by kernel_rfl⟩
theorem ze47 : ZeroT Try.prog 47 [.slice none 0 0] := ⟨by kernel_rfl⟩
theorem ze48 : ZeroT Try.prog 48 [.int .i64 0, .int .i64 0, .int .i64 0, .int .i64 0, .slice none 0 0] := ⟨by kernel_rfl⟩
theorem ze49 : ZeroT Try.prog 49 [.int .i64 0, .int .i64 0, .int .i64 0, .int .i64 0, .slice none 0 0] := ⟨by kernel_rfl⟩
theorem ze52 : ZeroT Try.prog 52 [.pointer none] := ⟨by kernel_rfl⟩
theorem ze57 : ZeroT Try.prog 57 [.slice none 0 0] := ⟨by kernel_rfl⟩
theorem ze58 : ZeroT Try.prog 58 [.int .i64 0, .slice none 0 0, .slice none 0 0, .slice none 0 0] := ⟨by kernel_rfl⟩
theorem ze59 : ZeroT Try.prog 59 [.int .i64 0, .slice none 0 0, .slice none 0 0, .slice none 0 0] := ⟨by kernel_rfl⟩
theorem ze63 : ZeroT Try.prog 63 [.slice none 0 0] := ⟨by kernel_rfl⟩
theorem ze64 : ZeroT Try.prog 64 [.pointer none] := ⟨by kernel_rfl⟩
theorem ze67 : ZeroT Try.prog 67 [.int .i64 0, .int .i64 0, .int .i64 0, .slice none 0 0, .slice none 0 0, .slice none 0 0] := ⟨by kernel_rfl⟩
theorem ze68 : ZeroT Try.prog 68 [.int .i64 0, .int .i64 0, .int .i64 0, .slice none 0 0, .slice none 0 0, .slice none 0 0] := ⟨by kernel_rfl⟩
theorem ze78 : ZeroT Try.prog 78 [.map none] := ⟨by kernel_rfl⟩
theorem ze79 : ZeroT Try.prog 79 [.map none] := ⟨by kernel_rfl⟩
theorem ze80 : ZeroT Try.prog 80 [.map none] := ⟨by kernel_rfl⟩
theorem ze81 : ZeroT Try.prog 81 [.slice none 0 0] := ⟨by kernel_rfl⟩
theorem ze82 : ZeroT Try.prog 82 [.slice none 0 0] := ⟨by kernel_rfl⟩
theorem ze83 : ZeroT Try.prog 83 [.slice none 0 0] := ⟨by kernel_rfl⟩
theorem ze85 : ZeroT Try.prog 85 [.int .i64 0, .slice none 0 0] := ⟨by kernel_rfl⟩
theorem ze86 : ZeroT Try.prog 86 [.int .i64 0, .slice none 0 0] := ⟨by kernel_rfl⟩
theorem ze93 : ZeroT Try.prog 93 [.map none] := ⟨by kernel_rfl⟩
theorem ze94 : ZeroT Try.prog 94 [.map none] := ⟨by kernel_rfl⟩
theorem ze95 : ZeroT Try.prog 95 [.int .i64 0, .map none, .map none] := ⟨by kernel_rfl⟩
theorem ze96 : ZeroT Try.prog 96 [.int .i64 0, .map none, .map none] := ⟨by kernel_rfl⟩
theorem ze104 : ZeroT Try.prog 104 [.slice none 0 0] := ⟨by kernel_rfl⟩
theorem ze105 : ZeroT Try.prog 105 [.int .i64 0, .slice none 0 0, .slice none 0 0] := ⟨by kernel_rfl⟩
theorem ze106 : ZeroT Try.prog 106 [.int .i64 0, .slice none 0 0, .slice none 0 0] := ⟨by kernel_rfl⟩
theorem ze108 : ZeroT Try.prog 108 [.int .i64 0, .int .i64 0, .int .i64 0, .int .i64 0, .int .i64 0] := ⟨by kernel_rfl⟩
theorem ze109 : ZeroT Try.prog 109 [.int .i64 0, .int .i64 0, .int .i64 0, .int .i64 0, .int .i64 0] := ⟨by kernel_rfl⟩
theorem ze110 : ZeroT Try.prog 110 [.slice none 0 0] := ⟨by kernel_rfl⟩
theorem ze111 : ZeroT Try.prog 111 [.int .i64 0, .int .i64 0, .int .i64 0, .int .i64 0, .int .i64 0, .int .i64 0, .int .i64 0, .int .i64 0, .int .i64 0, .int .i64 0, .int .i64 0, .int .i64 0, .int .i64 0, .slice none 0 0, .slice none 0 0] := ⟨by kernel_rfl⟩
theorem ze112 : ZeroT Try.prog 112 [.int .i64 0, .int .i64 0, .int .i64 0, .int .i64 0, .int .i64 0, .int .i64 0, .int .i64 0, .int .i64 0, .int .i64 0, .int .i64 0, .int .i64 0, .int .i64 0, .int .i64 0, .slice none 0 0, .slice none 0 0] := ⟨by kernel_rfl⟩
theorem ze120 : ZeroT Try.prog 120 [.int .u64 0] := ⟨by kernel_rfl⟩
theorem ze121 : ZeroT Try.prog 121 [.int .i64 0, .int .u64 0] := ⟨by kernel_rfl⟩
theorem ze122 : ZeroT Try.prog 122 [.int .i64 0, .int .u64 0] := ⟨by kernel_rfl⟩
theorem ze130 : ZeroT Try.prog 130 [.int .u64 0] := ⟨by kernel_rfl⟩
theorem ze133 : ZeroT Try.prog 133 [.int .i64 0] := ⟨by kernel_rfl⟩
theorem ze142 : ZeroT Try.prog 142 [.int .u32 0] := ⟨by kernel_rfl⟩
theorem ze144 : ZeroT Try.prog 144 [.int .u64 0] := ⟨by kernel_rfl⟩
theorem ze148 : ZeroT Try.prog 148 [.pointer none] := ⟨by kernel_rfl⟩
theorem ze150 : ZeroT Try.prog 150 [.pointer none] := ⟨by kernel_rfl⟩
theorem ze154 : ZeroT Try.prog 154 [.pointer none, .pointer none, .pointer none, .string ByteArray.empty] := ⟨by kernel_rfl⟩
theorem ze155 : ZeroT Try.prog 155 [.pointer none, .pointer none, .pointer none, .string ByteArray.empty] := ⟨by kernel_rfl⟩
theorem ze160 : ZeroT Try.prog 160 [.int .u8 0] := ⟨by kernel_rfl⟩
theorem ze161 : ZeroT Try.prog 161 [.int .u8 0] := ⟨by kernel_rfl⟩
theorem ze163 : ZeroT Try.prog 163 [.pointer none] := ⟨by kernel_rfl⟩
theorem ze164 : ZeroT Try.prog 164 [.int .i32 0] := ⟨by kernel_rfl⟩
theorem ze165 : ZeroT Try.prog 165 [.int .i32 0] := ⟨by kernel_rfl⟩
theorem mixed : Try.prog.follows .mixedOrders = true := by kernel_rfl
end Go.Proofs.Ytikdbgheefjpkaa
