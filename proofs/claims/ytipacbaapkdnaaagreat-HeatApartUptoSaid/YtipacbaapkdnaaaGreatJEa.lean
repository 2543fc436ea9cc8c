/- How the program's types lie (printed by lays.py, layw.py; numbers are the seat's). -/
import Derived.Test.YtipacbaapkdnaaaGreatJDl
import Derived.Test.YtipacbaapkdnaaaGreatProg
import Derived.KernelRfl
set_option linter.unusedSimpArgs false
set_option linter.unusedVariables false
namespace Go.Proofs.YtipacbaapkdnaaaGreat
open Go.Dn
set_option maxRecDepth 100000
theorem lay2 : lay Tryz.prog 2 = some ⟨1, false, [Value.int IntKind.i64 (0)], Ki.int IntKind.i64⟩ := by kernel_rfl
theorem lay3 : lay Tryz.prog 3 = some ⟨1, false, [Value.int IntKind.i64 (0)], Ki.int IntKind.i64⟩ := by kernel_rfl
theorem lay4 : lay Tryz.prog 4 = some ⟨1, false, [Value.bool false], Ki.bool⟩ := by kernel_rfl
theorem lay5 : lay Tryz.prog 5 = some ⟨1, false, [Value.int IntKind.u8 (0)], Ki.int IntKind.u8⟩ := by kernel_rfl
theorem lay6 : lay Tryz.prog 6 = some ⟨1, false, [Value.int IntKind.u8 (0)], Ki.int IntKind.u8⟩ := by kernel_rfl
theorem lay7 : lay Tryz.prog 7 = some ⟨4, true, [Value.int IntKind.i64 (0), Value.int IntKind.i64 (0), Value.bool false, Value.int IntKind.u8 (0)], Ki.struct [(0, 1, false), (1, 1, false), (2, 1, false), (3, 1, false)]⟩ := by kernel_rfl
theorem lay8 : lay Tryz.prog 8 = some ⟨4, true, [Value.int IntKind.i64 (0), Value.int IntKind.i64 (0), Value.bool false, Value.int IntKind.u8 (0)], Ki.struct [(0, 1, false), (1, 1, false), (2, 1, false), (3, 1, false)]⟩ := by kernel_rfl
theorem lay9 : lay Tryz.prog 9 = some ⟨1, false, [Value.string ByteArray.empty], Ki.string⟩ := by kernel_rfl
theorem lay10 : lay Tryz.prog 10 = some ⟨1, false, [Value.string ByteArray.empty], Ki.string⟩ := by kernel_rfl
theorem lay11 : lay Tryz.prog 11 = some ⟨1, false, [Value.string ByteArray.empty], Ki.string⟩ := by kernel_rfl
theorem lay12 : lay Tryz.prog 12 = some ⟨1, false, [Value.int IntKind.u64 (0)], Ki.int IntKind.u64⟩ := by kernel_rfl
theorem lay13 : lay Tryz.prog 13 = some ⟨2, true, [Value.string ByteArray.empty, Value.int IntKind.u64 (0)], Ki.struct [(0, 1, false), (1, 1, false)]⟩ := by kernel_rfl
theorem lay14 : lay Tryz.prog 14 = some ⟨2, true, [Value.string ByteArray.empty, Value.int IntKind.u64 (0)], Ki.struct [(0, 1, false), (1, 1, false)]⟩ := by kernel_rfl
theorem lay18 : lay Tryz.prog 18 = some ⟨1, true, [Value.pointer none], Ki.struct [(0, 1, false)]⟩ := by kernel_rfl
theorem lay19 : lay Tryz.prog 19 = some ⟨1, true, [Value.pointer none], Ki.struct [(0, 1, false)]⟩ := by kernel_rfl
theorem lay21 : lay Tryz.prog 21 = some ⟨1, false, [Value.int IntKind.i32 (0)], Ki.int IntKind.i32⟩ := by kernel_rfl
theorem lay22 : lay Tryz.prog 22 = some ⟨1, false, [Value.slice none 0 0], Ki.slice 49 10 112 [Value.string ByteArray.empty, Value.int IntKind.i64 (0), Value.int IntKind.i64 (0), Value.int IntKind.i64 (0), Value.int IntKind.i64 (0), Value.int IntKind.i64 (0), Value.slice none 0 0, Value.slice none 0 0, Value.bool false, Value.bool false]⟩ := by kernel_rfl
theorem lay23 : lay Tryz.prog 23 = some ⟨1, false, [Value.slice none 0 0], Ki.slice 54 15 240 [Value.string ByteArray.empty, Value.string ByteArray.empty, Value.int IntKind.i64 (0), Value.int IntKind.i64 (0), Value.int IntKind.i64 (0), Value.int IntKind.i64 (0), Value.int IntKind.i64 (0), Value.slice none 0 0, Value.slice none 0 0, Value.slice none 0 0, Value.string ByteArray.empty, Value.slice none 0 0, Value.string ByteArray.empty, Value.slice none 0 0, Value.string ByteArray.empty]⟩ := by kernel_rfl
theorem lay24 : lay Tryz.prog 24 = some ⟨1, false, [Value.slice none 0 0], Ki.slice 81 5 56 [Value.string ByteArray.empty, Value.int IntKind.i64 (0), Value.string ByteArray.empty, Value.int IntKind.i64 (0), Value.bool false]⟩ := by kernel_rfl
theorem lay25 : lay Tryz.prog 25 = some ⟨3, true, [Value.slice none 0 0, Value.slice none 0 0, Value.slice none 0 0], Ki.struct [(0, 1, false), (1, 1, false), (2, 1, false)]⟩ := by kernel_rfl
theorem lay26 : lay Tryz.prog 26 = some ⟨3, true, [Value.slice none 0 0, Value.slice none 0 0, Value.slice none 0 0], Ki.struct [(0, 1, false), (1, 1, false), (2, 1, false)]⟩ := by kernel_rfl
theorem lay27 : lay Tryz.prog 27 = some ⟨1, false, [Value.slice none 0 0], Ki.slice 3 1 8 [Value.int IntKind.i64 (0)]⟩ := by kernel_rfl
theorem lay28 : lay Tryz.prog 28 = some ⟨2, true, [Value.int IntKind.i64 (0), Value.int IntKind.i64 (0)], Ki.arr 2 1 false⟩ := by kernel_rfl
theorem lay29 : lay Tryz.prog 29 = some ⟨1, false, [Value.slice none 0 0], Ki.slice 9 1 16 [Value.string ByteArray.empty]⟩ := by kernel_rfl
theorem lay30 : lay Tryz.prog 30 = some ⟨9, true, [Value.int IntKind.i64 (0), Value.int IntKind.i64 (0), Value.int IntKind.i64 (0), Value.int IntKind.i64 (0), Value.int IntKind.i64 (0), Value.slice none 0 0, Value.int IntKind.i64 (0), Value.int IntKind.i64 (0), Value.bool false], Ki.struct [(0, 2, true), (2, 2, true), (4, 1, false), (5, 1, false), (6, 1, false), (7, 1, false), (8, 1, false)]⟩ := by kernel_rfl
theorem lay31 : lay Tryz.prog 31 = some ⟨9, true, [Value.int IntKind.i64 (0), Value.int IntKind.i64 (0), Value.int IntKind.i64 (0), Value.int IntKind.i64 (0), Value.int IntKind.i64 (0), Value.slice none 0 0, Value.int IntKind.i64 (0), Value.int IntKind.i64 (0), Value.bool false], Ki.struct [(0, 2, true), (2, 2, true), (4, 1, false), (5, 1, false), (6, 1, false), (7, 1, false), (8, 1, false)]⟩ := by kernel_rfl
theorem lay32 : lay Tryz.prog 32 = some ⟨10, true, [Value.int IntKind.i64 (0), Value.int IntKind.i64 (0), Value.int IntKind.i64 (0), Value.int IntKind.i64 (0), Value.int IntKind.i64 (0), Value.slice none 0 0, Value.int IntKind.i64 (0), Value.int IntKind.i64 (0), Value.bool false, Value.int IntKind.i64 (0)], Ki.struct [(0, 9, true), (9, 1, false)]⟩ := by kernel_rfl
theorem lay33 : lay Tryz.prog 33 = some ⟨10, true, [Value.int IntKind.i64 (0), Value.int IntKind.i64 (0), Value.int IntKind.i64 (0), Value.int IntKind.i64 (0), Value.int IntKind.i64 (0), Value.slice none 0 0, Value.int IntKind.i64 (0), Value.int IntKind.i64 (0), Value.bool false, Value.int IntKind.i64 (0)], Ki.struct [(0, 9, true), (9, 1, false)]⟩ := by kernel_rfl
theorem lay45 : lay Tryz.prog 45 = some ⟨5, true, [Value.int IntKind.i64 (0), Value.int IntKind.i64 (0), Value.int IntKind.i64 (0), Value.int IntKind.i64 (0), Value.int IntKind.i64 (0)], Ki.arr 5 1 false⟩ := by kernel_rfl
theorem lay46 : lay Tryz.prog 46 = some ⟨5, true, [Value.int IntKind.i64 (0), Value.int IntKind.i64 (0), Value.int IntKind.i64 (0), Value.int IntKind.i64 (0), Value.int IntKind.i64 (0)], Ki.arr 5 1 false⟩ := by kernel_rfl
theorem lay47 : lay Tryz.prog 47 = some ⟨1, false, [Value.slice none 0 0], Ki.slice 97 2 32 [Value.string ByteArray.empty, Value.string ByteArray.empty]⟩ := by kernel_rfl
theorem lay48 : lay Tryz.prog 48 = some ⟨10, true, [Value.string ByteArray.empty, Value.int IntKind.i64 (0), Value.int IntKind.i64 (0), Value.int IntKind.i64 (0), Value.int IntKind.i64 (0), Value.int IntKind.i64 (0), Value.slice none 0 0, Value.slice none 0 0, Value.bool false, Value.bool false], Ki.struct [(0, 1, false), (1, 5, true), (6, 1, false), (7, 1, false), (8, 1, false), (9, 1, false)]⟩ := by kernel_rfl
theorem lay49 : lay Tryz.prog 49 = some ⟨10, true, [Value.string ByteArray.empty, Value.int IntKind.i64 (0), Value.int IntKind.i64 (0), Value.int IntKind.i64 (0), Value.int IntKind.i64 (0), Value.int IntKind.i64 (0), Value.slice none 0 0, Value.slice none 0 0, Value.bool false, Value.bool false], Ki.struct [(0, 1, false), (1, 5, true), (6, 1, false), (7, 1, false), (8, 1, false), (9, 1, false)]⟩ := by kernel_rfl
theorem lay50 : lay Tryz.prog 50 = some ⟨1, false, [Value.slice none 0 0], Ki.slice 99 3 40 [Value.int IntKind.i64 (0), Value.string ByteArray.empty, Value.string ByteArray.empty]⟩ := by kernel_rfl
theorem lay51 : lay Tryz.prog 51 = some ⟨2, true, [Value.string ByteArray.empty, Value.slice none 0 0], Ki.struct [(0, 1, false), (1, 1, false)]⟩ := by kernel_rfl
theorem lay52 : lay Tryz.prog 52 = some ⟨2, true, [Value.string ByteArray.empty, Value.slice none 0 0], Ki.struct [(0, 1, false), (1, 1, false)]⟩ := by kernel_rfl
theorem lay53 : lay Tryz.prog 53 = some ⟨15, true, [Value.string ByteArray.empty, Value.string ByteArray.empty, Value.int IntKind.i64 (0), Value.int IntKind.i64 (0), Value.int IntKind.i64 (0), Value.int IntKind.i64 (0), Value.int IntKind.i64 (0), Value.slice none 0 0, Value.slice none 0 0, Value.slice none 0 0, Value.string ByteArray.empty, Value.slice none 0 0, Value.string ByteArray.empty, Value.slice none 0 0, Value.string ByteArray.empty], Ki.struct [(0, 1, false), (1, 1, false), (2, 5, true), (7, 1, false), (8, 1, false), (9, 1, false), (10, 2, true), (12, 2, true), (14, 1, false)]⟩ := by kernel_rfl
theorem lay54 : lay Tryz.prog 54 = some ⟨15, true, [Value.string ByteArray.empty, Value.string ByteArray.empty, Value.int IntKind.i64 (0), Value.int IntKind.i64 (0), Value.int IntKind.i64 (0), Value.int IntKind.i64 (0), Value.int IntKind.i64 (0), Value.slice none 0 0, Value.slice none 0 0, Value.slice none 0 0, Value.string ByteArray.empty, Value.slice none 0 0, Value.string ByteArray.empty, Value.slice none 0 0, Value.string ByteArray.empty], Ki.struct [(0, 1, false), (1, 1, false), (2, 5, true), (7, 1, false), (8, 1, false), (9, 1, false), (10, 2, true), (12, 2, true), (14, 1, false)]⟩ := by kernel_rfl
theorem lay55 : lay Tryz.prog 55 = some ⟨4, true, [Value.int IntKind.i64 (0), Value.int IntKind.i64 (0), Value.int IntKind.i64 (0), Value.int IntKind.i64 (0)], Ki.arr 4 1 false⟩ := by kernel_rfl
theorem lay57 : lay Tryz.prog 57 = some ⟨1, false, [Value.int IntKind.i64 (0)], Ki.int IntKind.i64⟩ := by kernel_rfl
theorem lay80 : lay Tryz.prog 80 = some ⟨5, true, [Value.string ByteArray.empty, Value.int IntKind.i64 (0), Value.string ByteArray.empty, Value.int IntKind.i64 (0), Value.bool false], Ki.struct [(0, 1, false), (1, 1, false), (2, 1, false), (3, 1, false), (4, 1, false)]⟩ := by kernel_rfl
theorem lay81 : lay Tryz.prog 81 = some ⟨5, true, [Value.string ByteArray.empty, Value.int IntKind.i64 (0), Value.string ByteArray.empty, Value.int IntKind.i64 (0), Value.bool false], Ki.struct [(0, 1, false), (1, 1, false), (2, 1, false), (3, 1, false), (4, 1, false)]⟩ := by kernel_rfl
theorem lay96 : lay Tryz.prog 96 = some ⟨2, true, [Value.string ByteArray.empty, Value.string ByteArray.empty], Ki.struct [(0, 1, false), (1, 1, false)]⟩ := by kernel_rfl
theorem lay97 : lay Tryz.prog 97 = some ⟨2, true, [Value.string ByteArray.empty, Value.string ByteArray.empty], Ki.struct [(0, 1, false), (1, 1, false)]⟩ := by kernel_rfl
theorem lay98 : lay Tryz.prog 98 = some ⟨3, true, [Value.int IntKind.i64 (0), Value.string ByteArray.empty, Value.string ByteArray.empty], Ki.struct [(0, 1, false), (1, 1, false), (2, 1, false)]⟩ := by kernel_rfl
theorem lay99 : lay Tryz.prog 99 = some ⟨3, true, [Value.int IntKind.i64 (0), Value.string ByteArray.empty, Value.string ByteArray.empty], Ki.struct [(0, 1, false), (1, 1, false), (2, 1, false)]⟩ := by kernel_rfl
theorem lay113 : lay Tryz.prog 113 = some ⟨1, false, [Value.slice none 0 0], Ki.slice 46 5 40 [Value.int IntKind.i64 (0), Value.int IntKind.i64 (0), Value.int IntKind.i64 (0), Value.int IntKind.i64 (0), Value.int IntKind.i64 (0)]⟩ := by kernel_rfl
theorem lay140 : lay Tryz.prog 140 = some ⟨1, false, [Value.slice none 0 0], Ki.slice 57 1 8 [Value.int IntKind.i64 (0)]⟩ := by kernel_rfl
theorem lay161 : lay Tryz.prog 161 = some ⟨4, true, [Value.pointer none, Value.pointer none, Value.pointer none, Value.string ByteArray.empty], Ki.struct [(0, 1, false), (1, 1, false), (2, 1, false), (3, 1, false)]⟩ := by kernel_rfl
theorem lay162 : lay Tryz.prog 162 = some ⟨4, true, [Value.pointer none, Value.pointer none, Value.pointer none, Value.string ByteArray.empty], Ki.struct [(0, 1, false), (1, 1, false), (2, 1, false), (3, 1, false)]⟩ := by kernel_rfl
theorem lay163 : lay Tryz.prog 163 = some ⟨0, true, [], Ki.arr 0 1 false⟩ := by kernel_rfl
theorem lay164 : lay Tryz.prog 164 = some ⟨0, true, [], Ki.struct [(0, 0, true)]⟩ := by kernel_rfl
theorem lay165 : lay Tryz.prog 165 = some ⟨0, true, [], Ki.struct [(0, 0, true)]⟩ := by kernel_rfl
theorem lay167 : lay Tryz.prog 167 = some ⟨1, false, [Value.int IntKind.u32 (0)], Ki.int IntKind.u32⟩ := by kernel_rfl
theorem lay168 : lay Tryz.prog 168 = some ⟨1, false, [Value.int IntKind.u8 (0)], Ki.int IntKind.u8⟩ := by kernel_rfl
theorem lay169 : lay Tryz.prog 169 = some ⟨1, false, [Value.int IntKind.u8 (0)], Ki.int IntKind.u8⟩ := by kernel_rfl
theorem lay172 : lay Tryz.prog 172 = some ⟨1, false, [Value.int IntKind.i32 (0)], Ki.int IntKind.i32⟩ := by kernel_rfl
theorem lay173 : lay Tryz.prog 173 = some ⟨1, false, [Value.int IntKind.i32 (0)], Ki.int IntKind.i32⟩ := by kernel_rfl
theorem lay174 : lay Tryz.prog 174 = some ⟨11, true, [Value.int IntKind.u64 (0), Value.int IntKind.u64 (0), Value.int IntKind.u32 (0), Value.int IntKind.u8 (0), Value.int IntKind.u8 (0), Value.int IntKind.u8 (0), Value.int IntKind.u8 (0), Value.nilFunc, Value.pointer none, Value.int IntKind.i32 (0), Value.int IntKind.i32 (0)], Ki.struct [(0, 1, false), (1, 1, false), (2, 1, false), (3, 1, false), (4, 1, false), (5, 1, false), (6, 1, false), (7, 1, false), (8, 1, false), (9, 1, false), (10, 1, false)]⟩ := by kernel_rfl
theorem lay175 : lay Tryz.prog 175 = some ⟨11, true, [Value.int IntKind.u64 (0), Value.int IntKind.u64 (0), Value.int IntKind.u32 (0), Value.int IntKind.u8 (0), Value.int IntKind.u8 (0), Value.int IntKind.u8 (0), Value.int IntKind.u8 (0), Value.nilFunc, Value.pointer none, Value.int IntKind.i32 (0), Value.int IntKind.i32 (0)], Ki.struct [(0, 1, false), (1, 1, false), (2, 1, false), (3, 1, false), (4, 1, false), (5, 1, false), (6, 1, false), (7, 1, false), (8, 1, false), (9, 1, false), (10, 1, false)]⟩ := by kernel_rfl
theorem eqt7 : eqT Tryz.prog 7 = some [LK.i IntKind.i64, LK.i IntKind.i64, LK.b, LK.i IntKind.u8] := by kernel_rfl
theorem eqt8 : eqT Tryz.prog 8 = some [LK.i IntKind.i64, LK.i IntKind.i64, LK.b, LK.i IntKind.u8] := by kernel_rfl
theorem eqt28 : eqT Tryz.prog 28 = some [LK.i IntKind.i64, LK.i IntKind.i64] := by kernel_rfl
theorem eqt30 : eqT Tryz.prog 30 = some [LK.i IntKind.i64, LK.i IntKind.i64, LK.i IntKind.i64, LK.i IntKind.i64, LK.i IntKind.i64, LK.sl [LK.s], LK.i IntKind.i64, LK.i IntKind.i64, LK.b] := by kernel_rfl
theorem eqt31 : eqT Tryz.prog 31 = some [LK.i IntKind.i64, LK.i IntKind.i64, LK.i IntKind.i64, LK.i IntKind.i64, LK.i IntKind.i64, LK.sl [LK.s], LK.i IntKind.i64, LK.i IntKind.i64, LK.b] := by kernel_rfl
theorem eqt32 : eqT Tryz.prog 32 = some [LK.i IntKind.i64, LK.i IntKind.i64, LK.i IntKind.i64, LK.i IntKind.i64, LK.i IntKind.i64, LK.sl [LK.s], LK.i IntKind.i64, LK.i IntKind.i64, LK.b, LK.i IntKind.i64] := by kernel_rfl
theorem eqt33 : eqT Tryz.prog 33 = some [LK.i IntKind.i64, LK.i IntKind.i64, LK.i IntKind.i64, LK.i IntKind.i64, LK.i IntKind.i64, LK.sl [LK.s], LK.i IntKind.i64, LK.i IntKind.i64, LK.b, LK.i IntKind.i64] := by kernel_rfl
theorem eqt45 : eqT Tryz.prog 45 = some [LK.i IntKind.i64, LK.i IntKind.i64, LK.i IntKind.i64, LK.i IntKind.i64, LK.i IntKind.i64] := by kernel_rfl
theorem eqt46 : eqT Tryz.prog 46 = some [LK.i IntKind.i64, LK.i IntKind.i64, LK.i IntKind.i64, LK.i IntKind.i64, LK.i IntKind.i64] := by kernel_rfl
theorem eqt48 : eqT Tryz.prog 48 = some [LK.s, LK.i IntKind.i64, LK.i IntKind.i64, LK.i IntKind.i64, LK.i IntKind.i64, LK.i IntKind.i64, LK.sl [LK.s, LK.s], LK.sl [LK.s, LK.s], LK.b, LK.b] := by kernel_rfl
theorem eqt49 : eqT Tryz.prog 49 = some [LK.s, LK.i IntKind.i64, LK.i IntKind.i64, LK.i IntKind.i64, LK.i IntKind.i64, LK.i IntKind.i64, LK.sl [LK.s, LK.s], LK.sl [LK.s, LK.s], LK.b, LK.b] := by kernel_rfl
theorem eqt51 : eqT Tryz.prog 51 = some [LK.s, LK.sl [LK.i IntKind.i64, LK.s, LK.s]] := by kernel_rfl
theorem eqt52 : eqT Tryz.prog 52 = some [LK.s, LK.sl [LK.i IntKind.i64, LK.s, LK.s]] := by kernel_rfl
theorem eqt53 : eqT Tryz.prog 53 = some [LK.s, LK.s, LK.i IntKind.i64, LK.i IntKind.i64, LK.i IntKind.i64, LK.i IntKind.i64, LK.i IntKind.i64, LK.sl [LK.s, LK.s], LK.sl [LK.i IntKind.i64, LK.s, LK.s], LK.sl [LK.s, LK.s], LK.s, LK.sl [LK.i IntKind.i64, LK.s, LK.s], LK.s, LK.sl [LK.i IntKind.i64, LK.s, LK.s], LK.s] := by kernel_rfl
theorem eqt54 : eqT Tryz.prog 54 = some [LK.s, LK.s, LK.i IntKind.i64, LK.i IntKind.i64, LK.i IntKind.i64, LK.i IntKind.i64, LK.i IntKind.i64, LK.sl [LK.s, LK.s], LK.sl [LK.i IntKind.i64, LK.s, LK.s], LK.sl [LK.s, LK.s], LK.s, LK.sl [LK.i IntKind.i64, LK.s, LK.s], LK.s, LK.sl [LK.i IntKind.i64, LK.s, LK.s], LK.s] := by kernel_rfl
theorem eqt55 : eqT Tryz.prog 55 = some [LK.i IntKind.i64, LK.i IntKind.i64, LK.i IntKind.i64, LK.i IntKind.i64] := by kernel_rfl
theorem eqt80 : eqT Tryz.prog 80 = some [LK.s, LK.i IntKind.i64, LK.s, LK.i IntKind.i64, LK.b] := by kernel_rfl
theorem eqt81 : eqT Tryz.prog 81 = some [LK.s, LK.i IntKind.i64, LK.s, LK.i IntKind.i64, LK.b] := by kernel_rfl
theorem eqt96 : eqT Tryz.prog 96 = some [LK.s, LK.s] := by kernel_rfl
theorem eqt97 : eqT Tryz.prog 97 = some [LK.s, LK.s] := by kernel_rfl
theorem eqt98 : eqT Tryz.prog 98 = some [LK.i IntKind.i64, LK.s, LK.s] := by kernel_rfl
theorem eqt99 : eqT Tryz.prog 99 = some [LK.i IntKind.i64, LK.s, LK.s] := by kernel_rfl
attribute [go_sem] eqt7 eqt8 eqt28 eqt30 eqt31 eqt32 eqt33 eqt45 eqt46 eqt48 eqt49 eqt51 eqt52 eqt53 eqt54 eqt55 eqt80 eqt81 eqt96 eqt97 eqt98 eqt99
attribute [go_sem] lay2 lay3 lay4 lay5 lay6 lay7 lay8 lay9 lay10 lay11 lay12 lay13 lay14 lay18 lay19 lay21 lay22 lay23 lay24 lay25 lay26 lay27 lay28 lay29 lay30 lay31 lay32 lay33 lay45 lay46 lay47 lay48 lay49 lay50 lay51 lay52 lay53 lay54 lay55 lay57 lay80 lay81 lay96 lay97 lay98 lay99 lay113 lay140 lay161 lay162 lay163 lay164 lay165 lay167 lay168 lay169 lay172 lay173 lay174 lay175
end Go.Proofs.YtipacbaapkdnaaaGreat
