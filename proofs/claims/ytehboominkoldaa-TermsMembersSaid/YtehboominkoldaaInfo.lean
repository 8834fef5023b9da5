/- The types of this seat, as Sx asks them: printed by a program of mine (wip/mkinfo.py). -/
import Derived.Test.YtehboominkoldaaSxL
import Derived.Test.YtehboominkoldaaProg
namespace Go.Proofs.Ytehboominkoldaa
open Go Go.Proofs.Ytehboominkoldaa.Sx
theorem t1 : infoOf Try.prog 1 = some { kd := .one, size := 1, bytes := 8, zero := [.nilFunc] } := by kernel_rfl
theorem t2 : infoOf Try.prog 2 = some { kd := .int .i64, size := 1, bytes := 8, zero := [.int .i64 0] } := by kernel_rfl
theorem t3 : infoOf Try.prog 3 = some { kd := .int .i64, size := 1, bytes := 8, zero := [.int .i64 0] } := by kernel_rfl
theorem t4 : infoOf Try.prog 4 = some { kd := .bool, size := 1, bytes := 1, zero := [.bool false] } := by kernel_rfl
theorem t5 : infoOf Try.prog 5 = some { kd := .int .u8, size := 1, bytes := 1, zero := [.int .u8 0] } := by kernel_rfl
theorem t6 : infoOf Try.prog 6 = some { kd := .int .u8, size := 1, bytes := 1, zero := [.int .u8 0] } := by kernel_rfl
theorem t7 : infoOf Try.prog 7 = some { kd := .struct [(0, 2, 1), (1, 3, 1), (2, 4, 1), (3, 6, 1)], size := 4, bytes := 24, zero := [.int .i64 0, .int .i64 0, .bool false, .int .u8 0] } := by kernel_rfl
theorem t8 : infoOf Try.prog 8 = some { kd := .struct [(0, 2, 1), (1, 3, 1), (2, 4, 1), (3, 6, 1)], size := 4, bytes := 24, zero := [.int .i64 0, .int .i64 0, .bool false, .int .u8 0] } := by kernel_rfl
theorem t9 : infoOf Try.prog 9 = some { kd := .string, size := 1, bytes := 16, zero := [.string ⟨#[]⟩] } := by kernel_rfl
theorem t10 : infoOf Try.prog 10 = some { kd := .string, size := 1, bytes := 16, zero := [.string ⟨#[]⟩] } := by kernel_rfl
theorem t11 : infoOf Try.prog 11 = some { kd := .string, size := 1, bytes := 16, zero := [.string ⟨#[]⟩] } := by kernel_rfl
theorem t12 : infoOf Try.prog 12 = some { kd := .int .u64, size := 1, bytes := 8, zero := [.int .u64 0] } := by kernel_rfl
theorem t13 : infoOf Try.prog 13 = some { kd := .struct [(0, 9, 1), (1, 12, 1)], size := 2, bytes := 24, zero := [.string ⟨#[]⟩, .int .u64 0] } := by kernel_rfl
theorem t14 : infoOf Try.prog 14 = some { kd := .struct [(0, 9, 1), (1, 12, 1)], size := 2, bytes := 24, zero := [.string ⟨#[]⟩, .int .u64 0] } := by kernel_rfl
theorem t15 : infoOf Try.prog 15 = some { kd := .one, size := 1, bytes := 8, zero := [.pointer none] } := by kernel_rfl
theorem t16 : infoOf Try.prog 16 = some { kd := .one, size := 1, bytes := 8, zero := [.pointer none] } := by kernel_rfl
theorem t17 : infoOf Try.prog 17 = some { kd := .one, size := 1, bytes := 8, zero := [.pointer none] } := by kernel_rfl
theorem t18 : infoOf Try.prog 18 = some { kd := .struct [(0, 17, 1)], size := 1, bytes := 8, zero := [.pointer none] } := by kernel_rfl
theorem t19 : infoOf Try.prog 19 = some { kd := .struct [(0, 17, 1)], size := 1, bytes := 8, zero := [.pointer none] } := by kernel_rfl
theorem t20 : infoOf Try.prog 20 = some { kd := .one, size := 1, bytes := 16, zero := [.nilIface] } := by kernel_rfl
theorem t21 : infoOf Try.prog 21 = some { kd := .int .i32, size := 1, bytes := 4, zero := [.int .i32 0] } := by kernel_rfl
theorem t22 : infoOf Try.prog 22 = some { kd := .slice 35 2, size := 1, bytes := 24, zero := [.slice none 0 0] } := by kernel_rfl
theorem t23 : infoOf Try.prog 23 = some { kd := .one, size := 1, bytes := 8, zero := [.nilFunc] } := by kernel_rfl
theorem t24 : infoOf Try.prog 24 = some { kd := .one, size := 1, bytes := 8, zero := [.nilFunc] } := by kernel_rfl
theorem t25 : infoOf Try.prog 25 = some { kd := .int .i64, size := 1, bytes := 8, zero := [.int .i64 0] } := by kernel_rfl
theorem t27 : infoOf Try.prog 27 = some { kd := .one, size := 1, bytes := 8, zero := [.nilFunc] } := by kernel_rfl
theorem t28 : infoOf Try.prog 28 = some { kd := .one, size := 1, bytes := 8, zero := [.nilFunc] } := by kernel_rfl
theorem t29 : infoOf Try.prog 29 = some { kd := .one, size := 1, bytes := 8, zero := [.nilFunc] } := by kernel_rfl
theorem t30 : infoOf Try.prog 30 = some { kd := .one, size := 1, bytes := 8, zero := [.nilFunc] } := by kernel_rfl
theorem t32 : infoOf Try.prog 32 = some { kd := .one, size := 1, bytes := 8, zero := [.nilFunc] } := by kernel_rfl
theorem t33 : infoOf Try.prog 33 = some { kd := .one, size := 1, bytes := 8, zero := [.nilFunc] } := by kernel_rfl
theorem t34 : infoOf Try.prog 34 = some { kd := .struct [(0, 3, 1), (1, 3, 1)], size := 2, bytes := 16, zero := [.int .i64 0, .int .i64 0] } := by kernel_rfl
theorem t35 : infoOf Try.prog 35 = some { kd := .struct [(0, 3, 1), (1, 3, 1)], size := 2, bytes := 16, zero := [.int .i64 0, .int .i64 0] } := by kernel_rfl
theorem p35 : eqPlain Try.prog 35 = true := by kernel_rfl
theorem t36 : infoOf Try.prog 36 = some { kd := .one, size := 1, bytes := 8, zero := [.nilFunc] } := by kernel_rfl
theorem t37 : infoOf Try.prog 37 = some { kd := .one, size := 1, bytes := 8, zero := [.nilFunc] } := by kernel_rfl
theorem t38 : infoOf Try.prog 38 = some { kd := .one, size := 1, bytes := 8, zero := [.nilFunc] } := by kernel_rfl
theorem t39 : infoOf Try.prog 39 = some { kd := .one, size := 1, bytes := 8, zero := [.nilFunc] } := by kernel_rfl
theorem t40 : infoOf Try.prog 40 = some { kd := .one, size := 1, bytes := 8, zero := [.nilFunc] } := by kernel_rfl
theorem t41 : infoOf Try.prog 41 = some { kd := .one, size := 1, bytes := 8, zero := [.nilFunc] } := by kernel_rfl
theorem t42 : infoOf Try.prog 42 = some { kd := .one, size := 1, bytes := 8, zero := [.nilFunc] } := by kernel_rfl
theorem t43 : infoOf Try.prog 43 = some { kd := .slice 3 1, size := 1, bytes := 24, zero := [.slice none 0 0] } := by kernel_rfl
theorem t44 : infoOf Try.prog 44 = some { kd := .one, size := 1, bytes := 8, zero := [.nilFunc] } := by kernel_rfl
theorem t45 : infoOf Try.prog 45 = some { kd := .one, size := 1, bytes := 8, zero := [.nilFunc] } := by kernel_rfl
theorem t46 : infoOf Try.prog 46 = some { kd := .array 1024 4 1, size := 1024, bytes := 1024, zero := List.replicate 1024 (.bool false) } := by kernel_rfl
theorem t47 : infoOf Try.prog 47 = some { kd := .one, size := 1, bytes := 8, zero := [.nilFunc] } := by kernel_rfl
theorem t48 : infoOf Try.prog 48 = some { kd := .slice 43 1, size := 1, bytes := 24, zero := [.slice none 0 0] } := by kernel_rfl
theorem t49 : infoOf Try.prog 49 = some { kd := .one, size := 1, bytes := 8, zero := [.nilFunc] } := by kernel_rfl
theorem t50 : infoOf Try.prog 50 = some { kd := .one, size := 1, bytes := 8, zero := [.nilFunc] } := by kernel_rfl
theorem t51 : infoOf Try.prog 51 = some { kd := .one, size := 1, bytes := 8, zero := [.nilFunc] } := by kernel_rfl
theorem t52 : infoOf Try.prog 52 = some { kd := .one, size := 1, bytes := 8, zero := [.nilFunc] } := by kernel_rfl
theorem t53 : infoOf Try.prog 53 = some { kd := .one, size := 1, bytes := 8, zero := [.nilFunc] } := by kernel_rfl
theorem t54 : infoOf Try.prog 54 = some { kd := .int .u64, size := 1, bytes := 8, zero := [.int .u64 0] } := by kernel_rfl
theorem t55 : infoOf Try.prog 55 = some { kd := .one, size := 1, bytes := 8, zero := [.nilFunc] } := by kernel_rfl
theorem t56 : infoOf Try.prog 56 = some { kd := .int .i64, size := 1, bytes := 8, zero := [.int .i64 0] } := by kernel_rfl
theorem t58 : infoOf Try.prog 58 = some { kd := .one, size := 1, bytes := 8, zero := [.nilFunc] } := by kernel_rfl
theorem t59 : infoOf Try.prog 59 = some { kd := .one, size := 1, bytes := 8, zero := [.nilFunc] } := by kernel_rfl
theorem t60 : infoOf Try.prog 60 = some { kd := .one, size := 1, bytes := 8, zero := [.nilFunc] } := by kernel_rfl
theorem t61 : infoOf Try.prog 61 = some { kd := .one, size := 1, bytes := 8, zero := [.nilFunc] } := by kernel_rfl
theorem t63 : infoOf Try.prog 63 = some { kd := .one, size := 1, bytes := 8, zero := [.nilFunc] } := by kernel_rfl
theorem t64 : infoOf Try.prog 64 = some { kd := .one, size := 1, bytes := 8, zero := [.nilFunc] } := by kernel_rfl
theorem t65 : infoOf Try.prog 65 = some { kd := .int .u32, size := 1, bytes := 4, zero := [.int .u32 0] } := by kernel_rfl
theorem t66 : infoOf Try.prog 66 = some { kd := .one, size := 1, bytes := 8, zero := [.nilFunc] } := by kernel_rfl
theorem t67 : infoOf Try.prog 67 = some { kd := .int .u64, size := 1, bytes := 8, zero := [.int .u64 0] } := by kernel_rfl
theorem t68 : infoOf Try.prog 68 = some { kd := .int .u64, size := 1, bytes := 8, zero := [.int .u64 0] } := by kernel_rfl
theorem t69 : infoOf Try.prog 69 = some { kd := .one, size := 1, bytes := 8, zero := [.nilFunc] } := by kernel_rfl
theorem t70 : infoOf Try.prog 70 = some { kd := .one, size := 1, bytes := 8, zero := [.nilFunc] } := by kernel_rfl
theorem t71 : infoOf Try.prog 71 = some { kd := .one, size := 1, bytes := 8, zero := [.nilFunc] } := by kernel_rfl
theorem t72 : infoOf Try.prog 72 = some { kd := .one, size := 1, bytes := 8, zero := [.pointer none] } := by kernel_rfl
theorem t73 : infoOf Try.prog 73 = some { kd := .one, size := 1, bytes := 8, zero := [.nilFunc] } := by kernel_rfl
theorem t74 : infoOf Try.prog 74 = some { kd := .one, size := 1, bytes := 8, zero := [.nilFunc] } := by kernel_rfl
theorem t75 : infoOf Try.prog 75 = some { kd := .one, size := 1, bytes := 8, zero := [.pointer none] } := by kernel_rfl
theorem t77 : infoOf Try.prog 77 = some { kd := .one, size := 1, bytes := 8, zero := [.nilFunc] } := by kernel_rfl
theorem t78 : infoOf Try.prog 78 = some { kd := .one, size := 1, bytes := 8, zero := [.nilFunc] } := by kernel_rfl
theorem t79 : infoOf Try.prog 79 = some { kd := .struct [(0, 17, 1), (1, 17, 1), (2, 17, 1), (3, 9, 1)], size := 4, bytes := 40, zero := [.pointer none, .pointer none, .pointer none, .string ⟨#[]⟩] } := by kernel_rfl
theorem t80 : infoOf Try.prog 80 = some { kd := .struct [(0, 17, 1), (1, 17, 1), (2, 17, 1), (3, 9, 1)], size := 4, bytes := 40, zero := [.pointer none, .pointer none, .pointer none, .string ⟨#[]⟩] } := by kernel_rfl
theorem t81 : infoOf Try.prog 81 = some { kd := .array 0 16 1, size := 0, bytes := 0, zero := [] } := by kernel_rfl
theorem t82 : infoOf Try.prog 82 = some { kd := .struct [(0, 81, 0)], size := 0, bytes := 0, zero := [] } := by kernel_rfl
theorem t83 : infoOf Try.prog 83 = some { kd := .struct [(0, 81, 0)], size := 0, bytes := 0, zero := [] } := by kernel_rfl
theorem t84 : infoOf Try.prog 84 = some { kd := .one, size := 1, bytes := 8, zero := [.nilFunc] } := by kernel_rfl
theorem t85 : infoOf Try.prog 85 = some { kd := .int .u8, size := 1, bytes := 1, zero := [.int .u8 0] } := by kernel_rfl
theorem t86 : infoOf Try.prog 86 = some { kd := .int .u8, size := 1, bytes := 1, zero := [.int .u8 0] } := by kernel_rfl
theorem t87 : infoOf Try.prog 87 = some { kd := .one, size := 1, bytes := 8, zero := [.nilFunc] } := by kernel_rfl
theorem t88 : infoOf Try.prog 88 = some { kd := .one, size := 1, bytes := 8, zero := [.pointer none] } := by kernel_rfl
theorem t89 : infoOf Try.prog 89 = some { kd := .int .i32, size := 1, bytes := 4, zero := [.int .i32 0] } := by kernel_rfl
theorem t90 : infoOf Try.prog 90 = some { kd := .int .i32, size := 1, bytes := 4, zero := [.int .i32 0] } := by kernel_rfl
theorem t91 : infoOf Try.prog 91 = some { kd := .struct [(0, 12, 1), (1, 12, 1), (2, 65, 1), (3, 85, 1), (4, 5, 1), (5, 5, 1), (6, 86, 1), (7, 87, 1), (8, 88, 1), (9, 89, 1), (10, 90, 1)], size := 11, bytes := 48, zero := [.int .u64 0, .int .u64 0, .int .u32 0, .int .u8 0, .int .u8 0, .int .u8 0, .int .u8 0, .nilFunc, .pointer none, .int .i32 0, .int .i32 0] } := by kernel_rfl
theorem t92 : infoOf Try.prog 92 = some { kd := .struct [(0, 12, 1), (1, 12, 1), (2, 65, 1), (3, 85, 1), (4, 5, 1), (5, 5, 1), (6, 86, 1), (7, 87, 1), (8, 88, 1), (9, 89, 1), (10, 90, 1)], size := 11, bytes := 48, zero := [.int .u64 0, .int .u64 0, .int .u32 0, .int .u8 0, .int .u8 0, .int .u8 0, .int .u8 0, .nilFunc, .pointer none, .int .i32 0, .int .i32 0] } := by kernel_rfl
attribute [simp] t1 t2 t3 t4 t5 t6 t7 t8 t9 t10 t11 t12 t13 t14 t15 t16 t17 t18 t19 t20 t21 t22 t23 t24 t25 t27 t28 t29 t30 t32 t33 t34 t35 t36 t37 t38 t39 t40 t41 t42 t43 t44 t45 t47 t48 t49 t50 t51 t52 t53 t54 t55 t56 t58 t59 t60 t61 t63 t64 t65 t66 t67 t68 t69 t70 t71 t72 t73 t74 t75 t77 t78 t79 t80 t81 t82 t83 t84 t85 t86 t87 t88 t89 t90 t91 t92 p35
end Go.Proofs.Ytehboominkoldaa
