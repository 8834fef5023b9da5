/- The types of this seat, as Sx asks them: printed by a program of mine (wip/mkinfo.py). -/
import Derived.Test.YtbkkekbeaabokaaSyL
import Derived.Test.YtbkkekbeaabokaaProg
namespace Go.Proofs.Ytbkkekbeaabokaa
open Go Go.Proofs.Ytbkkekbeaabokaa.Sx
theorem t1 : infoOf Try.prog 1 = some { kd := .one, size := 1, bytes := 8, zero := [.nilFunc] } := by kernel_rfl
theorem t2 : infoOf Try.prog 2 = some { kd := .int .i64, size := 1, bytes := 8, zero := [.int .i64 0] } := by kernel_rfl
theorem t3 : infoOf Try.prog 3 = some { kd := .int .i64, size := 1, bytes := 8, zero := [.int .i64 0] } := by kernel_rfl
theorem t4 : infoOf Try.prog 4 = some { kd := .bool, size := 1, bytes := 1, zero := [.bool false] } := by kernel_rfl
theorem t5 : infoOf Try.prog 5 = some { kd := .int .u8, size := 1, bytes := 1, zero := [.int .u8 0] } := by kernel_rfl
theorem t6 : infoOf Try.prog 6 = some { kd := .int .u8, size := 1, bytes := 1, zero := [.int .u8 0] } := by kernel_rfl
theorem t7 : infoOf Try.prog 7 = some { kd := .struct [(0, 2, 1), (1, 3, 1), (2, 4, 1), (3, 6, 1)], size := 4, bytes := 24, zero := [.int .i64 0, .int .i64 0, .bool false, .int .u8 0] } := by kernel_rfl
theorem t8 : infoOf Try.prog 8 = some { kd := .struct [(0, 2, 1), (1, 3, 1), (2, 4, 1), (3, 6, 1)], size := 4, bytes := 24, zero := [.int .i64 0, .int .i64 0, .bool false, .int .u8 0] } := by kernel_rfl
theorem t9 : infoOf Try.prog 9 = some { kd := .string, size := 1, bytes := 16, zero := [.string ⟨#[]⟩] } := by kernel_rfl
theorem t10 : infoOf Try.prog 10 = some { kd := .string, size := 1, bytes := 16, zero := [.string ⟨#[]⟩] } := by kernel_rfl
theorem t11 : infoOf Try.prog 11 = some { kd := .string, size := 1, bytes := 16, zero := [.string ⟨#[]⟩] } := by kernel_rfl
theorem t12 : infoOf Try.prog 12 = some { kd := .int .u64, size := 1, bytes := 8, zero := [.int .u64 0] } := by kernel_rfl
theorem t13 : infoOf Try.prog 13 = some { kd := .struct [(0, 9, 1), (1, 12, 1)], size := 2, bytes := 24, zero := [.string ⟨#[]⟩, .int .u64 0] } := by kernel_rfl
theorem t14 : infoOf Try.prog 14 = some { kd := .struct [(0, 9, 1), (1, 12, 1)], size := 2, bytes := 24, zero := [.string ⟨#[]⟩, .int .u64 0] } := by kernel_rfl
theorem t15 : infoOf Try.prog 15 = some { kd := .one, size := 1, bytes := 8, zero := [.pointer none] } := by kernel_rfl
theorem t16 : infoOf Try.prog 16 = some { kd := .one, size := 1, bytes := 8, zero := [.pointer none] } := by kernel_rfl
theorem t17 : infoOf Try.prog 17 = some { kd := .one, size := 1, bytes := 8, zero := [.pointer none] } := by kernel_rfl
theorem t18 : infoOf Try.prog 18 = some { kd := .struct [(0, 17, 1)], size := 1, bytes := 8, zero := [.pointer none] } := by kernel_rfl
theorem t19 : infoOf Try.prog 19 = some { kd := .struct [(0, 17, 1)], size := 1, bytes := 8, zero := [.pointer none] } := by kernel_rfl
theorem t20 : infoOf Try.prog 20 = some { kd := .one, size := 1, bytes := 16, zero := [.nilIface] } := by kernel_rfl
theorem t21 : infoOf Try.prog 21 = some { kd := .int .i32, size := 1, bytes := 4, zero := [.int .i32 0] } := by kernel_rfl
theorem t22 : infoOf Try.prog 22 = some { kd := .slice 41 16, size := 1, bytes := 24, zero := [.slice none 0 0] } := by kernel_rfl
theorem t23 : infoOf Try.prog 23 = some { kd := .slice 51 4, size := 1, bytes := 24, zero := [.slice none 0 0] } := by kernel_rfl
theorem t24 : infoOf Try.prog 24 = some { kd := .slice 62 7, size := 1, bytes := 24, zero := [.slice none 0 0] } := by kernel_rfl
theorem t25 : infoOf Try.prog 25 = some { kd := .slice 80 4, size := 1, bytes := 24, zero := [.slice none 0 0] } := by kernel_rfl
theorem t26 : infoOf Try.prog 26 = some { kd := .slice 84 2, size := 1, bytes := 24, zero := [.slice none 0 0] } := by kernel_rfl
theorem t27 : infoOf Try.prog 27 = some { kd := .slice 109 4, size := 1, bytes := 24, zero := [.slice none 0 0] } := by kernel_rfl
theorem t28 : infoOf Try.prog 28 = some { kd := .struct [(0, 22, 1), (1, 23, 1), (2, 24, 1), (3, 25, 1), (4, 26, 1), (5, 25, 1), (6, 27, 1)], size := 7, bytes := 168, zero := [.slice none 0 0, .slice none 0 0, .slice none 0 0, .slice none 0 0, .slice none 0 0, .slice none 0 0, .slice none 0 0] } := by kernel_rfl
theorem t29 : infoOf Try.prog 29 = some { kd := .struct [(0, 22, 1), (1, 23, 1), (2, 24, 1), (3, 25, 1), (4, 26, 1), (5, 25, 1), (6, 27, 1)], size := 7, bytes := 168, zero := [.slice none 0 0, .slice none 0 0, .slice none 0 0, .slice none 0 0, .slice none 0 0, .slice none 0 0, .slice none 0 0] } := by kernel_rfl
theorem p29 : eqPlain Try.prog 29 = true := by kernel_rfl
theorem t30 : infoOf Try.prog 30 = some { kd := .one, size := 1, bytes := 8, zero := [.nilFunc] } := by kernel_rfl
theorem t31 : infoOf Try.prog 31 = some { kd := .one, size := 1, bytes := 8, zero := [.nilFunc] } := by kernel_rfl
theorem t32 : infoOf Try.prog 32 = some { kd := .int .i64, size := 1, bytes := 8, zero := [.int .i64 0] } := by kernel_rfl
theorem t34 : infoOf Try.prog 34 = some { kd := .one, size := 1, bytes := 8, zero := [.nilFunc] } := by kernel_rfl
theorem t35 : infoOf Try.prog 35 = some { kd := .one, size := 1, bytes := 8, zero := [.nilFunc] } := by kernel_rfl
theorem t36 : infoOf Try.prog 36 = some { kd := .slice 9 1, size := 1, bytes := 24, zero := [.slice none 0 0] } := by kernel_rfl
theorem t37 : infoOf Try.prog 37 = some { kd := .slice 39 6, size := 1, bytes := 24, zero := [.slice none 0 0] } := by kernel_rfl
theorem t38 : infoOf Try.prog 38 = some { kd := .struct [(0, 3, 1), (1, 3, 1), (2, 9, 1), (3, 3, 1), (4, 3, 1), (5, 37, 1)], size := 6, bytes := 72, zero := [.int .i64 0, .int .i64 0, .string ⟨#[]⟩, .int .i64 0, .int .i64 0, .slice none 0 0] } := by kernel_rfl
theorem t39 : infoOf Try.prog 39 = some { kd := .struct [(0, 3, 1), (1, 3, 1), (2, 9, 1), (3, 3, 1), (4, 3, 1), (5, 37, 1)], size := 6, bytes := 72, zero := [.int .i64 0, .int .i64 0, .string ⟨#[]⟩, .int .i64 0, .int .i64 0, .slice none 0 0] } := by kernel_rfl
theorem p39 : eqPlain Try.prog 39 = true := by kernel_rfl
theorem t40 : infoOf Try.prog 40 = some { kd := .struct [(0, 9, 1), (1, 3, 1), (2, 3, 1), (3, 3, 1), (4, 39, 6), (10, 39, 6)], size := 16, bytes := 184, zero := [.string ⟨#[]⟩, .int .i64 0, .int .i64 0, .int .i64 0, .int .i64 0, .int .i64 0, .string ⟨#[]⟩, .int .i64 0, .int .i64 0, .slice none 0 0, .int .i64 0, .int .i64 0, .string ⟨#[]⟩, .int .i64 0, .int .i64 0, .slice none 0 0] } := by kernel_rfl
theorem t41 : infoOf Try.prog 41 = some { kd := .struct [(0, 9, 1), (1, 3, 1), (2, 3, 1), (3, 3, 1), (4, 39, 6), (10, 39, 6)], size := 16, bytes := 184, zero := [.string ⟨#[]⟩, .int .i64 0, .int .i64 0, .int .i64 0, .int .i64 0, .int .i64 0, .string ⟨#[]⟩, .int .i64 0, .int .i64 0, .slice none 0 0, .int .i64 0, .int .i64 0, .string ⟨#[]⟩, .int .i64 0, .int .i64 0, .slice none 0 0] } := by kernel_rfl
theorem p41 : eqPlain Try.prog 41 = true := by kernel_rfl
theorem t43 : infoOf Try.prog 43 = some { kd := .one, size := 1, bytes := 8, zero := [.nilFunc] } := by kernel_rfl
theorem t44 : infoOf Try.prog 44 = some { kd := .one, size := 1, bytes := 8, zero := [.nilFunc] } := by kernel_rfl
theorem t45 : infoOf Try.prog 45 = some { kd := .slice 3 1, size := 1, bytes := 24, zero := [.slice none 0 0] } := by kernel_rfl
theorem t47 : infoOf Try.prog 47 = some { kd := .one, size := 1, bytes := 8, zero := [.nilFunc] } := by kernel_rfl
theorem t48 : infoOf Try.prog 48 = some { kd := .one, size := 1, bytes := 8, zero := [.nilFunc] } := by kernel_rfl
theorem t49 : infoOf Try.prog 49 = some { kd := .one, size := 1, bytes := 8, zero := [.nilFunc] } := by kernel_rfl
theorem t50 : infoOf Try.prog 50 = some { kd := .struct [(0, 9, 1), (1, 9, 1), (2, 3, 1), (3, 3, 1)], size := 4, bytes := 48, zero := [.string ⟨#[]⟩, .string ⟨#[]⟩, .int .i64 0, .int .i64 0] } := by kernel_rfl
theorem t51 : infoOf Try.prog 51 = some { kd := .struct [(0, 9, 1), (1, 9, 1), (2, 3, 1), (3, 3, 1)], size := 4, bytes := 48, zero := [.string ⟨#[]⟩, .string ⟨#[]⟩, .int .i64 0, .int .i64 0] } := by kernel_rfl
theorem p51 : eqPlain Try.prog 51 = true := by kernel_rfl
theorem t52 : infoOf Try.prog 52 = some { kd := .one, size := 1, bytes := 8, zero := [.nilFunc] } := by kernel_rfl
theorem t53 : infoOf Try.prog 53 = some { kd := .one, size := 1, bytes := 8, zero := [.nilFunc] } := by kernel_rfl
theorem t54 : infoOf Try.prog 54 = some { kd := .int .u64, size := 1, bytes := 8, zero := [.int .u64 0] } := by kernel_rfl
theorem t55 : infoOf Try.prog 55 = some { kd := .one, size := 1, bytes := 8, zero := [.nilFunc] } := by kernel_rfl
theorem t56 : infoOf Try.prog 56 = some { kd := .one, size := 1, bytes := 8, zero := [.nilFunc] } := by kernel_rfl
theorem t57 : infoOf Try.prog 57 = some { kd := .one, size := 1, bytes := 8, zero := [.nilFunc] } := by kernel_rfl
theorem t58 : infoOf Try.prog 58 = some { kd := .struct [(0, 3, 1), (1, 3, 1)], size := 2, bytes := 16, zero := [.int .i64 0, .int .i64 0] } := by kernel_rfl
theorem t59 : infoOf Try.prog 59 = some { kd := .struct [(0, 3, 1), (1, 3, 1)], size := 2, bytes := 16, zero := [.int .i64 0, .int .i64 0] } := by kernel_rfl
theorem p59 : eqPlain Try.prog 59 = true := by kernel_rfl
theorem t60 : infoOf Try.prog 60 = some { kd := .slice 64 6, size := 1, bytes := 24, zero := [.slice none 0 0] } := by kernel_rfl
theorem t61 : infoOf Try.prog 61 = some { kd := .struct [(0, 9, 1), (1, 3, 1), (2, 3, 1), (3, 3, 1), (4, 59, 2), (6, 60, 1)], size := 7, bytes := 80, zero := [.string ⟨#[]⟩, .int .i64 0, .int .i64 0, .int .i64 0, .int .i64 0, .int .i64 0, .slice none 0 0] } := by kernel_rfl
theorem t62 : infoOf Try.prog 62 = some { kd := .struct [(0, 9, 1), (1, 3, 1), (2, 3, 1), (3, 3, 1), (4, 59, 2), (6, 60, 1)], size := 7, bytes := 80, zero := [.string ⟨#[]⟩, .int .i64 0, .int .i64 0, .int .i64 0, .int .i64 0, .int .i64 0, .slice none 0 0] } := by kernel_rfl
theorem p62 : eqPlain Try.prog 62 = true := by kernel_rfl
theorem t63 : infoOf Try.prog 63 = some { kd := .struct [(0, 9, 1), (1, 3, 1), (2, 3, 1), (3, 4, 1), (4, 36, 1), (5, 45, 1)], size := 6, bytes := 88, zero := [.string ⟨#[]⟩, .int .i64 0, .int .i64 0, .bool false, .slice none 0 0, .slice none 0 0] } := by kernel_rfl
theorem t64 : infoOf Try.prog 64 = some { kd := .struct [(0, 9, 1), (1, 3, 1), (2, 3, 1), (3, 4, 1), (4, 36, 1), (5, 45, 1)], size := 6, bytes := 88, zero := [.string ⟨#[]⟩, .int .i64 0, .int .i64 0, .bool false, .slice none 0 0, .slice none 0 0] } := by kernel_rfl
theorem p64 : eqPlain Try.prog 64 = true := by kernel_rfl
theorem t65 : infoOf Try.prog 65 = some { kd := .one, size := 1, bytes := 8, zero := [.nilFunc] } := by kernel_rfl
theorem t66 : infoOf Try.prog 66 = some { kd := .one, size := 1, bytes := 8, zero := [.pointer none] } := by kernel_rfl
theorem t67 : infoOf Try.prog 67 = some { kd := .one, size := 1, bytes := 8, zero := [.nilFunc] } := by kernel_rfl
theorem t68 : infoOf Try.prog 68 = some { kd := .one, size := 1, bytes := 8, zero := [.nilFunc] } := by kernel_rfl
theorem t69 : infoOf Try.prog 69 = some { kd := .one, size := 1, bytes := 8, zero := [.nilFunc] } := by kernel_rfl
theorem t70 : infoOf Try.prog 70 = some { kd := .one, size := 1, bytes := 8, zero := [.nilFunc] } := by kernel_rfl
theorem t71 : infoOf Try.prog 71 = some { kd := .one, size := 1, bytes := 8, zero := [.nilFunc] } := by kernel_rfl
theorem t72 : infoOf Try.prog 72 = some { kd := .one, size := 1, bytes := 8, zero := [.nilFunc] } := by kernel_rfl
theorem t73 : infoOf Try.prog 73 = some { kd := .one, size := 1, bytes := 8, zero := [.nilFunc] } := by kernel_rfl
theorem t74 : infoOf Try.prog 74 = some { kd := .one, size := 1, bytes := 8, zero := [.nilFunc] } := by kernel_rfl
theorem t75 : infoOf Try.prog 75 = some { kd := .one, size := 1, bytes := 8, zero := [.nilFunc] } := by kernel_rfl
theorem t76 : infoOf Try.prog 76 = some { kd := .one, size := 1, bytes := 8, zero := [.nilFunc] } := by kernel_rfl
theorem t77 : infoOf Try.prog 77 = some { kd := .one, size := 1, bytes := 8, zero := [.nilFunc] } := by kernel_rfl
theorem t78 : infoOf Try.prog 78 = some { kd := .one, size := 1, bytes := 8, zero := [.nilFunc] } := by kernel_rfl
theorem t79 : infoOf Try.prog 79 = some { kd := .struct [(0, 9, 1), (1, 3, 1), (2, 59, 2)], size := 4, bytes := 40, zero := [.string ⟨#[]⟩, .int .i64 0, .int .i64 0, .int .i64 0] } := by kernel_rfl
theorem t80 : infoOf Try.prog 80 = some { kd := .struct [(0, 9, 1), (1, 3, 1), (2, 59, 2)], size := 4, bytes := 40, zero := [.string ⟨#[]⟩, .int .i64 0, .int .i64 0, .int .i64 0] } := by kernel_rfl
theorem p80 : eqPlain Try.prog 80 = true := by kernel_rfl
theorem t81 : infoOf Try.prog 81 = some { kd := .one, size := 1, bytes := 8, zero := [.nilFunc] } := by kernel_rfl
theorem t82 : infoOf Try.prog 82 = some { kd := .one, size := 1, bytes := 8, zero := [.nilFunc] } := by kernel_rfl
theorem t83 : infoOf Try.prog 83 = some { kd := .struct [(0, 9, 1), (1, 3, 1)], size := 2, bytes := 24, zero := [.string ⟨#[]⟩, .int .i64 0] } := by kernel_rfl
theorem t84 : infoOf Try.prog 84 = some { kd := .struct [(0, 9, 1), (1, 3, 1)], size := 2, bytes := 24, zero := [.string ⟨#[]⟩, .int .i64 0] } := by kernel_rfl
theorem p84 : eqPlain Try.prog 84 = true := by kernel_rfl
theorem t85 : infoOf Try.prog 85 = some { kd := .one, size := 1, bytes := 8, zero := [.nilFunc] } := by kernel_rfl
theorem t86 : infoOf Try.prog 86 = some { kd := .one, size := 1, bytes := 8, zero := [.nilFunc] } := by kernel_rfl
theorem t87 : infoOf Try.prog 87 = some { kd := .one, size := 1, bytes := 8, zero := [.nilFunc] } := by kernel_rfl
theorem t88 : infoOf Try.prog 88 = some { kd := .one, size := 1, bytes := 8, zero := [.nilFunc] } := by kernel_rfl
theorem t89 : infoOf Try.prog 89 = some { kd := .one, size := 1, bytes := 8, zero := [.nilFunc] } := by kernel_rfl
theorem t90 : infoOf Try.prog 90 = some { kd := .one, size := 1, bytes := 8, zero := [.nilFunc] } := by kernel_rfl
theorem t91 : infoOf Try.prog 91 = some { kd := .one, size := 1, bytes := 8, zero := [.nilFunc] } := by kernel_rfl
theorem t92 : infoOf Try.prog 92 = some { kd := .one, size := 1, bytes := 8, zero := [.nilFunc] } := by kernel_rfl
theorem t94 : infoOf Try.prog 94 = some { kd := .one, size := 1, bytes := 8, zero := [.nilFunc] } := by kernel_rfl
theorem t95 : infoOf Try.prog 95 = some { kd := .one, size := 1, bytes := 8, zero := [.nilFunc] } := by kernel_rfl
theorem t96 : infoOf Try.prog 96 = some { kd := .one, size := 1, bytes := 8, zero := [.nilFunc] } := by kernel_rfl
theorem t97 : infoOf Try.prog 97 = some { kd := .one, size := 1, bytes := 8, zero := [.nilFunc] } := by kernel_rfl
theorem t98 : infoOf Try.prog 98 = some { kd := .one, size := 1, bytes := 8, zero := [.nilFunc] } := by kernel_rfl
theorem t99 : infoOf Try.prog 99 = some { kd := .one, size := 1, bytes := 8, zero := [.nilFunc] } := by kernel_rfl
theorem t100 : infoOf Try.prog 100 = some { kd := .one, size := 1, bytes := 8, zero := [.nilFunc] } := by kernel_rfl
theorem t101 : infoOf Try.prog 101 = some { kd := .one, size := 1, bytes := 8, zero := [.nilFunc] } := by kernel_rfl
theorem t102 : infoOf Try.prog 102 = some { kd := .one, size := 1, bytes := 8, zero := [.nilFunc] } := by kernel_rfl
theorem t103 : infoOf Try.prog 103 = some { kd := .one, size := 1, bytes := 8, zero := [.nilFunc] } := by kernel_rfl
theorem t104 : infoOf Try.prog 104 = some { kd := .one, size := 1, bytes := 8, zero := [.nilFunc] } := by kernel_rfl
theorem t105 : infoOf Try.prog 105 = some { kd := .one, size := 1, bytes := 8, zero := [.nilFunc] } := by kernel_rfl
theorem t106 : infoOf Try.prog 106 = some { kd := .one, size := 1, bytes := 8, zero := [.nilFunc] } := by kernel_rfl
theorem t107 : infoOf Try.prog 107 = some { kd := .one, size := 1, bytes := 8, zero := [.nilFunc] } := by kernel_rfl
theorem t108 : infoOf Try.prog 108 = some { kd := .struct [(0, 3, 1), (1, 3, 1), (2, 3, 1), (3, 3, 1)], size := 4, bytes := 32, zero := [.int .i64 0, .int .i64 0, .int .i64 0, .int .i64 0] } := by kernel_rfl
theorem t109 : infoOf Try.prog 109 = some { kd := .struct [(0, 3, 1), (1, 3, 1), (2, 3, 1), (3, 3, 1)], size := 4, bytes := 32, zero := [.int .i64 0, .int .i64 0, .int .i64 0, .int .i64 0] } := by kernel_rfl
theorem p109 : eqPlain Try.prog 109 = true := by kernel_rfl
theorem t110 : infoOf Try.prog 110 = some { kd := .one, size := 1, bytes := 8, zero := [.nilFunc] } := by kernel_rfl
theorem t111 : infoOf Try.prog 111 = some { kd := .one, size := 1, bytes := 8, zero := [.nilFunc] } := by kernel_rfl
theorem t112 : infoOf Try.prog 112 = some { kd := .slice 4 1, size := 1, bytes := 24, zero := [.slice none 0 0] } := by kernel_rfl
theorem t114 : infoOf Try.prog 114 = some { kd := .one, size := 1, bytes := 8, zero := [.nilFunc] } := by kernel_rfl
theorem t115 : infoOf Try.prog 115 = some { kd := .one, size := 1, bytes := 8, zero := [.nilFunc] } := by kernel_rfl
theorem t116 : infoOf Try.prog 116 = some { kd := .one, size := 1, bytes := 8, zero := [.nilFunc] } := by kernel_rfl
theorem t117 : infoOf Try.prog 117 = some { kd := .one, size := 1, bytes := 8, zero := [.nilFunc] } := by kernel_rfl
theorem t118 : infoOf Try.prog 118 = some { kd := .one, size := 1, bytes := 8, zero := [.nilFunc] } := by kernel_rfl
theorem t119 : infoOf Try.prog 119 = some { kd := .one, size := 1, bytes := 8, zero := [.nilFunc] } := by kernel_rfl
theorem t120 : infoOf Try.prog 120 = some { kd := .one, size := 1, bytes := 8, zero := [.nilFunc] } := by kernel_rfl
theorem t121 : infoOf Try.prog 121 = some { kd := .one, size := 1, bytes := 8, zero := [.nilFunc] } := by kernel_rfl
theorem t122 : infoOf Try.prog 122 = some { kd := .one, size := 1, bytes := 8, zero := [.nilFunc] } := by kernel_rfl
theorem t123 : infoOf Try.prog 123 = some { kd := .struct [(0, 32, 1)], size := 1, bytes := 8, zero := [.int .i64 0] } := by kernel_rfl
theorem t124 : infoOf Try.prog 124 = some { kd := .struct [(0, 32, 1)], size := 1, bytes := 8, zero := [.int .i64 0] } := by kernel_rfl
theorem p124 : eqPlain Try.prog 124 = true := by kernel_rfl
theorem t125 : infoOf Try.prog 125 = some { kd := .map 9 3, size := 1, bytes := 8, zero := [.map none] } := by kernel_rfl
theorem t126 : infoOf Try.prog 126 = some { kd := .map 3 3, size := 1, bytes := 8, zero := [.map none] } := by kernel_rfl
theorem t127 : infoOf Try.prog 127 = some { kd := .one, size := 1, bytes := 8, zero := [.nilFunc] } := by kernel_rfl
theorem t128 : infoOf Try.prog 128 = some { kd := .one, size := 1, bytes := 8, zero := [.nilFunc] } := by kernel_rfl
theorem t129 : infoOf Try.prog 129 = some { kd := .one, size := 1, bytes := 8, zero := [.nilFunc] } := by kernel_rfl
theorem t130 : infoOf Try.prog 130 = some { kd := .one, size := 1, bytes := 8, zero := [.nilFunc] } := by kernel_rfl
theorem t131 : infoOf Try.prog 131 = some { kd := .one, size := 1, bytes := 8, zero := [.nilFunc] } := by kernel_rfl
theorem t132 : infoOf Try.prog 132 = some { kd := .one, size := 1, bytes := 8, zero := [.nilFunc] } := by kernel_rfl
theorem t133 : infoOf Try.prog 133 = some { kd := .one, size := 1, bytes := 8, zero := [.nilFunc] } := by kernel_rfl
theorem t134 : infoOf Try.prog 134 = some { kd := .one, size := 1, bytes := 8, zero := [.nilFunc] } := by kernel_rfl
theorem t135 : infoOf Try.prog 135 = some { kd := .struct [(0, 17, 1), (1, 17, 1), (2, 17, 1), (3, 9, 1)], size := 4, bytes := 40, zero := [.pointer none, .pointer none, .pointer none, .string ⟨#[]⟩] } := by kernel_rfl
theorem t136 : infoOf Try.prog 136 = some { kd := .struct [(0, 17, 1), (1, 17, 1), (2, 17, 1), (3, 9, 1)], size := 4, bytes := 40, zero := [.pointer none, .pointer none, .pointer none, .string ⟨#[]⟩] } := by kernel_rfl
theorem t137 : infoOf Try.prog 137 = some { kd := .array 0 16 1, size := 0, bytes := 0, zero := [] } := by kernel_rfl
theorem t138 : infoOf Try.prog 138 = some { kd := .struct [(0, 137, 0)], size := 0, bytes := 0, zero := [] } := by kernel_rfl
theorem t139 : infoOf Try.prog 139 = some { kd := .struct [(0, 137, 0)], size := 0, bytes := 0, zero := [] } := by kernel_rfl
theorem t140 : infoOf Try.prog 140 = some { kd := .one, size := 1, bytes := 8, zero := [.nilFunc] } := by kernel_rfl
theorem t141 : infoOf Try.prog 141 = some { kd := .int .u32, size := 1, bytes := 4, zero := [.int .u32 0] } := by kernel_rfl
theorem t142 : infoOf Try.prog 142 = some { kd := .int .u8, size := 1, bytes := 1, zero := [.int .u8 0] } := by kernel_rfl
theorem t143 : infoOf Try.prog 143 = some { kd := .int .u8, size := 1, bytes := 1, zero := [.int .u8 0] } := by kernel_rfl
theorem t144 : infoOf Try.prog 144 = some { kd := .one, size := 1, bytes := 8, zero := [.nilFunc] } := by kernel_rfl
theorem t145 : infoOf Try.prog 145 = some { kd := .one, size := 1, bytes := 8, zero := [.pointer none] } := by kernel_rfl
theorem t146 : infoOf Try.prog 146 = some { kd := .int .i32, size := 1, bytes := 4, zero := [.int .i32 0] } := by kernel_rfl
theorem t147 : infoOf Try.prog 147 = some { kd := .int .i32, size := 1, bytes := 4, zero := [.int .i32 0] } := by kernel_rfl
theorem t148 : infoOf Try.prog 148 = some { kd := .struct [(0, 12, 1), (1, 12, 1), (2, 141, 1), (3, 142, 1), (4, 5, 1), (5, 5, 1), (6, 143, 1), (7, 144, 1), (8, 145, 1), (9, 146, 1), (10, 147, 1)], size := 11, bytes := 48, zero := [.int .u64 0, .int .u64 0, .int .u32 0, .int .u8 0, .int .u8 0, .int .u8 0, .int .u8 0, .nilFunc, .pointer none, .int .i32 0, .int .i32 0] } := by kernel_rfl
theorem t149 : infoOf Try.prog 149 = some { kd := .struct [(0, 12, 1), (1, 12, 1), (2, 141, 1), (3, 142, 1), (4, 5, 1), (5, 5, 1), (6, 143, 1), (7, 144, 1), (8, 145, 1), (9, 146, 1), (10, 147, 1)], size := 11, bytes := 48, zero := [.int .u64 0, .int .u64 0, .int .u32 0, .int .u8 0, .int .u8 0, .int .u8 0, .int .u8 0, .nilFunc, .pointer none, .int .i32 0, .int .i32 0] } := by kernel_rfl
theorem z2 : zeroOf Try.prog 2 = some (.int .i64 0) := by kernel_rfl
theorem z3 : zeroOf Try.prog 3 = some (.int .i64 0) := by kernel_rfl
theorem z4 : zeroOf Try.prog 4 = some (.bool false) := by kernel_rfl
theorem z5 : zeroOf Try.prog 5 = some (.int .u8 0) := by kernel_rfl
theorem z6 : zeroOf Try.prog 6 = some (.int .u8 0) := by kernel_rfl
theorem z9 : zeroOf Try.prog 9 = some (.string ⟨#[]⟩) := by kernel_rfl
theorem z10 : zeroOf Try.prog 10 = some (.string ⟨#[]⟩) := by kernel_rfl
theorem z11 : zeroOf Try.prog 11 = some (.string ⟨#[]⟩) := by kernel_rfl
theorem z12 : zeroOf Try.prog 12 = some (.int .u64 0) := by kernel_rfl
theorem z21 : zeroOf Try.prog 21 = some (.int .i32 0) := by kernel_rfl
theorem z32 : zeroOf Try.prog 32 = some (.int .i64 0) := by kernel_rfl
theorem z54 : zeroOf Try.prog 54 = some (.int .u64 0) := by kernel_rfl
theorem z141 : zeroOf Try.prog 141 = some (.int .u32 0) := by kernel_rfl
theorem z142 : zeroOf Try.prog 142 = some (.int .u8 0) := by kernel_rfl
theorem z143 : zeroOf Try.prog 143 = some (.int .u8 0) := by kernel_rfl
theorem z146 : zeroOf Try.prog 146 = some (.int .i32 0) := by kernel_rfl
theorem z147 : zeroOf Try.prog 147 = some (.int .i32 0) := by kernel_rfl
attribute [simp] t1 t2 t3 t4 t5 t6 t7 t8 t9 t10 t11 t12 t13 t14 t15 t16 t17 t18 t19 t20 t21 t22 t23 t24 t25 t26 t27 t28 t29 t30 t31 t32 t34 t35 t36 t37 t38 t39 t40 t41 t43 t44 t45 t47 t48 t49 t50 t51 t52 t53 t54 t55 t56 t57 t58 t59 t60 t61 t62 t63 t64 t65 t66 t67 t68 t69 t70 t71 t72 t73 t74 t75 t76 t77 t78 t79 t80 t81 t82 t83 t84 t85 t86 t87 t88 t89 t90 t91 t92 t94 t95 t96 t97 t98 t99 t100 t101 t102 t103 t104 t105 t106 t107 t108 t109 t110 t111 t112 t114 t115 t116 t117 t118 t119 t120 t121 t122 t123 t124 t125 t126 t127 t128 t129 t130 t131 t132 t133 t134 t135 t136 t137 t138 t139 t140 t141 t142 t143 t144 t145 t146 t147 t148 t149 z2 z3 z4 z5 z6 z9 z10 z11 z12 z21 z32 z54 z141 z142 z143 z146 z147 p29 p39 p41 p51 p59 p62 p64 p80 p84 p109 p124
end Go.Proofs.Ytbkkekbeaabokaa
