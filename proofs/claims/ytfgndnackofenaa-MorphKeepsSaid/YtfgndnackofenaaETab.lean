/-
  The program's types, as the words over abstract values need them; how data reads. No condition.
-/
import Derived.Test.YtfgndnackofenaaEV
import Derived.Test.YtfgndnackofenaaProg
namespace Go.Proofs.Ytfgndnackofenaa.E
open Go Go.RowKit Go.Proofs.YtfgndnackofenaaW.E
def T : Tab := [(3, ⟨false, 1, 8, [.val (.int .i64 0)], [], none⟩),
  (4, ⟨false, 1, 1, [.val (.bool false)], [], none⟩),
  (5, ⟨false, 1, 1, [.val (.int .u8 0)], [], none⟩),
  (9, ⟨false, 1, 16, [.val (.string .empty)], [], none⟩),
  (22, ⟨false, 1, 24, [.list 1 [] .full], [], some 33⟩),
  (24, ⟨true, 3, 72, [.list 1 [] .full, .list 1 [] .full, .list 1 [] .full], [(0, 1, false), (1, 1, false), (2, 1, false)], none⟩),
  (27, ⟨false, 1, 8, [.val (.int .i64 0)], [], none⟩),
  (33, ⟨false, 1, 2, [.val (.int .u16 0)], [], none⟩),
  (36, ⟨false, 1, 8, [.val (.int .u64 0)], [], none⟩),
  (37, ⟨false, 1, 24, [.list 2 [] .full], [], some 61⟩),
  (39, ⟨true, 2, 32, [.val (.int .u8 0), .list 2 [] .full], [(0, 1, false), (1, 1, false)], none⟩),
  (40, ⟨false, 1, 24, [.list 1 [] .full], [], some 5⟩),
  (41, ⟨false, 1, 24, [.list 1 [] .full], [], some 40⟩),
  (43, ⟨true, 13, 216, [.val (.int .u64 0), .val (.int .i64 0), .val (.int .u8 0), .list 2 [] .full, .list 1 [] .full, .list 1 [] .full, .list 1 [] .full, .val (.int .i64 0), .val (.int .i64 0), .val (.int .i64 0), .list 1 [] .full, .list 1 [] .full, .list 1 [] .full], [(0, 1, false), (1, 1, false), (2, 2, true), (4, 3, true), (7, 1, false), (8, 1, false), (9, 1, false), (10, 1, false), (11, 1, false), (12, 1, false)], none⟩),
  (45, ⟨true, 12, 160, [.val (.int .u8 0), .list 2 [] .full, .list 1 [] .full, .list 1 [] .full, .list 1 [] .full, .val (.int .i64 0), .val (.int .i64 0), .val (.int .u64 0), .val (.int .u64 0), .val (.int .i64 0), .val (.int .i64 0), .val (.bool false)], [(0, 2, true), (2, 3, true), (5, 1, false), (6, 1, false), (7, 1, false), (8, 1, false), (9, 1, false), (10, 1, false), (11, 1, false)], none⟩),
  (61, ⟨true, 2, 4, [.val (.int .u16 0), .val (.int .u8 0)], [(0, 1, false), (1, 1, false)], none⟩),
  (68, ⟨false, 1, 24, [.list 1 [] .full], [], some 36⟩),
  (87, ⟨false, 1, 8, [.val (.int .u64 0)], [], none⟩),
  (98, ⟨false, 1, 16, [.val (.complex .f64 0 0)], [], none⟩),
  (100, ⟨false, 1, 8, [.val (.float .f64 0)], [], none⟩),
  (107, ⟨false, 1, 24, [.list 1 [] .full], [], some 98⟩)]
theorem T_int : T.get 3 = some ⟨false, 1, 8, [.val (.int .i64 0)], [], none⟩ := rfl
theorem T_bool : T.get 4 = some ⟨false, 1, 1, [.val (.bool false)], [], none⟩ := rfl
theorem T_u8 : T.get 5 = some ⟨false, 1, 1, [.val (.int .u8 0)], [], none⟩ := rfl
theorem T_str : T.get 9 = some ⟨false, 1, 16, [.val (.string .empty)], [], none⟩ := rfl
theorem T_u16s : T.get 22 = some ⟨false, 1, 24, [.list 1 [] .full], [], some 33⟩ := rfl
theorem T_sets : T.get 24 = some ⟨true, 3, 72, [.list 1 [] .full, .list 1 [] .full, .list 1 [] .full], [(0, 1, false), (1, 1, false), (2, 1, false)], none⟩ := rfl
theorem T_err : T.get 27 = some ⟨false, 1, 8, [.val (.int .i64 0)], [], none⟩ := rfl
theorem T_u16 : T.get 33 = some ⟨false, 1, 2, [.val (.int .u16 0)], [], none⟩ := rfl
theorem T_u64 : T.get 36 = some ⟨false, 1, 8, [.val (.int .u64 0)], [], none⟩ := rfl
theorem T_prs : T.get 37 = some ⟨false, 1, 24, [.list 2 [] .full], [], some 61⟩ := rfl
theorem T_lab : T.get 39 = some ⟨true, 2, 32, [.val (.int .u8 0), .list 2 [] .full], [(0, 1, false), (1, 1, false)], none⟩ := rfl
theorem T_u8s : T.get 40 = some ⟨false, 1, 24, [.list 1 [] .full], [], some 5⟩ := rfl
theorem T_u8ss : T.get 41 = some ⟨false, 1, 24, [.list 1 [] .full], [], some 40⟩ := rfl
theorem T_obj : T.get 43 = some ⟨true, 13, 216, [.val (.int .u64 0), .val (.int .i64 0), .val (.int .u8 0), .list 2 [] .full, .list 1 [] .full, .list 1 [] .full, .list 1 [] .full, .val (.int .i64 0), .val (.int .i64 0), .val (.int .i64 0), .list 1 [] .full, .list 1 [] .full, .list 1 [] .full], [(0, 1, false), (1, 1, false), (2, 2, true), (4, 3, true), (7, 1, false), (8, 1, false), (9, 1, false), (10, 1, false), (11, 1, false), (12, 1, false)], none⟩ := rfl
theorem T_thr : T.get 45 = some ⟨true, 12, 160, [.val (.int .u8 0), .list 2 [] .full, .list 1 [] .full, .list 1 [] .full, .list 1 [] .full, .val (.int .i64 0), .val (.int .i64 0), .val (.int .u64 0), .val (.int .u64 0), .val (.int .i64 0), .val (.int .i64 0), .val (.bool false)], [(0, 2, true), (2, 3, true), (5, 1, false), (6, 1, false), (7, 1, false), (8, 1, false), (9, 1, false), (10, 1, false), (11, 1, false)], none⟩ := rfl
theorem T_pr : T.get 61 = some ⟨true, 2, 4, [.val (.int .u16 0), .val (.int .u8 0)], [(0, 1, false), (1, 1, false)], none⟩ := rfl
theorem T_u64s : T.get 68 = some ⟨false, 1, 24, [.list 1 [] .full], [], some 36⟩ := rfl
theorem T_uint : T.get 87 = some ⟨false, 1, 8, [.val (.int .u64 0)], [], none⟩ := rfl
theorem T_cpx : T.get 98 = some ⟨false, 1, 16, [.val (.complex .f64 0 0)], [], none⟩ := rfl
theorem T_flt : T.get 100 = some ⟨false, 1, 8, [.val (.float .f64 0)], [], none⟩ := rfl
theorem T_cpxs : T.get 107 = some ⟨false, 1, 24, [.list 1 [] .full], [], some 98⟩ := rfl
theorem T_ok : T.OK Try.prog := .cons (by kernel_rfl) (.cons (by kernel_rfl) (.cons (by kernel_rfl) (.cons (by kernel_rfl) (.cons (by kernel_rfl) (.cons (by kernel_rfl) (.cons (by kernel_rfl) (.cons (by kernel_rfl) (.cons (by kernel_rfl) (.cons (by kernel_rfl) (.cons (by kernel_rfl) (.cons (by kernel_rfl) (.cons (by kernel_rfl) (.cons (by kernel_rfl) (.cons (by kernel_rfl) (.cons (by kernel_rfl) (.cons (by kernel_rfl) (.cons (by kernel_rfl) (.cons (by kernel_rfl) (.cons (by kernel_rfl) (.cons (by kernel_rfl) (.nil _)))))))))))))))))))))
theorem mixed : Try.prog.follows .mixedOrders = true := by kernel_rfl
theorem und_int : Try.prog.underlying 3 = some (.int .i64) := by kernel_rfl
theorem und_u8 : Try.prog.underlying 5 = some (.int .u8) := by kernel_rfl
theorem und_str : Try.prog.underlying 9 = some (.string) := by kernel_rfl
theorem und_u16 : Try.prog.underlying 33 = some (.int .u16) := by kernel_rfl
theorem und_u64 : Try.prog.underlying 36 = some (.int .u64) := by kernel_rfl
theorem und_uint : Try.prog.underlying 87 = some (.int .u64) := by kernel_rfl
theorem cv_int_u8 (k : IntKind) (a : Int) : aconv Try.prog 3 5 (.int k a) = some (.int .u8 (IntKind.wrap .u8 a)) := aconv_int und_int und_u8
theorem cv_int_u16 (k : IntKind) (a : Int) : aconv Try.prog 3 33 (.int k a) = some (.int .u16 (IntKind.wrap .u16 a)) := aconv_int und_int und_u16
theorem cv_int_u64 (k : IntKind) (a : Int) : aconv Try.prog 3 36 (.int k a) = some (.int .u64 (IntKind.wrap .u64 a)) := aconv_int und_int und_u64
theorem cv_int_uint (k : IntKind) (a : Int) : aconv Try.prog 3 87 (.int k a) = some (.int .u64 (IntKind.wrap .u64 a)) := aconv_int und_int und_uint
theorem cv_u8_int (k : IntKind) (a : Int) : aconv Try.prog 5 3 (.int k a) = some (.int .i64 (IntKind.wrap .i64 a)) := aconv_int und_u8 und_int
theorem cv_u8_u16 (k : IntKind) (a : Int) : aconv Try.prog 5 33 (.int k a) = some (.int .u16 (IntKind.wrap .u16 a)) := aconv_int und_u8 und_u16
theorem cv_u8_u64 (k : IntKind) (a : Int) : aconv Try.prog 5 36 (.int k a) = some (.int .u64 (IntKind.wrap .u64 a)) := aconv_int und_u8 und_u64
theorem cv_u8_uint (k : IntKind) (a : Int) : aconv Try.prog 5 87 (.int k a) = some (.int .u64 (IntKind.wrap .u64 a)) := aconv_int und_u8 und_uint
theorem cv_u16_int (k : IntKind) (a : Int) : aconv Try.prog 33 3 (.int k a) = some (.int .i64 (IntKind.wrap .i64 a)) := aconv_int und_u16 und_int
theorem cv_u16_u8 (k : IntKind) (a : Int) : aconv Try.prog 33 5 (.int k a) = some (.int .u8 (IntKind.wrap .u8 a)) := aconv_int und_u16 und_u8
theorem cv_u16_u64 (k : IntKind) (a : Int) : aconv Try.prog 33 36 (.int k a) = some (.int .u64 (IntKind.wrap .u64 a)) := aconv_int und_u16 und_u64
theorem cv_u16_uint (k : IntKind) (a : Int) : aconv Try.prog 33 87 (.int k a) = some (.int .u64 (IntKind.wrap .u64 a)) := aconv_int und_u16 und_uint
theorem cv_u64_int (k : IntKind) (a : Int) : aconv Try.prog 36 3 (.int k a) = some (.int .i64 (IntKind.wrap .i64 a)) := aconv_int und_u64 und_int
theorem cv_u64_u8 (k : IntKind) (a : Int) : aconv Try.prog 36 5 (.int k a) = some (.int .u8 (IntKind.wrap .u8 a)) := aconv_int und_u64 und_u8
theorem cv_u64_u16 (k : IntKind) (a : Int) : aconv Try.prog 36 33 (.int k a) = some (.int .u16 (IntKind.wrap .u16 a)) := aconv_int und_u64 und_u16
theorem cv_u64_uint (k : IntKind) (a : Int) : aconv Try.prog 36 87 (.int k a) = some (.int .u64 (IntKind.wrap .u64 a)) := aconv_int und_u64 und_uint
theorem cv_uint_int (k : IntKind) (a : Int) : aconv Try.prog 87 3 (.int k a) = some (.int .i64 (IntKind.wrap .i64 a)) := aconv_int und_uint und_int
theorem cv_uint_u8 (k : IntKind) (a : Int) : aconv Try.prog 87 5 (.int k a) = some (.int .u8 (IntKind.wrap .u8 a)) := aconv_int und_uint und_u8
theorem cv_uint_u16 (k : IntKind) (a : Int) : aconv Try.prog 87 33 (.int k a) = some (.int .u16 (IntKind.wrap .u16 a)) := aconv_int und_uint und_u16
theorem cv_uint_u64 (k : IntKind) (a : Int) : aconv Try.prog 87 36 (.int k a) = some (.int .u64 (IntKind.wrap .u64 a)) := aconv_int und_uint und_u64
theorem und_bool : Try.prog.underlying 4 = some .bool := by kernel_rfl
theorem eqb (x y : Operand) (a b : Bool) : abin Try.prog .eql 4 x y (.bool a) (.bool b) = some (.bool (a == b)) := abin_eqb _ _ _ _ _ und_bool
set_option maxRecDepth 100000
theorem EVt : type_of% (And.intro (eqb) (And.intro (T_int) (And.intro (T_bool) (And.intro (T_u8) (And.intro (T_str) (And.intro (T_u16s) (And.intro (T_sets) (And.intro (T_err) (And.intro (T_u16) (And.intro (T_u64) (And.intro (T_prs) (And.intro (T_lab) (And.intro (T_u8s) (And.intro (T_u8ss) (And.intro (T_obj) (And.intro (T_thr) (And.intro (T_pr) (And.intro (T_u64s) (And.intro (T_uint) (And.intro (T_cpx) (And.intro (T_flt) (And.intro (T_cpxs) (And.intro (und_u8) (And.intro (und_str) (And.intro (@cv_int_u8) (And.intro (@cv_int_u16) (And.intro (@cv_int_u64) (And.intro (@cv_int_uint) (And.intro (@cv_u8_int) (And.intro (@cv_u8_u16) (And.intro (@cv_u8_u64) (And.intro (@cv_u8_uint) (And.intro (@cv_u16_int) (And.intro (@cv_u16_u8) (And.intro (@cv_u16_u64) (And.intro (@cv_u16_uint) (And.intro (@cv_u64_int) (And.intro (@cv_u64_u8) (And.intro (@cv_u64_u16) (And.intro (@cv_u64_uint) (And.intro (@cv_uint_int) (And.intro (@cv_uint_u8) (And.intro (@cv_uint_u16) (@cv_uint_u64)))))))))))))))))))))))))))))))))))))))))))) := And.intro (eqb) (And.intro (T_int) (And.intro (T_bool) (And.intro (T_u8) (And.intro (T_str) (And.intro (T_u16s) (And.intro (T_sets) (And.intro (T_err) (And.intro (T_u16) (And.intro (T_u64) (And.intro (T_prs) (And.intro (T_lab) (And.intro (T_u8s) (And.intro (T_u8ss) (And.intro (T_obj) (And.intro (T_thr) (And.intro (T_pr) (And.intro (T_u64s) (And.intro (T_uint) (And.intro (T_cpx) (And.intro (T_flt) (And.intro (T_cpxs) (And.intro (und_u8) (And.intro (und_str) (And.intro (@cv_int_u8) (And.intro (@cv_int_u16) (And.intro (@cv_int_u64) (And.intro (@cv_int_uint) (And.intro (@cv_u8_int) (And.intro (@cv_u8_u16) (And.intro (@cv_u8_u64) (And.intro (@cv_u8_uint) (And.intro (@cv_u16_int) (And.intro (@cv_u16_u8) (And.intro (@cv_u16_u64) (And.intro (@cv_u16_uint) (And.intro (@cv_u64_int) (And.intro (@cv_u64_u8) (And.intro (@cv_u64_u16) (And.intro (@cv_u64_uint) (And.intro (@cv_uint_int) (And.intro (@cv_uint_u8) (And.intro (@cv_uint_u16) (@cv_uint_u64)))))))))))))))))))))))))))))))))))))))))))
end Go.Proofs.Ytfgndnackofenaa.E
