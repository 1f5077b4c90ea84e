/-
  The program's types, as the words over abstract values need them; how data reads. No condition.
-/
import Derived.Test.YtfbfgaaaegbihaaE15
import Derived.Test.YtfbfgaaaegbihaaProg
namespace Go.Proofs.Ytfbfgaaaegbihaa.E
open Go Go.RowKit Go.Proofs.YtfbfgaaaegbihaaW.E
def T : Tab := [(3, ⟨false, 1, 8, [.val (.int .i64 0)], [], none⟩),
  (4, ⟨false, 1, 1, [.val (.bool false)], [], none⟩),
  (5, ⟨false, 1, 1, [.val (.int .u8 0)], [], none⟩),
  (9, ⟨false, 1, 16, [.val (.string .empty)], [], none⟩),
  (22, ⟨false, 1, 24, [.list 1 [] .full], [], some 25⟩),
  (24, ⟨true, 3, 72, [.list 1 [] .full, .list 1 [] .full, .list 1 [] .full], [(0, 1, false), (1, 1, false), (2, 1, false)], none⟩),
  (25, ⟨false, 1, 2, [.val (.int .u16 0)], [], none⟩),
  (37, ⟨false, 1, 24, [.list 2 [] .full], [], some 59⟩),
  (39, ⟨true, 2, 32, [.val (.int .u8 0), .list 2 [] .full], [(0, 1, false), (1, 1, false)], none⟩),
  (40, ⟨false, 1, 24, [.list 1 [] .full], [], some 5⟩),
  (41, ⟨false, 1, 8, [.val (.int .i64 0)], [], none⟩),
  (50, ⟨false, 1, 24, [.list 1 [] .full], [], some 40⟩),
  (51, ⟨false, 1, 24, [.list 1 [] .full], [], some 22⟩),
  (55, ⟨false, 1, 8, [.val (.int .u64 0)], [], none⟩),
  (59, ⟨true, 2, 4, [.val (.int .u16 0), .val (.int .u8 0)], [(0, 1, false), (1, 1, false)], none⟩),
  (65, ⟨false, 1, 8, [.val (.int .u64 0)], [], none⟩)]
theorem T_int : T.get 3 = some ⟨false, 1, 8, [.val (.int .i64 0)], [], none⟩ := rfl
theorem T_bool : T.get 4 = some ⟨false, 1, 1, [.val (.bool false)], [], none⟩ := rfl
theorem T_u8 : T.get 5 = some ⟨false, 1, 1, [.val (.int .u8 0)], [], none⟩ := rfl
theorem T_str : T.get 9 = some ⟨false, 1, 16, [.val (.string .empty)], [], none⟩ := rfl
theorem T_u16s : T.get 22 = some ⟨false, 1, 24, [.list 1 [] .full], [], some 25⟩ := rfl
theorem T_sets : T.get 24 = some ⟨true, 3, 72, [.list 1 [] .full, .list 1 [] .full, .list 1 [] .full], [(0, 1, false), (1, 1, false), (2, 1, false)], none⟩ := rfl
theorem T_u16 : T.get 25 = some ⟨false, 1, 2, [.val (.int .u16 0)], [], none⟩ := rfl
theorem T_prs : T.get 37 = some ⟨false, 1, 24, [.list 2 [] .full], [], some 59⟩ := rfl
theorem T_lab : T.get 39 = some ⟨true, 2, 32, [.val (.int .u8 0), .list 2 [] .full], [(0, 1, false), (1, 1, false)], none⟩ := rfl
theorem T_u8s : T.get 40 = some ⟨false, 1, 24, [.list 1 [] .full], [], some 5⟩ := rfl
theorem T_err : T.get 41 = some ⟨false, 1, 8, [.val (.int .i64 0)], [], none⟩ := rfl
theorem T_u8ss : T.get 50 = some ⟨false, 1, 24, [.list 1 [] .full], [], some 40⟩ := rfl
theorem T_u16ss : T.get 51 = some ⟨false, 1, 24, [.list 1 [] .full], [], some 22⟩ := rfl
theorem T_u64 : T.get 55 = some ⟨false, 1, 8, [.val (.int .u64 0)], [], none⟩ := rfl
theorem T_pr : T.get 59 = some ⟨true, 2, 4, [.val (.int .u16 0), .val (.int .u8 0)], [(0, 1, false), (1, 1, false)], none⟩ := rfl
theorem T_uint : T.get 65 = some ⟨false, 1, 8, [.val (.int .u64 0)], [], none⟩ := rfl
theorem T_ok : T.OK Try.prog := .cons (by kernel_rfl) (.cons (by kernel_rfl) (.cons (by kernel_rfl) (.cons (by kernel_rfl) (.cons (by kernel_rfl) (.cons (by kernel_rfl) (.cons (by kernel_rfl) (.cons (by kernel_rfl) (.cons (by kernel_rfl) (.cons (by kernel_rfl) (.cons (by kernel_rfl) (.cons (by kernel_rfl) (.cons (by kernel_rfl) (.cons (by kernel_rfl) (.cons (by kernel_rfl) (.cons (by kernel_rfl) (.nil _))))))))))))))))
theorem mixed : Try.prog.follows .mixedOrders = true := by kernel_rfl
theorem und_int : Try.prog.underlying 3 = some (.int .i64) := by kernel_rfl
theorem und_u8 : Try.prog.underlying 5 = some (.int .u8) := by kernel_rfl
theorem und_str : Try.prog.underlying 9 = some (.string) := by kernel_rfl
theorem und_u16 : Try.prog.underlying 25 = some (.int .u16) := by kernel_rfl
theorem und_u64 : Try.prog.underlying 55 = some (.int .u64) := by kernel_rfl
theorem und_uint : Try.prog.underlying 65 = some (.int .u64) := by kernel_rfl
theorem cv_int_u8 (k : IntKind) (a : Int) : aconv Try.prog 3 5 (.int k a) = some (.int .u8 (IntKind.wrap .u8 a)) := aconv_int und_int und_u8
theorem cv_int_u16 (k : IntKind) (a : Int) : aconv Try.prog 3 25 (.int k a) = some (.int .u16 (IntKind.wrap .u16 a)) := aconv_int und_int und_u16
theorem cv_int_u64 (k : IntKind) (a : Int) : aconv Try.prog 3 55 (.int k a) = some (.int .u64 (IntKind.wrap .u64 a)) := aconv_int und_int und_u64
theorem cv_int_uint (k : IntKind) (a : Int) : aconv Try.prog 3 65 (.int k a) = some (.int .u64 (IntKind.wrap .u64 a)) := aconv_int und_int und_uint
theorem cv_u8_int (k : IntKind) (a : Int) : aconv Try.prog 5 3 (.int k a) = some (.int .i64 (IntKind.wrap .i64 a)) := aconv_int und_u8 und_int
theorem cv_u8_u16 (k : IntKind) (a : Int) : aconv Try.prog 5 25 (.int k a) = some (.int .u16 (IntKind.wrap .u16 a)) := aconv_int und_u8 und_u16
theorem cv_u8_u64 (k : IntKind) (a : Int) : aconv Try.prog 5 55 (.int k a) = some (.int .u64 (IntKind.wrap .u64 a)) := aconv_int und_u8 und_u64
theorem cv_u8_uint (k : IntKind) (a : Int) : aconv Try.prog 5 65 (.int k a) = some (.int .u64 (IntKind.wrap .u64 a)) := aconv_int und_u8 und_uint
theorem cv_u16_int (k : IntKind) (a : Int) : aconv Try.prog 25 3 (.int k a) = some (.int .i64 (IntKind.wrap .i64 a)) := aconv_int und_u16 und_int
theorem cv_u16_u8 (k : IntKind) (a : Int) : aconv Try.prog 25 5 (.int k a) = some (.int .u8 (IntKind.wrap .u8 a)) := aconv_int und_u16 und_u8
theorem cv_u16_u64 (k : IntKind) (a : Int) : aconv Try.prog 25 55 (.int k a) = some (.int .u64 (IntKind.wrap .u64 a)) := aconv_int und_u16 und_u64
theorem cv_u16_uint (k : IntKind) (a : Int) : aconv Try.prog 25 65 (.int k a) = some (.int .u64 (IntKind.wrap .u64 a)) := aconv_int und_u16 und_uint
theorem cv_u64_int (k : IntKind) (a : Int) : aconv Try.prog 55 3 (.int k a) = some (.int .i64 (IntKind.wrap .i64 a)) := aconv_int und_u64 und_int
theorem cv_u64_u8 (k : IntKind) (a : Int) : aconv Try.prog 55 5 (.int k a) = some (.int .u8 (IntKind.wrap .u8 a)) := aconv_int und_u64 und_u8
theorem cv_u64_u16 (k : IntKind) (a : Int) : aconv Try.prog 55 25 (.int k a) = some (.int .u16 (IntKind.wrap .u16 a)) := aconv_int und_u64 und_u16
theorem cv_u64_uint (k : IntKind) (a : Int) : aconv Try.prog 55 65 (.int k a) = some (.int .u64 (IntKind.wrap .u64 a)) := aconv_int und_u64 und_uint
theorem cv_uint_int (k : IntKind) (a : Int) : aconv Try.prog 65 3 (.int k a) = some (.int .i64 (IntKind.wrap .i64 a)) := aconv_int und_uint und_int
theorem cv_uint_u8 (k : IntKind) (a : Int) : aconv Try.prog 65 5 (.int k a) = some (.int .u8 (IntKind.wrap .u8 a)) := aconv_int und_uint und_u8
theorem cv_uint_u16 (k : IntKind) (a : Int) : aconv Try.prog 65 25 (.int k a) = some (.int .u16 (IntKind.wrap .u16 a)) := aconv_int und_uint und_u16
theorem cv_uint_u64 (k : IntKind) (a : Int) : aconv Try.prog 65 55 (.int k a) = some (.int .u64 (IntKind.wrap .u64 a)) := aconv_int und_uint und_u64
theorem und_bool : Try.prog.underlying 4 = some .bool := by kernel_rfl
theorem eqb (x y : Operand) (a b : Bool) : abin Try.prog .eql 4 x y (.bool a) (.bool b) = some (.bool (a == b)) := abin_eqb _ _ _ _ _ und_bool
end Go.Proofs.Ytfbfgaaaegbihaa.E
