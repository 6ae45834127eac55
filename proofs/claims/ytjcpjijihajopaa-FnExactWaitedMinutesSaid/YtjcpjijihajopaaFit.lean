/-
  Which functions of the program may be carried over to a goroutine in company.
-/
import Derived.Test.YtjcpjijihajopaaRows
import Derived.KernelRfl
import Derived.Test.YtjcpjijihajopaaMt4
set_option linter.unusedSectionVars false
set_option linter.unusedSimpArgs false
set_option linter.unusedVariables false
namespace Go.Proofs.Ytjcpjijihajopaa
open Go.Mt Go.Tt
def glL : List Nat := [9, 10, 11, 13, 14, 16, 17, 19, 21, 22, 23, 24, 26, 27, 28, 29, 30, 31, 32, 33, 34, 36, 37, 38, 39, 40, 41, 42, 43, 44, 45, 46, 47, 48, 49, 50, 51, 52, 53, 58, 59, 60, 61, 62, 81, 82, 83, 84, 85, 91, 92, 93, 94, 95, 96, 97, 98, 99, 100, 101, 102, 103, 104, 105, 106, 107]
def alL : List Nat := [3, 4, 5, 6, 9, 10, 11, 12, 13, 14, 15, 16, 17, 18, 19, 20, 21, 22, 23, 24, 26, 27, 28, 29, 30, 31, 32, 33, 34, 35, 36, 37, 38, 39, 40, 41, 42, 43, 44, 45, 46, 47, 48, 49, 50, 51, 52, 53, 58, 59, 60, 61, 62, 81, 82, 83, 84, 85, 91, 92, 93, 94, 95, 96, 97, 98, 99, 100, 101, 102, 103, 104, 105, 106, 107]
def flL : List Nat := [36, 39, 46]
def olL : List Nat := [35]
abbrev gsF : FuncId → Bool := inL glL
abbrev fsF : FuncId → Bool := inL flL
theorem zeros_all : zerosOk Try.prog = true := by kernel_rfl
theorem fit_gl : glL.all (fnFit Try.prog (inL flL) (inL glL)) = true := by kernel_rfl
theorem lvF : Lv Try.prog (inL olL) (inL alL) gsF fsF :=
  lv_of zeros_all fit_gl (by kernel_rfl) (by kernel_rfl) (by kernel_rfl)
theorem fitF : Fit3 (PS Try.prog gsF) fsF := fit3_of zeros_all fit_gl
end Go.Proofs.Ytjcpjijihajopaa
