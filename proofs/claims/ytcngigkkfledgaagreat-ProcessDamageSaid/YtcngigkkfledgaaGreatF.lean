/- What walks of this seat know of its types and functions. -/
import Derived.Test.YtcngigkkfledgaaGreatB6
import Derived.Test.YtcngigkkfledgaaGreatProg
import Derived.KernelRfl
set_option linter.unusedVariables false
set_option linter.unusedSimpArgs false
set_option linter.defProp false
namespace Go.Proofs.ZP
open Go Go.Ev
open Go.Proofs

def es : List Nat := [7, 8, 24, 25, 33, 34, 45, 46, 52, 53, 55, 56, 62, 63]
/-- The functions that are walked. -/
def fl : List Nat := [3, 4, 5, 7, 8, 9, 10, 11, 12, 19, 20, 21, 22, 23, 24, 25, 26, 27, 28, 29, 30, 31, 32, 33, 34, 53, 54, 55, 56, 57, 58, 74]
@[irreducible] noncomputable def E (g : T (List V)) : Env := envOf2 Tryz.prog (List.range 243) fl [] [6] es g
variable {g : T (List V)}
theorem E_tys : (E g).tys = tysOf Tryz.prog (List.range 243) := by unfold E envOf2; dsimp only
theorem E_fns : (E g).fns = fnsOf Tryz.prog fl := by unfold E envOf2; dsimp only
theorem E_6 : (E g).fns.get 6 = none := by rw [E_fns]; exact fn_out rfl
/-- The guard, in a walk. -/
theorem awake_ok {h : H} {Q : V → H → Prop} (k : Q (.bool true) { t := .lf, next := h.next }) : WF (E g) 6 [] h Q :=
  WF.done E_6 (by unfold E envOf2; rfl) (by unfold E envOf2; exact T.get_lf 6) (by unfold E envOf2; rfl) k
theorem tb2 : TI.of Tryz.prog 2 = some { desc := .int .i64, size := 1, bytes := 8, zero := [.int .i64 0], zv := .int .i64 0, cmp := true } := by kernel_rfl
theorem ty2 : (E g).tys.get 2 = some { desc := .int .i64, size := 1, bytes := 8, zero := [.int .i64 0], zv := .int .i64 0, cmp := true } := by rw [E_tys]; exact ty_at tb2 rfl
theorem tb3 : TI.of Tryz.prog 3 = some { desc := .int .i64, size := 1, bytes := 8, zero := [.int .i64 0], zv := .int .i64 0, cmp := true } := by kernel_rfl
theorem ty3 : (E g).tys.get 3 = some { desc := .int .i64, size := 1, bytes := 8, zero := [.int .i64 0], zv := .int .i64 0, cmp := true } := by rw [E_tys]; exact ty_at tb3 rfl
theorem tb4 : TI.of Tryz.prog 4 = some { desc := .bool, size := 1, bytes := 1, zero := [.bool false], zv := .bool false, cmp := true } := by kernel_rfl
theorem ty4 : (E g).tys.get 4 = some { desc := .bool, size := 1, bytes := 1, zero := [.bool false], zv := .bool false, cmp := true } := by rw [E_tys]; exact ty_at tb4 rfl
theorem tb5 : TI.of Tryz.prog 5 = some { desc := .int .u8, size := 1, bytes := 1, zero := [.int .u8 0], zv := .int .u8 0, cmp := true } := by kernel_rfl
theorem ty5 : (E g).tys.get 5 = some { desc := .int .u8, size := 1, bytes := 1, zero := [.int .u8 0], zv := .int .u8 0, cmp := true } := by rw [E_tys]; exact ty_at tb5 rfl
theorem tb9 : TI.of Tryz.prog 9 = some { desc := .string, size := 1, bytes := 16, zero := [.str []], zv := .str [], cmp := true } := by kernel_rfl
theorem ty9 : (E g).tys.get 9 = some { desc := .string, size := 1, bytes := 16, zero := [.str []], zv := .str [], cmp := true } := by rw [E_tys]; exact ty_at tb9 rfl
theorem tb22 : TI.of Tryz.prog 22 = some { desc := .slice 2, size := 1, bytes := 24, zero := [.nils], zv := .nils, cmp := false } := by kernel_rfl
theorem ty22 : (E g).tys.get 22 = some { desc := .slice 2, size := 1, bytes := 24, zero := [.nils], zv := .nils, cmp := false } := by rw [E_tys]; exact ty_at tb22 rfl
theorem tb23 : TI.of Tryz.prog 23 = some { desc := .slice 46, size := 1, bytes := 24, zero := [.nils], zv := .nils, cmp := false } := by kernel_rfl
theorem ty23 : (E g).tys.get 23 = some { desc := .slice 46, size := 1, bytes := 24, zero := [.nils], zv := .nils, cmp := false } := by rw [E_tys]; exact ty_at tb23 rfl
theorem tb25 : TI.of Tryz.prog 25 = some { desc := .struct #[⟨ "Pid", 3, 0, false, "", "", 0⟩, ⟨ "Signal", 3, 1, false, "", "", 8⟩, ⟨ "Name", 9, 2, false, "", "", 16⟩, ⟨ "Registers", 22, 3, false, "", "", 32⟩, ⟨ "Memory", 23, 4, false, "", "", 56⟩], size := 5, bytes := 80, zero := [.int .i64 0, .int .i64 0, .str [], .nils, .nils], zv := .agg [.int .i64 0, .int .i64 0, .str [], .nils, .nils], cmp := false } := by kernel_rfl
theorem ty25 : (E g).tys.get 25 = some { desc := .struct #[⟨ "Pid", 3, 0, false, "", "", 0⟩, ⟨ "Signal", 3, 1, false, "", "", 8⟩, ⟨ "Name", 9, 2, false, "", "", 16⟩, ⟨ "Registers", 22, 3, false, "", "", 32⟩, ⟨ "Memory", 23, 4, false, "", "", 56⟩], size := 5, bytes := 80, zero := [.int .i64 0, .int .i64 0, .str [], .nils, .nils], zv := .agg [.int .i64 0, .int .i64 0, .str [], .nils, .nils], cmp := false } := by rw [E_tys]; exact ty_at tb25 rfl
theorem fa25_0 {b o : Nat} : fieldAddrV (E g) 25 (.ptr b o) 0 = some (.ptr b (o + 0)) := fieldAddr_of (fd := ⟨ "Pid", 3, 0, false, "", "", 0⟩) ty25 rfl rfl ty3 (by decide)
theorem fg25_0 {b o : Nat} : fieldAddrV (E g) 25 (.gp b o) 0 = some (.gp b (o + 0)) := fieldAddr_gp (fd := ⟨ "Pid", 3, 0, false, "", "", 0⟩) ty25 rfl rfl ty3 (by decide)
theorem fa25_1 {b o : Nat} : fieldAddrV (E g) 25 (.ptr b o) 1 = some (.ptr b (o + 1)) := fieldAddr_of (fd := ⟨ "Signal", 3, 1, false, "", "", 8⟩) ty25 rfl rfl ty3 (by decide)
theorem fg25_1 {b o : Nat} : fieldAddrV (E g) 25 (.gp b o) 1 = some (.gp b (o + 1)) := fieldAddr_gp (fd := ⟨ "Signal", 3, 1, false, "", "", 8⟩) ty25 rfl rfl ty3 (by decide)
theorem fa25_2 {b o : Nat} : fieldAddrV (E g) 25 (.ptr b o) 2 = some (.ptr b (o + 2)) := fieldAddr_of (fd := ⟨ "Name", 9, 2, false, "", "", 16⟩) ty25 rfl rfl ty9 (by decide)
theorem fg25_2 {b o : Nat} : fieldAddrV (E g) 25 (.gp b o) 2 = some (.gp b (o + 2)) := fieldAddr_gp (fd := ⟨ "Name", 9, 2, false, "", "", 16⟩) ty25 rfl rfl ty9 (by decide)
theorem fa25_3 {b o : Nat} : fieldAddrV (E g) 25 (.ptr b o) 3 = some (.ptr b (o + 3)) := fieldAddr_of (fd := ⟨ "Registers", 22, 3, false, "", "", 32⟩) ty25 rfl rfl ty22 (by decide)
theorem fg25_3 {b o : Nat} : fieldAddrV (E g) 25 (.gp b o) 3 = some (.gp b (o + 3)) := fieldAddr_gp (fd := ⟨ "Registers", 22, 3, false, "", "", 32⟩) ty25 rfl rfl ty22 (by decide)
theorem fa25_4 {b o : Nat} : fieldAddrV (E g) 25 (.ptr b o) 4 = some (.ptr b (o + 4)) := fieldAddr_of (fd := ⟨ "Memory", 23, 4, false, "", "", 56⟩) ty25 rfl rfl ty23 (by decide)
theorem fg25_4 {b o : Nat} : fieldAddrV (E g) 25 (.gp b o) 4 = some (.gp b (o + 4)) := fieldAddr_gp (fd := ⟨ "Memory", 23, 4, false, "", "", 56⟩) ty25 rfl rfl ty23 (by decide)
theorem tb26 : TI.of Tryz.prog 26 = some { desc := .slice 5, size := 1, bytes := 24, zero := [.nils], zv := .nils, cmp := false } := by kernel_rfl
theorem ty26 : (E g).tys.get 26 = some { desc := .slice 5, size := 1, bytes := 24, zero := [.nils], zv := .nils, cmp := false } := by rw [E_tys]; exact ty_at tb26 rfl
theorem tb29 : TI.of Tryz.prog 29 = some { desc := .int .i64, size := 1, bytes := 8, zero := [.int .i64 0], zv := .int .i64 0, cmp := true } := by kernel_rfl
theorem ty29 : (E g).tys.get 29 = some { desc := .int .i64, size := 1, bytes := 8, zero := [.int .i64 0], zv := .int .i64 0, cmp := true } := by rw [E_tys]; exact ty_at tb29 rfl
theorem tb32 : TI.of Tryz.prog 32 = some { desc := .slice 75, size := 1, bytes := 24, zero := [.nils], zv := .nils, cmp := false } := by kernel_rfl
theorem ty32 : (E g).tys.get 32 = some { desc := .slice 75, size := 1, bytes := 24, zero := [.nils], zv := .nils, cmp := false } := by rw [E_tys]; exact ty_at tb32 rfl
theorem tb34 : TI.of Tryz.prog 34 = some { desc := .struct #[⟨ "Pid", 3, 0, false, "", "", 0⟩, ⟨ "Signal", 3, 1, false, "", "", 8⟩, ⟨ "Name", 9, 2, false, "", "", 16⟩, ⟨ "Registers", 22, 3, false, "", "", 32⟩, ⟨ "Memory", 32, 4, false, "", "", 56⟩], size := 5, bytes := 80, zero := [.int .i64 0, .int .i64 0, .str [], .nils, .nils], zv := .agg [.int .i64 0, .int .i64 0, .str [], .nils, .nils], cmp := false } := by kernel_rfl
theorem ty34 : (E g).tys.get 34 = some { desc := .struct #[⟨ "Pid", 3, 0, false, "", "", 0⟩, ⟨ "Signal", 3, 1, false, "", "", 8⟩, ⟨ "Name", 9, 2, false, "", "", 16⟩, ⟨ "Registers", 22, 3, false, "", "", 32⟩, ⟨ "Memory", 32, 4, false, "", "", 56⟩], size := 5, bytes := 80, zero := [.int .i64 0, .int .i64 0, .str [], .nils, .nils], zv := .agg [.int .i64 0, .int .i64 0, .str [], .nils, .nils], cmp := false } := by rw [E_tys]; exact ty_at tb34 rfl
theorem fa34_0 {b o : Nat} : fieldAddrV (E g) 34 (.ptr b o) 0 = some (.ptr b (o + 0)) := fieldAddr_of (fd := ⟨ "Pid", 3, 0, false, "", "", 0⟩) ty34 rfl rfl ty3 (by decide)
theorem fg34_0 {b o : Nat} : fieldAddrV (E g) 34 (.gp b o) 0 = some (.gp b (o + 0)) := fieldAddr_gp (fd := ⟨ "Pid", 3, 0, false, "", "", 0⟩) ty34 rfl rfl ty3 (by decide)
theorem fa34_1 {b o : Nat} : fieldAddrV (E g) 34 (.ptr b o) 1 = some (.ptr b (o + 1)) := fieldAddr_of (fd := ⟨ "Signal", 3, 1, false, "", "", 8⟩) ty34 rfl rfl ty3 (by decide)
theorem fg34_1 {b o : Nat} : fieldAddrV (E g) 34 (.gp b o) 1 = some (.gp b (o + 1)) := fieldAddr_gp (fd := ⟨ "Signal", 3, 1, false, "", "", 8⟩) ty34 rfl rfl ty3 (by decide)
theorem fa34_2 {b o : Nat} : fieldAddrV (E g) 34 (.ptr b o) 2 = some (.ptr b (o + 2)) := fieldAddr_of (fd := ⟨ "Name", 9, 2, false, "", "", 16⟩) ty34 rfl rfl ty9 (by decide)
theorem fg34_2 {b o : Nat} : fieldAddrV (E g) 34 (.gp b o) 2 = some (.gp b (o + 2)) := fieldAddr_gp (fd := ⟨ "Name", 9, 2, false, "", "", 16⟩) ty34 rfl rfl ty9 (by decide)
theorem fa34_3 {b o : Nat} : fieldAddrV (E g) 34 (.ptr b o) 3 = some (.ptr b (o + 3)) := fieldAddr_of (fd := ⟨ "Registers", 22, 3, false, "", "", 32⟩) ty34 rfl rfl ty22 (by decide)
theorem fg34_3 {b o : Nat} : fieldAddrV (E g) 34 (.gp b o) 3 = some (.gp b (o + 3)) := fieldAddr_gp (fd := ⟨ "Registers", 22, 3, false, "", "", 32⟩) ty34 rfl rfl ty22 (by decide)
theorem fa34_4 {b o : Nat} : fieldAddrV (E g) 34 (.ptr b o) 4 = some (.ptr b (o + 4)) := fieldAddr_of (fd := ⟨ "Memory", 32, 4, false, "", "", 56⟩) ty34 rfl rfl ty32 (by decide)
theorem fg34_4 {b o : Nat} : fieldAddrV (E g) 34 (.gp b o) 4 = some (.gp b (o + 4)) := fieldAddr_gp (fd := ⟨ "Memory", 32, 4, false, "", "", 56⟩) ty34 rfl rfl ty32 (by decide)
theorem tb43 : TI.of Tryz.prog 43 = some { desc := .int .u16, size := 1, bytes := 2, zero := [.int .u16 0], zv := .int .u16 0, cmp := true } := by kernel_rfl
theorem ty43 : (E g).tys.get 43 = some { desc := .int .u16, size := 1, bytes := 2, zero := [.int .u16 0], zv := .int .u16 0, cmp := true } := by rw [E_tys]; exact ty_at tb43 rfl
theorem tb46 : TI.of Tryz.prog 46 = some { desc := .struct #[⟨ "Address", 2, 0, false, "", "", 0⟩, ⟨ "Data", 26, 1, false, "", "", 8⟩], size := 2, bytes := 32, zero := [.int .i64 0, .nils], zv := .agg [.int .i64 0, .nils], cmp := false } := by kernel_rfl
theorem ty46 : (E g).tys.get 46 = some { desc := .struct #[⟨ "Address", 2, 0, false, "", "", 0⟩, ⟨ "Data", 26, 1, false, "", "", 8⟩], size := 2, bytes := 32, zero := [.int .i64 0, .nils], zv := .agg [.int .i64 0, .nils], cmp := false } := by rw [E_tys]; exact ty_at tb46 rfl
theorem fa46_0 {b o : Nat} : fieldAddrV (E g) 46 (.ptr b o) 0 = some (.ptr b (o + 0)) := fieldAddr_of (fd := ⟨ "Address", 2, 0, false, "", "", 0⟩) ty46 rfl rfl ty2 (by decide)
theorem fg46_0 {b o : Nat} : fieldAddrV (E g) 46 (.gp b o) 0 = some (.gp b (o + 0)) := fieldAddr_gp (fd := ⟨ "Address", 2, 0, false, "", "", 0⟩) ty46 rfl rfl ty2 (by decide)
theorem fa46_1 {b o : Nat} : fieldAddrV (E g) 46 (.ptr b o) 1 = some (.ptr b (o + 1)) := fieldAddr_of (fd := ⟨ "Data", 26, 1, false, "", "", 8⟩) ty46 rfl rfl ty26 (by decide)
theorem fg46_1 {b o : Nat} : fieldAddrV (E g) 46 (.gp b o) 1 = some (.gp b (o + 1)) := fieldAddr_gp (fd := ⟨ "Data", 26, 1, false, "", "", 8⟩) ty46 rfl rfl ty26 (by decide)
theorem tb68 : TI.of Tryz.prog 68 = some { desc := .struct #[], size := 0, bytes := 0, zero := [], zv := .agg [], cmp := true } := by kernel_rfl
theorem ty68 : (E g).tys.get 68 = some { desc := .struct #[], size := 0, bytes := 0, zero := [], zv := .agg [], cmp := true } := by rw [E_tys]; exact ty_at tb68 rfl
theorem tb71 : TI.of Tryz.prog 71 = some { desc := .int .u32, size := 1, bytes := 4, zero := [.int .u32 0], zv := .int .u32 0, cmp := true } := by kernel_rfl
theorem ty71 : (E g).tys.get 71 = some { desc := .int .u32, size := 1, bytes := 4, zero := [.int .u32 0], zv := .int .u32 0, cmp := true } := by rw [E_tys]; exact ty_at tb71 rfl
theorem tb74 : TI.of Tryz.prog 74 = some { desc := .int .u64, size := 1, bytes := 8, zero := [.int .u64 0], zv := .int .u64 0, cmp := true } := by kernel_rfl
theorem ty74 : (E g).tys.get 74 = some { desc := .int .u64, size := 1, bytes := 8, zero := [.int .u64 0], zv := .int .u64 0, cmp := true } := by rw [E_tys]; exact ty_at tb74 rfl
theorem tb75 : TI.of Tryz.prog 75 = some { desc := .struct #[⟨ "Address", 2, 0, false, "", "", 0⟩, ⟨ "Data", 26, 1, false, "", "", 8⟩], size := 2, bytes := 32, zero := [.int .i64 0, .nils], zv := .agg [.int .i64 0, .nils], cmp := false } := by kernel_rfl
theorem ty75 : (E g).tys.get 75 = some { desc := .struct #[⟨ "Address", 2, 0, false, "", "", 0⟩, ⟨ "Data", 26, 1, false, "", "", 8⟩], size := 2, bytes := 32, zero := [.int .i64 0, .nils], zv := .agg [.int .i64 0, .nils], cmp := false } := by rw [E_tys]; exact ty_at tb75 rfl
theorem fa75_0 {b o : Nat} : fieldAddrV (E g) 75 (.ptr b o) 0 = some (.ptr b (o + 0)) := fieldAddr_of (fd := ⟨ "Address", 2, 0, false, "", "", 0⟩) ty75 rfl rfl ty2 (by decide)
theorem fg75_0 {b o : Nat} : fieldAddrV (E g) 75 (.gp b o) 0 = some (.gp b (o + 0)) := fieldAddr_gp (fd := ⟨ "Address", 2, 0, false, "", "", 0⟩) ty75 rfl rfl ty2 (by decide)
theorem fa75_1 {b o : Nat} : fieldAddrV (E g) 75 (.ptr b o) 1 = some (.ptr b (o + 1)) := fieldAddr_of (fd := ⟨ "Data", 26, 1, false, "", "", 8⟩) ty75 rfl rfl ty26 (by decide)
theorem fg75_1 {b o : Nat} : fieldAddrV (E g) 75 (.gp b o) 1 = some (.gp b (o + 1)) := fieldAddr_gp (fd := ⟨ "Data", 26, 1, false, "", "", 8⟩) ty75 rfl rfl ty26 (by decide)
theorem tb80 : TI.of Tryz.prog 80 = some { desc := .pointer 82, size := 1, bytes := 8, zero := [.nilp], zv := .nilp, cmp := true } := by kernel_rfl
theorem ty80 : (E g).tys.get 80 = some { desc := .pointer 82, size := 1, bytes := 8, zero := [.nilp], zv := .nilp, cmp := true } := by rw [E_tys]; exact ty_at tb80 rfl
theorem tb82 : TI.of Tryz.prog 82 = some { desc := .struct #[⟨ "b", 26, 0, false, "", "orpiment/process", 0⟩, ⟨ "short", 4, 1, false, "", "orpiment/process", 24⟩], size := 2, bytes := 32, zero := [.nils, .bool false], zv := .agg [.nils, .bool false], cmp := false } := by kernel_rfl
theorem ty82 : (E g).tys.get 82 = some { desc := .struct #[⟨ "b", 26, 0, false, "", "orpiment/process", 0⟩, ⟨ "short", 4, 1, false, "", "orpiment/process", 24⟩], size := 2, bytes := 32, zero := [.nils, .bool false], zv := .agg [.nils, .bool false], cmp := false } := by rw [E_tys]; exact ty_at tb82 rfl
theorem fa82_0 {b o : Nat} : fieldAddrV (E g) 82 (.ptr b o) 0 = some (.ptr b (o + 0)) := fieldAddr_of (fd := ⟨ "b", 26, 0, false, "", "orpiment/process", 0⟩) ty82 rfl rfl ty26 (by decide)
theorem fg82_0 {b o : Nat} : fieldAddrV (E g) 82 (.gp b o) 0 = some (.gp b (o + 0)) := fieldAddr_gp (fd := ⟨ "b", 26, 0, false, "", "orpiment/process", 0⟩) ty82 rfl rfl ty26 (by decide)
theorem fa82_1 {b o : Nat} : fieldAddrV (E g) 82 (.ptr b o) 1 = some (.ptr b (o + 1)) := fieldAddr_of (fd := ⟨ "short", 4, 1, false, "", "orpiment/process", 24⟩) ty82 rfl rfl ty4 (by decide)
theorem fg82_1 {b o : Nat} : fieldAddrV (E g) 82 (.gp b o) 1 = some (.gp b (o + 1)) := fieldAddr_gp (fd := ⟨ "short", 4, 1, false, "", "orpiment/process", 24⟩) ty82 rfl rfl ty4 (by decide)
theorem tb87 : TI.of Tryz.prog 87 = some { desc := .pointer 89, size := 1, bytes := 8, zero := [.nilp], zv := .nilp, cmp := true } := by kernel_rfl
theorem ty87 : (E g).tys.get 87 = some { desc := .pointer 89, size := 1, bytes := 8, zero := [.nilp], zv := .nilp, cmp := true } := by rw [E_tys]; exact ty_at tb87 rfl
theorem tb89 : TI.of Tryz.prog 89 = some { desc := .struct #[⟨ "b", 26, 0, false, "", "orpiment/orpimentref17", 0⟩, ⟨ "bad", 4, 1, false, "", "orpiment/orpimentref17", 24⟩], size := 2, bytes := 32, zero := [.nils, .bool false], zv := .agg [.nils, .bool false], cmp := false } := by kernel_rfl
theorem ty89 : (E g).tys.get 89 = some { desc := .struct #[⟨ "b", 26, 0, false, "", "orpiment/orpimentref17", 0⟩, ⟨ "bad", 4, 1, false, "", "orpiment/orpimentref17", 24⟩], size := 2, bytes := 32, zero := [.nils, .bool false], zv := .agg [.nils, .bool false], cmp := false } := by rw [E_tys]; exact ty_at tb89 rfl
theorem fa89_0 {b o : Nat} : fieldAddrV (E g) 89 (.ptr b o) 0 = some (.ptr b (o + 0)) := fieldAddr_of (fd := ⟨ "b", 26, 0, false, "", "orpiment/orpimentref17", 0⟩) ty89 rfl rfl ty26 (by decide)
theorem fg89_0 {b o : Nat} : fieldAddrV (E g) 89 (.gp b o) 0 = some (.gp b (o + 0)) := fieldAddr_gp (fd := ⟨ "b", 26, 0, false, "", "orpiment/orpimentref17", 0⟩) ty89 rfl rfl ty26 (by decide)
theorem fa89_1 {b o : Nat} : fieldAddrV (E g) 89 (.ptr b o) 1 = some (.ptr b (o + 1)) := fieldAddr_of (fd := ⟨ "bad", 4, 1, false, "", "orpiment/orpimentref17", 24⟩) ty89 rfl rfl ty4 (by decide)
theorem fg89_1 {b o : Nat} : fieldAddrV (E g) 89 (.gp b o) 1 = some (.gp b (o + 1)) := fieldAddr_gp (fd := ⟨ "bad", 4, 1, false, "", "orpiment/orpimentref17", 24⟩) ty89 rfl rfl ty4 (by decide)
theorem tb126 : TI.of Tryz.prog 126 = some { desc := .array 8 5, size := 8, bytes := 8, zero := [.int .u8 0, .int .u8 0, .int .u8 0, .int .u8 0, .int .u8 0, .int .u8 0, .int .u8 0, .int .u8 0], zv := .agg [.int .u8 0, .int .u8 0, .int .u8 0, .int .u8 0, .int .u8 0, .int .u8 0, .int .u8 0, .int .u8 0], cmp := true } := by kernel_rfl
theorem ty126 : (E g).tys.get 126 = some { desc := .array 8 5, size := 8, bytes := 8, zero := [.int .u8 0, .int .u8 0, .int .u8 0, .int .u8 0, .int .u8 0, .int .u8 0, .int .u8 0, .int .u8 0], zv := .agg [.int .u8 0, .int .u8 0, .int .u8 0, .int .u8 0, .int .u8 0, .int .u8 0, .int .u8 0, .int .u8 0], cmp := true } := by rw [E_tys]; exact ty_at tb126 rfl
theorem fi3 : FI.of Tryz.prog 3 = some { nt := 68, body := Tryz.f3.body.get!, res := [.tmp 4] } := FI.of_mk Tryz.func3 (show Tryz.f3.body = some Tryz.f3.body.get! by kernel_rfl) (by kernel_rfl) (show Tryz.f3.ntmps = 68 by kernel_rfl) (show Tryz.f3.results.toList = [.tmp 4] by kernel_rfl)
theorem fn3 : (E g).fns.get 3 = some { nt := 68, body := Tryz.f3.body.get!, res := [.tmp 4] } := by rw [E_fns]; exact fn_in fi3 rfl
theorem fi4 : FI.of Tryz.prog 4 = some { nt := 78, body := Tryz.f4.body.get!, res := [.tmp 6] } := FI.of_mk Tryz.func4 (show Tryz.f4.body = some Tryz.f4.body.get! by kernel_rfl) (by kernel_rfl) (show Tryz.f4.ntmps = 78 by kernel_rfl) (show Tryz.f4.results.toList = [.tmp 6] by kernel_rfl)
theorem fn4 : (E g).fns.get 4 = some { nt := 78, body := Tryz.f4.body.get!, res := [.tmp 6] } := by rw [E_fns]; exact fn_in fi4 rfl
theorem fi5 : FI.of Tryz.prog 5 = some { nt := 39, body := Tryz.f5.body.get!, res := [.tmp 2] } := FI.of_mk Tryz.func5 (show Tryz.f5.body = some Tryz.f5.body.get! by kernel_rfl) (by kernel_rfl) (show Tryz.f5.ntmps = 39 by kernel_rfl) (show Tryz.f5.results.toList = [.tmp 2] by kernel_rfl)
theorem fn5 : (E g).fns.get 5 = some { nt := 39, body := Tryz.f5.body.get!, res := [.tmp 2] } := by rw [E_fns]; exact fn_in fi5 rfl
theorem fi7 : FI.of Tryz.prog 7 = some { nt := 98, body := Tryz.f7.body.get!, res := [.tmp 2, .tmp 3] } := FI.of_mk Tryz.func7 (show Tryz.f7.body = some Tryz.f7.body.get! by kernel_rfl) (by kernel_rfl) (show Tryz.f7.ntmps = 98 by kernel_rfl) (show Tryz.f7.results.toList = [.tmp 2, .tmp 3] by kernel_rfl)
theorem fn7 : (E g).fns.get 7 = some { nt := 98, body := Tryz.f7.body.get!, res := [.tmp 2, .tmp 3] } := by rw [E_fns]; exact fn_in fi7 rfl
theorem fi8 : FI.of Tryz.prog 8 = some { nt := 38, body := Tryz.f8.body.get!, res := [.cell 2 34] } := FI.of_mk Tryz.func8 (show Tryz.f8.body = some Tryz.f8.body.get! by kernel_rfl) (by kernel_rfl) (show Tryz.f8.ntmps = 38 by kernel_rfl) (show Tryz.f8.results.toList = [.cell 2 34] by kernel_rfl)
theorem fn8 : (E g).fns.get 8 = some { nt := 38, body := Tryz.f8.body.get!, res := [.cell 2 34] } := by rw [E_fns]; exact fn_in fi8 rfl
theorem fi9 : FI.of Tryz.prog 9 = some { nt := 149, body := Tryz.f9.body.get!, res := [.tmp 2, .tmp 3] } := FI.of_mk Tryz.func9 (show Tryz.f9.body = some Tryz.f9.body.get! by kernel_rfl) (by kernel_rfl) (show Tryz.f9.ntmps = 149 by kernel_rfl) (show Tryz.f9.results.toList = [.tmp 2, .tmp 3] by kernel_rfl)
theorem fn9 : (E g).fns.get 9 = some { nt := 149, body := Tryz.f9.body.get!, res := [.tmp 2, .tmp 3] } := by rw [E_fns]; exact fn_in fi9 rfl
theorem fi10 : FI.of Tryz.prog 10 = some { nt := 121, body := Tryz.f10.body.get!, res := [.cell 2 34, .tmp 3] } := FI.of_mk Tryz.func10 (show Tryz.f10.body = some Tryz.f10.body.get! by kernel_rfl) (by kernel_rfl) (show Tryz.f10.ntmps = 121 by kernel_rfl) (show Tryz.f10.results.toList = [.cell 2 34, .tmp 3] by kernel_rfl)
theorem fn10 : (E g).fns.get 10 = some { nt := 121, body := Tryz.f10.body.get!, res := [.cell 2 34, .tmp 3] } := by rw [E_fns]; exact fn_in fi10 rfl
theorem fi11 : FI.of Tryz.prog 11 = some { nt := 143, body := Tryz.f11.body.get!, res := [.cell 2 25, .tmp 3] } := FI.of_mk Tryz.func11 (show Tryz.f11.body = some Tryz.f11.body.get! by kernel_rfl) (by kernel_rfl) (show Tryz.f11.ntmps = 143 by kernel_rfl) (show Tryz.f11.results.toList = [.cell 2 25, .tmp 3] by kernel_rfl)
theorem fn11 : (E g).fns.get 11 = some { nt := 143, body := Tryz.f11.body.get!, res := [.cell 2 25, .tmp 3] } := by rw [E_fns]; exact fn_in fi11 rfl
theorem fi12 : FI.of Tryz.prog 12 = some { nt := 94, body := Tryz.f12.body.get!, res := [.tmp 4] } := FI.of_mk Tryz.func12 (show Tryz.f12.body = some Tryz.f12.body.get! by kernel_rfl) (by kernel_rfl) (show Tryz.f12.ntmps = 94 by kernel_rfl) (show Tryz.f12.results.toList = [.tmp 4] by kernel_rfl)
theorem fn12 : (E g).fns.get 12 = some { nt := 94, body := Tryz.f12.body.get!, res := [.tmp 4] } := by rw [E_fns]; exact fn_in fi12 rfl
theorem fi19 : FI.of Tryz.prog 19 = some { nt := 71, body := Tryz.f19.body.get!, res := [.tmp 2] } := FI.of_mk Tryz.func19 (show Tryz.f19.body = some Tryz.f19.body.get! by kernel_rfl) (by kernel_rfl) (show Tryz.f19.ntmps = 71 by kernel_rfl) (show Tryz.f19.results.toList = [.tmp 2] by kernel_rfl)
theorem fn19 : (E g).fns.get 19 = some { nt := 71, body := Tryz.f19.body.get!, res := [.tmp 2] } := by rw [E_fns]; exact fn_in fi19 rfl
theorem fi20 : FI.of Tryz.prog 20 = some { nt := 3, body := Tryz.f20.body.get!, res := [.cell 0 68] } := FI.of_mk Tryz.func20 (show Tryz.f20.body = some Tryz.f20.body.get! by kernel_rfl) (by kernel_rfl) (show Tryz.f20.ntmps = 3 by kernel_rfl) (show Tryz.f20.results.toList = [.cell 0 68] by kernel_rfl)
theorem fn20 : (E g).fns.get 20 = some { nt := 3, body := Tryz.f20.body.get!, res := [.cell 0 68] } := by rw [E_fns]; exact fn_in fi20 rfl
theorem fi21 : FI.of Tryz.prog 21 = some { nt := 11, body := Tryz.f21.body.get!, res := [.tmp 6] } := FI.of_mk Tryz.func21 (show Tryz.f21.body = some Tryz.f21.body.get! by kernel_rfl) (by kernel_rfl) (show Tryz.f21.ntmps = 11 by kernel_rfl) (show Tryz.f21.results.toList = [.tmp 6] by kernel_rfl)
theorem fn21 : (E g).fns.get 21 = some { nt := 11, body := Tryz.f21.body.get!, res := [.tmp 6] } := by rw [E_fns]; exact fn_in fi21 rfl
theorem fi22 : FI.of Tryz.prog 22 = some { nt := 11, body := Tryz.f22.body.get!, res := [.tmp 6] } := FI.of_mk Tryz.func22 (show Tryz.f22.body = some Tryz.f22.body.get! by kernel_rfl) (by kernel_rfl) (show Tryz.f22.ntmps = 11 by kernel_rfl) (show Tryz.f22.results.toList = [.tmp 6] by kernel_rfl)
theorem fn22 : (E g).fns.get 22 = some { nt := 11, body := Tryz.f22.body.get!, res := [.tmp 6] } := by rw [E_fns]; exact fn_in fi22 rfl
theorem fi23 : FI.of Tryz.prog 23 = some { nt := 10, body := Tryz.f23.body.get!, res := [.tmp 6] } := FI.of_mk Tryz.func23 (show Tryz.f23.body = some Tryz.f23.body.get! by kernel_rfl) (by kernel_rfl) (show Tryz.f23.ntmps = 10 by kernel_rfl) (show Tryz.f23.results.toList = [.tmp 6] by kernel_rfl)
theorem fn23 : (E g).fns.get 23 = some { nt := 10, body := Tryz.f23.body.get!, res := [.tmp 6] } := by rw [E_fns]; exact fn_in fi23 rfl
theorem fi24 : FI.of Tryz.prog 24 = some { nt := 18, body := Tryz.f24.body.get!, res := [.tmp 2] } := FI.of_mk Tryz.func24 (show Tryz.f24.body = some Tryz.f24.body.get! by kernel_rfl) (by kernel_rfl) (show Tryz.f24.ntmps = 18 by kernel_rfl) (show Tryz.f24.results.toList = [.tmp 2] by kernel_rfl)
theorem fn24 : (E g).fns.get 24 = some { nt := 18, body := Tryz.f24.body.get!, res := [.tmp 2] } := by rw [E_fns]; exact fn_in fi24 rfl
theorem fi25 : FI.of Tryz.prog 25 = some { nt := 8, body := Tryz.f25.body.get!, res := [.tmp 2] } := FI.of_mk Tryz.func25 (show Tryz.f25.body = some Tryz.f25.body.get! by kernel_rfl) (by kernel_rfl) (show Tryz.f25.ntmps = 8 by kernel_rfl) (show Tryz.f25.results.toList = [.tmp 2] by kernel_rfl)
theorem fn25 : (E g).fns.get 25 = some { nt := 8, body := Tryz.f25.body.get!, res := [.tmp 2] } := by rw [E_fns]; exact fn_in fi25 rfl
theorem fi26 : FI.of Tryz.prog 26 = some { nt := 24, body := Tryz.f26.body.get!, res := [.tmp 6] } := FI.of_mk Tryz.func26 (show Tryz.f26.body = some Tryz.f26.body.get! by kernel_rfl) (by kernel_rfl) (show Tryz.f26.ntmps = 24 by kernel_rfl) (show Tryz.f26.results.toList = [.tmp 6] by kernel_rfl)
theorem fn26 : (E g).fns.get 26 = some { nt := 24, body := Tryz.f26.body.get!, res := [.tmp 6] } := by rw [E_fns]; exact fn_in fi26 rfl
theorem fi27 : FI.of Tryz.prog 27 = some { nt := 19, body := Tryz.f27.body.get!, res := [.tmp 2] } := FI.of_mk Tryz.func27 (show Tryz.f27.body = some Tryz.f27.body.get! by kernel_rfl) (by kernel_rfl) (show Tryz.f27.ntmps = 19 by kernel_rfl) (show Tryz.f27.results.toList = [.tmp 2] by kernel_rfl)
theorem fn27 : (E g).fns.get 27 = some { nt := 19, body := Tryz.f27.body.get!, res := [.tmp 2] } := by rw [E_fns]; exact fn_in fi27 rfl
theorem fi28 : FI.of Tryz.prog 28 = some { nt := 8, body := Tryz.f28.body.get!, res := [.tmp 4] } := FI.of_mk Tryz.func28 (show Tryz.f28.body = some Tryz.f28.body.get! by kernel_rfl) (by kernel_rfl) (show Tryz.f28.ntmps = 8 by kernel_rfl) (show Tryz.f28.results.toList = [.tmp 4] by kernel_rfl)
theorem fn28 : (E g).fns.get 28 = some { nt := 8, body := Tryz.f28.body.get!, res := [.tmp 4] } := by rw [E_fns]; exact fn_in fi28 rfl
theorem fi29 : FI.of Tryz.prog 29 = some { nt := 15, body := Tryz.f29.body.get!, res := [.tmp 4] } := FI.of_mk Tryz.func29 (show Tryz.f29.body = some Tryz.f29.body.get! by kernel_rfl) (by kernel_rfl) (show Tryz.f29.ntmps = 15 by kernel_rfl) (show Tryz.f29.results.toList = [.tmp 4] by kernel_rfl)
theorem fn29 : (E g).fns.get 29 = some { nt := 15, body := Tryz.f29.body.get!, res := [.tmp 4] } := by rw [E_fns]; exact fn_in fi29 rfl
theorem fi30 : FI.of Tryz.prog 30 = some { nt := 32, body := Tryz.f30.body.get!, res := [.tmp 4] } := FI.of_mk Tryz.func30 (show Tryz.f30.body = some Tryz.f30.body.get! by kernel_rfl) (by kernel_rfl) (show Tryz.f30.ntmps = 32 by kernel_rfl) (show Tryz.f30.results.toList = [.tmp 4] by kernel_rfl)
theorem fn30 : (E g).fns.get 30 = some { nt := 32, body := Tryz.f30.body.get!, res := [.tmp 4] } := by rw [E_fns]; exact fn_in fi30 rfl
theorem fi31 : FI.of Tryz.prog 31 = some { nt := 8, body := Tryz.f31.body.get!, res := [.tmp 2] } := FI.of_mk Tryz.func31 (show Tryz.f31.body = some Tryz.f31.body.get! by kernel_rfl) (by kernel_rfl) (show Tryz.f31.ntmps = 8 by kernel_rfl) (show Tryz.f31.results.toList = [.tmp 2] by kernel_rfl)
theorem fn31 : (E g).fns.get 31 = some { nt := 8, body := Tryz.f31.body.get!, res := [.tmp 2] } := by rw [E_fns]; exact fn_in fi31 rfl
theorem fi32 : FI.of Tryz.prog 32 = some { nt := 26, body := Tryz.f32.body.get!, res := [.tmp 4] } := FI.of_mk Tryz.func32 (show Tryz.f32.body = some Tryz.f32.body.get! by kernel_rfl) (by kernel_rfl) (show Tryz.f32.ntmps = 26 by kernel_rfl) (show Tryz.f32.results.toList = [.tmp 4] by kernel_rfl)
theorem fn32 : (E g).fns.get 32 = some { nt := 26, body := Tryz.f32.body.get!, res := [.tmp 4] } := by rw [E_fns]; exact fn_in fi32 rfl
theorem fi33 : FI.of Tryz.prog 33 = some { nt := 22, body := Tryz.f33.body.get!, res := [.tmp 2] } := FI.of_mk Tryz.func33 (show Tryz.f33.body = some Tryz.f33.body.get! by kernel_rfl) (by kernel_rfl) (show Tryz.f33.ntmps = 22 by kernel_rfl) (show Tryz.f33.results.toList = [.tmp 2] by kernel_rfl)
theorem fn33 : (E g).fns.get 33 = some { nt := 22, body := Tryz.f33.body.get!, res := [.tmp 2] } := by rw [E_fns]; exact fn_in fi33 rfl
theorem fi34 : FI.of Tryz.prog 34 = some { nt := 42, body := Tryz.f34.body.get!, res := [.tmp 4] } := FI.of_mk Tryz.func34 (show Tryz.f34.body = some Tryz.f34.body.get! by kernel_rfl) (by kernel_rfl) (show Tryz.f34.ntmps = 42 by kernel_rfl) (show Tryz.f34.results.toList = [.tmp 4] by kernel_rfl)
theorem fn34 : (E g).fns.get 34 = some { nt := 42, body := Tryz.f34.body.get!, res := [.tmp 4] } := by rw [E_fns]; exact fn_in fi34 rfl
theorem fi53 : FI.of Tryz.prog 53 = some { nt := 10, body := Tryz.f53.body.get!, res := [.tmp 2] } := FI.of_mk Tryz.func53 (show Tryz.f53.body = some Tryz.f53.body.get! by kernel_rfl) (by kernel_rfl) (show Tryz.f53.ntmps = 10 by kernel_rfl) (show Tryz.f53.results.toList = [.tmp 2] by kernel_rfl)
theorem fn53 : (E g).fns.get 53 = some { nt := 10, body := Tryz.f53.body.get!, res := [.tmp 2] } := by rw [E_fns]; exact fn_in fi53 rfl
theorem fi54 : FI.of Tryz.prog 54 = some { nt := 9, body := Tryz.f54.body.get!, res := [.tmp 4] } := FI.of_mk Tryz.func54 (show Tryz.f54.body = some Tryz.f54.body.get! by kernel_rfl) (by kernel_rfl) (show Tryz.f54.ntmps = 9 by kernel_rfl) (show Tryz.f54.results.toList = [.tmp 4] by kernel_rfl)
theorem fn54 : (E g).fns.get 54 = some { nt := 9, body := Tryz.f54.body.get!, res := [.tmp 4] } := by rw [E_fns]; exact fn_in fi54 rfl
theorem fi55 : FI.of Tryz.prog 55 = some { nt := 7, body := Tryz.f55.body.get!, res := [.tmp 2] } := FI.of_mk Tryz.func55 (show Tryz.f55.body = some Tryz.f55.body.get! by kernel_rfl) (by kernel_rfl) (show Tryz.f55.ntmps = 7 by kernel_rfl) (show Tryz.f55.results.toList = [.tmp 2] by kernel_rfl)
theorem fn55 : (E g).fns.get 55 = some { nt := 7, body := Tryz.f55.body.get!, res := [.tmp 2] } := by rw [E_fns]; exact fn_in fi55 rfl
theorem fi56 : FI.of Tryz.prog 56 = some { nt := 19, body := Tryz.f56.body.get!, res := [.tmp 6] } := FI.of_mk Tryz.func56 (show Tryz.f56.body = some Tryz.f56.body.get! by kernel_rfl) (by kernel_rfl) (show Tryz.f56.ntmps = 19 by kernel_rfl) (show Tryz.f56.results.toList = [.tmp 6] by kernel_rfl)
theorem fn56 : (E g).fns.get 56 = some { nt := 19, body := Tryz.f56.body.get!, res := [.tmp 6] } := by rw [E_fns]; exact fn_in fi56 rfl
theorem fi57 : FI.of Tryz.prog 57 = some { nt := 22, body := Tryz.f57.body.get!, res := [.tmp 4] } := FI.of_mk Tryz.func57 (show Tryz.f57.body = some Tryz.f57.body.get! by kernel_rfl) (by kernel_rfl) (show Tryz.f57.ntmps = 22 by kernel_rfl) (show Tryz.f57.results.toList = [.tmp 4] by kernel_rfl)
theorem fn57 : (E g).fns.get 57 = some { nt := 22, body := Tryz.f57.body.get!, res := [.tmp 4] } := by rw [E_fns]; exact fn_in fi57 rfl
theorem fi58 : FI.of Tryz.prog 58 = some { nt := 7, body := Tryz.f58.body.get!, res := [.tmp 4] } := FI.of_mk Tryz.func58 (show Tryz.f58.body = some Tryz.f58.body.get! by kernel_rfl) (by kernel_rfl) (show Tryz.f58.ntmps = 7 by kernel_rfl) (show Tryz.f58.results.toList = [.tmp 4] by kernel_rfl)
theorem fn58 : (E g).fns.get 58 = some { nt := 7, body := Tryz.f58.body.get!, res := [.tmp 4] } := by rw [E_fns]; exact fn_in fi58 rfl
theorem fi74 : FI.of Tryz.prog 74 = some { nt := 19, body := Tryz.f74.body.get!, res := [.tmp 4] } := FI.of_mk Tryz.func74 (show Tryz.f74.body = some Tryz.f74.body.get! by kernel_rfl) (by kernel_rfl) (show Tryz.f74.ntmps = 19 by kernel_rfl) (show Tryz.f74.results.toList = [.tmp 4] by kernel_rfl)
theorem fn74 : (E g).fns.get 74 = some { nt := 19, body := Tryz.f74.body.get!, res := [.tmp 4] } := by rw [E_fns]; exact fn_in fi74 rfl
end Go.Proofs.ZP
