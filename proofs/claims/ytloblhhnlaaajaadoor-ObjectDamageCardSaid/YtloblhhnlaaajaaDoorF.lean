/- What walks of this seat know of its types and functions. -/
import Derived.Test.YtloblhhnlaaajaaDoorB6
import Derived.Test.YtloblhhnlaaajaaDoorProg
import Derived.KernelRfl
set_option linter.unusedVariables false
set_option linter.unusedSimpArgs false
set_option linter.defProp false
namespace Go.Proofs.OP
open Go Go.Ev
open Go.Proofs

def es : List Nat := [35, 41, 43, 95, 97, 199]
/-- The functions that are walked. -/
def fl : List Nat := List.range 9 ++ List.range' 10 162
@[irreducible] noncomputable def E (g : T (List V)) : Env := envOf2 Tryd.prog (List.range 275) fl [] [9] es g
variable {g : T (List V)}
theorem E_tys : (E g).tys = tysOf Tryd.prog (List.range 275) := by unfold E envOf2; dsimp only
theorem E_fns : (E g).fns = fnsOf Tryd.prog fl := by unfold E envOf2; dsimp only
theorem E_9 : (E g).fns.get 9 = none := by rw [E_fns]; exact fn_out (by kernel_rfl)
/-- The guard, in a walk. -/
theorem awake_ok {h : H} {Q : V → H → Prop} (k : Q (.bool true) { t := .lf, next := h.next }) : WF (E g) 9 [] h Q :=
  WF.done E_9 (by unfold E envOf2; rfl) (by unfold E envOf2; exact T.get_lf 9) (by unfold E envOf2; rfl) k
theorem tb2 : TI.of Tryd.prog 2 = some { desc := .int .i64, size := 1, bytes := 8, zero := [.int .i64 0], zv := .int .i64 0, cmp := true } := by kernel_rfl
theorem ty2 : (E g).tys.get 2 = some { desc := .int .i64, size := 1, bytes := 8, zero := [.int .i64 0], zv := .int .i64 0, cmp := true } := by rw [E_tys]; exact ty_at tb2 rfl
theorem tb3 : TI.of Tryd.prog 3 = some { desc := .int .i64, size := 1, bytes := 8, zero := [.int .i64 0], zv := .int .i64 0, cmp := true } := by kernel_rfl
theorem ty3 : (E g).tys.get 3 = some { desc := .int .i64, size := 1, bytes := 8, zero := [.int .i64 0], zv := .int .i64 0, cmp := true } := by rw [E_tys]; exact ty_at tb3 rfl
theorem tb4 : TI.of Tryd.prog 4 = some { desc := .bool, size := 1, bytes := 1, zero := [.bool false], zv := .bool false, cmp := true } := by kernel_rfl
theorem ty4 : (E g).tys.get 4 = some { desc := .bool, size := 1, bytes := 1, zero := [.bool false], zv := .bool false, cmp := true } := by rw [E_tys]; exact ty_at tb4 rfl
theorem tb5 : TI.of Tryd.prog 5 = some { desc := .int .u8, size := 1, bytes := 1, zero := [.int .u8 0], zv := .int .u8 0, cmp := true } := by kernel_rfl
theorem ty5 : (E g).tys.get 5 = some { desc := .int .u8, size := 1, bytes := 1, zero := [.int .u8 0], zv := .int .u8 0, cmp := true } := by rw [E_tys]; exact ty_at tb5 rfl
theorem tb9 : TI.of Tryd.prog 9 = some { desc := .string, size := 1, bytes := 16, zero := [.str []], zv := .str [], cmp := true } := by kernel_rfl
theorem ty9 : (E g).tys.get 9 = some { desc := .string, size := 1, bytes := 16, zero := [.str []], zv := .str [], cmp := true } := by rw [E_tys]; exact ty_at tb9 rfl
theorem tb23 : TI.of Tryd.prog 23 = some { desc := .int .u16, size := 1, bytes := 2, zero := [.int .u16 0], zv := .int .u16 0, cmp := true } := by kernel_rfl
theorem ty23 : (E g).tys.get 23 = some { desc := .int .u16, size := 1, bytes := 2, zero := [.int .u16 0], zv := .int .u16 0, cmp := true } := by rw [E_tys]; exact ty_at tb23 rfl
theorem tb27 : TI.of Tryd.prog 27 = some { desc := .slice 5, size := 1, bytes := 24, zero := [.nils], zv := .nils, cmp := false } := by kernel_rfl
theorem ty27 : (E g).tys.get 27 = some { desc := .slice 5, size := 1, bytes := 24, zero := [.nils], zv := .nils, cmp := false } := by rw [E_tys]; exact ty_at tb27 rfl
theorem tb30 : TI.of Tryd.prog 30 = some { desc := .slice 9, size := 1, bytes := 24, zero := [.nils], zv := .nils, cmp := false } := by kernel_rfl
theorem ty30 : (E g).tys.get 30 = some { desc := .slice 9, size := 1, bytes := 24, zero := [.nils], zv := .nils, cmp := false } := by rw [E_tys]; exact ty_at tb30 rfl
theorem tb33 : TI.of Tryd.prog 33 = some { desc := .int .i64, size := 1, bytes := 8, zero := [.int .i64 0], zv := .int .i64 0, cmp := true } := by kernel_rfl
theorem ty33 : (E g).tys.get 33 = some { desc := .int .i64, size := 1, bytes := 8, zero := [.int .i64 0], zv := .int .i64 0, cmp := true } := by rw [E_tys]; exact ty_at tb33 rfl
theorem tb67 : TI.of Tryd.prog 67 = some { desc := .slice 132, size := 1, bytes := 24, zero := [.nils], zv := .nils, cmp := false } := by kernel_rfl
theorem ty67 : (E g).tys.get 67 = some { desc := .slice 132, size := 1, bytes := 24, zero := [.nils], zv := .nils, cmp := false } := by rw [E_tys]; exact ty_at tb67 rfl
theorem tb68 : TI.of Tryd.prog 68 = some { desc := .slice 127, size := 1, bytes := 24, zero := [.nils], zv := .nils, cmp := false } := by kernel_rfl
theorem ty68 : (E g).tys.get 68 = some { desc := .slice 127, size := 1, bytes := 24, zero := [.nils], zv := .nils, cmp := false } := by rw [E_tys]; exact ty_at tb68 rfl
theorem tb70 : TI.of Tryd.prog 70 = some { desc := .struct #[⟨ "Name", 9, 0, false, "", "", 0⟩, ⟨ "Code", 27, 1, false, "", "", 16⟩, ⟨ "Data", 27, 2, false, "", "", 40⟩, ⟨ "Symbols", 67, 3, false, "", "", 64⟩, ⟨ "Relocs", 68, 4, false, "", "", 88⟩, ⟨ "Needs", 30, 5, false, "", "", 112⟩, ⟨ "Entry", 9, 6, false, "", "", 136⟩], size := 7, bytes := 152, zero := [.str [], .nils, .nils, .nils, .nils, .nils, .str []], zv := .agg [.str [], .nils, .nils, .nils, .nils, .nils, .str []], cmp := false } := by kernel_rfl
theorem ty70 : (E g).tys.get 70 = some { desc := .struct #[⟨ "Name", 9, 0, false, "", "", 0⟩, ⟨ "Code", 27, 1, false, "", "", 16⟩, ⟨ "Data", 27, 2, false, "", "", 40⟩, ⟨ "Symbols", 67, 3, false, "", "", 64⟩, ⟨ "Relocs", 68, 4, false, "", "", 88⟩, ⟨ "Needs", 30, 5, false, "", "", 112⟩, ⟨ "Entry", 9, 6, false, "", "", 136⟩], size := 7, bytes := 152, zero := [.str [], .nils, .nils, .nils, .nils, .nils, .str []], zv := .agg [.str [], .nils, .nils, .nils, .nils, .nils, .str []], cmp := false } := by rw [E_tys]; exact ty_at tb70 rfl
theorem fa70_0 {b o : Nat} : fieldAddrV (E g) 70 (.ptr b o) 0 = some (.ptr b (o + 0)) := fieldAddr_of (fd := ⟨ "Name", 9, 0, false, "", "", 0⟩) ty70 rfl rfl ty9 (by decide)
theorem fg70_0 {b o : Nat} : fieldAddrV (E g) 70 (.gp b o) 0 = some (.gp b (o + 0)) := fieldAddr_gp (fd := ⟨ "Name", 9, 0, false, "", "", 0⟩) ty70 rfl rfl ty9 (by decide)
theorem fa70_1 {b o : Nat} : fieldAddrV (E g) 70 (.ptr b o) 1 = some (.ptr b (o + 1)) := fieldAddr_of (fd := ⟨ "Code", 27, 1, false, "", "", 16⟩) ty70 rfl rfl ty27 (by decide)
theorem fg70_1 {b o : Nat} : fieldAddrV (E g) 70 (.gp b o) 1 = some (.gp b (o + 1)) := fieldAddr_gp (fd := ⟨ "Code", 27, 1, false, "", "", 16⟩) ty70 rfl rfl ty27 (by decide)
theorem fa70_2 {b o : Nat} : fieldAddrV (E g) 70 (.ptr b o) 2 = some (.ptr b (o + 2)) := fieldAddr_of (fd := ⟨ "Data", 27, 2, false, "", "", 40⟩) ty70 rfl rfl ty27 (by decide)
theorem fg70_2 {b o : Nat} : fieldAddrV (E g) 70 (.gp b o) 2 = some (.gp b (o + 2)) := fieldAddr_gp (fd := ⟨ "Data", 27, 2, false, "", "", 40⟩) ty70 rfl rfl ty27 (by decide)
theorem fa70_3 {b o : Nat} : fieldAddrV (E g) 70 (.ptr b o) 3 = some (.ptr b (o + 3)) := fieldAddr_of (fd := ⟨ "Symbols", 67, 3, false, "", "", 64⟩) ty70 rfl rfl ty67 (by decide)
theorem fg70_3 {b o : Nat} : fieldAddrV (E g) 70 (.gp b o) 3 = some (.gp b (o + 3)) := fieldAddr_gp (fd := ⟨ "Symbols", 67, 3, false, "", "", 64⟩) ty70 rfl rfl ty67 (by decide)
theorem fa70_4 {b o : Nat} : fieldAddrV (E g) 70 (.ptr b o) 4 = some (.ptr b (o + 4)) := fieldAddr_of (fd := ⟨ "Relocs", 68, 4, false, "", "", 88⟩) ty70 rfl rfl ty68 (by decide)
theorem fg70_4 {b o : Nat} : fieldAddrV (E g) 70 (.gp b o) 4 = some (.gp b (o + 4)) := fieldAddr_gp (fd := ⟨ "Relocs", 68, 4, false, "", "", 88⟩) ty70 rfl rfl ty68 (by decide)
theorem fa70_5 {b o : Nat} : fieldAddrV (E g) 70 (.ptr b o) 5 = some (.ptr b (o + 5)) := fieldAddr_of (fd := ⟨ "Needs", 30, 5, false, "", "", 112⟩) ty70 rfl rfl ty30 (by decide)
theorem fg70_5 {b o : Nat} : fieldAddrV (E g) 70 (.gp b o) 5 = some (.gp b (o + 5)) := fieldAddr_gp (fd := ⟨ "Needs", 30, 5, false, "", "", 112⟩) ty70 rfl rfl ty30 (by decide)
theorem fa70_6 {b o : Nat} : fieldAddrV (E g) 70 (.ptr b o) 6 = some (.ptr b (o + 6)) := fieldAddr_of (fd := ⟨ "Entry", 9, 6, false, "", "", 136⟩) ty70 rfl rfl ty9 (by decide)
theorem fg70_6 {b o : Nat} : fieldAddrV (E g) 70 (.gp b o) 6 = some (.gp b (o + 6)) := fieldAddr_gp (fd := ⟨ "Entry", 9, 6, false, "", "", 136⟩) ty70 rfl rfl ty9 (by decide)
theorem tb74 : TI.of Tryd.prog 74 = some { desc := .slice 95, size := 1, bytes := 24, zero := [.nils], zv := .nils, cmp := false } := by kernel_rfl
theorem ty74 : (E g).tys.get 74 = some { desc := .slice 95, size := 1, bytes := 24, zero := [.nils], zv := .nils, cmp := false } := by rw [E_tys]; exact ty_at tb74 rfl
theorem tb75 : TI.of Tryd.prog 75 = some { desc := .slice 97, size := 1, bytes := 24, zero := [.nils], zv := .nils, cmp := false } := by kernel_rfl
theorem ty75 : (E g).tys.get 75 = some { desc := .slice 97, size := 1, bytes := 24, zero := [.nils], zv := .nils, cmp := false } := by rw [E_tys]; exact ty_at tb75 rfl
theorem tb77 : TI.of Tryd.prog 77 = some { desc := .struct #[⟨ "Name", 9, 0, false, "", "", 0⟩, ⟨ "Code", 27, 1, false, "", "", 16⟩, ⟨ "Data", 27, 2, false, "", "", 40⟩, ⟨ "Symbols", 74, 3, false, "", "", 64⟩, ⟨ "Relocs", 75, 4, false, "", "", 88⟩, ⟨ "Needs", 30, 5, false, "", "", 112⟩, ⟨ "Entry", 9, 6, false, "", "", 136⟩], size := 7, bytes := 152, zero := [.str [], .nils, .nils, .nils, .nils, .nils, .str []], zv := .agg [.str [], .nils, .nils, .nils, .nils, .nils, .str []], cmp := false } := by kernel_rfl
theorem ty77 : (E g).tys.get 77 = some { desc := .struct #[⟨ "Name", 9, 0, false, "", "", 0⟩, ⟨ "Code", 27, 1, false, "", "", 16⟩, ⟨ "Data", 27, 2, false, "", "", 40⟩, ⟨ "Symbols", 74, 3, false, "", "", 64⟩, ⟨ "Relocs", 75, 4, false, "", "", 88⟩, ⟨ "Needs", 30, 5, false, "", "", 112⟩, ⟨ "Entry", 9, 6, false, "", "", 136⟩], size := 7, bytes := 152, zero := [.str [], .nils, .nils, .nils, .nils, .nils, .str []], zv := .agg [.str [], .nils, .nils, .nils, .nils, .nils, .str []], cmp := false } := by rw [E_tys]; exact ty_at tb77 rfl
theorem fa77_0 {b o : Nat} : fieldAddrV (E g) 77 (.ptr b o) 0 = some (.ptr b (o + 0)) := fieldAddr_of (fd := ⟨ "Name", 9, 0, false, "", "", 0⟩) ty77 rfl rfl ty9 (by decide)
theorem fg77_0 {b o : Nat} : fieldAddrV (E g) 77 (.gp b o) 0 = some (.gp b (o + 0)) := fieldAddr_gp (fd := ⟨ "Name", 9, 0, false, "", "", 0⟩) ty77 rfl rfl ty9 (by decide)
theorem fa77_1 {b o : Nat} : fieldAddrV (E g) 77 (.ptr b o) 1 = some (.ptr b (o + 1)) := fieldAddr_of (fd := ⟨ "Code", 27, 1, false, "", "", 16⟩) ty77 rfl rfl ty27 (by decide)
theorem fg77_1 {b o : Nat} : fieldAddrV (E g) 77 (.gp b o) 1 = some (.gp b (o + 1)) := fieldAddr_gp (fd := ⟨ "Code", 27, 1, false, "", "", 16⟩) ty77 rfl rfl ty27 (by decide)
theorem fa77_2 {b o : Nat} : fieldAddrV (E g) 77 (.ptr b o) 2 = some (.ptr b (o + 2)) := fieldAddr_of (fd := ⟨ "Data", 27, 2, false, "", "", 40⟩) ty77 rfl rfl ty27 (by decide)
theorem fg77_2 {b o : Nat} : fieldAddrV (E g) 77 (.gp b o) 2 = some (.gp b (o + 2)) := fieldAddr_gp (fd := ⟨ "Data", 27, 2, false, "", "", 40⟩) ty77 rfl rfl ty27 (by decide)
theorem fa77_3 {b o : Nat} : fieldAddrV (E g) 77 (.ptr b o) 3 = some (.ptr b (o + 3)) := fieldAddr_of (fd := ⟨ "Symbols", 74, 3, false, "", "", 64⟩) ty77 rfl rfl ty74 (by decide)
theorem fg77_3 {b o : Nat} : fieldAddrV (E g) 77 (.gp b o) 3 = some (.gp b (o + 3)) := fieldAddr_gp (fd := ⟨ "Symbols", 74, 3, false, "", "", 64⟩) ty77 rfl rfl ty74 (by decide)
theorem fa77_4 {b o : Nat} : fieldAddrV (E g) 77 (.ptr b o) 4 = some (.ptr b (o + 4)) := fieldAddr_of (fd := ⟨ "Relocs", 75, 4, false, "", "", 88⟩) ty77 rfl rfl ty75 (by decide)
theorem fg77_4 {b o : Nat} : fieldAddrV (E g) 77 (.gp b o) 4 = some (.gp b (o + 4)) := fieldAddr_gp (fd := ⟨ "Relocs", 75, 4, false, "", "", 88⟩) ty77 rfl rfl ty75 (by decide)
theorem fa77_5 {b o : Nat} : fieldAddrV (E g) 77 (.ptr b o) 5 = some (.ptr b (o + 5)) := fieldAddr_of (fd := ⟨ "Needs", 30, 5, false, "", "", 112⟩) ty77 rfl rfl ty30 (by decide)
theorem fg77_5 {b o : Nat} : fieldAddrV (E g) 77 (.gp b o) 5 = some (.gp b (o + 5)) := fieldAddr_gp (fd := ⟨ "Needs", 30, 5, false, "", "", 112⟩) ty77 rfl rfl ty30 (by decide)
theorem fa77_6 {b o : Nat} : fieldAddrV (E g) 77 (.ptr b o) 6 = some (.ptr b (o + 6)) := fieldAddr_of (fd := ⟨ "Entry", 9, 6, false, "", "", 136⟩) ty77 rfl rfl ty9 (by decide)
theorem fg77_6 {b o : Nat} : fieldAddrV (E g) 77 (.gp b o) 6 = some (.gp b (o + 6)) := fieldAddr_gp (fd := ⟨ "Entry", 9, 6, false, "", "", 136⟩) ty77 rfl rfl ty9 (by decide)
theorem tb95 : TI.of Tryd.prog 95 = some { desc := .struct #[⟨ "Name", 9, 0, false, "", "", 0⟩, ⟨ "Section", 3, 1, false, "", "", 16⟩, ⟨ "Offset", 2, 2, false, "", "", 24⟩, ⟨ "Global", 4, 3, false, "", "", 32⟩, ⟨ "Weak", 4, 4, false, "", "", 33⟩], size := 5, bytes := 40, zero := [.str [], .int .i64 0, .int .i64 0, .bool false, .bool false], zv := .agg [.str [], .int .i64 0, .int .i64 0, .bool false, .bool false], cmp := true } := by kernel_rfl
theorem ty95 : (E g).tys.get 95 = some { desc := .struct #[⟨ "Name", 9, 0, false, "", "", 0⟩, ⟨ "Section", 3, 1, false, "", "", 16⟩, ⟨ "Offset", 2, 2, false, "", "", 24⟩, ⟨ "Global", 4, 3, false, "", "", 32⟩, ⟨ "Weak", 4, 4, false, "", "", 33⟩], size := 5, bytes := 40, zero := [.str [], .int .i64 0, .int .i64 0, .bool false, .bool false], zv := .agg [.str [], .int .i64 0, .int .i64 0, .bool false, .bool false], cmp := true } := by rw [E_tys]; exact ty_at tb95 rfl
theorem fa95_0 {b o : Nat} : fieldAddrV (E g) 95 (.ptr b o) 0 = some (.ptr b (o + 0)) := fieldAddr_of (fd := ⟨ "Name", 9, 0, false, "", "", 0⟩) ty95 rfl rfl ty9 (by decide)
theorem fg95_0 {b o : Nat} : fieldAddrV (E g) 95 (.gp b o) 0 = some (.gp b (o + 0)) := fieldAddr_gp (fd := ⟨ "Name", 9, 0, false, "", "", 0⟩) ty95 rfl rfl ty9 (by decide)
theorem fa95_1 {b o : Nat} : fieldAddrV (E g) 95 (.ptr b o) 1 = some (.ptr b (o + 1)) := fieldAddr_of (fd := ⟨ "Section", 3, 1, false, "", "", 16⟩) ty95 rfl rfl ty3 (by decide)
theorem fg95_1 {b o : Nat} : fieldAddrV (E g) 95 (.gp b o) 1 = some (.gp b (o + 1)) := fieldAddr_gp (fd := ⟨ "Section", 3, 1, false, "", "", 16⟩) ty95 rfl rfl ty3 (by decide)
theorem fa95_2 {b o : Nat} : fieldAddrV (E g) 95 (.ptr b o) 2 = some (.ptr b (o + 2)) := fieldAddr_of (fd := ⟨ "Offset", 2, 2, false, "", "", 24⟩) ty95 rfl rfl ty2 (by decide)
theorem fg95_2 {b o : Nat} : fieldAddrV (E g) 95 (.gp b o) 2 = some (.gp b (o + 2)) := fieldAddr_gp (fd := ⟨ "Offset", 2, 2, false, "", "", 24⟩) ty95 rfl rfl ty2 (by decide)
theorem fa95_3 {b o : Nat} : fieldAddrV (E g) 95 (.ptr b o) 3 = some (.ptr b (o + 3)) := fieldAddr_of (fd := ⟨ "Global", 4, 3, false, "", "", 32⟩) ty95 rfl rfl ty4 (by decide)
theorem fg95_3 {b o : Nat} : fieldAddrV (E g) 95 (.gp b o) 3 = some (.gp b (o + 3)) := fieldAddr_gp (fd := ⟨ "Global", 4, 3, false, "", "", 32⟩) ty95 rfl rfl ty4 (by decide)
theorem fa95_4 {b o : Nat} : fieldAddrV (E g) 95 (.ptr b o) 4 = some (.ptr b (o + 4)) := fieldAddr_of (fd := ⟨ "Weak", 4, 4, false, "", "", 33⟩) ty95 rfl rfl ty4 (by decide)
theorem fg95_4 {b o : Nat} : fieldAddrV (E g) 95 (.gp b o) 4 = some (.gp b (o + 4)) := fieldAddr_gp (fd := ⟨ "Weak", 4, 4, false, "", "", 33⟩) ty95 rfl rfl ty4 (by decide)
theorem tb97 : TI.of Tryd.prog 97 = some { desc := .struct #[⟨ "Section", 3, 0, false, "", "", 0⟩, ⟨ "Offset", 2, 1, false, "", "", 8⟩, ⟨ "Kind", 3, 2, false, "", "", 16⟩, ⟨ "Symbol", 9, 3, false, "", "", 24⟩, ⟨ "Addend", 2, 4, false, "", "", 40⟩], size := 5, bytes := 48, zero := [.int .i64 0, .int .i64 0, .int .i64 0, .str [], .int .i64 0], zv := .agg [.int .i64 0, .int .i64 0, .int .i64 0, .str [], .int .i64 0], cmp := true } := by kernel_rfl
theorem ty97 : (E g).tys.get 97 = some { desc := .struct #[⟨ "Section", 3, 0, false, "", "", 0⟩, ⟨ "Offset", 2, 1, false, "", "", 8⟩, ⟨ "Kind", 3, 2, false, "", "", 16⟩, ⟨ "Symbol", 9, 3, false, "", "", 24⟩, ⟨ "Addend", 2, 4, false, "", "", 40⟩], size := 5, bytes := 48, zero := [.int .i64 0, .int .i64 0, .int .i64 0, .str [], .int .i64 0], zv := .agg [.int .i64 0, .int .i64 0, .int .i64 0, .str [], .int .i64 0], cmp := true } := by rw [E_tys]; exact ty_at tb97 rfl
theorem fa97_0 {b o : Nat} : fieldAddrV (E g) 97 (.ptr b o) 0 = some (.ptr b (o + 0)) := fieldAddr_of (fd := ⟨ "Section", 3, 0, false, "", "", 0⟩) ty97 rfl rfl ty3 (by decide)
theorem fg97_0 {b o : Nat} : fieldAddrV (E g) 97 (.gp b o) 0 = some (.gp b (o + 0)) := fieldAddr_gp (fd := ⟨ "Section", 3, 0, false, "", "", 0⟩) ty97 rfl rfl ty3 (by decide)
theorem fa97_1 {b o : Nat} : fieldAddrV (E g) 97 (.ptr b o) 1 = some (.ptr b (o + 1)) := fieldAddr_of (fd := ⟨ "Offset", 2, 1, false, "", "", 8⟩) ty97 rfl rfl ty2 (by decide)
theorem fg97_1 {b o : Nat} : fieldAddrV (E g) 97 (.gp b o) 1 = some (.gp b (o + 1)) := fieldAddr_gp (fd := ⟨ "Offset", 2, 1, false, "", "", 8⟩) ty97 rfl rfl ty2 (by decide)
theorem fa97_2 {b o : Nat} : fieldAddrV (E g) 97 (.ptr b o) 2 = some (.ptr b (o + 2)) := fieldAddr_of (fd := ⟨ "Kind", 3, 2, false, "", "", 16⟩) ty97 rfl rfl ty3 (by decide)
theorem fg97_2 {b o : Nat} : fieldAddrV (E g) 97 (.gp b o) 2 = some (.gp b (o + 2)) := fieldAddr_gp (fd := ⟨ "Kind", 3, 2, false, "", "", 16⟩) ty97 rfl rfl ty3 (by decide)
theorem fa97_3 {b o : Nat} : fieldAddrV (E g) 97 (.ptr b o) 3 = some (.ptr b (o + 3)) := fieldAddr_of (fd := ⟨ "Symbol", 9, 3, false, "", "", 24⟩) ty97 rfl rfl ty9 (by decide)
theorem fg97_3 {b o : Nat} : fieldAddrV (E g) 97 (.gp b o) 3 = some (.gp b (o + 3)) := fieldAddr_gp (fd := ⟨ "Symbol", 9, 3, false, "", "", 24⟩) ty97 rfl rfl ty9 (by decide)
theorem fa97_4 {b o : Nat} : fieldAddrV (E g) 97 (.ptr b o) 4 = some (.ptr b (o + 4)) := fieldAddr_of (fd := ⟨ "Addend", 2, 4, false, "", "", 40⟩) ty97 rfl rfl ty2 (by decide)
theorem fg97_4 {b o : Nat} : fieldAddrV (E g) 97 (.gp b o) 4 = some (.gp b (o + 4)) := fieldAddr_gp (fd := ⟨ "Addend", 2, 4, false, "", "", 40⟩) ty97 rfl rfl ty2 (by decide)
theorem tb127 : TI.of Tryd.prog 127 = some { desc := .struct #[⟨ "Section", 3, 0, false, "", "", 0⟩, ⟨ "Offset", 2, 1, false, "", "", 8⟩, ⟨ "Kind", 3, 2, false, "", "", 16⟩, ⟨ "Symbol", 9, 3, false, "", "", 24⟩, ⟨ "Addend", 2, 4, false, "", "", 40⟩], size := 5, bytes := 48, zero := [.int .i64 0, .int .i64 0, .int .i64 0, .str [], .int .i64 0], zv := .agg [.int .i64 0, .int .i64 0, .int .i64 0, .str [], .int .i64 0], cmp := true } := by kernel_rfl
theorem ty127 : (E g).tys.get 127 = some { desc := .struct #[⟨ "Section", 3, 0, false, "", "", 0⟩, ⟨ "Offset", 2, 1, false, "", "", 8⟩, ⟨ "Kind", 3, 2, false, "", "", 16⟩, ⟨ "Symbol", 9, 3, false, "", "", 24⟩, ⟨ "Addend", 2, 4, false, "", "", 40⟩], size := 5, bytes := 48, zero := [.int .i64 0, .int .i64 0, .int .i64 0, .str [], .int .i64 0], zv := .agg [.int .i64 0, .int .i64 0, .int .i64 0, .str [], .int .i64 0], cmp := true } := by rw [E_tys]; exact ty_at tb127 rfl
theorem fa127_0 {b o : Nat} : fieldAddrV (E g) 127 (.ptr b o) 0 = some (.ptr b (o + 0)) := fieldAddr_of (fd := ⟨ "Section", 3, 0, false, "", "", 0⟩) ty127 rfl rfl ty3 (by decide)
theorem fg127_0 {b o : Nat} : fieldAddrV (E g) 127 (.gp b o) 0 = some (.gp b (o + 0)) := fieldAddr_gp (fd := ⟨ "Section", 3, 0, false, "", "", 0⟩) ty127 rfl rfl ty3 (by decide)
theorem fa127_1 {b o : Nat} : fieldAddrV (E g) 127 (.ptr b o) 1 = some (.ptr b (o + 1)) := fieldAddr_of (fd := ⟨ "Offset", 2, 1, false, "", "", 8⟩) ty127 rfl rfl ty2 (by decide)
theorem fg127_1 {b o : Nat} : fieldAddrV (E g) 127 (.gp b o) 1 = some (.gp b (o + 1)) := fieldAddr_gp (fd := ⟨ "Offset", 2, 1, false, "", "", 8⟩) ty127 rfl rfl ty2 (by decide)
theorem fa127_2 {b o : Nat} : fieldAddrV (E g) 127 (.ptr b o) 2 = some (.ptr b (o + 2)) := fieldAddr_of (fd := ⟨ "Kind", 3, 2, false, "", "", 16⟩) ty127 rfl rfl ty3 (by decide)
theorem fg127_2 {b o : Nat} : fieldAddrV (E g) 127 (.gp b o) 2 = some (.gp b (o + 2)) := fieldAddr_gp (fd := ⟨ "Kind", 3, 2, false, "", "", 16⟩) ty127 rfl rfl ty3 (by decide)
theorem fa127_3 {b o : Nat} : fieldAddrV (E g) 127 (.ptr b o) 3 = some (.ptr b (o + 3)) := fieldAddr_of (fd := ⟨ "Symbol", 9, 3, false, "", "", 24⟩) ty127 rfl rfl ty9 (by decide)
theorem fg127_3 {b o : Nat} : fieldAddrV (E g) 127 (.gp b o) 3 = some (.gp b (o + 3)) := fieldAddr_gp (fd := ⟨ "Symbol", 9, 3, false, "", "", 24⟩) ty127 rfl rfl ty9 (by decide)
theorem fa127_4 {b o : Nat} : fieldAddrV (E g) 127 (.ptr b o) 4 = some (.ptr b (o + 4)) := fieldAddr_of (fd := ⟨ "Addend", 2, 4, false, "", "", 40⟩) ty127 rfl rfl ty2 (by decide)
theorem fg127_4 {b o : Nat} : fieldAddrV (E g) 127 (.gp b o) 4 = some (.gp b (o + 4)) := fieldAddr_gp (fd := ⟨ "Addend", 2, 4, false, "", "", 40⟩) ty127 rfl rfl ty2 (by decide)
theorem tb132 : TI.of Tryd.prog 132 = some { desc := .struct #[⟨ "Name", 9, 0, false, "", "", 0⟩, ⟨ "Section", 3, 1, false, "", "", 16⟩, ⟨ "Offset", 2, 2, false, "", "", 24⟩, ⟨ "Global", 4, 3, false, "", "", 32⟩, ⟨ "Weak", 4, 4, false, "", "", 33⟩], size := 5, bytes := 40, zero := [.str [], .int .i64 0, .int .i64 0, .bool false, .bool false], zv := .agg [.str [], .int .i64 0, .int .i64 0, .bool false, .bool false], cmp := true } := by kernel_rfl
theorem ty132 : (E g).tys.get 132 = some { desc := .struct #[⟨ "Name", 9, 0, false, "", "", 0⟩, ⟨ "Section", 3, 1, false, "", "", 16⟩, ⟨ "Offset", 2, 2, false, "", "", 24⟩, ⟨ "Global", 4, 3, false, "", "", 32⟩, ⟨ "Weak", 4, 4, false, "", "", 33⟩], size := 5, bytes := 40, zero := [.str [], .int .i64 0, .int .i64 0, .bool false, .bool false], zv := .agg [.str [], .int .i64 0, .int .i64 0, .bool false, .bool false], cmp := true } := by rw [E_tys]; exact ty_at tb132 rfl
theorem fa132_0 {b o : Nat} : fieldAddrV (E g) 132 (.ptr b o) 0 = some (.ptr b (o + 0)) := fieldAddr_of (fd := ⟨ "Name", 9, 0, false, "", "", 0⟩) ty132 rfl rfl ty9 (by decide)
theorem fg132_0 {b o : Nat} : fieldAddrV (E g) 132 (.gp b o) 0 = some (.gp b (o + 0)) := fieldAddr_gp (fd := ⟨ "Name", 9, 0, false, "", "", 0⟩) ty132 rfl rfl ty9 (by decide)
theorem fa132_1 {b o : Nat} : fieldAddrV (E g) 132 (.ptr b o) 1 = some (.ptr b (o + 1)) := fieldAddr_of (fd := ⟨ "Section", 3, 1, false, "", "", 16⟩) ty132 rfl rfl ty3 (by decide)
theorem fg132_1 {b o : Nat} : fieldAddrV (E g) 132 (.gp b o) 1 = some (.gp b (o + 1)) := fieldAddr_gp (fd := ⟨ "Section", 3, 1, false, "", "", 16⟩) ty132 rfl rfl ty3 (by decide)
theorem fa132_2 {b o : Nat} : fieldAddrV (E g) 132 (.ptr b o) 2 = some (.ptr b (o + 2)) := fieldAddr_of (fd := ⟨ "Offset", 2, 2, false, "", "", 24⟩) ty132 rfl rfl ty2 (by decide)
theorem fg132_2 {b o : Nat} : fieldAddrV (E g) 132 (.gp b o) 2 = some (.gp b (o + 2)) := fieldAddr_gp (fd := ⟨ "Offset", 2, 2, false, "", "", 24⟩) ty132 rfl rfl ty2 (by decide)
theorem fa132_3 {b o : Nat} : fieldAddrV (E g) 132 (.ptr b o) 3 = some (.ptr b (o + 3)) := fieldAddr_of (fd := ⟨ "Global", 4, 3, false, "", "", 32⟩) ty132 rfl rfl ty4 (by decide)
theorem fg132_3 {b o : Nat} : fieldAddrV (E g) 132 (.gp b o) 3 = some (.gp b (o + 3)) := fieldAddr_gp (fd := ⟨ "Global", 4, 3, false, "", "", 32⟩) ty132 rfl rfl ty4 (by decide)
theorem fa132_4 {b o : Nat} : fieldAddrV (E g) 132 (.ptr b o) 4 = some (.ptr b (o + 4)) := fieldAddr_of (fd := ⟨ "Weak", 4, 4, false, "", "", 33⟩) ty132 rfl rfl ty4 (by decide)
theorem fg132_4 {b o : Nat} : fieldAddrV (E g) 132 (.gp b o) 4 = some (.gp b (o + 4)) := fieldAddr_gp (fd := ⟨ "Weak", 4, 4, false, "", "", 33⟩) ty132 rfl rfl ty4 (by decide)
theorem tb138 : TI.of Tryd.prog 138 = some { desc := .pointer 202, size := 1, bytes := 8, zero := [.nilp], zv := .nilp, cmp := true } := by kernel_rfl
theorem ty138 : (E g).tys.get 138 = some { desc := .pointer 202, size := 1, bytes := 8, zero := [.nilp], zv := .nilp, cmp := true } := by rw [E_tys]; exact ty_at tb138 rfl
theorem tb153 : TI.of Tryd.prog 153 = some { desc := .pointer 159, size := 1, bytes := 8, zero := [.nilp], zv := .nilp, cmp := true } := by kernel_rfl
theorem ty153 : (E g).tys.get 153 = some { desc := .pointer 159, size := 1, bytes := 8, zero := [.nilp], zv := .nilp, cmp := true } := by rw [E_tys]; exact ty_at tb153 rfl
theorem tb159 : TI.of Tryd.prog 159 = some { desc := .struct #[⟨ "b", 27, 0, false, "", "orpiment/object", 0⟩, ⟨ "bad", 4, 1, false, "", "orpiment/object", 24⟩], size := 2, bytes := 32, zero := [.nils, .bool false], zv := .agg [.nils, .bool false], cmp := false } := by kernel_rfl
theorem ty159 : (E g).tys.get 159 = some { desc := .struct #[⟨ "b", 27, 0, false, "", "orpiment/object", 0⟩, ⟨ "bad", 4, 1, false, "", "orpiment/object", 24⟩], size := 2, bytes := 32, zero := [.nils, .bool false], zv := .agg [.nils, .bool false], cmp := false } := by rw [E_tys]; exact ty_at tb159 rfl
theorem fa159_0 {b o : Nat} : fieldAddrV (E g) 159 (.ptr b o) 0 = some (.ptr b (o + 0)) := fieldAddr_of (fd := ⟨ "b", 27, 0, false, "", "orpiment/object", 0⟩) ty159 rfl rfl ty27 (by decide)
theorem fg159_0 {b o : Nat} : fieldAddrV (E g) 159 (.gp b o) 0 = some (.gp b (o + 0)) := fieldAddr_gp (fd := ⟨ "b", 27, 0, false, "", "orpiment/object", 0⟩) ty159 rfl rfl ty27 (by decide)
theorem fa159_1 {b o : Nat} : fieldAddrV (E g) 159 (.ptr b o) 1 = some (.ptr b (o + 1)) := fieldAddr_of (fd := ⟨ "bad", 4, 1, false, "", "orpiment/object", 24⟩) ty159 rfl rfl ty4 (by decide)
theorem fg159_1 {b o : Nat} : fieldAddrV (E g) 159 (.gp b o) 1 = some (.gp b (o + 1)) := fieldAddr_gp (fd := ⟨ "bad", 4, 1, false, "", "orpiment/object", 24⟩) ty159 rfl rfl ty4 (by decide)
theorem tb168 : TI.of Tryd.prog 168 = some { desc := .map 9 3, size := 1, bytes := 8, zero := [.nilm], zv := .nilm, cmp := false } := by kernel_rfl
theorem ty168 : (E g).tys.get 168 = some { desc := .map 9 3, size := 1, bytes := 8, zero := [.nilm], zv := .nilm, cmp := false } := by rw [E_tys]; exact ty_at tb168 rfl
theorem tb188 : TI.of Tryd.prog 188 = some { desc := .struct #[], size := 0, bytes := 0, zero := [], zv := .agg [], cmp := true } := by kernel_rfl
theorem ty188 : (E g).tys.get 188 = some { desc := .struct #[], size := 0, bytes := 0, zero := [], zv := .agg [], cmp := true } := by rw [E_tys]; exact ty_at tb188 rfl
theorem tb191 : TI.of Tryd.prog 191 = some { desc := .int .u32, size := 1, bytes := 4, zero := [.int .u32 0], zv := .int .u32 0, cmp := true } := by kernel_rfl
theorem ty191 : (E g).tys.get 191 = some { desc := .int .u32, size := 1, bytes := 4, zero := [.int .u32 0], zv := .int .u32 0, cmp := true } := by rw [E_tys]; exact ty_at tb191 rfl
theorem tb194 : TI.of Tryd.prog 194 = some { desc := .int .u64, size := 1, bytes := 8, zero := [.int .u64 0], zv := .int .u64 0, cmp := true } := by kernel_rfl
theorem ty194 : (E g).tys.get 194 = some { desc := .int .u64, size := 1, bytes := 8, zero := [.int .u64 0], zv := .int .u64 0, cmp := true } := by rw [E_tys]; exact ty_at tb194 rfl
theorem tb195 : TI.of Tryd.prog 195 = some { desc := .slice 4, size := 1, bytes := 24, zero := [.nils], zv := .nils, cmp := false } := by kernel_rfl
theorem ty195 : (E g).tys.get 195 = some { desc := .slice 4, size := 1, bytes := 24, zero := [.nils], zv := .nils, cmp := false } := by rw [E_tys]; exact ty_at tb195 rfl
theorem tb198 : TI.of Tryd.prog 198 = some { desc := .array 4 5, size := 4, bytes := 4, zero := [.int .u8 0, .int .u8 0, .int .u8 0, .int .u8 0], zv := .agg [.int .u8 0, .int .u8 0, .int .u8 0, .int .u8 0], cmp := true } := by kernel_rfl
theorem ty198 : (E g).tys.get 198 = some { desc := .array 4 5, size := 4, bytes := 4, zero := [.int .u8 0, .int .u8 0, .int .u8 0, .int .u8 0], zv := .agg [.int .u8 0, .int .u8 0, .int .u8 0, .int .u8 0], cmp := true } := by rw [E_tys]; exact ty_at tb198 rfl
theorem tb199 : TI.of Tryd.prog 199 = some { desc := .array 4 5, size := 4, bytes := 4, zero := [.int .u8 0, .int .u8 0, .int .u8 0, .int .u8 0], zv := .agg [.int .u8 0, .int .u8 0, .int .u8 0, .int .u8 0], cmp := true } := by kernel_rfl
theorem ty199 : (E g).tys.get 199 = some { desc := .array 4 5, size := 4, bytes := 4, zero := [.int .u8 0, .int .u8 0, .int .u8 0, .int .u8 0], zv := .agg [.int .u8 0, .int .u8 0, .int .u8 0, .int .u8 0], cmp := true } := by rw [E_tys]; exact ty_at tb199 rfl
theorem tb200 : TI.of Tryd.prog 200 = some { desc := .array 2 199, size := 8, bytes := 8, zero := [.int .u8 0, .int .u8 0, .int .u8 0, .int .u8 0, .int .u8 0, .int .u8 0, .int .u8 0, .int .u8 0], zv := .agg [.int .u8 0, .int .u8 0, .int .u8 0, .int .u8 0, .int .u8 0, .int .u8 0, .int .u8 0, .int .u8 0], cmp := true } := by kernel_rfl
theorem ty200 : (E g).tys.get 200 = some { desc := .array 2 199, size := 8, bytes := 8, zero := [.int .u8 0, .int .u8 0, .int .u8 0, .int .u8 0, .int .u8 0, .int .u8 0, .int .u8 0, .int .u8 0], zv := .agg [.int .u8 0, .int .u8 0, .int .u8 0, .int .u8 0, .int .u8 0, .int .u8 0, .int .u8 0, .int .u8 0], cmp := true } := by rw [E_tys]; exact ty_at tb200 rfl
theorem tb202 : TI.of Tryd.prog 202 = some { desc := .struct #[⟨ "b", 27, 0, false, "", "orpiment/object", 0⟩], size := 1, bytes := 24, zero := [.nils], zv := .agg [.nils], cmp := false } := by kernel_rfl
theorem ty202 : (E g).tys.get 202 = some { desc := .struct #[⟨ "b", 27, 0, false, "", "orpiment/object", 0⟩], size := 1, bytes := 24, zero := [.nils], zv := .agg [.nils], cmp := false } := by rw [E_tys]; exact ty_at tb202 rfl
theorem fa202_0 {b o : Nat} : fieldAddrV (E g) 202 (.ptr b o) 0 = some (.ptr b (o + 0)) := fieldAddr_of (fd := ⟨ "b", 27, 0, false, "", "orpiment/object", 0⟩) ty202 rfl rfl ty27 (by decide)
theorem fg202_0 {b o : Nat} : fieldAddrV (E g) 202 (.gp b o) 0 = some (.gp b (o + 0)) := fieldAddr_gp (fd := ⟨ "b", 27, 0, false, "", "orpiment/object", 0⟩) ty202 rfl rfl ty27 (by decide)
theorem tb203 : TI.of Tryd.prog 203 = some { desc := .slice 2, size := 1, bytes := 24, zero := [.nils], zv := .nils, cmp := false } := by kernel_rfl
theorem ty203 : (E g).tys.get 203 = some { desc := .slice 2, size := 1, bytes := 24, zero := [.nils], zv := .nils, cmp := false } := by rw [E_tys]; exact ty_at tb203 rfl
theorem tb205 : TI.of Tryd.prog 205 = some { desc := .slice 27, size := 1, bytes := 24, zero := [.nils], zv := .nils, cmp := false } := by kernel_rfl
theorem ty205 : (E g).tys.get 205 = some { desc := .slice 27, size := 1, bytes := 24, zero := [.nils], zv := .nils, cmp := false } := by rw [E_tys]; exact ty_at tb205 rfl
theorem tb220 : TI.of Tryd.prog 220 = some { desc := .pointer 77, size := 1, bytes := 8, zero := [.nilp], zv := .nilp, cmp := true } := by kernel_rfl
theorem ty220 : (E g).tys.get 220 = some { desc := .pointer 77, size := 1, bytes := 8, zero := [.nilp], zv := .nilp, cmp := true } := by rw [E_tys]; exact ty_at tb220 rfl
theorem tb221 : TI.of Tryd.prog 221 = some { desc := .array 2 3, size := 2, bytes := 16, zero := [.int .i64 0, .int .i64 0], zv := .agg [.int .i64 0, .int .i64 0], cmp := true } := by kernel_rfl
theorem ty221 : (E g).tys.get 221 = some { desc := .array 2 3, size := 2, bytes := 16, zero := [.int .i64 0, .int .i64 0], zv := .agg [.int .i64 0, .int .i64 0], cmp := true } := by rw [E_tys]; exact ty_at tb221 rfl
theorem tb222 : TI.of Tryd.prog 222 = some { desc := .slice 221, size := 1, bytes := 24, zero := [.nils], zv := .nils, cmp := false } := by kernel_rfl
theorem ty222 : (E g).tys.get 222 = some { desc := .slice 221, size := 1, bytes := 24, zero := [.nils], zv := .nils, cmp := false } := by rw [E_tys]; exact ty_at tb222 rfl
theorem tb224 : TI.of Tryd.prog 224 = some { desc := .func #[97] #[4] false, size := 1, bytes := 8, zero := [.nilf], zv := .nilf, cmp := false } := by kernel_rfl
theorem ty224 : (E g).tys.get 224 = some { desc := .func #[97] #[4] false, size := 1, bytes := 8, zero := [.nilf], zv := .nilf, cmp := false } := by rw [E_tys]; exact ty_at tb224 rfl
theorem tb240 : TI.of Tryd.prog 240 = some { desc := .int .u64, size := 1, bytes := 8, zero := [.int .u64 0], zv := .int .u64 0, cmp := true } := by kernel_rfl
theorem ty240 : (E g).tys.get 240 = some { desc := .int .u64, size := 1, bytes := 8, zero := [.int .u64 0], zv := .int .u64 0, cmp := true } := by rw [E_tys]; exact ty_at tb240 rfl
theorem fi3 : FI.of Tryd.prog 3 = some { nt := 214, body := Tryd.f3.body.get!, res := [.tmp 4] } := FI.of_mk Tryd.func3 (show Tryd.f3.body = some Tryd.f3.body.get! by kernel_rfl) (by kernel_rfl) (show Tryd.f3.ntmps = 214 by kernel_rfl) (show Tryd.f3.results.toList = [.tmp 4] by kernel_rfl)
theorem fn3 : (E g).fns.get 3 = some { nt := 214, body := Tryd.f3.body.get!, res := [.tmp 4] } := by rw [E_fns]; exact fn_in fi3 rfl
theorem fi4 : FI.of Tryd.prog 4 = some { nt := 72, body := Tryd.f4.body.get!, res := [.tmp 4] } := FI.of_mk Tryd.func4 (show Tryd.f4.body = some Tryd.f4.body.get! by kernel_rfl) (by kernel_rfl) (show Tryd.f4.ntmps = 72 by kernel_rfl) (show Tryd.f4.results.toList = [.tmp 4] by kernel_rfl)
theorem fn4 : (E g).fns.get 4 = some { nt := 72, body := Tryd.f4.body.get!, res := [.tmp 4] } := by rw [E_fns]; exact fn_in fi4 rfl
theorem fi5 : FI.of Tryd.prog 5 = some { nt := 66, body := Tryd.f5.body.get!, res := [.tmp 4] } := FI.of_mk Tryd.func5 (show Tryd.f5.body = some Tryd.f5.body.get! by kernel_rfl) (by kernel_rfl) (show Tryd.f5.ntmps = 66 by kernel_rfl) (show Tryd.f5.results.toList = [.tmp 4] by kernel_rfl)
theorem fn5 : (E g).fns.get 5 = some { nt := 66, body := Tryd.f5.body.get!, res := [.tmp 4] } := by rw [E_fns]; exact fn_in fi5 rfl
theorem fi6 : FI.of Tryd.prog 6 = some { nt := 70, body := Tryd.f6.body.get!, res := [.tmp 6] } := FI.of_mk Tryd.func6 (show Tryd.f6.body = some Tryd.f6.body.get! by kernel_rfl) (by kernel_rfl) (show Tryd.f6.ntmps = 70 by kernel_rfl) (show Tryd.f6.results.toList = [.tmp 6] by kernel_rfl)
theorem fn6 : (E g).fns.get 6 = some { nt := 70, body := Tryd.f6.body.get!, res := [.tmp 6] } := by rw [E_fns]; exact fn_in fi6 rfl
theorem fi7 : FI.of Tryd.prog 7 = some { nt := 120, body := Tryd.f7.body.get!, res := [.tmp 4] } := FI.of_mk Tryd.func7 (show Tryd.f7.body = some Tryd.f7.body.get! by kernel_rfl) (by kernel_rfl) (show Tryd.f7.ntmps = 120 by kernel_rfl) (show Tryd.f7.results.toList = [.tmp 4] by kernel_rfl)
theorem fn7 : (E g).fns.get 7 = some { nt := 120, body := Tryd.f7.body.get!, res := [.tmp 4] } := by rw [E_fns]; exact fn_in fi7 rfl
theorem fi22 : FI.of Tryd.prog 22 = some { nt := 84, body := Tryd.f22.body.get!, res := [.tmp 2] } := FI.of_mk Tryd.func22 (show Tryd.f22.body = some Tryd.f22.body.get! by kernel_rfl) (by kernel_rfl) (show Tryd.f22.ntmps = 84 by kernel_rfl) (show Tryd.f22.results.toList = [.tmp 2] by kernel_rfl)
theorem fn22 : (E g).fns.get 22 = some { nt := 84, body := Tryd.f22.body.get!, res := [.tmp 2] } := by rw [E_fns]; exact fn_in fi22 rfl
theorem fi23 : FI.of Tryd.prog 23 = some { nt := 291, body := Tryd.f23.body.get!, res := [.tmp 2] } := FI.of_mk Tryd.func23 (show Tryd.f23.body = some Tryd.f23.body.get! by kernel_rfl) (by kernel_rfl) (show Tryd.f23.ntmps = 291 by kernel_rfl) (show Tryd.f23.results.toList = [.tmp 2] by kernel_rfl)
theorem fn23 : (E g).fns.get 23 = some { nt := 291, body := Tryd.f23.body.get!, res := [.tmp 2] } := by rw [E_fns]; exact fn_in fi23 rfl
theorem fi24 : FI.of Tryd.prog 24 = some { nt := 110, body := Tryd.f24.body.get!, res := [.tmp 2, .tmp 3] } := FI.of_mk Tryd.func24 (show Tryd.f24.body = some Tryd.f24.body.get! by kernel_rfl) (by kernel_rfl) (show Tryd.f24.ntmps = 110 by kernel_rfl) (show Tryd.f24.results.toList = [.tmp 2, .tmp 3] by kernel_rfl)
theorem fn24 : (E g).fns.get 24 = some { nt := 110, body := Tryd.f24.body.get!, res := [.tmp 2, .tmp 3] } := by rw [E_fns]; exact fn_in fi24 rfl
theorem fi25 : FI.of Tryd.prog 25 = some { nt := 54, body := Tryd.f25.body.get!, res := [.cell 2 77] } := FI.of_mk Tryd.func25 (show Tryd.f25.body = some Tryd.f25.body.get! by kernel_rfl) (by kernel_rfl) (show Tryd.f25.ntmps = 54 by kernel_rfl) (show Tryd.f25.results.toList = [.cell 2 77] by kernel_rfl)
theorem fn25 : (E g).fns.get 25 = some { nt := 54, body := Tryd.f25.body.get!, res := [.cell 2 77] } := by rw [E_fns]; exact fn_in fi25 rfl
theorem fi26 : FI.of Tryd.prog 26 = some { nt := 57, body := Tryd.f26.body.get!, res := [.cell 2 77, .tmp 3] } := FI.of_mk Tryd.func26 (show Tryd.f26.body = some Tryd.f26.body.get! by kernel_rfl) (by kernel_rfl) (show Tryd.f26.ntmps = 57 by kernel_rfl) (show Tryd.f26.results.toList = [.cell 2 77, .tmp 3] by kernel_rfl)
theorem fn26 : (E g).fns.get 26 = some { nt := 57, body := Tryd.f26.body.get!, res := [.cell 2 77, .tmp 3] } := by rw [E_fns]; exact fn_in fi26 rfl
theorem fi27 : FI.of Tryd.prog 27 = some { nt := 97, body := Tryd.f27.body.get!, res := [.tmp 4] } := FI.of_mk Tryd.func27 (show Tryd.f27.body = some Tryd.f27.body.get! by kernel_rfl) (by kernel_rfl) (show Tryd.f27.ntmps = 97 by kernel_rfl) (show Tryd.f27.results.toList = [.tmp 4] by kernel_rfl)
theorem fn27 : (E g).fns.get 27 = some { nt := 97, body := Tryd.f27.body.get!, res := [.tmp 4] } := by rw [E_fns]; exact fn_in fi27 rfl
theorem fi31 : FI.of Tryd.prog 31 = some { nt := 123, body := Tryd.f31.body.get!, res := [.tmp 2] } := FI.of_mk Tryd.func31 (show Tryd.f31.body = some Tryd.f31.body.get! by kernel_rfl) (by kernel_rfl) (show Tryd.f31.ntmps = 123 by kernel_rfl) (show Tryd.f31.results.toList = [.tmp 2] by kernel_rfl)
theorem fn31 : (E g).fns.get 31 = some { nt := 123, body := Tryd.f31.body.get!, res := [.tmp 2] } := by rw [E_fns]; exact fn_in fi31 rfl
theorem fi44 : FI.of Tryd.prog 44 = some { nt := 8, body := Tryd.f44.body.get!, res := [.tmp 2] } := FI.of_mk Tryd.func44 (show Tryd.f44.body = some Tryd.f44.body.get! by kernel_rfl) (by kernel_rfl) (show Tryd.f44.ntmps = 8 by kernel_rfl) (show Tryd.f44.results.toList = [.tmp 2] by kernel_rfl)
theorem fn44 : (E g).fns.get 44 = some { nt := 8, body := Tryd.f44.body.get!, res := [.tmp 2] } := by rw [E_fns]; exact fn_in fi44 rfl
theorem fi48 : FI.of Tryd.prog 48 = some { nt := 24, body := Tryd.f48.body.get!, res := [.tmp 6] } := FI.of_mk Tryd.func48 (show Tryd.f48.body = some Tryd.f48.body.get! by kernel_rfl) (by kernel_rfl) (show Tryd.f48.ntmps = 24 by kernel_rfl) (show Tryd.f48.results.toList = [.tmp 6] by kernel_rfl)
theorem fn48 : (E g).fns.get 48 = some { nt := 24, body := Tryd.f48.body.get!, res := [.tmp 6] } := by rw [E_fns]; exact fn_in fi48 rfl
theorem fi51 : FI.of Tryd.prog 51 = some { nt := 26, body := Tryd.f51.body.get!, res := [.tmp 4] } := FI.of_mk Tryd.func51 (show Tryd.f51.body = some Tryd.f51.body.get! by kernel_rfl) (by kernel_rfl) (show Tryd.f51.ntmps = 26 by kernel_rfl) (show Tryd.f51.results.toList = [.tmp 4] by kernel_rfl)
theorem fn51 : (E g).fns.get 51 = some { nt := 26, body := Tryd.f51.body.get!, res := [.tmp 4] } := by rw [E_fns]; exact fn_in fi51 rfl
theorem fi53 : FI.of Tryd.prog 53 = some { nt := 9, body := Tryd.f53.body.get!, res := [.tmp 2] } := FI.of_mk Tryd.func53 (show Tryd.f53.body = some Tryd.f53.body.get! by kernel_rfl) (by kernel_rfl) (show Tryd.f53.ntmps = 9 by kernel_rfl) (show Tryd.f53.results.toList = [.tmp 2] by kernel_rfl)
theorem fn53 : (E g).fns.get 53 = some { nt := 9, body := Tryd.f53.body.get!, res := [.tmp 2] } := by rw [E_fns]; exact fn_in fi53 rfl
theorem fi54 : FI.of Tryd.prog 54 = some { nt := 24, body := Tryd.f54.body.get!, res := [] } := FI.of_mk Tryd.func54 (show Tryd.f54.body = some Tryd.f54.body.get! by kernel_rfl) (by kernel_rfl) (show Tryd.f54.ntmps = 24 by kernel_rfl) (show Tryd.f54.results.toList = [] by kernel_rfl)
theorem fn54 : (E g).fns.get 54 = some { nt := 24, body := Tryd.f54.body.get!, res := [] } := by rw [E_fns]; exact fn_in fi54 rfl
theorem fi55 : FI.of Tryd.prog 55 = some { nt := 27, body := Tryd.f55.body.get!, res := [] } := FI.of_mk Tryd.func55 (show Tryd.f55.body = some Tryd.f55.body.get! by kernel_rfl) (by kernel_rfl) (show Tryd.f55.ntmps = 27 by kernel_rfl) (show Tryd.f55.results.toList = [] by kernel_rfl)
theorem fn55 : (E g).fns.get 55 = some { nt := 27, body := Tryd.f55.body.get!, res := [] } := by rw [E_fns]; exact fn_in fi55 rfl
theorem fi56 : FI.of Tryd.prog 56 = some { nt := 18, body := Tryd.f56.body.get!, res := [] } := FI.of_mk Tryd.func56 (show Tryd.f56.body = some Tryd.f56.body.get! by kernel_rfl) (by kernel_rfl) (show Tryd.f56.ntmps = 18 by kernel_rfl) (show Tryd.f56.results.toList = [] by kernel_rfl)
theorem fn56 : (E g).fns.get 56 = some { nt := 18, body := Tryd.f56.body.get!, res := [] } := by rw [E_fns]; exact fn_in fi56 rfl
theorem fi57 : FI.of Tryd.prog 57 = some { nt := 14, body := Tryd.f57.body.get!, res := [.tmp 2] } := FI.of_mk Tryd.func57 (show Tryd.f57.body = some Tryd.f57.body.get! by kernel_rfl) (by kernel_rfl) (show Tryd.f57.ntmps = 14 by kernel_rfl) (show Tryd.f57.results.toList = [.tmp 2] by kernel_rfl)
theorem fn57 : (E g).fns.get 57 = some { nt := 14, body := Tryd.f57.body.get!, res := [.tmp 2] } := by rw [E_fns]; exact fn_in fi57 rfl
theorem fi59 : FI.of Tryd.prog 59 = some { nt := 8, body := Tryd.f59.body.get!, res := [.tmp 4] } := FI.of_mk Tryd.func59 (show Tryd.f59.body = some Tryd.f59.body.get! by kernel_rfl) (by kernel_rfl) (show Tryd.f59.ntmps = 8 by kernel_rfl) (show Tryd.f59.results.toList = [.tmp 4] by kernel_rfl)
theorem fn59 : (E g).fns.get 59 = some { nt := 8, body := Tryd.f59.body.get!, res := [.tmp 4] } := by rw [E_fns]; exact fn_in fi59 rfl
theorem fi60 : FI.of Tryd.prog 60 = some { nt := 11, body := Tryd.f60.body.get!, res := [.tmp 4] } := FI.of_mk Tryd.func60 (show Tryd.f60.body = some Tryd.f60.body.get! by kernel_rfl) (by kernel_rfl) (show Tryd.f60.ntmps = 11 by kernel_rfl) (show Tryd.f60.results.toList = [.tmp 4] by kernel_rfl)
theorem fn60 : (E g).fns.get 60 = some { nt := 11, body := Tryd.f60.body.get!, res := [.tmp 4] } := by rw [E_fns]; exact fn_in fi60 rfl
theorem fi61 : FI.of Tryd.prog 61 = some { nt := 19, body := Tryd.f61.body.get!, res := [.tmp 2] } := FI.of_mk Tryd.func61 (show Tryd.f61.body = some Tryd.f61.body.get! by kernel_rfl) (by kernel_rfl) (show Tryd.f61.ntmps = 19 by kernel_rfl) (show Tryd.f61.results.toList = [.tmp 2] by kernel_rfl)
theorem fn61 : (E g).fns.get 61 = some { nt := 19, body := Tryd.f61.body.get!, res := [.tmp 2] } := by rw [E_fns]; exact fn_in fi61 rfl
theorem fi62 : FI.of Tryd.prog 62 = some { nt := 8, body := Tryd.f62.body.get!, res := [.tmp 2] } := FI.of_mk Tryd.func62 (show Tryd.f62.body = some Tryd.f62.body.get! by kernel_rfl) (by kernel_rfl) (show Tryd.f62.ntmps = 8 by kernel_rfl) (show Tryd.f62.results.toList = [.tmp 2] by kernel_rfl)
theorem fn62 : (E g).fns.get 62 = some { nt := 8, body := Tryd.f62.body.get!, res := [.tmp 2] } := by rw [E_fns]; exact fn_in fi62 rfl
theorem fi63 : FI.of Tryd.prog 63 = some { nt := 11, body := Tryd.f63.body.get!, res := [.tmp 4] } := FI.of_mk Tryd.func63 (show Tryd.f63.body = some Tryd.f63.body.get! by kernel_rfl) (by kernel_rfl) (show Tryd.f63.ntmps = 11 by kernel_rfl) (show Tryd.f63.results.toList = [.tmp 4] by kernel_rfl)
theorem fn63 : (E g).fns.get 63 = some { nt := 11, body := Tryd.f63.body.get!, res := [.tmp 4] } := by rw [E_fns]; exact fn_in fi63 rfl
theorem fi64 : FI.of Tryd.prog 64 = some { nt := 22, body := Tryd.f64.body.get!, res := [.cell 4 132, .tmp 5] } := FI.of_mk Tryd.func64 (show Tryd.f64.body = some Tryd.f64.body.get! by kernel_rfl) (by kernel_rfl) (show Tryd.f64.ntmps = 22 by kernel_rfl) (show Tryd.f64.results.toList = [.cell 4 132, .tmp 5] by kernel_rfl)
theorem fn64 : (E g).fns.get 64 = some { nt := 22, body := Tryd.f64.body.get!, res := [.cell 4 132, .tmp 5] } := by rw [E_fns]; exact fn_in fi64 rfl
theorem fi65 : FI.of Tryd.prog 65 = some { nt := 20, body := Tryd.f65.body.get!, res := [.tmp 2] } := FI.of_mk Tryd.func65 (show Tryd.f65.body = some Tryd.f65.body.get! by kernel_rfl) (by kernel_rfl) (show Tryd.f65.ntmps = 20 by kernel_rfl) (show Tryd.f65.results.toList = [.tmp 2] by kernel_rfl)
theorem fn65 : (E g).fns.get 65 = some { nt := 20, body := Tryd.f65.body.get!, res := [.tmp 2] } := by rw [E_fns]; exact fn_in fi65 rfl
theorem fi66 : FI.of Tryd.prog 66 = some { nt := 37, body := Tryd.f66.body.get!, res := [.tmp 4, .tmp 5] } := FI.of_mk Tryd.func66 (show Tryd.f66.body = some Tryd.f66.body.get! by kernel_rfl) (by kernel_rfl) (show Tryd.f66.ntmps = 37 by kernel_rfl) (show Tryd.f66.results.toList = [.tmp 4, .tmp 5] by kernel_rfl)
theorem fn66 : (E g).fns.get 66 = some { nt := 37, body := Tryd.f66.body.get!, res := [.tmp 4, .tmp 5] } := by rw [E_fns]; exact fn_in fi66 rfl
theorem fi67 : FI.of Tryd.prog 67 = some { nt := 6, body := Tryd.f67.body.get!, res := [.tmp 2] } := FI.of_mk Tryd.func67 (show Tryd.f67.body = some Tryd.f67.body.get! by kernel_rfl) (by kernel_rfl) (show Tryd.f67.ntmps = 6 by kernel_rfl) (show Tryd.f67.results.toList = [.tmp 2] by kernel_rfl)
theorem fn67 : (E g).fns.get 67 = some { nt := 6, body := Tryd.f67.body.get!, res := [.tmp 2] } := by rw [E_fns]; exact fn_in fi67 rfl
theorem fi68 : FI.of Tryd.prog 68 = some { nt := 38, body := Tryd.f68.body.get!, res := [.tmp 2] } := FI.of_mk Tryd.func68 (show Tryd.f68.body = some Tryd.f68.body.get! by kernel_rfl) (by kernel_rfl) (show Tryd.f68.ntmps = 38 by kernel_rfl) (show Tryd.f68.results.toList = [.tmp 2] by kernel_rfl)
theorem fn68 : (E g).fns.get 68 = some { nt := 38, body := Tryd.f68.body.get!, res := [.tmp 2] } := by rw [E_fns]; exact fn_in fi68 rfl
theorem fi69 : FI.of Tryd.prog 69 = some { nt := 20, body := Tryd.f69.body.get!, res := [] } := FI.of_mk Tryd.func69 (show Tryd.f69.body = some Tryd.f69.body.get! by kernel_rfl) (by kernel_rfl) (show Tryd.f69.ntmps = 20 by kernel_rfl) (show Tryd.f69.results.toList = [] by kernel_rfl)
theorem fn69 : (E g).fns.get 69 = some { nt := 20, body := Tryd.f69.body.get!, res := [] } := by rw [E_fns]; exact fn_in fi69 rfl
theorem fi70 : FI.of Tryd.prog 70 = some { nt := 27, body := Tryd.f70.body.get!, res := [] } := FI.of_mk Tryd.func70 (show Tryd.f70.body = some Tryd.f70.body.get! by kernel_rfl) (by kernel_rfl) (show Tryd.f70.ntmps = 27 by kernel_rfl) (show Tryd.f70.results.toList = [] by kernel_rfl)
theorem fn70 : (E g).fns.get 70 = some { nt := 27, body := Tryd.f70.body.get!, res := [] } := by rw [E_fns]; exact fn_in fi70 rfl
theorem fi71 : FI.of Tryd.prog 71 = some { nt := 29, body := Tryd.f71.body.get!, res := [.tmp 2] } := FI.of_mk Tryd.func71 (show Tryd.f71.body = some Tryd.f71.body.get! by kernel_rfl) (by kernel_rfl) (show Tryd.f71.ntmps = 29 by kernel_rfl) (show Tryd.f71.results.toList = [.tmp 2] by kernel_rfl)
theorem fn71 : (E g).fns.get 71 = some { nt := 29, body := Tryd.f71.body.get!, res := [.tmp 2] } := by rw [E_fns]; exact fn_in fi71 rfl
theorem fi72 : FI.of Tryd.prog 72 = some { nt := 18, body := Tryd.f72.body.get!, res := [] } := FI.of_mk Tryd.func72 (show Tryd.f72.body = some Tryd.f72.body.get! by kernel_rfl) (by kernel_rfl) (show Tryd.f72.ntmps = 18 by kernel_rfl) (show Tryd.f72.results.toList = [] by kernel_rfl)
theorem fn72 : (E g).fns.get 72 = some { nt := 18, body := Tryd.f72.body.get!, res := [] } := by rw [E_fns]; exact fn_in fi72 rfl
theorem fi73 : FI.of Tryd.prog 73 = some { nt := 9, body := Tryd.f73.body.get!, res := [] } := FI.of_mk Tryd.func73 (show Tryd.f73.body = some Tryd.f73.body.get! by kernel_rfl) (by kernel_rfl) (show Tryd.f73.ntmps = 9 by kernel_rfl) (show Tryd.f73.results.toList = [] by kernel_rfl)
theorem fn73 : (E g).fns.get 73 = some { nt := 9, body := Tryd.f73.body.get!, res := [] } := by rw [E_fns]; exact fn_in fi73 rfl
theorem fi74 : FI.of Tryd.prog 74 = some { nt := 26, body := Tryd.f74.body.get!, res := [.tmp 4] } := FI.of_mk Tryd.func74 (show Tryd.f74.body = some Tryd.f74.body.get! by kernel_rfl) (by kernel_rfl) (show Tryd.f74.ntmps = 26 by kernel_rfl) (show Tryd.f74.results.toList = [.tmp 4] by kernel_rfl)
theorem fn74 : (E g).fns.get 74 = some { nt := 26, body := Tryd.f74.body.get!, res := [.tmp 4] } := by rw [E_fns]; exact fn_in fi74 rfl
theorem fi79 : FI.of Tryd.prog 79 = some { nt := 47, body := Tryd.f79.body.get!, res := [.tmp 2] } := FI.of_mk Tryd.func79 (show Tryd.f79.body = some Tryd.f79.body.get! by kernel_rfl) (by kernel_rfl) (show Tryd.f79.ntmps = 47 by kernel_rfl) (show Tryd.f79.results.toList = [.tmp 2] by kernel_rfl)
theorem fn79 : (E g).fns.get 79 = some { nt := 47, body := Tryd.f79.body.get!, res := [.tmp 2] } := by rw [E_fns]; exact fn_in fi79 rfl
theorem fi80 : FI.of Tryd.prog 80 = some { nt := 16, body := Tryd.f80.body.get!, res := [.tmp 4] } := FI.of_mk Tryd.func80 (show Tryd.f80.body = some Tryd.f80.body.get! by kernel_rfl) (by kernel_rfl) (show Tryd.f80.ntmps = 16 by kernel_rfl) (show Tryd.f80.results.toList = [.tmp 4] by kernel_rfl)
theorem fn80 : (E g).fns.get 80 = some { nt := 16, body := Tryd.f80.body.get!, res := [.tmp 4] } := by rw [E_fns]; exact fn_in fi80 rfl
theorem fi81 : FI.of Tryd.prog 81 = some { nt := 61, body := Tryd.f81.body.get!, res := [.tmp 6] } := FI.of_mk Tryd.func81 (show Tryd.f81.body = some Tryd.f81.body.get! by kernel_rfl) (by kernel_rfl) (show Tryd.f81.ntmps = 61 by kernel_rfl) (show Tryd.f81.results.toList = [.tmp 6] by kernel_rfl)
theorem fn81 : (E g).fns.get 81 = some { nt := 61, body := Tryd.f81.body.get!, res := [.tmp 6] } := by rw [E_fns]; exact fn_in fi81 rfl
theorem fi82 : FI.of Tryd.prog 82 = some { nt := 79, body := Tryd.f82.body.get!, res := [.tmp 6] } := FI.of_mk Tryd.func82 (show Tryd.f82.body = some Tryd.f82.body.get! by kernel_rfl) (by kernel_rfl) (show Tryd.f82.ntmps = 79 by kernel_rfl) (show Tryd.f82.results.toList = [.tmp 6] by kernel_rfl)
theorem fn82 : (E g).fns.get 82 = some { nt := 79, body := Tryd.f82.body.get!, res := [.tmp 6] } := by rw [E_fns]; exact fn_in fi82 rfl
theorem fi83 : FI.of Tryd.prog 83 = some { nt := 9, body := Tryd.f83.body.get!, res := [.tmp 4] } := FI.of_mk Tryd.func83 (show Tryd.f83.body = some Tryd.f83.body.get! by kernel_rfl) (by kernel_rfl) (show Tryd.f83.ntmps = 9 by kernel_rfl) (show Tryd.f83.results.toList = [.tmp 4] by kernel_rfl)
theorem fn83 : (E g).fns.get 83 = some { nt := 9, body := Tryd.f83.body.get!, res := [.tmp 4] } := by rw [E_fns]; exact fn_in fi83 rfl
theorem fi86 : FI.of Tryd.prog 86 = some { nt := 20, body := Tryd.f86.body.get!, res := [.tmp 4] } := FI.of_mk Tryd.func86 (show Tryd.f86.body = some Tryd.f86.body.get! by kernel_rfl) (by kernel_rfl) (show Tryd.f86.ntmps = 20 by kernel_rfl) (show Tryd.f86.results.toList = [.tmp 4] by kernel_rfl)
theorem fn86 : (E g).fns.get 86 = some { nt := 20, body := Tryd.f86.body.get!, res := [.tmp 4] } := by rw [E_fns]; exact fn_in fi86 rfl
theorem fi90 : FI.of Tryd.prog 90 = some { nt := 3, body := Tryd.f90.body.get!, res := [.cell 0 188] } := FI.of_mk Tryd.func90 (show Tryd.f90.body = some Tryd.f90.body.get! by kernel_rfl) (by kernel_rfl) (show Tryd.f90.ntmps = 3 by kernel_rfl) (show Tryd.f90.results.toList = [.cell 0 188] by kernel_rfl)
theorem fn90 : (E g).fns.get 90 = some { nt := 3, body := Tryd.f90.body.get!, res := [.cell 0 188] } := by rw [E_fns]; exact fn_in fi90 rfl
theorem fi96 : FI.of Tryd.prog 96 = some { nt := 10, body := Tryd.f96.body.get!, res := [.tmp 6] } := FI.of_mk Tryd.func96 (show Tryd.f96.body = some Tryd.f96.body.get! by kernel_rfl) (by kernel_rfl) (show Tryd.f96.ntmps = 10 by kernel_rfl) (show Tryd.f96.results.toList = [.tmp 6] by kernel_rfl)
theorem fn96 : (E g).fns.get 96 = some { nt := 10, body := Tryd.f96.body.get!, res := [.tmp 6] } := by rw [E_fns]; exact fn_in fi96 rfl
theorem fi97 : FI.of Tryd.prog 97 = some { nt := 11, body := Tryd.f97.body.get!, res := [.tmp 6] } := FI.of_mk Tryd.func97 (show Tryd.f97.body = some Tryd.f97.body.get! by kernel_rfl) (by kernel_rfl) (show Tryd.f97.ntmps = 11 by kernel_rfl) (show Tryd.f97.results.toList = [.tmp 6] by kernel_rfl)
theorem fn97 : (E g).fns.get 97 = some { nt := 11, body := Tryd.f97.body.get!, res := [.tmp 6] } := by rw [E_fns]; exact fn_in fi97 rfl
theorem fi98 : FI.of Tryd.prog 98 = some { nt := 18, body := Tryd.f98.body.get!, res := [.tmp 2] } := FI.of_mk Tryd.func98 (show Tryd.f98.body = some Tryd.f98.body.get! by kernel_rfl) (by kernel_rfl) (show Tryd.f98.ntmps = 18 by kernel_rfl) (show Tryd.f98.results.toList = [.tmp 2] by kernel_rfl)
theorem fn98 : (E g).fns.get 98 = some { nt := 18, body := Tryd.f98.body.get!, res := [.tmp 2] } := by rw [E_fns]; exact fn_in fi98 rfl
theorem fi99 : FI.of Tryd.prog 99 = some { nt := 8, body := Tryd.f99.body.get!, res := [.tmp 4] } := FI.of_mk Tryd.func99 (show Tryd.f99.body = some Tryd.f99.body.get! by kernel_rfl) (by kernel_rfl) (show Tryd.f99.ntmps = 8 by kernel_rfl) (show Tryd.f99.results.toList = [.tmp 4] by kernel_rfl)
theorem fn99 : (E g).fns.get 99 = some { nt := 8, body := Tryd.f99.body.get!, res := [.tmp 4] } := by rw [E_fns]; exact fn_in fi99 rfl
theorem fi100 : FI.of Tryd.prog 100 = some { nt := 7, body := Tryd.f100.body.get!, res := [.tmp 4] } := FI.of_mk Tryd.func100 (show Tryd.f100.body = some Tryd.f100.body.get! by kernel_rfl) (by kernel_rfl) (show Tryd.f100.ntmps = 7 by kernel_rfl) (show Tryd.f100.results.toList = [.tmp 4] by kernel_rfl)
theorem fn100 : (E g).fns.get 100 = some { nt := 7, body := Tryd.f100.body.get!, res := [.tmp 4] } := by rw [E_fns]; exact fn_in fi100 rfl
theorem fi103 : FI.of Tryd.prog 103 = some { nt := 19, body := Tryd.f103.body.get!, res := [.tmp 4] } := FI.of_mk Tryd.func103 (show Tryd.f103.body = some Tryd.f103.body.get! by kernel_rfl) (by kernel_rfl) (show Tryd.f103.ntmps = 19 by kernel_rfl) (show Tryd.f103.results.toList = [.tmp 4] by kernel_rfl)
theorem fn103 : (E g).fns.get 103 = some { nt := 19, body := Tryd.f103.body.get!, res := [.tmp 4] } := by rw [E_fns]; exact fn_in fi103 rfl
theorem fi109 : FI.of Tryd.prog 109 = some { nt := 9, body := Tryd.f109.body.get!, res := [.tmp 4] } := FI.of_mk Tryd.func109 (show Tryd.f109.body = some Tryd.f109.body.get! by kernel_rfl) (by kernel_rfl) (show Tryd.f109.ntmps = 9 by kernel_rfl) (show Tryd.f109.results.toList = [.tmp 4] by kernel_rfl)
theorem fn109 : (E g).fns.get 109 = some { nt := 9, body := Tryd.f109.body.get!, res := [.tmp 4] } := by rw [E_fns]; exact fn_in fi109 rfl
theorem fi110 : FI.of Tryd.prog 110 = some { nt := 25, body := Tryd.f110.body.get!, res := [.tmp 3] } := FI.of_mk Tryd.func110 (show Tryd.f110.body = some Tryd.f110.body.get! by kernel_rfl) (by kernel_rfl) (show Tryd.f110.ntmps = 25 by kernel_rfl) (show Tryd.f110.results.toList = [.tmp 3] by kernel_rfl)
theorem fn110 : (E g).fns.get 110 = some { nt := 25, body := Tryd.f110.body.get!, res := [.tmp 3] } := by rw [E_fns]; exact fn_in fi110 rfl
theorem fi114 : FI.of Tryd.prog 114 = some { nt := 19, body := Tryd.f114.body.get!, res := [] } := FI.of_mk Tryd.func114 (show Tryd.f114.body = some Tryd.f114.body.get! by kernel_rfl) (by kernel_rfl) (show Tryd.f114.ntmps = 19 by kernel_rfl) (show Tryd.f114.results.toList = [] by kernel_rfl)
theorem fn114 : (E g).fns.get 114 = some { nt := 19, body := Tryd.f114.body.get!, res := [] } := by rw [E_fns]; exact fn_in fi114 rfl
theorem fi118 : FI.of Tryd.prog 118 = some { nt := 19, body := Tryd.f118.body.get!, res := [.tmp 6] } := FI.of_mk Tryd.func118 (show Tryd.f118.body = some Tryd.f118.body.get! by kernel_rfl) (by kernel_rfl) (show Tryd.f118.ntmps = 19 by kernel_rfl) (show Tryd.f118.results.toList = [.tmp 6] by kernel_rfl)
theorem fn118 : (E g).fns.get 118 = some { nt := 19, body := Tryd.f118.body.get!, res := [.tmp 6] } := by rw [E_fns]; exact fn_in fi118 rfl
theorem fi119 : FI.of Tryd.prog 119 = some { nt := 22, body := Tryd.f119.body.get!, res := [.tmp 4] } := FI.of_mk Tryd.func119 (show Tryd.f119.body = some Tryd.f119.body.get! by kernel_rfl) (by kernel_rfl) (show Tryd.f119.ntmps = 22 by kernel_rfl) (show Tryd.f119.results.toList = [.tmp 4] by kernel_rfl)
theorem fn119 : (E g).fns.get 119 = some { nt := 22, body := Tryd.f119.body.get!, res := [.tmp 4] } := by rw [E_fns]; exact fn_in fi119 rfl
theorem fi125 : FI.of Tryd.prog 125 = some { nt := 19, body := Tryd.f125.body.get!, res := [.tmp 4] } := FI.of_mk Tryd.func125 (show Tryd.f125.body = some Tryd.f125.body.get! by kernel_rfl) (by kernel_rfl) (show Tryd.f125.ntmps = 19 by kernel_rfl) (show Tryd.f125.results.toList = [.tmp 4] by kernel_rfl)
theorem fn125 : (E g).fns.get 125 = some { nt := 19, body := Tryd.f125.body.get!, res := [.tmp 4] } := by rw [E_fns]; exact fn_in fi125 rfl
end Go.Proofs.OP
