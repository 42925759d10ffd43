/- What walks of this seat know of the types and functions of images. -/
import Derived.Test.YtloblhhnlaaajaaGreatDoorV16
set_option linter.unusedVariables false
set_option linter.unusedSimpArgs false
set_option linter.defProp false
namespace Go.Proofs.OP
open Go Go.Ev
open Go.Proofs
variable {g : T (List V)}
theorem ty47 : (E g).tys.get 47 = some { desc := .slice 134, size := 1, bytes := 24, zero := [.nils], zv := .nils, cmp := false } := by rw [E_tys]; exact ty_at (by kernel_rfl) rfl
theorem ty48 : (E g).tys.get 48 = some { desc := .slice 136, size := 1, bytes := 24, zero := [.nils], zv := .nils, cmp := false } := by rw [E_tys]; exact ty_at (by kernel_rfl) rfl
theorem ty50 : (E g).tys.get 50 = some { desc := .struct #[⟨ "Base", 2, 0, false, "", "", 0⟩, ⟨ "Bytes", 22, 1, false, "", "", 8⟩, ⟨ "Code", 2, 2, false, "", "", 32⟩, ⟨ "Entry", 2, 3, false, "", "", 40⟩, ⟨ "Exports", 47, 4, false, "", "", 48⟩, ⟨ "Slots", 48, 5, false, "", "", 72⟩, ⟨ "Needs", 25, 6, false, "", "", 96⟩], size := 7, bytes := 120, zero := [.int .i64 0, .nils, .int .i64 0, .int .i64 0, .nils, .nils, .nils], zv := .agg [.int .i64 0, .nils, .int .i64 0, .int .i64 0, .nils, .nils, .nils], cmp := false } := by rw [E_tys]; exact ty_at (by kernel_rfl) rfl
theorem fa50_0 {b o : Nat} : fieldAddrV (E g) 50 (.ptr b o) 0 = some (.ptr b (o + 0)) := fieldAddr_of (fd := ⟨ "Base", 2, 0, false, "", "", 0⟩) ty50 rfl rfl ty2 (by decide)
theorem fa50_1 {b o : Nat} : fieldAddrV (E g) 50 (.ptr b o) 1 = some (.ptr b (o + 1)) := fieldAddr_of (fd := ⟨ "Bytes", 22, 1, false, "", "", 8⟩) ty50 rfl rfl ty22 (by decide)
theorem fa50_2 {b o : Nat} : fieldAddrV (E g) 50 (.ptr b o) 2 = some (.ptr b (o + 2)) := fieldAddr_of (fd := ⟨ "Code", 2, 2, false, "", "", 32⟩) ty50 rfl rfl ty2 (by decide)
theorem fa50_3 {b o : Nat} : fieldAddrV (E g) 50 (.ptr b o) 3 = some (.ptr b (o + 3)) := fieldAddr_of (fd := ⟨ "Entry", 2, 3, false, "", "", 40⟩) ty50 rfl rfl ty2 (by decide)
theorem fa50_4 {b o : Nat} : fieldAddrV (E g) 50 (.ptr b o) 4 = some (.ptr b (o + 4)) := fieldAddr_of (fd := ⟨ "Exports", 47, 4, false, "", "", 48⟩) ty50 rfl rfl ty47 (by decide)
theorem fa50_5 {b o : Nat} : fieldAddrV (E g) 50 (.ptr b o) 5 = some (.ptr b (o + 5)) := fieldAddr_of (fd := ⟨ "Slots", 48, 5, false, "", "", 72⟩) ty50 rfl rfl ty48 (by decide)
theorem fa50_6 {b o : Nat} : fieldAddrV (E g) 50 (.ptr b o) 6 = some (.ptr b (o + 6)) := fieldAddr_of (fd := ⟨ "Needs", 25, 6, false, "", "", 96⟩) ty50 rfl rfl ty25 (by decide)
theorem ty53 : (E g).tys.get 53 = some { desc := .slice 137, size := 1, bytes := 24, zero := [.nils], zv := .nils, cmp := false } := by rw [E_tys]; exact ty_at (by kernel_rfl) rfl
theorem ty54 : (E g).tys.get 54 = some { desc := .slice 138, size := 1, bytes := 24, zero := [.nils], zv := .nils, cmp := false } := by rw [E_tys]; exact ty_at (by kernel_rfl) rfl
theorem ty56 : (E g).tys.get 56 = some { desc := .struct #[⟨ "Base", 2, 0, false, "", "", 0⟩, ⟨ "Bytes", 22, 1, false, "", "", 8⟩, ⟨ "Code", 2, 2, false, "", "", 32⟩, ⟨ "Entry", 2, 3, false, "", "", 40⟩, ⟨ "Exports", 53, 4, false, "", "", 48⟩, ⟨ "Slots", 54, 5, false, "", "", 72⟩, ⟨ "Needs", 25, 6, false, "", "", 96⟩], size := 7, bytes := 120, zero := [.int .i64 0, .nils, .int .i64 0, .int .i64 0, .nils, .nils, .nils], zv := .agg [.int .i64 0, .nils, .int .i64 0, .int .i64 0, .nils, .nils, .nils], cmp := false } := by rw [E_tys]; exact ty_at (by kernel_rfl) rfl
theorem fa56_0 {b o : Nat} : fieldAddrV (E g) 56 (.ptr b o) 0 = some (.ptr b (o + 0)) := fieldAddr_of (fd := ⟨ "Base", 2, 0, false, "", "", 0⟩) ty56 rfl rfl ty2 (by decide)
theorem fa56_1 {b o : Nat} : fieldAddrV (E g) 56 (.ptr b o) 1 = some (.ptr b (o + 1)) := fieldAddr_of (fd := ⟨ "Bytes", 22, 1, false, "", "", 8⟩) ty56 rfl rfl ty22 (by decide)
theorem fa56_2 {b o : Nat} : fieldAddrV (E g) 56 (.ptr b o) 2 = some (.ptr b (o + 2)) := fieldAddr_of (fd := ⟨ "Code", 2, 2, false, "", "", 32⟩) ty56 rfl rfl ty2 (by decide)
theorem fa56_3 {b o : Nat} : fieldAddrV (E g) 56 (.ptr b o) 3 = some (.ptr b (o + 3)) := fieldAddr_of (fd := ⟨ "Entry", 2, 3, false, "", "", 40⟩) ty56 rfl rfl ty2 (by decide)
theorem fa56_4 {b o : Nat} : fieldAddrV (E g) 56 (.ptr b o) 4 = some (.ptr b (o + 4)) := fieldAddr_of (fd := ⟨ "Exports", 53, 4, false, "", "", 48⟩) ty56 rfl rfl ty53 (by decide)
theorem fa56_5 {b o : Nat} : fieldAddrV (E g) 56 (.ptr b o) 5 = some (.ptr b (o + 5)) := fieldAddr_of (fd := ⟨ "Slots", 54, 5, false, "", "", 72⟩) ty56 rfl rfl ty54 (by decide)
theorem fa56_6 {b o : Nat} : fieldAddrV (E g) 56 (.ptr b o) 6 = some (.ptr b (o + 6)) := fieldAddr_of (fd := ⟨ "Needs", 25, 6, false, "", "", 96⟩) ty56 rfl rfl ty25 (by decide)
theorem ty134 : (E g).tys.get 134 = some { desc := .struct #[⟨ "Name", 9, 0, false, "", "", 0⟩, ⟨ "Address", 2, 1, false, "", "", 16⟩], size := 2, bytes := 24, zero := [.str [], .int .i64 0], zv := .agg [.str [], .int .i64 0], cmp := true } := by rw [E_tys]; exact ty_at (by kernel_rfl) rfl
theorem fa134_0 {b o : Nat} : fieldAddrV (E g) 134 (.ptr b o) 0 = some (.ptr b (o + 0)) := fieldAddr_of (fd := ⟨ "Name", 9, 0, false, "", "", 0⟩) ty134 rfl rfl ty9 (by decide)
theorem fg134_0 {b o : Nat} : fieldAddrV (E g) 134 (.gp b o) 0 = some (.gp b (o + 0)) := fieldAddr_gp (fd := ⟨ "Name", 9, 0, false, "", "", 0⟩) ty134 rfl rfl ty9 (by decide)
theorem fa134_1 {b o : Nat} : fieldAddrV (E g) 134 (.ptr b o) 1 = some (.ptr b (o + 1)) := fieldAddr_of (fd := ⟨ "Address", 2, 1, false, "", "", 16⟩) ty134 rfl rfl ty2 (by decide)
theorem ty136 : (E g).tys.get 136 = some { desc := .struct #[⟨ "Name", 9, 0, false, "", "", 0⟩, ⟨ "Address", 2, 1, false, "", "", 16⟩, ⟨ "Bound", 2, 2, false, "", "", 24⟩], size := 3, bytes := 32, zero := [.str [], .int .i64 0, .int .i64 0], zv := .agg [.str [], .int .i64 0, .int .i64 0], cmp := true } := by rw [E_tys]; exact ty_at (by kernel_rfl) rfl
theorem fa136_0 {b o : Nat} : fieldAddrV (E g) 136 (.ptr b o) 0 = some (.ptr b (o + 0)) := fieldAddr_of (fd := ⟨ "Name", 9, 0, false, "", "", 0⟩) ty136 rfl rfl ty9 (by decide)
theorem fg136_0 {b o : Nat} : fieldAddrV (E g) 136 (.gp b o) 0 = some (.gp b (o + 0)) := fieldAddr_gp (fd := ⟨ "Name", 9, 0, false, "", "", 0⟩) ty136 rfl rfl ty9 (by decide)
theorem fa136_1 {b o : Nat} : fieldAddrV (E g) 136 (.ptr b o) 1 = some (.ptr b (o + 1)) := fieldAddr_of (fd := ⟨ "Address", 2, 1, false, "", "", 16⟩) ty136 rfl rfl ty2 (by decide)
theorem fg136_1 {b o : Nat} : fieldAddrV (E g) 136 (.gp b o) 1 = some (.gp b (o + 1)) := fieldAddr_gp (fd := ⟨ "Address", 2, 1, false, "", "", 16⟩) ty136 rfl rfl ty2 (by decide)
theorem fa136_2 {b o : Nat} : fieldAddrV (E g) 136 (.ptr b o) 2 = some (.ptr b (o + 2)) := fieldAddr_of (fd := ⟨ "Bound", 2, 2, false, "", "", 24⟩) ty136 rfl rfl ty2 (by decide)
theorem ty137 : (E g).tys.get 137 = some { desc := .struct #[⟨ "Name", 9, 0, false, "", "", 0⟩, ⟨ "Address", 2, 1, false, "", "", 16⟩], size := 2, bytes := 24, zero := [.str [], .int .i64 0], zv := .agg [.str [], .int .i64 0], cmp := true } := by rw [E_tys]; exact ty_at (by kernel_rfl) rfl
theorem fa137_0 {b o : Nat} : fieldAddrV (E g) 137 (.ptr b o) 0 = some (.ptr b (o + 0)) := fieldAddr_of (fd := ⟨ "Name", 9, 0, false, "", "", 0⟩) ty137 rfl rfl ty9 (by decide)
theorem fa137_1 {b o : Nat} : fieldAddrV (E g) 137 (.ptr b o) 1 = some (.ptr b (o + 1)) := fieldAddr_of (fd := ⟨ "Address", 2, 1, false, "", "", 16⟩) ty137 rfl rfl ty2 (by decide)
theorem ty138 : (E g).tys.get 138 = some { desc := .struct #[⟨ "Name", 9, 0, false, "", "", 0⟩, ⟨ "Address", 2, 1, false, "", "", 16⟩, ⟨ "Bound", 2, 2, false, "", "", 24⟩], size := 3, bytes := 32, zero := [.str [], .int .i64 0, .int .i64 0], zv := .agg [.str [], .int .i64 0, .int .i64 0], cmp := true } := by rw [E_tys]; exact ty_at (by kernel_rfl) rfl
theorem fa138_0 {b o : Nat} : fieldAddrV (E g) 138 (.ptr b o) 0 = some (.ptr b (o + 0)) := fieldAddr_of (fd := ⟨ "Name", 9, 0, false, "", "", 0⟩) ty138 rfl rfl ty9 (by decide)
theorem fa138_1 {b o : Nat} : fieldAddrV (E g) 138 (.ptr b o) 1 = some (.ptr b (o + 1)) := fieldAddr_of (fd := ⟨ "Address", 2, 1, false, "", "", 16⟩) ty138 rfl rfl ty2 (by decide)
theorem fa138_2 {b o : Nat} : fieldAddrV (E g) 138 (.ptr b o) 2 = some (.ptr b (o + 2)) := fieldAddr_of (fd := ⟨ "Bound", 2, 2, false, "", "", 24⟩) ty138 rfl rfl ty2 (by decide)
theorem ty195 : (E g).tys.get 195 = some { desc := .map 2 4, size := 1, bytes := 8, zero := [.nilm], zv := .nilm, cmp := false } := by rw [E_tys]; exact ty_at (by kernel_rfl) rfl
theorem fn16 : (E g).fns.get 16 = some { nt := 66, body := Tryz.f16.body.get!, res := [.tmp 2] } := by rw [E_fns]; exact fn_in (FI.of_mk Tryz.func16 (show Tryz.f16.body = some Tryz.f16.body.get! by kernel_rfl) (by kernel_rfl) (show Tryz.f16.ntmps = 66 by kernel_rfl) (show Tryz.f16.results.toList = [.tmp 2] by kernel_rfl)) rfl
theorem fn18 : (E g).fns.get 18 = some { nt := 52, body := Tryz.f18.body.get!, res := [.cell 2 56] } := by rw [E_fns]; exact fn_in (FI.of_mk Tryz.func18 (show Tryz.f18.body = some Tryz.f18.body.get! by kernel_rfl) (by kernel_rfl) (show Tryz.f18.ntmps = 52 by kernel_rfl) (show Tryz.f18.results.toList = [.cell 2 56] by kernel_rfl)) rfl
theorem fn70 : (E g).fns.get 70 = some { nt := 220, body := Tryz.f70.body.get!, res := [.tmp 2] } := by rw [E_fns]; exact fn_in (FI.of_mk Tryz.func70 (show Tryz.f70.body = some Tryz.f70.body.get! by kernel_rfl) (by kernel_rfl) (show Tryz.f70.ntmps = 220 by kernel_rfl) (show Tryz.f70.results.toList = [.tmp 2] by kernel_rfl)) rfl
theorem fn71 : (E g).fns.get 71 = some { nt := 231, body := Tryz.f71.body.get!, res := [.tmp 2] } := by rw [E_fns]; exact fn_in (FI.of_mk Tryz.func71 (show Tryz.f71.body = some Tryz.f71.body.get! by kernel_rfl) (by kernel_rfl) (show Tryz.f71.ntmps = 231 by kernel_rfl) (show Tryz.f71.results.toList = [.tmp 2] by kernel_rfl)) rfl
theorem fn104 : (E g).fns.get 104 = some { nt := 32, body := Tryz.f104.body.get!, res := [.tmp 2] } := by rw [E_fns]; exact fn_in (FI.of_mk Tryz.func104 (show Tryz.f104.body = some Tryz.f104.body.get! by kernel_rfl) (by kernel_rfl) (show Tryz.f104.ntmps = 32 by kernel_rfl) (show Tryz.f104.results.toList = [.tmp 2] by kernel_rfl)) rfl
end Go.Proofs.OP
