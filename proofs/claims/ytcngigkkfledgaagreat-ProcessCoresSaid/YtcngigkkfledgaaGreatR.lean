/- Plain laws of cores: what is dumped is read again; both readers read the same; a byte changed is not read. -/
import Derived.Test.YtcngigkkfledgaaGreatC12
import Derived.Test.YtcngigkkfledgaaGreatB10
set_option linter.unusedVariables false
set_option linter.unusedSimpArgs false
set_option linter.defProp false
namespace Go.Proofs.ZP
open Go Go.Ev
/-! ### numbers as bytes, there and back -/
theorem leN_leB : ∀ (k n : Nat), leN (leB n k) = n % 256 ^ k
  | 0, n => by simp [leB, leN, Nat.mod_one]
  | k + 1, n => by
    simp only [leB, leN]
    have h8 : (UInt8.ofNat n).toNat = n % 256 := by rw [UInt8.toNat_ofNat']
    rw [leN_leB k (n / 256), h8, Nat.pow_succ, Nat.mul_comm (256 ^ k) 256, Nat.mod_mul]
theorem UInt8_small {n : Nat} (h : n < 256) : (UInt8.ofNat n).toNat = n := by
  rw [UInt8.toNat_ofNat']; omega
theorem num_leB {n m : Nat} {r : List UInt8} (hm : m < 256 ^ n) : num n ⟨leB m n ++ r, false⟩ = (m, ⟨r, false⟩) := by
  have hl : (leB m n).length = n := leB_length n m
  unfold num
  have h1 : n ≤ (leB m n ++ r).length := by simp [hl]
  simp only [h1, if_true]
  rw [List.take_left' hl, List.drop_left' hl, leN_leB, Nat.mod_eq_of_lt hm]
theorem rnum_leB {n m : Nat} {r : List UInt8} (hm : m < 256 ^ n) : rnum n ⟨leB m n ++ r, false⟩ = (m, ⟨r, false⟩) := by
  have hl : (leB m n).length = n := leB_length n m
  unfold rnum rtak
  have h1 : n ≤ (leB m n ++ r).length := by simp [hl]
  simp only [h1, and_self, if_true, decide_true, Bool.not_true]
  rw [List.take_left' hl, List.drop_left' hl, leN_leB, Nat.mod_eq_of_lt hm]
theorem tak_app {n : Nat} {xs r : List UInt8} (hl : xs.length = n) : tak n ⟨xs ++ r, false⟩ = (xs, ⟨r, false⟩) := by
  unfold tak
  have h1 : n ≤ (xs ++ r).length := by simp [hl]
  simp only [h1, if_true]
  rw [List.take_left' hl, List.drop_left' hl]
theorem rtak_app {n : Nat} {xs r : List UInt8} (hl : xs.length = n) : rtak n ⟨xs ++ r, false⟩ = (xs, ⟨r, false⟩) := by
  unfold rtak
  have h1 : n ≤ (xs ++ r).length := by simp [hl]
  simp only [h1, and_self, if_true, decide_true, Bool.not_true]
  rw [List.take_left' hl, List.drop_left' hl]

/-- A number that an int64 can be. -/
def In64 (n : Int) : Prop := -9223372036854775808 ≤ n ∧ n ≤ 9223372036854775807
theorem W_U {n : Int} (h : In64 n) : W (U n) = n := by
  unfold W U IntKind.wrap In64 at *
  simp only [IntKind.bits, IntKind.signed, Bool.true_and]
  split <;> rename_i q <;> simp at q <;> omega
theorem W_In (n : Nat) : In64 (W n) := by
  unfold W IntKind.wrap In64
  simp only [IntKind.bits, IntKind.signed, Bool.true_and]
  split <;> rename_i q <;> simp at q <;> omega
theorem U_lt8 (n : Int) : U n < 256 ^ 8 := U_lt n

theorem regs_back : ∀ (rs : List Int) (r : List UInt8), (∀ x ∈ rs, In64 x) → regsP rs.length ⟨regB rs ++ r, false⟩ = (rs, ⟨r, false⟩)
  | [], r, _ => rfl
  | x :: rs, r, h => by
    have e : regB (x :: rs) ++ r = leB (U x) 8 ++ (regB rs ++ r) := by simp [regB]
    rw [e]
    simp only [List.length_cons, regsP, num_leB (U_lt8 x), regs_back rs r fun y hy => h y (List.mem_cons_of_mem _ hy), W_U (h x (List.mem_cons_self ..))]
    simp
theorem rregs_back : ∀ (rs : List Int) (r : List UInt8), (∀ x ∈ rs, In64 x) → rregsP rs.length ⟨regB rs ++ r, false⟩ = (rs, ⟨r, false⟩)
  | [], r, _ => rfl
  | x :: rs, r, h => by
    have e : regB (x :: rs) ++ r = leB (U x) 8 ++ (regB rs ++ r) := by simp [regB]
    rw [e]
    simp only [List.length_cons, rregsP, rnum_leB (U_lt8 x), rregs_back rs r fun y hy => h y (List.mem_cons_of_mem _ hy), W_U (h x (List.mem_cons_self ..))]
    simp
theorem mem_back {m : Mem} {r : List UInt8} (ha : In64 m.addr) (hd : m.data.length ≤ 65536) : memP ⟨leB (U m.addr) 8 ++ leB m.data.length 4 ++ m.data ++ r, false⟩ = (m, ⟨r, false⟩) := by
  have e : leB (U m.addr) 8 ++ leB m.data.length 4 ++ m.data ++ r = leB (U m.addr) 8 ++ (leB m.data.length 4 ++ (m.data ++ r)) := by simp
  rw [e]
  simp only [memP, num_leB (U_lt8 m.addr), num_leB (n := 4) (m := m.data.length) (r := m.data ++ r) (by omega), tak_app (xs := m.data) (r := r) rfl, W_U ha]
theorem rmem_back {m : Mem} {r : List UInt8} (ha : In64 m.addr) (hd : m.data.length ≤ 65536) : rmemP ⟨leB (U m.addr) 8 ++ leB m.data.length 4 ++ m.data ++ r, false⟩ = (m, ⟨r, false⟩) := by
  have e : leB (U m.addr) 8 ++ leB m.data.length 4 ++ m.data ++ r = leB (U m.addr) 8 ++ (leB m.data.length 4 ++ (m.data ++ r)) := by simp
  rw [e]
  simp only [rmemP, rnum_leB (U_lt8 m.addr), rnum_leB (n := 4) (m := m.data.length) (r := m.data ++ r) (by omega), rtak_app (xs := m.data) (r := r) rfl, W_U ha]
theorem mems_back : ∀ (ms : List Mem) (r : List UInt8), (∀ m ∈ ms, In64 m.addr) → (∀ m ∈ ms, m.data.length ≤ 65536) → memsP ms.length ⟨memB ms ++ r, false⟩ = (ms, ⟨r, false⟩)
  | [], r, _, _ => rfl
  | m :: ms, r, h, k => by
    have e : memB (m :: ms) ++ r = leB (U m.addr) 8 ++ leB m.data.length 4 ++ m.data ++ (memB ms ++ r) := by simp [memB]
    rw [e]
    simp only [List.length_cons, memsP, mem_back (h m (List.mem_cons_self ..)) (k m (List.mem_cons_self ..)), mems_back ms r (fun y hy => h y (List.mem_cons_of_mem _ hy)) (fun y hy => k y (List.mem_cons_of_mem _ hy))]
    simp
theorem rmems_back : ∀ (ms : List Mem) (r : List UInt8), (∀ m ∈ ms, In64 m.addr) → (∀ m ∈ ms, m.data.length ≤ 65536) → rmemsP ms.length ⟨memB ms ++ r, false⟩ = (ms, ⟨r, false⟩)
  | [], r, _, _ => rfl
  | m :: ms, r, h, k => by
    have e : memB (m :: ms) ++ r = leB (U m.addr) 8 ++ leB m.data.length 4 ++ m.data ++ (memB ms ++ r) := by simp [memB]
    rw [e]
    simp only [List.length_cons, rmemsP, rmem_back (h m (List.mem_cons_self ..)) (k m (List.mem_cons_self ..)), rmems_back ms r (fun y hy => h y (List.mem_cons_of_mem _ hy)) (fun y hy => k y (List.mem_cons_of_mem _ hy))]
    simp

/-- A core of numbers that int64 can be. -/
structure CoreOk (c : CoreD) : Prop where
  pid : In64 c.pid
  sig : In64 c.sig
  regs : ∀ x ∈ c.regs, In64 x
  mem : ∀ m ∈ c.mem, In64 m.addr

theorem U_id {n : Int} (h0 : 0 ≤ n) (h1 : n ≤ 1073741824) : U n < 256 ^ 4 ∧ W (U n) = n :=
  ⟨by unfold U; omega, W_U ⟨by omega, by omega⟩⟩
theorem lebyte {n : Nat} : [UInt8.ofNat n] = leB n 1 := rfl

theorem body_eq (c : CoreD) : dumpBody c = head ++ (leB (U c.pid) 4 ++ (leB (U c.sig) 4 ++ (leB c.name.length 1 ++ (c.name ++ (leB c.regs.length 2 ++ (regB c.regs ++ (leB c.mem.length 2 ++ (memB c.mem ++ [])))))))) := by
  simp [dumpBody, pre2, pre1, lebyte]

theorem parse_back {c : CoreD} (h : checkE c = 0) (ok : CoreOk c) : parseP ((dumpBody c).drop 4) = (c, ⟨[], false⟩) := by
  obtain ⟨⟨p1, p2⟩, ⟨s1, s2⟩, _, hn, hr, hm, hd, _⟩ := check_zero h
  have e : (dumpBody c).drop 4 = leB (U c.pid) 4 ++ (leB (U c.sig) 4 ++ (leB c.name.length 1 ++ (c.name ++ (leB c.regs.length 2 ++ (regB c.regs ++ (leB c.mem.length 2 ++ (memB c.mem ++ []))))))) := by
    rw [body_eq]; rfl
  rw [e]
  have a1 := U_id p1 p2
  have a2 := U_id s1 s2
  unfold parseP
  simp only [num_leB a1.1, num_leB a2.1, num_leB (n := 1) (m := c.name.length) (by omega), tak_app (xs := c.name) rfl, num_leB (n := 2) (m := c.regs.length) (by omega), regs_back c.regs _ ok.regs, num_leB (n := 2) (m := c.mem.length) (by omega), mems_back c.mem [] ok.mem hd]
  have w1 : ((U c.pid : Nat) : Int) = c.pid := by unfold U; omega
  have w2 : ((U c.sig : Nat) : Int) = c.sig := by unfold U; omega
  rw [w1, w2]
theorem rparse_back {c : CoreD} (h : checkE c = 0) (ok : CoreOk c) : rparseP (dumpBody c) = (head, c, ⟨[], false⟩) := by
  obtain ⟨⟨p1, p2⟩, ⟨s1, s2⟩, _, hn, hr, hm, hd, _⟩ := check_zero h
  rw [body_eq]
  have a1 := U_id p1 p2
  have a2 := U_id s1 s2
  unfold rparseP
  simp only [rtak_app (xs := head) (n := 4) rfl, rnum_leB a1.1, rnum_leB a2.1, rnum_leB (n := 1) (m := c.name.length) (by omega), rtak_app (xs := c.name) rfl, rnum_leB (n := 2) (m := c.regs.length) (by omega), rregs_back c.regs _ ok.regs, rnum_leB (n := 2) (m := c.mem.length) (by omega), rmems_back c.mem [] ok.mem hd]
  have w1 : ((U c.pid : Nat) : Int) = c.pid := by unfold U; omega
  have w2 : ((U c.sig : Nat) : Int) = c.sig := by unfold U; omega
  rw [w1, w2]

theorem dumpB_len (c : CoreD) : (dumpB c).length = (dumpBody c).length + 4 := by simp [dumpB, leB_length]
theorem dumpB_take (c : CoreD) : (dumpB c).take ((dumpB c).length - 4) = dumpBody c := by
  rw [dumpB_len]; simp [dumpB]
theorem dumpB_drop (c : CoreD) : (dumpB c).drop ((dumpB c).length - 4) = leB (sumN (dumpBody c) % 4294967296) 4 := by
  rw [dumpB_len]; simp [dumpB]
theorem dumpBody_len (c : CoreD) : 17 ≤ (dumpBody c).length := by
  unfold dumpBody; rw [List.length_append, pre2_length]; omega

theorem read_dump {c : CoreD} (h : checkE c = 0) (ok : CoreOk c) : readP (dumpB c) = (c, 0) := by
  have hl := dumpBody_len c
  have hL := dumpB_len c
  unfold readP
  rw [dumpB_take, dumpB_drop, leN_leB, parse_back h ok]
  rw [if_neg (by omega), if_pos ⟨rfl, h, rfl⟩]
theorem rread_dump {c : CoreD} (h : checkE c = 0) (ok : CoreOk c) : rreadP (dumpB c) = (c, 0) := by
  have hl := dumpBody_len c
  have hL := dumpB_len c
  unfold rreadP
  rw [dumpB_take, dumpB_drop, leN_leB, rparse_back h ok]
  rw [if_neg (by omega), if_pos ⟨rfl, rfl, rfl, h, rfl⟩]

theorem regsP_in : ∀ (k : Nat) (p : PS), ∀ x ∈ (regsP k p).1, In64 x
  | 0, p, x, h => by simp [regsP] at h
  | k + 1, p, x, h => by
    simp only [regsP] at h
    split at h
    · simp at h
    · rcases List.mem_cons.1 h with rfl | h
      · exact W_In _
      · exact regsP_in k _ x h
theorem rregsP_in : ∀ (k : Nat) (p : PS), ∀ x ∈ (rregsP k p).1, In64 x
  | 0, p, x, h => by simp [rregsP] at h
  | k + 1, p, x, h => by
    simp only [rregsP] at h
    split at h
    · simp at h
    · rcases List.mem_cons.1 h with rfl | h
      · exact W_In _
      · exact rregsP_in k _ x h
theorem memsP_in : ∀ (k : Nat) (p : PS), ∀ m ∈ (memsP k p).1, In64 m.addr
  | 0, p, x, h => by simp [memsP] at h
  | k + 1, p, x, h => by
    simp only [memsP] at h
    split at h
    · simp at h
    · rcases List.mem_cons.1 h with rfl | h
      · exact W_In _
      · exact memsP_in k _ x h
theorem rmemsP_in : ∀ (k : Nat) (p : PS), ∀ m ∈ (rmemsP k p).1, In64 m.addr
  | 0, p, x, h => by simp [rmemsP] at h
  | k + 1, p, x, h => by
    simp only [rmemsP] at h
    split at h
    · simp at h
    · rcases List.mem_cons.1 h with rfl | h
      · exact W_In _
      · exact rmemsP_in k _ x h
theorem parse_ok {xs : List UInt8} (h : checkE (parseP xs).1 = 0) : CoreOk (parseP xs).1 := by
  have q := check_zero h
  have hr : ∀ x ∈ (parseP xs).1.regs, In64 x := fun x hx => by simp only [parseP] at hx; exact regsP_in _ _ x hx
  have hm : ∀ m ∈ (parseP xs).1.mem, In64 m.addr := fun x hx => by simp only [parseP] at hx; exact memsP_in _ _ x hx
  generalize (parseP xs).1 = c at *
  obtain ⟨⟨p1, p2⟩, ⟨s1, s2⟩, _⟩ := q
  exact ⟨⟨by omega, by omega⟩, ⟨by omega, by omega⟩, hr, hm⟩
theorem rparse_ok {xs : List UInt8} (h : checkE (rparseP xs).2.1 = 0) : CoreOk (rparseP xs).2.1 := by
  have q := check_zero h
  have hr : ∀ x ∈ (rparseP xs).2.1.regs, In64 x := fun x hx => by simp only [rparseP] at hx; exact rregsP_in _ _ x hx
  have hm : ∀ m ∈ (rparseP xs).2.1.mem, In64 m.addr := fun x hx => by simp only [rparseP] at hx; exact rmemsP_in _ _ x hx
  generalize (rparseP xs).2.1 = c at *
  obtain ⟨⟨p1, p2⟩, ⟨s1, s2⟩, _⟩ := q
  exact ⟨⟨by omega, by omega⟩, ⟨by omega, by omega⟩, hr, hm⟩

/-- Both read the same. -/
theorem read_same (b : List UInt8) : rreadP b = readP b := by
  by_cases h1 : b.length < 8 ∨ leN (b.drop (b.length - 4)) ≠ sumN (b.take (b.length - 4)) % 4294967296
  · unfold rreadP readP; rw [if_pos h1, if_pos h1]
  · by_cases h2 : (parseP ((b.take (b.length - 4)).drop 4)).2.sh = false ∧ checkE (parseP ((b.take (b.length - 4)).drop 4)).1 = 0 ∧ dumpB (parseP ((b.take (b.length - 4)).drop 4)).1 = b
    · obtain ⟨_, a2, a3⟩ := h2
      have ok := parse_ok a2
      generalize (parseP ((b.take (b.length - 4)).drop 4)).1 = c at *
      rw [← a3, read_dump a2 ok, rread_dump a2 ok]
    · by_cases h3 : (rparseP (b.take (b.length - 4))).2.2.sh = false ∧ (rparseP (b.take (b.length - 4))).2.2.xs = [] ∧ (rparseP (b.take (b.length - 4))).1 = head ∧ checkE (rparseP (b.take (b.length - 4))).2.1 = 0 ∧ dumpB (rparseP (b.take (b.length - 4))).2.1 = b
      · obtain ⟨_, _, _, a2, a3⟩ := h3
        have ok := rparse_ok a2
        generalize (rparseP (b.take (b.length - 4))).2.1 = c at *
        rw [← a3, read_dump a2 ok, rread_dump a2 ok]
      · unfold rreadP readP
        rw [if_neg h1, if_neg h1, if_neg h2, if_neg h3]

/-! ### a byte changed -/
theorem sumN_cons (x : UInt8) (xs : List UInt8) : sumN (x :: xs) = x.toNat + sumN xs := rfl
theorem sumN_append (a b : List UInt8) : sumN (a ++ b) = sumN a + sumN b := by simp [sumN]
theorem sumN_set : ∀ {xs : List UInt8} {i : Nat} (hi : i < xs.length) (y : UInt8), sumN (xs.set i y) + xs[i].toNat = sumN xs + y.toNat
  | [], i, hi, _ => absurd hi (Nat.not_lt_zero _)
  | x :: r, 0, _, y => by simp only [List.set_cons_zero, sumN_cons, List.getElem_cons_zero]; omega
  | x :: r, i + 1, hi, y => by
    have := sumN_set (xs := r) (i := i) (by simpa using hi) y
    simp only [List.set_cons_succ, sumN_cons, List.getElem_cons_succ]; omega
theorem leN_set : ∀ {xs : List UInt8} {i : Nat} (hi : i < xs.length) (y : UInt8), leN (xs.set i y) = leN xs → y = xs[i]
  | [], i, hi, _, _ => absurd hi (Nat.not_lt_zero _)
  | x :: r, 0, _, y, h => by
    simp only [List.set_cons_zero, leN] at h
    simp only [List.getElem_cons_zero]
    have a := y.toNat_lt; have b := x.toNat_lt
    exact UInt8.toNat_inj.1 (by omega)
  | x :: r, i + 1, hi, y, h => by
    simp only [List.set_cons_succ, leN] at h
    simp only [List.getElem_cons_succ]
    exact leN_set (xs := r) (i := i) (by simpa using hi) y (by omega)

/-- A dump with one byte changed is not read. -/
theorem read_changed (c : CoreD) {i : Nat} (hi : i < (dumpB c).length) {y : UInt8} (hy : y ≠ (dumpB c)[i]) : (readP ((dumpB c).set i y)).2 ≠ 0 := by
  have hl := dumpBody_len c
  have hL := dumpB_len c
  have bad : leN (((dumpB c).set i y).drop (((dumpB c).set i y).length - 4)) ≠ sumN (((dumpB c).set i y).take (((dumpB c).set i y).length - 4)) % 4294967296 := by
    rw [List.length_set]
    by_cases h : i < (dumpBody c).length
    · have e1 : (dumpB c).set i y = (dumpBody c).set i y ++ leB (sumN (dumpBody c) % 4294967296) 4 := by
        unfold dumpB; rw [List.set_append_left _ _ h]
      have e2 : (dumpB c)[i] = (dumpBody c)[i] := by
        simp only [dumpB]; rw [List.getElem_append_left h]
      rw [e1, hL, Nat.add_sub_cancel, List.take_left' (by rw [List.length_set]), List.drop_left' (by rw [List.length_set]), leN_leB]
      have := sumN_set h y
      rw [e2] at hy
      have hne : y.toNat ≠ (dumpBody c)[i].toNat := fun e => hy (UInt8.toNat_inj.1 e)
      have q1 := y.toNat_lt
      have q2 := ((dumpBody c)[i]).toNat_lt
      omega
    · have h4 : i - (dumpBody c).length < (leB (sumN (dumpBody c) % 4294967296) 4).length := by rw [leB_length]; omega
      have e1 : (dumpB c).set i y = dumpBody c ++ (leB (sumN (dumpBody c) % 4294967296) 4).set (i - (dumpBody c).length) y := by
        unfold dumpB; rw [List.set_append_right _ _ (by omega)]
      have e2 : (dumpB c)[i] = (leB (sumN (dumpBody c) % 4294967296) 4)[i - (dumpBody c).length] := by
        simp only [dumpB]; rw [List.getElem_append_right (by omega)]
      rw [e1, hL, Nat.add_sub_cancel, List.take_left' rfl, List.drop_left' rfl]
      intro e
      refine hy (leN_set h4 y ?_ |>.trans e2.symm)
      rw [e, leN_leB]
      omega
  unfold readP
  rw [if_pos (.inr bad)]
  simp
end Go.Proofs.ZP
