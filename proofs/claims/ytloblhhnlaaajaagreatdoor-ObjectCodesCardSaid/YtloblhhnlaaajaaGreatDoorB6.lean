/- Steps of a walk that change memory. -/
import Derived.Test.YtloblhhnlaaajaaGreatDoorB5
set_option linter.unusedVariables false
set_option linter.unusedSimpArgs false
set_option linter.defProp false
namespace Go.Ev
open Go

def Has (h : H) (b : Nat) (cs : List V) : Prop := ∃ t d e k, h.t.get b = some (.cells t cs.length d e k) ∧ cellsFrom t cs.length d 0 cs.length = some cs

def over (cs : List V) (o : Nat) (vs : List V) : List V := cs.take o ++ vs ++ cs.drop (o + vs.length)

section
variable {E : Env} {K : Nat → Prop} {h h' : H}

theorem Has.fix {b : Nat} {cs : List V} (a : Has h b cs) (f : Fix K h h') (hb : K b) : Has h' b cs := by
  obtain ⟨t, d, e, k, h1, h2⟩ := a
  exact ⟨t, d, e, k, by rw [f.same b hb]; exact h1, h2⟩

theorem Has.at {b : Nat} {cs : List V} (a : Has h b cs) {ty : Nat} {i : TI} (ht : E.tys.get ty = some i) (hi : i.agg = false) (o : Nat) : loadP E h ty (.ptr b o) = cs[o]? := by
  obtain ⟨t, d, e, k, h1, h2⟩ := a
  simp only [loadP, loadV, ht, h1, hi, cond_false]
  obtain ⟨q1, q2⟩ := cellsFrom_get h2
  by_cases ho : o < cs.length
  · have := q2 o ho; rwa [Nat.zero_add] at this
  · rw [List.getElem?_eq_none (by omega)]
    unfold cellAt
    have : Nat.blt o cs.length = false := by
      cases hb : Nat.blt o cs.length with
      | false => rfl
      | true => have : o < cs.length := by simpa using hb
                omega
    rw [this]; rfl

theorem Has.agg {b : Nat} {cs : List V} (a : Has h b cs) {ty : Nat} {i : TI} (ht : E.tys.get ty = some i) (hi : i.agg = true) {o : Nat} (ho : o + i.size ≤ cs.length) : loadP E h ty (.ptr b o) = some (.agg ((cs.drop o).take i.size)) := by
  obtain ⟨t, d, e, k, h1, h2⟩ := a
  obtain ⟨q1, q2⟩ := cellsFrom_get h2
  simp only [loadP, loadV, ht, h1, hi, cond_true]
  rw [cellsFrom_of (vs := (cs.drop o).take i.size) (by simp; omega) (fun j hj => by
    have := q2 (o + j) (by omega)
    rw [Nat.zero_add] at this
    rw [this, List.getElem?_take, if_pos hj, List.getElem?_drop])]
  rfl

theorem row_has {e k : Nat} {cs : List V} : Has (row h e cs k).2 h.next cs :=
  ⟨_, _, _, _, by rw [row_get, if_pos rfl], row_cells⟩

theorem wop_alloc {fr : Fr} {d : Option Nat} {ty t : Nat} {p : String} {a : Array Edge} {g : Option (Nat × Bool)} {Q : V → H → Prop} {i : TI} (ht : E.tys.get ty = some i)
    (k : ∀ h', Has h' h.next i.zero → h'.next = h.next + 1 → Fix (· < h.next) h h' → Q (.ptr h.next 0) h') : WOp E fr h ⟨d, .alloc ty, t, p, a, g⟩ Q := by
  rw [w_alloc]
  unfold allocV
  rw [ht]
  rw [sat_r1]
  exact k _ row_has rfl (row_fix fun _ h => h)

theorem wop_box {fr : Fr} {d : Option Nat} {ty t : Nat} {x : Operand} {p : String} {a : Array Edge} {g : Option (Nat × Bool)} {Q : V → H → Prop} {v : V} (hx : opd fr x = some v)
    (k : ∀ h', Has h' h.next v.cells → h'.next = h.next + 1 → Fix (· < h.next) h h' → Q (.ptr h.next 0) h') : WOp E fr h ⟨d, .box ty x, t, p, a, g⟩ Q := by
  rw [w_box, hx, Option.bind_some, sat_r1]
  exact k _ row_has rfl (row_fix fun _ h => h)

theorem over_get {cs vs : List V} {o : Nat} (h : o + vs.length ≤ cs.length) (j : Nat) : (over cs o vs)[j]? = if o ≤ j ∧ j < o + vs.length then vs[j - o]? else cs[j]? := by
  unfold over
  have e1 : (cs.take o).length = o := by simp; omega
  by_cases h1 : j < o
  · rw [if_neg (by omega), List.append_assoc, List.getElem?_append_left (by omega), List.getElem?_take, if_pos h1]
  · by_cases h2 : j < o + vs.length
    · rw [if_pos ⟨by omega, h2⟩, List.append_assoc, List.getElem?_append_right (by omega), e1, List.getElem?_append_left (by omega)]
    · rw [if_neg (by omega), List.getElem?_append_right (by simp; omega), List.getElem?_drop]
      congr 1
      simp only [List.length_append, e1]; omega
theorem over_length {cs vs : List V} {o : Nat} (h : o + vs.length ≤ cs.length) : (over cs o vs).length = cs.length := by
  unfold over; simp; omega

theorem sat_store {ty b o : Nat} {v : V} {cs : List V} {Q : V → H → Prop} (a : Has h b cs) {i : TI} (ht : E.tys.get ty = some i) (hl : v.cells.length = i.size) (ho : o + i.size ≤ cs.length) (h1 : v.cells.all V.one = true)
    (k : ∀ h', Has h' b (over cs o v.cells) → h'.next = h.next → Fix (· ≠ b) h h' → Q un h') : Sat1 (rh (storeP E h ty (.ptr b o) v)) Q := by
  obtain ⟨t, d, e, kk, q1, q2⟩ := a
  have hbeq : Nat.beq v.cells.length i.size = true := by rw [hl]; simp
  simp only [storeP, storeV, ht, hbeq, cond_true]
  rcases hc : v.cells with _ | ⟨c0, cr⟩
  · simp only [storeL, sat_rh]
    refine k h ?_ rfl (Fix.refl _ _)
    rw [hc]
    have : over cs o [] = cs := by unfold over; simp
    rw [this]; exact ⟨t, d, e, kk, q1, q2⟩
  · have hle : Nat.ble (o + v.cells.length) cs.length = true := ble_true (by rw [hl]; exact ho)
    simp only [storeL, q1, ← hc, hle, h1, Bool.and_self, cond_true, sat_rh]
    have hlen : o + v.cells.length ≤ cs.length := by rw [hl]; exact ho
    refine k _ ⟨t.putL o v.cells, d, e, kk, ?_, ?_⟩ rfl ⟨Nat.le_refl _, fun c hc => ?_⟩
    · simp only [H.put, T.get_set, if_true, over_length hlen]
    · rw [over_length hlen]
      refine cellsFrom_of (over_length hlen) (fun j hj => ?_)
      rw [Nat.zero_add, cellAt_putL hlen, over_get hlen]
      split
      · rfl
      · have := (cellsFrom_get q2).2 j hj
        rwa [Nat.zero_add] at this
    · simp only [H.put, T.get_set]; rw [if_neg hc]

theorem sat_append {t t2 e sz n m : Nat} {s x : V} {vs ws : List V} {i j ei : TI} {Q : V → H → Prop} (b : Buf E h e sz s n vs) (ht : E.tys.get t = some i) (hd : i.desc = .slice e) (hj : E.tys.get t2 = some j) (hjd : (∃ e', j.desc = .slice e') ∨ j.desc = .string)
    (he : E.tys.get e = some ei) (hsz : ei.size = sz) (hpos : 0 < sz) (hb0 : 0 < ei.bytes) (hl : lenV x = some m) (hc : srcCells E h sz m x = some ws) (hw : ws.length = m * sz) (h1 : ws.all V.one = true)
    (hsize : (n + m) * ei.bytes ≤ 140737488355328) (hlow : In (· < h.next) s)
    (k : ∀ s' h', Buf E h' e sz s' (n + m) (vs ++ ws) → In (· < h'.next) s' → (∀ b o k c, s' = .slice b o k c → b = h.next ∨ ∃ o k c, s = .slice b o k c) → Fix (fun c => c < h.next ∧ ∀ o k cc, s ≠ .slice c o k cc) h h' → Q s' h') : Sat1 (r1 (appendB E h t t2 s x)) Q := by
  obtain ⟨s', h', a1, a2, a3, a4, a5, _, _⟩ := b.append (K := fun c => c < h.next ∧ ∀ o k cc, s ≠ .slice c o k cc) ht hd hj hjd he hsz hpos hb0 hl hc hw h1 hsize (fun c h => h.1) (fun b o n c e h => h.2 _ _ _ e) hlow
  rw [a1, sat_r1]
  exact k s' h' a2 a4 a5 a3

def optP {α : Type} (x : Option α) (f : α → Prop) : Prop := match x with | some v => f v | none => False
theorem optP_some {α : Type} {v : α} {f : α → Prop} : optP (some v) f = f v := rfl
def resR (E : Env) (ts : T V) (h : H) : ResultVar → Option V
  | .tmp t => ts.get t
  | .cell a t => (ts.get a).bind fun p => match p with | .ptr b o => loadP E h t (.ptr b o) | _ => none
theorem resV_eq {ts : T V} {nt fn : Nat} {mks : List D} {rnd : Option Nat} {h : H} : ∀ {r : ResultVar} {rs : List ResultVar}, resV E ⟨ts, nt, mks, fn, rnd⟩ h (r :: rs) = (resR E ts h r).bind fun v => (resV E ⟨ts, nt, mks, fn, rnd⟩ h rs).bind fun vs => some (v :: vs)
  | .tmp t, rs => by
    simp only [resV, resR]
    cases ts.get t with
    | none => rfl
    | some v => cases resV E ⟨ts, nt, mks, fn, rnd⟩ h rs <;> rfl
  | .cell a t, rs => by
    simp only [resV, resR]
    cases ha : ts.get a with
    | none => rfl
    | some p =>
      cases p with
      | ptr b o =>
        simp only [Option.bind_some, loadP]
        cases loadV E h t b o with
        | none => rfl
        | some v => cases resV E ⟨ts, nt, mks, fn, rnd⟩ h rs <;> rfl
      | _ => rfl
theorem resV_nil {fr : Fr} {h : H} : resV E fr h [] = some [] := rfl
theorem fin_ret {i : FI} {Q : V → H → Prop} {ts : T V} {nt fn : Nat} {rnd : Option Nat} {h : H} : Fin E i Q .ret ⟨ts, nt, [], fn, rnd⟩ h = optP (resV E ⟨ts, nt, [], fn, rnd⟩ h i.res) fun vs => Q (oneOf vs) h := by
  simp only [Fin, endMarks, optP]
  cases resV E ⟨ts, nt, [], fn, rnd⟩ h i.res <;> rfl
theorem fin_normal {i : FI} {Q : V → H → Prop} {ts : T V} {nt fn : Nat} {rnd : Option Nat} {h : H} : Fin E i Q .normal ⟨ts, nt, [], fn, rnd⟩ h = optP (resV E ⟨ts, nt, [], fn, rnd⟩ h i.res) fun vs => Q (oneOf vs) h := by
  simp only [Fin, endMarks, optP]
  cases resV E ⟨ts, nt, [], fn, rnd⟩ h i.res <;> rfl
theorem one_one {v : V} : oneOf [v] = v := rfl
theorem one_two {u v : V} {r : List V} : oneOf (u :: v :: r) = .tuple (u :: v :: r) := rfl
theorem resR_tmp {ts : T V} {h : H} {t : Nat} : resR E ts h (.tmp t) = ts.get t := rfl
theorem resR_cell {ts : T V} {h : H} {a t : Nat} : resR E ts h (.cell a t) = (ts.get a).bind fun p => match p with | .ptr b o => loadP E h t (.ptr b o) | _ => none := rfl

structure Grew (E : Env) (e sz : Nat) (h : H) (s : V) (h' : H) (s' : V) (n : Nat) (vs : List V) : Prop where
  buf : Buf E h' e sz s' n vs
  low : In (· < h'.next) s'
  fix : Fix (fun c => c < h.next ∧ ∀ o m cc, s ≠ .slice c o m cc) h h'
  own : ∀ b o k c, s' = .slice b o k c → h.next ≤ b ∨ ∃ o k c, s = .slice b o k c

theorem Grew.refl {e sz n : Nat} {s : V} {vs : List V} (b : Buf E h e sz s n vs) (l : In (· < h.next) s) : Grew E e sz h s h s n vs :=
  ⟨b, l, Fix.refl _ _, fun _ _ _ _ e => .inr ⟨_, _, _, e⟩⟩
theorem Grew.trans {e sz n1 n2 : Nat} {h h1 h2 : H} {s s1 s2 : V} {vs1 vs2 : List V} (a : Grew E e sz h s h1 s1 n1 vs1) (b : Grew E e sz h1 s1 h2 s2 n2 vs2) : Grew E e sz h s h2 s2 n2 vs2 := by
  refine ⟨b.buf, b.low, ⟨Nat.le_trans a.fix.next b.fix.next, fun c hc => ?_⟩, fun b' o k c e' => ?_⟩
  · rw [b.fix.same c ⟨Nat.lt_of_lt_of_le hc.1 a.fix.next, fun o m cc e => ?_⟩]
    · exact a.fix.same c hc
    · rcases a.own _ _ _ _ e with q | ⟨o, k, c', q⟩
      · omega
      · exact hc.2 _ _ _ q
  · rcases b.own _ _ _ _ e' with q | ⟨o, k, c', q⟩
    · exact .inl (Nat.le_trans a.fix.next q)
    · exact a.own _ _ _ _ q
theorem Grew.len {e sz n m : Nat} {s s' : V} {vs ws : List V} (a : Grew E e sz h s h' s' n vs) (e1 : n = m) (e2 : vs = ws) : Grew E e sz h s h' s' m ws := by subst e1 e2; exact a

theorem Grew.keep {e sz n : Nat} {h h1 h2 : H} {s s' : V} {vs : List V} (a : Grew E e sz h s h1 s' n vs) (f : Fix (· < h1.next) h1 h2) : Grew E e sz h s h2 s' n vs :=
  ⟨a.buf.fix a.low f, a.low.sub fun _ hx => Nat.lt_of_lt_of_le hx f.next, a.fix.trans (f.sub fun _ hx => Nat.lt_of_lt_of_le hx.1 a.fix.next) , a.own⟩

theorem sat_grow {t t2 e sz n m : Nat} {s x : V} {vs ws : List V} {i j ei : TI} {Q : V → H → Prop} (b : Buf E h e sz s n vs) (hlow : In (· < h.next) s) (ht : E.tys.get t = some i) (hd : i.desc = .slice e) (hj : E.tys.get t2 = some j) (hjd : (∃ e', j.desc = .slice e') ∨ j.desc = .string)
    (he : E.tys.get e = some ei) (hsz : ei.size = sz) (hpos : 0 < sz) (hb0 : 0 < ei.bytes) (hl : lenV x = some m) (hc : srcCells E h sz m x = some ws) (hw : ws.length = m * sz) (h1 : ws.all V.one = true)
    (hsize : (n + m) * ei.bytes ≤ 140737488355328)
    (k : ∀ s' h', Grew E e sz h s h' s' (n + m) (vs ++ ws) → Q s' h') : Sat1 (r1 (appendB E h t t2 s x)) Q :=
  sat_append b ht hd hj hjd he hsz hpos hb0 hl hc hw h1 hsize hlow fun s' h' a1 a2 a3 a4 => k s' h' ⟨a1, a2, a4, fun b o k c e => (a3 b o k c e).imp (fun q => by omega) id⟩

theorem sat_buildSlice {t e sz n : Nat} {ps : List (Nat × V)} {cs : List V} {i ei : TI} {Q : V → H → Prop} (ht : E.tys.get t = some i) (hd : i.desc = .slice e) (he : E.tys.get e = some ei) (hsz : ei.size = sz) (hpos : 0 < sz) (hn : n * sz ≤ 16777216)
    (hc : fillAll (fun k => some (k * ei.size, ei.size)) (repL ei.zero n) ps = some cs) (hl : cs.length = n * sz)
    (k : ∀ h', Buf E h' e sz (.slice h.next 0 n (.lit n)) n cs → h'.next = h.next + 1 → Fix (· < h.next) h h' → Q (.slice h.next 0 n (.lit n)) h') : Sat1 (r1 (buildSliceV E h t n ps)) Q := by
  have h1 : (Nat.ble (n * ei.size) 16777216 && Nat.blt 0 ei.size) = true := by rw [hsz, ble_true hn, blt_true hpos]; rfl
  simp only [buildSliceV, ht, hd, he, h1, cond_true, hc, sat_r1, row_fst]
  refine k _ (.lit (by rw [row_get, if_pos rfl]) ?_) rfl (row_fix fun _ h => h)
  have := row_cells (cs := cs) (d := [.nilp])
  rw [hl] at this ⊢
  exact this

theorem fill_one {v z : V} (hv : v.cells = [v]) : fillAll (fun k => some (k * 1, 1)) (repL [z] 1) [(0, v)] = some [v] := by
  simp [fillAll, repL, hv, fillL]; rfl
theorem sat_slice1 {t e : Nat} {v z : V} {i ei : TI} {Q : V → H → Prop} (ht : E.tys.get t = some i) (hd : i.desc = .slice e) (he : E.tys.get e = some ei) (hsz : ei.size = 1) (hz : ei.zero = [z]) (hv : v.cells = [v])
    (k : ∀ h', Buf E h' e 1 (.slice h.next 0 1 (.lit 1)) 1 [v] → h'.next = h.next + 1 → Fix (· < h.next) h h' → Q (.slice h.next 0 1 (.lit 1)) h') : Sat1 (r1 (buildSliceV E h t 1 [(0, v)])) Q :=
  sat_buildSlice ht hd he hsz (by decide) (by decide) (by rw [hsz, hz]; exact fill_one hv) rfl k
theorem sat_slice0 {t e sz : Nat} {i ei : TI} {Q : V → H → Prop} (ht : E.tys.get t = some i) (hd : i.desc = .slice e) (he : E.tys.get e = some ei) (hsz : ei.size = sz) (hpos : 0 < sz)
    (k : ∀ h', Buf E h' e sz (.slice h.next 0 0 (.lit 0)) 0 [] → h'.next = h.next + 1 → Fix (· < h.next) h h' → Q (.slice h.next 0 0 (.lit 0)) h') : Sat1 (r1 (buildSliceV E h t 0 [])) Q :=
  sat_buildSlice ht hd he hsz hpos (by simp) rfl (by simp [repL]) k
end
end Go.Ev
