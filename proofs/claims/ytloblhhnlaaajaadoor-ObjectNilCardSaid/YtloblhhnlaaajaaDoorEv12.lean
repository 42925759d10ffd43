/- make, append, copy, conversions between strings and bytes, lengths. -/
import Derived.Test.YtloblhhnlaaajaaDoorEv11
import Derived.Deep.Upon
namespace Go.Ev
open Go

section
variable {P : Program} {E : Env} {ρ : Rho} {μ : Mu}

theorem run_makeMap' {h : H} {w : World} (hh : HR E ρ μ h w) (t : Nat) : Rs P E ρ μ w (Instr.makeMap t none) (.map (h.new (.map [] 0)).1) (h.new (.map [] 0)).2 := by
  refine ⟨_, .map (some w.heap.size), { w with heap := w.heap.push (.map #[] 0) }, Grows.alloc hh 0 rfl rfl rfl rfl, HR.alloc hh (.map rfl (fun i k v b e => by simp at e)) rfl, ?_, by simp [Instr.makeMap]⟩
  simp [conc, H.new, Mu.put_same]

theorem cellAt_default {n : Nat} {d : List V} {j : Nat} (hj : j < n) (hd : 0 < d.length) : cellAt .lf n d j = d[j % d.length]? := by
  unfold cellAt
  have : Nat.blt j n = true := by simpa using hj
  rw [this, T.get_lf]
  match d, hd with
  | [x], _ => simp [Nat.mod_one]
  | x :: y :: r, _ => simp only [cond_true]; rw [nth_eq]; rfl

theorem run_makeSlice' (hE : EnvOk P E) (hp : Plain ρ) {h h' : H} {w : World} (hh : HR E ρ μ h w) {ty : Nat} {l c v : V} {L C : Value} (hv : makeSliceV E h ty l c = some (v, h')) (hl : conc ρ μ l = some L) (hc : conc ρ μ c = some C) :
    Rs P E ρ μ w (Instr.makeSlice ty L C) v h' := by
  unfold makeSliceV at hv
  split at hv
  · rename_i i l' c' hi hl' hc'
    obtain ⟨kl, rfl⟩ := natOf_some hl'
    obtain ⟨kc, rfl⟩ := natOf_some hc'
    simp only [conc] at hl hc
    injection hl with hl; injection hc with hc; subst hl hc
    split at hv
    · rename_i e hd
      split at hv
      · rename_i ei hei
        obtain ⟨hb, hv⟩ := bif_some hv
        simp only [Bool.and_eq_true] at hb
        have h1 := Nat.le_of_ble_eq_true hb.1.1
        have h2 := Nat.le_of_ble_eq_true hb.1.2
        have h3 : c' < 9223372036854775808 := by simpa using hb.2
        injection hv with hv
        obtain ⟨rfl, rfl⟩ := Prod.mk.inj hv
        obtain ⟨inf, q1, q2, q3, q4, _⟩ := run_info hE hei w
        obtain ⟨Z, z1, z2, z3, z4⟩ := run_zero (P := P) (ρ := ρ) (μ := μ) hE hei
        have hzc := conc_cells hp z2
        rw [← z3] at hzc
        have hzl := concL_length hzc
        have wl : IntKind.i64.wrap (l' : Int) = l' := by rw [IntKind.wrap_i64]; omega
        have wc : IntKind.i64.wrap (c' : Int) = c' := by rw [IntKind.wrap_i64]; omega
        have hrow : ∀ (cells : Array Value), cells.size = c' * ei.size → (∀ j, j < c' * ei.size → cells[j]? = Z.cells.toList[j % ei.size]?) →
            ∃ μ', Grows μ w μ' { w with heap := w.heap.push (.cells cells e) } ∧ HR E ρ μ' (h.new (.cells .lf (c' * ei.size) ei.zero e 0)).2 { w with heap := w.heap.push (.cells cells e) } ∧ μ' h.next = some (w.heap.size, 0) := by
          intro cells hs hcell
          refine ⟨_, Grows.alloc hh 0 rfl rfl rfl rfl, HR.alloc hh ?_ rfl, Mu.put_same _ _ _⟩
          refine .cells (fun j u hu => ?_) (by omega) (fun _ => hs) (fun q => by omega) (fun _ => rfl) (fun q => by omega)
          have hj : j < c' * ei.size := by
            rcases Nat.lt_or_ge j (c' * ei.size) with h | h
            · exact h
            · unfold cellAt at hu
              have : Nat.blt j (c' * ei.size) = false := by
                cases hb : Nat.blt j (c' * ei.size) with
                | false => rfl
                | true => have : j < c' * ei.size := by simpa using hb
                          omega
              rw [this] at hu; cases hu
          have hpos : 0 < ei.zero.length := by
            rw [z4]
            exact Nat.pos_of_ne_zero (fun e => by rw [e] at hj; simp at hj)
          rw [cellAt_default hj hpos, z4] at hu
          obtain ⟨X, x1, x2⟩ := concL_get hzc hu
          exact ⟨X, conc_le (Mu.le_put _ (hh.fresh _ (Nat.le_refl _))) _ _ x2, by rw [hcell j hj]; exact x1⟩
        have hbig : ¬ ((281474976710656 : Int) < (ei.bytes : Int) * (c' : Int)) := by
          have : ((ei.bytes * c' : Nat) : Int) ≤ 281474976710656 := Int.ofNat_le.2 h2
          simpa using this
        have hnl : ¬ ((c' : Int) < 0) := by omega
        have hll : ¬ ((l' : Int) < 0) := by omega
        by_cases h0 : c' * ei.size = 0
        · obtain ⟨μ', g1, g2, g3⟩ := hrow #[] (by simp [h0]) (fun j hj => by omega)
          refine ⟨μ', .slice (some ⟨w.heap.size, 0, none⟩) l' c', _, g1, g2, by simp [conc, g3, cslice, h1], ?_⟩
          have hlc : ¬ ((c' : Int) < (l' : Int)) := by omega
          simp [Instr.makeSlice, run_und hE hi w, hd, asInt, asIntOf, q1, wl, wc, q4, hbig, run_size hE hei w, h0, newRow, Array.range_zero', hlc, hnl, hll]
        · obtain ⟨μ', g1, g2, g3⟩ := hrow ((Array.range (c' * ei.size)).map (Z.cells[· % Z.cells.size]!)) (by simp) (fun j hj => by
            have hzs : Z.cells.size = ei.size := by rw [← z4]; simpa using hzl
            have hm : j % ei.size < Z.cells.size := by
              rw [hzs]; exact Nat.mod_lt _ (Nat.pos_of_ne_zero (fun e => by rw [e] at hj; simp at hj))
            simp [hj, hzs]
            rw [getElem?_pos Z.cells _ hm, getElem!_pos Z.cells _ hm])
          refine ⟨μ', .slice (some ⟨w.heap.size, 0, none⟩) l' c', _, g1, g2, by simp [conc, g3, cslice, h1], ?_⟩
          have hlc : ¬ ((c' : Int) < (l' : Int)) := by omega
          simp [Instr.makeSlice, run_und hE hi w, hd, asInt, asIntOf, q1, wl, wc, q4, hbig, run_size hE hei w, h0, newRow, z1, hlc, hnl, hll]
      · cases hv
    · cases hv
  · cases hv

theorem run_firstCells_list (size n : Nat) (s : List UInt8) (w : World) : (Builtin.firstCells size n (.string ⟨s.toArray⟩)).run P w = .ok ((s.take n).map fun c => Value.int .u8 c.toNat).toArray w := by
  simp [Builtin.firstCells, str_extract]

theorem concL_bytes (s : List UInt8) : concL ρ μ (s.map fun c => V.int .u8 c.toNat) = some (s.map fun c => Value.int .u8 c.toNat) := by
  induction s with
  | nil => simp [concL]
  | cons c r ih => simpa using concL_mk (by simp [conc]) ih

/-- The cells of what is appended or copied. -/
theorem srcCells_sound {h : H} {w : World} (hh : HR E ρ μ h w) {size n : Nat} {x : V} {X : Value} {cs : List V} (hc : srcCells h size n x = some cs) (hx : conc ρ μ x = some X) (hn : ∀ m, lenV x = some m → n ≤ m) :
    ∃ C, concL ρ μ cs = some C ∧ (Builtin.firstCells size n X).run P w = .ok C.toArray w ∧ C.length = n * size := by
  unfold srcCells at hc
  split at hc
  · injection hc with hc; subst hc
    simp only [conc] at hx
    injection hx with hx; subst hx
    have : n = 0 := by have := hn 0 rfl; omega
    subst this
    exact ⟨[], by simp [concL], by simp [Builtin.firstCells], by simp⟩
  · rename_i b o m c
    cases h0 : Nat.beq (n * size) 0 with
    | true =>
      simp only [h0, cond_true] at hc
      injection hc with hc; subst hc
      have h0 := Nat.eq_of_beq_eq_true h0
      obtain ⟨y, hy, _, rfl⟩ := conc_slice_any hx
      exact ⟨[], by simp [concL], by simp [Builtin.firstCells, h0, loadCells, loadCellsFrom], by simp [h0]⟩
    | false =>
      simp only [h0, cond_false] at hc
      have h0' : n * size ≠ 0 := by intro e; rw [e] at h0; simp at h0
      obtain ⟨h1, hc⟩ := bif_some hc
      have h1 := Nat.le_of_ble_eq_true h1
      have hn0 : 0 < n := Nat.pos_of_ne_zero (fun e => by rw [e] at h0'; simp at h0')
      obtain ⟨y, m', hy, rfl⟩ := conc_slice_pos hx (by omega)
      split at hc
      · rename_i t k d e kind hb
        obtain ⟨L, l1, l2, l3⟩ := cellsFrom_sound hh hb hy hc
        exact ⟨L, l1, by simp [Builtin.firstCells, run_cells l3 l2], l2⟩
      · cases hc
  · rename_i s
    obtain ⟨h1, hc⟩ := bif_some hc
    have h1 := Nat.eq_of_beq_eq_true h1
    injection hc with hc; subst hc
    simp only [conc] at hx
    injection hx with hx; subst hx
    have := hn s.length rfl
    exact ⟨_, concL_bytes _, run_firstCells_list _ _ _ _, by simp [h1]; omega⟩
  · cases hc

theorem lenV_sound {x : V} {X : Value} {n : Nat} (h : lenV x = some n) (hx : conc ρ μ x = some X) (w : World) : (Builtin.lenOf X).run P w = .ok n w := by
  unfold lenV at h
  split at h
  · injection h with h; subst h
    obtain ⟨y, hy, _, rfl⟩ := conc_slice_any hx
    simp [Builtin.lenOf]
  · injection h with h; subst h
    simp only [conc] at hx; injection hx with hx; subst hx
    simp [Builtin.lenOf]
  · injection h with h; subst h
    simp only [conc] at hx; injection hx with hx; subst hx
    simp [Builtin.lenOf, str_size]
  · cases h

theorem run_copy' (hE : EnvOk P E) (hp : Plain ρ) {h h' : H} {w : World} (hh : HR E ρ μ h w) {dTy : Nat} {tys : Array TypeId} {ty : Nat} {d s v : V} {D S : Value} (ht : tys[0]? = some dTy) (hv : copyV E h dTy d s = some (v, h')) (hd : conc ρ μ d = some D) (hs : conc ρ μ s = some S) :
    Rs P E ρ μ w (Builtin.copy_ tys ty #[D, S]) v h' := by
  unfold copyV at hv
  split at hv
  · cases hv
  · rename_i i hi
    split at hv
    · rename_i e hde
      split at hv
      · rename_i ei dn sn hei hdn hsn
        simp only at hv
        split at hv
        · cases hv
        · rename_i cs hcs
          obtain ⟨C, c1, c2, c3⟩ := srcCells_sound (P := P) hh hcs hs (fun m hm => by rw [hsn] at hm; injection hm with hm; subst hm; exact Nat.min_le_left _ _)
          have ls := lenV_sound (P := P) hsn hs w
          split at hv
          · injection hv with hv
            obtain ⟨rfl, rfl⟩ := Prod.mk.inj hv
            simp only [conc] at hd
            injection hd with hd; subst hd
            simp only [lenV] at hdn
            injection hdn with hdn; subst hdn
            refine ⟨μ, .int .i64 0, w, Grows.refl _ _, hh, by simp [conc], ?_⟩
            simp [Builtin.copy_, ht, run_und hE hi w, hde, ls, run_size hE hei w, goInt]
            simp at c2
            simp [c2]
          · rename_i b o n c
            obtain ⟨h'', hs', e2⟩ := Option.map_eq_some_iff.1 hv
            obtain ⟨rfl, rfl⟩ := Prod.mk.inj e2
            simp only [lenV] at hdn
            injection hdn with hdn; subst hdn
            by_cases hn : 0 < n
            · obtain ⟨y, m', hy, rfl⟩ := conc_slice_pos hd hn
              obtain ⟨w', g1, g2, g3⟩ := storeL_sound (P := P) hp hh hs' hy c1
              refine ⟨μ, .int .i64 (Nat.min sn n), w', g1, g2, by simp only [conc], ?_⟩
              simp [Builtin.copy_, ht, run_und hE hi w, hde, ls, run_size hE hei w, goInt, c2, g3]
            · have hn : n = 0 := by omega
              subst hn
              obtain ⟨y, hy, hle, rfl⟩ := conc_slice_any hd
              have h0 : C = [] := by
                have : C.length = 0 := by rw [c3]; simp [Nat.min]
                simpa using this
              subst h0
              have hcs0 : cs = [] := by
                have := concL_length c1
                simpa using this.symm
              subst hcs0
              simp [storeL] at hs'; subst hs'
              rw [show sn.min 0 = 0 from Nat.min_zero sn] at c2
              refine ⟨μ, .int .i64 (Nat.min sn 0), w, Grows.refl _ _, hh, by simp only [conc], ?_⟩
              simp [Builtin.copy_, ht, run_und hE hi w, hde, ls, run_size hE hei w, goInt, c2, storeCells]
          · cases hv
      · cases hv
    · cases hv

theorem row1_sound {h : H} {w : World} (hh : HR E ρ μ h w) {elem need cap : Nat} {ei : TI} {cs : List V} {C : List Value} {w' : World} {rest : Array Value} (hc : concL ρ μ cs = some C) (hei : E.tys.get elem = some ei)
    (hn : C.length = need * ei.size) (hcap : need ≤ cap) (hr : rest.size = (cap - need) * ei.size) (hw : w'.heap = w.heap.push (.cells (C.toArray ++ rest) elem)) (ho : w'.os = w.os) (ht : w'.tape = w.tape) (hp : w'.output = w.output) :
    ∃ μ', Grows μ w μ' w' ∧ HR E ρ μ' (row h elem cs 1).2 w' ∧ μ' (row h elem cs 1).1 = some (w.heap.size, cap) := by
  refine ⟨_, Grows.alloc hh cap hw ho ht hp, HR.alloc hh ?_ hw, Mu.put_same _ _ _⟩
  have hl := concL_length hc
  have hsz : (C.toArray ++ rest).size = cap * ei.size := by
    simp only [Array.size_append, List.size_toArray, hn, hr, ← Nat.add_mul]
    congr 1; omega
  refine .cells (fun j v hv => ?_) (by simp only [Array.size_append, List.size_toArray]; omega) (fun q => by omega) (fun _ => ⟨ei, hei, hsz⟩) (fun _ => rfl) (fun q => by omega)
  rw [cellAt_row] at hv
  obtain ⟨X, e1, e2⟩ := concL_get hc hv
  refine ⟨X, conc_le (Mu.le_put _ (hh.fresh _ (Nat.le_refl _))) _ _ e2, ?_⟩
  have hj : j < C.length := by
    rcases Nat.lt_or_ge j C.length with h | h
    · exact h
    · rw [List.getElem?_eq_none h] at e1; cases e1
  rw [Array.getElem?_append_left (by simpa using hj)]
  simpa using e1

theorem bif_none {α : Type} {b : Bool} {x : Option α} {v : α} (h : (bif b then none else x) = some v) : b = false ∧ x = some v := by
  cases b with
  | true => cases h
  | false => exact ⟨rfl, h⟩

/-- What is appended, as the kit's laws of append have it. -/
theorem src_of (hp : Plain ρ) {h : H} {w : World} (hh : HR E ρ μ h w) {t2 size n : Nat} {x : V} {X : Value} {cs : List V} (hk : (∃ e', P.underlying t2 = some (.slice e')) ∨ P.underlying t2 = some .string)
    (hc : srcCells h size n x = some cs) (hx : conc ρ μ x = some X) (hl : lenV x = some n) (h1 : cs.all V.one = true) : ∃ C, concL ρ μ cs = some C ∧ C.length = n * size ∧ Src P size t2 X n C w := by
  obtain ⟨C, c1, c2, c3⟩ := srcCells_sound (P := P) hh hc hx (fun m hm => by rw [hl] at hm; injection hm with hm; omega)
  obtain ⟨C', c1', c2', _⟩ := srcCells_sound (P := P) (hh.same (w' := w.drew) rfl) hc hx (fun m hm => by rw [hl] at hm; injection hm with hm; omega)
  rw [c1] at c1'; injection c1' with c1'; subst c1'
  refine ⟨C, c1, c3, hk, fun w' => lenV_sound hl hx w', c2, c2', c3, fun u hu => ?_⟩
  obtain ⟨j, hj⟩ := List.mem_iff_getElem?.1 hu
  have hjl := List.getElem?_eq_some_iff.1 hj
  obtain ⟨hjl, _⟩ := hjl
  have hcl := concL_length c1
  have hjv : cs[j]? = some cs[j] := List.getElem?_eq_getElem (by omega)
  obtain ⟨Y, y1, y2⟩ := concL_get c1 hjv
  rw [hj] at y1; injection y1 with y1; subst y1
  obtain ⟨n1, n2⟩ := conc_one hp y2 (List.all_eq_true.1 h1 _ (List.getElem_mem _))
  cases u <;> first | rfl | exact absurd rfl (n1 _) | exact absurd rfl (n2 _)

/-- An append that grows. -/
theorem run_grow (hE : EnvOk P E) (hp : Plain ρ) {h : H} {w : World} (hh : HR E ρ μ h w) {e sCap sLen n t t2 ty : Nat} {ei i : TI} {old new : List V} {O N : List Value} {base : Option Addr} {X : Value}
    (hi : E.tys.get t = some i) (hd : i.desc = .slice e) (hei : E.tys.get e = some ei) (hs : Src P ei.size t2 X n N w)
    (hgrow : sCap < sLen + n) (hb : (sLen + n) * ei.bytes ≤ 140737488355328) (hb0 : 0 < ei.bytes)
    (ho : concL ρ μ old = some O) (hn : concL ρ μ new = some N) (hlen : O.length = sLen * ei.size)
    (hfo : (Builtin.firstCells ei.size sLen (.slice base sLen sCap)).run P w.drew = .ok O.toArray w.drew) :
    Rs P E ρ μ w (Builtin.append_ #[t, t2] ty #[.slice base sLen sCap, X]) (grow h e old new (sLen + n)).1 (grow h e old new (sLen + n)).2 := by
  obtain ⟨inf, z, v, h1, h2, h3, h4, h5, h6, h7, h8, h9, h10⟩ := hE.ty hei
  obtain ⟨inf', z', v', g1, g2, _⟩ := hE.ty hi
  rw [hd] at g2
  have hzs : z.cells.size = ei.size := by
    have := concL_length (conc_cells (ρ := ρ) (μ := μ) hp (ofValue_conc h6))
    rw [← h7, h10] at this
    simpa using this
  have hge := grownCap_ge w (sLen + n) sCap e
  have hN := hs.newsLen
  have hbig : sLen + n ≤ 140737488355328 := Nat.le_trans (Nat.le_mul_of_pos_right _ hb0) hb
  have run := run_append_grow_src (P := P) w t t2 ty e inf z g2 h1 h5 base sLen sCap O (by rw [h3]; exact hfo) X n N (by rw [h3]; exact hs) hgrow (by omega) (by rw [h4]; exact growslice_fits hgrow hb)
  generalize grownCap w (sLen + n) sCap e = cp at run hge
  obtain ⟨μ', k1, k2, k3⟩ := row1_sound (w' := w.drew.alloc (.cells ((O ++ N).toArray ++ Builtin.zeroCells z.cells (cp - (sLen + n))) e)) hh (concL_append ho hn) hei (cap := cp) (need := sLen + n)
    (by simp only [List.length_append, hlen, hN, Nat.add_mul]) hge (by simp [Builtin.zeroCells, hzs]) rfl rfl rfl rfl
  refine ⟨μ', .slice (some ⟨w.heap.size, 0, none⟩) (sLen + n) cp, _, k1, k2, ?_, run⟩
  have k3' : μ' h.next = some (w.heap.size, cp) := k3
  simp [grow, row, H.new, conc, k3', cslice, hge]

theorem H.del_get {h : H} {b c : Nat} {B : B} (hc : (h.t.del b).get c = some B) : c ≠ b ∧ h.t.get c = some B := by
  rw [T.get_del] at hc
  by_cases e : c = b
  · rw [if_pos e] at hc; cases hc
  · rw [if_neg e] at hc; exact ⟨e, hc⟩

theorem HR.del {h : H} {w : World} (k : HR E ρ μ h w) (b : Nat) : HR E ρ μ (H.mk (h.t.del b) h.next) w := by
  have live : ∀ c, ((h.t.del b).get c).isSome → (h.t.get c).isSome := by
    intro c hc
    obtain ⟨B, hB⟩ := Option.isSome_iff_exists.1 hc
    rw [(H.del_get hB).2]; rfl
  exact ⟨fun c B hB => k.blk c B (H.del_get hB).2, fun c c' y y' h1 h2 => k.inj c c' y y' (live c h1) (live c' h2), k.fresh, k.inb, k.glob⟩

/-- A block goes on under a new name. -/
theorem HR.move {h : H} {w w' : World} {b : Nat} {B0 B1 : B} {x : Nat × Nat} {o : Obj} (k : HR E ρ μ h w) (h0 : h.t.get b = some B0) (hx : μ b = some x)
    (hb : BR E ρ (μ.put h.next x) B1 x o) (hs : w'.heap.size = w.heap.size) (hsame : ∀ g, g ≠ x.1 → w'.heap[g]? = w.heap[g]?) (hat : w'.heap[x.1]? = some o) :
    HR E ρ (μ.put h.next x) (H.mk ((h.t.del b).set h.next B1) (Nat.succ h.next)) w' := by
  have hfr : μ h.next = none := k.fresh _ (Nat.le_refl _)
  have hle := Mu.le_put (μ := μ) x hfr
  have other : ∀ c B', ((h.t.del b).set h.next B1).get c = some B' → c ≠ h.next → c ≠ b ∧ h.t.get c = some B' := by
    intro c B' hc hne
    rw [T.get_set, if_neg hne] at hc
    exact H.del_get hc
  have hne : b ≠ h.next := by rintro rfl; rw [hfr] at hx; cases hx
  refine ⟨fun c B' hB' => ?_, fun c c' y y' hc hc' h1 h2 hn => ?_, fun c hc => ?_, fun c y hy => ?_, fun g cs hg => ?_⟩
  · by_cases e : c = h.next
    · subst e
      have hB'' : ((h.t.del b).set h.next B1).get h.next = some B' := hB'
      rw [T.get_set, if_pos rfl] at hB''
      injection hB'' with hB''
      subst hB''
      exact ⟨x, o, Mu.put_same _ _ _, hat, hb⟩
    · obtain ⟨e1, e2⟩ := other c B' hB' e
      obtain ⟨y, o', h1, h2, h3⟩ := k.blk c B' e2
      refine ⟨y, o', hle _ _ h1, ?_, h3.le hle⟩
      rw [hsame]
      · exact h2
      · exact k.inj c b y x (by rw [e2]; rfl) (by rw [h0]; rfl) h1 hx e1
  · obtain ⟨B2, hB2⟩ := Option.isSome_iff_exists.1 hc
    obtain ⟨B3, hB3⟩ := Option.isSome_iff_exists.1 hc'
    by_cases e : c = h.next
    · subst e
      rw [Mu.put_same] at h1; injection h1 with h1; subst h1
      obtain ⟨e1, e2⟩ := other c' B3 hB3 (Ne.symm hn)
      rw [Mu.put_other _ _ (Ne.symm hn)] at h2
      exact (k.inj c' b y' x (by rw [e2]; rfl) (by rw [h0]; rfl) h2 hx e1).symm
    · obtain ⟨e1, e2⟩ := other c B2 hB2 e
      rw [Mu.put_other _ _ e] at h1
      by_cases e' : c' = h.next
      · subst e'
        rw [Mu.put_same] at h2; injection h2 with h2; subst h2
        exact k.inj c b y x (by rw [e2]; rfl) (by rw [h0]; rfl) h1 hx e1
      · obtain ⟨e1', e2'⟩ := other c' B3 hB3 e'
        rw [Mu.put_other _ _ e'] at h2
        exact k.inj c c' y y' (by rw [e2]; rfl) (by rw [e2']; rfl) h1 h2 hn
  · have hc' : h.next + 1 ≤ c := hc
    rw [Mu.put_other _ _ (by omega)]
    exact k.fresh c (by omega)
  · rw [hs]
    by_cases e : c = h.next
    · subst e; rw [Mu.put_same] at hy; injection hy with hy; rw [← hy]; exact k.inb b x hx
    · rw [Mu.put_other _ _ e] at hy; exact k.inb c y hy
  · obtain ⟨⟨arr, e, fz, X, h1, h2, h3⟩, h4⟩ := k.glob g cs hg
    refine ⟨⟨arr, e, fz, X, by rw [hsame g (fun e => h4 b x hx e.symm)]; exact h1, h2, h3⟩, fun c y hy => ?_⟩
    by_cases e : c = h.next
    · subst e; rw [Mu.put_same] at hy; injection hy with hy; rw [← hy]; exact h4 b x hx
    · rw [Mu.put_other _ _ e] at hy; exact h4 c y hy

theorem Grows.move {h : H} {w w' : World} {b : Nat} {x : Nat × Nat} (k : HR E ρ μ h w) (hx : μ b = some x) (hs : w'.heap.size = w.heap.size) (hsame : ∀ g, g ≠ x.1 → w'.heap[g]? = w.heap[g]?)
    (ho : w'.os = w.os) (ht : w'.tape = w.tape) (hp : w'.output = w.output) : Grows μ w (μ.put h.next x) w' := by
  refine ⟨Mu.le_put _ (k.fresh _ (Nat.le_refl _)), fun c y hy => ?_, ho, ht, hp, by omega, fun g _ hn => hsame g (fun e => hn b x hx e.symm)⟩
  by_cases e : c = h.next
  · subst e; rw [Mu.put_same] at hy; injection hy with hy; subst hy; exact .inr (.inr ⟨b, x, hx, rfl⟩)
  · rw [Mu.put_other _ _ e] at hy; exact .inl hy

/-- There is room: what is appended is stored. -/
theorem run_room {w w' : World} {t t2 ty e sLen n sCap : Nat} {inf : TypeInfo} {a : Addr} {X : Value} {N : List Value} (ht : P.underlying t = some (.slice e)) (hi : P.info? e = some inf) (hs : Src P inf.size t2 X n N w) (hroom : sLen + n ≤ sCap)
    (hst : (storeCells (a.add (sLen * inf.size)) N).run P w = .ok () w') : (Builtin.append_ #[t, t2] ty #[.slice (some a) sLen sCap, X]).run P w = .ok (.slice (some a) (sLen + n) sCap) w' := by
  rcases hs.kind with ⟨e', hk⟩ | hk <;> simp [Builtin.append_, run_underlying ht, run_underlying hk, sizeOf, typeInfo, hi, hs.len, hroom, hs.cells, hst]

theorem ble_mul {a b c : Nat} (h : a * c ≤ b * c) (hc : 0 < c) : a ≤ b := Nat.le_of_mul_le_mul_right h hc

theorem run_append' (hE : EnvOk P E) (hp : Plain ρ) {h h' : H} {w : World} (hh : HR E ρ μ h w) {t t2 : Nat} {ty : Nat} {j : TI} {s x v : V} {S X : Value} (hj : E.tys.get t2 = some j) (hk : (∃ e', j.desc = .slice e') ∨ j.desc = .string)
    (hv : appendV E h t s x = some (v, h')) (hs : conc ρ μ s = some S) (hx : conc ρ μ x = some X) :
    Rs P E ρ μ w (Builtin.append_ #[t, t2] ty #[S, X]) v h' := by
  have hk' : (∃ e', P.underlying t2 = some (.slice e')) ∨ P.underlying t2 = some .string := by
    obtain ⟨_, _, _, _, q, _⟩ := hE.ty hj
    rcases hk with ⟨e', hk⟩ | hk
    · exact .inl ⟨e', by rw [q, hk]⟩
    · exact .inr (by rw [q, hk])
  unfold appendV at hv
  split at hv
  · cases hv
  · rename_i i hi
    split at hv
    · rename_i e hd
      split at hv
      · rename_i ei n hei hn
        split at hv
        · cases hv
        · rename_i new hnew
          obtain ⟨hone, hv⟩ := bif_none hv
          simp only [Bool.not_eq_false'] at hone
          obtain ⟨N, n1, n2, hsrc⟩ := src_of (P := P) hp hh hk' hnew hx hn hone
          obtain ⟨inf, z, _, q1, q2, q3, q4, _⟩ := hE.ty hei
          obtain ⟨inf', z', _, r1, r2, _⟩ := hE.ty hi
          rw [hd] at r2
          split at hv
          · -- a nil slice
            simp only [conc] at hs
            injection hs with hs; subst hs
            split at hv
            · injection hv with hv
              obtain ⟨rfl, rfl⟩ := Prod.mk.inj hv
              have hN : N = [] := by simpa using n2
              subst hN
              exact ⟨μ, .slice none 0 0, w, Grows.refl _ _, hh, by simp [conc], run_append_nothing w t t2 ty e inf r2 q1 none 0 0 (Nat.le_refl _) X (by rw [q3]; exact hsrc)⟩
            · rename_i hn0
              obtain ⟨hb, hv⟩ := bif_some hv
              simp only [Bool.and_eq_true] at hb
              have hb1 := Nat.le_of_ble_eq_true hb.1
              have hb2 : 0 < ei.bytes := by simpa using hb.2
              injection hv with hv
              have hpos : 0 < n := Nat.pos_of_ne_zero hn0
              have := run_grow (ty := ty) (sLen := 0) (sCap := 0) (base := none) (old := []) (O := []) hE hp hh hi hd hei hsrc (by omega) (by simpa using hb1) hb2 (by simp [concL]) n1 (by simp) (by simp [Builtin.firstCells])
              rw [Nat.zero_add, hv] at this
              exact this
          · rename_i b o m c _
            simp only at hv
            obtain ⟨hb, hv⟩ := bif_none hv
            simp only [Bool.not_eq_false', Bool.and_eq_true] at hb
            have hb1 := Nat.le_of_ble_eq_true hb.1.1
            have hb2 : 0 < ei.bytes := by simpa using hb.1.2
            have hb3 : 0 < ei.size := by simpa using hb.2
            cases c with
            | lit cp =>
              simp only at hv
              obtain ⟨y, hy, hle, rfl⟩ := conc_slice_lit hs
              cases hroom : Nat.ble (m + n) cp with
              | true =>
                rw [hroom, cond_true] at hv
                have hroom := Nat.le_of_ble_eq_true hroom
                obtain ⟨h'', hst, e2⟩ := Option.map_eq_some_iff.1 hv
                obtain ⟨rfl, rfl⟩ := Prod.mk.inj e2
                obtain ⟨w', g1, g2, g3⟩ := storeL_sound (P := P) hp hh hst hy n1
                refine ⟨μ, _, w', g1, g2, ?_, run_room r2 q1 (by rw [q3]; exact hsrc) hroom (by rw [q3, Addr.add_lit]; exact g3)⟩
                simp [conc, hy, cslice, hroom]
              | false =>
                rw [hroom, cond_false] at hv
                have hroom : cp < m + n := by
                  rcases Nat.lt_or_ge cp (m + n) with q | q
                  · exact q
                  · rw [Nat.ble_eq_true_of_le q] at hroom; cases hroom
                split at hv
                · rename_i old hold
                  injection hv with hv
                  obtain ⟨O, o1, o2, o3⟩ := srcCells_sound (P := P) (hh.same (w' := w.drew) rfl) hold hs (fun m' hm => by simp only [lenV] at hm; injection hm with hm; omega)
                  have := run_grow (ty := ty) hE hp hh hi hd hei hsrc hroom hb1 hb2 o1 n1 o3 o2
                  rw [hv] at this
                  exact this
                · cases hv
            | opn el o' =>
              simp only at hv
              obtain ⟨y, hy, hle, rfl⟩ := conc_slice_any hs
              simp only [ccap, cbeg] at hle ⊢
              split at hv
              · rename_i T k d be kind hbk
                obtain ⟨hbe, hv⟩ := bif_none hv
                simp only [Bool.not_eq_false', Bool.and_eq_true, Bool.or_eq_true] at hbe
                have hbe1 := Nat.eq_of_beq_eq_true hbe.1
                subst hbe1
                have hkd : kind = 1 ∨ kind = 2 := by rcases hbe.2 with q | q <;> simp [Nat.eq_of_beq_eq_true q]
                have hk0 : kind ≠ 0 := by rcases hkd with q | q <;> rw [q] <;> decide
                obtain ⟨y', ob, e1, e2, e3⟩ := hh.blk b _ hbk
                rw [hy] at e1; injection e1 with e1; subst e1
                cases e3 with
                | @cells _ _ _ _ _ _ arr fz hc hnn h0 ho hf hf2 =>
                obtain ⟨ei', hei', harr⟩ := ho hkd
                rw [hei] at hei'; injection hei' with hei'; subst hei'
                cases hroom : Nat.ble ((el + (m + n)) * ei.size) k with
                | true =>
                  rw [hroom, cond_true] at hv
                  have hroom := Nat.le_of_ble_eq_true hroom
                  have hcap : el + (m + n) ≤ y.2 := ble_mul (c := ei.size) (by omega) hb3
                  obtain ⟨h'', hst, e2'⟩ := Option.map_eq_some_iff.1 hv
                  obtain ⟨rfl, rfl⟩ := Prod.mk.inj e2'
                  by_cases hz : y.2 - el = 0
                  · have hm0 : m = 0 := by omega
                    have hn0 : n = 0 := by omega
                    subst hm0 hn0
                    have hN : N = [] := by simpa using n2
                    subst hN
                    have hnew0 : new = [] := by have := concL_length n1; simpa using this.symm
                    subst hnew0
                    simp [storeL] at hst; subst hst
                    refine ⟨μ, _, w, Grows.refl _ _, hh, ?_, run_append_nothing w t t2 ty be inf r2 q1 _ 0 _ (Nat.zero_le _) X (by rw [q3]; exact hsrc)⟩
                    simp [conc, hy, cslice]
                  · rw [if_neg hz]
                    obtain ⟨w', g1, g2, g3⟩ := storeL_sound (P := P) hp hh hst hy n1
                    refine ⟨μ, _, w', g1, g2, ?_, run_room r2 q1 (by rw [q3]; exact hsrc) (by omega) (by rw [q3, Addr.add_lit]; exact g3)⟩
                    simp only [conc, hy, cslice, Option.bind_some]
                    rw [if_pos (by omega), if_neg hz]
                | false =>
                  rw [hroom, cond_false] at hv
                  split at hv
                  · split at hv
                    · obtain ⟨hmk, hv⟩ := bif_some hv
                      have hmk := Nat.le_of_ble_eq_true hmk
                      injection hv with hv
                      obtain ⟨rfl, rfl⟩ := Prod.mk.inj hv
                      have hl := concL_length n1
                      have hif : (if y.2 - 0 = 0 then 0 else 0) = 0 := by simp
                      rw [hif]
                      simp only [Nat.sub_zero] at hle ⊢
                      by_cases hroom' : m + n ≤ y.2
                      · -- in place
                        have hsz : m * ei.size + N.length ≤ arr.size := by
                          rw [n2, harr, ← Nat.add_mul]; exact Nat.mul_le_mul_right _ hroom'
                        have hst := run_storeCells (P := P) N w y.1 (m * ei.size) 0 arr be fz e2 (by omega) (fun j a1 a2 => by
                          by_cases hk2 : kind = 2
                          · rcases hf2 hk2 with q | q
                            · rw [q]; simp
                            · omega
                          · rw [hf hk2]; simp) (fun u hu => by
                          have := hsrc.one u hu
                          constructor <;> rintro q rfl <;> cases this)
                        simp only [Nat.add_zero] at hst
                        have hst' : (storeCells (Addr.add ⟨y.1, 0, none⟩ (m * inf.size)) N).run P w = .ok () (World.at_ w y.1 (.cells (splice arr (m * ei.size) N) be fz)) := by
                          rw [q3, Addr.add_lit, Nat.zero_add]; exact hst
                        refine ⟨μ.put h.next y, _, _, Grows.move hh hy at_size (fun g hg => at_other hg) rfl rfl rfl, HR.move hh hbk hy ?_ at_size (fun g hg => at_other hg) (at_same (lt_of_some e2)), ?_, run_room r2 q1 (by rw [q3]; exact hsrc) hroom' hst'⟩
                        · refine .cells (fun j u hu => ?_) ?_ (fun q => absurd q hk0) (fun _ => ⟨ei, hei, by rw [splice_size hsz]; exact harr⟩) hf (fun q => by rw [splice_size hsz]; exact hf2 q)
                          · rw [cellAt_putL (by rw [← hl, n2, ← Nat.add_mul]; exact Nat.le_refl _)] at hu
                            rw [splice_get hsz]
                            by_cases hjj : m * ei.size ≤ j ∧ j < m * ei.size + new.length
                            · rw [if_pos hjj] at hu
                              rw [if_pos (by omega)]
                              obtain ⟨Y, y1, y2⟩ := concL_get n1 hu
                              exact ⟨Y, conc_le (Mu.le_put _ (hh.fresh _ (Nat.le_refl _))) _ _ y2, y1⟩
                            · rw [if_neg hjj] at hu
                              rw [if_neg (by omega)]
                              have hjlt : j < m * ei.size := by
                                have hjn : j < (m + n) * ei.size := by
                                  rcases Nat.lt_or_ge j ((m + n) * ei.size) with q | q
                                  · exact q
                                  · unfold cellAt at hu
                                    have : Nat.blt j ((m + n) * ei.size) = false := by
                                      cases hbb : Nat.blt j ((m + n) * ei.size) with
                                      | false => rfl
                                      | true => have : j < (m + n) * ei.size := by simpa using hbb
                                                omega
                                    rw [this] at hu; cases hu
                                rw [Nat.add_mul] at hjn
                                omega
                              have hu' : cellAt T k d j = some u := by
                                unfold cellAt at hu ⊢
                                have c1 : Nat.blt j k = true := by simp; omega
                                have c2 : Nat.blt j ((m + n) * ei.size) = true := by simp [Nat.add_mul]; omega
                                rw [c2] at hu; rw [c1]; exact hu
                              obtain ⟨Y, y1, y2⟩ := hc j u hu'
                              exact ⟨Y, conc_le (Mu.le_put _ (hh.fresh _ (Nat.le_refl _))) _ _ y1, y2⟩
                          · rw [splice_size hsz, harr]; exact Nat.mul_le_mul_right _ hroom'
                        · simp [conc, Mu.put_same, cslice, hroom']
                      · -- a new row
                        have hold : m * ei.size ≤ arr.size := by omega
                        have hO : (Builtin.firstCells inf.size m (.slice (some ⟨y.1, 0, none⟩) m y.2)).run P w.drew = .ok (arr.toList.take (m * ei.size)).toArray w.drew := by
                          simp only [Builtin.firstCells, q3]
                          refine run_cells (fun j Y hj => ?_) (by simp; omega)
                          have hj' : arr[j]? = some Y := by
                            rw [List.getElem?_take] at hj
                            split at hj
                            · simpa using hj
                            · cases hj
                          have e2d : w.drew.heap[y.1]? = some (.cells arr be fz) := e2
                          simp [World.cell?, e2d, hj']
                        have hbig : m + n ≤ 140737488355328 := Nat.le_trans (Nat.le_mul_of_pos_right _ hb2) hb1
                        have hge := grownCap_ge w (m + n) y.2 be
                        obtain ⟨_, z0, v0, s1, _, _, _, s5, s6, s7, _, _, s10⟩ := hE.ty hei
                        rw [q1] at s1; injection s1 with s1; subst s1
                        have hzs : z0.cells.size = ei.size := by
                          have := concL_length (conc_cells (ρ := ρ) (μ := μ) hp (ofValue_conc s6))
                          rw [← s7, s10] at this
                          simpa using this
                        have run := run_append_grow_src (P := P) w t t2 ty be inf z0 r2 q1 s5 (some ⟨y.1, 0, none⟩) m y.2 _ hO X n N (by rw [q3]; exact hsrc) (by omega) (by omega) (by rw [q4]; exact growslice_fits (by omega) hb1)
                        generalize grownCap w (m + n) y.2 be = cp at run hge
                        have hsz : ((arr.toList.take (m * ei.size) ++ N).toArray ++ Builtin.zeroCells z0.cells (cp - (m + n))).size = cp * ei.size := by
                          have e5 : (arr.toList.take (m * ei.size)).length = m * ei.size := by simp; omega
                          simp only [Builtin.zeroCells, Array.size_append, List.size_toArray, List.length_append, e5, n2, Array.size_map, Array.size_range, hzs, ← Nat.add_mul]
                          congr 1; omega
                        refine ⟨μ.put h.next (w.heap.size, cp), _, w.drew.alloc (.cells ((arr.toList.take (m * ei.size) ++ N).toArray ++ Builtin.zeroCells z0.cells (cp - (m + n))) be), Grows.alloc hh cp rfl rfl rfl rfl, HR.alloc (hh.del b) (o := .cells ((arr.toList.take (m * ei.size) ++ N).toArray ++ Builtin.zeroCells z0.cells (cp - (m + n))) be) (cap := cp) ?_ rfl, ?_, run⟩
                        · refine .cells (fun j u hu => ?_) ?_ (fun q => absurd q hk0) (fun _ => ⟨ei, hei, hsz⟩) (fun _ => rfl) (fun _ => .inl rfl)
                          · have hjn : j < (m + n) * ei.size := by
                              rcases Nat.lt_or_ge j ((m + n) * ei.size) with q | q
                              · exact q
                              · unfold cellAt at hu
                                have : Nat.blt j ((m + n) * ei.size) = false := by
                                  cases hbb : Nat.blt j ((m + n) * ei.size) with
                                  | false => rfl
                                  | true => have : j < (m + n) * ei.size := by simpa using hbb
                                            omega
                                rw [this] at hu; cases hu
                            have e5 : (arr.toList.take (m * ei.size)).length = m * ei.size := by simp; omega
                            rw [Nat.add_mul] at hjn
                            rw [cellAt_putL (by rw [← hl, n2, ← Nat.add_mul]; exact Nat.le_refl _)] at hu
                            have hlt : j < (arr.toList.take (m * ei.size) ++ N).toArray.size := by rw [List.size_toArray, List.length_append, e5, n2]; exact hjn
                            rw [Array.getElem?_append_left hlt]
                            by_cases hjj : m * ei.size ≤ j ∧ j < m * ei.size + new.length
                            · rw [if_pos hjj] at hu
                              obtain ⟨Y, y1, y2⟩ := concL_get n1 hu
                              refine ⟨Y, conc_le (Mu.le_put _ (hh.fresh _ (Nat.le_refl _))) _ _ y2, ?_⟩
                              rw [List.getElem?_toArray, List.getElem?_append_right (by omega), e5]
                              exact y1
                            · rw [if_neg hjj] at hu
                              have hjlt : j < m * ei.size := by omega
                              have hu' : cellAt T k d j = some u := by
                                unfold cellAt at hu ⊢
                                have c1 : Nat.blt j k = true := by simp; omega
                                have c2 : Nat.blt j ((m + n) * ei.size) = true := by simp [Nat.add_mul]; omega
                                rw [c2] at hu; rw [c1]; exact hu
                              obtain ⟨Y, y1, y2⟩ := hc j u hu'
                              refine ⟨Y, conc_le (Mu.le_put _ (hh.fresh _ (Nat.le_refl _))) _ _ y1, ?_⟩
                              rw [List.getElem?_toArray, List.getElem?_append_left (by omega), List.getElem?_take, if_pos hjlt]
                              simpa using y2
                          · rw [hsz]; exact Nat.mul_le_mul_right _ hge
                        · simp [conc, Mu.put_same, cslice, hge]
                    · cases hv
                  · cases hv
              · cases hv
          · cases hv
      · cases hv
    · cases hv
end
end Go.Ev
