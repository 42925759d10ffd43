/- Conversions and lengths. -/
import Derived.Test.YtloblhhnlaaajaaDoorEv12
import Derived.Laws.IdiomStrings
namespace Go.Ev
open Go

section
variable {P : Program} {E : Env} {ρ : Rho} {μ : Mu}

theorem allU8_sound : ∀ {cs : List V} {s : List UInt8} {C : List Value}, allU8 cs = some s → concL ρ μ cs = some C → C = (s.map (fun b => (b.toNat : Int))).map (Value.int .u8) ∨ ∃ ns : List Int, C = ns.map (Value.int .u8) ∧ ns.length = s.length ∧ ∀ (i : Nat) n, ns[i]? = some n → s[i]? = some (UInt8.ofNat n.toNat)
  | [], s, C, h, hc => by simp [allU8] at h; subst h; simp [concL] at hc; subst hc; exact .inl rfl
  | v :: r, s, C, h, hc => by
    right
    simp only [allU8] at h
    obtain ⟨x, l, rfl, hx, hr⟩ := concL_cons hc
    split at h
    · cases h
    · rename_i c hv
      split at h
      · cases h
      · rename_i l' hl
        injection h with h; subst h
        unfold asU8 at hv
        split at hv
        · rename_i n
          injection hv with hv; subst hv
          simp only [conc] at hx; injection hx with hx; subst hx
          have ih := allU8_sound hl hr
          have ih' : ∃ ns : List Int, l = ns.map (Value.int .u8) ∧ ns.length = l'.length ∧ ∀ (i : Nat) n, ns[i]? = some n → l'[i]? = some (UInt8.ofNat n.toNat) := by
            rcases ih with rfl | h
            · refine ⟨_, rfl, by simp, fun i n hi => ?_⟩
              simp only [List.getElem?_map, Option.map_eq_some_iff] at hi
              obtain ⟨b, hb, rfl⟩ := hi
              simp [hb]
            · exact h
          obtain ⟨ns, rfl, h2, h3⟩ := ih'
          refine ⟨n :: ns, rfl, by simp [h2], fun i m hi => ?_⟩
          cases i with
          | zero => simp at hi; subst hi; rfl
          | succ i => simpa using h3 i m (by simpa using hi)
        · cases hv

theorem push_all : ∀ (ns : List Int) (r : ByteArray), (ns.foldl (fun r n => r.push (UInt8.ofNat n.toNat)) r) = ⟨r.data ++ (ns.map fun n => UInt8.ofNat n.toNat).toArray⟩
  | [], r => by simp
  | n :: ns, r => by
    simp only [List.foldl_cons]
    rw [push_all ns]
    simp [ByteArray.push]

theorem bytes_of_cells {cs : List V} {s : List UInt8} {C : List Value} (h : allU8 cs = some s) (hc : concL ρ μ cs = some C) :
    ∃ ns : List Int, C = ns.map (Value.int .u8) ∧ (ns.map fun n => UInt8.ofNat n.toNat) = s := by
  rcases allU8_sound h hc with rfl | ⟨ns, rfl, h2, h3⟩
  · refine ⟨_, rfl, ?_⟩
    apply List.ext_getElem?
    intro i
    simp only [List.getElem?_map, Option.map_map]
    cases s[i]? <;> simp
  · refine ⟨ns, rfl, ?_⟩
    apply List.ext_getElem?
    intro i
    rw [List.getElem?_map]
    cases hi : ns[i]? with
    | none =>
      have : ns.length ≤ i := List.getElem?_eq_none_iff.1 hi
      rw [List.getElem?_eq_none (by omega)]; rfl
    | some n => rw [h3 i n hi]; rfl

theorem run_conv (hE : EnvOk P E) {h h' : H} {w : World} (hh : HR E ρ μ h w) {src dst : Nat} {x v : V} {X : Value} (hv : convV E h src dst x = some (v, h')) (hx : conc ρ μ x = some X) :
    Rs P E ρ μ w (convert src dst X) v h' := by
  unfold convV at hv
  split at hv
  · rename_i i j hi hj
    have ui := run_und hE hi w
    have uj := run_und hE hj w
    obtain ⟨_, _, _, _, pi, _⟩ := hE.ty hi
    obtain ⟨_, _, _, _, pj, _⟩ := hE.ty hj
    split at hv
    · rename_i k k' n hd
      injection hv with hv
      obtain ⟨rfl, rfl⟩ := Prod.mk.inj hv
      simp only [conc] at hx; injection hx with hx; subst hx
      refine ⟨μ, .int k (k.wrap n), w, Grows.refl _ _, hh, by simp [conc], ?_⟩
      simp only [convert, Sem.run_bind, ui, uj, Result.andThen_ok, hd]
      cases i.desc <;> rfl
    · rename_i s hd1 hd2
      injection hv with hv
      obtain ⟨rfl, rfl⟩ := Prod.mk.inj hv
      simp only [conc] at hx; injection hx with hx; subst hx
      refine ⟨μ, .string ⟨s.toArray⟩, w, Grows.refl _ _, hh, by simp [conc], ?_⟩
      simp [convert, ui, uj, hd1, hd2]
    · rename_i e s hd1 hd2
      split at hv
      · rename_i ei hei
        obtain ⟨_, _, _, _, pe, _⟩ := hE.ty hei
        split at hv
        · rename_i hde
          obtain ⟨hs1, hv⟩ := bif_some hv
          have hs1 := Nat.eq_of_beq_eq_true hs1
          injection hv with hv
          obtain ⟨rfl, rfl⟩ := Prod.mk.inj hv
          simp only [conc] at hx; injection hx with hx; subst hx
          have run := run_bytes_of_string (P := P) w src dst e ⟨s.toArray⟩ (by rw [pi, hd1]) (by rw [pj, hd2]) (by rw [pe, hde])
          rw [str_size] at run
          have hge := grownCap_ge w s.length 0 e
          generalize grownCap w s.length 0 e = cp at run hge
          have hsz : (bytesRow ⟨s.toArray⟩ cp).size = cp := by
            simp only [bytesRow, Array.size_append, Array.size_map, Array.size_replicate, str_size]
            simp; omega
          refine ⟨μ.put h.next (w.heap.size, cp), _, w.drew.alloc (.cells (bytesRow ⟨s.toArray⟩ cp) e ((bytesRow ⟨s.toArray⟩ cp).size, (bytesRow ⟨s.toArray⟩ cp).size + 1)), Grows.alloc hh cp rfl rfl rfl rfl, HR.alloc hh (B := .cells (T.putL .lf 0 (s.map fun c => .int .u8 c.toNat)) (s.map fun c => V.int .u8 c.toNat).length [.nilp] e 2) ?_ rfl, ?_, run⟩
          · refine .cells (fun j u hu => ?_) (by rw [hsz]; simpa using hge) (fun q => by cases q) (fun _ => ⟨ei, hei, by rw [hsz, hs1]; simp⟩) (fun q => absurd rfl q) (fun _ => .inr rfl)
            rw [cellAt_row, List.getElem?_map, Option.map_eq_some_iff] at hu
            obtain ⟨c, hc, rfl⟩ := hu
            refine ⟨.int .u8 c.toNat, by simp [conc], ?_⟩
            have hj := (List.getElem?_eq_some_iff.1 hc).1
            simp only [bytesRow]
            rw [Array.getElem?_append_left (by simpa using hj)]
            simp [hc]
          · simp [conc, Mu.put_same, cslice, hge]
        · cases hv
      · cases hv
    · rename_i e hd1 hd2
      split at hv
      · rename_i ei hei
        obtain ⟨_, _, _, _, pe, _⟩ := hE.ty hei
        split at hv
        · rename_i hde
          injection hv with hv
          obtain ⟨rfl, rfl⟩ := Prod.mk.inj hv
          simp only [conc] at hx; injection hx with hx; subst hx
          refine ⟨μ, .string ⟨[].toArray⟩, w, Grows.refl _ _, hh, by simp [conc], ?_⟩
          rw [run_convert_bytes_string w src dst e none 0 0 (by rw [pi, hd1]) (by rw [pe, hde]) (by rw [pj, hd2])]
          simp [Conv.bytesToString]
          rfl
        · cases hv
      · cases hv
    · rename_i e b o n c hd1 hd2
      split at hv
      · rename_i ei hei
        obtain ⟨_, _, _, _, pe, _⟩ := hE.ty hei
        split at hv
        · rename_i hde
          split at hv
          · injection hv with hv
            obtain ⟨rfl, rfl⟩ := Prod.mk.inj hv
            obtain ⟨y, hy, _, rfl⟩ := conc_slice_any hx
            refine ⟨μ, .string ⟨[].toArray⟩, w, Grows.refl _ _, hh, by simp [conc], ?_⟩
            rw [run_convert_bytes_string w src dst e _ 0 _ (by rw [pi, hd1]) (by rw [pe, hde]) (by rw [pj, hd2])]
            exact run_bytesToString w _ 0 _ [] (by simp only [loadCells, loadCellsFrom, List.map_nil]; rfl)
          · rename_i hn0
            split at hv
            · rename_i t m d be kind hb
              split at hv
              · rename_i cs hcs
                obtain ⟨s, hs, e2⟩ := Option.map_eq_some_iff.1 hv
                obtain ⟨rfl, rfl⟩ := Prod.mk.inj e2
                obtain ⟨y, m', hy, rfl⟩ := conc_slice_pos hx (Nat.pos_of_ne_zero hn0)
                obtain ⟨L, l1, l2, l3⟩ := cellsFrom_sound hh hb hy hcs
                obtain ⟨ns, rfl, n2⟩ := bytes_of_cells hs l1
                refine ⟨μ, .string ⟨s.toArray⟩, w, Grows.refl _ _, hh, by simp [conc], ?_⟩
                rw [run_convert_bytes_string w src dst e _ n _ (by rw [pi, hd1]) (by rw [pe, hde]) (by rw [pj, hd2])]
                rw [run_bytesToString w _ n _ ns (run_cells l3 l2), push_all, n2]
                simp [ByteArray.empty, ByteArray.emptyWithCapacity]
                rfl
              · cases hv
            · cases hv
        · cases hv
      · cases hv
    · cases hv
  · cases hv

theorem run_lenB (hE : EnvOk P E) {h : H} {w : World} (hh : HR E ρ μ h w) {t ty : Nat} {tys : Array TypeId} {x v : V} {X : Value} (ht : tys[0]? = some t) (hv : lenB E h t x = some v) (hx : conc ρ μ x = some X) :
    ∃ Y, conc ρ μ v = some Y ∧ (Builtin.len_ tys ty #[X]).run P w = .ok Y w := by
  unfold lenB at hv
  split at hv
  · cases hv
  · rename_i i hi
    have ui := run_und hE hi w
    split at hv
    · rename_i s hd
      injection hv with hv; subst hv
      simp only [conc] at hx; injection hx with hx; subst hx
      exact ⟨.int .i64 s.length, by simp only [conc], by simp [Builtin.len_, ht, ui, hd, goInt, str_size]⟩
    · rename_i n e hd
      injection hv with hv; subst hv
      refine ⟨.int .i64 n, by simp [conc], ?_⟩
      simp [Builtin.len_, ht, ui, hd, goInt]
    · rename_i a hd
      split at hv
      · rename_i j hj
        have uj := run_und hE hj w
        split at hv
        · rename_i n e hdj
          injection hv with hv; subst hv
          refine ⟨.int .i64 n, by simp [conc], ?_⟩
          simp [Builtin.len_, ht, ui, hd, uj, hdj, goInt]
        · cases hv
      · cases hv
    · rename_i e b o n c hd
      injection hv with hv; subst hv
      obtain ⟨y, hy, _, rfl⟩ := conc_slice_any hx
      exact ⟨.int .i64 n, by simp only [conc], by simp [Builtin.len_, ht, ui, hd, goInt]⟩
    · rename_i e hd
      injection hv with hv; subst hv
      simp only [conc] at hx; injection hx with hx; subst hx
      exact ⟨.int .i64 0, by simp only [conc], by simp [Builtin.len_, ht, ui, hd, goInt]⟩
    · rename_i k e hd
      injection hv with hv; subst hv
      simp only [conc] at hx; injection hx with hx; subst hx
      exact ⟨.int .i64 0, by simp only [conc], by simp [Builtin.len_, ht, ui, hd, goInt]⟩
    · rename_i k e b hd
      split at hv
      · rename_i es clock hb
        injection hv with hv; subst hv
        simp only [conc] at hx
        obtain ⟨y, hy, rfl⟩ := Option.map_eq_some_iff.1 hx
        obtain ⟨y', ob, e1, e2, e3⟩ := hh.blk b _ hb
        rw [hy] at e1; injection e1 with e1; subst e1
        cases e3 with
        | @map _ _ _ arr he hc =>
          refine ⟨.int .i64 es.length, by simp only [conc], ?_⟩
          simp [Builtin.len_, ht, ui, hd, goInt, getObj, Sem.run, e2, he]
      · cases hv
    · cases hv
end
end Go.Ev
