/- Part 02 of the proof of a law: the interpreter, its soundness, and what functions of the program compute over it. Conditions: none but those that each theorem names. -/
import Derived.Test.YtglbhjmpemiijaaGreatDoorA01
import Derived.CallsIn
import Derived.ControlIn
import Derived.LoopNIn
import Derived.OrdersIn
import Derived.RangeFuncCalls

section
namespace Go.Lite
open Go
set_option linter.unusedSimpArgs false
set_option linter.unusedVariables false

/-- A block reads as it did. -/
def SameBlk (w w' : World) (b : Nat) : Prop := (∀ o, w'.cell? ⟨b, o, none⟩ = w.cell? ⟨b, o, none⟩) ∧ ∀ o, w'.frozen? ⟨b, o, none⟩ = w.frozen? ⟨b, o, none⟩

theorem SameBlk.of_heap {w w' : World} {b : Nat} (h : w'.heap[b]? = w.heap[b]?) : SameBlk w w' b :=
  ⟨fun o => by simp [World.cell?, h], fun o => by simp [World.frozen?, h]⟩

theorem SameBlk.alloc {w : World} {b : Nat} (o : Obj) (h : b < w.heap.size) : SameBlk w (w.alloc o) b :=
  ⟨fun i => World.cell?_alloc_lt _ _ _ h, fun i => World.frozen?_alloc_old _ _ _ (by simp; omega)⟩

theorem SameBlk.trans {w w' w'' : World} {b : Nat} (h : SameBlk w w' b) (k : SameBlk w' w'' b) : SameBlk w w'' b :=
  ⟨fun o => (k.1 o).trans (h.1 o), fun o => (k.2 o).trans (h.2 o)⟩

theorem EndB.same {w w' : World} {b : Nat} (h : EndB w b) (hs : SameBlk w w' b) : EndB w' b := fun k hk => by rw [hs.2]; exact h k (by rw [← hs.1]; exact hk)

theorem CellsAt.same {μ : Mu} {w w' : World} {b o : Nat} {cs : List V} (h : CellsAt μ w b o cs) (hs : SameBlk w w' b) : CellsAt μ w' b o cs :=
  fun j v hv => let ⟨u, h1, h2⟩ := h j v hv; ⟨u, by rw [hs.1]; exact h1, h2⟩

theorem CellsAt.le {μ μ' : Mu} {w : World} {b o : Nat} {cs : List V} (hp : μ.le μ') (h : CellsAt μ w b o cs) : CellsAt μ' w b o cs :=
  fun j v hv => let ⟨u, h1, h2⟩ := h j v hv; ⟨u, h1, VR.le hp h2⟩

theorem FreeAt.same {w w' : World} {b lo hi : Nat} (h : FreeAt w b lo hi) (hs : SameBlk w w' b) : FreeAt w' b lo hi :=
  fun o h1 h2 => let ⟨⟨u, h3⟩, h4⟩ := h o h1 h2; ⟨⟨u, by rw [hs.1]; exact h3⟩, by rw [hs.2]; exact h4⟩

theorem FreeAt.mono {w : World} {b lo hi lo' hi' : Nat} (h : FreeAt w b lo hi) (h1 : lo ≤ lo') (h2 : hi' ≤ hi) : FreeAt w b lo' hi' :=
  fun o h3 h4 => h o (by omega) (by omega)

theorem ObjOk.same {μ : Mu} {w w' : World} {m : Mp} {o : Ob} (h : ObjOk μ w m o) (hs : SameBlk w w' m.blk) (hz : w.heap.size ≤ w'.heap.size) : ObjOk μ w' m o := by
  cases o with
  | dead => trivial
  | mk own es cells =>
    obtain ⟨h1, h2, h3, h4, h5, h6⟩ := h
    exact ⟨h1, h2, h3, h4.same hs, by omega, fun ho => let ⟨b, c⟩ := h6 ho; ⟨b, c.same hs⟩⟩

theorem ObjOk.le {μ μ' : Mu} {w : World} {m : Mp} {o : Ob} (hp : μ.le μ') (h : ObjOk μ w m o) : ObjOk μ' w m o := by
  cases o with
  | dead => trivial
  | mk own es cells =>
    obtain ⟨h1, h2, h3, h4, h5, h6⟩ := h
    exact ⟨h1, h2, h3, CellsAt.le hp h4, h5, h6⟩

/-- A world in which the cells of one block from o on are now these. -/
structure Wrote (w w' : World) (b o : Nat) (us : List Value) : Prop where
  size : w'.heap.size = w.heap.size
  os : w'.os = w.os
  tape : w'.tape = w.tape
  drawn : w'.drawn = w.drawn
  output : w'.output = w.output
  other : ∀ b', b' ≠ b → w'.heap[b']? = w.heap[b']?
  cell : ∀ j, w'.cell? ⟨b, j, none⟩ = if o ≤ j ∧ j < o + us.length then us[j - o]? else w.cell? ⟨b, j, none⟩
  frozen : ∀ j, w'.frozen? ⟨b, j, none⟩ = w.frozen? ⟨b, j, none⟩

theorem EndB.wrote {w w' : World} {b b' o : Nat} {us : List Value} (h : EndB w b) (hw : Wrote w w' b' o us) : EndB w' b := by
  by_cases e : b = b'
  · subst e
    intro k hk
    rw [hw.frozen]
    refine h k ?_
    rw [hw.cell] at hk
    split at hk
    · rename_i hj
      rw [List.getElem?_eq_getElem (by omega)] at hk
      cases hk
    · exact hk
  · exact h.same (.of_heap (hw.other _ e))

theorem setCell_other (w : World) (a : Addr) (v : Value) (b' : Nat) (h : b' ≠ a.block) : (w.setCell a v).heap[b']? = w.heap[b']? := by
  simp only [World.setCell]
  rw [Array.getElem?_modify, if_neg (fun e => h e.symm)]

theorem run_storeCells_free {P : Program} (b : Nat) : ∀ (us : List Value) (o i : Nat) (w : World), (∀ u ∈ us, u.oneCell' = true) → FreeAt w b (o + i) (o + i + us.length) →
    ∃ w', (storeCells ⟨b, o, none⟩ us i).run P w = .ok () w' ∧ Wrote w w' b (o + i) us
  | [], o, i, w, _, _ => ⟨w, by simp [storeCells], rfl, rfl, rfl, rfl, rfl, fun _ _ => rfl, fun j => by simp; intro h1 h2; omega, fun _ => rfl⟩
  | u :: us, o, i, w, h1, hf => by
    obtain ⟨⟨x, hx⟩, hfz⟩ := hf (o + i) (Nat.le_refl _) (by simp)
    have hone := h1 u (by simp)
    have hf' : FreeAt (w.setCell ⟨b, o + i, none⟩ u) b (o + (i + 1)) (o + (i + 1) + us.length) := by
      intro j hj1 hj2
      obtain ⟨⟨y, hy⟩, hyz⟩ := hf j (by omega) (by simp; omega)
      refine ⟨⟨y, ?_⟩, by rw [World.frozen?_setCell]; exact hyz⟩
      rw [World.cell?_setCell_other _ _ _ _ (by simp; omega)]; exact hy
    obtain ⟨w', hr, hw⟩ := run_storeCells_free (P := P) b us o (i + 1) (w.setCell ⟨b, o + i, none⟩ u) (fun v hv => h1 v (by simp [hv])) hf'
    refine ⟨w', ?_, ?_⟩
    · rw [storeCells, Sem.run_bind, Addr.add_lit, run_store P w _ u _ hone, hx, hfz]
      simpa using hr
    · refine ⟨by rw [hw.size, World.size_setCell], hw.os, hw.tape, hw.drawn, hw.output, fun b' hb => by rw [hw.other b' hb, setCell_other _ _ _ _ hb], fun j => ?_, fun j => by rw [hw.frozen, World.frozen?_setCell]⟩
      rw [hw.cell]
      by_cases hj : j = o + i
      · subst hj
        rw [if_neg (by omega), if_pos (by simp)]
        rw [World.cell?_setCell_same _ _ _ hx]
        simp
      · by_cases hj2 : o + (i + 1) ≤ j ∧ j < o + (i + 1) + us.length
        · rw [if_pos hj2, if_pos (by simp; omega)]
          rw [show j - (o + i) = (j - (o + (i + 1))) + 1 by omega, List.getElem?_cons_succ]
        · rw [if_neg hj2, if_neg (by simp; omega), World.cell?_setCell_other _ _ _ _ (by simp; omega)]

theorem isOne_sound {μ : Mu} {v : V} {u : Value} (h : isOne v = true) (hv : VR μ v u) : u.oneCell' = true := by
  cases hv <;> first | rfl | (simp [isOne] at h)

theorem VL.oneCell {μ : Mu} {vs : List V} {us : List Value} (h : VL μ vs us) (h1 : vs.all isOne = true) : ∀ u ∈ us, u.oneCell' = true := by
  induction h with
  | nil => simp
  | cons h t ih =>
    simp only [List.all_cons, Bool.and_eq_true] at h1
    intro u hu
    rcases List.mem_cons.1 hu with rfl | hu
    · exact isOne_sound h1.1 h
    · exact ih h1.2 u hu

theorem Wrote.cellsAt {μ : Mu} {w w' : World} {b base off : Nat} {cells xs : List V} {us : List Value} (hw : Wrote w w' b (base + off) us) (hx : VL μ xs us)
    (hc : CellsAt μ w b base cells) (hl : off + xs.length ≤ cells.length) : CellsAt μ w' b base (setRange cells off xs) := by
  intro j v hv
  rw [hw.cell]
  have hlen := hx.length
  unfold setRange at hv
  by_cases h1 : j < off
  · rw [if_neg (by omega)]
    rw [List.append_assoc, List.getElem?_append_left (by simp; omega), List.getElem?_take_of_lt h1] at hv
    exact hc j v hv
  · by_cases h2 : j < off + xs.length
    · rw [if_pos (by omega)]
      rw [List.append_assoc, List.getElem?_append_right (by simp; omega), List.getElem?_append_left (by simp; omega)] at hv
      have e : min off cells.length = off := by omega
      simp only [List.length_take, e] at hv
      have hj : j - off < us.length := by omega
      refine ⟨us[j - off], by rw [show base + j - (base + off) = j - off by omega]; simp [hj], ?_⟩
      exact hx.get (j - off) v _ hv (by simp [hj])
    · rw [if_neg (by omega)]
      rw [List.getElem?_append_right (by simp; omega)] at hv
      have e : min off cells.length = off := by omega
      simp only [List.length_append, List.length_take, e, List.getElem?_drop] at hv
      rw [show off + xs.length + (j - (off + xs.length)) = j by omega] at hv
      exact hc j v hv

theorem setRange_length {cells xs : List V} {off : Nat} (h : off + xs.length ≤ cells.length) : (setRange cells off xs).length = cells.length := by
  unfold setRange; simp; omega

theorem Wrote.free {w w' : World} {b o lo hi : Nat} {us : List Value} (hw : Wrote w w' b o us) (h : FreeAt w b lo hi) : FreeAt w' b lo hi := by
  intro j h1 h2
  obtain ⟨⟨y, hy⟩, hz⟩ := h j h1 h2
  refine ⟨?_, by rw [hw.frozen]; exact hz⟩
  rw [hw.cell]
  split
  · rename_i hj
    exact ⟨us[j - o]'(by omega), by simp⟩
  · exact ⟨y, hy⟩

section
variable {H : List Ob} {μ : Mu} {w w' : World}

theorem HSim.world (h : HSim H μ w) (hs : ∀ (id : Nat) (o : Ob) (m : Mp), H[id]? = some o → μ id = some m → live o = true → SameBlk w w' m.blk) (hz : w.heap.size ≤ w'.heap.size) : HSim H μ w' := by
  refine ⟨h.dom, h.map, fun id o m h1 h2 => ?_, h.sep, fun id es cells m h1 h2 h3 => (h.plain id es cells m h1 h2 h3).same (hs id _ m h1 h2 rfl)⟩
  have := h.obj id o m h1 h2
  cases o with
  | dead => trivial
  | mk own es cells => exact this.same (hs id _ m h1 h2 rfl) hz

/-- One object turns: another one at its number. -/
theorem set_cases {H : List Ob} {id : Nat} {o' : Ob} (i : Nat) (o : Ob) (hi : (H.set id o')[i]? = some o) : (i = id ∧ o = o' ∧ id < H.length) ∨ (i ≠ id ∧ H[i]? = some o) := by
  by_cases e : i = id
  · subst e
    have hl : i < H.length := by
      have := (List.getElem?_eq_some_iff.1 hi).1
      simpa using this
    rw [List.getElem?_set_self hl] at hi
    cases hi
    exact .inl ⟨rfl, rfl, hl⟩
  · rw [List.getElem?_set_ne (fun h => e h.symm)] at hi
    exact .inr ⟨e, hi⟩

theorem HSim.write (h : HSim H μ w) {id : Nat} {m : Mp} {es off : Nat} {cells xs : List V} {us : List Value} (ho : H[id]? = some (.mk true es cells)) (hm : μ id = some m)
    (hw : Wrote w w' m.blk (m.base + off) us) (hx : VL μ xs us) (hl : off + xs.length ≤ cells.length) : HSim (H.set id (.mk true es (setRange cells off xs))) μ w' := by
  have own : ∀ (i : Nat) (o : Ob), (H.set id (.mk true es (setRange cells off xs)))[i]? = some o → ∃ o', H[i]? = some o' ∧ owned o = owned o' ∧ live o = live o' := by
    intro i o hi
    rcases set_cases i o hi with ⟨rfl, rfl, _⟩ | ⟨_, h1⟩
    · exact ⟨_, ho, rfl, rfl⟩
    · exact ⟨o, h1, rfl, rfl⟩
  refine ⟨fun i m' h1 => by rw [List.length_set]; exact h.dom i m' h1, fun i o h1 h2 => ?_, fun i o m' h1 h2 => ?_, fun i i' o o' m' m'' hne h1 h2 h3 h4 h5 h6 => ?_, fun i es' cells' m' h1 h2 h3 => ?_⟩
  · obtain ⟨o', g1, _, g3⟩ := own i o h1
    exact h.map i o' g1 (by rw [← g3]; exact h2)
  · rcases set_cases i o h1 with ⟨rfl, rfl, _⟩ | ⟨e, h1⟩
    · rw [hm] at h2; cases h2
      obtain ⟨g1, g2, g3, g4, g5, g6⟩ := h.obj i _ m ho hm
      obtain ⟨k2, k3⟩ := g6 rfl
      exact ⟨g1, g2, by rw [setRange_length hl]; exact g3, hw.cellsAt hx g4 hl, by rw [hw.size]; exact g5, fun _ => ⟨k2, hw.free k3⟩⟩
    · have := h.obj i o m' h1 h2
      cases o with
      | dead => trivial
      | mk own' es' cells' =>
        have hb : m'.blk ≠ m.blk := fun hb => h.sep id i _ _ m m' (fun h => e h.symm) ho h1 hm h2 rfl rfl hb.symm
        exact this.same (.of_heap (hw.other _ hb)) (Nat.le_of_eq hw.size.symm)
  · obtain ⟨p, hp1, hp2, hp3⟩ := own i o h1
    obtain ⟨q, hq1, hq2, hq3⟩ := own i' o' h2
    exact h.sep i i' p q m' m'' hne hp1 hq1 h3 h4 (by rw [← hp2]; exact h5) (by rw [← hq3]; exact h6)
  · rcases set_cases i _ h1 with ⟨rfl, e, _⟩ | ⟨_, h1⟩
    · cases e
      exact (h.plain _ _ _ _ ho h2 h3).wrote hw
    · exact (h.plain _ _ _ _ h1 h2 h3).wrote hw

/-- A new object, at the end or in a place that was kept for it. -/
theorem HSim.newAt (h : HSim H μ w) {H' : List Ob} {id : Nat} {m : Mp} {o : Ob} (hid : μ id = none) (hlen : H.length ≤ H'.length ∧ id < H'.length)
    (hH : ∀ (i : Nat) (o' : Ob), H'[i]? = some o' → (i = id ∧ o' = o) ∨ (i ≠ id ∧ H[i]? = some o')) (hs : ∀ (id : Nat) (o : Ob) (m : Mp), H[id]? = some o → μ id = some m → live o = true → SameBlk w w' m.blk) (hz : w.heap.size ≤ w'.heap.size)
    (ho : ObjOk (μ.add id m) w' m o) (hn : ∀ (id : Nat) (o : Ob) (m' : Mp), H[id]? = some o → μ id = some m' → live o = true → m'.blk ≠ m.blk)
    (hp : ∀ es cells, o = .mk true es cells → es ≠ 1 → EndB w' m.blk) : HSim H' (μ.add id m) w' := by
  have key : ∀ (i : Nat) (o' : Ob) (m' : Mp), H'[i]? = some o' → μ.add id m i = some m' → (i ≠ id ∧ H[i]? = some o' ∧ μ i = some m') ∨ (i = id ∧ o' = o ∧ m' = m) := by
    intro i o' m' h1 h2
    rcases hH i o' h1 with ⟨rfl, rfl⟩ | ⟨e, h3⟩
    · rw [Mu.add_self] at h2; cases h2; exact .inr ⟨rfl, rfl, rfl⟩
    · rw [Mu.add_ne _ _ e] at h2; exact .inl ⟨e, h3, h2⟩
  refine ⟨fun i m' h1 => ?_, fun i o' h1 h2 => ?_, fun i o' m' h1 h2 => ?_, fun i i' o1 o2 m1 m2 hne h1 h2 h3 h4 h5 h6 => ?_, fun i es' cells' m' h1 h2 h3 => ?_⟩
  · by_cases e : i = id
    · omega
    · rw [Mu.add_ne _ _ e] at h1
      have := h.dom i m' h1
      omega
  · rcases hH i o' h1 with ⟨rfl, rfl⟩ | ⟨e, h3⟩
    · exact ⟨m, Mu.add_self _ _ _⟩
    · rw [Mu.add_ne _ _ e]; exact h.map i o' h3 h2
  · rcases key i o' m' h1 h2 with ⟨_, h3, h4⟩ | ⟨_, rfl, rfl⟩
    · have := ObjOk.le (Mu.le_add m hid) (h.obj i o' m' h3 h4)
      cases o' with
      | dead => trivial
      | mk own es cells => exact this.same (hs i _ m' h3 h4 rfl) hz
    · exact ho
  · rcases key i o1 m1 h1 h3 with ⟨_, g1, g2⟩ | ⟨e1, rfl, rfl⟩ <;> rcases key i' o2 m2 h2 h4 with ⟨_, g3, g4⟩ | ⟨e2, rfl, rfl⟩
    · exact h.sep i i' o1 o2 m1 m2 hne g1 g3 g2 g4 h5 h6
    · exact hn i o1 m1 g1 g2 (by cases o1 with | dead => cases h5 | mk own es cells => rfl)
    · exact fun e => hn i' o2 m2 g3 g4 h6 e.symm
    · omega
  · rcases key i _ m' h1 h2 with ⟨_, g1, g2⟩ | ⟨_, e, rfl⟩
    · exact (h.plain _ _ _ _ g1 g2 h3).same (hs _ _ _ g1 g2 rfl)
    · exact hp _ _ e.symm h3

theorem push_cases' {H : List Ob} {o : Ob} (i : Nat) (o' : Ob) (h1 : (H ++ [o])[i]? = some o') : (i = H.length ∧ o' = o) ∨ (i ≠ H.length ∧ H[i]? = some o') := by
  by_cases hi : i < H.length
  · rw [List.getElem?_append_left hi] at h1
    exact .inr ⟨by omega, h1⟩
  · have hi' : i < (H ++ [o]).length := (List.getElem?_eq_some_iff.1 h1).1
    simp at hi'
    have e : i = H.length := by omega
    subst e
    rw [List.getElem?_append_right (Nat.le_refl _)] at h1
    simp at h1
    exact .inl ⟨rfl, h1.symm⟩

theorem HSim.fresh (h : HSim H μ w) : μ H.length = none := by
  cases e : μ H.length with
  | none => rfl
  | some m => exact absurd (h.dom _ _ e) (Nat.lt_irrefl _)

theorem HSim.kill (h : HSim H μ w) (id : Nat) : HSim (H.set id .dead) μ w := by
  have key : ∀ (i : Nat) (o : Ob), (H.set id .dead)[i]? = some o → o = .dead ∨ H[i]? = some o := by
    intro i o hi
    rcases set_cases i o hi with ⟨_, rfl, _⟩ | ⟨_, h1⟩
    · exact .inl rfl
    · exact .inr h1
  refine ⟨fun i m' h1 => by rw [List.length_set]; exact h.dom i m' h1, fun i o h1 h2 => ?_, fun i o m h1 h2 => ?_, fun i i' o o' m m' hne h1 h2 h3 h4 h5 h6 => ?_, fun i es cells m h1 h2 h3 => ?_⟩
  · rcases key i o h1 with rfl | h3
    · cases h2
    · exact h.map i o h3 h2
  · rcases key i o h1 with rfl | h3
    · trivial
    · exact h.obj i o m h3 h2
  · rcases key i o h1 with rfl | g1
    · cases h5
    · rcases key i' o' h2 with rfl | g2
      · cases h6
      · exact h.sep i i' o o' m m' hne g1 g2 h3 h4 h5 h6
  · rcases key i _ h1 with e | g1
    · cases e
    · exact h.plain _ _ _ _ g1 h2 h3

end
end Go.Lite
end

section
namespace Go.Lite
open Go
set_option linter.unusedSimpArgs false
set_option linter.unusedVariables false

def R.noBox : R → Prop
  | .box _ _ => False
  | _ => True

theorem upd_self (r : Nat → R) (d : Nat) (x : R) : upd r d x d = x := by simp [upd]
theorem upd_ne {r : Nat → R} {d i : Nat} (x : R) (h : i ≠ d) : upd r d x i = r i := by simp [upd, h]

theorem put_getD (a : Act) (d : Nat) (u : Value) (hd : d < a.tmps.size) (t : Nat) : (a.put (some d) u).tmps.getD t undef = if t = d then u else a.tmps.getD t undef := by
  simp only [Act.put]
  by_cases h : t = d
  · subst h; simp [hd]
  · simp [h, Array.getElem?_setIfInBounds_ne (Ne.symm h)]

theorem put_size (a : Act) (d : Option Nat) (u : Value) : (a.put d u).tmps.size = a.tmps.size := by
  cases d <;> simp [Act.put]

section
variable {P : Program} {L : List Nat} {σ σ' : St} {μ : Mu} {β : List Nat} {a : Act} {w w' : World}

theorem Sim.put (hs : Sim L σ μ β a w) {d : Option Nat} (hd : ∀ x, d = some x → x < a.tmps.size) {r : R} {u : Value} (hr : RR L a.tmps.size μ β r u) (hb : r.noBox) :
    Sim L (σ.put d r) μ β (a.put d u) w := by
  cases d with
  | none => exact hs
  | some d =>
    have hd := hd d rfl
    have nb : ∀ t c cells, upd σ.regs d r t = .box c cells → t ≠ d ∧ σ.regs t = .box c cells := by
      intro t c cells h
      by_cases e : t = d
      · subst e; rw [upd_self] at h; subst h; exact hb.elim
      · rw [upd_ne _ e] at h; exact ⟨e, h⟩
    refine ⟨hs.heap, hs.lenβ, fun t ht => ?_, fun t c cells b ht h1 h2 => ?_, hs.sepβ, hs.injβ, hs.ltβ, fun t t' c cells cells' ht ht' h1 h2 => ?_, fun t c cells ht h1 => ?_, by simpa [Act.put] using hs.defs⟩
    · rw [put_size] at ht ⊢
      rw [put_getD a d u hd t]
      by_cases e : t = d
      · subst e; simp only [St.put, upd_self, if_true]; exact hr
      · simp only [St.put, if_neg e]; rw [upd_ne _ e]; exact hs.reg t ht
    · rw [put_size] at ht
      exact hs.box t c cells b ht (nb t c cells h1).2 h2
    · rw [put_size] at ht ht'
      exact hs.uniq t t' c cells cells' ht ht' (nb t c cells h1).2 (nb t' c cells' h2).2
    · rw [put_size] at ht
      exact hs.loc t c cells ht (nb t c cells h1).2

theorem Leads.put (hs : Sim L σ μ β a w) {d : Option Nat} (hd : ∀ x, d = some x → x < a.tmps.size) {r : R} {u : Value} (hr : RR L a.tmps.size μ β r u) (hb : r.noBox) :
    Leads L σ μ β a w (σ.put d r) (a.put d u) w := by
  refine ⟨μ, β, hs.put hd hr hb, μ.le_refl, List.prefix_refl _, put_size _ _ _, ?_, ?_⟩
  · cases d <;> exact Grow.refl _ _
  · cases d <;> exact Lives.refl _ _ _

theorem Leads.trans {σ'' : St} {a' a'' : Act} {w'' : World} (h : Leads L σ μ β a w σ' a' w')
    (k : ∀ μ' β', Sim L σ' μ' β' a' w' → Leads L σ' μ' β' a' w' σ'' a'' w'') : Leads L σ μ β a w σ'' a'' w'' := by
  obtain ⟨μ', β', h1, h2, h3, h4, h5, h6⟩ := h
  obtain ⟨μ'', β'', k1, k2, k3, k4, k5, k6⟩ := k μ' β' h1
  exact ⟨μ'', β'', k1, Mu.le_trans h2 k2, h3.trans k3, k4.trans h4, h5.trans k5, Lives.trans h6 k6 h5.size⟩

/-- The heap and the world turn; the frame's own variables do not. -/
theorem Sim.mem (hs : Sim L σ μ β a w) {H' : List Ob} {μ' : Mu} (hh : HSim H' μ' w') (hp : μ.le μ') (hb : ∀ b, b ∈ β → SameBlk w w' b) (hz : w.heap.size ≤ w'.heap.size)
    {N : Nat → Prop} (hl : LivesB N σ.heap μ w H' μ') : Sim L { σ with heap := H' } μ' β a w' := by
  refine ⟨hh, hs.lenβ, fun t ht => RR.le hp (List.prefix_refl _) (hs.reg t ht), fun t c cells b ht h1 h2 => ?_, fun id o m b h1 h2 h3 h4 => ?_, hs.injβ, fun b hb' => Nat.lt_of_lt_of_le (hs.ltβ b hb') hz, hs.uniq, hs.loc, hs.defs⟩
  · obtain ⟨k1, k2⟩ := hs.box t c cells b ht h1 h2
    have := hb b (List.mem_of_getElem? h2)
    exact ⟨CellsAt.le hp (k1.same this), k2.same this⟩
  · rcases hl.1 m.blk ⟨id, o, m, h1, h3, h2, rfl⟩ with ⟨id', o', m', g1, g2, g3, g4⟩ | g
    · rw [← g4]; exact hs.sepβ id' o' m' b g1 g3 g2 h4
    · have := hs.ltβ b h4
      omega

theorem own_notβ (hs : Sim L σ μ β a w) {b : Nat} (hb : b ∈ β) : ¬ ∃ (id : Nat) (o : Ob) (m : Mp), σ.heap[id]? = some o ∧ owned o = true ∧ μ id = some m ∧ m.blk = b := by
  rintro ⟨id, o, m, h1, h2, h3, h4⟩
  exact hs.sepβ id o m b h1 h3 (by cases o with | dead => cases h2 | mk own es cells => rfl) hb h4

/-- The heap of objects as a call sees it. -/
structure HGoesB (N : Nat → Prop) (H : List Ob) (μ : Mu) (w : World) (H' : List Ob) (μ' : Mu) (w' : World) : Prop where
  sim : HSim H' μ' w'
  mle : μ.le μ'
  grow : Grow (OwnB H μ []) w (OwnB H' μ' []) w'
  lives : LivesB N H μ w H' μ'

abbrev HGoes (H : List Ob) (μ : Mu) (w : World) (H' : List Ob) (μ' : Mu) (w' : World) : Prop := HGoesB (fun id => H.length ≤ id) H μ w H' μ' w'

theorem HGoesB.le {N : Nat → Prop} {H H' : List Ob} {μ' : Mu} (hs : HSim H μ w) (h : HGoesB N H μ w H' μ' w') : μ.le μ' := h.mle

theorem Leads.of_heap' {N : Nat → Prop} (hs : Sim L σ μ β a w) {H' : List Ob} {μ' : Mu} (h : HGoesB N σ.heap μ w H' μ' w') :
    Sim L { σ with heap := H' } μ' β a w' ∧ Grow (OwnB σ.heap μ β) w (OwnB H' μ' β) w' := by
  have hb : ∀ b, b ∈ β → SameBlk w w' b := fun b hb => .of_heap (h.grow.same b (hs.ltβ b hb) (by
    rintro (h1 | h1)
    · exact own_notβ hs hb h1
    · cases h1))
  have hs' := hs.mem h.sim (h.le hs.heap) hb h.grow.size h.lives
  refine ⟨hs', ⟨h.grow.size, fun b hb1 hb2 => h.grow.same b hb1 (fun h1 => hb2 ?_), fun b hb1 => ?_, h.grow.os, h.grow.tape, h.grow.output, h.grow.drawn⟩⟩
  · rcases h1 with h1 | h1
    · exact .inl h1
    · cases h1
  · rcases hb1 with h1 | h1
    · rcases h.grow.own b (.inl h1) with h2 | h2
      · rcases h2 with h2 | h2
        · exact .inl (.inl h2)
        · cases h2
      · exact .inr h2
    · exact .inl (.inr h1)

theorem Leads.of_heap {N : Nat → Prop} (hs : Sim L σ μ β a w) {H' : List Ob} {μ' : Mu} (h : HGoesB N σ.heap μ w H' μ' w') : LeadsB N L σ μ β a w { σ with heap := H' } a w' :=
  let ⟨h1, h2⟩ := Leads.of_heap' hs h
  ⟨μ', β, h1, h.le hs.heap, List.prefix_refl _, rfl, h2, h.lives⟩

theorem put_heap (σ : St) (d : Option Nat) (r : R) : (σ.put d r).heap = σ.heap := by cases d <;> rfl

theorem Leads.heap_put {N : Nat → Prop} (hs : Sim L σ μ β a w) {H' : List Ob} {μ' : Mu} (h : HGoesB N σ.heap μ w H' μ' w') {d : Option Nat} (hd : ∀ x, d = some x → x < a.tmps.size) {v : V} {u : Value} (hv : VR μ' v u) :
    LeadsB N L σ μ β a w (({ σ with heap := H' } : St).put d (.val v)) (a.put d u) w' := by
  obtain ⟨h1, h2⟩ := Leads.of_heap' hs h
  refine ⟨μ', β, h1.put hd (r := .val v) hv trivial, h.le hs.heap, List.prefix_refl _, put_size _ _ _, ?_, ?_⟩
  · rw [put_heap]; exact h2
  · rw [put_heap]; exact h.lives

/-- A frame's own variable is written. -/
theorem Sim.wbox (hs : Sim L σ μ β a w) {t c off b : Nat} {cells xs : List V} {us : List Value} (ht : t < a.tmps.size) (hq : σ.regs t = .box c cells) (hb : β[c]? = some b)
    (hx : VL μ xs us) (hl : off + xs.length ≤ cells.length) (hw : Wrote w w' b (0 + off) us) :
    Leads L σ μ β a w { σ with regs := upd σ.regs t (.box c (setRange cells off xs)) } a w' := by
  have hmem : b ∈ β := List.mem_of_getElem? hb
  have other : ∀ b', b' ≠ b → SameBlk w w' b' := fun b' h => .of_heap (hw.other b' h)
  have hh : HSim σ.heap μ w' := hs.heap.world (fun id o m h1 h2 h3 => other _ (hs.sepβ id o m b h1 h2 h3 hmem)) (Nat.le_of_eq hw.size.symm)
  have nb : ∀ t' c' cells', upd σ.regs t (.box c (setRange cells off xs)) t' = .box c' cells' → (t' = t ∧ c' = c ∧ cells' = setRange cells off xs) ∨ (t' ≠ t ∧ σ.regs t' = .box c' cells') := by
    intro t' c' cells' h
    by_cases e : t' = t
    · subst e; rw [upd_self] at h; cases h; exact .inl ⟨rfl, rfl, rfl⟩
    · rw [upd_ne _ e] at h; exact .inr ⟨e, h⟩
  have hbox := hs.box t c cells b ht hq hb
  refine ⟨μ, β, ⟨hh, hs.lenβ, fun t' ht' => ?_, fun t' c' cells' b' ht' h1 h2 => ?_, hs.sepβ, hs.injβ, fun b' h => by rw [hw.size]; exact hs.ltβ b' h, fun t1 t2 c' c1 c2 h1 h2 h3 h4 => ?_, fun t' c' cells' ht' h1 => ?_, hs.defs⟩,
    μ.le_refl, List.prefix_refl _, rfl, ⟨Nat.le_of_eq hw.size.symm, fun b' h1 h2 => hw.other b' (fun e => h2 (.inr (by rw [e]; exact hmem))), fun b' h => .inl h, hw.os, hw.tape, hw.output, fun _ => Nat.le_of_eq hw.drawn.symm⟩, Lives.refl _ _ _⟩
  · have := hs.reg t' ht'
    by_cases e : t' = t
    · subst e
      rw [hq] at this
      simp only [upd_self]
      exact this
    · simp only [upd_ne _ e]; exact this
  · rcases nb t' c' cells' h1 with ⟨rfl, rfl, rfl⟩ | ⟨e, h3⟩
    · rw [hb] at h2; cases h2
      exact ⟨hw.cellsAt hx hbox.1 hl, by rw [setRange_length hl]; exact hw.free hbox.2⟩
    · have hb' : b' ≠ b := by
        intro e2
        subst e2
        have := hs.injβ c' c b' h2 hb
        subst this
        exact e (hs.uniq t' t c' cells' cells ht' ht h3 hq)
      obtain ⟨k1, k2⟩ := hs.box t' c' cells' b' ht' h3 h2
      exact ⟨k1.same (other _ hb'), k2.same (other _ hb')⟩
  · rcases nb t1 c' c1 h3 with ⟨rfl, rfl, rfl⟩ | ⟨e1, g1⟩ <;> rcases nb t2 c' c2 h4 with ⟨rfl, e3, rfl⟩ | ⟨e2, g2⟩
    · rfl
    · exact absurd (hs.uniq t2 t1 c' c2 cells h2 h1 g2 hq) e2
    · subst e3; exact absurd (hs.uniq t1 t2 c' c1 cells h1 h2 g1 hq) e1
    · exact hs.uniq t1 t2 c' c1 c2 h1 h2 g1 g2
  · rcases nb t' c' cells' h1 with ⟨rfl, rfl, rfl⟩ | ⟨e, h3⟩
    · exact hs.loc t' c' cells ht' hq
    · exact hs.loc t' c' cells' ht' h3

/-- An object is written. -/
theorem HGoes.write {H : List Ob} (h : HSim H μ w) {id : Nat} {m : Mp} {es off : Nat} {cells xs : List V} {us : List Value} (ho : H[id]? = some (.mk true es cells)) (hm : μ id = some m)
    (hw : Wrote w w' m.blk (m.base + off) us) (hx : VL μ xs us) (hl : off + xs.length ≤ cells.length) : HGoes H μ w (H.set id (.mk true es (setRange cells off xs))) μ w' := by
  have own : ∀ (i : Nat) (o : Ob), (H.set id (.mk true es (setRange cells off xs)))[i]? = some o → ∃ o', H[i]? = some o' ∧ owned o = owned o' ∧ live o = live o' := by
    intro i o hi
    rcases set_cases i o hi with ⟨rfl, rfl, _⟩ | ⟨_, h1⟩
    · exact ⟨_, ho, rfl, rfl⟩
    · exact ⟨o, h1, rfl, rfl⟩
  refine ⟨h.write ho hm hw hx hl, μ.le_refl, ⟨Nat.le_of_eq hw.size.symm, fun b h1 h2 => hw.other b (fun e => h2 (.inl ⟨id, _, m, ho, rfl, hm, e.symm⟩)), fun b hb => ?_, hw.os, hw.tape, hw.output, fun _ => Nat.le_of_eq hw.drawn.symm⟩, fun b hb => ?_, by simp, fun _ _ h => .inl h⟩
  · rcases hb with ⟨i, o, m', h1, h2, h3, h4⟩ | hb
    · obtain ⟨o', g1, g2, _⟩ := own i o h1
      exact .inl (.inl ⟨i, o', m', g1, by rw [← g2]; exact h2, h3, h4⟩)
    · cases hb
  · obtain ⟨i, o, m', h1, h2, h3, h4⟩ := hb
    obtain ⟨o', g1, _, g2⟩ := own i o h1
    exact .inl ⟨i, o', m', g1, by rw [← g2]; exact h2, h3, h4⟩

theorem live_lt {H : List Ob} (h : HSim H μ w) : ∀ (id : Nat) (o : Ob) (m : Mp), H[id]? = some o → μ id = some m → live o = true → m.blk < w.heap.size := by
  intro id o m h1 h2 h3
  cases o with
  | dead => cases h3
  | mk own es cells => exact (h.obj id _ m h1 h2).2.2.2.2.1

/-- A new object's place and contents. -/
theorem newObj_ok (h : ∀ b, b < w.heap.size → w'.heap[b]? = w.heap[b]?) {cells : List V} {us : Array Value} {es : Nat} {ty : TypeId} {fz : Nat × Nat} (hc : VL μ cells (us.toList.take cells.length)) (hle : cells.length ≤ us.size)
    (hz : w'.heap = w.heap.push (.cells us ty fz)) (hfz : us.size ≤ fz.1 ∨ fz.2 ≤ fz.1) : ObjOk μ w' ⟨w.heap.size, 0, cells.length, es, us.size, true⟩ (.mk true es cells) := by
  have new : w'.heap[w.heap.size]? = some (.cells us ty fz) := by rw [hz]; simp
  have hcell : ∀ j, w'.cell? ⟨w.heap.size, j, none⟩ = us[j]? := fun j => by simp [World.cell?, new]
  have hfro : ∀ j, j < us.size → w'.frozen? ⟨w.heap.size, j, none⟩ = false := fun j hj => by
    obtain ⟨lo, hi⟩ := fz
    simp only [World.frozen?, new]
    simp only at hfz
    simp; omega
  refine ⟨rfl, rfl, rfl, fun j v hv => ?_, by simp only; rw [hz]; simp, fun _ => ⟨by simpa using hle, fun j h1 h2 => ?_⟩⟩
  · have hj : j < cells.length := (List.getElem?_eq_some_iff.1 hv).1
    have hj' : j < us.size := by omega
    refine ⟨us[j], by simp only [Nat.zero_add]; rw [hcell]; simp [hj'], hc.get j v _ hv ?_⟩
    rw [List.getElem?_take_of_lt hj]
    simp [hj']
  · exact ⟨⟨us[j]'h2, by rw [hcell]; simp⟩, hfro j h2⟩

/-- A new object in a new block. -/
theorem HGoes.new {H : List Ob} (h : HSim H μ w) {cells : List V} {us : Array Value} {es : Nat} {ty : TypeId} {fz : Nat × Nat} (hc : VL μ cells (us.toList.take cells.length)) (hle : cells.length ≤ us.size)
    (hz : w'.heap = w.heap.push (.cells us ty fz)) (hfz : us.size ≤ fz.1 ∨ fz.2 ≤ fz.1) (ho : w'.os = w.os) (ht : w'.tape = w.tape) (hou : w'.output = w.output) (hdr : w.drawn ≤ w'.drawn := by first | exact Nat.le_refl _ | exact Nat.le_succ _) (hpl : es ≠ 1 → fz.2 ≤ fz.1 := by first | exact fun _ => Nat.le_refl _ | exact fun h => absurd rfl h) :
    HGoes H μ w (H ++ [.mk true es cells]) (μ.add H.length ⟨w.heap.size, 0, cells.length, es, us.size, true⟩) w' := by
  have hsz : w'.heap.size = w.heap.size + 1 := by rw [hz]; simp
  have old : ∀ b, b < w.heap.size → w'.heap[b]? = w.heap[b]? := fun b hb => by
    rw [hz, Array.getElem?_push, if_neg (by omega)]
  have lt := live_lt h
  have key : ∀ (i : Nat) (o' : Ob) (m' : Mp), (H ++ [.mk true es cells])[i]? = some o' → μ.add H.length ⟨w.heap.size, 0, cells.length, es, us.size, true⟩ i = some m' → (H[i]? = some o' ∧ μ i = some m') ∨ (m'.blk = w.heap.size) := by
    intro i o' m' h1 h2
    rcases push_cases' i o' h1 with ⟨rfl, rfl⟩ | ⟨e, h3⟩
    · rw [Mu.add_self] at h2; cases h2; exact .inr rfl
    · rw [Mu.add_ne _ _ e] at h2; exact .inl ⟨h3, h2⟩
  refine ⟨h.newAt h.fresh ⟨by simp, by simp⟩ push_cases' (fun id o m h1 h2 h3 => .of_heap (old _ (lt id o m h1 h2 h3))) (by omega)
      (newObj_ok old (VL.le (Mu.le_add _ h.fresh) hc) hle hz hfz) (fun id o m h1 h2 h3 => Nat.ne_of_lt (lt id o m h1 h2 h3)) (fun es' cells' he h1 => by
        cases he
        intro k _
        have := hpl h1
        simp only [World.frozen?, hz, Array.getElem?_push_size]
        simp; omega),
    Mu.le_add _ h.fresh, ⟨by omega, fun b h1 _ => old b h1, fun b hb => ?_, ho, ht, hou, fun _ => hdr⟩, fun b hb => ?_, by simp, fun id m' h2 => ?_⟩
  · rcases hb with ⟨i, o, m', h1, h2, h3, h4⟩ | hb
    · rcases key i o m' h1 h3 with ⟨g1, g2⟩ | g
      · exact .inl (.inl ⟨i, o, m', g1, h2, g2, h4⟩)
      · exact .inr (by omega)
    · cases hb
  · obtain ⟨i, o, m', h1, h2, h3, h4⟩ := hb
    rcases key i o m' h1 h3 with ⟨g1, g2⟩ | g
    · exact .inl ⟨i, o, m', g1, h2, g2, h4⟩
    · exact .inr (by omega)
  · by_cases e : id = H.length
    · exact .inr (by omega)
    · rw [Mu.add_ne _ _ e] at h2; exact .inl h2

/-- A new object in a new block, in a place that was kept for it. -/
theorem HGoesB.fill {H : List Ob} (h : HSim H μ w) {id : Nat} (hid : μ id = none) (hlt : id < H.length) {cells : List V} {us : Array Value} {es : Nat} {ty : TypeId} {fz : Nat × Nat} (hc : VL μ cells (us.toList.take cells.length)) (hle : cells.length ≤ us.size)
    (hz : w'.heap = w.heap.push (.cells us ty fz)) (hfz : us.size ≤ fz.1 ∨ fz.2 ≤ fz.1) (ho : w'.os = w.os) (ht : w'.tape = w.tape) (hou : w'.output = w.output) (hdr : w.drawn ≤ w'.drawn := by first | exact Nat.le_refl _ | exact Nat.le_succ _) (hpl : es ≠ 1 → fz.2 ≤ fz.1 := by first | exact fun _ => Nat.le_refl _ | exact fun h => absurd rfl h) :
    HGoesB (fun j => j = id) H μ w (H.set id (.mk true es cells)) (μ.add id ⟨w.heap.size, 0, cells.length, es, us.size, true⟩) w' := by
  have hsz : w'.heap.size = w.heap.size + 1 := by rw [hz]; simp
  have old : ∀ b, b < w.heap.size → w'.heap[b]? = w.heap[b]? := fun b hb => by
    rw [hz, Array.getElem?_push, if_neg (by omega)]
  have lt := live_lt h
  have hcs : ∀ (i : Nat) (o' : Ob), (H.set id (.mk true es cells))[i]? = some o' → (i = id ∧ o' = .mk true es cells) ∨ (i ≠ id ∧ H[i]? = some o') := by
    intro i o' h1
    rcases set_cases i o' h1 with ⟨e, e2, _⟩ | ⟨e, h3⟩
    · exact .inl ⟨e, e2⟩
    · exact .inr ⟨e, h3⟩
  have key : ∀ (i : Nat) (o' : Ob) (m' : Mp), (H.set id (.mk true es cells))[i]? = some o' → μ.add id ⟨w.heap.size, 0, cells.length, es, us.size, true⟩ i = some m' → (H[i]? = some o' ∧ μ i = some m') ∨ (m'.blk = w.heap.size) := by
    intro i o' m' h1 h2
    rcases hcs i o' h1 with ⟨rfl, rfl⟩ | ⟨e, h3⟩
    · rw [Mu.add_self] at h2; cases h2; exact .inr rfl
    · rw [Mu.add_ne _ _ e] at h2; exact .inl ⟨h3, h2⟩
  refine ⟨h.newAt hid ⟨by simp, by simpa using hlt⟩ hcs (fun id o m h1 h2 h3 => .of_heap (old _ (lt id o m h1 h2 h3))) (by omega)
      (newObj_ok old (VL.le (Mu.le_add _ hid) hc) hle hz hfz) (fun id o m h1 h2 h3 => Nat.ne_of_lt (lt id o m h1 h2 h3)) (fun es' cells' he h1 => by
        cases he
        intro k _
        have := hpl h1
        simp only [World.frozen?, hz, Array.getElem?_push_size]
        simp; omega),
    Mu.le_add _ hid, ⟨by omega, fun b h1 _ => old b h1, fun b hb => ?_, ho, ht, hou, fun _ => hdr⟩, fun b hb => ?_, by simp, fun j m' h2 => ?_⟩
  · rcases hb with ⟨i, o, m', h1, h2, h3, h4⟩ | hb
    · rcases key i o m' h1 h3 with ⟨g1, g2⟩ | g
      · exact .inl (.inl ⟨i, o, m', g1, h2, g2, h4⟩)
      · exact .inr (by omega)
    · cases hb
  · obtain ⟨i, o, m', h1, h2, h3, h4⟩ := hb
    rcases key i o m' h1 h3 with ⟨g1, g2⟩ | g
    · exact .inl ⟨i, o, m', g1, h2, g2, h4⟩
    · exact .inr (by omega)
  · by_cases e : j = id
    · exact .inr e
    · rw [Mu.add_ne _ _ e] at h2; exact .inl h2

theorem HGoes.refl {H : List Ob} (h : HSim H μ w) : HGoes H μ w H μ w := ⟨h, μ.le_refl, Grow.refl _ _, Lives.refl _ _ _⟩

theorem HGoes.trans {H H' H'' : List Ob} {μ' μ'' : Mu} {w'' : World} (h : HGoes H μ w H' μ' w') (k : HGoes H' μ' w' H'' μ'' w'') : HGoes H μ w H'' μ'' w'' :=
  ⟨k.sim, Mu.le_trans h.mle k.mle, h.grow.trans k.grow, Lives.trans h.lives k.lives h.grow.size⟩

/-- An object is given up. -/
theorem HGoes.kill {H : List Ob} (h : HSim H μ w) (id : Nat) : HGoes H μ w (H.set id .dead) μ w := by
  have key : ∀ (i : Nat) (o : Ob), (H.set id .dead)[i]? = some o → o = .dead ∨ H[i]? = some o := by
    intro i o hi
    rcases set_cases i o hi with ⟨_, rfl, _⟩ | ⟨_, h1⟩
    · exact .inl rfl
    · exact .inr h1
  refine ⟨h.kill id, μ.le_refl, ⟨Nat.le_refl _, fun _ _ _ => rfl, fun b hb => ?_, rfl, rfl, rfl, fun _ => Nat.le_refl _⟩, fun b hb => ?_, by simp, fun _ _ h => .inl h⟩
  · rcases hb with ⟨i, o, m', h1, h2, h3, h4⟩ | hb
    · rcases key i o h1 with rfl | g
      · cases h2
      · exact .inl (.inl ⟨i, o, m', g, h2, h3, h4⟩)
    · cases hb
  · obtain ⟨i, o, m', h1, h2, h3, h4⟩ := hb
    rcases key i o h1 with rfl | g
    · cases h2
    · exact .inl ⟨i, o, m', g, h2, h3, h4⟩

/-- A draw turns nothing of this. -/
theorem HGoes.world {H : List Ob} (h : HSim H μ w) (hh : w'.heap = w.heap) (ho : w'.os = w.os) (ht : w'.tape = w.tape) (hou : w'.output = w.output) (hdr : w.drawn ≤ w'.drawn := by first | exact Nat.le_refl _ | exact Nat.le_succ _) : HGoes H μ w H μ w' :=
  ⟨h.world (fun _ _ _ _ _ _ => .of_heap (by rw [hh])) (by rw [hh]; exact Nat.le_refl _), μ.le_refl, ⟨by rw [hh]; exact Nat.le_refl _, fun b _ _ => by rw [hh], fun b hb => .inl hb, ho, ht, hou, fun _ => hdr⟩, Lives.refl _ _ _⟩

/-- An object is given up, and another one takes its block. -/
theorem HGoes.regrow {H : List Ob} (h : HSim H μ w) {id : Nat} {m m' : Mp} {es o' : Nat} {cells cells' : List V} {us : List Value} (ho : H[id]? = some (.mk true es cells)) (hm : μ id = some m)
    (hw : Wrote w w' m.blk o' us) (hmb : m'.blk = m.blk) (hnew : ObjOk (μ.add H.length m') w' m' (.mk true es cells')) : HGoes H μ w (H.set id .dead ++ [.mk true es cells']) (μ.add H.length m') w' := by
  have hid : id < H.length := (List.getElem?_eq_some_iff.1 ho).1
  have key : ∀ (i : Nat) (o : Ob), (H.set id .dead)[i]? = some o → o = .dead ∨ (i ≠ id ∧ H[i]? = some o) := by
    intro i o hi
    rcases set_cases i o hi with ⟨_, rfl, _⟩ | ⟨e, h1⟩
    · exact .inl rfl
    · exact .inr ⟨e, h1⟩
  have sep : ∀ (i : Nat) (o : Ob) (m2 : Mp), (H.set id .dead)[i]? = some o → μ i = some m2 → live o = true → m2.blk ≠ m.blk := by
    intro i o m2 h1 h2 h3
    rcases key i o h1 with rfl | ⟨e, h4⟩
    · cases h3
    · exact fun e2 => h.sep id i _ o m m2 (fun e3 => e e3.symm) ho h4 hm h2 rfl h3 e2.symm
  have hk := h.kill id
  have hkl : (H.set id Ob.dead).length = H.length := by simp
  have hpc : ∀ (i : Nat) (o1 : Ob), (H.set id .dead ++ [.mk true es cells'])[i]? = some o1 → (i = H.length ∧ o1 = .mk true es cells') ∨ (i ≠ H.length ∧ (H.set id .dead)[i]? = some o1) := by
    intro i o1 h1
    have := push_cases' i o1 h1
    rwa [hkl] at this
  refine ⟨hk.newAt h.fresh ⟨by simp, by simp⟩ hpc (fun i o m2 h1 h2 h3 => .of_heap (hw.other _ (sep i o m2 h1 h2 h3))) (Nat.le_of_eq hw.size.symm) hnew (fun i o m2 h1 h2 h3 => by rw [hmb]; exact sep i o m2 h1 h2 h3) (fun es' cells' he h1 => by cases he; rw [hmb]; exact (h.plain _ _ _ _ ho hm h1).wrote hw),
    Mu.le_add _ h.fresh, ⟨Nat.le_of_eq hw.size.symm, fun b h1 h2 => hw.other b (fun e => h2 (.inl ⟨id, _, m, ho, rfl, hm, e.symm⟩)), fun b hb => ?_, hw.os, hw.tape, hw.output, fun _ => Nat.le_of_eq hw.drawn.symm⟩, fun b hb => ?_, by simp, fun id' m2 h2 => ?_⟩
  · rcases hb with ⟨i, o, m2, h1, h2, h3, h4⟩ | hb
    · rcases hpc i o h1 with ⟨rfl, rfl⟩ | ⟨e, g1⟩
      · rw [Mu.add_self] at h3; cases h3
        exact .inl (.inl ⟨id, _, m, ho, rfl, hm, by rw [← hmb]; exact h4⟩)
      · rw [Mu.add_ne _ _ e] at h3
        rcases key i o g1 with rfl | ⟨_, g3⟩
        · cases h2
        · exact .inl (.inl ⟨i, o, m2, g3, h2, h3, h4⟩)
    · cases hb
  · obtain ⟨i, o, m2, h1, h2, h3, h4⟩ := hb
    rcases hpc i o h1 with ⟨rfl, rfl⟩ | ⟨e, g1⟩
    · rw [Mu.add_self] at h3; cases h3
      exact .inl ⟨id, _, m, ho, rfl, hm, by rw [← hmb]; exact h4⟩
    · rw [Mu.add_ne _ _ e] at h3
      rcases key i o g1 with rfl | ⟨_, g3⟩
      · cases h2
      · exact .inl ⟨i, o, m2, g3, h2, h3, h4⟩
  · by_cases e : id' = H.length
    · exact .inr (by omega)
    · rw [Mu.add_ne _ _ e] at h2; exact .inl h2

end
end Go.Lite
end

section
namespace Go.Lite
open Go
set_option linter.unusedSimpArgs false
set_option linter.unusedVariables false

section
variable {P : Program} {L : List Nat} {σ σ' : St} {μ : Mu} {β : List Nat} {a : Act} {w w' : World}

/-- What is appended, or copied: so many elements of a slice, or bytes of a text. -/
theorem firstCells_slc {H : List Ob} (hs : HSim H μ w) {p : Option (Nat × Nat)} {n k es : Nat} {xs : List V} {u : Value} (h : slcCells H p (k * es) = some xs) (hu : VR μ (.slc p n) u) :
    ∃ us, (Builtin.firstCells es k u).run P w = .ok us w ∧ VL μ xs us.toList ∧ ∃ q c, u = .slice q n c := by
  obtain ⟨hl, q, c, rfl, hn, hq⟩ := slcCells_sound hs h hu
  rcases hq with ⟨rfl, hk⟩ | ⟨ad, rfl, hk | ⟨b, o, rfl, hc⟩⟩
  · have : xs = [] := List.length_eq_zero_iff.1 (by omega)
    subst this
    exact ⟨#[], by simp [Builtin.firstCells], .nil, _, _, rfl⟩
  · have : xs = [] := List.length_eq_zero_iff.1 (by omega)
    subst this
    refine ⟨#[], ?_, .nil, _, _, rfl⟩
    simp [Builtin.firstCells, hk, loadCells, loadCellsFrom]
  · obtain ⟨us, h1, h2, h3⟩ := run_loadCells_at (P := P) hc
    rw [hl] at h1
    exact ⟨us, by simp [Builtin.firstCells, h1], VL.of_get (by simpa using h2.symm) (fun i v u hv hu => h3 i v u hv (by simpa using hu)), _, _, rfl⟩

theorem firstCells_str (b : ByteArray) (k es : Nat) : ∃ us, (Builtin.firstCells es k (.string b)).run P w = .ok us w ∧ VL μ ((b.data.toList.take k).map fun c => .int .u8 c.toNat) us.toList := by
  refine ⟨(b.extract 0 k).data.map fun b => .int .u8 b.toNat, by simp [Builtin.firstCells], ?_⟩
  have e : ((b.extract 0 k).data.map fun b => Value.int .u8 b.toNat).toList = (b.data.toList.take k).map fun b => Value.int .u8 b.toNat := by
    rw [Array.toList_map, extract_list]; simp
  rw [e]
  refine VL.of_get (by simp) fun i v u hv hu => ?_
  rw [List.getElem?_map] at hv hu
  cases hx : (b.data.toList.take k)[i]? with
  | none => rw [hx] at hv; cases hv
  | some x => rw [hx] at hv hu; cases hv; cases hu; exact .int _ _

theorem underlying_notint {ty : Nat → LT} (hty : TysOk P ty) {t : Nat} (h1 : ∀ k, (ty t).desc ≠ .int k) (h2 : (ty t).desc ≠ .other) : ∃ d, P.underlying t = some d ∧ ∀ k, d ≠ .int k := by
  have h := (hty.of_desc (t := t) h2).desc
  cases hd : (ty t).desc <;> rw [hd] at h <;> simp only [DescOk] at h
  case int k => exact absurd hd (h1 k)
  case other => exact absurd hd h2
  case ptr => obtain ⟨e, h⟩ := h; exact ⟨_, h, by simp⟩
  case func => obtain ⟨a, b, c, h⟩ := h; exact ⟨_, h, by simp⟩
  case iface => obtain ⟨ms, h⟩ := h; exact ⟨_, h, by simp⟩
  case struct => obtain ⟨Fs, h, _⟩ := h; exact ⟨_, h, by simp⟩
  all_goals exact ⟨_, h, by simp⟩

theorem append_fits {t tx rt e : TypeId} {E : LT} {d : TypeDesc} (h1 : P.underlying t = some (.slice e)) (hE : TyOk P e E) (h2 : P.underlying tx = some d) (h2' : ∀ k, d ≠ .int k)
    {base : Option Addr} {sLen sCap n : Nat} {x : Value} {us : Array Value} (hn : (Builtin.lenOf x).run P w = .ok n w) (hf : (Builtin.firstCells E.size n x).run P w = .ok us w) (hfit : sLen + n ≤ sCap)
    (hst : match base with | none => w' = w | some ad => (storeCells (ad.add (sLen * E.size)) us.toList).run P w = .ok () w') :
    (Builtin.append_ #[t, tx] rt #[.slice base sLen sCap, x]).run P w = .ok (.slice base (sLen + n) sCap) w' := by
  have hsz := run_sizeOf_ok hE w
  have hz : (match (generalizing := false) d with | .int _ => true | _ => false) = false := by cases d <;> first | rfl | exact absurd rfl (h2' _)
  simp only [Builtin.append_]
  simp only [List.getElem?_toArray, List.getElem?_cons_zero, List.getElem?_cons_succ, Sem.run_bind, run_underlying h1, Result.andThen_ok, hsz, run_underlying h2, hz, Sem.run_pure, Bool.false_eq_true, if_false, hn, Sem.run_ite, hfit, if_true,
    Bool.not_false]
  cases base with
  | none => subst hst; simp [hf]
  | some ad => simp only [] at hst; simp [hf, hst]

theorem nextcap_le (need cap : Nat) (h : cap < need) : Builtin.nextslicecap need cap ≤ 4 * need + 4000 := by
  unfold Builtin.nextslicecap
  split
  · omega
  · split
    · omega
    · simp only [Builtin.growBy]
      repeat' split
      all_goals omega

theorem append_grows {t tx rt e : TypeId} {E : LT} {d : TypeDesc} (h1 : P.underlying t = some (.slice e)) (hE : TyOk P e E) (h2 : P.underlying tx = some d) (h2' : ∀ k, d ≠ .int k)
    {base : Option Addr} {sLen sCap n : Nat} {x : Value} {us os : Array Value} (hn : (Builtin.lenOf x).run P w = .ok n w)
    (hfx : (Builtin.firstCells E.size n x).run P w.drew = .ok us w.drew)
    (hfo : (Builtin.firstCells E.size sLen (.slice base sLen sCap)).run P w.drew = .ok os w.drew) (hfit : ¬ sLen + n ≤ sCap)
    (hb : (sLen + n) * E.bytes ≤ maxMade) (hbb : 0 < E.bytes ∧ E.bytes ≤ 1000000) :
    ∃ c rest, sLen + n ≤ c ∧ rest.size = (c - (sLen + n)) * E.zero.length ∧
      (Builtin.append_ #[t, tx] rt #[.slice base sLen sCap, x]).run P w = .ok (.slice (some ⟨w.heap.size, 0, none⟩) (sLen + n) c) (w.drew.alloc (.cells (os ++ us ++ rest) e)) := by
  obtain ⟨i, z, i1, i2, i3, i4, i5⟩ := hE.info
  have hsz := run_sizeOf_ok hE w
  have hz : (match (generalizing := false) d with | .int _ => true | _ => false) = false := by cases d <;> first | rfl | exact absurd rfl (h2' _)
  have hti : ∀ w, (typeInfo e).run P w = .ok i w := fun w => by simp [typeInfo, i1]
  have hzv : ∀ w, (zeroValue e).run P w = .ok z w := fun w => by simp [zeroValue, hti, i4]
  have hcap : sLen + n ≤ Question.cut (.appendCap (sLen + n) sCap e) (w.tape w.drawn (.appendCap (sLen + n) sCap e)) := by simp only [Question.cut]; omega
  generalize hc : Question.cut (.appendCap (sLen + n) sCap e) (w.tape w.drawn (.appendCap (sLen + n) sCap e)) = c at hcap
  have hch : (choose (.appendCap (sLen + n) sCap e)).run P w = .ok c w.drew := by simp [Question.forced, hc]
  have hnb : ¬ (Builtin.nextslicecap (sLen + n) sCap * i.bytes > 2 ^ 48) := by
    have h3 := nextcap_le (sLen + n) sCap (by omega)
    have h4 : Builtin.nextslicecap (sLen + n) sCap * i.bytes ≤ (4 * (sLen + n) + 4000) * i.bytes := Nat.mul_le_mul_right _ h3
    rw [Nat.add_mul, Nat.mul_assoc] at h4
    rw [← i3] at hb hbb
    unfold maxMade at hb
    have : 4000 * i.bytes ≤ 4000000000 := by omega
    omega
  have hb0 : i.bytes ≠ 0 := by omega
  refine ⟨c, Builtin.zeroCells z.cells (c - (sLen + n)), hcap, ?_, ?_⟩
  · rw [i5]; simp [Builtin.zeroCells]
  · simp only [Builtin.append_]
    simp only [List.getElem?_toArray, List.getElem?_cons_zero, List.getElem?_cons_succ, Sem.run_bind, run_underlying h1, Result.andThen_ok, hsz, run_underlying h2, hz, Sem.run_pure, Bool.false_eq_true, if_false, hn, Sem.run_ite, hfit,
      Bool.not_false, if_true, hti, hb0, or_self, and_false, hnb, hch, run_askRoom, hfo, hfx, hzv]
    simp [newRow]

theorem lenOf_slice (q : Option Addr) (n c : Nat) (w : World) : (Builtin.lenOf (.slice q n c)).run P w = .ok n w := by simp [Builtin.lenOf]
theorem lenOf_string (b : ByteArray) (w : World) : (Builtin.lenOf (.string b)).run P w = .ok b.size w := by simp [Builtin.lenOf]

theorem newCells_sound {H : List Ob} (hs : HSim H μ w) {E : LT} {x : V} {u : Value} {xs : List V} {m : Nat} (h : newCells E H x = some (xs, m)) (hu : VR μ x u) :
    (∀ w, (Builtin.lenOf u).run P w = .ok m w) ∧ xs.length = m * E.size ∧ ∃ us, (Builtin.firstCells E.size m u).run P w = .ok us w ∧ VL μ xs us.toList := by
  unfold newCells at h
  split at h
  · rename_i q m'
    split at h
    · rename_i xs' hc
      cases h
      obtain ⟨us, h1, h2, q', c, rfl⟩ := firstCells_slc (P := P) hs hc hu
      obtain ⟨hl, _⟩ := slcCells_sound hs hc hu
      exact ⟨fun w => lenOf_slice _ _ _ _, hl, us, h1, h2⟩
    · cases h
  · split at h
    · rename_i h1
      cases h
      obtain ⟨b, rfl, rfl⟩ := hu.str_inv
      obtain ⟨us, h2, h3⟩ := firstCells_str (P := P) (w := w) (μ := μ) b b.data.toList.length E.size
      refine ⟨fun w => by rw [lenOf_string]; simp, by simp [h1], us, h2, ?_⟩
      rw [List.take_of_length_le (Nat.le_refl _)] at h3
      exact h3
    · cases h
  · cases h

theorem HSim.drew {H : List Ob} (h : HSim H μ w) : HSim H μ w.drew := h.world (fun _ _ _ _ _ _ => .of_heap rfl) (Nat.le_refl _)

theorem append_sound {ty : Nat → LT} (hty : TysOk P ty) {H : List Ob} (hs : HSim H μ w) {t tx rt e : TypeId} (he : (ty t).desc = .slice e) (hx1 : ∀ k, (ty tx).desc ≠ .int k) (hx2 : (ty tx).desc ≠ .other)
    {s x v : V} {us ux : Value} {H' : List Ob} (h : appendV (ty e) H s x = some (v, H')) (hu : VR μ s us) (hv : VR μ x ux) :
    ∃ r w' μ', (Builtin.append_ #[t, tx] rt #[us, ux]).run P w = .ok r w' ∧ HGoes H μ w H' μ' w' ∧ VR μ' v r := by
  unfold appendV at h
  split at h
  case isFalse => cases h
  rename_i hg
  simp only [growOk, decide_eq_true_eq] at hg
  obtain ⟨g1, g2, g3, g4⟩ := hg
  have hE := hty.of_size (t := e) (by omega)
  have h1 := (hty.of_desc (t := t) (by rw [he]; simp)).desc
  rw [he] at h1
  obtain ⟨d, h2, h2'⟩ := underlying_notint hty hx1 hx2
  split at h
  · cases h
  rename_i xs m hn
  obtain ⟨hl, hxl, uxs, hf, hvl⟩ := newCells_sound (P := P) hs hn hv
  obtain ⟨_, _, uxs', hf', hvl'⟩ := newCells_sound (P := P) hs.drew hn hv
  split at h
  · rename_i hm0
    subst hm0
    have hx0 : xs = [] := List.length_eq_zero_iff.1 (by simpa using hxl)
    subst hx0
    have hu0 : uxs.toList = [] := List.length_eq_zero_iff.1 (by have := hvl.length; simp at this; simpa using this.symm)
    split at h
    · cases h
      obtain ⟨rfl, _⟩ := hu.slcN_inv
      refine ⟨_, w, μ, append_fits (base := none) (us := uxs) h1 hE h2 h2' (hl w) hf (Nat.le_refl _) rfl, .refl hs, .slcN⟩
    · rename_i p n
      cases h
      obtain ⟨id, off⟩ := p
      obtain ⟨mm, hmm, ⟨c, hc, hr, hre, rfl⟩ | ⟨rfl, hre, ad, rfl⟩⟩ := hu.slc_inv
      · exact ⟨_, w, μ, append_fits (us := uxs) h1 hE h2 h2' (hl w) hf hc (by simp [hu0, storeCells]), .refl hs, hu⟩
      · exact ⟨_, w, μ, append_fits (us := uxs) h1 hE h2 h2' (hl w) hf (Nat.le_refl _) (by simp [hu0, storeCells]), .refl hs, hu⟩
    · cases h
  · rename_i hm0
    split at h
    case isFalse => cases h
    rename_i hone
    split at h
    · -- nil
      split at h
      case isFalse => cases h
      rename_i hb
      cases h
      obtain ⟨rfl, _⟩ := hu.slcN_inv
      obtain ⟨c, rest, hc, hrest, hrun⟩ := append_grows (rt := rt) (sLen := 0) (sCap := 0) (base := none) (os := #[]) h1 hE h2 h2' (hl w) hf' (by simp [Builtin.firstCells]) (by omega) (by simpa using hb) ⟨g2, g3⟩
      have hlen := hvl'.length
      simp only [Array.length_toList] at hlen
      have hgo := HGoes.new (es := (ty e).size) (w' := w.drew.alloc (.cells (#[] ++ uxs' ++ rest) e)) (fz := (0, 0)) hs (cells := xs) (us := #[] ++ uxs' ++ rest) (ty := e) (by
          have : ((#[] ++ uxs' ++ rest).toList.take xs.length) = uxs'.toList := by
            simp only [Array.toList_append, List.nil_append]
            rw [List.take_append_of_le_length (by simp; omega), List.take_of_length_le (by simp; omega)]
          rw [this]; exact hvl') (by simp; omega) rfl (.inr (Nat.le_refl _)) rfl rfl rfl
      refine ⟨_, _, _, hrun, hgo, ?_⟩
      have hsz : (#[] ++ uxs' ++ rest).size = c * (ty e).size := by
        have e2 : c * (ty e).size = m * (ty e).size + (c - m) * (ty e).size := by rw [← Nat.add_mul]; congr 1; omega
        simp only [Array.size_append, hrest, g4]
        simp; omega
      have := VR.slc (μ := μ.add H.length ⟨w.heap.size, 0, xs.length, (ty e).size, (#[] ++ uxs' ++ rest).size, true⟩) H.length 0 m c ⟨w.heap.size, 0, xs.length, (ty e).size, (#[] ++ uxs' ++ rest).size, true⟩
        (Mu.add_self _ _ _) (by omega) (fun _ => by simp only [hsz]; omega)
        (by simp only [Nat.zero_add, hxl]; exact Nat.mul_le_mul_right _ (by omega))
      simpa using this
    · rename_i id off n
      split at h
      case h_2 => cases h
      rename_i es cells ho
      split at h
      case isFalse => cases h
      rename_i hes
      subst hes
      obtain ⟨mm, hmm, hcase⟩ := hu.slc_inv
      obtain ⟨o1, o2, o3, o4, o5, o6⟩ := hs.obj id _ mm ho hmm
      obtain ⟨o6, o7⟩ := o6 rfl
      split at h
      · -- in place
        rename_i hfit
        cases h
        rcases hcase with ⟨c, hc, hr, hre, rfl⟩ | ⟨rfl, hre, ad, rfl⟩
        · have hr := hr o1.symm
          have hnc : n + m ≤ c := by
            have : (n + m) * (ty e).size ≤ c * (ty e).size := by rw [o2] at hfit ⊢; omega
            exact Nat.le_of_mul_le_mul_right this g1
          have e3 : (n + m) * (ty e).size = n * (ty e).size + m * (ty e).size := Nat.add_mul _ _ _
          have hul := hvl.length
          obtain ⟨w', hst, hw⟩ := run_storeCells_free (P := P) mm.blk uxs.toList (mm.base + off + n * (ty e).size) 0 w (hvl.oneCell hone) (o7.mono (by omega) (by omega))
          refine ⟨_, w', μ, append_fits (us := uxs) h1 hE h2 h2' (hl w) hf hnc (by simpa [Addr.add_lit] using hst), HGoes.write hs ho hmm ?_ hvl (by omega), ?_⟩
          · rw [Nat.add_zero, Nat.add_assoc] at hw; exact hw
          · exact .slc id off (n + m) c mm hmm hnc (fun _ => hr) hre
        · have : (0 + m) * (ty e).size = 0 := by omega
          rcases Nat.mul_eq_zero.1 this with h5 | h5 <;> omega
      · rename_i hnfit
        split at h
        case isFalse => cases h
        rename_i htail
        cases h
        obtain ⟨htail, hb⟩ := htail
        have e3 : (n + m) * (ty e).size = n * (ty e).size + m * (ty e).size := Nat.add_mul _ _ _
        have hdrop : (cells.drop off).length = n * (ty e).size := by
          simp only [List.length_drop]
          rcases htail with h5 | ⟨rfl, h5⟩ <;> omega
        by_cases hcap : ∃ c, us = .slice (some ⟨mm.blk, mm.base + off, none⟩) n c ∧ n + m ≤ c ∧ mm.base + off + c * mm.es ≤ mm.size ∧ mm.len ≤ off + c * mm.es
        · obtain ⟨c, rfl, hnc, hr, hre⟩ := hcap
          have e4 : (n + m) * (ty e).size ≤ c * (ty e).size := Nat.mul_le_mul_right _ hnc
          have hul := hvl.length
          rw [← o2] at hr hre
          obtain ⟨w', hst, hw⟩ := run_storeCells_free (P := P) mm.blk uxs.toList (mm.base + off + n * (ty e).size) 0 w (hvl.oneCell hone) (o7.mono (by omega) (by omega))
          rw [Nat.add_zero] at hw
          refine ⟨_, w', μ.add H.length ⟨mm.blk, mm.base + off, (n + m) * (ty e).size, (ty e).size, mm.size, true⟩, append_fits (us := uxs) h1 hE h2 h2' (hl w) hf hnc (by simpa [Addr.add_lit] using hst),
            HGoes.regrow hs ho hmm hw rfl ⟨rfl, rfl, by simp only [List.length_append, hdrop, hxl]; omega, ?_, by rw [hw.size]; exact o5, fun _ => ⟨by simp only; omega, (hw.free o7).mono (by simp) (Nat.le_refl _)⟩⟩, ?_⟩
          · intro j v hv
            simp only
            rw [hw.cell]
            by_cases hj : j < n * (ty e).size
            · rw [if_neg (by omega)]
              rw [List.getElem?_append_left (by omega), List.getElem?_drop] at hv
              obtain ⟨u, k1, k2⟩ := o4 _ _ hv
              exact ⟨u, by rw [← k1, Nat.add_assoc], VR.le (Mu.le_add _ hs.fresh) k2⟩
            · rw [List.getElem?_append_right (by omega), hdrop] at hv
              have hj2 : j - n * (ty e).size < xs.length := (List.getElem?_eq_some_iff.1 hv).1
              rw [if_pos (by omega)]
              have hj3 : j - n * (ty e).size < uxs.toList.length := by omega
              exact ⟨uxs.toList[j - n * (ty e).size], by rw [show mm.base + off + j - (mm.base + off + n * (ty e).size) = j - n * (ty e).size by omega]; simp [hj3], VR.le (Mu.le_add _ hs.fresh) (hvl.get _ _ _ hv (by simp [hj3]))⟩
          · have := VR.slc (μ := μ.add H.length ⟨mm.blk, mm.base + off, (n + m) * (ty e).size, (ty e).size, mm.size, true⟩) H.length 0 (n + m) c ⟨mm.blk, mm.base + off, (n + m) * (ty e).size, (ty e).size, mm.size, true⟩
              (Mu.add_self _ _ _) hnc (fun _ => by simpa using hr) (by simpa using e4)
            simpa using this
        · have hgrow : ∃ base c os, us = .slice base n c ∧ ¬ n + m ≤ c ∧ (Builtin.firstCells (ty e).size n us).run P w.drew = .ok os w.drew ∧ VL μ (cells.drop off) os.toList := by
            rcases hcase with ⟨c, hc, hr, hre, rfl⟩ | ⟨rfl, hre, ad, rfl⟩
            · have hnn : ¬ n + m ≤ c := fun h5 => hcap ⟨c, rfl, h5, hr o1.symm, hre⟩
              have hca : CellsAt μ w.drew mm.blk (mm.base + off) (cells.drop off) := by
                intro j v hv
                rw [List.getElem?_drop] at hv
                obtain ⟨u, k1, k2⟩ := o4 _ _ hv
                exact ⟨u, by rw [World.cell?_drew, ← k1, Nat.add_assoc], k2⟩
              obtain ⟨os, k1, k2, k3⟩ := run_loadCells_at (P := P) hca
              rw [hdrop] at k1
              exact ⟨_, c, os, rfl, hnn, by simp [Builtin.firstCells, k1], VL.of_get (by simpa using k2.symm) (fun i v u hv hu => k3 i v u hv (by simpa using hu))⟩
            · have : cells.drop off = [] := List.length_eq_zero_iff.1 (by omega)
              rw [this]
              exact ⟨_, 0, #[], rfl, by omega, by simp [Builtin.firstCells, loadCells, loadCellsFrom], .nil⟩
          obtain ⟨base, c0, os, rfl, hnn, hfo, hvo⟩ := hgrow
          obtain ⟨c, rest, hc, hrest, hrun⟩ := append_grows (rt := rt) h1 hE h2 h2' (hl w) hf' hfo hnn hb ⟨g2, g3⟩
          have hk := HGoes.kill hs id
          have l1 := hvo.length
          have l2 := hvl'.length
          simp only [Array.length_toList] at l1 l2
          have hsz : (os ++ uxs' ++ rest).size = c * (ty e).size := by
            have e2 : c * (ty e).size = (n + m) * (ty e).size + (c - (n + m)) * (ty e).size := by rw [← Nat.add_mul]; congr 1; omega
            simp only [Array.size_append, hrest, g4]
            omega
          have hgo := HGoes.new (es := (ty e).size) (w' := w.drew.alloc (.cells (os ++ uxs' ++ rest) e)) (fz := (0, 0)) hk.sim (cells := cells.drop off ++ xs) (us := os ++ uxs' ++ rest) (ty := e) (by
              have : ((os ++ uxs' ++ rest).toList.take (cells.drop off ++ xs).length) = os.toList ++ uxs'.toList := by
                simp only [Array.toList_append]
                rw [List.take_append_of_le_length (by simp only [List.length_append, Array.length_toList]; omega), List.take_of_length_le (by simp only [List.length_append, Array.length_toList]; omega)]
              rw [this]; exact hvo.append hvl') (by simp only [List.length_append, Array.size_append]; omega) rfl (.inr (Nat.le_refl _)) rfl rfl rfl
          refine ⟨_, _, _, hrun, hk.trans hgo, ?_⟩
          have := VR.slc (μ := μ.add H.length ⟨w.heap.size, 0, (cells.drop off ++ xs).length, (ty e).size, (os ++ uxs' ++ rest).size, true⟩) H.length 0 (n + m) c ⟨w.heap.size, 0, (cells.drop off ++ xs).length, (ty e).size, (os ++ uxs' ++ rest).size, true⟩
            (Mu.add_self _ _ _) hc (fun _ => by simp only [hsz]; omega)
            (by simp only [Nat.zero_add, List.length_append, hdrop, hxl]; rw [← e3]; exact Nat.mul_le_mul_right _ hc)
          simpa using this
    · cases h
end
end Go.Lite
end

section
namespace Go.Lite
open Go
set_option linter.unusedSimpArgs false
set_option linter.unusedVariables false

section
variable {P : Program} {L : List Nat} {σ σ' : St} {μ : Mu} {β : List Nat} {a : Act} {w w' : World}

/-- The fence of a plain frame, or of a round's. -/
abbrev rf (ro : Option Nat) : Fence := { Fence.wide with round := ro }

theorem notDefer_value {o : Oper} {ρ : Operand → Value} {u : Value} (h : (execOp ρ o).run P w = .ok (.value u) w') : ∀ c, o.op ≠ .defer c := by
  intro c hc
  unfold execOp at h
  rw [hc] at h
  simp only [Sem.run_bind] at h
  cases hr : (resolve ρ c o.type).run P w with
  | ok d w1 => rw [hr] at h; simp [Result.andThen] at h
  | halt x w1 => rw [hr] at h; simp [Result.andThen] at h
theorem notDefer_skip {o : Oper} {ρ : Operand → Value} (h : (execOp ρ o).run P w = .ok .skip w') : ∀ c, o.op ≠ .defer c := by
  intro c hc
  unfold execOp at h
  rw [hc] at h
  simp only [Sem.run_bind] at h
  cases hr : (resolve ρ c o.type).run P w with
  | ok d w1 => rw [hr] at h; simp [Result.andThen] at h
  | halt x w1 => rw [hr] at h; simp [Result.andThen] at h
theorem callsIn_rf {ro : Option Nat} {n : Nat} {f : FuncId} {args : Array Value} {R : Ending → World → Prop} (h : Calls P f args w R) : CallsIn (rf ro) n P f args w R := by
  cases ro with
  | none => exact callsIn_wide.2 h
  | some l => exact CallsIn.inRound l (callsIn_wide.2 h)

/-- The model's operation leads to where the interpreter's does. -/
def OpGoesB (N : Nat → Prop) (P : Program) (L : List Nat) (o : Oper) (σ : St) (μ : Mu) (β : List Nat) (a : Act) (w : World) (σ' : St) : Prop :=
  ∀ (ro : Option Nat) (next : Act → World → Prop) (Q : Exit → Act → World → Prop), (∀ a' w', LeadsB N L σ μ β a w σ' a' w' → next a' w') → o.wpIn (rf ro) 0 P a w next Q

abbrev OpGoes (P : Program) (L : List Nat) (o : Oper) (σ : St) (μ : Mu) (β : List Nat) (a : Act) (w : World) (σ' : St) : Prop := OpGoesB (fun id => σ.heap.length ≤ id) P L o σ μ β a w σ'

theorem OpGoes.value {N : Nat → Prop} {o : Oper} {u : Value} (h : (execOp a.eval o).run P w = .ok (.value u) w') (hl : LeadsB N L σ μ β a w σ' (a.put o.dst u) w') : OpGoesB N P L o σ μ β a w σ' := by
  intro ro next Q hn
  refine ⟨fun _ _ => trivial, ?_⟩
  rw [Oper.semAt_eq _ _ _ (notDefer_value h), h, Oper.uponIn_value]
  exact hn _ _ hl

theorem OpGoes.skip {o : Oper} (h : (execOp a.eval o).run P w = .ok .skip w') (hl : Leads L σ μ β a w σ' (a.put o.dst undef) w') : OpGoes P L o σ μ β a w σ' := by
  intro ro next Q hn
  refine ⟨fun _ _ => trivial, ?_⟩
  rw [Oper.semAt_eq _ _ _ (notDefer_skip h), h, Oper.uponIn_skip]
  exact hn _ _ hl

theorem Sim.newbox (hs : Sim L σ μ β a w) {d : Nat} (hd : d < a.tmps.size) (hL : d ∈ L) {t : TypeId} {cells : List V} {us : Array Value} (hc : VL μ cells us.toList) :
    Leads L σ μ β a w { σ with cnt := σ.cnt + 1, regs := upd σ.regs d (.box σ.cnt cells) } (a.put (some d) (.pointer (some ⟨w.heap.size, 0, none⟩))) (w.alloc (.cells us t)) := by
  have old : ∀ b, b < w.heap.size → SameBlk w (w.alloc (.cells us t)) b := fun b hb => .alloc _ hb
  have hsz : (w.alloc (.cells us t)).heap.size = w.heap.size + 1 := by simp
  have hβ : ∀ c b, (β ++ [w.heap.size])[c]? = some b → (β[c]? = some b ∧ c < σ.cnt) ∨ (c = σ.cnt ∧ b = w.heap.size) := by
    intro c b h
    have hl := hs.lenβ
    by_cases hcl : c < β.length
    · rw [List.getElem?_append_left hcl] at h; exact .inl ⟨h, by omega⟩
    · have : c < (β ++ [w.heap.size]).length := (List.getElem?_eq_some_iff.1 h).1
      simp at this
      have e : c = β.length := by omega
      subst e
      rw [List.getElem?_append_right (Nat.le_refl _)] at h
      simp at h
      exact .inr ⟨hl, h.symm⟩
  have mem : ∀ b, b ∈ β ++ [w.heap.size] → b ∈ β ∨ b = w.heap.size := fun b h => by simpa using h
  have hnew : (β ++ [w.heap.size])[σ.cnt]? = some w.heap.size := by rw [← hs.lenβ]; simp
  have nb : ∀ t' c' cells', upd σ.regs d (.box σ.cnt cells) t' = .box c' cells' → (t' = d ∧ c' = σ.cnt ∧ cells' = cells) ∨ (t' ≠ d ∧ σ.regs t' = .box c' cells') := by
    intro t' c' cells' h
    by_cases e : t' = d
    · subst e; rw [upd_self] at h; cases h; exact .inl ⟨rfl, rfl, rfl⟩
    · rw [upd_ne _ e] at h; exact .inr ⟨e, h⟩
  have stamp : ∀ t' c' cells', t' < a.tmps.size → σ.regs t' = .box c' cells' → c' < σ.cnt := by
    intro t' c' cells' ht h
    have := hs.reg t' ht
    rw [h] at this
    obtain ⟨b, hb, _⟩ := this
    rw [← hs.lenβ]
    exact (List.getElem?_eq_some_iff.1 hb).1
  have hh : HSim σ.heap μ (w.alloc (.cells us t)) := hs.heap.world (fun id o m h1 h2 h3 => old _ (live_lt hs.heap id o m h1 h2 h3)) (by omega)
  refine ⟨μ, β ++ [w.heap.size], ⟨hh, by simp [hs.lenβ], fun t' ht' => ?_, fun t' c' cells' b ht' h1 h2 => ?_, fun id o m b h1 h2 h3 h4 => ?_, fun c c' b h1 h2 => ?_, fun b hb => ?_, fun t1 t2 c' c1 c2 ht1 ht2 h1 h2 => ?_, fun t' c' cells' ht' h1 => ?_, by simpa [Act.put] using hs.defs⟩,
    μ.le_refl, List.prefix_append _ _, put_size _ _ _, ⟨by omega, fun b h1 _ => by simp only [World.alloc]; rw [Array.getElem?_push, if_neg (by omega)], fun b hb => ?_, rfl, rfl, rfl, fun _ => Nat.le_refl _⟩, Lives.refl _ _ _⟩
  · rw [put_size] at ht' ⊢
    rw [put_getD a d _ hd t']
    by_cases e : t' = d
    · subst e
      simp only [upd_self, if_true]
      exact ⟨_, hnew, rfl⟩
    · simp only [upd_ne _ e, if_neg e]
      exact RR.le μ.le_refl (List.prefix_append _ _) (hs.reg t' ht')
  · rw [put_size] at ht'
    rcases nb t' c' cells' h1 with ⟨rfl, rfl, rfl⟩ | ⟨e, h3⟩
    · rw [hnew] at h2; cases h2
      have hl := hc.length
      simp only [Array.length_toList] at hl
      refine ⟨fun j v hv => ?_, fun j h3 h4 => ?_⟩
      · have hj : j < us.size := by have := (List.getElem?_eq_some_iff.1 hv).1; omega
        refine ⟨us[j], by simp [hj], hc.get j v _ hv (by simp [hj])⟩
      · have hj : j < us.size := by omega
        exact ⟨⟨us[j], by simp [hj]⟩, by simp⟩
    · rcases hβ c' b h2 with ⟨h4, _⟩ | ⟨h4, _⟩
      · obtain ⟨k1, k2⟩ := hs.box t' c' cells' b ht' h3 h4
        have := old b (hs.ltβ b (List.mem_of_getElem? h4))
        exact ⟨k1.same this, k2.same this⟩
      · have := stamp t' c' cells' ht' h3
        omega
  · rcases mem b h4 with h5 | rfl
    · exact hs.sepβ id o m b h1 h2 h3 h5
    · exact Nat.ne_of_lt (live_lt hs.heap id o m h1 h2 h3)
  · rcases hβ c b h1 with ⟨h3, h4⟩ | ⟨h3, h4⟩ <;> rcases hβ c' b h2 with ⟨h5, h6⟩ | ⟨h5, h6⟩
    · exact hs.injβ c c' b h3 h5
    · have := hs.ltβ b (List.mem_of_getElem? h3); omega
    · have := hs.ltβ b (List.mem_of_getElem? h5); omega
    · omega
  · rcases mem b hb with h5 | rfl
    · have := hs.ltβ b h5; omega
    · omega
  · rw [put_size] at ht1 ht2
    rcases nb t1 c' c1 h1 with ⟨e1, e1', _⟩ | ⟨e1, g1⟩ <;> rcases nb t2 c' c2 h2 with ⟨e2, e3, _⟩ | ⟨e2, g2⟩
    · omega
    · have := stamp t2 _ c2 ht2 g2; omega
    · have := stamp t1 _ c1 ht1 g1; omega
    · exact hs.uniq t1 t2 _ c1 c2 ht1 ht2 g1 g2
  · rw [put_size] at ht'
    rcases nb t' c' cells' h1 with ⟨rfl, rfl, rfl⟩ | ⟨e, h3⟩
    · exact hL
    · exact hs.loc t' c' cells' ht' h3
  · rcases hb with h1 | h1
    · exact .inl (.inl h1)
    · rcases mem b h1 with h2 | rfl
      · exact .inl (.inr h2)
      · exact .inr (Nat.le_refl _)

theorem newVar_sound {C : Ctx} {f : Nat} (hs : Sim (C.locs f) σ μ β a w) {d : Option Nat} (hd : ∀ x, d = some x → x < a.tmps.size) {t : TypeId} {cells : List V} {us : Array Value} (hc : VL μ cells us.toList)
    (h : newVar C f σ d t cells = some σ') : Leads (C.locs f) σ μ β a w σ' (a.put d (.pointer (some ⟨w.heap.size, 0, none⟩))) (w.alloc (.cells us t)) := by
  unfold newVar at h
  split at h
  · rename_i d
    split at h
    · rename_i hL
      cases h
      exact Sim.newbox hs (hd d rfl) (by simpa using hL) hc
    · cases h
      have hl := hc.length
      simp only [Array.length_toList] at hl
      have hgo := HGoes.new (es := strideOf (C.ty t) C.ty) (w' := w.alloc (.cells us t)) (fz := (0, 0)) hs.heap (cells := cells) (us := us) (ty := t) (by rw [List.take_of_length_le (by simp; omega)]; exact hc) (by omega) rfl (.inr (Nat.le_refl _)) rfl rfl rfl
      have := Leads.heap_put hs hgo hd (d := some d) (v := .ptr (some (σ.heap.length, 0))) (VR.ptr _ _ ⟨w.heap.size, 0, cells.length, strideOf (C.ty t) C.ty, us.size, true⟩ (Mu.add_self _ _ _))
      simpa [St.put] using this
  · cases h

theorem alloc_goes {C : Ctx} {f : Nat} (hty : TysOk P C.ty) (hs : Sim (C.locs f) σ μ β a w) {o : Oper} (hd : ∀ x, o.dst = some x → x < a.tmps.size) {t : TypeId} (ho : o.op = .alloc t) (hz : 0 < (C.ty t).size)
    (h : newVar C f σ o.dst t (C.ty t).zero = some σ') : OpGoes P (C.locs f) o σ μ β a w σ' := by
  obtain ⟨z, h1, h2⟩ := zero_VL (w := w) (μ := μ) (hty.of_size (t := t) (by omega))
  refine OpGoes.value (u := .pointer (some ⟨w.heap.size, 0, none⟩)) (w' := w.alloc (.cells z.cells t)) ?_ (newVar_sound hs hd h2 h)
  unfold execOp
  rw [ho]
  simp [Instr.alloc, h1, Go.newVar, newRow]

theorem box_goes {C : Ctx} {f : Nat} (hs : Sim (C.locs f) σ μ β a w) {o : Oper} (hd : ∀ x, o.dst = some x → x < a.tmps.size) {t : TypeId} {x : Operand} (ho : o.op = .box t x) (hx : OpdOk a.tmps.size x)
    {v : V} {cs : List V} (h1 : ev σ x = some v) (h2 : cellsOf v = some cs) (h : newVar C f σ o.dst t cs = some σ') : OpGoes P (C.locs f) o σ μ β a w σ' := by
  have hc := cellsOf_sound h2 (ev_sound hs hx h1)
  refine OpGoes.value (u := .pointer (some ⟨w.heap.size, 0, none⟩)) (w' := w.alloc (.cells (a.eval x).cells t)) ?_ (newVar_sound hs hd hc h)
  unfold execOp
  rw [ho]
  simp [Instr.box, Go.newVar, newRow]

/-- Cells are written at a place. -/
theorem writeAt_sound (hs : Sim L σ μ β a w) {p : Pl} {b o : Nat} (hp : (∃ t c off, p = .loc t c off ∧ t < a.tmps.size ∧ β[c]? = some b ∧ o = 0 + off) ∨ (∃ id off m, p = .hp id off ∧ μ id = some m ∧ m.blk = b ∧ o = m.base + off))
    {xs : List V} {us : List Value} (hx : VL μ xs us) (hone : xs.all isOne = true) (h : writeAt σ p xs = some σ') :
    ∃ w', (storeCells ⟨b, o, none⟩ us).run P w = .ok () w' ∧ Leads L σ μ β a w σ' a w' := by
  have hul := hx.length
  rcases hp with ⟨t, c, off, rfl, ht, hb, rfl⟩ | ⟨id, off, m, rfl, hm, rfl, rfl⟩
  · simp only [writeAt] at h
    split at h
    · rename_i c' cells hq
      split at h
      · rename_i hcc
        obtain ⟨rfl, hl⟩ := hcc
        cases h
        obtain ⟨_, hf⟩ := hs.box t c' cells b ht hq hb
        obtain ⟨w', h1, h2⟩ := run_storeCells_free (P := P) b us (0 + off) 0 w (hx.oneCell hone) (hf.mono (by omega) (by omega))
        exact ⟨w', h1, hs.wbox ht hq hb hx hl (by simpa using h2)⟩
      · cases h
    · cases h
  · simp only [writeAt] at h
    split at h
    · rename_i es cells hq
      split at h
      · rename_i hl
        cases h
        obtain ⟨o1, o2, o3, o4, o5, o6⟩ := hs.heap.obj id _ m hq hm
        obtain ⟨o6, o7⟩ := o6 rfl
        obtain ⟨w', h1, h2⟩ := run_storeCells_free (P := P) m.blk us (m.base + off) 0 w (hx.oneCell hone) (o7.mono (by omega) (by omega))
        exact ⟨w', h1, Leads.of_heap hs (HGoes.write hs.heap hq hm (by simpa using h2) hx hl)⟩
      · cases h
    · cases h

theorem place_of (hs : Sim L σ μ β a w) {r : R} {u : Value} (hr : RR L a.tmps.size μ β r u) {p : Pl} (hp : toPl r = some p) :
    ∃ b o, u = .pointer (some ⟨b, o, none⟩) ∧ ((∃ t c off, p = .loc t c off ∧ t < a.tmps.size ∧ β[c]? = some b ∧ o = 0 + off) ∨ (∃ id off m, p = .hp id off ∧ μ id = some m ∧ m.blk = b ∧ o = m.base + off)) := by
  rcases toPl_cases hp with ⟨t, c, off, rfl, rfl⟩ | ⟨id, off, rfl, rfl⟩
  · obtain ⟨ht, _, b, hb, rfl⟩ := hr
    exact ⟨b, 0 + off, by simp, .inl ⟨t, c, off, rfl, ht, hb, rfl⟩⟩
  · obtain ⟨m, hm, rfl⟩ := VR.ptr_inv hr
    exact ⟨m.blk, m.base + off, rfl, .inr ⟨id, off, m, rfl, hm, rfl, rfl⟩⟩

theorem store_goes {C : Ctx} {f : Nat} (hty : TysOk P C.ty) (hs : Sim (C.locs f) σ μ β a w) {o : Oper} (hd : ∀ x, o.dst = some x → x < a.tmps.size) {t : TypeId} {x y : Operand} (ho : o.op = .store t x y)
    (hx : OpdOk a.tmps.size x) (hy : OpdOk a.tmps.size y) {r : R} {v : V} {p : Pl} {σ1 : St} (h1 : evR σ x = some r) (h2 : ev σ y = some v) (h3 : toPl r = some p) (h4 : storeAt (C.ty t) σ p v = some σ1) :
    OpGoes P (C.locs f) o σ μ β a w (σ1.put o.dst (.val .undef)) := by
  unfold storeAt at h4
  split at h4
  · rename_i xs hc
    split at h4
    · rename_i hb
      obtain ⟨hz, hl, hone⟩ := hb
      obtain ⟨b, off, hu, hp⟩ := place_of hs (evR_sound hs hx h1) h3
      have hv := cellsOf_sound hc (ev_sound hs hy h2)
      obtain ⟨w', h5, h6⟩ := writeAt_sound (P := P) hs hp hv hone h4
      have hsz := run_sizeOf_ok (hty.of_size (t := t) (by omega)) w
      have hvl := hv.length
      simp only [Array.length_toList] at hvl
      refine OpGoes.skip (w' := w') ?_ (h6.trans fun μ' β' hs' => Leads.put hs' ?_ (r := .val .undef) (.undef _) trivial)
      · unfold execOp
        rw [ho]
        simp [Instr.storeAt, hu, Instr.sureAddr, storeVar, hsz, h5, show (a.eval y).cells.size = (C.ty t).size by omega]
      · intro x hx'
        exact hd x hx'
    · cases h4
  · cases h4
end
end Go.Lite
end

section
namespace Go.Lite
open Go
set_option linter.unusedSimpArgs false
set_option linter.unusedVariables false

section
variable {P : Program} {L : List Nat} {σ σ' : St} {μ : Mu} {β : List Nat} {a : Act} {w w' : World}

theorem rep_get {α : Type} (l : List α) : ∀ (n i : Nat), (List.replicate n l).flatten[i]? = if i < n * l.length then l[i % l.length]? else none
  | 0, i => by simp
  | n + 1, i => by
    rw [List.replicate_succ, List.flatten_cons]
    by_cases h : i < l.length
    · rw [List.getElem?_append_left h, if_pos (by rw [Nat.add_mul]; omega), Nat.mod_eq_of_lt h]
    · rw [List.getElem?_append_right (by omega), rep_get l n]
      by_cases h2 : i - l.length < n * l.length
      · rw [if_pos h2, if_pos (by rw [Nat.add_mul]; omega), ← Nat.mod_eq_sub_mod (by omega)]
      · rw [if_neg h2, if_neg (by rw [Nat.add_mul]; omega)]

theorem zeros_VL {E : LT} {z : Value} (hz : VL μ E.zero z.cells.toList) (n : Nat) (h0 : 0 < E.zero.length) :
    VL μ (zerosL E n) ((Array.range (n * E.zero.length)).map (fun i => z.cells[i % z.cells.size]!)).toList := by
  have hl := hz.length
  simp only [Array.length_toList] at hl
  refine VL.of_get (by simp [zerosL]) fun i v u hv hu => ?_
  unfold zerosL at hv
  rw [rep_get] at hv
  split at hv
  · rename_i hi
    simp [hi] at hu
    have hm : i % z.cells.size < z.cells.size := Nat.mod_lt _ (by omega)
    rw [hl] at hv
    refine hz.get _ v u hv ?_
    rw [← hu]
    simp [hm]
  · cases hv

theorem buildSlice_goes {C : Ctx} {f : Nat} (hty : TysOk P C.ty) (hs : Sim (C.locs f) σ μ β a w) {o : Oper} (hd : ∀ x, o.dst = some x → x < a.tmps.size) {t e n : Nat} {parts : Array (Nat × Operand)} (ho : o.op = .buildSlice t n parts)
    (hx : ∀ x ∈ parts.toList, OpdOk a.tmps.size x.2) {ps : List (Nat × V)} {cs : List V} (he : (C.ty t).desc = .slice e) (h1 : evParts σ parts.toList = some ps)
    (hE : 0 < (C.ty e).size ∧ (C.ty e).zero.length = (C.ty e).size ∧ n * (C.ty e).size ≤ 16777216) (h2 : fillL (fun i => some (i * (C.ty e).size, (C.ty e).size)) (zerosL (C.ty e) n) ps = some cs) :
    OpGoes P (C.locs f) o σ μ β a w ((σ.new (.mk true (C.ty e).size cs)).put o.dst (.val (.slc (some (σ.heap.length, 0)) n))) := by
  obtain ⟨g1, g2, g3⟩ := hE
  have hTE := hty.of_size (t := e) (by omega)
  have ht := (hty.of_desc (t := t) (by rw [he]; simp)).desc
  rw [he] at ht
  obtain ⟨z, hz, hzv⟩ := zero_VL (w := w) (μ := μ) hTE
  have hps := evParts_sound hs hx h1
  have hz0 := zeros_VL hzv n (by omega)
  rw [g2] at hz0
  obtain ⟨c', h3, h4, h5⟩ := fill_sound (pl' := fun i => some (i * (C.ty e).size, (C.ty e).size)) (fun i x hx => hx) hps hz0 h2
  have hl := h4.length
  simp only [Array.length_toList] at hl
  have h5' : c'.size = n * (C.ty e).size := by rw [h5]; simp
  have hgo := HGoes.new (es := (C.ty e).size) (w' := w.alloc (.cells c' e)) (fz := (0, 0)) hs.heap (cells := cs) (us := c') (ty := e) (by rw [List.take_of_length_le (by simp; omega)]; exact h4) (by omega) rfl (.inr (Nat.le_refl _)) rfl rfl rfl
  have hv := VR.slc (μ := μ.add σ.heap.length ⟨w.heap.size, 0, cs.length, (C.ty e).size, c'.size, true⟩) σ.heap.length 0 n n ⟨w.heap.size, 0, cs.length, (C.ty e).size, c'.size, true⟩
    (Mu.add_self _ _ _) (Nat.le_refl _) (fun _ => by simp only [h5']; omega) (by simp only; omega)
  refine OpGoes.value (u := .slice (some ⟨w.heap.size, 0, none⟩) n n) (w' := w.alloc (.cells c' e)) ?_ (Leads.heap_put hs hgo hd (by simpa using hv))
  unfold execOp
  rw [ho]
  have hsz := run_sizeOf_ok hTE w
  have hmap : (parts.map fun (i, x) => (i, a.eval x)).toList = parts.toList.map fun (i, x) => (i, a.eval x) := by simp
  simp only [Sem.run_bind, Instr.buildSlice, run_underlying ht, Result.andThen_ok, hsz, Sem.run_ite]
  rw [if_neg (by omega)]
  by_cases hn0 : n * (C.ty e).size = 0
  · have hc0 : c' = #[] := Array.eq_empty_of_size_eq_zero (by omega)
    subst hc0
    have hr : (Array.range (n * (C.ty e).size)).map (fun i => z.cells[i % z.cells.size]!) = #[] := by rw [hn0, Array.range_zero', Array.map_empty]
    rw [hr] at h3
    simp only [hn0, if_true, Sem.run_pure, Result.andThen_ok, Array.range_zero', Array.map_empty, hmap]
    simp [h3, newRow]
  · simp only [hn0, if_false, Sem.run_pure, Result.andThen_ok, hz, hmap, Sem.run_bind, h3]
    simp [newRow]

theorem makeSlice_goes {C : Ctx} {f : Nat} (hty : TysOk P C.ty) (hs : Sim (C.locs f) σ μ β a w) {o : Oper} (hd : ∀ x, o.dst = some x → x < a.tmps.size) {t e : Nat} {xl xc : Operand} (ho : o.op = .makeSlice t xl xc)
    (hx : OpdOk a.tmps.size xl) (hy : OpdOk a.tmps.size xc) {l c : Int} (he : (C.ty t).desc = .slice e) (h1 : ev σ xl = some (.int .i64 l)) (h2 : ev σ xc = some (.int .i64 c))
    (hE : 0 < (C.ty e).size ∧ (C.ty e).zero.length = (C.ty e).size ∧ 0 ≤ l ∧ l ≤ c ∧ c * (C.ty e).bytes ≤ maxMade ∧ c ≤ maxMade) :
    OpGoes P (C.locs f) o σ μ β a w ((σ.new (.mk true (C.ty e).size (zerosL (C.ty e) c.toNat))).put o.dst (.val (.slc (some (σ.heap.length, 0)) l.toNat))) := by
  obtain ⟨g1, g2, g3, g4, g5, g6⟩ := hE
  have hTE := hty.of_size (t := e) (by omega)
  have ht := (hty.of_desc (t := t) (by rw [he]; simp)).desc
  rw [he] at ht
  obtain ⟨z, hz, hzv⟩ := zero_VL (w := w) (μ := μ) hTE
  obtain ⟨i, z', i1, i2, i3, i4, i5⟩ := hTE.info
  have hti : (typeInfo e).run P w = .ok i w := by simp [typeInfo, i1]
  have hz0 := zeros_VL hzv c.toNat (by omega)
  rw [g2] at hz0
  have hl := hz0.length
  simp only [Array.length_toList] at hl
  have e1 := (ev_sound hs hx h1).int_inv
  have e2 := (ev_sound hs hy h2).int_inv
  obtain ⟨C', rfl⟩ : ∃ n : Nat, c = n := ⟨c.toNat, by omega⟩
  obtain ⟨L', rfl⟩ : ∃ n : Nat, l = n := ⟨l.toNat, by omega⟩
  simp only [Int.toNat_natCast] at *
  generalize hus : (Array.range (C' * (C.ty e).size)).map (fun i => z.cells[i % z.cells.size]!) = us at hz0 hl
  have husz : us.size = C' * (C.ty e).size := by rw [← hus]; simp
  have hgo := HGoes.new (es := (C.ty e).size) (w' := w.alloc (.cells us e)) (fz := (0, 0)) hs.heap (cells := zerosL (C.ty e) C') (us := us) (ty := e) (by rw [List.take_of_length_le (by simp; omega)]; exact hz0) (by omega) rfl (.inr (Nat.le_refl _)) rfl rfl rfl
  have hv := VR.slc (μ := μ.add σ.heap.length ⟨w.heap.size, 0, (zerosL (C.ty e) C').length, (C.ty e).size, us.size, true⟩) σ.heap.length 0 L' C' ⟨w.heap.size, 0, (zerosL (C.ty e) C').length, (C.ty e).size, us.size, true⟩
    (Mu.add_self _ _ _) (by omega) (fun _ => by simp only; omega) (by simp only; omega)
  refine OpGoes.value (u := .slice (some ⟨w.heap.size, 0, none⟩) L' C') (w' := w.alloc (.cells us e)) ?_ (Leads.heap_put hs hgo hd (by simpa using hv))
  unfold execOp
  rw [ho]
  have hsz := run_sizeOf_ok hTE w
  unfold maxMade at g5 g6
  have w1 : IntKind.i64.wrap (L' : Int) = L' := by
    simp only [IntKind.wrap, IntKind.bits, IntKind.signed]; simp; omega
  have w2 : IntKind.i64.wrap (C' : Int) = C' := by
    simp only [IntKind.wrap, IntKind.bits, IntKind.signed]; simp; omega
  have n1 : ¬ ((C' : Int) < 0) := by omega
  have n2 : ¬ ((i.bytes : Int) * (C' : Int) > 2 ^ 48) := by
    rw [i3, Int.mul_comm]
    omega
  have n3 : ¬ ((L' : Int) < 0) := by omega
  have n4 : ¬ ((L' : Int) > C') := by omega
  simp only [Sem.run_bind, Instr.makeSlice, run_underlying ht, Result.andThen_ok, e1, e2, asInt, asIntOf, Sem.run_pure, hti, w1, w2, n1, n2, n3, n4, decide_false, Bool.or_false, Bool.false_eq_true, if_false, run_askRoom, hsz, Sem.run_ite, Int.toNat_natCast]
  by_cases hn0 : C' * (C.ty e).size = 0
  · have hc0 : us = #[] := Array.eq_empty_of_size_eq_zero (by omega)
    subst hc0
    simp [hn0, newRow, Array.range_zero']
  · simp [hn0, hz, hus, newRow]

theorem toBytes_goes {C : Ctx} {f : Nat} (hty : TysOk P C.ty) (hs : Sim (C.locs f) σ μ β a w) {o : Oper} (hd : ∀ x, o.dst = some x → x < a.tmps.size) {s t e : Nat} {x : Operand} (ho : o.op = .convert s t x)
    (hx : OpdOk a.tmps.size x) (hs' : (C.ty s).desc = .str) (he : (C.ty t).desc = .slice e) (he' : (C.ty e).desc = .int .u8) {b : List UInt8} (h1 : ev σ x = some (.str b)) :
    OpGoes P (C.locs f) o σ μ β a w ((σ.new (.mk true 1 (b.map (fun c => .int .u8 c.toNat)))).put o.dst (.val (.slc (some (σ.heap.length, 0)) b.length))) := by
  have h2 := (hty.of_desc (t := s) (by rw [hs']; simp)).desc
  have h3 := (hty.of_desc (t := t) (by rw [he]; simp)).desc
  have h4 := (hty.of_desc (t := e) (by rw [he']; simp)).desc
  rw [hs'] at h2; rw [he] at h3; rw [he'] at h4
  obtain ⟨bs, hb, rfl⟩ := (ev_sound hs hx h1).str_inv
  have hcap : bs.size ≤ grownCap w bs.size 0 e := by simp only [grownCap, Question.cut]; omega
  have husz : (Lib.bytesCells w e bs).size = grownCap w bs.size 0 e := by simp [Lib.bytesCells]; omega
  have hheap : (Lib.bytesWorld w e bs).heap = w.heap.push (.cells (Lib.bytesCells w e bs) e ((Lib.bytesCells w e bs).size, (Lib.bytesCells w e bs).size + 1)) := by
    apply Array.ext_getElem?
    intro i
    rw [Array.getElem?_push]
    by_cases hi : i = w.heap.size
    · subst hi; rw [if_pos rfl, Lib.bytesWorld_at_new]
    · rw [if_neg hi]
      by_cases hi2 : i < w.heap.size
      · exact Lib.bytesWorld_at_old w e bs i hi2
      · rw [Array.getElem?_eq_none (by rw [Lib.bytesWorld_size]; omega), Array.getElem?_eq_none (by omega)]
  have hvl : VL μ (bs.data.toList.map fun c => V.int .u8 c.toNat) ((Lib.bytesCells w e bs).toList.take (bs.data.toList.map fun c => V.int .u8 c.toNat).length) := by
    have : (Lib.bytesCells w e bs).toList.take (bs.data.toList.map fun c => V.int .u8 c.toNat).length = bs.data.toList.map fun b => Value.int .u8 b.toNat := by
      simp only [Lib.bytesCells, Array.toList_append, Array.toList_map, List.length_map]
      rw [List.take_append_of_le_length (by simp), List.take_of_length_le (by simp)]
    rw [this]
    refine VL.of_get (by simp) fun i v u hv hu => ?_
    rw [List.getElem?_map] at hv hu
    cases hx : bs.data.toList[i]? with
    | none => rw [hx] at hv; cases hv
    | some x => rw [hx] at hv hu; cases hv; cases hu; exact .int _ _
  have hgo := HGoes.new (es := 1) (w' := Lib.bytesWorld w e bs) hs.heap hvl (by simp; omega) hheap (.inl (Nat.le_refl _)) rfl rfl rfl
  have hv := VR.slc (μ := μ.add σ.heap.length ⟨w.heap.size, 0, (bs.data.toList.map fun c => V.int .u8 c.toNat).length, 1, (Lib.bytesCells w e bs).size, true⟩) σ.heap.length 0 bs.data.toList.length (grownCap w bs.size 0 e)
    ⟨w.heap.size, 0, (bs.data.toList.map fun c => V.int .u8 c.toNat).length, 1, (Lib.bytesCells w e bs).size, true⟩
    (Mu.add_self _ _ _) (by simpa using hcap) (fun _ => by simp only; omega) (by simp; omega)
  refine OpGoes.value (u := .slice (some ⟨w.heap.size, 0, none⟩) bs.size (grownCap w bs.size 0 e)) (w' := Lib.bytesWorld w e bs) ?_ (Leads.heap_put hs hgo hd (by simpa using hv))
  unfold execOp
  rw [ho]
  simp [hb, Lib.run_convert_string_bytes w s t e bs h2 h3 h4]
end
end Go.Lite
end

section
namespace Go.Lite
open Go
set_option linter.unusedSimpArgs false
set_option linter.unusedVariables false

/-- A call comes to a value (by a row of the model's own, or by its text). -/
def CallTo (P : Program) (g : FuncId) (us : Array Value) (w : World) (R : Value → World → Prop) : Prop :=
  (∃ v w', (callFunc g us).run P w = .ok (.value v) w' ∧ R v w') ∨
  ((callFunc g us).run P w = .ok (.enter g us) w ∧ Calls P g us w fun e w' => ∃ v, e = .returned v ∧ R v w')

theorem CallTo.mono {P : Program} {g : FuncId} {us : Array Value} {w : World} {R R' : Value → World → Prop} (h : CallTo P g us w R) (hr : ∀ v w', R v w' → R' v w') : CallTo P g us w R' := by
  rcases h with ⟨v, w', h1, h2⟩ | ⟨h1, h2⟩
  · exact .inl ⟨v, w', h1, hr _ _ h2⟩
  · exact .inr ⟨h1, h2.mono fun e w' ⟨v, h3, h4⟩ => ⟨v, h3, hr _ _ h4⟩⟩

/-- What the interpreter says of calls is so. -/
def CallOk (P : Program) (callf : CallF) : Prop :=
  ∀ (g : Nat) (args : List V) (H : List Ob) (r : V) (H' : List Ob), callf g args H = some (r, H') → ∀ (μ : Mu) (w : World) (us : Array Value), HSim H μ w → VL μ args us.toList →
    CallTo P g us w fun v w' => ∃ μ', HGoes H μ w H' μ' w' ∧ VR μ' r v

section
variable {P : Program} {L : List Nat} {σ σ' : St} {μ : Mu} {β : List Nat} {a : Act} {w w' : World}

theorem append_goes {C : Ctx} {f : Nat} (hty : TysOk P C.ty) (hs : Sim (C.locs f) σ μ β a w) {o : Oper} (hd : ∀ x, o.dst = some x → x < a.tmps.size) {xs xx : Operand} {t tx e : TypeId}
    (ho : o.op = .call { callee := .builtin .append, args := #[xs, xx], argTypes := #[t, tx] }) (hx : OpdOk a.tmps.size xs) (hy : OpdOk a.tmps.size xx) (he : (C.ty t).desc = .slice e)
    (hx1 : ∀ k, (C.ty tx).desc ≠ .int k) (hx2 : (C.ty tx).desc ≠ .other) {s x v : V} {H' : List Ob} (h1 : ev σ xs = some s) (h2 : ev σ xx = some x) (h : appendV (C.ty e) σ.heap s x = some (v, H')) :
    OpGoes P (C.locs f) o σ μ β a w (({ σ with heap := H' } : St).put o.dst (.val v)) := by
  obtain ⟨r, w', μ', h3, h4, h5⟩ := append_sound (rt := o.type) hty hs.heap he hx1 hx2 h (ev_sound hs hx h1) (ev_sound hs hy h2)
  refine OpGoes.value (u := r) (w' := w') ?_ (Leads.heap_put hs h4 hd h5)
  unfold execOp
  rw [ho]
  simp [resolve, invoke, builtin, h3]

theorem appendZ_sound {ty : Nat → LT} (hty : TysOk P ty) {H : List Ob} (hs : HSim H μ w) {t tx rt e : TypeId} (he : (ty t).desc = .slice e) {k : IntKind} (hk : (ty tx).desc = .int k)
    {s x v : V} {us ux : Value} {H' : List Ob} (h : appendZ (ty e) H s x = some (v, H')) (hu : VR μ s us) (hv : VR μ x ux) :
    ∃ r w' μ', (Builtin.append_ #[t, tx] rt #[us, ux]).run P w = .ok r w' ∧ HGoes H μ w H' μ' w' ∧ VR μ' v r := by
  unfold appendZ at h
  split at h
  case h_2 => cases h
  rename_i n
  split at h
  case isFalse => cases h
  rename_i hc
  obtain ⟨hg, hn0, hnb⟩ := hc
  simp only [growOk, decide_eq_true_eq] at hg
  obtain ⟨g1, g2, g3, g4⟩ := hg
  cases h
  obtain ⟨rfl, _⟩ := hu.slcN_inv
  have hux := hv.int_inv
  subst hux
  have hE := hty.of_size (t := e) (by omega)
  have h1 := (hty.of_desc (t := t) (by rw [he]; simp)).desc
  rw [he] at h1
  have h2 := (hty.of_desc (t := tx) (by rw [hk]; simp)).desc
  rw [hk] at h2
  obtain ⟨N, rfl⟩ : ∃ N : Nat, n = N := ⟨n.toNat, by omega⟩
  simp only [Int.toNat_natCast]
  have hN0 : 0 < N := by omega
  have hNb : N * (ty e).bytes ≤ maxMade := by exact_mod_cast hnb
  obtain ⟨z, hz, hzv⟩ := zero_VL (w := w.drew) (μ := μ) hE
  obtain ⟨i, z', i1, i2, i3, i4, i5⟩ := hE.info
  have hti : ∀ w, (typeInfo e).run P w = .ok i w := fun w => by simp [typeInfo, i1]
  have hzr : ∀ w, (zeroValue e).run P w = .ok z' w := fun w => by simp [zeroValue, hti, i4]
  have hzz : z = z' := by
    have := hzr w.drew
    rw [hz] at this
    cases this
    rfl
  subst hzz
  have hsz := run_sizeOf_ok hE w
  have hz0 := zeros_VL hzv N (by omega)
  rw [g4] at hz0
  generalize hc : Question.cut (.appendCap N 0 e) (w.tape w.drawn (.appendCap N 0 e)) = c
  have hcap : N ≤ c := by rw [← hc]; simp only [Question.cut]; omega
  have hch : (choose (.appendCap N 0 e)).run P w = .ok c w.drew := by simp [Question.forced, hc]
  have hw1 : IntKind.i64.wrap (N : Int) = N := by
    unfold maxMade at hNb
    have : N ≤ N * (ty e).bytes := Nat.le_mul_of_pos_right _ g2
    simp only [IntKind.wrap, IntKind.bits, IntKind.signed]; simp; omega
  have hNlt : N ≤ 1099511627776 := by
    unfold maxMade at hNb
    have : N ≤ N * (ty e).bytes := Nat.le_mul_of_pos_right _ g2
    omega
  have n1 : ¬ ((N : Int) < 0) := by omega
  have n2 : ¬ ((N : Int) * (i.bytes : Int) > 2 ^ 48) := by
    rw [i3]
    have : ((N * (ty e).bytes : Nat) : Int) ≤ 1099511627776 := by unfold maxMade at hNb; omega
    rw [Int.natCast_mul] at this
    omega
  have n3 : ¬ (((N : Nat) : Int) > IntKind.i64.max) := by
    have : IntKind.i64.max = 9223372036854775807 := by decide
    rw [this]; omega
  have n4 : ¬ (Builtin.nextslicecap N 0 * i.bytes > 2 ^ 48) := by
    have h3 := nextcap_le N 0 (by omega)
    have h4 : Builtin.nextslicecap N 0 * i.bytes ≤ (4 * N + 4000) * i.bytes := Nat.mul_le_mul_right _ h3
    rw [Nat.add_mul, Nat.mul_assoc] at h4
    rw [← i3] at hNb g3
    unfold maxMade at hNb
    have : 4000 * i.bytes ≤ 4000000000 := by omega
    omega
  have n5 : ¬ (N * (ty e).size = 0) := by
    intro h; rcases Nat.mul_eq_zero.1 h with h | h <;> omega
  have n6 : ¬ (N ≤ 0) := by omega
  have hlen := hz0.length
  simp only [Array.length_toList] at hlen
  have hzsize : z.cells.size = (ty e).zero.length := by rw [i5]; simp
  have husz : (Builtin.zeroCells z.cells N).size = N * (ty e).size := by simp [Builtin.zeroCells, hzsize, g4]
  generalize hrest : Builtin.zeroCells z.cells (c - N) = rest
  have hrsz : rest.size = (c - N) * (ty e).size := by rw [← hrest]; simp [Builtin.zeroCells, hzsize, g4]
  have hus : (Array.range (N * (ty e).size)).map (fun i => z.cells[i % z.cells.size]!) = Builtin.zeroCells z.cells N := by
    unfold Builtin.zeroCells
    rw [hzsize, g4]
  rw [hus] at hz0 hlen
  have hzl : (zerosL (ty e) N).length = N * (ty e).size := by omega
  have hzt : (Builtin.zeroCells z.cells N).toList.length = N * (ty e).size := by rw [← husz]; simp
  have hrun : (Builtin.append_ #[t, tx] rt #[.slice none 0 0, .int .i64 N]).run P w = .ok (.slice (some ⟨w.heap.size, 0, none⟩) N c) (w.drew.alloc (.cells (#[] ++ Builtin.zeroCells z.cells N ++ rest) e)) := by
    simp only [Builtin.append_]
    simp only [List.getElem?_toArray, List.getElem?_cons_zero, List.getElem?_cons_succ, Sem.run_bind, run_underlying h1, Result.andThen_ok, hsz, run_underlying h2, Sem.run_pure, if_true, asInt, asIntOf, hw1, Sem.run_ite, n1, if_false, hti, n2, Int.toNat_natCast, Nat.zero_add, n6, n3, false_and, n4, hch, run_askRoom, n5, Bool.not_true, Bool.false_eq_true, hzr, hrest]
    simp [Builtin.firstCells, newRow, hzr, hrest, n5]
  have hgo := HGoes.new (es := (ty e).size) (w' := w.drew.alloc (.cells (#[] ++ Builtin.zeroCells z.cells N ++ rest) e)) (fz := (0, 0)) hs (cells := zerosL (ty e) N) (us := #[] ++ Builtin.zeroCells z.cells N ++ rest) (ty := e) (by
      have : ((#[] ++ Builtin.zeroCells z.cells N ++ rest).toList.take (zerosL (ty e) N).length) = (Builtin.zeroCells z.cells N).toList := by
        simp only [Array.toList_append, List.nil_append]
        rw [List.take_append_of_le_length (by omega), List.take_of_length_le (by omega)]
      rw [this]; exact hz0) (by simp only [Array.size_append]; omega) rfl (.inr (Nat.le_refl _)) rfl rfl rfl
  have hsz2 : (#[] ++ Builtin.zeroCells z.cells N ++ rest).size = c * (ty e).size := by
    have e2 : c * (ty e).size = N * (ty e).size + (c - N) * (ty e).size := by rw [← Nat.add_mul]; congr 1; omega
    simp only [Array.size_append, husz, hrsz]
    simp; omega
  refine ⟨_, _, _, hrun, hgo, ?_⟩
  have := VR.slc (μ := μ.add H.length ⟨w.heap.size, 0, (zerosL (ty e) N).length, (ty e).size, (#[] ++ Builtin.zeroCells z.cells N ++ rest).size, true⟩) H.length 0 N c ⟨w.heap.size, 0, (zerosL (ty e) N).length, (ty e).size, (#[] ++ Builtin.zeroCells z.cells N ++ rest).size, true⟩
    (Mu.add_self _ _ _) (by omega) (fun _ => by simp only [hsz2]; omega)
    (by simp only [Nat.zero_add, hzl]; exact Nat.mul_le_mul_right _ (by omega))
  simpa using this

theorem isIntT_inv {T : LT} (h : isIntT T = true) : ∃ k, T.desc = .int k := by
  unfold isIntT at h
  split at h
  · rename_i k hk; exact ⟨k, hk⟩
  · cases h

theorem appendZ_goes {C : Ctx} {f : Nat} (hty : TysOk P C.ty) (hs : Sim (C.locs f) σ μ β a w) {o : Oper} (hd : ∀ x, o.dst = some x → x < a.tmps.size) {xs xx : Operand} {t tx e : TypeId} {k : IntKind}
    (ho : o.op = .call { callee := .builtin .append, args := #[xs, xx], argTypes := #[t, tx] }) (hx : OpdOk a.tmps.size xs) (hy : OpdOk a.tmps.size xx) (he : (C.ty t).desc = .slice e)
    (hk : (C.ty tx).desc = .int k) {s x v : V} {H' : List Ob} (h1 : ev σ xs = some s) (h2 : ev σ xx = some x) (h : appendZ (C.ty e) σ.heap s x = some (v, H')) :
    OpGoes P (C.locs f) o σ μ β a w (({ σ with heap := H' } : St).put o.dst (.val v)) := by
  obtain ⟨r, w', μ', h3, h4, h5⟩ := appendZ_sound (rt := o.type) hty hs.heap he hk h (ev_sound hs hx h1) (ev_sound hs hy h2)
  refine OpGoes.value (u := r) (w' := w') ?_ (Leads.heap_put hs h4 hd h5)
  unfold execOp
  rw [ho]
  simp [resolve, invoke, builtin, h3]

theorem copyCells_sound {H : List Ob} (hs : HSim H μ w) {E : LT} {x : V} {u : Value} {n k : Nat} {xs : List V} (h0 : copyMany x n = some k) (h : copyCells E H x k = some xs) (hu : VR μ x u) :
    (∃ m, (Builtin.lenOf u).run P w = .ok m w ∧ k = min m n) ∧ xs.length = k * E.size ∧ ∃ us, (Builtin.firstCells E.size k u).run P w = .ok us w ∧ VL μ xs us.toList := by
  unfold copyMany at h0
  split at h0
  · cases h0
    rename_i q m
    simp only [copyCells] at h
    obtain ⟨us, h1, h2, q', c, rfl⟩ := firstCells_slc (P := P) hs h hu
    obtain ⟨hl, _⟩ := slcCells_sound hs h hu
    exact ⟨⟨m, lenOf_slice _ _ _ _, rfl⟩, hl, us, h1, h2⟩
  · cases h0
    simp only [copyCells] at h
    split at h
    · rename_i h1
      cases h
      obtain ⟨b, rfl, rfl⟩ := hu.str_inv
      obtain ⟨us, h2, h3⟩ := firstCells_str (P := P) (w := w) (μ := μ) b (min b.data.toList.length n) E.size
      exact ⟨⟨b.size, lenOf_string _ _, by simp⟩, by simp [h1], us, h2, h3⟩
    · cases h
  · cases h0

theorem copy_goes {C : Ctx} {f : Nat} (hty : TysOk P C.ty) (hs : Sim (C.locs f) σ μ β a w) {o : Oper} (hd : ∀ x, o.dst = some x → x < a.tmps.size) {xs xx : Operand} {t e : TypeId} {ts : List TypeId}
    (ho : o.op = .call { callee := .builtin .copy, args := #[xs, xx], argTypes := (t :: ts).toArray }) (hx : OpdOk a.tmps.size xs) (hy : OpdOk a.tmps.size xx) (he : (C.ty t).desc = .slice e)
    {s x v : V} (h1 : ev σ xs = some s) (h2 : ev σ xx = some x) (h : copyV (C.ty e) σ s x = some (v, σ')) :
    OpGoes P (C.locs f) o σ μ β a w (σ'.put o.dst (.val v)) := by
  have ht := (hty.of_desc (t := t) (by rw [he]; simp)).desc
  rw [he] at ht
  have hu := ev_sound hs hx h1
  have hv := ev_sound hs hy h2
  unfold copyV at h
  split at h
  · cases h
  rename_i hz
  have hsz := run_sizeOf_ok (hty.of_size hz) w
  split at h
  case h_2 => cases h
  rename_i p n
  split at h
  · cases h
  rename_i k hk
  split at h
  · cases h
  rename_i cs hc
  obtain ⟨⟨m, hm, hkm⟩, hxl, us, hf, hvl⟩ := copyCells_sound (P := P) hs.heap hk hc hv
  have hk' : Nat.min m n = k := hkm.symm
  split at h
  · rename_i hk0
    subst hk0
    cases h
    have hu0 : us.toList = [] := List.length_eq_zero_iff.1 (by have := hvl.length; rw [hxl, Nat.zero_mul] at this; exact this.symm)
    have : ∃ q c, a.eval xs = .slice q n c := by
      cases p with
      | none => obtain ⟨hq, rfl⟩ := hu.slcN_inv; exact ⟨_, _, hq⟩
      | some p =>
        obtain ⟨id, off⟩ := p
        obtain ⟨mm, _, ⟨c, _, _, _, hq⟩ | ⟨rfl, _, ad, hq⟩⟩ := hu.slc_inv <;> exact ⟨_, _, hq⟩
    obtain ⟨q, c, hq⟩ := this
    refine OpGoes.value (u := .int .i64 0) (w' := w) ?_ (Leads.put hs hd (r := .val (.int .i64 0)) (.int _ _) trivial)
    unfold execOp
    rw [ho]
    have hk'' : Nat.min m n = 0 := hk'
    cases q <;> simp [resolve, invoke, builtin, Builtin.copy_, run_underlying ht, hq, hm, hk'', hsz, hf, hu0, storeCells, goInt]
  · rename_i hk0
    split at h
    · cases h
    · rename_i id off
      split at h
      case isFalse => cases h
      rename_i hone
      split at h
      case h_2 => cases h
      rename_i σ1 hw
      cases h
      obtain ⟨mm, hmm, ⟨c, hc', _, _, hq⟩ | ⟨rfl, _, ad, hq⟩⟩ := hu.slc_inv
      · obtain ⟨w', h5, h6⟩ := writeAt_sound (P := P) hs (.inr ⟨id, off, mm, rfl, hmm, rfl, rfl⟩) hvl hone hw
        refine OpGoes.value (u := .int .i64 k) (w' := w') ?_ (h6.trans fun μ' β' hs' => Leads.put hs' hd (r := .val (.int .i64 k)) (.int _ _) trivial)
        unfold execOp
        rw [ho]
        simp [resolve, invoke, builtin, Builtin.copy_, run_underlying ht, hq, hm, hk', hsz, hf, h5, goInt]
      · omega

theorem clear_goes {C : Ctx} {f : Nat} (hty : TysOk P C.ty) (hs : Sim (C.locs f) σ μ β a w) {o : Oper} (hd : ∀ x, o.dst = some x → x < a.tmps.size) {xs : Operand} {t e : TypeId}
    (ho : o.op = .call { callee := .builtin .clear, args := #[xs], argTypes := #[t] }) (hx : OpdOk a.tmps.size xs) (he : (C.ty t).desc = .slice e) {id off n : Nat} (h1 : ev σ xs = some (.slc (some (id, off)) n)) (hn : n ≠ 0)
    (hE : (C.ty e).zero.all isOne = true ∧ (C.ty e).zero.length = (C.ty e).size ∧ 0 < (C.ty e).size) (h : writeAt σ (.hp id off) (zerosL (C.ty e) n) = some σ') :
    OpGoes P (C.locs f) o σ μ β a w (σ'.put o.dst (.val (.tup []))) := by
  have ht := (hty.of_desc (t := t) (by rw [he]; simp)).desc
  rw [he] at ht
  have hTE := hty.of_size (t := e) (by omega)
  obtain ⟨z, hz, hzv⟩ := zero_VL (w := w) (μ := μ) hTE
  have hz0 := zeros_VL hzv n (by omega)
  have hzl := hzv.length
  simp only [Array.length_toList] at hzl
  obtain ⟨mm, hmm, ⟨c, hc', _, _, hq⟩ | ⟨h0, _, ad, hq⟩⟩ := (ev_sound hs hx h1).slc_inv
  · have hone : (zerosL (C.ty e) n).all isOne = true := by
      unfold zerosL
      rw [List.all_flatten]
      simp only [List.all_replicate]
      split <;> simp_all
    obtain ⟨w', h5, h6⟩ := writeAt_sound (P := P) hs (.inr ⟨id, off, mm, rfl, hmm, rfl, rfl⟩) hz0 hone h
    refine OpGoes.value (u := .tuple #[]) (w' := w') ?_ (h6.trans fun μ' β' hs' => Leads.put hs' hd (r := .val (.tup [])) (.tup [] #[] rfl (by simp)) trivial)
    unfold execOp
    rw [ho]
    rw [hzl] at h5
    obtain ⟨n', rfl⟩ : ∃ n', n = n' + 1 := ⟨n - 1, by omega⟩
    have e1 : Builtin.zeroCells z.cells (n' + 1) = (Array.range ((n' + 1) * z.cells.size)).map (fun i => z.cells[i % z.cells.size]!) := rfl
    rw [← e1] at h5
    simp [resolve, invoke, builtin, Builtin.clear_, run_underlying ht, hq, hz, h5]
  · exact absurd h0 hn

theorem clear0_goes {C : Ctx} {f : Nat} (hty : TysOk P C.ty) (hs : Sim (C.locs f) σ μ β a w) {o : Oper} (hd : ∀ x, o.dst = some x → x < a.tmps.size) {xs : Operand} {t e : TypeId}
    (ho : o.op = .call { callee := .builtin .clear, args := #[xs], argTypes := #[t] }) (hx : OpdOk a.tmps.size xs) (he : (C.ty t).desc = .slice e) {p : Option (Nat × Nat)} (h1 : ev σ xs = some (.slc p 0)) :
    OpGoes P (C.locs f) o σ μ β a w (σ.put o.dst (.val (.tup []))) := by
  have ht := (hty.of_desc (t := t) (by rw [he]; simp)).desc
  rw [he] at ht
  have hu := ev_sound hs hx h1
  have : ∃ q c, a.eval xs = .slice q 0 c := by
    cases p with
    | none => obtain ⟨hq, _⟩ := hu.slcN_inv; exact ⟨_, _, hq⟩
    | some p =>
      obtain ⟨id, off⟩ := p
      obtain ⟨mm, _, ⟨c, _, _, _, hq⟩ | ⟨_, _, ad, hq⟩⟩ := hu.slc_inv <;> exact ⟨_, _, hq⟩
  obtain ⟨q, c, hq⟩ := this
  refine OpGoes.value (u := .tuple #[]) (w' := w) ?_ (Leads.put hs hd (r := .val (.tup [])) (.tup [] #[] rfl (by simp)) trivial)
  unfold execOp
  rw [ho]
  cases q <;> simp [resolve, invoke, builtin, Builtin.clear_, run_underlying ht, hq]

theorem call_goes {C : Ctx} {f : Nat} {callf : CallF} (hcall : CallOk P callf) (hs : Sim (C.locs f) σ μ β a w) {o : Oper} (hd : ∀ x, o.dst = some x → x < a.tmps.size) {g : Operand} {args : Array Operand} {ts : Array TypeId}
    (ho : o.op = .call { callee := .value g, args := args, argTypes := ts }) (hx : OpdOk a.tmps.size g) (hy : ∀ x ∈ args.toList, OpdOk a.tmps.size x) {gf : Nat} {az bs xs : List V} {r : V} {H' : List Ob}
    (h1 : ev σ g = some (.fn gf az bs)) (h2 : evs σ args.toList = some xs) (h : callf gf (az ++ xs ++ bs) σ.heap = some (r, H')) :
    OpGoes P (C.locs f) o σ μ β a w (({ σ with heap := H' } : St).put o.dst (.val r)) := by
  obtain ⟨us, vs, hg, ha1, ha2, hb1, hb2⟩ := (ev_sound hs hx h1).fn_inv
  have hxs := evs_sound hs hy h2
  rw [← Array.toList_map] at hxs
  have hall : VL μ (az ++ xs ++ bs) (us ++ args.map a.eval ++ vs).toList := by
    rw [Array.toList_append, Array.toList_append]
    exact ((VL.of_get (by simpa using ha1) (fun i v u k1 k2 => ha2 i v u k1 (by simpa using k2))).append hxs).append (VL.of_get (by simpa using hb1) (fun i v u k1 k2 => hb2 i v u k1 (by simpa using k2)))
  have key := hcall gf _ σ.heap r H' h μ w _ hs.heap hall
  have hexec : (execOp a.eval o).run P w = (callFunc gf (us ++ args.map a.eval ++ vs)).run P w := by
    unfold execOp
    rw [ho]
    simp [resolve, hg, Deferred.ofValue, invoke]
  rcases key with ⟨v, w', k1, μ', k2, k3⟩ | ⟨k1, k2⟩
  · exact OpGoes.value (u := v) (w' := w') (by rw [hexec, k1]) (Leads.heap_put hs k2 hd k3)
  · intro ro next Q hn
    refine ⟨fun _ _ => trivial, ?_⟩
    rw [Oper.semAt_eq _ _ _ (by rw [ho]; simp), hexec, k1, Oper.uponIn_enter]
    refine ⟨fun h => (by cases h), callsIn_rf (k2.mono ?_)⟩
    rintro e w' ⟨v, rfl, μ', k3, k4⟩
    exact hn _ _ (Leads.heap_put hs k3 hd k4)

theorem RR.noBox_of_val {C : Ctx} {o : Op} {r : R} (h : valL C σ o = some r) : r.noBox := by
  cases r with
  | val v => trivial
  | ref t c off => trivial
  | box c cells =>
    exfalso
    have ev1 : ∀ x, evR σ x ≠ some (.box c cells) := by
      intro x
      cases x <;> simp only [evR]
      · split <;> simp
      all_goals simp
    unfold valL at h
    repeat' split at h
    all_goals first
      | (cases h; done)
      | exact ev1 _ h
      | (unfold fieldR at h; (repeat' split at h) <;> cases h)
      | (unfold indexR at h; (repeat' split at h) <;> cases h)

end
end Go.Lite
end

section
namespace Go.Lite
open Go
set_option linter.unusedSimpArgs false
set_option linter.unusedVariables false

section
variable {P : Program} {L : List Nat} {σ σ' : St} {μ : Mu} {β : List Nat} {a : Act} {w w' : World}

theorem elemT_inv {C : Ctx} {t : Nat} {E : LT} (h : elemT C t = some E) : ∃ e, (C.ty t).desc = .slice e ∧ E = C.ty e := by
  unfold elemT at h
  split at h
  · rename_i e he; cases h; exact ⟨e, he, rfl⟩
  · cases h

theorem arr1 {α : Type} {xs : Array α} {x : α} (h : xs.toList = [x]) : xs = #[x] := Array.toList_inj.1 (by simpa using h)
theorem arr2 {α : Type} {xs : Array α} {x y : α} (h : xs.toList = [x, y]) : xs = #[x, y] := Array.toList_inj.1 (by simpa using h)
theorem arrc {α : Type} {xs : Array α} {x : α} {ys : List α} (h : xs.toList = x :: ys) : xs = (x :: ys).toArray := Array.toList_inj.1 (by simpa using h)

theorem effL_sound {C : Ctx} {callf : CallF} {f : Nat} (hty : TysOk P C.ty) (hcall : CallOk P callf) (hs : Sim (C.locs f) σ μ β a w) (o : Oper) (ho : OpOk a.tmps.size o.op) (hd : ∀ x, o.dst = some x → x < a.tmps.size)
    (h : effL C callf f σ o.dst o.op = some σ') : OpGoes P (C.locs f) o σ μ β a w σ' := by
  generalize hop : o.op = op at h ho
  unfold effL at h
  split at h
  case h_1 t =>
    split at h
    · rename_i hz; exact alloc_goes hty hs hd hop hz h
    · cases h
  case h_2 t x =>
    split at h
    · rename_i v h1
      split at h
      · rename_i cs h2
        exact box_goes hs hd hop (ho x (by simp [Op.operands])) h1 h2 h
      · cases h
    · cases h
  case h_3 t x y =>
    split at h
    · rename_i r v h1 h2
      split at h
      · rename_i p h3
        split at h
        · rename_i σ1 h4
          cases h
          exact store_goes hty hs hd hop (ho x (by simp [Op.operands])) (ho y (by simp [Op.operands])) h1 h2 h3 h4
        · cases h
      · cases h
    · cases h
  case h_4 t n parts =>
    split at h
    · rename_i E ps h1 h2
      obtain ⟨e, he, rfl⟩ := elemT_inv h1
      split at h
      · rename_i hE
        split at h
        · rename_i cs h3
          cases h
          exact buildSlice_goes hty hs hd hop (fun x hx => ho x.2 (by simp only [Op.operands]; simp; exact ⟨x.1, by simpa using hx⟩)) he h2 hE h3
        · cases h
      · cases h
    · cases h
  case h_5 t l c =>
    split at h
    · rename_i E l' c' h1 h2 h3
      obtain ⟨e, he, rfl⟩ := elemT_inv h1
      split at h
      · rename_i hE
        cases h
        exact makeSlice_goes hty hs hd hop (ho l (by simp [Op.operands])) (ho c (by simp [Op.operands])) he h2 h3 hE
      · cases h
    · cases h
  case h_6 s t x =>
    split at h
    · rename_i e b h1 h2 h3
      split at h
      · rename_i he'
        split at h
        · rename_i hz
          cases h
          exact toBytes_goes hty hs hd hop (ho x (by simp [Op.operands])) h1 h2 he' h3
        · cases h
      · cases h
    · cases h
  case h_7 args ts =>
    split at h
    · rename_i s x t u hx ht
      have ea := arr2 hx
      have et := arr2 ht
      subst ea; subst et
      split at h
      · rename_i E s' x' h1 h2 h3
        obtain ⟨e, he, rfl⟩ := elemT_inv h1
        split at h
        · rename_i v H' h4
          cases h
          unfold appV at h4
          split at h4
          · split at h4
            · rename_i hi
              obtain ⟨k, hk⟩ := isIntT_inv hi
              exact appendZ_goes hty hs hd hop (ho s (by simp [Op.operands, Call.operands])) (ho x (by simp [Op.operands, Call.operands])) he hk h2 h3 h4
            · cases h4
          · rename_i hbad
            have hn1 : ∀ k, (C.ty u).desc ≠ .int k := fun k hk => hbad (by simp [badArg, hk])
            have hn2 : (C.ty u).desc ≠ .other := fun hk => hbad (by simp [badArg, hk])
            exact append_goes hty hs hd hop (ho s (by simp [Op.operands, Call.operands])) (ho x (by simp [Op.operands, Call.operands])) he hn1 hn2 h2 h3 h4
        · cases h
      · cases h
    · cases h
  case h_8 args ts =>
    split at h
    · rename_i s x t ts' hx ht
      have ea := arr2 hx
      have et := arrc ht
      subst ea; subst et
      split at h
      · rename_i E s' x' h1 h2 h3
        obtain ⟨e, he, rfl⟩ := elemT_inv h1
        split at h
        · rename_i v σ1 h4
          cases h
          exact copy_goes hty hs hd hop (ho s (by simp [Op.operands, Call.operands])) (ho x (by simp [Op.operands, Call.operands])) he h2 h3 h4
        · cases h
      · cases h
    · cases h
  case h_9 args ts =>
    split at h
    · rename_i s t hx ht
      have ea := arr1 hx
      have et := arr1 ht
      subst ea; subst et
      split at h
      · rename_i E h1 h2
        obtain ⟨e, he, rfl⟩ := elemT_inv h1
        cases h
        exact clear0_goes hty hs hd hop (ho s (by simp [Op.operands, Call.operands])) he h2
      · rename_i E id off n h1 h2
        obtain ⟨e, he, rfl⟩ := elemT_inv h1
        split at h
        · rename_i hn
          subst hn
          cases h
          exact clear0_goes hty hs hd hop (ho s (by simp [Op.operands, Call.operands])) he h2
        · rename_i hn
          split at h
          · rename_i hE
            split at h
            · rename_i σ1 h4
              cases h
              exact clear_goes hty hs hd hop (ho s (by simp [Op.operands, Call.operands])) he h2 hn hE h4
            · cases h
          · cases h
      · cases h
    · cases h
  case h_10 g args ts =>
    split at h
    · rename_i g' az bs xs h1 h2
      split at h
      · rename_i r H' h3
        cases h
        exact call_goes hcall hs hd hop (ho g (by simp [Op.operands, Call.operands])) (fun x hx => ho x (by simp [Op.operands, Call.operands]; exact .inr (by simpa using hx))) h1 h2 h3
      · cases h
    · cases h
  case h_11 => cases h

theorem opL_sound {C : Ctx} {callf : CallF} {f : Nat} (hty : TysOk P C.ty) (hcall : CallOk P callf) (hs : Sim (C.locs f) σ μ β a w) (o : Oper) (ho : OpOk a.tmps.size o.op) (hd : ∀ x, o.dst = some x → x < a.tmps.size)
    (h : opL C callf f o σ = some σ') : OpGoes P (C.locs f) o σ μ β a w σ' := by
  unfold opL at h
  split at h
  · exact effL_sound hty hcall hs o ho hd h
  · split at h
    · rename_i r h1
      cases h
      obtain ⟨u, h2, h3⟩ := valL_sound hty hs o ho h1
      exact OpGoes.value h2 (Leads.put hs hd h3 (RR.noBox_of_val h1))
    · cases h

theorem tup0 {μ : Mu} : VR μ (.tup []) Go.undef := VR.tup [] #[] rfl (fun i v u h _ => by simp at h)

theorem wanted_sound {ops : Array Oper} (hs : Sim L σ μ β a w) (hd : ∀ o ∈ ops.toList, ∀ x, o.dst = some x → x < a.tmps.size) {o : Oper} {b : Bool} (h : wantedL ops σ o.guard = some b) :
    Region.wanted o (yielded ops a.tmps) = b := by
  unfold wantedL at h
  unfold Region.wanted
  split at h
  · rename_i hg; rw [hg]; cases h; rfl
  · rename_i j want hg
    rw [hg]
    simp only
    split at h
    · rename_i t ht
      split at h
      · rename_i c hc
        cases h
        have htl : t < a.tmps.size := by
          cases hj : ops[j]? with
          | none => rw [hj] at ht; cases ht
          | some o' =>
            rw [hj] at ht
            exact hd o' (by simpa using Array.mem_of_getElem? hj) t ht
        have := hs.reg t htl
        rw [hc] at this
        have hb := VR.bool_inv this
        have hy : yielded ops a.tmps j = some c := by
          unfold yielded
          rw [ht]
          simp [htl] at hb
          simp [htl, hb]
        rw [hy]
        cases c <;> cases want <;> rfl
      · rename_i c hc
        cases h
        have htl : t < a.tmps.size := by
          cases hj : ops[j]? with
          | none => rw [hj] at ht; cases ht
          | some o' =>
            rw [hj] at ht
            exact hd o' (by simpa using Array.mem_of_getElem? hj) t ht
        have := hs.reg t htl
        rw [hc] at this
        have hy : yielded ops a.tmps j = none := by
          unfold yielded
          rw [ht]
          simp only [Option.bind_some, Array.getElem?_eq_getElem htl]
          rw [Array.getD_eq_getD_getElem?, Array.getElem?_eq_getElem htl, Option.getD_some] at this
          generalize a.tmps[t] = u at this
          change VR μ (.tup c) u at this
          cases this
          rfl
        rw [hy]
        cases want <;> rfl
      · cases h
    · cases h

/-- The operations at these places, one behind the other. -/
def runIdx (C : Ctx) (callf : CallF) (f : Nat) (ops : Array Oper) : List Nat → St → Option St
  | [], σ => some σ
  | i :: is, σ => match ops[i]? with
    | none => runIdx C callf f ops is σ
    | some o => match stepL C callf f ops o σ with
      | some σ => runIdx C callf f ops is σ
      | none => none

def OpsOk (n : Nat) (ops : Array Oper) : Prop := ∀ o ∈ ops.toList, OpOk n o.op ∧ ∀ x, o.dst = some x → x < n

theorem runIdx_sound {C : Ctx} {callf : CallF} {f : Nat} (hty : TysOk P C.ty) (hcall : CallOk P callf) {ops : Array Oper} {Q : Exit → Act → World → Prop} {ro : Option Nat} :
    ∀ (l : List Nat) {σ σ' : St} {μ : Mu} {β : List Nat} {a : Act} {w : World}, Sim (C.locs f) σ μ β a w → OpsOk a.tmps.size ops → runIdx C callf f ops l σ = some σ' →
      (∀ a' w', Leads (C.locs f) σ μ β a w σ' a' w' → Q .normal a' w') → wpOpsIn (rf ro) 0 P ops Q l a w
  | [], σ, σ', μ, β, a, w, hs, _, h, hq => by
    simp only [runIdx, Option.some.injEq] at h
    subst h
    exact hq a w (.refl hs)
  | i :: l, σ, σ', μ, β, a, w, hs, hop, h, hq => by
    simp only [runIdx] at h
    simp only [wpOpsIn]
    cases hi : ops[i]? with
    | none =>
      rw [hi] at h
      exact runIdx_sound hty hcall l hs hop h hq
    | some o =>
      rw [hi] at h
      simp only at h ⊢
      have hmem : o ∈ ops.toList := by simpa using Array.mem_of_getElem? hi
      obtain ⟨ho, hd⟩ := hop o hmem
      split at h
      · rename_i σ1 h1
        unfold stepL at h1
        split at h1
        · rename_i hw
          rw [wanted_sound hs (fun o ho => (hop o ho).2) hw]
          simp only [if_true]
          refine opL_sound hty hcall hs o ho hd h1 ro _ _ fun a' w' hl => ?_
          obtain ⟨μ', β', k1, k2, k3, k4, k5, k6⟩ := hl
          refine runIdx_sound hty hcall l k1 (by rw [k4]; exact hop) h fun a'' w'' hl' => hq a'' w'' ?_
          obtain ⟨μ2, β2, g1, g2, g3, g4, g5, g6⟩ := hl'
          exact ⟨μ2, β2, g1, Mu.le_trans k2 g2, k3.trans g3, g4.trans k4, k5.trans g5, Lives.trans k6 g6 k5.size⟩
        · rename_i hw
          cases h1
          rw [wanted_sound hs (fun o ho => (hop o ho).2) hw]
          simp only [Bool.false_eq_true, if_false]
          refine ⟨fun _ _ => trivial, ?_⟩
          obtain ⟨μ', β', k1, k2, k3, k4, k5, k6⟩ := Leads.put hs hd (r := .val (.tup [])) (u := undef) tup0 trivial
          refine runIdx_sound hty hcall l k1 (by rw [k4]; exact hop) h fun a'' w'' hl' => hq a'' w'' ?_
          obtain ⟨μ2, β2, g1, g2, g3, g4, g5, g6⟩ := hl'
          exact ⟨μ2, β2, g1, Mu.le_trans k2 g2, k3.trans g3, g4.trans k4, k5.trans g5, Lives.trans k6 g6 k5.size⟩
        · cases h1
      · cases h

theorem runL_idx (C : Ctx) (callf : CallF) (f : Nat) (ops : Array Oper) : ∀ (k : Nat) (os : List Oper) (σ : St), ops.toList.drop k = os → runIdx C callf f ops (List.range' k os.length) σ = runL C callf f ops os σ := by
  intro k os
  induction os generalizing k with
  | nil => intro σ _; rfl
  | cons o os ih =>
    intro σ h
    have hi : ops[k]? = some o := by
      have := congrArg (fun l => l[0]?) h
      simpa using this
    have hd : ops.toList.drop (k + 1) = os := by
      have := congrArg List.tail h
      simpa using this
    rw [List.length_cons, List.range'_succ]
    simp only [runIdx, hi, runL]
    cases stepL C callf f ops o σ with
    | none => rfl
    | some σ1 => exact ih (k + 1) σ1 hd

theorem runL_range (C : Ctx) (callf : CallF) (f : Nat) (ops : Array Oper) (σ : St) : runIdx C callf f ops (List.range ops.size) σ = runL C callf f ops ops.toList σ := by
  rw [List.range_eq_range', ← Array.length_toList]
  exact runL_idx C callf f ops 0 ops.toList σ rfl
end
end Go.Lite
end
