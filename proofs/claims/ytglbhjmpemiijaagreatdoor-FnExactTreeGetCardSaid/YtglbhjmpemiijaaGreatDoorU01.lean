/- Part 01 of the proof of a law: the interpreter, its soundness, and what functions of the program compute over it. Conditions: none but those that each theorem names. -/
import Derived.Test.YtglbhjmpemiijaaGreatDoorT07
import Derived.Test.YtglbhjmpemiijaaGreatDoorT05
import Derived.Test.YtglbhjmpemiijaaGreatDoorT06
import Derived.Test.YtglbhjmpemiijaaGreatDoorT08
import Derived.Test.YtglbhjmpemiijaaGreatDoorT09

section
namespace Go.Proofs.Try1
open Go Go.Lite
set_option linter.unusedSimpArgs false
set_option linter.unusedVariables false

set_option maxRecDepth 10000 in
theorem mk_EntryOut : MkFn 26 shEntryOut := by
  intro H cs u F k h hn hk
  obtain ⟨us, rfl, g0⟩ := AtF_st.1 h
  obtain ⟨c1, c2, u1, us1, F1, F2, rfl, rfl, rfl, h1, g1⟩ := AtsF_cons.1 g0
  obtain ⟨c3, c4, u2, us2, F3, F4, rfl, rfl, rfl, h2, g2⟩ := AtsF_cons.1 g1
  obtain ⟨rfl, rfl, rfl⟩ := AtsF_nil.1 g2
  obtain ⟨⟨n, rfl, rfl, w⟩, rfl⟩ := AtF_int.1 h2
  obtain ⟨e, rfl⟩ := entry_typed (AtF.at _ h1)
  obtain ⟨v1, v2, rfl, a1, a2⟩ := entry_at.1 (AtF.at _ h1)
  have ho1 := a1.one
  have ho2 := a2.one
  simp only [List.append_nil] at hn ⊢
  simp only [cntV_st, cntVs_cons, cntVs_nil, cntV_int, Nat.add_zero] at hk ⊢
  obtain ⟨H1, q1, len1, fr1, m1⟩ := mk_Entry H [v1, v2] _ F1 k h1 hn hk
  simp only [valC] at q1
  apply Ret.mark
  rw [op26]
  simp only [Int.natCast_add] at q1
  simp [code26, Tryz.f26, valC, q1, ho1, ho2, gcH_len len1]
  refine ⟨len1, fr1, ?_⟩
  have hA : AtF H1 shEntryOut [v1, v2, .int .i64 n] (.st [mkV e.u k, .int n]) F1 := AtF_st.2 ⟨_, rfl, AtsF_cons.2 ⟨[v1, v2], [.int .i64 n], _, [.int n], F1, [], rfl, rfl, (List.append_nil _).symm, m1, AtsF_cons.2 ⟨[.int .i64 n], [], _, [], [], [], rfl, rfl, rfl, AtF_int.2 ⟨⟨n, rfl, rfl, w⟩, rfl⟩, AtsF_nil.2 ⟨rfl, rfl, rfl⟩⟩⟩⟩
  have hM : mkV (U.st [e.u, .int n]) k = .st [mkV e.u k, .int n] := by simp [mkV, mkVs]
  rw [hM]
  exact hA

set_option maxRecDepth 10000 in
theorem held_EntryOut : HeldFn 27 shEntryOut := by
  intro H cs u k h hk
  obtain ⟨us, hu, g0⟩ := At_st.1 h
  obtain ⟨us, rfl, rfl⟩ := mkV_st hu
  obtain ⟨c1, c2, u1, us1, rfl, hu1, h1, g1⟩ := Ats_cons.1 g0
  obtain ⟨u1, us, rfl, rfl, rfl⟩ := mkVs_cons hu1
  obtain ⟨c3, c4, u2, us2, rfl, hu2, h2, g2⟩ := Ats_cons.1 g1
  obtain ⟨u2, us, rfl, rfl, rfl⟩ := mkVs_cons hu2
  obtain ⟨rfl, hu3⟩ := Ats_nil.1 g2
  obtain rfl := mkVs_nil hu3
  obtain ⟨n, rfl, hn, w⟩ := At_int.1 h2
  obtain rfl := mkV_int hn
  obtain ⟨e, he⟩ := entry_typed h1
  have h1' := h1
  rw [he] at h1'
  obtain ⟨v1, v2, rfl, a1, a2⟩ := entry_at.1 h1'
  have ho1 := a1.one
  have ho2 := a2.one
  simp only [cntV_st, cntVs_cons, cntVs_nil, cntV_int, Nat.add_zero] at hk ⊢
  have q1 := held_Entry H [v1, v2] u1 k h1 hk
  simp only [valC, Int.natCast_add] at q1
  have p1 : ¬ ((k : Int) + (cntV u1 : Nat) < 0) := by omega
  apply Ret.eq
  rw [op27]
  simp [code27, Tryz.f27, valC, q1, p1, ho1, ho2]
end Go.Proofs.Try1
end

section
namespace Go.Proofs.Try1
open Go Go.Lite
set_option linter.unusedSimpArgs false
set_option linter.unusedVariables false

/-- An answer of a call's own. -/
def NOut (H : List Ob) (o : PEntryOut) (q : V) (H' : List Ob) : Prop := ∃ T w1 w2, q = .agg [w1, w2, .int .i64 o.code] ∧ H' = H ++ T ∧ New H.length (H ++ T).length (H ++ T) shEntryOut [w1, w2, .int .i64 o.code] o.u
theorem NOut.ill {H : List Ob} {c : Int} (h : (Lit.int .i64 c).wf = true) : NOut H (illE c) (.agg [.slc none 0, .slc none 0, .int .i64 c]) H :=
  ⟨[], .slc none 0, .slc none 0, rfl, by simp, New.st (News.cons (c1 := [.slc none 0, .slc none 0]) (m := H.length) (New.st (News.nilS (News.nilS News.nil))) (News.int h News.nil) (Nat.le_refl _) (by simp))⟩
theorem NOut.of {H G : List Ob} {e : PEntry} {w1 w2 : V} (hT : ∃ T, G = H ++ T) (hn : New H.length G.length G shEntry [w1, w2] e.u) : NOut H ⟨e, 0⟩ (.agg [w1, w2, .int .i64 0]) (gcH H G (.agg [w1, w2, .int .i64 0])) := by
  obtain ⟨T, rfl⟩ := hT
  have h2 : New H.length (H ++ T).length (H ++ T) shEntryOut [w1, w2, .int .i64 0] (PEntryOut.u ⟨e, 0⟩) := New.st (News.cons (c1 := [w1, w2]) (m := (H ++ T).length) hn (News.int (by decide) News.nil) (by simp) (Nat.le_refl _))
  obtain ⟨T', h3, h4⟩ := h2.gcA
  exact ⟨T', w1, w2, rfl, h3, h4⟩
/-- The same, of objects from a number on. -/
def NOutB (b : Nat) (H : List Ob) (o : PEntryOut) (q : V) (H' : List Ob) : Prop := ∃ T w1 w2, q = .agg [w1, w2, .int .i64 o.code] ∧ H' = H ++ T ∧ New b (H ++ T).length (H ++ T) shEntryOut [w1, w2, .int .i64 o.code] o.u
theorem NOutB.base {H : List Ob} {X : List Ob} {o : PEntryOut} {q : V} {H' : List Ob} (h : NOutB H.length (H ++ X) o q H') : NOut H o q (gcH H H' q) := by
  obtain ⟨T, w1, w2, rfl, rfl, h3⟩ := h
  rw [List.append_assoc] at h3 ⊢
  obtain ⟨T', h4, h5⟩ := h3.gcA
  exact ⟨T', w1, w2, rfl, h4, h5⟩
theorem NOutB.one {b : Nat} {H : List Ob} {o : PEntryOut} {q : V} {H' : List Ob} (h : NOutB b H o q H') : ∃ w1 w2, q = .agg [w1, w2, .int .i64 o.code] ∧ (isOne w1 = true ∧ cellsOf w1 = some [w1]) ∧ (isOne w2 = true ∧ cellsOf w2 = some [w2]) := by
  obtain ⟨T, w1, w2, rfl, rfl, h3⟩ := h
  obtain ⟨_, _, hcs, a1, a2, _⟩ := entryOut_at.1 h3.at
  cases hcs
  exact ⟨w1, w2, rfl, a1.one, a2.one⟩

end Go.Proofs.Try1
end

section
namespace Go.Proofs.Try1
open Go Go.Lite
set_option linter.unusedSimpArgs false
set_option linter.unusedVariables false

theorem s_Ill {H : List Ob} {c : Int} : callW C 95 [.int .i64 c] H = some (.agg [.slc none 0, .slc none 0, .int .i64 c], H) := by
  apply Ret.eq
  rw [op95]
  simp [code95, Tryz.f95, buildV, fillL, structPlace]

set_option maxRecDepth 10000 in
set_option maxHeartbeats 4000000 in
theorem s_New {H : List Ob} {v : V} {l : List Str} (h : AStrs H v l) : callW C 98 [v] H = some (.bool (dec (NewOk l)), H) := by
  apply Ret.dec
  rw [op98]
  have hb : l.length ≤ 9223372036854775807 := h.bound
  simp [code98, Tryz.f98]
  refine WP_loop (fun k σ => ∃ (i : Nat) (r : Nat → R), i + k = l.length ∧ σ = ⟨r, 0, H⟩ ∧ r 0 = .val v ∧ r 3 = .val (.int .i64 i) ∧ ∀ j x, j < i → l[j]? = some x → ValueOk x ∧ ∀ q y, q < j → l[q]? = some y → norm y ≠ norm x) ?_ l.length _ ⟨0, _, by simp, rfl, by simp, by simp, by simp⟩
  rintro k σ ⟨i, r, hik, rfl, r0, r3, hall⟩
  cases k with
  | zero =>
    have hi : i = l.length := by omega
    subst hi
    have hx := at_all (P := fun j (x : Str) => ValueOk x ∧ ∀ q y, q < j → l[q]? = some y → norm y ≠ norm x) hall
    by_cases g2 : l.length ≤ 4
    · have g2' : (l.length : Int) ≤ 4 := by omega
      have hv : NewOk l := ⟨hx, g2⟩
      simp [r0, r3, h.len, g2', hv]
    · have g2' : ¬ (l.length : Int) ≤ 4 := by omega
      have hv : ¬ NewOk l := fun h => g2 h.2
      simp [r0, r3, h.len, g2', hv]
  | succ k =>
    have hi : i < l.length := by omega
    obtain ⟨x, hx⟩ : ∃ c, l[i]? = some c := ⟨l[i], by simp [hi]⟩
    have hw : IntKind.i64.wrap ((i : Int) + 1) = ((i : Int) + 1) := wrap_i64 (by omega) (by omega)
    obtain ⟨id, o, e1, l0, _⟩ := strs_idx h hx
    have c1 := s_Value (t := x) (H := H)
    have c2 := s_Norm (t := x) (H := H)
    have hstep := fun h => at_step (P := fun j (x : Str) => ValueOk x ∧ ∀ q y, q < j → l[q]? = some y → norm y ≠ norm x) hall hx h
    rcases h.sub with ⟨rfl, rfl⟩ | ⟨id0, off, own, cells, rfl, hid, hcl, hsub⟩
    · simp at hi
    have hsi : strideIs H id0 1 = true := by simp [strideIs, hid]
    have hlt : id0 < H.length := (List.getElem?_eq_some_iff.1 hid).1
    have hp := hsub 0 i (by omega) (by omega)
    simp only [Nat.zero_mul, Nat.add_zero, Nat.sub_zero, List.drop_zero] at hp
    obtain ⟨q, c3, hq⟩ := s_In (n := norm x) hp
    have hil : (i : Int) ≤ l.length := by omega
    have hil' : i ≤ l.length := by omega
    by_cases g1 : ValueOk x
    · rw [dec_pos g1] at c1
      by_cases g2 : 0 ≤ q
      · obtain ⟨y, hy, hyn⟩ := hq.mem.1 g2
        have hn : ¬ NewOk l := fun hd => by
          obtain ⟨j, hj, rfl⟩ := List.getElem_of_mem hy
          have hj2 : j < i ∧ j < l.length := by rw [List.length_take] at hj; omega
          exact (hd.1 i x hx).2 j (l.take i)[j] hj2.1 (by rw [List.getElem_take]; exact List.getElem?_eq_getElem hj2.2) (by simpa using hyn)
        simp [r0, r3, hi, e1, l0, c1, c2, c3, hw, hsi, hlt, hil, hil', g2, hn]
      · have hnn := mt hq.mem.2 g2
        have := hstep ⟨g1, fun j y hj hy => fun e => hnn ⟨y, List.mem_of_getElem? (i := j) (by rw [List.getElem?_take_of_lt hj]; exact hy), by simpa using e⟩⟩
        simp [r0, r3, hi, e1, l0, c1, c2, c3, hw, hsi, hlt, hil, hil', g2]
        exact ⟨k, by omega, i + 1, by omega, by omega, this⟩
    · rw [dec_neg g1] at c1
      have hn : ¬ NewOk l := fun hd => g1 (hd.1 i x hx).1
      simp [r0, r3, hi, e1, l0, c1, hn]

/-- One text is put among others. -/
theorem sort_put {G : List Ob} {w : V} {o : List Str} {x : Str} {j : Nat} {B : List Ob} (hG : Gs B G w (o.map V.str)) (ho : o.length ≤ 1000) (hj : j ≤ o.length) :
    ∃ id v1 G1 v2 G2 v3 G3, w = .slc (some (id, 0)) o.length ∧ strideIs (G ++ [.mk true 1 []]) id 1 = true ∧ appendV ⟨.str, 1, 16, [.str []]⟩ (G ++ [.mk true 1 []]) (.slc (some (G.length, 0)) 0) (.slc (some (id, 0)) j) = some (v1, G1) ∧ (∃ T1, G1 = G ++ T1) ∧
      appendV ⟨.str, 1, 16, [.str []]⟩ (G1 ++ [.mk true 1 [.str x]]) v1 (.slc (some (G1.length, 0)) 1) = some (v2, G2) ∧ strideIs G2 id 1 = true ∧
      appendV ⟨.str, 1, 16, [.str []]⟩ G2 v2 (.slc (some (id, j)) (o.length - j)) = some (v3, G3) ∧ Gs B G3 v3 ((o.take j ++ x :: o.drop j).map V.str) := by
  obtain ⟨T, id, rfl, h1, h2, rfl⟩ := hG
  have hid : id < (B ++ T).length := (List.getElem?_eq_some_iff.1 h2).1
  have hu : ∀ S, (B ++ T ++ S)[id]? = some (.mk true 1 (o.map V.str)) := fun S => up_append _ _ h2
  have hu1 := hu [.mk true 1 []]
  have n1 : newCells ⟨.str, 1, 16, [.str []]⟩ (B ++ T ++ [.mk true 1 []]) (.slc (some (id, 0)) j) = some ((o.map V.str).take j, ((o.map V.str).take j).length) := by
    have hl : ((o.map V.str).take j).length = j := by simp; omega
    simp only [newCells, Nat.mul_one, slcCells, hu1, hl]
    by_cases h0 : j = 0
    · subst h0; simp
    · simp only [h0, if_false]
      unfold rdCells
      rw [if_pos (by simp; omega)]
      simp
  obtain ⟨v1, G1, a1, g1⟩ := (Gs.init (H := B ++ T)).many n1 (List.all_eq_true.2 fun a ha => by obtain ⟨s, _, rfl⟩ := List.mem_map.1 (List.mem_of_mem_take ha); rfl) (by simp; unfold maxMade; omega) (by decide) (by decide) rfl
  rw [List.nil_append] at g1
  obtain ⟨v2, G2, a2, g2⟩ := g1.push (x := .str x) (z := [.str []]) (d := .str) (b := 16) rfl (by simp; unfold maxMade; omega) (by decide) (by decide) rfl
  obtain ⟨S, rfl⟩ := g2.ext
  have n3 : newCells ⟨.str, 1, 16, [.str []]⟩ (B ++ T ++ S) (.slc (some (id, j)) (o.length - j)) = some ((o.map V.str).drop j, ((o.map V.str).drop j).length) := by
    have hl : ((o.map V.str).drop j).length = o.length - j := by simp
    simp only [newCells, Nat.mul_one, slcCells, hu S, hl]
    by_cases h0 : o.length - j = 0
    · rw [h0, List.drop_of_length_le (by simp; omega)]; simp
    · simp only [h0, if_false]
      unfold rdCells
      rw [if_pos (by simp; omega), List.take_of_length_le (by simp)]
  obtain ⟨v3, G3, a3, g3⟩ := g2.many n3 (List.all_eq_true.2 fun a ha => by obtain ⟨s, _, rfl⟩ := List.mem_map.1 (List.mem_of_mem_drop ha); rfl) (by simp; unfold maxMade; omega) (by decide) (by decide) rfl
  refine ⟨id, v1, G1, v2, _, v3, G3, by simp, by unfold strideIs; rw [hu1]; rfl, a1, g1.ext, a2, by unfold strideIs; rw [hu S]; rfl, a3, ?_⟩
  have := g3.low (H := B) ⟨T, rfl⟩
  simpa [List.map_take, List.map_drop] using this

set_option maxRecDepth 10000 in
set_option maxHeartbeats 8000000 in
theorem s_Sort {H : List Ob} {v : V} {l : List Str} (h : AStrs H v l) (hl : l.length ≤ 1000) : ∃ T w, callW C 246 [v] H = some (w, H ++ T) ∧ New H.length (H ++ T).length (H ++ T) (.slice .str) [w] (.lst ((sortV l).map strU)) := by
  suffices hs : Ret C 246 [v] H fun q H' => ∃ T, H' = H ++ T ∧ New H.length (H ++ T).length (H ++ T) (.slice .str) [q] (.lst ((sortV l).map strU)) by
    obtain ⟨q, H', hc, T, rfl, hr⟩ := hs
    exact ⟨T, q, hc, hr⟩
  rw [op246]
  have hmax := h.max
  simp [code246, Tryz.f246, elemT, fillL, zerosL, St.new]
  refine WP_loop (fun k σ => ∃ (i : Nat) (r : Nat → R) (G : List Ob) (w : V), i + k = l.length ∧ σ = ⟨r, 0, G⟩ ∧ r 0 = .val v ∧ r 3 = .val w ∧ r 4 = .val (.int .i64 i) ∧ Gs H G w (((l.take i).foldl insN []).map V.str)) ?_ l.length _ ⟨0, _, H ++ [.mk true 1 []], .slc (some (H.length, 0)) 0, by simp, rfl, by simp, by simp, by simp, by simpa using Gs.init⟩
  rintro k σ ⟨i, r, G, w, hik, rfl, r0, r3, r4, hG⟩
  obtain ⟨T, hT⟩ := hG.ext
  have hv : AStrs G v l := by rw [hT]; exact h.ext
  have hlp := (foldl_insN_perm (l.take i) []).length_eq
  rw [List.nil_append, List.length_take] at hlp
  obtain ⟨o, ho⟩ : ∃ o, o = (l.take i).foldl insN [] := ⟨_, rfl⟩
  rw [← ho] at hG hlp
  have hmem : ∀ s ∈ o, s.length ≤ maxLen := fun s hs => hmax s (by
    have := (foldl_insN_perm (l.take i) []).mem_iff (a := s)
    rw [← ho, List.nil_append] at this
    exact List.mem_of_mem_take (this.1 hs))
  have hos : AStrs G w o := (hG.strs (by unfold maxLen; omega) hmem).1
  cases k with
  | zero =>
    have hi : i = l.length := by omega
    subst hi
    rw [List.take_length] at ho
    have hn := hG.new (by unfold maxLen; omega) hmem
    simp [r0, r3, r4, hv.len, hG.gc]
    refine ⟨T, hT, ?_⟩
    rw [sortV, ← ho, ← hT]
    simpa [hT] using hn
  | succ k =>
    have hi : i < l.length := by omega
    obtain ⟨x, hx⟩ : ∃ c, l[i]? = some c := ⟨l[i], by simp [hi]⟩
    have hw : IntKind.i64.wrap ((i : Int) + 1) = ((i : Int) + 1) := wrap_i64 (by omega) (by omega)
    obtain ⟨idx, ox, ex, lxT, _, hxl⟩ := strs_idxT h hx
    have lx := lxT G ⟨T, hT⟩
    have hxlo : idx < G.length := by rw [hT, List.length_append]; omega
    have cx := s_Norm (t := x) (H := G)
    have hins : (l.take (i + 1)).foldl insN [] = insN o x := by rw [take_get hx, List.foldl_append, ← ho]; rfl
    simp [r0, r3, r4, hi, hv.len]
    refine WP_loop (fun m σ => ∃ (j : Nat) (r : Nat → R), j + m = o.length ∧ σ = ⟨r, 0, G⟩ ∧ r 0 = .val v ∧ r 3 = .val w ∧ r 4 = .val (.int .i64 i) ∧ r 5 = .val (.int .i64 j) ∧ ∀ q y, q < j → o[q]? = some y → LtS (norm y) (norm x)) ?_ o.length _ ⟨0, _, by simp, rfl, by simp [r0], by simp [r3], by simp [r4], by simp, by simp⟩
    clear r0 r3 r4 r
    rintro m σ ⟨j, r, hjm, rfl, r0, r3, r4, r5, hall⟩
    by_cases hcont : ∃ y, o[j]? = some y ∧ LtS (norm y) (norm x)
    · obtain ⟨y, hy, g1⟩ := hcont
      have hjo : j < o.length := (List.getElem?_eq_some_iff.1 hy).1
      obtain ⟨idy, oy, ey, ly, _⟩ := strs_idx hos hy
      have hylo := lo_of ly
      have cy := s_Norm (t := y) (H := G)
      have hwj : IntKind.i64.wrap ((j : Int) + 1) = ((j : Int) + 1) := wrap_i64 (by omega) (by omega)
      simp [r0, r3, r4, r5, hjo, hos.len, ey, ly, cy, ex, lx, cx, hxlo, hylo, LtS_dec g1, hwj]
      exact ⟨m - 1, by omega, j + 1, by omega, by omega, at_step (P := fun q (y : Str) => LtS (norm y) (norm x)) hall hy g1⟩
    · have htw := take_while (p := fun y => dec (LtS (norm y) (norm x))) (l := o) (k := j) (by omega) (fun q y hq hy => dec_pos (hall q y hq hy)) (fun y hy => dec_neg fun g => hcont ⟨y, hy, g⟩)
      obtain ⟨id, v1, G1, v2, G2, v3, G3, rfl, s1, a1, ⟨T1, hT1⟩, a2, s2, a3, g3⟩ := sort_put (x := x) hG (by omega) (show j ≤ o.length by omega)
      have lx1 := lxT G1 ⟨T ++ T1, by rw [hT1, hT, List.append_assoc]⟩
      have hjl : (j : Int) ≤ o.length := by omega
      have hjl' : j ≤ o.length := by omega
      have hgi : Gs H G3 v3 ((insN o x).map V.str) := by unfold insN; rw [htw.1, htw.2]; exact g3
      rw [← hins] at hgi
      by_cases hjo : j < o.length
      · obtain ⟨y, hy⟩ : ∃ c, o[j]? = some c := ⟨o[j], by simp [hjo]⟩
        obtain ⟨idy, oy, ey, ly, _⟩ := strs_idx hos hy
        have hylo := lo_of ly
        have cy := s_Norm (t := y) (H := G)
        have g1 : ¬ LtS (norm y) (norm x) := fun g => hcont ⟨y, hy, g⟩
        simp [r0, r3, r4, r5, hjo, hos.len, ey, ly, cy, ex, lx, cx, hxlo, hylo, LtS_no g1, hjl, hjl', s1, a1, ex, lx1, a2, s2, a3, elemT, fillL, zerosL, St.new, hw]
        exact ⟨k, by omega, i + 1, by omega, _, _, ⟨rfl, rfl⟩, by simp [r0], v3, by simp, by simp [r4], hgi⟩
      · simp [r0, r3, r4, r5, hjo, hos.len, hjl, hjl', s1, a1, ex, lx1, a2, s2, a3, elemT, fillL, zerosL, St.new, hw]
        exact ⟨k, by omega, i + 1, by omega, _, _, ⟨rfl, rfl⟩, by simp [r0], v3, by simp, by simp [r4], hgi⟩
end Go.Proofs.Try1
end

section
namespace Go.Proofs.Try1
open Go Go.Lite
set_option linter.unusedSimpArgs false
set_option linter.unusedVariables false

/-- An entry of no more than what a law takes. -/
def SmallE (e : PEntry) : Prop := e.dn.length ≤ 1048576 ∧ e.attrs.length ≤ 1048576 ∧ ∀ a ∈ e.attrs, a.vals.length ≤ 1048576

set_option maxRecDepth 10000 in
set_option maxHeartbeats 8000000 in
theorem s_Copy {H : List Ob} {vd va : V} {e : PEntry} (hd : ARdns H vd e.dn) (ha : AAttrs H va e.attrs) (hb : SmallE e) :
    ∃ T w1 w2, callW C 157 [.agg [vd, va]] H = some (.agg [w1, w2], H ++ T) ∧ New H.length (H ++ T).length (H ++ T) shEntry [w1, w2] e.u := by
  suffices hs : Ret C 157 [.agg [vd, va]] H fun q H' => ∃ T w1 w2, q = .agg [w1, w2] ∧ H' = H ++ T ∧ New H.length (H ++ T).length (H ++ T) shEntry [w1, w2] e.u by
    obtain ⟨q, H', hc, T, w1, w2, rfl, rfl, hr⟩ := hs
    exact ⟨T, w1, w2, hc, hr⟩
  rw [op157]
  have hod := hd.one
  have hoa := ha.one
  obtain ⟨w1, T1, a1, n1⟩ := append_clone (d := .struct [(0, 9), (1, 9)]) (by_ := 32) (z := [.str [], .str []]) (sz := 2) hd rfl rfl rfl (by decide) (by decide) (by decide) (by have := hb.1; unfold maxMade; omega)
  have hb2 := hb.2.1
  have how := New.one1 n1
  simp [code157, Tryz.f157, hod, hoa, elemT, fillL, zerosL, St.new, strideOf, a1, buildV, structPlace, how]
  obtain ⟨K, hK⟩ : ∃ K, K = H ++ T1 := ⟨_, rfl⟩
  rw [← hK] at n1 ⊢
  have haK : AAttrs K va e.attrs := by rw [hK]; exact ha.ext
  refine WP_loop (fun k σ => ∃ (i : Nat) (r : Nat → R) (G : List Ob) (w : V), i + k = e.attrs.length ∧ σ = ⟨r, 3, G⟩ ∧ r 1 = .box 0 [vd, va] ∧ r 2 = .box 1 [.slc none 0, .slc none 0] ∧ r 3 = .box 2 [w1, w] ∧ r 4 = .val (.int .i64 i) ∧ LstF K G shAttr PAttr.u w (e.attrs.take i)) ?_ e.attrs.length _ ⟨0, _, K, .slc none 0, by simp, rfl, by simp, by simp, by simp, by simp, by simpa using LstF.nil⟩
  rintro k σ ⟨i, r, G, w, hik, rfl, r1, r2, r3, r4, hG⟩
  obtain ⟨S, hS⟩ := hG.pre
  have haG : AAttrs G va e.attrs := by rw [hS]; exact haK.ext
  have hwo := hG.one
  cases k with
  | zero =>
    have hi : i = e.attrs.length := by omega
    subst hi
    rw [List.take_length] at hG
    have n2 := hG.new ha.bound
    have hne : New H.length G.length G shEntry [w1, w] e.u := by
      refine New.st (News.cons (m := K.length) (c1 := [w1]) ?_ (News.one n2 (by rw [hS]; simp)) (by rw [hK]; simp) (by rw [hS]; simp))
      rw [hS]; exact n1.ext
    obtain ⟨T', hg, hn⟩ := (show New H.length G.length (H ++ (T1 ++ S)) shEntry [w1, w] e.u by rw [← List.append_assoc, ← hK, ← hS]; exact hne).gcA
    rw [← List.append_assoc, ← hK, ← hS] at hg
    simp [r1, r2, r3, r4, haG.len, hg, how, hwo]
    exact ⟨T', w1, w, ⟨rfl, rfl⟩, rfl, by simpa using hn⟩
  | succ k =>
    have hi : i < e.attrs.length := by omega
    obtain ⟨x, hx⟩ : ∃ c, e.attrs[i]? = some c := ⟨e.attrs[i], by simp [hi]⟩
    have hw : IntKind.i64.wrap ((i : Int) + 1) = ((i : Int) + 1) := wrap_i64 (by omega) (by omega)
    obtain ⟨id, o, wx, ex, lx, hvx, hnx, hidx, _⟩ := attrs_idxT ha hx
    have hGH : G = H ++ (T1 ++ S) := by rw [hS, hK, List.append_assoc]
    obtain ⟨l0, l1, l2⟩ := lx G ⟨_, hGH⟩
    obtain ⟨l0', l1', l2'⟩ := lx (G ++ [.mk true 1 []]) ⟨_, by rw [hGH, List.append_assoc]⟩
    have hidG : id < G.length := by rw [hGH]; simp; omega
    have hvG : AStrs G wx x.vals := by rw [hGH]; exact hvx.ext
    have hbx := hb.2.2 x (List.mem_of_getElem? hx)
    obtain ⟨wv, T2, a2, n2⟩ := append_clone (d := .str) (by_ := 16) (z := [.str []]) (sz := 1) hvG rfl rfl rfl (by decide) (by decide) (by decide) (by unfold maxMade; omega)
    have hel : New G.length (G ++ T2).length (G ++ T2) shAttr [.str x.name, wv] x.u := New.st (News.str hnx (News.one n2 (by simp)))
    obtain ⟨w', G', a3, hG', _, _⟩ := hG.push (T := T2) (d := .struct [(0, 9), (1, 26)]) (by_ := 40) (z := [.str [], .slc none 0]) (sz := 2) hel rfl rfl (by decide) (by decide) (by decide) (by simp; unfold maxMade; omega)
    rw [← take_get hx] at hG'
    have hwv := New.one1 n2
    have hk : Keep G.length (G ++ [.mk true 1 []]) (G ++ T2) := Keep_ext (Nat.le_refl _)
    have hw' := hG'.one
    simp only [List.append_assoc, List.length_append] at a3
    simp [r1, r2, r3, r4, hi, haG.len, ex, l0, l1, hidG, a2, a3, hk, Keep_append, elemT, fillL, zerosL, St.new, buildV, structPlace, hod, hoa, hwv, hwo, hw', hw, List.lookup]
    exact ⟨k, by omega, i + 1, by omega, _, _, ⟨rfl, rfl⟩, by simp [r1], by simp [r2], w', by simp, by simp, hG'⟩

/-- The attributes of a list ahead of a name, the new one, and those behind. -/
noncomputable def putUpto (pre : List PAttr) (n : Str) (vs : List Str) (done : Bool) : List PAttr := pre.filter (fun a => dec (LtS a.name n)) ++ (if done = true ∧ vs ≠ [] then [⟨n, sortV vs⟩] else []) ++ pre.filter (fun a => dec (LtS n a.name))

theorem LtS_trans {a b c : Str} (h1 : LtS a b) (h2 : LtS b c) : LtS a c := (LtS_iff _ _).2 (List.lt_trans ((LtS_iff _ _).1 h1) ((LtS_iff _ _).1 h2))
theorem LtS_asymm {a b : Str} (h1 : LtS a b) : ¬ LtS b a := fun h => LtS_irrefl _ (LtS_trans h1 h)
theorem LtS_tri (a b : Str) : LtS a b ∨ a = b ∨ LtS b a := by
  by_cases h1 : LtS a b
  · exact .inl h1
  · by_cases h2 : LtS b a
    · exact .inr (.inr h2)
    · refine .inr (.inl (List.le_antisymm (fun hh => h2 ((LtS_iff _ _).2 hh)) (fun hh => h1 ((LtS_iff _ _).2 hh))))

section
variable {pre : List PAttr} {a : PAttr} {n : Str} {vs : List Str} {done : Bool}
theorem filt_none {p : PAttr → Bool} (h : ∀ b ∈ pre, p b = false) : pre.filter p = [] := List.filter_eq_nil_iff.2 fun b hb => by rw [h b hb]; decide
/-- Ahead of the name. -/
theorem put_lt (hs : ∀ b ∈ pre, LtS b.name a.name) (hd : done = true ↔ vs = [] ∨ ∃ b ∈ pre, ¬ LtS b.name n) (h : LtS a.name n) : putUpto pre n vs done ++ [a] = putUpto (pre ++ [a]) n vs done ∧ (done = true ↔ vs = [] ∨ ∃ b ∈ pre ++ [a], ¬ LtS b.name n) := by
  have h1 : ∀ b ∈ pre, LtS b.name n := fun b hb => LtS_trans (hs b hb) h
  have hno : ¬ ∃ b ∈ pre, ¬ LtS b.name n := fun ⟨b, hb, hn⟩ => hn (h1 b hb)
  have hmid : (if done = true ∧ vs ≠ [] then [(⟨n, sortV vs⟩ : PAttr)] else []) = [] := if_neg fun ⟨h2, h3⟩ => (hd.1 h2).elim h3 hno
  have e1 := filt_none (pre := pre) (p := fun a => dec (LtS n a.name)) fun b hb => dec_neg (LtS_asymm (h1 b hb))
  refine ⟨?_, ?_⟩
  · unfold putUpto
    rw [hmid, List.filter_append, List.filter_append, e1]
    simp [dec_pos h, dec_neg (LtS_asymm h)]
  · rw [hd]
    constructor
    · rintro (h2 | ⟨b, hb, hn⟩)
      · exact .inl h2
      · exact absurd (h1 b hb) hn
    · rintro (h2 | ⟨b, hb, hn⟩)
      · exact .inl h2
      · rcases List.mem_append.1 hb with hb | hb
        · exact absurd (h1 b hb) hn
        · simp at hb; subst hb; exact absurd h hn
/-- At the name. -/
theorem put_eq (hs : ∀ b ∈ pre, LtS b.name a.name) (hd : done = true ↔ vs = [] ∨ ∃ b ∈ pre, ¬ LtS b.name n) (h : a.name = n) :
    (done = true → vs = []) ∧ putUpto pre n vs done ++ (if done = true then [] else [⟨n, sortV vs⟩]) = putUpto (pre ++ [a]) n vs true := by
  have h1 : ∀ b ∈ pre, LtS b.name n := fun b hb => h ▸ hs b hb
  have hno : ¬ ∃ b ∈ pre, ¬ LtS b.name n := fun ⟨b, hb, hn⟩ => hn (h1 b hb)
  have hv : done = true → vs = [] := fun h2 => (hd.1 h2).elim id fun h3 => absurd h3 hno
  have e1 := filt_none (pre := pre) (p := fun a => dec (LtS n a.name)) fun b hb => dec_neg (LtS_asymm (h1 b hb))
  refine ⟨hv, ?_⟩
  unfold putUpto
  rw [List.filter_append, List.filter_append, e1]
  subst h
  cases done with
  | true => simp [hv rfl, dec_neg (LtS_irrefl a.name)]
  | false =>
    have : vs ≠ [] := fun h2 => by have := hd.2 (.inl h2); cases this
    simp [this, dec_neg (LtS_irrefl a.name)]
/-- Behind the name. -/
theorem put_gt (hs : ∀ b ∈ pre, LtS b.name a.name) (hd : done = true ↔ vs = [] ∨ ∃ b ∈ pre, ¬ LtS b.name n) (h : LtS n a.name) :
    (putUpto pre n vs done ++ (if done = true then [] else [⟨n, sortV vs⟩])) ++ [a] = putUpto (pre ++ [a]) n vs true := by
  unfold putUpto
  rw [List.filter_append, List.filter_append]
  cases done with
  | true => simp [dec_pos h, dec_neg (LtS_asymm h)]
  | false =>
    have h2 : vs ≠ [] := fun h2 => by have := hd.2 (.inl h2); cases this
    have h1 : ∀ b ∈ pre, LtS b.name n := fun b hb => Classical.byContradiction fun hn => by have := hd.2 (.inr ⟨b, hb, hn⟩); cases this
    have e1 := filt_none (pre := pre) (p := fun a => dec (LtS n a.name)) fun b hb => dec_neg (LtS_asymm (h1 b hb))
    rw [e1]
    simp [h2, dec_pos h, dec_neg (LtS_asymm h)]
theorem put_end (hd : done = true ↔ vs = [] ∨ ∃ b ∈ pre, ¬ LtS b.name n) : putUpto pre n vs done ++ (if done = true then [] else [⟨n, sortV vs⟩]) = putAttr pre n (sortV vs) := by
  have hz : sortV vs = [] ↔ vs = [] := by rw [← List.length_eq_zero_iff, sortV_len, List.length_eq_zero_iff]
  unfold putUpto putAttr
  cases done with
  | true =>
    by_cases h2 : vs = []
    · simp [h2, sortV_nil]
    · simp [h2, hz]
  | false =>
    have h2 : vs ≠ [] := fun h2 => by have := hd.2 (.inl h2); cases this
    have h1 : ∀ b ∈ pre, LtS b.name n := fun b hb => Classical.byContradiction fun hn => by have := hd.2 (.inr ⟨b, hb, hn⟩); cases this
    have e1 := filt_none (pre := pre) (p := fun a => dec (LtS n a.name)) fun b hb => dec_neg (LtS_asymm (h1 b hb))
    rw [e1]
    simp [h2, hz]
end

set_option maxRecDepth 10000 in
set_option maxHeartbeats 16000000 in
theorem s_Set {H : List Ob} {vd va vv : V} {e : PEntry} {n : Str} {vs : List Str} (hd : ARdns H vd e.dn) (ha : AAttrs H va e.attrs) (hb : SmallE e) (hp : e.attrs.Pairwise fun a b => a.name < b.name) (hn : n.length ≤ maxLen) (hv : AStrs H vv vs) (hvl : vs.length ≤ 1000) :
    ∃ T w1 w2, callW C 139 [.agg [vd, va], .str n, vv] H = some (.agg [w1, w2], H ++ T) ∧ At (H ++ T) shEntry [w1, w2] (setE e n (sortV vs)).u ∧ ¬ lowV H w2 := by
  suffices hs : Ret C 139 [.agg [vd, va], .str n, vv] H fun q H' => ∃ T w1 w2, q = .agg [w1, w2] ∧ H' = H ++ T ∧ At (H ++ T) shEntry [w1, w2] (setE e n (sortV vs)).u ∧ ¬ lowV H w2 by
    obtain ⟨q, H', hc, T, w1, w2, rfl, rfl, hr⟩ := hs
    exact ⟨T, w1, w2, hc, hr⟩
  rw [op139]
  have hod := hd.one
  have hoa := ha.one
  obtain ⟨T1, d1, a1, c1, n1⟩ := s_Copy hd ha hb
  obtain ⟨K, hK⟩ : ∃ K, K = H ++ T1 := ⟨_, rfl⟩
  rw [← hK] at n1 c1
  obtain ⟨_, _, hcs, hd1, ha1⟩ := entry_at.1 n1.at
  cases hcs
  obtain ⟨T2, wv, c2, n2⟩ := s_Sort (H := K ++ [.mk true 2 []]) (v := vv) (l := vs) (by rw [hK]; exact hv.ext.ext) hvl
  obtain ⟨K3, hK3⟩ : ∃ K3, K3 = K ++ [.mk true 2 []] ++ T2 := ⟨_, rfl⟩
  rw [← hK3] at n2 c2
  have hoD := hd1.one
  have hoA := ha1.one
  have hoV := New.one1 n2
  have hL0 : Lst K K3 shAttr PAttr.u (.slc (some (K.length, 0)) 0) [] := by
    rw [hK3]
    have h := Lst.init (B := K) (sh := shAttr) (f := PAttr.u)
    exact h.ext
  obtain ⟨F, f1, f2, f3⟩ := New.st (News.str hn (News.one n2 (by rw [hK3]; simp)))
  have fx : AtF K3 shAttr [.str n, wv] (⟨n, sortV vs⟩ : PAttr).u F := f1
  have hvsI : ((vs.length : Int) = 0) = (vs = []) := by rw [← List.length_eq_zero_iff]; simp
  simp [code139, Tryz.f139, c1, c2, hod, hoa, hoD, hoA, hoV, hv.len, elemT, fillL, zerosL, St.new, strideOf, buildV, structPlace, hvsI]
  have hbl := hb.2.1
  refine WP_loop (fun k σ => ∃ (i : Nat) (r : Nat → R) (G : List Ob) (w : V) (done : Bool), i + k = e.attrs.length ∧ σ = ⟨r, 4, G⟩ ∧ r 1 = .val (.str n) ∧ r 6 = .box 1 [.slc none 0, .slc none 0] ∧ r 7 = .box 2 [d1, a1] ∧ r 8 = .val w ∧ r 9 = .box 3 [.str n, wv] ∧ r 10 = .val (.bool done) ∧ r 11 = .val (.int .i64 i) ∧
    Lst K G shAttr PAttr.u w (putUpto (e.attrs.take i) n vs done) ∧ (done = true ↔ vs = [] ∨ ∃ b ∈ e.attrs.take i, ¬ LtS b.name n) ∧ AtF G shAttr [.str n, wv] (⟨n, sortV vs⟩ : PAttr).u F ∧ (∀ q ∈ F, ∀ m, w ≠ .slc (some (q, 0)) m) ∧ w ≠ .slc none 0) ?_ e.attrs.length _
    ⟨0, _, K3, .slc (some (K.length, 0)) 0, decide (vs = []), by simp, rfl, by simp, by simp, by simp, by simp, by simp, by simp, by simp, by simpa [putUpto] using hL0, by simp, fx, fun q hq m => by have := (f3 q hq).1; simp at this ⊢; omega, by simp⟩
  rintro k σ ⟨i, r, G, w, done, hik, rfl, r1, r6, r7, r8, r9, r10, r11, hG, hdone, hx, hxw, hwn⟩
  obtain ⟨S, hS⟩ := hG.pre
  have hwo := hG.one
  have haG : AAttrs G a1 e.attrs := by rw [hS]; exact ha1.ext
  have hxc : [V.str n, wv].length = 2 := rfl
  have hpl : ∀ d, (putUpto (e.attrs.take i) n vs d).length ≤ 2097160 := fun d => by
    unfold putUpto
    have e1 := List.length_filter_le (fun a : PAttr => dec (LtS a.name n)) (e.attrs.take i)
    have e2 := List.length_filter_le (fun a : PAttr => dec (LtS n a.name)) (e.attrs.take i)
    have e3 := List.length_take_le i e.attrs
    have e4 : (if d = true ∧ vs ≠ [] then [(⟨n, sortV vs⟩ : PAttr)] else []).length ≤ 1 := by split <;> simp
    simp only [List.length_append]
    omega
  have hmm : ∀ k : Nat, k ≤ 2097165 → k * 40 ≤ maxMade := fun k hk => by unfold maxMade; omega
  cases k with
  | zero =>
    have hi : i = e.attrs.length := by omega
    subst hi
    rw [List.take_length] at hG hdone hpl
    have hend := put_end hdone
    cases done with
    | true =>
      simp only [if_true, List.append_nil] at hend
      rw [hend] at hG
      have hb3 : (putAttr e.attrs n (sortV vs)).length ≤ maxLen := by rw [← hend]; have := hpl true; unfold maxLen; omega
      have hat : At G shEntry [d1, w] (setE e n (sortV vs)).u := entry_at.2 ⟨d1, w, rfl, by rw [hS]; exact hd1.ext, hG.at hb3⟩
      have hnl : ¬ lowV H w := hG.notlow hwn (by rw [hK]; simp)
      have hgc : gcH H G (.agg [d1, w]) = G := gcH_not fun h => hnl h.2.1
      simp [r1, r6, r7, r8, r9, r10, r11, haG.len, hgc, hoD, hoA, hwo]
      exact ⟨T1 ++ S, d1, w, ⟨rfl, rfl⟩, by rw [hS, hK]; simp, by rw [← List.append_assoc, ← hK, ← hS]; exact hat, hnl⟩
    | false =>
      simp only [Bool.false_eq_true, if_false] at hend
      obtain ⟨w', G', p1, hG', _, _, hw', hfr, _⟩ := hG.push (T := []) (x := ⟨n, sortV vs⟩) (c := [.str n, wv]) (d := .struct [(0, 9), (1, 26)]) (by_ := 40) (z := [.str [], .slc none 0]) (sz := 2) (.inl ⟨F, by rw [List.append_nil]; exact hx, hxw⟩) rfl rfl (by decide) (by decide) (by decide) (hmm _ (by have := hpl false; omega))
      rw [hend] at hG'
      obtain ⟨S', hS'⟩ := hG'.pre
      have hwo' := hG'.one
      have hb3 : (putAttr e.attrs n (sortV vs)).length ≤ maxLen := by rw [← hend]; have := hpl false; simp; unfold maxLen; omega
      have hat : At G' shEntry [d1, w'] (setE e n (sortV vs)).u := entry_at.2 ⟨d1, w', rfl, by rw [hS']; exact hd1.ext, hG'.at hb3⟩
      have hnl : ¬ lowV H w' := hG'.notlow (by rw [hw']; simp) (by rw [hK]; simp)
      have hgc : gcH H G' (.agg [d1, w']) = G' := gcH_not fun h => hnl h.2.1
      simp only [List.append_nil] at p1
      simp [r1, r6, r7, r8, r9, r10, r11, haG.len, hgc, hoD, hoA, hoV, hwo, hwo', elemT, fillL, zerosL, St.new, p1]
      exact ⟨T1 ++ S', d1, w', ⟨rfl, rfl⟩, by rw [hS', hK]; simp, by rw [← List.append_assoc, ← hK, ← hS']; exact hat, hnl⟩
  | succ k =>
    have hi : i < e.attrs.length := by omega
    obtain ⟨a, hxa⟩ : ∃ c, e.attrs[i]? = some c := ⟨e.attrs[i], by simp [hi]⟩
    have hw : IntKind.i64.wrap ((i : Int) + 1) = ((i : Int) + 1) := wrap_i64 (by omega) (by omega)
    have htk := take_get hxa
    have hsort : ∀ b ∈ e.attrs.take i, LtS b.name a.name := fun b hb => by
      obtain ⟨j, hj, rfl⟩ := List.getElem_of_mem hb
      have hj2 : j < i ∧ j < e.attrs.length := by rw [List.length_take] at hj; omega
      rw [List.getElem_take]
      obtain ⟨hi', rfl⟩ := List.getElem?_eq_some_iff.1 hxa
      exact (LtS_iff _ _).2 (List.pairwise_iff_getElem.1 hp j i hj2.2 hi hj2.1)
    obtain ⟨id, o, wx, ex, lx, hvx, hnx, hidx, hatx⟩ := attrs_idxT ha1 hxa
    obtain ⟨l0, l1, l2⟩ := lx G ⟨_, hS⟩
    have hox := hvx.one
    rcases LtS_tri a.name n with hlt | heq | hgt
    · obtain ⟨q1, q2⟩ := put_lt hsort hdone hlt
      obtain ⟨w', G', p1, hG', _, _, hw', hfr, _⟩ := hG.push (T := []) (x := a) (c := [.str a.name, wx]) (d := .struct [(0, 9), (1, 26)]) (by_ := 40) (z := [.str [], .slc none 0]) (sz := 2) (.inr hatx) rfl rfl (by decide) (by decide) (by decide) (hmm _ (by have := hpl done; omega))
      rw [q1, ← htk] at hG'
      rw [← htk] at q2
      rw [List.append_nil] at hw' hfr
      obtain ⟨k1, k2⟩ := push_keep hx hxw hw' hfr
      simp only [List.append_nil] at p1
      have hne : ¬ a.name = n := fun e => LtS_irrefl _ (e ▸ hlt)
      cases done with
      | false =>
        simp [r1, r6, r7, r8, r9, r10, r11, hi, haG.len, ex, l0, l2, LtS_no (LtS_asymm hlt), hne, hoD, hoA, hoV, hox, elemT, fillL, zerosL, St.new, p1, hw]
        exact ⟨k, by omega, i + 1, by omega, _, _, ⟨rfl, rfl⟩, by simp [r1], by simp [r6], by simp [r7], w', by simp, by simp [r9], .inl ⟨by simp [r10], by simp, hG', by simpa using q2, k1, k2, by rw [hw']; simp⟩⟩
      | true =>
        simp [r1, r6, r7, r8, r9, r10, r11, hi, haG.len, ex, l0, l2, LtS_no (LtS_asymm hlt), hne, hoD, hoA, hoV, hox, elemT, fillL, zerosL, St.new, p1, hw]
        exact ⟨k, by omega, i + 1, by omega, _, _, ⟨rfl, rfl⟩, by simp [r1], by simp [r6], by simp [r7], w', by simp, by simp [r9], .inr ⟨by simp [r10], by simp, hG', by simpa using q2, k1, k2, by rw [hw']; simp⟩⟩
    · obtain ⟨q1, q2⟩ := put_eq hsort hdone heq
      have hdone' : true = true ↔ vs = [] ∨ ∃ b ∈ e.attrs.take (i + 1), ¬ LtS b.name n := ⟨fun _ => .inr ⟨a, by rw [htk]; simp, by rw [heq]; exact LtS_irrefl n⟩, fun _ => rfl⟩
      cases done with
      | true =>
        simp only [if_true, List.append_nil] at q2
        rw [q2, ← htk] at hG
        simp [r1, r6, r7, r8, r9, r10, r11, hi, haG.len, ex, l0, l2, heq, LtS_no (LtS_irrefl n), hoD, hoA, hoV, hox, hw]
        exact ⟨k, by omega, i + 1, by omega, _, _, ⟨rfl, rfl⟩, by simp [r1], by simp [r6], by simp [r7], w, by simp [r8], by simp [r9], .inr ⟨by simp [r10], by simp, hG, by simpa using hdone', hx, hxw, hwn⟩⟩
      | false =>
        simp only [Bool.false_eq_true, if_false] at q2
        obtain ⟨w', G', p1, hG', _, _, hw', hfr, _⟩ := hG.push (T := []) (x := ⟨n, sortV vs⟩) (c := [.str n, wv]) (d := .struct [(0, 9), (1, 26)]) (by_ := 40) (z := [.str [], .slc none 0]) (sz := 2) (.inl ⟨F, by rw [List.append_nil]; exact hx, hxw⟩) rfl rfl (by decide) (by decide) (by decide) (hmm _ (by have := hpl false; omega))
        rw [q2, ← htk] at hG'
        rw [List.append_nil] at hw' hfr
        obtain ⟨k1, k2⟩ := push_keep hx hxw hw' hfr
        simp only [List.append_nil] at p1
        simp [r1, r6, r7, r8, r9, r10, r11, hi, haG.len, ex, l0, l2, heq, LtS_no (LtS_irrefl n), hoD, hoA, hoV, hox, elemT, fillL, zerosL, St.new, p1, hw]
        exact ⟨k, by omega, i + 1, by omega, _, _, ⟨rfl, rfl⟩, by simp [r1], by simp [r6], by simp [r7], w', by simp, by simp [r9], .inr ⟨by simp, by simp, hG', by simpa using hdone', k1, k2, by rw [hw']; simp⟩⟩
    · have q2 := put_gt hsort hdone hgt
      have hne : ¬ a.name = n := fun e => LtS_irrefl _ (e ▸ hgt)
      have hdone' : true = true ↔ vs = [] ∨ ∃ b ∈ e.attrs.take (i + 1), ¬ LtS b.name n := ⟨fun _ => .inr ⟨a, by rw [htk]; simp, LtS_asymm hgt⟩, fun _ => rfl⟩
      cases done with
      | true =>
        simp only [if_true, List.append_nil] at q2
        obtain ⟨w', G', p1, hG', _, _, hw', hfr, _⟩ := hG.push (T := []) (x := a) (c := [.str a.name, wx]) (d := .struct [(0, 9), (1, 26)]) (by_ := 40) (z := [.str [], .slc none 0]) (sz := 2) (.inr hatx) rfl rfl (by decide) (by decide) (by decide) (hmm _ (by have := hpl true; omega))
        rw [q2, ← htk] at hG'
        rw [List.append_nil] at hw' hfr
        obtain ⟨k1, k2⟩ := push_keep hx hxw hw' hfr
        simp only [List.append_nil] at p1
        simp [r1, r6, r7, r8, r9, r10, r11, hi, haG.len, ex, l0, l2, hne, hoD, hoA, hoV, hox, elemT, fillL, zerosL, St.new, p1, hw]
        exact ⟨k, by omega, i + 1, by omega, _, _, ⟨rfl, rfl⟩, by simp [r1], by simp [r6], by simp [r7], w', by simp, by simp [r9], .inr ⟨by simp [r10], by simp, hG', by simpa using hdone', k1, k2, by rw [hw']; simp⟩⟩
      | false =>
        simp only [Bool.false_eq_true, if_false] at q2
        obtain ⟨w', G', p1, hG', _, _, hw', hfr, _⟩ := hG.push (T := []) (x := ⟨n, sortV vs⟩) (c := [.str n, wv]) (d := .struct [(0, 9), (1, 26)]) (by_ := 40) (z := [.str [], .slc none 0]) (sz := 2) (.inl ⟨F, by rw [List.append_nil]; exact hx, hxw⟩) rfl rfl (by decide) (by decide) (by decide) (hmm _ (by have := hpl false; omega))
        rw [List.append_nil] at hw' hfr
        obtain ⟨k1, k2⟩ := push_keep hx hxw hw' hfr
        obtain ⟨S', hS'⟩ := hG'.pre
        have haG' : AAttrs G' a1 e.attrs := by rw [hS']; exact ha1.ext
        obtain ⟨l0', l1', l2'⟩ := lx G' ⟨_, hS'⟩
        obtain ⟨w'', G'', p2, hG'', _, _, hw'', hfr', _⟩ := hG'.push (T := []) (x := a) (c := [.str a.name, wx]) (d := .struct [(0, 9), (1, 26)]) (by_ := 40) (z := [.str [], .slc none 0]) (sz := 2) (.inr hatx) rfl rfl (by decide) (by decide) (by decide) (hmm _ (by have := hpl false; simp; omega))
        rw [q2, ← htk] at hG''
        rw [List.append_nil] at hw'' hfr'
        obtain ⟨k3, k4⟩ := push_keep k1 k2 hw'' hfr'
        simp only [List.append_nil] at p1 p2
        simp [r1, r6, r7, r8, r9, r10, r11, hi, haG.len, haG'.len, ex, l0, l2, l0', l2', hne, LtS_dec hgt, hoD, hoA, hoV, hox, elemT, fillL, zerosL, St.new, p1, p2, hw]
        exact ⟨k, by omega, i + 1, by omega, _, _, ⟨rfl, rfl⟩, by simp [r1], by simp [r6], by simp [r7], w'', by simp, by simp [r9], .inr ⟨by simp, by simp, hG'', by simpa using hdone', k3, k4, by rw [hw'']; simp⟩⟩
end Go.Proofs.Try1
end

section
namespace Go.Proofs.Try1
open Go Go.Lite
set_option linter.unusedSimpArgs false
set_option linter.unusedVariables false

theorem EntryOk.small {e : PEntry} (h : EntryOk e) : SmallE e := by
  obtain ⟨_, h1, h2⟩ := h
  refine ⟨by have := h1.2; omega, by have := h2.2; omega, fun a ha => ?_⟩
  obtain ⟨j, hj, rfl⟩ := List.getElem_of_mem ha
  have := (h2.1 j _ (List.getElem?_eq_getElem hj)).2.2.2.2
  omega
theorem EntryOk.rise {e : PEntry} (h : EntryOk e) : e.attrs.Pairwise fun a b => a.name < b.name := rise_pair (fun j x hx => (h.2.2.1 j x hx).2.1)
theorem At_illE {H : List Ob} {c : Int} (h : (Lit.int .i64 c).wf = true) : At H shEntryOut [.slc none 0, .slc none 0, .int .i64 c] (illE c).u :=
  entryOut_at.2 ⟨_, _, rfl, At_slice.2 ⟨_, _, rfl, rfl, by simp [illE], .inl ⟨rfl, rfl⟩⟩, At_slice.2 ⟨_, _, rfl, rfl, by simp [illE], .inl ⟨rfl, rfl⟩⟩, h⟩

/-- A call hands back such an answer. -/
def EOut (H : List Ob) (o : PEntryOut) (q : V) (H' : List Ob) : Prop := ∃ T w1 w2, q = .agg [w1, w2, .int .i64 o.code] ∧ H' = H ++ T ∧ At (H ++ T) shEntryOut [w1, w2, .int .i64 o.code] o.u ∧ gcH H (H ++ T) (.agg [w1, w2, .int .i64 o.code]) = H ++ T
theorem EOut.ill {H : List Ob} {c : Int} (h : (Lit.int .i64 c).wf = true) : EOut H (illE c) (.agg [.slc none 0, .slc none 0, .int .i64 c]) H :=
  ⟨[], .slc none 0, .slc none 0, rfl, by simp, by rw [List.append_nil]; exact At_illE h, by rw [List.append_nil]; exact gcH_same⟩

set_option maxRecDepth 10000 in
set_option maxHeartbeats 4000000 in
theorem s_Put {H : List Ob} {vd va vv : V} {e : PEntry} {n : Str} {vs : List Str} (hd : ARdns H vd e.dn) (ha : AAttrs H va e.attrs) (hb : SmallE e) (hp : e.attrs.Pairwise fun a b => a.name < b.name) (hn : n.length ≤ maxLen) (hv : AStrs H vv vs) (hvl : vs.length ≤ 1000) :
    ∃ q H', callW C 99 [.agg [vd, va], .str n, vv] H = some (q, H') ∧ EOut H (putOf e n vs) q H' := by
  suffices hs : Ret C 99 [.agg [vd, va], .str n, vv] H fun q H' => EOut H (putOf e n vs) q H' by
    obtain ⟨q, H', hc, hr⟩ := hs
    exact ⟨q, H', hc, hr⟩
  rw [op99]
  have hod := hd.one
  have hoa := ha.one
  obtain ⟨r, c1, hr⟩ := s_At (t := n) ha hod.2
  have c2 := s_Ill (H := H) (c := 9)
  by_cases g : vs ≠ [] ∧ 8 ≤ e.attrs.length ∧ firstOf PAttr.name e.attrs n = none
  · have hz : 0 < vs.length := List.length_pos_iff.2 g.1
    have hz' : ¬ vs = [] := g.1
    have h8 : (8 : Int) ≤ e.attrs.length := by have := g.2.1; omega
    have hr0 : r = -1 := by
      rcases hr.pos with ⟨k, a, h1, h2, h3⟩ | ⟨h1, _⟩
      · rw [g.2.2] at h3; cases h3
      · exact h1
    subst hr0
    have hpo : putOf e n vs = illE 9 := if_pos g
    rw [hpo]
    simp [code99, Tryz.f99, c1, c2, hod, hoa, hv.len, ha.len, hz, h8]
    exact EOut.ill (by decide)
  · have hpo : putOf e n vs = ⟨setE e n (sortV vs), 0⟩ := if_neg g
    obtain ⟨T, w1, w2, c3, hat, hnl⟩ := s_Set hd ha hb hp hn hv hvl
    obtain ⟨v1, v2, hcs, a1, a2⟩ := entry_at.1 hat
    cases hcs
    have ho1 := a1.one
    have ho2 := a2.one
    have hgc : gcH H (H ++ T) (.agg [w1, w2, .int .i64 0]) = H ++ T := gcH_not fun h => hnl h.2.1
    rw [hpo]
    have fin : EOut H ⟨setE e n (sortV vs), 0⟩ (.agg [w1, w2, .int .i64 0]) (H ++ T) := ⟨T, w1, w2, rfl, rfl, entryOut_at.2 ⟨_, _, rfl, a1, a2, show (Lit.int .i64 0).wf = true by decide⟩, hgc⟩
    by_cases g1 : vs = []
    · subst g1
      simp [code99, Tryz.f99, c1, c2, c3, hod, hoa, hv.len, ha.len, buildV, structPlace, fillL, ho1, ho2, hgc]
      exact fin
    have hz : 0 < vs.length := List.length_pos_iff.2 g1
    by_cases g2 : 8 ≤ e.attrs.length
    · have h8 : (8 : Int) ≤ e.attrs.length := by omega
      have hr0 : ¬ r < 0 := by
        rcases hr.pos with ⟨k, a, h1, h2, h3⟩ | ⟨h1, h3⟩
        · omega
        · exact absurd ⟨g1, g2, h3⟩ g
      simp [code99, Tryz.f99, c1, c2, c3, hod, hoa, hv.len, ha.len, hz, h8, hr0, buildV, structPlace, fillL, ho1, ho2, hgc]
      exact fin
    · have h8 : ¬ (8 : Int) ≤ e.attrs.length := by omega
      simp [code99, Tryz.f99, c1, c2, c3, hod, hoa, hv.len, ha.len, hz, h8, buildV, structPlace, fillL, ho1, ho2, hgc]
      exact fin

set_option maxRecDepth 10000 in
set_option maxHeartbeats 4000000 in
theorem s_AttrSet {H : List Ob} {vd va vv : V} {e : PEntry} {n : Str} {vs : List Str} (hd : ARdns H vd e.dn) (ha : AAttrs H va e.attrs) (hn : n.length ≤ maxLen) (hv : AStrs H vv vs) :
    ∃ q H', callW C 17 [.agg [vd, va], .str n, vv] H = some (q, H') ∧ EOut H (attrSetOf e n vs) q H' := by
  suffices hs : Ret C 17 [.agg [vd, va], .str n, vv] H fun q H' => EOut H (attrSetOf e n vs) q H' by
    obtain ⟨q, H', hc, hr⟩ := hs
    exact ⟨q, H', hc, hr⟩
  rw [op17]
  have hod := hd.one
  have hoa := ha.one
  have c1 := s_Ill (H := H) (c := 2)
  have c2 := s_Ill (H := H) (c := 1)
  have c3 := s_Entry hd ha
  have c4 := s_Name (t := n) (H := H)
  have c5 := s_New hv
  by_cases g1 : 8000 < n.length ∨ 400 < vs.length
  · have ho : attrSetOf e n vs = illE 2 := if_pos g1
    rw [ho]
    by_cases g2 : 8000 < n.length
    · have g2' : (8000 : Int) < n.length := by omega
      simp [code17, Tryz.f17, c1, hod, hoa, hv.len, g2']
      exact EOut.ill (by decide)
    · have g2' : ¬ (8000 : Int) < n.length := by omega
      have g3' : (400 : Int) < vs.length := by omega
      simp [code17, Tryz.f17, c1, hod, hoa, hv.len, g2', g3']
      exact EOut.ill (by decide)
  · have g2' : ¬ (8000 : Int) < n.length := by omega
    have g3' : ¬ (400 : Int) < vs.length := by omega
    have ho0 : attrSetOf e n vs = if dec (EntryOk e ∧ NameOk n ∧ NewOk vs) = true then putOf e n vs else illE 1 := if_neg g1
    have hill : ¬ (EntryOk e ∧ NameOk n ∧ NewOk vs) → attrSetOf e n vs = illE 1 := fun h => by rw [ho0, dec_neg h]; rfl
    by_cases h1 : EntryOk e
    rotate_left
    · rw [dec_neg h1] at c3
      rw [hill fun h => h1 h.1]
      simp [code17, Tryz.f17, c2, c3, hod, hoa, hv.len, g2', g3']
      exact EOut.ill (by decide)
    rw [dec_pos h1] at c3
    by_cases h2 : NameOk n
    rotate_left
    · rw [dec_neg h2] at c4
      rw [hill fun h => h2 h.2.1]
      simp [code17, Tryz.f17, c2, c3, c4, hod, hoa, hv.len, g2', g3']
      exact EOut.ill (by decide)
    rw [dec_pos h2] at c4
    by_cases h3 : NewOk vs
    rotate_left
    · rw [dec_neg h3] at c5
      rw [hill fun h => h3 h.2.2]
      simp [code17, Tryz.f17, c2, c3, c4, c5, hod, hoa, hv.len, g2', g3']
      exact EOut.ill (by decide)
    rw [dec_pos h3] at c5
    have ho : attrSetOf e n vs = putOf e n vs := by rw [ho0, dec_pos ⟨h1, h2, h3⟩]; rfl
    rw [ho]
    obtain ⟨q, H', c6, T, w1, w2, rfl, rfl, hat, hgc⟩ := s_Put hd ha (EntryOk.small h1) (EntryOk.rise h1) hn hv (by omega)
    obtain ⟨_, _, hcs, a1, a2, hwf⟩ := entryOut_at.1 hat
    cases hcs
    have ho1 := a1.one
    have ho2 := a2.one
    simp [code17, Tryz.f17, c3, c4, c5, c6, hod, hoa, hv.len, g2', g3', ho1, ho2, hgc]
    exact ⟨T, w1, w2, rfl, rfl, hat, hgc⟩
end Go.Proofs.Try1
end

section
namespace Go.Proofs.Try1
open Go Go.Lite
set_option linter.unusedSimpArgs false
set_option linter.unusedVariables false

set_option maxRecDepth 10000 in
theorem i_Long {H : List Ob} {v : V} {l : List Str} (h : AStrs H v l) : callW C 101 [v] H = some (.bool (dec (∃ t ∈ l, 8000 < t.length)), H) := by
  apply Ret.dec
  rw [op101]
  have hb : l.length ≤ 9223372036854775807 := h.bound
  simp [code101, Tryz.f101, h.len]
  refine WP_loop (fun k σ => ∃ (i : Nat) (r : Nat → R), i + k = l.length ∧ σ = ⟨r, 0, H⟩ ∧ r 5 = .val v ∧ r 6 = .val (.int .i64 l.length) ∧ r 7 = .val (.int .i64 i) ∧ ∀ j x, j < i → l[j]? = some x → ¬ 8000 < x.length) ?_ l.length _ ⟨0, _, by simp, rfl, by simp, by simp, by simp, by simp⟩
  rintro k σ ⟨i, r, hik, rfl, r5, r6, r7, hall⟩
  cases k with
  | zero =>
    have hi : i = l.length := by omega
    subst hi
    have hx := at_all (P := fun j (x : Str) => ¬ 8000 < x.length) hall
    simp [r5, r6, r7]
    intro x hm
    obtain ⟨j, hj, rfl⟩ := List.getElem_of_mem hm
    have := hx j _ (List.getElem?_eq_getElem hj)
    omega
  | succ k =>
    have hi : i < l.length := by omega
    obtain ⟨x, hx⟩ : ∃ c, l[i]? = some c := ⟨l[i], by simp [hi]⟩
    have hw : IntKind.i64.wrap ((i : Int) + 1) = ((i : Int) + 1) := wrap_i64 (by omega) (by omega)
    obtain ⟨id, o, e1, l0, _⟩ := strs_idx h hx
    by_cases g1 : 8000 < x.length
    · have g1' : (8000 : Int) < x.length := by omega
      simp [r5, r6, r7, hi, e1, l0, g1']
      exact ⟨x, List.mem_of_getElem? hx, g1⟩
    · have g1' : ¬ (8000 : Int) < x.length := by omega
      simp [r5, r6, r7, hi, e1, l0, g1', hw]
      exact ⟨k, by omega, i + 1, by omega, by omega, fun j x hj hx' => Nat.not_lt.1 (at_step (P := fun j (x : Str) => ¬ 8000 < x.length) hall hx g1 j x hj hx')⟩

theorem i_ManyS {H : List Ob} {v : V} {l : List Str} (h : AStrs H v l) : callW C 102 [v] H = some (.bool (decide (400 < l.length)), H) := by
  apply Ret.eq
  rw [op102]
  simp [code102, Tryz.f102, h.len]
  omega

set_option maxRecDepth 10000 in
theorem l_CloneR {H : List Ob} {v : V} {l : List PRdn} (h : ARdns H v l) (hl : l.length ≤ 1048576) :
    ∃ T w, callW C 261 [v] H = some (w, H ++ T) ∧ New H.length (H ++ T).length (H ++ T) (.slice shRdn) [w] (.lst (l.map PRdn.u)) := by
  suffices hs : Ret C 261 [v] H fun q H' => ∃ T, H' = H ++ T ∧ New H.length (H ++ T).length (H ++ T) (.slice shRdn) [q] (.lst (l.map PRdn.u)) by
    obtain ⟨q, H', hc, T, rfl, hr⟩ := hs
    exact ⟨T, q, hc, hr⟩
  rw [op261]
  obtain ⟨w, T1, a1, n1⟩ := append_clone (d := .struct [(0, 9), (1, 9)]) (by_ := 32) (z := [.str [], .str []]) (sz := 2) h rfl rfl rfl (by decide) (by decide) (by decide) (by unfold maxMade; omega)
  obtain ⟨T', hg, hn⟩ := n1.gc1
  rcases h.sub with ⟨rfl, rfl⟩ | ⟨id, off, own, cells, rfl, _⟩
  · simp [code261, Tryz.f261]
    exact New.nil
  · simp [code261, Tryz.f261, elemT, fillL, zerosL, St.new, a1, hg]
    simpa using hn

set_option maxRecDepth 10000 in
set_option maxHeartbeats 4000000 in
theorem l_CloneS {H : List Ob} {v : V} {l : List Str} (h : AStrs H v l) (hl : l.length ≤ 1048576) :
    ∃ T w, callW C 153 [v] H = some (w, H ++ T) ∧ New H.length (H ++ T).length (H ++ T) (.slice .str) [w] (.lst (l.map strU)) := by
  suffices hs : Ret C 153 [v] H fun q H' => ∃ T, H' = H ++ T ∧ New H.length (H ++ T).length (H ++ T) (.slice .str) [q] (.lst (l.map strU)) by
    obtain ⟨q, H', hc, T, rfl, hr⟩ := hs
    exact ⟨T, q, hc, hr⟩
  rw [op153]
  obtain ⟨w, T1, a1, n1⟩ := append_clone (d := .str) (by_ := 16) (z := [.str []]) (sz := 1) h rfl rfl rfl (by decide) (by decide) (by decide) (by unfold maxMade; omega)
  obtain ⟨T', hg, hn⟩ := n1.gc1
  rcases h.sub with ⟨rfl, rfl⟩ | ⟨id, off, own, cells, rfl, _⟩
  · simp [code153, Tryz.f153]
    exact New.nil
  · simp [code153, Tryz.f153, elemT, fillL, zerosL, St.new, a1, hg]
    simpa using hn

set_option maxRecDepth 10000 in
set_option maxHeartbeats 8000000 in
theorem i_copied {H : List Ob} {vd va : V} {e : PEntry} (hd : ARdns H vd e.dn) (ha : AAttrs H va e.attrs) (hb : SmallE e) :
    ∃ T w1 w2, callW C 162 [.agg [vd, va]] H = some (.agg [w1, w2], H ++ T) ∧ New H.length (H ++ T).length (H ++ T) shEntry [w1, w2] e.u := by
  suffices hs : Ret C 162 [.agg [vd, va]] H fun q H' => ∃ T w1 w2, q = .agg [w1, w2] ∧ H' = H ++ T ∧ New H.length (H ++ T).length (H ++ T) shEntry [w1, w2] e.u by
    obtain ⟨q, H', hc, T, w1, w2, rfl, rfl, hr⟩ := hs
    exact ⟨T, w1, w2, hc, hr⟩
  rw [op162]
  have hod := hd.one
  have hoa := ha.one
  obtain ⟨T1, w1, a1, n1⟩ := l_CloneR hd hb.1
  have hb2 := hb.2.1
  have how := New.one1 n1
  obtain ⟨K, hK⟩ : ∃ K, K = H ++ T1 := ⟨_, rfl⟩
  rw [← hK] at n1 a1
  have haK : AAttrs K va e.attrs := by rw [hK]; exact ha.ext
  simp [code162, Tryz.f162, hod, hoa, a1, buildV, structPlace, fillL, how, haK.len]
  refine WP_loop (fun k σ => ∃ (i n : Nat) (r : Nat → R) (G : List Ob) (w : V), i + k = e.attrs.length ∧ σ = ⟨r, n, G⟩ ∧ r 2 = .box 1 [.slc none 0, .slc none 0] ∧ r 3 = .box 2 [w1, w] ∧ r 11 = .val va ∧ r 12 = .val (.int .i64 e.attrs.length) ∧ r 13 = .val (.int .i64 i) ∧ LstF K G shAttr PAttr.u w (e.attrs.take i)) ?_ e.attrs.length _ ⟨0, 3, _, K, .slc none 0, by simp, rfl, by simp, by simp, by simp, by simp, by simp, by simpa using LstF.nil⟩
  rintro k σ ⟨i, cn, r, G, w, hik, rfl, r2, r3, r11, r12, r13, hG⟩
  obtain ⟨S, hS⟩ := hG.pre
  have haG : AAttrs G va e.attrs := by rw [hS]; exact haK.ext
  have hwo := hG.one
  cases k with
  | zero =>
    have hi : i = e.attrs.length := by omega
    subst hi
    rw [List.take_length] at hG
    have n2 := hG.new ha.bound
    have hne : New H.length G.length G shEntry [w1, w] e.u := by
      refine New.st (News.cons (m := K.length) (c1 := [w1]) ?_ (News.one n2 (by rw [hS]; simp)) (by rw [hK]; simp) (by rw [hS]; simp))
      rw [hS]; exact n1.ext
    obtain ⟨T', hg, hn⟩ := (show New H.length G.length (H ++ (T1 ++ S)) shEntry [w1, w] e.u by rw [← List.append_assoc, ← hK, ← hS]; exact hne).gcA
    rw [← List.append_assoc, ← hK, ← hS] at hg
    simp [r2, r3, r11, r12, r13, hg, how, hwo]
    exact ⟨T', w1, w, ⟨rfl, rfl⟩, rfl, by simpa using hn⟩
  | succ k =>
    have hi : i < e.attrs.length := by omega
    obtain ⟨x, hx⟩ : ∃ c, e.attrs[i]? = some c := ⟨e.attrs[i], by simp [hi]⟩
    have hw : IntKind.i64.wrap ((i : Int) + 1) = ((i : Int) + 1) := wrap_i64 (by omega) (by omega)
    obtain ⟨id, o, wx, ex, lx, hvx, hnx, hidx, _⟩ := attrs_idxT ha hx
    have hGH : G = H ++ (T1 ++ S) := by rw [hS, hK, List.append_assoc]
    obtain ⟨l0, l1, l2⟩ := lx G ⟨_, hGH⟩
    have hvG : AStrs G wx x.vals := by rw [hGH]; exact hvx.ext
    have hox := hvG.one
    have hbx := hb.2.2 x (List.mem_of_getElem? hx)
    obtain ⟨T2, wv, a2, n2⟩ := l_CloneS hvG hbx
    have hel : New G.length (G ++ T2).length (G ++ T2) shAttr [.str x.name, wv] x.u := New.st (News.str hnx (News.one n2 (by simp)))
    obtain ⟨w', G', a3, hG', _, _⟩ := hG.push (T := T2) (d := .struct [(0, 9), (1, 26)]) (by_ := 40) (z := [.str [], .slc none 0]) (sz := 2) hel rfl rfl (by decide) (by decide) (by decide) (by simp; unfold maxMade; omega)
    rw [← take_get hx] at hG'
    have hwv := New.one1 n2
    have hw' := hG'.one
    simp only [List.append_assoc, List.length_append] at a3
    simp [r2, r3, r11, r12, r13, hi, ex, l0, l1, l2, a2, a3, Keep_append, elemT, fillL, zerosL, St.new, buildV, structPlace, hod, hoa, hox, hwv, hwo, hw', hw, List.lookup]
    exact ⟨k, by omega, i + 1, by omega, _, _, _, ⟨rfl, rfl, rfl⟩, by simp [r2], w', by simp, by simp [r11], by simp [r12], by simp, hG'⟩

set_option maxRecDepth 10000 in
set_option maxHeartbeats 4000000 in
theorem l_searchS {H : List Ob} {v : V} {l : List PAttr} {t : Str} (h : AAttrs H v l) (hl : l.length ≤ 1000) (hp : l.Pairwise fun a b => a.name < b.name) :
    ∃ (i : Nat) (ok : Bool), callW C 331 [v, .str t, .fn 332 [] []] H = some (.tup [.int .i64 i, .bool ok], H) ∧
      i ≤ l.length ∧ (∀ q a, q < i → l[q]? = some a → LtS a.name t) ∧ (∀ q a, i ≤ q → l[q]? = some a → ¬ LtS a.name t) ∧ (ok = true ↔ ∃ a, l[i]? = some a ∧ a.name = t) := by
  suffices hs : Ret C 331 [v, .str t, .fn 332 [] []] H fun q H' =>
      (∃ (i : Nat) (ok : Bool), q = .tup [.int .i64 i, .bool ok] ∧ i ≤ l.length ∧ (∀ q a, q < i → l[q]? = some a → LtS a.name t) ∧ (∀ q a, i ≤ q → l[q]? = some a → ¬ LtS a.name t) ∧ (ok = true ↔ ∃ a, l[i]? = some a ∧ a.name = t)) ∧ H' = H by
    obtain ⟨q, H', hc, ⟨i, ok, rfl, h1⟩, rfl⟩ := hs
    exact ⟨i, ok, hc, h1⟩
  rw [op331]
  simp [code331, Tryz.f331, h.len]
  refine WP_loop (fun k σ => ∃ (i j : Nat) (r : Nat → R), j - i = k ∧ i ≤ j ∧ j ≤ l.length ∧ σ = ⟨r, 0, H⟩ ∧ r 0 = .val v ∧ r 1 = .val (.str t) ∧ r 2 = .val (.fn 332 [] []) ∧ r 8 = .val (.int .i64 l.length) ∧ r 9 = .val (.int .i64 i) ∧ r 10 = .val (.int .i64 j) ∧
    (∀ q a, q < i → l[q]? = some a → LtS a.name t) ∧ (∀ q a, j ≤ q → l[q]? = some a → ¬ LtS a.name t)) ?_ l.length _ ⟨0, l.length, _, by omega, by omega, by omega, rfl, by simp, by simp, by simp, by simp, by simp, by simp, fun q a h => by omega, fun q a h1 h2 => by have := (List.getElem?_eq_some_iff.1 h2).1; omega⟩
  rintro k σ ⟨i, j, r, hk, hij, hjl, rfl, r0, r1, r2, r8, r9, r10, hlo, hhi⟩
  cases k with
  | succ k =>
    have hlt : (i : Int) < j := by omega
    have hlt' : i < j := by omega
    have hw1 : IntKind.i64.wrap ((i : Int) + j) = (i : Int) + j := wrap_i64 (by omega) (by omega)
    have hw2 : IntKind.u64.wrap ((i : Int) + j) = (i : Int) + j := by unfold IntKind.wrap; simp [IntKind.bits, IntKind.signed]; omega
    have hq : ((i : Int) + j).fdiv 2 = (((i + j) / 2 : Nat) : Int) := by rw [Int.fdiv_eq_ediv_of_nonneg _ (by omega)]; omega
    obtain ⟨m, hm⟩ : ∃ m, m = (i + j) / 2 := ⟨_, rfl⟩
    rw [← hm] at hq
    have hw3 : IntKind.i64.wrap (m : Int) = m := wrap_i64 (by omega) (by omega)
    have hw4 : IntKind.i64.wrap ((m : Int) + 1) = (m : Int) + 1 := wrap_i64 (by omega) (by omega)
    have hml : m < l.length := by omega
    obtain ⟨a, ha⟩ : ∃ a, l[m]? = some a := ⟨l[m], List.getElem?_eq_getElem hml⟩
    obtain ⟨id, o, w, e1, l0, l1, l2, hvs, _⟩ := attrs_idx h ha
    have c1 := i_byName (n := a.name) (t := t) (w := w) (H := H) hvs.one.2
    have hord : ∀ q b, l[q]? = some b → (q < m → b.name < a.name) ∧ (m < q → a.name < b.name) := fun q b hb => by
      obtain ⟨hq1, hb⟩ := List.getElem?_eq_some_iff.1 hb
      obtain ⟨_, ha⟩ := List.getElem?_eq_some_iff.1 ha
      have := List.pairwise_iff_getElem.1 hp
      exact ⟨fun hh => by have := this q m hq1 hml hh; rwa [hb, ha] at this, fun hh => by have := this m q hml hq1 hh; rwa [hb, ha] at this⟩
    by_cases g1 : LtS a.name t
    · have g1' := cmpS_lt.2 g1
      simp [r0, r1, r2, r8, r9, r10, hlt, hlt', hw1, hw2, hq, hw3, hw4, e1, l2, c1, g1', intShift, IntKind.bits]
      refine ⟨j - (m + 1), by omega, m + 1, j, by omega, by omega, by omega, by omega, rfl, fun q b hq1 hb => ?_, hhi⟩
      by_cases hqm : q = m
      · subst hqm; rw [ha] at hb; cases hb; exact g1
      · exact (LtS_iff _ _).2 (List.lt_trans ((hord q b hb).1 (by omega)) ((LtS_iff _ _).1 g1))
    · have g1' : ¬ cmpS a.name t < 0 := mt cmpS_lt.1 g1
      simp [r0, r1, r2, r8, r9, r10, hlt, hlt', hw1, hw2, hq, hw3, hw4, e1, l2, c1, g1', intShift, IntKind.bits]
      refine ⟨m - i, by omega, i, m, by omega, by omega, by omega, rfl, rfl, hlo, fun q b hq1 hb hlt2 => ?_⟩
      by_cases hqm : q = m
      · subst hqm; rw [ha] at hb; cases hb; exact g1 hlt2
      · exact g1 ((LtS_iff _ _).2 (List.lt_trans ((hord q b hb).2 (by omega)) ((LtS_iff _ _).1 hlt2)))
  | zero =>
    have hij' : i = j := by omega
    subst hij'
    by_cases hil : i < l.length
    · have hilI : (i : Int) < l.length := by omega
      obtain ⟨a, ha⟩ : ∃ a, l[i]? = some a := ⟨l[i], List.getElem?_eq_getElem hil⟩
      obtain ⟨id, o, w, e1, l0, l1, l2, hvs, _⟩ := attrs_idx h ha
      have c1 := i_byName (n := a.name) (t := t) (w := w) (H := H) hvs.one.2
      by_cases g1 : a.name = t
      · have g1' := cmpS_eq.2 g1
        simp [r0, r1, r2, r8, r9, r10, hil, e1, l2, c1, g1']
        exact ⟨i, rfl, by omega, hlo, hhi, a, ha, g1⟩
      · have g1' : ¬ cmpS a.name t = 0 := mt cmpS_eq.1 g1
        simp [r0, r1, r2, r8, r9, r10, hil, e1, l2, c1, g1']
        exact ⟨i, rfl, by omega, hlo, hhi, fun b hb => by rw [ha] at hb; cases hb; exact g1⟩
    · simp [r0, r1, r2, r8, r9, r10, hil]
      exact ⟨i, rfl, by omega, hlo, hhi, fun b hb => by have := (List.getElem?_eq_some_iff.1 hb).1; omega⟩

set_option maxRecDepth 10000 in
theorem i_findS {H : List Ob} {ide : Nat} {own : Bool} {es : Nat} {vd va : V} {l : List PAttr} {t : Str} (he : H[ide]? = some (.mk own es [vd, va])) (h : AAttrs H va l) (hl : l.length ≤ 1000) (hp : l.Pairwise fun a b => a.name < b.name) :
    ∃ (i : Nat) (ok : Bool), callW C 226 [.ptr (some (ide, 0)), .str t] H = some (.tup [.int .i64 i, .bool ok], H) ∧ i ≤ l.length ∧ (∀ q a, q < i → l[q]? = some a → LtS a.name t) ∧ (∀ q a, i ≤ q → l[q]? = some a → ¬ LtS a.name t) ∧ (ok = true ↔ ∃ a, l[i]? = some a ∧ a.name = t) := by
  obtain ⟨i, ok, c1, h1⟩ := l_searchS (t := t) h hl hp
  refine ⟨i, ok, ?_, h1⟩
  apply Ret.eq
  rw [op226]
  have ld := load1 (o := 1) (v := va) he rfl
  simp [code226, Tryz.f226, ld, c1]
end Go.Proofs.Try1
end

section
namespace Go.Proofs.Try1
open Go Go.Lite
set_option linter.unusedSimpArgs false
set_option linter.unusedVariables false

/-- What TreeGet answers. -/
noncomputable def treeGetOf (t : PTree) (dn : List PRdn) : PEntryOut :=
  if 400 < dn.length then illE 2 else if dec (TreeOk t ∧ DnOk dn) = true then (match firstOf keyE t.entries (keyD dn) with
    | some e => ⟨e, 0⟩
    | none => illE 6) else illE 1

theorem TreeOk.dns {t : PTree} (h : TreeOk t) : ∀ x ∈ t.entries, EntryOk x := fun x hx => by
  obtain ⟨j, hj, rfl⟩ := List.getElem_of_mem hx
  exact (h.2.1.2 j _ (List.getElem?_eq_getElem hj)).1

set_option maxRecDepth 10000 in
set_option maxHeartbeats 4000000 in
theorem s_TreeGet {H : List Ob} {vs ve vd : V} {t : PTree} {dn : List PRdn} (hs : AClasses H vs t.schema) (h : AEntries H ve t.entries) (hd : ARdns H vd dn) :
    ∃ q H', callW C 53 [.agg [vs, ve], vd] H = some (q, H') ∧ NOut H (treeGetOf t dn) q H' := by
  suffices hs : Ret C 53 [.agg [vs, ve], vd] H fun q H' => NOut H (treeGetOf t dn) q H' by
    obtain ⟨q, H', hc, hr⟩ := hs
    exact ⟨q, H', hc, hr⟩
  rw [op53]
  have hos := hs.one
  have hoe := h.one
  have c1 := s_Ill (H := H) (c := 2)
  have c2 := s_Ill (H := H) (c := 1)
  have c3 := s_Ill (H := H) (c := 6)
  have c4 := s_TreeRight hs h
  have c5 := s_Dn hd
  by_cases g1 : 400 < dn.length
  · have g1' : (400 : Int) < dn.length := by omega
    have e : treeGetOf t dn = illE 2 := if_pos g1
    rw [e]
    simp [code53, Tryz.f53, hos, hoe, hd.len, g1', c1, fillL, zerosL]
    exact NOut.ill (by decide)
  have g1' : ¬ (400 : Int) < dn.length := by omega
  by_cases g2 : TreeOk t
  rotate_left
  · rw [dec_neg g2] at c4
    have e : treeGetOf t dn = illE 1 := by unfold treeGetOf; rw [if_neg g1, dec_neg (fun h => g2 h.1)]; rfl
    rw [e]
    simp [code53, Tryz.f53, hos, hoe, hd.len, g1', c2, c4, fillL, zerosL]
    exact NOut.ill (by decide)
  rw [dec_pos g2] at c4
  by_cases g3 : DnOk dn
  rotate_left
  · rw [dec_neg g3] at c5
    have e : treeGetOf t dn = illE 1 := by unfold treeGetOf; rw [if_neg g1, dec_neg (fun h => g3 h.2)]; rfl
    rw [e]
    simp [code53, Tryz.f53, hos, hoe, hd.len, g1', c2, c4, c5, fillL, zerosL]
    exact NOut.ill (by decide)
  rw [dec_pos g3] at c5
  have c6 := s_Key hd g3
  obtain ⟨q, c7, hq⟩ := s_TAt (vs := vs) (t := keyD dn) h (fun x hx => (TreeOk.dns g2 x hx).2.1) hos
  have e : treeGetOf t dn = match firstOf keyE t.entries (keyD dn) with
    | some e => ⟨e, 0⟩
    | none => illE 6 := by unfold treeGetOf; rw [if_neg g1, dec_pos ⟨g2, g3⟩]; rfl
  rcases hq.pos with ⟨k, x, h1, rfl, h2⟩ | ⟨rfl, h2⟩
  · rw [h2] at e
    simp only at e
    have hk : ¬ ((k : Int) < 0) := by omega
    obtain ⟨id, o, w1, w2, e1, l0, l1, lm, a1, a2, _⟩ := entries_idx h h1
    obtain ⟨T, y1, y2, c8, hn⟩ := s_Copy a1 a2 (EntryOk.small (TreeOk.dns g2 x (List.mem_of_getElem? h1)))
    have ho1 := a1.one
    have ho2 := a2.one
    obtain ⟨_, _, hcy, b1, b2⟩ := entry_at.1 hn.at
    cases hcy
    have hoy1 := b1.one
    have hoy2 := b2.one
    rw [e]
    simp [code53, Tryz.f53, hos, hoe, hd.len, g1', c4, c5, c6, c7, hk, e1, lm, c8, ho1, ho2, hoy1, hoy2, fillL, zerosL, buildV, structPlace, regionL_none, regionL_some, List.lookup]
    exact NOut.of ⟨T, rfl⟩ hn
  · rw [h2] at e
    simp only at e
    rw [e]
    simp [code53, Tryz.f53, hos, hoe, hd.len, g1', c3, c4, c5, c6, c7, fillL, zerosL, regionL_none, regionL_some, List.lookup]
    exact NOut.ill (by decide)
end Go.Proofs.Try1
end

section
namespace Go.Proofs.Try1
open Go Go.Lite
set_option linter.unusedSimpArgs false
set_option linter.unusedVariables false

theorem i_ManyR {H : List Ob} {v : V} {l : List PRdn} (h : ARdns H v l) : callW C 257 [v] H = some (.bool (decide (400 < l.length)), H) := by
  apply Ret.eq
  rw [op257]
  have hi : (400 : Int) < (l.length : Int) ↔ 400 < l.length := by omega
  simp [code257, Tryz.f257, h.len, hi]

/-- One name is looked at, and what else must hold. -/
theorem i_dnsCode1 {H : List Ob} {idd g : Nat} {b : List V} {vd : V} {dn : List PRdn} {rr : Bool} (hi : H[idd]? = some (.mk true 1 [vd])) (hd : ARdns H vd dn) (hr : callW C g b H = some (.bool rr, H)) :
    callW C 159 [.fn g [] b, .slc (some (idd, 0)) 1] H = some (.int .i64 (if 400 < dn.length then 2 else if dec (DnOk dn) = true ∧ rr = true then 0 else 1), H) := by
  apply Ret.eq
  rw [op159]
  have c1 := i_ManyR hd
  have c2 := i_Dn hd
  have ld := load1 (o := 0) (v := vd) hi rfl
  simp [code159, Tryz.f159]
  refine WP_loop (fun k σ => ∃ (i : Nat) (r : Nat → R), i + k = 1 ∧ (0 < i → ¬ 400 < dn.length) ∧ σ = ⟨r, 0, H⟩ ∧ r 0 = .val (.fn g [] b) ∧ r 1 = .val (.slc (some (idd, 0)) 1) ∧ r 9 = .val (.slc (some (idd, 0)) 1) ∧ r 10 = .val (.int .i64 1) ∧ r 11 = .val (.int .i64 i)) ?_ 1 _ ⟨0, _, by omega, by omega, rfl, by simp, by simp, by simp, by simp, by simp⟩
  rintro k σ ⟨i, r, hik, hlow, rfl, r0, r1, r9, r10, r11⟩
  cases k with
  | succ k =>
    obtain rfl : i = 0 := by omega
    obtain rfl : k = 0 := by omega
    by_cases g1 : 400 < dn.length
    · simp [r0, r1, r9, r10, r11, ld, c1, g1]
    · simp [r0, r1, r9, r10, r11, ld, c1, g1]
  | zero =>
    obtain rfl : i = 1 := by omega
    have g1 := hlow (by omega)
    simp [r0, r1, r9, r10, r11, g1]
    refine WP_loop (fun k σ => ∃ (i : Nat) (r : Nat → R), i + k = 1 ∧ (0 < i → DnOk dn) ∧ σ = ⟨r, 0, H⟩ ∧ r 0 = .val (.fn g [] b) ∧ r 1 = .val (.slc (some (idd, 0)) 1) ∧ r 18 = .val (.slc (some (idd, 0)) 1) ∧ r 19 = .val (.int .i64 1) ∧ r 20 = .val (.int .i64 i)) ?_ 1 _ ⟨0, _, by omega, by omega, rfl, by simp [r0], by simp [r1], by simp, by simp, by simp⟩
    clear r0 r1 r9 r10 r11 r
    rintro k σ ⟨i, r, hik, hdn, rfl, r0, r1, r18, r19, r20⟩
    cases k with
    | succ k =>
      obtain rfl : i = 0 := by omega
      obtain rfl : k = 0 := by omega
      by_cases g2 : DnOk dn
      · rw [dec_pos g2] at c2
        simp [r0, r1, r18, r19, r20, ld, c2, g1]
        exact g2
      · rw [dec_neg g2] at c2
        simp [r0, r1, r18, r19, r20, ld, c2, g1, dec_neg g2]
    | zero =>
      obtain rfl : i = 1 := by omega
      have g2 := hdn (by omega)
      cases rr with
      | true => simp [r0, r1, r18, r19, r20, hr, dec_pos g2]
      | false => simp [r0, r1, r18, r19, r20, hr, dec_pos g2]

set_option maxRecDepth 10000 in
set_option maxHeartbeats 4000000 in
theorem i_TreeGet {H : List Ob} {vs ve vd : V} {t : PTree} {dn : List PRdn} (hs : AClasses H vs t.schema) (h : AEntries H ve t.entries) (hd : ARdns H vd dn) :
    ∃ q H', callW C 55 [.agg [vs, ve], vd] H = some (q, H') ∧ NOut H (treeGetOf t dn) q H' := by
  suffices hs : Ret C 55 [.agg [vs, ve], vd] H fun q H' => NOut H (treeGetOf t dn) q H' by
    obtain ⟨q, H', hc, hr⟩ := hs
    exact ⟨q, H', hc, hr⟩
  rw [op55]
  have hos := hs.one
  have hoe := h.one
  have hod := hd.one
  have hil : ∀ (X : List Ob) c, gcH H (H ++ X) (.agg [.slc none 0, .slc none 0, .int .i64 c]) = H := fun X c => gcH_low (by simp [lowV, lowVs])
  obtain ⟨Y, hY⟩ : ∃ Y, Y = H ++ [.mk true 2 [vs, ve]] := ⟨_, rfl⟩
  obtain ⟨K, hK⟩ : ∃ K, K = Y ++ [.mk true 1 [vd]] := ⟨_, rfl⟩
  have hYl : Y.length = H.length + 1 := by rw [hY]; simp
  have hYt : Y[H.length]? = some (.mk true 2 [vs, ve]) := by rw [hY]; exact get_last
  have hKt : K[H.length]? = some (.mk true 2 [vs, ve]) := by rw [hK]; exact up_append _ _ hYt
  have hKd : K[Y.length]? = some (.mk true 1 [vd]) := by rw [hK]; exact get_last
  obtain ⟨S, hS⟩ : ∃ S, K = H ++ S := ⟨_, by rw [hK, hY, List.append_assoc]⟩
  have hsK : AClasses K vs t.schema := by rw [hS]; exact hs.ext
  have hK2 : AEntries K ve t.entries := by rw [hS]; exact h.ext
  have hdK : ARdns K vd dn := by rw [hS]; exact hd.ext
  have ld0 := load1 (o := 0) (v := vs) hKt rfl
  have ld1 := load1 (o := 1) (v := ve) hKt rfl
  have ldN := loadN (o := 0) (n := 2) hKt (by simp) (by decide) rfl
  simp at ldN
  have hgK : ∀ c, gcH H K (.agg [.slc none 0, .slc none 0, .int .i64 c]) = H := fun c => by rw [hS]; exact hil _ _
  have c0 := i_TreeRight hsK hK2
  have cR : callW C 160 [.ptr (some (H.length, 0))] K = some (.bool (dec (TreeOk t)), K) := by
    apply Ret.eq
    rw [op160]
    simp [code160, Tryz.f160, ldN, c0]
  have c1 := i_dnsCode1 (g := 160) (b := [.ptr (some (H.length, 0))]) hKd hdK cR
  by_cases g1 : 400 < dn.length
  · have e : treeGetOf t dn = illE 2 := if_pos g1
    rw [if_pos g1] at c1
    rw [e]
    simp [code55, Tryz.f55, hos, hoe, hod, strideOf, fillL, zerosL, St.new, buildV, structPlace, elemT, ← hY, ← hK, ← hYl, c1, hgK]
    exact NOut.ill (by decide)
  rw [if_neg g1] at c1
  by_cases g2 : TreeOk t ∧ DnOk dn
  rotate_left
  · have e : treeGetOf t dn = illE 1 := by unfold treeGetOf; rw [if_neg g1, dec_neg g2]; rfl
    have g2' : ¬ (dec (DnOk dn) = true ∧ dec (TreeOk t) = true) := fun h => g2 ⟨dec_true.1 h.2, dec_true.1 h.1⟩
    rw [if_neg g2'] at c1
    rw [e]
    simp [code55, Tryz.f55, hos, hoe, hod, strideOf, fillL, zerosL, St.new, buildV, structPlace, elemT, ← hY, ← hK, ← hYl, c1, hgK]
    exact NOut.ill (by decide)
  rw [if_pos ⟨dec_pos g2.2, dec_pos g2.1⟩] at c1
  obtain ⟨gt, gd⟩ := g2
  have hok : ∀ x ∈ t.entries, DnOk x.dn := fun x hx => (TreeOk.dns gt x hx).2.1
  have hpw : t.entries.Pairwise fun a b => keyD a.dn < keyD b.dn := rise_pair (key := fun e => keyD e.dn) (fun j x hx => (gt.2.1.2 j x hx).2.2)
  have hel : t.entries.length ≤ 1000 := by have := gt.2.1.1; omega
  obtain ⟨i, ok, c2, hile, hlo, hhi, hok'⟩ := i_searchT hKt hK2 hel hok hpw hdK gd
  have e : treeGetOf t dn = match firstOf keyE t.entries (keyD dn) with
    | some e => ⟨e, 0⟩
    | none => illE 6 := by unfold treeGetOf; rw [if_neg g1, dec_pos ⟨gt, gd⟩]; rfl
  cases ok with
  | false =>
    have hn : firstOf keyE t.entries (keyD dn) = none := by
      refine List.find?_eq_none.2 fun y hy he => ?_
      have he : keyD y.dn = keyD dn := by simpa using he
      obtain ⟨j, hj, rfl⟩ := List.getElem_of_mem hy
      have hji : ¬ j < i := fun hh => by
        have := hlo j _ hh (List.getElem?_eq_getElem hj)
        rw [he] at this
        exact List.lt_irrefl _ ((LtS_iff _ _).1 this)
      by_cases hij : i = j
      · subst hij
        have := hok'.2 ⟨_, List.getElem?_eq_getElem hj, he⟩
        cases this
      · have hi2 : i < t.entries.length := by omega
        have h1 := hhi i _ (Nat.le_refl _) (List.getElem?_eq_getElem hi2)
        have h2 := List.pairwise_iff_getElem.1 hpw i j hi2 hj (by omega)
        rw [he] at h2
        exact h1 ((LtS_iff _ _).2 h2)
    rw [hn] at e
    simp only at e
    rw [e]
    simp [code55, Tryz.f55, hos, hoe, hod, strideOf, fillL, zerosL, St.new, buildV, structPlace, elemT, ← hY, ← hK, ← hYl, c1, c2, hgK]
    exact NOut.ill (by decide)
  | true =>
    obtain ⟨x, hx, he⟩ := hok'.1 rfl
    have hf : firstOf keyE t.entries (keyD dn) = some x := by
      cases hf : firstOf keyE t.entries (keyD dn) with
      | none =>
        have := List.find?_eq_none.1 hf x (List.mem_of_getElem? hx)
        exact absurd (by simpa using he) this
      | some y =>
        have hy1 : keyD y.dn = keyD dn := by have := List.find?_some hf; simpa using this
        obtain ⟨j, hj, rfl⟩ := List.getElem_of_mem (List.mem_of_find?_eq_some hf)
        obtain ⟨hi2, rfl⟩ := List.getElem?_eq_some_iff.1 hx
        have hp := List.pairwise_iff_getElem.1 hpw
        by_cases h1 : i < j
        · have := hp i j hi2 hj h1
          rw [he, hy1] at this
          exact absurd this (List.lt_irrefl _)
        · by_cases h2 : j < i
          · have := hp j i hj hi2 h2
            rw [he, hy1] at this
            exact absurd this (List.lt_irrefl _)
          · obtain rfl : i = j := by omega
            rfl
    rw [hf] at e
    simp only at e
    obtain ⟨id, o, w1, w2, e1, l0, l1, lm, a1, a2, _⟩ := entries_idx hK2 hx
    obtain ⟨T, y1, y2, c3, hn⟩ := i_copied a1 a2 (EntryOk.small (TreeOk.dns gt x (List.mem_of_getElem? hx)))
    obtain ⟨_, _, hcy, b1, b2⟩ := entry_at.1 hn.at
    cases hcy
    have ho1 := a1.one
    have ho2 := a2.one
    have hoy1 := b1.one
    have hoy2 := b2.one
    rw [e]
    simp [code55, Tryz.f55, hos, hoe, hod, strideOf, fillL, zerosL, St.new, buildV, structPlace, elemT, ← hY, ← hK, ← hYl, c1, c2, c3, e1, lm, ld0, ld1, ho1, ho2, hoy1, hoy2, hgK]
    exact NOut.of ⟨S ++ T, by rw [hS, List.append_assoc]⟩ (hn.wide (by rw [hS]; simp) (Nat.le_refl _))
end Go.Proofs.Try1
end

section
namespace Go.Proofs.Try1
open Go Go.Lite
set_option linter.unusedSimpArgs false
set_option linter.unusedVariables false
set_option maxRecDepth 10000 in
theorem mk_EntryS : MkFn 165 (.slice shEntry) := by
  intro H cs u F k h hn hk
  obtain ⟨v, l, rfl, rfl, hlen, hv⟩ := AtF_slice.1 h
  have hv := (AtF_slice.2 ⟨v, l, rfl, rfl, hlen, hv⟩).at
  obtain ⟨_, _, hx1, hx2, _, hv⟩ := At_slice.1 hv
  cases hx1; cases hx2
  apply Ret.mark
  rw [op165]
  simp only [cntV] at hk
  have hl64 : l.length ≤ 9223372036854775807 := hlen
  simp [code165, Tryz.f165, valC, -setRange]
  refine WP_loop (fun m σ => ∃ (i : Nat) (r : Nat → R) (G : List Ob), i + m = l.length ∧ σ = ⟨r, 0, G⟩ ∧ r 0 = .val v ∧ r 1 = .val (.int .i64 ((k + cntPs (l.take i) : Nat) : Int)) ∧ r 5 = .val (.int .i64 i) ∧ G.length = H.length ∧ (∀ q, q ∉ F → G[q]? = H[q]?) ∧ AtF G (.slice shEntry) [v] (.lst (mkPs (l.take i) k ++ l.drop i)) F) ?_ l.length _ ⟨0, _, H, by simp, rfl, by simp, by simp [cntPs], by simp, rfl, fun _ _ => rfl, by simpa [mkPs] using h⟩
  rintro m σ ⟨i, r, G, him, rfl, r0, r1, r5, g1, g2, g3⟩
  cases m with
  | zero =>
    have hi : i = l.length := by omega
    subst hi
    simp at g3
    simp [r0, r1, r5, hv.len, gcH_len g1, cntV, mkV]
    exact ⟨g1, g2, g3⟩
  | succ m =>
    have hi : i < l.length := by omega
    obtain ⟨x, hx⟩ : ∃ x, l[i]? = some x := ⟨l[i], by simp [hi]⟩
    have hx0 : (mkPs (l.take i) k ++ l.drop i)[i]? = some x := by rw [mk_get hi, hx]
    have hmk := mk_set (k := k) hx
    have hcnt := cntPs_take hx
    have hle := cntPs_take_le (l := l) (i := i + 1)
    have hL : (mkPs (l.take i) k ++ l.drop i).length = l.length := by simp [mkPs_len]; omega
    obtain ⟨L, hLd⟩ : ∃ L, L = mkPs (l.take i) k ++ l.drop i := ⟨_, rfl⟩
    rw [← hLd] at hx0 hmk hL g3
    clear hLd
    obtain ⟨id, off, cells, K, e0, e1, e2, e3, e4, e5, e6, e7, e8⟩ := AtF.elem g3 hn hx0
    clear e1 e2 e4 e5 e7 e8
    rw [hL] at e0
    subst e0
    generalize List.take (shEntry).size (List.drop (off + i * (shEntry).size) cells) = cc at e3
    replace e3 := AtF_st.1 e3
    obtain ⟨us, rfl, e3⟩ := e3
    replace e3 := AtsF_cons.1 e3
    obtain ⟨c0, d0, u0, rr0, F0, E0, rfl, rfl, rfl, h0, e3⟩ := e3
    replace e3 := AtsF_cons.1 e3
    obtain ⟨c1, d1, u1, rr1, F1, E1, rfl, rfl, rfl, h1, e3⟩ := e3
    replace e3 := AtsF_nil.1 e3
    obtain ⟨rfl, rfl, rfl⟩ := e3
    have k0 := h0
    replace h0 := AtF_slice.1 h0
    obtain ⟨v0, l0, rfl, rfl, w0, hv0⟩ := h0
    have o0 := (At_slice.1 (AtF.at _ k0))
    obtain ⟨_, _, x1, x2, _, o0⟩ := o0
    cases x1
    cases x2
    have o0 := o0.one
    have k1 := h1
    replace h1 := AtF_slice.1 h1
    obtain ⟨v1, l1, rfl, rfl, w1, hv1⟩ := h1
    have o1 := (At_slice.1 (AtF.at _ k1))
    obtain ⟨_, _, x1, x2, _, o1⟩ := o1
    cases x1
    cases x2
    have o1 := o1.one
    simp only [cntP, cntPs_cons, cntPs_nil, Nat.add_zero] at hcnt
    obtain ⟨kk, hkk⟩ : ∃ kk, kk = k + cntPs (l.take i) := ⟨_, rfl⟩
    rw [← hkk] at r1
    obtain ⟨id0, off0, cells0, w0, K0, ev0, eg0, ei0, ek0, ew0, ea0, en0, es0, er0, et0⟩ := AtF.field [] g3 hn (i := i) (us1 := []) (u := (.lst l0)) (us2 := [(.lst l1)]) hx0 rfl rfl
    simp only [V.slc.injEq, Option.some.injEq, Prod.mk.injEq] at ev0
    obtain ⟨⟨rfl, rfl⟩, _⟩ := ev0
    simp only [shEntry, Sh.size_st, Sh.sizes_cons, Sh.sizes_nil, Sh.size_str, Sh.size_slice, Sh.size_int, Sh.size_bool, List.cons_append, List.nil_append, Nat.reduceAdd, Nat.add_zero] at eg0 ew0 et0 er0
    obtain ⟨G0, q0, ln0, fr0, ma0⟩ := mk_RdnS G [w0] _ K0 kk ea0 en0 (by simp only [cntPV, cntP]; omega)
    simp only [valC, List.headD_cons] at q0
    have ld0 := load1 eg0 ew0
    have A0 := er0 G0 (.lst (mkPs l0 kk)) (fun q _ hq => fr0 q hq) ma0
    have ln0 : G0.length = H.length := by rw [ln0]; first | exact g1 | exact ln-1
    have fr0 : ∀ q, q ∉ F → G0[q]? = H[q]? := fun q hq => by rw [fr0 q fun h => hq (es0 q h)]; first | exact g2 q hq | exact fr0 q hq
    obtain ⟨kk0, hkk0⟩ : ∃ n, n = kk + cntP (.lst l0) := ⟨_, rfl⟩
    rw [cntPV, ← hkk0] at q0
    simp only [cntP] at hkk0
    have hx0_ : (L.set i (.st [(.lst (mkPs l0 kk)), (.lst l1)]))[i]? = some (.st [(.lst (mkPs l0 kk)), (.lst l1)]) := List.getElem?_set_self (by omega)
    obtain ⟨id1, off1, cells1, w1, K1, ev1, eg1, ei1, ek1, ew1, ea1, en1, es1, er1, et1⟩ := AtF.field [(.slice shRdn)] A0 hn (i := i) (us1 := [(.lst (mkPs l0 kk))]) (u := (.lst l1)) (us2 := []) hx0_ rfl rfl
    simp only [V.slc.injEq, Option.some.injEq, Prod.mk.injEq] at ev1
    obtain ⟨⟨rfl, rfl⟩, _⟩ := ev1
    simp only [shEntry, Sh.size_st, Sh.sizes_cons, Sh.sizes_nil, Sh.size_str, Sh.size_slice, Sh.size_int, Sh.size_bool, List.cons_append, List.nil_append, Nat.reduceAdd, Nat.add_zero] at eg1 ew1 et1 er1
    obtain ⟨G1, q1, ln1, fr1, ma1⟩ := mk_AttrS G0 [w1] _ K1 kk0 ea1 en1 (by simp only [cntPV, cntP]; omega)
    simp only [valC, List.headD_cons] at q1
    have ld1 := load1 eg1 ew1
    have A1 := er1 G1 (.lst (mkPs l1 kk0)) (fun q _ hq => fr1 q hq) ma1
    have ln1 : G1.length = H.length := by rw [ln1]; first | exact g1 | exact ln0
    have fr1 : ∀ q, q ∉ F → G1[q]? = H[q]? := fun q hq => by rw [fr1 q fun h => hq (es1 q h)]; first | exact g2 q hq | exact fr0 q hq
    obtain ⟨kk1, hkk1⟩ : ∃ n, n = kk0 + cntP (.lst l1) := ⟨_, rfl⟩
    rw [cntPV, ← hkk1] at q1
    simp only [cntP] at hkk1
    rw [List.set_set] at A1
    have hx1_ : (L.set i (.st [(.lst (mkPs l0 kk)), (.lst (mkPs l1 kk0))]))[i]? = some (.st [(.lst (mkPs l0 kk)), (.lst (mkPs l1 kk0))]) := List.getElem?_set_self (by omega)
    have hks : k + cntPs (l.take (i + 1)) = kk1 := by omega
    rw [show L.set i (.st [(.lst (mkPs l0 kk)), (.lst (mkPs l1 kk0))]) = _ from (by simp only [hkk0, hkk1, hkk]; exact hmk)] at A1
    have hw : IntKind.i64.wrap ((i : Int) + 1) = ((i : Int) + 1) := wrap_i64 (by omega) (by omega)
    have hix : i + 1 ≤ l.length := hi
    simp [r0, r1, r5, hi, hw, q0, ld0, q1, ld1, -setRange]
    exact ⟨m, by omega, i + 1, by omega, _, _, ⟨rfl, rfl⟩, by simp [r0], by simp; omega, by simp, ln1, fr1, A1⟩
set_option maxRecDepth 10000 in
theorem held_EntryS : HeldFn 184 (.slice shEntry) := by
  intro H cs u k h hk
  obtain ⟨v, l', rfl, hu, hlen, hv⟩ := At_slice.1 h
  obtain ⟨l, rfl, rfl⟩ := mkV_lst hu
  apply Ret.eq
  rw [op184]
  simp only [cntV] at hk ⊢
  have hl64 : (mkPs l k).length ≤ 9223372036854775807 := hlen
  rw [mkPs_len] at hl64
  have hvl := fun {e s b : Nat} {z : List V} => hv.len (e := e) (s := s) (b := b) (z := z)
  simp only [mkPs_len] at hvl
  simp [code184, Tryz.f184, valC]
  refine WP_loop (fun m σ => ∃ (i kk : Nat) (r : Nat → R), i + m = l.length ∧ kk = k + cntPs (l.take i) ∧ σ = ⟨r, 0, H⟩ ∧ r 0 = .val v ∧ r 1 = .val (.int .i64 kk) ∧ r 5 = .val (.int .i64 i)) ?_ l.length _ ⟨0, k, _, by simp, by simp [cntPs], rfl, by simp, by simp, by simp⟩
  rintro m σ ⟨i, kk, r, him, hkk, rfl, r0, r1, r5⟩
  cases m with
  | zero =>
    have hi : i = l.length := by omega
    subst hi
    rw [List.take_length] at hkk
    simp [r0, r1, r5, hvl, hkk]
  | succ m =>
    have hi : i < l.length := by omega
    obtain ⟨x, hx⟩ : ∃ x, l[i]? = some x := ⟨l[i], by simp [hi]⟩
    obtain ⟨eid, o, own, cells, e1, e2, e3, e0⟩ := hv.idx (mkPs_get hx) (by decide)
    rw [← hkk] at e0
    have hcnt := cntPs_take hx
    have hle := cntPs_take_le (l := l) (i := i + 1)
    have hid : eid < H.length := (List.getElem?_eq_some_iff.1 e2).1
    have hw : IntKind.i64.wrap ((i : Int) + 1) = ((i : Int) + 1) := wrap_i64 (by omega) (by omega)
    obtain ⟨us0, hu0, E0⟩ := At_st.1 e0
    obtain ⟨us0, rfl, rfl⟩ := mkP_st hu0
    obtain ⟨c0, d0, u0, rr0, hc0, hu, h0, E1⟩ := Ats_cons.1 E0
    obtain ⟨u0, us0, rfl, rfl, rfl⟩ := mkPs_cons hu
    have k0 := h0
    obtain ⟨v0, l0, rfl, hs, _, _⟩ := At_slice.1 h0
    obtain ⟨m0, rfl, rfl⟩ := mkP_lst hs
    obtain ⟨kk1, hkk1⟩ : ∃ n, n = kk + cntP (.lst m0) := ⟨_, rfl⟩
    rw [← hkk1] at E1
    obtain ⟨c1, d1, u1, rr1, rfl, hu, h1, E2⟩ := Ats_cons.1 E1
    obtain ⟨u1, us0, rfl, rfl, rfl⟩ := mkPs_cons hu
    have k1 := h1
    obtain ⟨v1, l1, rfl, hs, _, _⟩ := At_slice.1 h1
    obtain ⟨m1, rfl, rfl⟩ := mkP_lst hs
    obtain ⟨kk2, hkk2⟩ : ∃ n, n = kk1 + cntP (.lst m1) := ⟨_, rfl⟩
    rw [← hkk2] at E2
    obtain ⟨rfl, hun⟩ := Ats_nil.1 E2
    obtain rfl := mkPs_nil hun
    simp only [List.cons_append, List.nil_append, List.append_nil] at hc0
    simp only [cntP_st, cntPs_cons, cntPs_nil, cntP_str, cntP_int, cntP_bool, Nat.add_zero] at hcnt hkk1 hkk2
    have ld0 := load1 e2 (by simpa using cells_get hc0 (j := 0) rfl)
    have q0 := held_RdnS H [v0] (.lst m0) kk k0 (by rw [cntPV]; omega)
    rw [cntPV, ← hkk1] at q0
    simp only [valC, List.headD_cons] at q0
    have p0 : ¬ ((kk1 : Int) < 0) := by omega
    have ld1 := load1 e2 (by simpa using cells_get hc0 (j := 1) rfl)
    have q1 := held_AttrS H [v1] (.lst m1) kk1 k1 (by rw [cntPV]; omega)
    rw [cntPV, ← hkk2] at q1
    simp only [valC, List.headD_cons] at q1
    have p1 : ¬ ((kk2 : Int) < 0) := by omega
    rw [show (shEntry).size = 2 from rfl] at e1
    simp [r0, r1, r5, hi, hvl, e1, hid, hw, ld0, q0, p0, ld1, q1, p1]
    exact ⟨m, by omega, i + 1, by omega, by omega, by omega⟩
end Go.Proofs.Try1
end

section
namespace Go.Proofs.Try1
open Go Go.Lite
set_option linter.unusedSimpArgs false
set_option linter.unusedVariables false
set_option maxRecDepth 10000 in
theorem mk_Tree : MkFn 57 shTree := by
  intro H cs u F k h hn hk
  replace h := AtF_st.1 h
  obtain ⟨us, rfl, h⟩ := h
  replace h := AtsF_cons.1 h
  obtain ⟨c0, d0, u0, rr0, F0, E0, rfl, rfl, rfl, h0, h⟩ := h
  replace h := AtsF_cons.1 h
  obtain ⟨c1, d1, u1, rr1, F1, E1, rfl, rfl, rfl, h1, h⟩ := h
  replace h := AtsF_nil.1 h
  obtain ⟨rfl, rfl, rfl⟩ := h
  have k0 := h0
  replace h0 := AtF_slice.1 h0
  obtain ⟨v0, l0, rfl, rfl, w0, hv0⟩ := h0
  have o0 := (At_slice.1 (AtF.at _ k0))
  obtain ⟨_, _, x1, x2, _, o0⟩ := o0
  cases x1
  cases x2
  have o0 := o0.one
  have k1 := h1
  replace h1 := AtF_slice.1 h1
  obtain ⟨v1, l1, rfl, rfl, w1, hv1⟩ := h1
  have o1 := (At_slice.1 (AtF.at _ k1))
  obtain ⟨_, _, x1, x2, _, o1⟩ := o1
  cases x1
  cases x2
  have o1 := o1.one
  simp only [cntV_st, cntVs_cons, cntVs_nil, cntV_str, cntV_int, cntV_bool, Nat.zero_add] at hk
  simp only [List.nil_append, List.append_nil] at hn
  have hn0 := hn
  obtain ⟨nd0, hn0, dj0⟩ := List.nodup_append.1 hn0
  have nd1 := hn0
  obtain ⟨H0, q0, len0, fr0, k0'⟩ := mk_ClassS H _ _ _ (k) k0 nd0 (by omega)
  simp only [valC, List.headD_cons, List.append_nil, List.cons_append, List.nil_append, Int.natCast_add] at q0
  have k1 := AtF.frame _ (H' := H0) (fun q hq2 => fr0 q (fun hq1 => dj0 q hq1 q hq2 rfl)) k1
  obtain ⟨H1, q1, len1, fr1, k1'⟩ := mk_EntryS H0 _ _ _ (k + cntV (.lst l0)) k1 nd1 (by omega)
  simp only [valC, List.headD_cons, List.append_nil, List.cons_append, List.nil_append, Int.natCast_add] at q1
  have k0' := AtF.frame _ (H' := H1) (fun q hq2 => fr1 q (fun hq1 => dj0 q hq2 q hq1 rfl)) k0'
  have hK : k + cntV (U.st [(.lst l0), (.lst l1)]) = k + cntV (.lst l0) + cntV (.lst l1) := by simp only [cntV_st, cntVs_cons, cntVs_nil, cntV_str, cntV_int, cntV_bool, Nat.zero_add]; omega
  have hA : AtF H1 shTree _ _ _ := AtF_st.2 ⟨_, rfl, AtsF_cons.2 ⟨[_], _, _, _, F0, _, rfl, rfl, rfl, k0', AtsF_cons.2 ⟨[_], _, _, _, F1, _, rfl, rfl, rfl, k1', AtsF_nil.2 ⟨rfl, rfl, rfl⟩⟩⟩⟩
  simp only [List.append_nil, List.nil_append, List.cons_append] at hA
  have hl : H1.length = H.length := by rw [len1, len0]
  have hfr : ∀ q, q ∉ F0 ++ (F1) → H1[q]? = H[q]? := by
    intro q hq
    try simp only [List.mem_append, not_or] at hq
    rw [fr1 q hq.2, fr0 q hq.1]
  apply Ret.mark
  rw [op57, hK]
  simp [code57, Tryz.f57, valC, gcH_len hl, q0, q1, o0, o1]
  exact ⟨hl, by simpa using hfr, hA⟩
set_option maxRecDepth 10000 in
theorem held_Tree : HeldFn 183 shTree := by
  intro H cs u k h hk
  obtain ⟨us, hu, h⟩ := At_st.1 h
  obtain ⟨us, rfl, rfl⟩ := mkV_st hu
  obtain ⟨c0, d0, u0, r0, rfl, hu, h0, h⟩ := Ats_cons.1 h
  obtain ⟨u0, us, rfl, rfl, rfl⟩ := mkVs_cons hu
  obtain ⟨c1, d1, u1, r1, rfl, hu, h1, h⟩ := Ats_cons.1 h
  obtain ⟨u1, us, rfl, rfl, rfl⟩ := mkVs_cons hu
  obtain ⟨rfl, hu⟩ := Ats_nil.1 h
  obtain rfl := mkVs_nil hu
  have k0 := h0
  obtain ⟨v0, l0, rfl, hu, _, hv0⟩ := At_slice.1 h0
  have o0 := hv0.one
  obtain ⟨m0, rfl, rfl⟩ := mkV_lst hu
  have k1 := h1
  obtain ⟨v1, l1, rfl, hu, _, hv1⟩ := At_slice.1 h1
  have o1 := hv1.one
  obtain ⟨m1, rfl, rfl⟩ := mkV_lst hu
  simp only [cntV_st, cntVs_cons, cntVs_nil, cntV_str, cntV_int, cntV_bool, Nat.zero_add, Nat.add_zero] at *
  have q0 := held_ClassS H _ _ (k) k0 (by omega)
  simp only [valC, List.headD_cons, List.append_nil, List.cons_append, List.nil_append, Int.natCast_add] at q0
  have p0 : ¬ (((k + cntV (.lst m0) : Nat) : Int) < 0) := by omega
  simp only [Int.natCast_add] at p0
  have q1 := held_EntryS H _ _ (k + cntV (.lst m0)) k1 (by omega)
  simp only [valC, List.headD_cons, List.append_nil, List.cons_append, List.nil_append, Int.natCast_add] at q1
  have p1 : ¬ (((k + cntV (.lst m0) + cntV (.lst m1) : Nat) : Int) < 0) := by omega
  simp only [Int.natCast_add] at p1
  have hK : k + (cntV (.lst m0) + (cntV (.lst m1))) = k + cntV (.lst m0) + cntV (.lst m1) := by omega
  rw [hK]
  apply Ret.eq
  rw [op183]
  simp [code183, Tryz.f183, valC, q0, p0, q1, p1, o0, o1]
end Go.Proofs.Try1
end

section
namespace Go.Proofs.Try1
open Go Go.Lite
set_option linter.unusedSimpArgs false
set_option linter.unusedVariables false

set_option maxRecDepth 20000 in
set_option maxHeartbeats 40000000 in
theorem ret_FnExactTreeGet {H : List Ob} {c0 : List V} {u0 : U} {c1 : List V} {u1 : U}  {uR : U} (h0 : At H shTree c0 u0) (h1 : At H (.slice shRdn) c1 u1)
    (hS : ∀ (G : List Ob) (x0 x1 : List V), At G shTree x0 u0 → At G (.slice shRdn) x1 u1 → ∃ G' y, callW C 53 [valC shTree x0, valC (.slice shRdn) x1] G = some (valC shEntryOut y, G') ∧ Le G G' ∧ At G' shEntryOut y uR)
    (hI : ∀ (G : List Ob) (x0 x1 : List V), At G shTree x0 u0 → At G (.slice shRdn) x1 u1 → ∃ G' y, callW C 55 [valC shTree x0, valC (.slice shRdn) x1] G = some (valC shEntryOut y, G') ∧ Le G G' ∧ New G.length G'.length G' shEntryOut y uR)
    (hR : 1 + cntV uR ≤ 50000000) : Ret C 7 [valC shTree c0, valC (.slice shRdn) c1] H fun r _ => r = .bool true := by
  rw [op7]
  obtain ⟨c0_0, c0_1, rfl⟩ := list2 (At.len _ h0 : _ = 2)
  have on0 := ones_all h0
  simp only [List.mem_cons, List.not_mem_nil, or_false, forall_eq_or_imp, forall_eq] at on0
  obtain ⟨c1_0, rfl⟩ := list1 (At.len _ h1 : _ = 1)
  have on1 := ones_all h1
  simp only [List.mem_cons, List.not_mem_nil, or_false, forall_eq_or_imp, forall_eq] at on1
  simp only [valC, List.headD_cons]
  have b0 := sz_Tree H [c0_0, c0_1] _ (1048576) h0 (by omega)
  simp only [valC, List.headD_cons] at b0
  by_cases g0 : wt u0 ≤ 1048576
  rotate_left
  · rw [if_neg g0] at b0
    simp at b0
    simp [code7, Tryz.f7, on0, on1, b0]
  rw [if_pos g0] at b0
  have hw0 : wt u0 ≤ 1048576 := by omega
  have p0 : ¬ (((1048576 - wt u0 : Nat) : Int) < 0) := by omega
  obtain ⟨LL0, hLL0⟩ : ∃ n, n = 1048576 - wt u0 := ⟨_, rfl⟩
  rw [← hLL0] at b0 p0
  have q0 : LL0 + wt u0 = 1048576 := by omega
  have b1 := sz_RdnS H [c1_0] _ (LL0) h1 (by omega)
  simp only [valC, List.headD_cons] at b1
  by_cases g1 : wt u1 ≤ LL0
  rotate_left
  · rw [if_neg g1] at b1
    simp at b0 b1
    simp [code7, Tryz.f7, on0, on1, b0, p0, b1]
  rw [if_pos g1] at b1
  have hw1 : wt u1 ≤ 1048576 := by omega
  have p1 : ¬ (((LL0 - wt u1 : Nat) : Int) < 0) := by omega
  obtain ⟨LL1, hLL1⟩ : ∃ n, n = LL0 - wt u1 := ⟨_, rfl⟩
  rw [← hLL1] at b1 p1
  have q1 : LL1 + wt u1 = LL0 := by omega
  have L0 : Le H H := Le.refl
  obtain ⟨G1, y0, k1, s1, n1⟩ := toN to_Tree (h0.Le L0) hw0
  have l1 := s1.len
  have L1 := L0.trans s1
  obtain ⟨y0_0, y0_1, rfl⟩ := list2 (At.len _ n1.at : _ = 2)
  have o1 := ones_all n1.at
  simp only [List.mem_cons, List.not_mem_nil, or_false, forall_eq_or_imp, forall_eq] at o1
  simp only [valC, List.headD_cons] at k1
  obtain ⟨G2, y1, k2, s2, n2⟩ := toN to_RdnS (h1.Le L1) hw1
  have l2 := s2.len
  have L2 := L1.trans s2
  obtain ⟨y1_0, rfl⟩ := list1 (At.len _ n2.at : _ = 1)
  have o2 := ones_all n2.at
  simp only [List.mem_cons, List.not_mem_nil, or_false, forall_eq_or_imp, forall_eq] at o2
  simp only [valC, List.headD_cons] at k2
  obtain ⟨G3, w, k3, s3, n3⟩ := hS _ [y0_0, y0_1] [y1_0] (n1.at.Le s2) (n2.at.Le Le.refl)
  have l3 := s3.len
  have L3 := L2.trans s3
  obtain ⟨w_0, w_1, w_2, rfl⟩ := list3 (At.len _ n3 : _ = 3)
  have o3 := ones_all n3
  simp only [List.mem_cons, List.not_mem_nil, or_false, forall_eq_or_imp, forall_eq] at o3
  simp only [valC, List.headD_cons] at k3
  obtain ⟨G4, z0, k4, s4, n4⟩ := toN to_Tree (h0.Le L3) hw0
  have l4 := s4.len
  have L4 := L3.trans s4
  obtain ⟨z0_0, z0_1, rfl⟩ := list2 (At.len _ n4.at : _ = 2)
  have o4 := ones_all n4.at
  simp only [List.mem_cons, List.not_mem_nil, or_false, forall_eq_or_imp, forall_eq] at o4
  simp only [valC, List.headD_cons] at k4
  obtain ⟨G5, z1, k5, s5, n5⟩ := toN to_RdnS (h1.Le L4) hw1
  have l5 := s5.len
  have L5 := L4.trans s5
  obtain ⟨z1_0, rfl⟩ := list1 (At.len _ n5.at : _ = 1)
  have o5 := ones_all n5.at
  simp only [List.mem_cons, List.not_mem_nil, or_false, forall_eq_or_imp, forall_eq] at o5
  simp only [valC, List.headD_cons] at k5
  obtain ⟨G6, g, k6, s6, n6⟩ := hI _ [z0_0, z0_1] [z1_0] (n4.at.Le s5) (n5.at.Le Le.refl)
  have l6 := s6.len
  have L6 := L5.trans s6
  obtain ⟨g_0, g_1, g_2, rfl⟩ := list3 (At.len _ n6.at : _ = 3)
  have o6 := ones_all n6.at
  simp only [List.mem_cons, List.not_mem_nil, or_false, forall_eq_or_imp, forall_eq] at o6
  simp only [valC, List.headD_cons] at k6
  have k7 := eqN eq_EntryOut n6.at (n3.Le (Le.trans (Le.trans s4 s5) s6))
  simp only [valC, List.headD_cons] at k7
  obtain ⟨G7, v0, k8, s7, n7⟩ := toN to_Tree (h0.Le L6) hw0
  have l7 := s7.len
  have L7 := L6.trans s7
  obtain ⟨v0_0, v0_1, rfl⟩ := list2 (At.len _ n7.at : _ = 2)
  have o7 := ones_all n7.at
  simp only [List.mem_cons, List.not_mem_nil, or_false, forall_eq_or_imp, forall_eq] at o7
  simp only [valC, List.headD_cons] at k8
  have k9 := eqN eq_Tree (n4.at.Le (Le.trans (Le.trans s5 s6) s7)) n7.at
  simp only [valC, List.headD_cons] at k9
  obtain ⟨G8, v1, k10, s8, n8⟩ := toN to_RdnS (h1.Le L7) hw1
  have l8 := s8.len
  have L8 := L7.trans s8
  obtain ⟨v1_0, rfl⟩ := list1 (At.len _ n8.at : _ = 1)
  have o8 := ones_all n8.at
  simp only [List.mem_cons, List.not_mem_nil, or_false, forall_eq_or_imp, forall_eq] at o8
  simp only [valC, List.headD_cons] at k10
  have k11 := eqN eq_RdnS (n5.at.Le (Le.trans (Le.trans s6 s7) s8)) n8.at
  simp only [valC, List.headD_cons] at k11
  have hsum : wt u0 + wt u1 ≤ 1048576 := by omega
  have cb0 := cntV_bound h0 40 (by decide)
  have cb1 := cntV_bound h1 40 (by decide)
  have m4 := n4.Le (Le.trans (Le.trans (Le.trans s5 s6) s7) s8)
  have m5 := n5.Le (Le.trans (Le.trans s6 s7) s8)
  have mR := n6.Le (Le.trans s7 s8)
  obtain ⟨M0, k12, ml0, mf0, mn0⟩ := mkN (k := 1) mk_Tree m4 (by omega)
  simp only [valC, List.headD_cons] at k12
  have m5 := New.frame (G' := M0) m5 (fun q h1 h2 => mf0 q (by omega))
  have mR := New.frame (G' := M0) mR (fun q h1 h2 => mf0 q (by omega))
  obtain ⟨K0, hK0⟩ : ∃ n, n = 1 + cntV u0 := ⟨_, rfl⟩
  rw [← hK0] at k12
  obtain ⟨M1, k13, ml1, mf1, mn1⟩ := mkN (k := K0) mk_RdnS m5 (by omega)
  simp only [valC, List.headD_cons] at k13
  have mR := New.frame (G' := M1) mR (fun q h1 h2 => mf1 q (by omega))
  obtain ⟨K1, hK1⟩ : ∃ n, n = K0 + cntV u1 := ⟨_, rfl⟩
  rw [← hK1] at k13
  have hKb : K1 ≤ 50000000 := by omega
  have pK : ¬ ((K1 : Int) < 0) := by omega
  have upS : Up G3 M1 := fun q o hq => by
    have hql := (List.getElem?_eq_some_iff.1 hq).1
    rw [mf1 q (.inl (by omega)), mf0 q (.inl (by omega))]
    exact ((Le.trans (Le.trans (Le.trans (Le.trans s4 s5) s6) s7) s8) : Le _ _).up q o hq
  have k14 := eqN eq_EntryOut mR.at (n3.Up upS)
  simp only [valC, List.headD_cons] at k14
  obtain ⟨Q, k15, ql, qf, qn⟩ := mkN (k := 1) mk_EntryOut mR hR
  simp only [valC, List.headD_cons] at k15
  have upQ : Up G3 Q := fun q o hq => by
    have hql := (List.getElem?_eq_some_iff.1 hq).1
    rw [qf q (.inl (by omega))]
    exact upS q o hq
  have upH : Up H Q := L3.up.trans upQ
  have k16 := held_EntryOut Q [g_0, g_1, g_2] _ 1 qn.at hR
  simp only [valC, List.headD_cons] at k16
  have R0 : Le Q Q := Le.refl
  have L9 := R0
  obtain ⟨G10, zz0, k17, s10, n10⟩ := toN to_Tree ((h0.Up upH).Le L9) hw0
  have l10 := s10.len
  have L10 := L9.trans s10
  obtain ⟨zz0_0, zz0_1, rfl⟩ := list2 (At.len _ n10.at : _ = 2)
  have o10 := ones_all n10.at
  simp only [List.mem_cons, List.not_mem_nil, or_false, forall_eq_or_imp, forall_eq] at o10
  simp only [valC, List.headD_cons] at k17
  obtain ⟨G11, zz1, k18, s11, n11⟩ := toN to_RdnS ((h1.Up upH).Le L10) hw1
  have l11 := s11.len
  have L11 := L10.trans s11
  obtain ⟨zz1_0, rfl⟩ := list1 (At.len _ n11.at : _ = 1)
  have o11 := ones_all n11.at
  simp only [List.mem_cons, List.not_mem_nil, or_false, forall_eq_or_imp, forall_eq] at o11
  simp only [valC, List.headD_cons] at k18
  obtain ⟨G12, gg, k19, s12, n12⟩ := hI _ [zz0_0, zz0_1] [zz1_0] (n10.at.Le s11) (n11.at.Le Le.refl)
  have l12 := s12.len
  have L12 := L11.trans s12
  obtain ⟨gg_0, gg_1, gg_2, rfl⟩ := list3 (At.len _ n12.at : _ = 3)
  have o12 := ones_all n12.at
  simp only [List.mem_cons, List.not_mem_nil, or_false, forall_eq_or_imp, forall_eq] at o12
  simp only [valC, List.headD_cons] at k19
  have k20 := eqN eq_EntryOut n12.at ((n3.Up upQ).Le L12)
  simp only [valC, List.headD_cons] at k20
  have k21 := held_EntryOut G12 [g_0, g_1, g_2] _ 1 (qn.at.Le L12) hR
  simp only [valC, List.headD_cons] at k21
  obtain ⟨KR, hKR⟩ : ∃ n, n = 1 + cntV uR := ⟨_, rfl⟩
  rw [← hKR] at k15
  rw [← hKR] at k16
  rw [← hKR] at k21
  have pR : ¬ ((KR : Int) < 0) := by omega
  clear upS upQ upH
  simp at b0 k12 k15 k16 k21
  simp [code7, Tryz.f7, on0, on1, b0, p0, b1, p1, k1, o1, k2, o2, k3, o3, k4, o4, k5, o5, k6, o6, k7, k8, o7, k9, k10, o8, k11, k12, k13, pK, k14, k15, k16, k17, o10, k18, o11, k19, o12, k20, k21, pR, regionL_some, List.lookup]
end Go.Proofs.Try1
end

section
namespace Go.Proofs.Try1
open Go Go.Lite
set_option linter.unusedSimpArgs false
set_option linter.unusedVariables false

theorem cntPs_map {α : Type} {f : α → U} {l : List α} {k : Nat} (h : ∀ x ∈ l, cntP (f x) ≤ k) : cntPs (l.map f) ≤ l.length * k := by
  induction l with
  | nil => simp [cntPs]
  | cons x l ih =>
    have h1 := h x List.mem_cons_self
    have h2 := ih fun y hy => h y (List.mem_cons_of_mem _ hy)
    simp only [List.map_cons, cntPs, List.length_cons, Nat.add_mul]
    omega

theorem cnt_ill (c : Int) : cntV (illE c).u ≤ 1000000 := by simp [illE, PEntryOut.u, PEntry.u, cntV, cntVs, cntPs]
theorem cnt_entry {e : PEntry} (h : EntryOk e) (c : Int) : cntV (PEntryOut.u ⟨e, c⟩) ≤ 1000000 := by
  obtain ⟨_, hd, ha⟩ := h
  have hrd : ∀ x : PRdn, cntP x.u ≤ 2 := fun x => by simp [PRdn.u, cntP, cntPs]
  have hat : ∀ a : PAttr, a.vals.length ≤ 4 → cntP a.u ≤ 5 := fun a h => by
    have := cntPs_map (f := strU) (l := a.vals) (k := 1) fun x _ => by simp [strU, cntP]
    simp only [PAttr.u, cntP, cntPs]
    omega
  have h1 := cntPs_map (l := e.dn) fun x _ => hrd x
  have h2 : cntPs (e.attrs.map PAttr.u) ≤ e.attrs.length * 5 := cntPs_map fun a h => by
    obtain ⟨j, hj, rfl⟩ := List.getElem_of_mem h
    exact hat _ (ha.1 j _ (List.getElem?_eq_getElem hj)).2.2.2.2
  have := ha.2
  have := hd.2
  simp only [PEntryOut.u, PEntry.u, cntV, cntVs]
  omega

theorem cnt_treeGet {t : PTree} {dn : List PRdn} : cntV (treeGetOf t dn).u ≤ 1000000 := by
  unfold treeGetOf
  split
  · exact cnt_ill 2
  split
  case isFalse => exact cnt_ill 1
  rename_i hok
  obtain ⟨ht, _⟩ := dec_true.1 hok
  split
  · rename_i e he
    exact cnt_entry (TreeOk.dns ht e (List.mem_of_find?_eq_some he)) 0
  · exact cnt_ill 6

/-- The law: for all arguments the call says 'true'. -/
theorem lawTreeGet {H : List Ob} {vs : List V} {xs : List D} (h : IsArgs H [shTree, .slice shRdn] vs xs) : ∃ H', callW C 7 vs H = some (.bool true, H') := by
  rcases vs with _ | ⟨v1, _ | ⟨v2, _ | ⟨v3, vs⟩⟩⟩ <;> rcases xs with _ | ⟨d1, _ | ⟨d2, _ | ⟨d3, xs⟩⟩⟩ <;> first | (exfalso; simp [IsArgs] at h; done) | skip
  obtain ⟨⟨cs1, e1, l1, i1⟩, ⟨cs2, e2, l2, i2⟩, _⟩ := h
  subst e1; subst e2
  have h1 := Is.at _ i1
  obtain ⟨t, ht⟩ := tree_typed h1
  rw [ht] at h1
  have h2 := Is.at _ i2
  obtain ⟨v, l, rfl, hl, _⟩ := ASl.typed (f := PRdn.u) (fun _ _ => rdn_typed) h2
  rw [hl] at h2
  have key := ret_FnExactTreeGet (uR := (treeGetOf t l).u) h1 h2
    (fun G x0 x1 a0 a1 => by
      obtain ⟨w1, w2, rfl, b1, b2⟩ := tree_at.1 a0
      obtain ⟨y, rfl⟩ := list1 (At.len _ a1 : _ = 1)
      obtain ⟨q, G', hc, T, y1, y2, rfl, rfl, hat⟩ := s_TreeGet b1 b2 (dn := l) a1
      exact ⟨_, [y1, y2, .int .i64 (treeGetOf t l).code], hc, .app, hat.at⟩)
    (fun G x0 x1 a0 a1 => by
      obtain ⟨w1, w2, rfl, b1, b2⟩ := tree_at.1 a0
      obtain ⟨y, rfl⟩ := list1 (At.len _ a1 : _ = 1)
      obtain ⟨q, G', hc, T, y1, y2, rfl, rfl, hat⟩ := i_TreeGet b1 b2 (dn := l) a1
      exact ⟨_, [y1, y2, .int .i64 (treeGetOf t l).code], hc, .app, hat⟩)
    (by have := cnt_treeGet (t := t) (dn := l); omega)
  obtain ⟨r, H', hc, rfl⟩ := key
  exact ⟨H', hc⟩
end Go.Proofs.Try1
end
