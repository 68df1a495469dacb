/- The interpreter: a row's arguments and its law. Conditions: none but those that each theorem names. -/
import Derived.Test.YtecdehhdbbckoaaGreatDoorLiteC
import Derived.Deep.Slices
import Derived.ChangeArms
import Derived.ReadAgain
import Derived.ChangeSame
import Derived.Below

namespace Go.Lite
open Go
set_option linter.unusedSimpArgs false
set_option linter.unusedVariables false

/-- Shapes of plain data. -/
inductive Sh where
  | int (k : IntKind)
  | bool
  | str
  | slice (e : Sh)
  | st (fs : List Sh)

mutual
def Sh.size : Sh → Nat
  | .st fs => Sh.sizes fs
  | _ => 1
def Sh.sizes : List Sh → Nat
  | [] => 0
  | f :: fs => f.size + Sh.sizes fs
end

/-- Plain data. -/
inductive D where
  | int (n : Int)
  | bool (b : Bool)
  | str (s : List UInt8)
  | nil
  | lst (l : List D)
  | st (l : List D)

mutual
/-- The cells are this datum. -/
def Is (H : List Ob) : Sh → List V → D → Prop
  | .int k, [.int k' n], .int m => k' = k ∧ n = m ∧ (Lit.int k n).wf = true
  | .bool, [.bool b], .bool c => b = c
  | .str, [.str s], .str r => s = r ∧ s.length ≤ maxLen
  | .slice e, [.slc none n], .nil => n = 0
  | .slice e, [.slc (some (id, off)) n], .lst l => l.length = n ∧ n ≤ maxLen ∧ ∃ own cells, H[id]? = some (.mk own e.size cells) ∧ off + n * e.size ≤ cells.length ∧
      ∀ i d, l[i]? = some d → Is H e ((cells.drop (off + i * e.size)).take e.size) d
  | .st fs, vs, .st ds => IsAll H fs vs ds
  | _, _, _ => False
def IsAll (H : List Ob) : List Sh → List V → List D → Prop
  | [], vs, ds => vs = [] ∧ ds = []
  | f :: fs, vs, d :: ds => Is H f (vs.take f.size) d ∧ IsAll H fs (vs.drop f.size) ds
  | _ :: _, _, [] => False
end

mutual
/-- The reading as plain data. -/
def toD {H : Type} : DataW H → D
  | .lit (.int _ n) => .int n
  | .lit (.bool b) => .bool b
  | .lit (.string s) => .str s
  | .slice elems _ => .lst (toDs elems)
  | .agg parts => .st (toDs parts)
  | _ => .nil
def toDs {H : Type} : List (DataW H) → List D
  | [] => []
  | d :: ds => toD d :: toDs ds
end

theorem toDs_map {H : Type} : ∀ (l : List (DataW H)), toDs l = l.map toD
  | [] => rfl
  | d :: ds => by simp only [toDs, List.map_cons, toDs_map ds]

/-- A type's shape. -/
def shFields (P : Program) (g : Nat → Option Sh) : List Field → Nat → Option (List Sh)
  | [], _ => some []
  | f :: fs, o => match g f.type with
    | some s => if f.offset = o ∧ P.cellsOf f.type = s.size then (match shFields P g fs (o + s.size) with
        | some ss => some (s :: ss)
        | none => none) else none
    | none => none

def shOf (P : Program) : Nat → Nat → Option Sh
  | 0, _ => none
  | n + 1, t => match P.underlying t with
    | some (.int k) => some (.int k)
    | some .bool => some .bool
    | some .string => some .str
    | some (.slice e) => match shOf P n e with
      | some s => if P.cellsOf e = s.size ∧ 0 < s.size then some (.slice s) else none
      | none => none
    | some (.struct fs) => match shFields P (shOf P n) fs.toList 0 with
      | some ss => if P.cellsOf t = Sh.sizes ss then some (.st ss) else none
      | none => none
    | _ => none

mutual
theorem Is.ext {H T : List Ob} : ∀ (sh : Sh) (vs : List V) (d : D), Is H sh vs d → Is (H ++ T) sh vs d
  | .int k, vs, d, h => by
    unfold Is at h ⊢
    split at h <;> first | exact h | (exfalso; exact h) | skip
    all_goals simp_all
  | .bool, vs, d, h => by
    unfold Is at h ⊢
    split at h <;> first | exact h | (exfalso; exact h) | skip
    all_goals simp_all
  | .str, vs, d, h => by
    unfold Is at h ⊢
    split at h <;> first | exact h | (exfalso; exact h) | skip
    all_goals simp_all
  | .slice e, vs, d, h => by
    match vs, d, h with
    | [.slc none n], .nil, h => simpa only [Is] using h
    | [.slc (some (id, off)) n], .lst l, h =>
      simp only [Is] at h ⊢
      obtain ⟨h1, h0, own, cells, h2, h3, h4⟩ := h
      exact ⟨h1, h0, own, cells, by rw [List.getElem?_append_left (List.getElem?_eq_some_iff.1 h2).1]; exact h2, h3, fun i d hd => Is.ext e _ _ (h4 i d hd)⟩
  | .st fs, vs, d, h => by
    match d, h with
    | .st ds, h =>
      simp only [Is] at h ⊢
      exact IsAll.ext fs vs ds h
theorem IsAll.ext {H T : List Ob} : ∀ (fs : List Sh) (vs : List V) (ds : List D), IsAll H fs vs ds → IsAll (H ++ T) fs vs ds
  | [], vs, ds, h => by simpa only [IsAll] using h
  | f :: fs, vs, d :: ds, h => by
    simp only [IsAll] at h ⊢
    exact ⟨Is.ext f _ _ h.1, IsAll.ext fs _ _ h.2⟩
  | _ :: _, _, [], h => by simp only [IsAll] at h
end

/-- No object may be written. -/
def NoOwn (H : List Ob) : Prop := ∀ o ∈ H, owned o = false

section
variable {P : Program} {μ : Mu} {w : World} {H : List Ob}

/-- One more object, that may not be written. -/
theorem HSim.addRO (hs : HSim H μ w) (hn : NoOwn H) {m : Mp} {es : Nat} {cells : List V} (hm : m.own = false) (he : m.es = es) (hl : m.len = cells.length) (hc : CellsAt μ w m.blk m.base cells) (hb : m.blk < w.heap.size) :
    HSim (H ++ [.mk false es cells]) (μ.add H.length m) w where
  dom id m' h := by
    by_cases hi : id = H.length
    · subst hi; simp
    · rw [Mu.add_ne _ _ hi] at h
      have := hs.dom id m' h
      simp; omega
  map id o h hlive := by
    rcases push_cases' id o h with ⟨rfl, rfl⟩ | ⟨hne, h1⟩
    · exact ⟨m, Mu.add_self _ _ _⟩
    · obtain ⟨m', h2⟩ := hs.map id o h1 hlive
      exact ⟨m', by rw [Mu.add_ne _ _ hne]; exact h2⟩
  obj id o m' h1 h2 := by
    have hle : μ.le (μ.add H.length m) := Mu.le_add _ hs.fresh
    rcases push_cases' id o h1 with ⟨rfl, rfl⟩ | ⟨hne, h3⟩
    · rw [Mu.add_self] at h2; cases h2
      exact ⟨hm.symm, he.symm, hl.symm, hc.le hle, hb, fun h => by cases h⟩
    · rw [Mu.add_ne _ _ hne] at h2
      exact (hs.obj id o m' h3 h2).le hle
  sep id id' o o' m1 m2 hne h1 h2 h3 h4 ho hl' := by
    exfalso
    have : o ∈ H ++ [.mk false es cells] := List.mem_of_getElem? h1
    rcases List.mem_append.1 this with h5 | h5
    · rw [hn o h5] at ho; cases ho
    · rw [List.mem_singleton.1 h5] at ho; cases ho

theorem NoOwn.add (hn : NoOwn H) {es : Nat} {cells : List V} : NoOwn (H ++ [.mk false es cells]) := fun o ho => by
  rcases List.mem_append.1 ho with h | h
  · exact hn o h
  · rw [List.mem_singleton.1 h]; rfl

theorem VL.cellsAt {b o : Nat} {vs : List V} {us : List Value} (h : VL μ vs us) (hc : ∀ j, j < us.length → w.cell? ⟨b, o + j, none⟩ = us[j]?) : CellsAt μ w b o vs := by
  intro j v hj
  have hlt : j < us.length := by rw [← VL.length h]; exact (List.getElem?_eq_some_iff.1 hj).1
  exact ⟨us[j], by rw [hc j hlt]; simp [hlt], VL.get h j v _ hj (by simp [hlt])⟩

/-- What is opened: more objects, the cells, and what they are. -/
def Opens (P : Program) (w : World) (sh : Sh) (cs : List Value) (x : D) : Prop :=
  ∀ (H : List Ob) (μ : Mu), HSim H μ w → NoOwn H → ∃ (T : List Ob) (μ' : Mu) (vs : List V), HSim (H ++ T) μ' w ∧ NoOwn (H ++ T) ∧ μ.le μ' ∧ VL μ' vs cs ∧ vs.length = sh.size ∧ Is (H ++ T) sh vs x

theorem opens_elems (hpos : 0 < w.heap.size) {e : Sh} {Dd : Nat → D} {cs : Nat → List Value} : ∀ (k : Nat), (∀ i, i < k → Opens P w e (cs i) (Dd i)) →
    ∀ (H : List Ob) (μ : Mu), HSim H μ w → NoOwn H → ∃ (T : List Ob) (μ' : Mu) (vs : List V), HSim (H ++ T) μ' w ∧ NoOwn (H ++ T) ∧ μ.le μ' ∧ VL μ' vs ((List.range k).flatMap cs) ∧ vs.length = k * e.size ∧
      ∀ i, i < k → Is (H ++ T) e ((vs.drop (i * e.size)).take e.size) (Dd i)
  | 0, _, H, μ, hs, hn => ⟨[], μ, [], by simpa using hs, by simpa using hn, μ.le_refl, by simpa using VL.nil, by simp, fun i hi => by omega⟩
  | k + 1, hk, H, μ, hs, hn => by
    obtain ⟨T, μ1, vs, h1, h2, h3, h4, h5, h6⟩ := opens_elems hpos k (fun i hi => hk i (by omega)) H μ hs hn
    obtain ⟨T', μ2, vs', g1, g2, g3, g4, g5, g6⟩ := hk k (by omega) (H ++ T) μ1 h1 h2
    refine ⟨T ++ T', μ2, vs ++ vs', by rw [← List.append_assoc]; exact g1, by rw [← List.append_assoc]; exact g2, Mu.le_trans h3 g3, ?_, by simp [h5, g5, Nat.succ_mul], ?_⟩
    · rw [List.range_succ, List.flatMap_append]
      exact (h4.le g3).append (by simpa using g4)
    · intro i hi
      rw [← List.append_assoc]
      by_cases hik : i = k
      · subst hik
        rw [List.drop_append_of_le_length (by omega)] at *
        have : List.drop (i * e.size) vs = [] := List.drop_eq_nil_of_le (by omega)
        rw [this, List.nil_append, List.take_of_length_le (by omega)]
        exact g6
      · have hlt : i < k := by omega
        have hle : (i + 1) * e.size ≤ k * e.size := Nat.mul_le_mul_right _ (by omega)
        rw [Nat.succ_mul] at hle
        rw [List.drop_append_of_le_length (by omega), List.take_append_of_le_length (by simp; omega)]
        exact Is.ext e _ _ (h6 i hlt)

theorem shFields_ge {g : Nat → Option Sh} : ∀ (fs : List Field) (o : Nat) (ss : List Sh), shFields P g fs o = some ss → ∀ f ∈ fs, o ≤ f.offset
  | [], _, _, _, f, hf => by cases hf
  | f0 :: fs, o, ss, h, f, hf => by
    simp only [shFields] at h
    split at h
    · split at h
      · rename_i s _ hc
        split at h
        · rename_i ss' hss'
          rcases List.mem_cons.1 hf with rfl | hf
          · exact Nat.le_of_eq hc.1.symm
          · exact Nat.le_trans (Nat.le_add_right _ _) (shFields_ge fs _ ss' hss' f hf)
        · cases h
      · cases h
    · cases h

variable {E : Type} {enc : TypeId × Value → E}

theorem open_is (hpos : 0 < w.heap.size) : ∀ (n : Nat) (t : Nat) (sh : Sh), shOf P n t = some sh → ∀ (fuel : Nat) (cs : List Value) (x : DataW E × List MemPlace),
    DataW.trod enc P w 0 (fun _ => true) true fuel t cs = some x → Opens P w sh cs (toD x.1)
  | 0, t, sh, h => by cases h
  | n + 1, t, sh, h => by
    intro fuel cs x hx H μ hs hn
    simp only [shOf] at h
    split at h
    · rename_i k hu
      cases h
      obtain ⟨m, rfl, rfl, hw⟩ := DataW.trod_int hu hx
      exact ⟨[], μ, [.int k m], by simpa using hs, by simpa using hn, μ.le_refl, .cons (.int k m) .nil, rfl, by simp only [toD, Is]; exact ⟨trivial, trivial, hw⟩⟩
    · rename_i hu
      cases h
      obtain ⟨b, rfl, rfl⟩ := DataW.trod_bool hu hx
      exact ⟨[], μ, [.bool b], by simpa using hs, by simpa using hn, μ.le_refl, .cons (.bool b) .nil, rfl, by simp only [toD, Is]⟩
    · rename_i hu
      cases h
      obtain ⟨s, rfl, rfl, hm⟩ := DataW.trod_string hu hx
      exact ⟨[], μ, [.str s.data.toList], by simpa using hs, by simpa using hn, μ.le_refl, .cons (.str s) .nil, rfl, by simp only [toD, Is]; exact ⟨trivial, by simpa using hm⟩⟩
    · rename_i e hu
      split at h
      · rename_i s hse
        split at h
        · rename_i hc
          cases h
          rcases Deep.open_slice hu hx with ⟨rfl, rfl⟩ | ⟨a, len, cap, m, n', Dd, Pl, rfl, _, hle, hcap, hm, rfl, hel⟩
          · exact ⟨[], μ, [.slc none 0], by simpa using hs, by simpa using hn, μ.le_refl, .cons .slcN .nil, rfl, by simp only [toD, Is]⟩
          · simp only [if_true] at hm
            subst hm
            obtain ⟨cs, hcs⟩ : ∃ cs : Nat → List Value, ∀ i, i < m → w.cells? 0 (a.add (i * P.cellsOf e)) (P.cellsOf e) = some (cs i) ∧ DataW.trod enc P w 0 (fun _ => true) true n' e (cs i) = some (Dd i, Pl i) := by
              refine ⟨fun i => if hi : i < m then (hel i hi).choose else [], fun i hi => ?_⟩
              simp only [hi, dif_pos]
              exact (hel i hi).choose_spec
            obtain ⟨T, μ1, vs, h1, h2, h3, h4, h5, h6⟩ := opens_elems hpos (e := s) (Dd := fun i => toD (Dd i)) (cs := cs) len
              (fun i hi => open_is hpos n e s hse n' (cs i) (Dd i, Pl i) (hcs i (by omega)).2) H μ hs hn
            have hcell : ∀ i, i < m → ∀ j, j < s.size → w.cell? ((a.add (i * s.size)).add j) = (cs i)[j]? ∧ (cs i).length = s.size := fun i hi j hj => by
              obtain ⟨_, k2, k3⟩ := World.cells?_some (hcs i hi).1
              rw [hc.1] at k2 k3
              exact ⟨k3 j hj, k2⟩
            have hsz : s.size ≠ 0 := by omega
            -- the slice's own object
            by_cases hm0 : m = 0
            · subst hm0
              have hl0 : len = 0 := by omega
              subst hl0
              refine ⟨T ++ [.mk false s.size []], μ1.add (H ++ T).length ⟨0, 0, 0, s.size, 0, false⟩, [.slc (some ((H ++ T).length, 0)) 0], ?_, ?_, Mu.le_trans h3 (Mu.le_add _ h1.fresh), .cons (.slcZ _ 0 _ a (Mu.add_self _ _ _) (Nat.le_refl _)) .nil, rfl, ?_⟩
              · rw [← List.append_assoc]
                exact h1.addRO h2 rfl rfl rfl (fun j v hj => by simp at hj) hpos
              · rw [← List.append_assoc]; exact h2.add
              · simp only [toD, toDs_map, List.range_zero, List.map_nil, Is]
                refine ⟨rfl, Nat.zero_le _, false, [], ?_, by simp, fun i d hd => by simp at hd⟩
                rw [← List.append_assoc]
                simp
            · have hspot : a.spot = none ∧ a.block < w.heap.size := by
                have h0 := (hcell 0 (by omega) 0 (by omega)).1
                have hlen0 := (hcell 0 (by omega) 0 (by omega)).2
                have : ∃ u, w.cell? ((a.add (0 * s.size)).add 0) = some u := ⟨(cs 0)[0]'(by omega), by rw [h0]; simp⟩
                obtain ⟨u, hu⟩ := this
                simp only [Nat.zero_mul, Addr.add, if_true] at hu
                unfold World.cell? at hu
                split at hu
                · rename_i c t' fz hb
                  split at hu
                  · cases hu
                  · rename_i hsp
                    refine ⟨by simpa using hsp, (Array.getElem?_eq_some_iff.1 hb).1⟩
                · cases hu
              obtain ⟨blk, off, spot⟩ := a
              simp only at hspot
              obtain ⟨rfl, hblk⟩ := hspot
              have hadd : ∀ i j : Nat, ((⟨blk, off, none⟩ : Addr).add i).add j = ⟨blk, off + (i + j), none⟩ := fun i j => by
                rw [Deep.add_add]
                unfold Addr.add
                by_cases hij : i + j = 0 <;> simp [hij]
              have hflat : ∀ k, k ≤ m → ((List.range k).flatMap cs).length = k * s.size ∧ ∀ j, j < k * s.size → w.cell? ⟨blk, off + j, none⟩ = ((List.range k).flatMap cs)[j]? := by
                intro k
                induction k with
                | zero => intro _; exact ⟨by simp, fun j hj => by omega⟩
                | succ k ih =>
                  intro hk
                  obtain ⟨i1, i2⟩ := ih (by omega)
                  have hlk := (hcell k (by omega) 0 (by omega)).2
                  rw [List.range_succ, List.flatMap_append]
                  simp only [List.flatMap_cons, List.flatMap_nil, List.append_nil]
                  refine ⟨by simp [i1, hlk, Nat.succ_mul], fun j hj => ?_⟩
                  by_cases hjk : j < k * s.size
                  · rw [List.getElem?_append_left (by omega)]; exact i2 j hjk
                  · rw [List.getElem?_append_right (by omega), i1]
                    rw [Nat.succ_mul] at hj
                    have := (hcell k (by omega) (j - k * s.size) (by omega)).1
                    rw [hadd] at this
                    rw [← this]
                    congr 2
                    omega
              refine ⟨T ++ [.mk false s.size vs], μ1.add (H ++ T).length ⟨blk, off, vs.length, s.size, 0, false⟩, [.slc (some ((H ++ T).length, 0)) len], ?_, ?_, Mu.le_trans h3 (Mu.le_add _ h1.fresh), ?_, rfl, ?_⟩
              · rw [← List.append_assoc]
                exact h1.addRO h2 rfl rfl rfl (VL.cellsAt h4 fun j hj => (hflat len hle).2 j (by rw [(hflat len hle).1] at hj; exact hj)) hblk
              · rw [← List.append_assoc]; exact h2.add
              · refine .cons ?_ .nil
                have := VR.slc (μ := μ1.add (H ++ T).length ⟨blk, off, vs.length, s.size, 0, false⟩) (H ++ T).length 0 len m _ (Mu.add_self _ _ _) hle (fun h => by cases h) (by
                  simp only [h5, Nat.zero_add]; exact Nat.mul_le_mul_right _ hle)
                simpa using this
              · simp only [toD, toDs_map, Is]
                refine ⟨by simp, by omega, false, vs, by rw [← List.append_assoc]; simp, by omega, fun i d hd => ?_⟩
                simp only [List.map_map, List.getElem?_map] at hd
                have hi : i < len := by
                  rcases Nat.lt_or_ge i len with h | h
                  · exact h
                  · rw [List.getElem?_eq_none (by simpa using h)] at hd; cases hd
                rw [List.getElem?_range hi] at hd
                simp only [Option.map_some, Function.comp_apply, Option.some.injEq] at hd
                subst hd
                rw [Nat.zero_add, ← List.append_assoc]
                exact Is.ext s _ _ (h6 i hi)
        · cases h
      · cases h
    · rename_i fs hu
      split at h
      · rename_i ss hss
        split at h
        · rename_i hc
          cases h
          obtain ⟨xs, n', _, rfl, hlen, hxl, hf⟩ := DataW.trod_struct hu hx
          have key : ∀ (gs : List Field) (o : Nat) (ss : List Sh), shFields P (shOf P n) gs o = some ss → ∀ (ys : List (DataW E × List MemPlace)) (us : List Value), ys.length = gs.length → us.length = Sh.sizes ss →
              (∀ (i : Nat) (f : Field), gs[i]? = some f → DataW.trod enc P w 0 (fun _ => true) true n' f.type ((us.drop (f.offset - o)).take (P.cellsOf f.type)) = ys[i]?) →
              ∀ (H : List Ob) (μ : Mu), HSim H μ w → NoOwn H → ∃ (T : List Ob) (μ' : Mu) (vs : List V), HSim (H ++ T) μ' w ∧ NoOwn (H ++ T) ∧ μ.le μ' ∧ VL μ' vs us ∧ vs.length = Sh.sizes ss ∧ IsAll (H ++ T) ss vs (ys.map fun y => toD y.1) := by
            intro gs
            induction gs with
            | nil =>
              intro o ss hss ys us hy hu hf H μ hs hn
              simp only [shFields, Option.some.injEq] at hss
              subst hss
              cases List.length_eq_zero_iff.1 hy
              cases List.length_eq_zero_iff.1 (by simpa only [Sh.sizes] using hu)
              exact ⟨[], μ, [], by simpa using hs, by simpa using hn, μ.le_refl, .nil, rfl, by simp only [List.map_nil, IsAll, and_self]⟩
            | cons g gs ih =>
              intro o ss hss ys us hy hu hf H μ hs hn
              simp only [shFields] at hss
              split at hss
              · rename_i s hsg
                split at hss
                · rename_i hgo
                  split at hss
                  · rename_i ss' hss'
                    cases hss
                    cases ys with
                    | nil => simp at hy
                    | cons y ys =>
                      simp only [Sh.sizes] at hu
                      have h0 := hf 0 g rfl
                      rw [hgo.1, Nat.sub_self, List.drop_zero, hgo.2] at h0
                      obtain ⟨T, μ1, vs, h1, h2, h3, h4, h5, h6⟩ := open_is hpos n g.type s hsg n' (us.take s.size) y (by simpa using h0) H μ hs hn
                      have hge := shFields_ge gs (o + s.size) ss' hss'
                      obtain ⟨T', μ2, vs', g1, g2, g3, g4, g5, g6⟩ := ih (o + s.size) ss' hss' ys (us.drop s.size) (by simpa using hy) (by simp; omega) (fun i f hi => by
                        have hfo := hge f (List.mem_of_getElem? hi)
                        have := hf (i + 1) f (by simpa using hi)
                        rw [List.drop_drop]
                        simp only [List.getElem?_cons_succ] at this
                        rw [← this]
                        congr 3
                        omega) (H ++ T) μ1 h1 h2
                      refine ⟨T ++ T', μ2, vs ++ vs', by rw [← List.append_assoc]; exact g1, by rw [← List.append_assoc]; exact g2, Mu.le_trans h3 g3, ?_, by simp only [List.length_append, Sh.sizes]; omega, ?_⟩
                      · have := (h4.le g3).append g4
                        rwa [List.take_append_drop] at this
                      · simp only [List.map_cons, IsAll]
                        rw [← List.append_assoc, List.take_append_of_le_length (by omega), List.take_of_length_le (by omega), List.drop_append_of_le_length (by omega), List.drop_eq_nil_of_le (as := vs) (by omega), List.nil_append]
                        exact ⟨Is.ext s _ _ h6, g6⟩
                  · cases hss
                · cases hss
              · cases hss
          obtain ⟨T, μ', vs, h1, h2, h3, h4, h5, h6⟩ := key fs.toList 0 ss hss xs cs (by simpa using hxl) (by rw [hlen, hc]) (fun i f hi => by simpa using hf i f (by simpa using hi)) H μ hs hn
          refine ⟨T, μ', vs, h1, h2, h3, h4, by simpa only [Sh.size] using h5, ?_⟩
          simp only [toD, toDs_map, Is, List.map_map]
          exact h6
        · cases h
      · cases h
    · cases h

end
end Go.Lite

namespace Go.Lite
open Go Go.RowKit Go.ChangeShapes
set_option linter.unusedSimpArgs false
set_option linter.unusedVariables false

/-- A value out of its cells. -/
def valOf : Sh → List V → V
  | .st _, vs => .agg vs
  | _, vs => vs.headD .undef

def Sh.isSt : Sh → Bool
  | .st _ => true
  | _ => false

/-- The call's arguments are these data. -/
def IsArgs (H : List Ob) : List Sh → List V → List D → Prop
  | [], vs, ds => vs = [] ∧ ds = []
  | s :: ss, v :: vs, d :: ds => (∃ cs, v = valOf s cs ∧ cs.length = s.size ∧ Is H s cs d) ∧ IsArgs H ss vs ds
  | _, _, _ => False

theorem IsArgs.ext {H T : List Ob} : ∀ {ss : List Sh} {vs : List V} {ds : List D}, IsArgs H ss vs ds → IsArgs (H ++ T) ss vs ds
  | [], _, _, h => h
  | s :: ss, v :: vs, d :: ds, ⟨⟨cs, h1, h2, h3⟩, h4⟩ => ⟨⟨cs, h1, h2, Is.ext s cs d h3⟩, IsArgs.ext h4⟩
  | _ :: _, [], _, h => h.elim
  | _ :: _, _ :: _, [], h => h.elim

def shapes (P : Program) : List Nat → Option (List Sh)
  | [] => some []
  | t :: ts => match shOf P 20 t, shapes P ts with
    | some s, some ss => some (s :: ss)
    | _, _ => none

section
variable {P : Program} {C : Ctx} {W : World} {E : Type} {enc : TypeId × Value → E}

theorem shOf_st {n t : Nat} {s : Sh} (h : shOf P n t = some s) : s.isSt = (match P.underlying t with | some (.struct _) => true | _ => false) ∧ (match P.underlying t with | some (.array _ _) => False | _ => True) := by
  cases n with
  | zero => cases h
  | succ n =>
    simp only [shOf] at h
    split at h
    · rename_i hu; cases h; rw [hu]; exact ⟨rfl, trivial⟩
    · rename_i hu; cases h; rw [hu]; exact ⟨rfl, trivial⟩
    · rename_i hu; cases h; rw [hu]; exact ⟨rfl, trivial⟩
    · rename_i hu
      rw [hu]
      split at h
      · split at h
        · cases h; exact ⟨rfl, trivial⟩
        · cases h
      · cases h
    · rename_i hu
      rw [hu]
      split at h
      · split at h
        · cases h; exact ⟨rfl, trivial⟩
        · cases h
      · cases h
    · cases h

theorem cell_noagg {r : Reach} {b t : Nat} {cs : Array Value} (h : Cell.okWide P W r b t (.agg cs)) : False := by
  unfold Cell.okWide Cell.ok at h
  cases hu : P.underlying t with
  | none => rw [hu] at h; exact h
  | some d => rw [hu] at h; cases d <;> exact h

theorem valOf_sound {μ : Mu} {n t : Nat} {s : Sh} (hs : shOf P n t = some s) {r : Reach} {b : Nat} {v : Value} (hok : Value.okWide P W r b t v) {vs : List V} (hv : VL μ vs v.cells.toList) (hl : vs.length = s.size) (hns : s.isSt = false → s.size = 1) :
    VR μ (valOf s vs) v := by
  obtain ⟨h1, h2⟩ := shOf_st hs
  unfold Value.okWide at hok
  cases s with
  | st ss =>
    simp only [Sh.isSt] at h1
    split at hok
    · obtain ⟨cs, rfl, _⟩ := hok
      exact VL.agg hv
    · rename_i hu; rw [hu] at h2; exact h2.elim
    · rename_i hu _
      exfalso
      split at h1
      · rename_i fs hfs; exact hu fs hfs
      · cases h1
  | _ =>
    simp only [Sh.isSt] at h1
    split at hok
    · rename_i hu; rw [hu] at h1; cases h1
    · rename_i hu; rw [hu] at h2; exact h2.elim
    · simp only [Sh.size] at hl
      have hc : v.cells = #[v] := by
        cases v with
        | agg cs =>
          exact (cell_noagg hok).elim
        | _ => rfl
      rw [hc] at hv
      cases hv with
      | cons h t =>
        cases t
        simpa [valOf] using h

theorem open_args (hpos : 0 < W.heap.size) : ∀ {ts : List Nat} {ss : List Sh} (hsh : shapes P ts = some ss) {vs : List Value} {ds : List (DataW E)} {ps : List MemPlace}, DataW.TrodAll enc P W 0 (fun _ => true) true ts vs ds ps →
    (∀ (j : Nat) t v, ts[j]? = some t → vs[j]? = some v → ∃ r b, Value.okWide P W r b t v) → ∀ (H : List Ob) (μ : Mu), HSim H μ W → NoOwn H →
    ∃ (T : List Ob) (μ' : Mu) (as : List V), HSim (H ++ T) μ' W ∧ NoOwn (H ++ T) ∧ μ.le μ' ∧ VL μ' as vs ∧ IsArgs (H ++ T) ss as (ds.map toD)
  | [], ss, hsh, vs, ds, ps, h, _, H, μ, hs, hn => by
    simp only [shapes, Option.some.injEq] at hsh
    subst hsh
    match vs, ds, h with
    | [], [], _ => exact ⟨[], μ, [], by simpa using hs, by simpa using hn, μ.le_refl, .nil, rfl, rfl⟩
  | t :: ts, ss, hsh, vs, ds, ps, h, hok, H, μ, hs, hn => by
    simp only [shapes] at hsh
    split at hsh
    · rename_i s ss' h1 h2
      cases hsh
      match vs, ds, h with
      | v :: vs, d :: ds, ⟨p, q, ⟨fuel, k1⟩, k2, k3⟩ =>
        obtain ⟨T, μ1, cs, g1, g2, g3, g4, g5, g6⟩ := open_is hpos 20 t s h1 fuel v.cells.toList (d, p) k1 H μ hs hn
        obtain ⟨T', μ2, as, e1, e2, e3, e4, e5⟩ := open_args hpos h2 k2 (fun j t v hj hv => hok (j + 1) t v (by simpa using hj) (by simpa using hv)) (H ++ T) μ1 g1 g2
        obtain ⟨r, b, hv⟩ := hok 0 t v rfl rfl
        refine ⟨T ++ T', μ2, valOf s cs :: as, by rw [← List.append_assoc]; exact e1, by rw [← List.append_assoc]; exact e2, Mu.le_trans g3 e3, .cons ((valOf_sound h1 hv g4 g5 ?_).le e3) e4, ?_⟩
        · intro hst; cases s <;> first | rfl | cases hst
        · rw [← List.append_assoc]
          exact ⟨⟨cs, rfl, g5, Is.ext s cs _ g6⟩, e5⟩
    · cases hsh

theorem hsim_nil : HSim [] (fun _ => none) W where
  dom id m h := by cases h
  map id o h := by simp at h
  obj id o m h := by simp at h
  sep id id' o o' m m' _ h := by simp at h

/-- The call, as the interpreter has it. -/
theorem calls_law (hp : ProgOk P C) {f : Nat} {F : Func} (hF : P.funcs[f]? = some F) (hb : F.body.isSome = true) (hname : (F.name == "runtime.NumGoroutine") = false) (hpos : 0 < W.heap.size) {ss : List Sh}
    (hsh : shapes P F.params.toList = some ss) {args : Array Value} {ds : List (DataW E)} {ps : List MemPlace} (hT : DataW.TrodAll enc P W 0 (fun _ => true) true F.params.toList args.toList ds ps)
    (hok : ∀ (j : Nat) t v, F.params[j]? = some t → args[j]? = some v → ∃ r b, Value.okWide P W r b t v) {b : Bool}
    (law : ∀ (H : List Ob) (vs : List V), IsArgs H ss vs (ds.map toD) → ∃ H', callW C f vs H = some (.bool b, H')) :
    Calls P f args W fun e W' => e = .returned (.bool b) ∧ Below W.heap.size W W' := by
  obtain ⟨T, μ, as, h1, h2, _, h4, h5⟩ := open_args hpos hsh hT (fun j t v hj hv => hok j t v (by simpa using hj) (by simpa using hv)) [] _ hsim_nil (by intro o ho; cases ho)
  rw [List.nil_append] at h1 h2 h5
  obtain ⟨H', hc⟩ := law T as h5
  have hno : ∀ x, ¬ OwnB T μ [] x := by
    rintro x (⟨id, o, m, k1, k2, _⟩ | hx)
    · rw [h2 o (List.mem_of_getElem? k1)] at k2; cases k2
    · cases hx
  have hrun : (callFunc f args).run P W = .ok (.enter f args) W := by
    obtain ⟨c, hc⟩ := Option.isSome_iff_exists.1 hb
    simp [callFunc, hF, (by simpa using hname : ¬F.name = "runtime.NumGoroutine"), hc]
  rcases callW_ok hp f as T (.bool b) H' hc μ W args h1 h4 with ⟨v, w', k1, _⟩ | ⟨_, k2⟩
  · rw [hrun] at k1; cases k1
  · refine k2.mono fun e W' ⟨v, he, μ', hg, hv⟩ => ?_
    rw [he, hv.bool_inv]
    exact ⟨rfl, ⟨hg.grow.os, hg.grow.tape, hg.grow.output, hg.grow.size, fun x hx => hg.grow.same x hx (hno x)⟩⟩

/-- What was there is there. -/
theorem below_sameAt {W W' : World} (hb : Below W.heap.size W W') {p : MemPlace} (hp : p.block < W.heap.size) : W.sameAt W' p := by
  cases p with
  | cell b off =>
    simp only [World.sameAt, World.cell?]
    rw [hb.block b hp]
  | map b => exact hb.block b hp

theorem trodAll_carry {W W' : World} {sp : Nat → Bool} : ∀ {ts : List TypeId} {vs : List Value} {ds : List (DataW E)} {ps : List MemPlace}, DataW.TrodAll enc P W 0 sp true ts vs ds ps → (∀ p ∈ ps, W.sameAt W' p) →
    DataW.TrodAll enc P W' 0 sp true ts vs ds ps
  | [], [], [], _, h, _ => h
  | _ :: _, _ :: _, _ :: _, _, ⟨p, q, ⟨n, h1⟩, h2, e⟩, hs =>
    ⟨p, q, ⟨n, DataW.trod_carry n _ _ _ h1 fun x hx => hs x (by rw [e]; exact List.mem_append_left _ hx)⟩, trodAll_carry h2 (fun x hx => hs x (by rw [e]; exact List.mem_append_right _ hx)), e⟩

/-- The law's call leaves what the row asks: it answers true, and its arguments read as they did. -/
theorem law_post {s : ChangeSpec} {apart fresh handsOn again : Bool} {F : Func} (hlo : laidOutB P = true) (hmr : mapsRowed P = true)
    (hfull : ((List.range P.types.size).all fun t => match P.underlying t with | some (.slice e) => decide (0 < P.cellsOf e) | _ => true) = true)
    (hpar : F.params.toList.all (fun t => decide (t < P.types.size)) = true) {rt : TypeId} (hrt : F.resultTypes = #[rt]) (hrb : P.underlying rt = some .bool)
    {W W' : World} {args : Array Value} {ds gs : List (DataW E)} {before : List MemPlace} (hW : DataW.Whole enc P F.params.toList s.vars apart W args.toList ds gs before) (hvars : s.vars = [])
    (hfn : s.fn E (ds ++ gs) = { results := [.lit (.bool true)], args := ds }) (hb : Below W.heap.size W W') : s.post enc P F apart fresh handsOn again W args (.bool true) W' := by
  have hlt : ∀ p ∈ before, p.block < W.heap.size := fun p hp => hW.lt p hp
  have hsame : ∀ p ∈ before, W.sameAt W' p := fun p hp => below_sameAt hb (hlt p hp)
  have hW' := hW
  obtain ⟨pa, q, hA, hV, hps, hz, hn⟩ := hW'
  have hV2 := hV
  rw [hvars] at hV2
  have hgs : gs = [] ∧ q = [] := by
    cases gs with
    | nil => exact ⟨rfl, hV2⟩
    | cons => exact hV2.elim
  obtain ⟨rfl, rfl⟩ := hgs
  rw [List.append_nil] at hps
  subst hps
  rw [List.append_nil] at hfn
  have K := kids_rows hlo hmr
  have hargs : ∀ sp : Nat → Bool, (∀ p ∈ before, sp p.block = true) → DataW.TrodAll enc P W' 0 sp true F.params.toList args.toList ds before := fun sp hsp =>
    DataW.TrodAll.respare K (slices_full_of P hfull) (fun t ht => by simpa using List.all_eq_true.1 hpar t ht) (trodAll_carry hA hsame) hsp
  have hres : ∀ (b : Nat) (sp : Nat → Bool) (hd : Bool), DataW.TrodAll enc P W' b sp hd F.resultTypes.toList ((Value.bool true).resultList F.resultTypes.size) [.lit (.bool true)] [] := fun b sp hd => by
    rw [hrt]
    exact ⟨[], [], ⟨1, by simp [DataW.trod, Value.cells, hrb]⟩, rfl, rfl⟩
  have hnil : s.fn E ([] : List (DataW E)) = s.fn E [] := rfl
  refine ⟨ds, [], before, [], before, [], hW, ?_, ?_, ?_, ?_, fun _ => ⟨?_, [.lit (.bool true)] ++ ds, [], [] ++ before, ⟨[] ++ before, [], ?_, ?_, by simp, ?_, ?_⟩, fun p hp _ => by simpa using hp⟩⟩
  · rw [List.append_nil, hfn]; exact hres _ _ _
  · rw [List.append_nil, hfn]; exact hargs _ fun p hp => by simpa using hlt p hp
  · rw [hvars, List.append_nil, hfn]; exact rfl
  · exact World.keptBut_mono (fun p hp => ⟨hp, .inr (.inl hp)⟩) (hb.frame (· ∈ before))
  · intro j t r ht hr
    rw [hrt] at ht hr
    cases j with
    | zero =>
      simp at ht
      subst ht
      simp [Value.resultList] at hr
      subst hr
      unfold Value.okWide
      rw [hrb]
      simp only [Cell.okWide, Cell.ok, hrb]
    | succ j => simp at ht
  · exact trodAll_append (hargs _ (fun _ _ => rfl)) (hres _ _ _)
  · rw [hvars]; exact rfl
  · intro b off hp
    rw [List.nil_append] at hp
    rw [hb.frozen (hlt _ hp)]
    exact hz b off hp
  · intro ha
    have := hn ha
    simpa using this

theorem trodAll_len {sp : Nat → Bool} {b : Nat} : ∀ {ts : List TypeId} {vs : List Value} {ds : List (DataW E)} {ps : List MemPlace}, DataW.TrodAll enc P W b sp true ts vs ds ps → ds.length = ts.length
  | [], [], [], _, _ => rfl
  | _ :: _, _ :: _, _ :: _, _, ⟨_, _, _, h2, _⟩ => by simp [trodAll_len h2]

end
end Go.Lite
