/- Part 11 of the proof of a law: the interpreter, its soundness, and what functions of the program compute over it. Conditions: none but those that each theorem names. -/
import Derived.Test.YtglbhjmpemiijaaGreatDoorD10
import Derived.Test.YtglbhjmpemiijaaGreatDoorD07
import Derived.Test.YtglbhjmpemiijaaGreatDoorD08
import Derived.Test.YtglbhjmpemiijaaGreatDoorD05

section
namespace Go.Proofs.Try1
open Go Go.Lite
set_option linter.unusedSimpArgs false
set_option linter.unusedVariables false

/-- An entry of no more than what a law takes. -/
def SmallE (e : PEntry) : Prop := e.dn.length ≤ 1048576 ∧ e.attrs.length ≤ 1048576 ∧ ∀ a ∈ e.attrs, a.vals.length ≤ 1048576

set_option maxRecDepth 10000 in
set_option maxHeartbeats 8000000 in
theorem s_Copy {H : List Ob} {vd va : V} {e : PEntry} (hd : ARdns H vd e.dn) (ha : AAttrs H va e.attrs) (hb : SmallE e) :
    ∃ T w1 w2, callW C 157 [.agg [vd, va]] H = some (.agg [w1, w2], H ++ T) ∧ New H.length (H ++ T).length (H ++ T) shEntry [w1, w2] e.u := by
  suffices hs : Ret C 157 [.agg [vd, va]] H fun q H' => ∃ T w1 w2, q = .agg [w1, w2] ∧ H' = H ++ T ∧ New H.length (H ++ T).length (H ++ T) shEntry [w1, w2] e.u by
    obtain ⟨q, H', hc, T, w1, w2, rfl, rfl, hr⟩ := hs
    exact ⟨T, w1, w2, hc, hr⟩
  rw [op157]
  have hod := hd.one
  have hoa := ha.one
  obtain ⟨w1, T1, a1, n1⟩ := append_clone (d := .struct [(0, 9), (1, 9)]) (by_ := 32) (z := [.str [], .str []]) (sz := 2) hd rfl rfl rfl (by decide) (by decide) (by decide) (by have := hb.1; unfold maxMade; omega)
  have hb2 := hb.2.1
  have how := New.one1 n1
  simp [code157, Tryz.f157, hod, hoa, elemT, fillL, zerosL, St.new, strideOf, a1, buildV, structPlace, how]
  obtain ⟨K, hK⟩ : ∃ K, K = H ++ T1 := ⟨_, rfl⟩
  rw [← hK] at n1 ⊢
  have haK : AAttrs K va e.attrs := by rw [hK]; exact ha.ext
  refine WP_loop (fun k σ => ∃ (i : Nat) (r : Nat → R) (G : List Ob) (w : V), i + k = e.attrs.length ∧ σ = ⟨r, 3, G⟩ ∧ r 1 = .box 0 [vd, va] ∧ r 2 = .box 1 [.slc none 0, .slc none 0] ∧ r 3 = .box 2 [w1, w] ∧ r 4 = .val (.int .i64 i) ∧ LstF K G shAttr PAttr.u w (e.attrs.take i)) ?_ e.attrs.length _ ⟨0, _, K, .slc none 0, by simp, rfl, by simp, by simp, by simp, by simp, by simpa using LstF.nil⟩
  rintro k σ ⟨i, r, G, w, hik, rfl, r1, r2, r3, r4, hG⟩
  obtain ⟨S, hS⟩ := hG.pre
  have haG : AAttrs G va e.attrs := by rw [hS]; exact haK.ext
  have hwo := hG.one
  cases k with
  | zero =>
    have hi : i = e.attrs.length := by omega
    subst hi
    rw [List.take_length] at hG
    have n2 := hG.new ha.bound
    have hne : New H.length G.length G shEntry [w1, w] e.u := by
      refine New.st (News.cons (m := K.length) (c1 := [w1]) ?_ (News.one n2 (by rw [hS]; simp)) (by rw [hK]; simp) (by rw [hS]; simp))
      rw [hS]; exact n1.ext
    obtain ⟨T', hg, hn⟩ := (show New H.length G.length (H ++ (T1 ++ S)) shEntry [w1, w] e.u by rw [← List.append_assoc, ← hK, ← hS]; exact hne).gcA
    rw [← List.append_assoc, ← hK, ← hS] at hg
    simp [r1, r2, r3, r4, haG.len, hg, how, hwo]
    exact ⟨T', w1, w, ⟨rfl, rfl⟩, rfl, by simpa using hn⟩
  | succ k =>
    have hi : i < e.attrs.length := by omega
    obtain ⟨x, hx⟩ : ∃ c, e.attrs[i]? = some c := ⟨e.attrs[i], by simp [hi]⟩
    have hw : IntKind.i64.wrap ((i : Int) + 1) = ((i : Int) + 1) := wrap_i64 (by omega) (by omega)
    obtain ⟨id, o, wx, ex, lx, hvx, hnx, hidx, _⟩ := attrs_idxT ha hx
    have hGH : G = H ++ (T1 ++ S) := by rw [hS, hK, List.append_assoc]
    obtain ⟨l0, l1, l2⟩ := lx G ⟨_, hGH⟩
    obtain ⟨l0', l1', l2'⟩ := lx (G ++ [.mk true 1 []]) ⟨_, by rw [hGH, List.append_assoc]⟩
    have hidG : id < G.length := by rw [hGH]; simp; omega
    have hvG : AStrs G wx x.vals := by rw [hGH]; exact hvx.ext
    have hbx := hb.2.2 x (List.mem_of_getElem? hx)
    obtain ⟨wv, T2, a2, n2⟩ := append_clone (d := .str) (by_ := 16) (z := [.str []]) (sz := 1) hvG rfl rfl rfl (by decide) (by decide) (by decide) (by unfold maxMade; omega)
    have hel : New G.length (G ++ T2).length (G ++ T2) shAttr [.str x.name, wv] x.u := New.st (News.str hnx (News.one n2 (by simp)))
    obtain ⟨w', G', a3, hG', _, _⟩ := hG.push (T := T2) (d := .struct [(0, 9), (1, 26)]) (by_ := 40) (z := [.str [], .slc none 0]) (sz := 2) hel rfl rfl (by decide) (by decide) (by decide) (by simp; unfold maxMade; omega)
    rw [← take_get hx] at hG'
    have hwv := New.one1 n2
    have hk : Keep G.length (G ++ [.mk true 1 []]) (G ++ T2) := Keep_ext (Nat.le_refl _)
    have hw' := hG'.one
    simp only [List.append_assoc, List.length_append] at a3
    simp [r1, r2, r3, r4, hi, haG.len, ex, l0, l1, hidG, a2, a3, hk, Keep_append, elemT, fillL, zerosL, St.new, buildV, structPlace, hod, hoa, hwv, hwo, hw', hw, List.lookup]
    exact ⟨k, by omega, i + 1, by omega, _, _, ⟨rfl, rfl⟩, by simp [r1], by simp [r2], w', by simp, by simp, hG'⟩

/-- The attributes of a list ahead of a name, the new one, and those behind. -/
noncomputable def putUpto (pre : List PAttr) (n : Str) (vs : List Str) (done : Bool) : List PAttr := pre.filter (fun a => dec (LtS a.name n)) ++ (if done = true ∧ vs ≠ [] then [⟨n, sortV vs⟩] else []) ++ pre.filter (fun a => dec (LtS n a.name))

theorem LtS_trans {a b c : Str} (h1 : LtS a b) (h2 : LtS b c) : LtS a c := (LtS_iff _ _).2 (List.lt_trans ((LtS_iff _ _).1 h1) ((LtS_iff _ _).1 h2))
theorem LtS_asymm {a b : Str} (h1 : LtS a b) : ¬ LtS b a := fun h => LtS_irrefl _ (LtS_trans h1 h)
theorem LtS_tri (a b : Str) : LtS a b ∨ a = b ∨ LtS b a := by
  by_cases h1 : LtS a b
  · exact .inl h1
  · by_cases h2 : LtS b a
    · exact .inr (.inr h2)
    · refine .inr (.inl (List.le_antisymm (fun hh => h2 ((LtS_iff _ _).2 hh)) (fun hh => h1 ((LtS_iff _ _).2 hh))))

section
variable {pre : List PAttr} {a : PAttr} {n : Str} {vs : List Str} {done : Bool}
theorem filt_none {p : PAttr → Bool} (h : ∀ b ∈ pre, p b = false) : pre.filter p = [] := List.filter_eq_nil_iff.2 fun b hb => by rw [h b hb]; decide
/-- Ahead of the name. -/
theorem put_lt (hs : ∀ b ∈ pre, LtS b.name a.name) (hd : done = true ↔ vs = [] ∨ ∃ b ∈ pre, ¬ LtS b.name n) (h : LtS a.name n) : putUpto pre n vs done ++ [a] = putUpto (pre ++ [a]) n vs done ∧ (done = true ↔ vs = [] ∨ ∃ b ∈ pre ++ [a], ¬ LtS b.name n) := by
  have h1 : ∀ b ∈ pre, LtS b.name n := fun b hb => LtS_trans (hs b hb) h
  have hno : ¬ ∃ b ∈ pre, ¬ LtS b.name n := fun ⟨b, hb, hn⟩ => hn (h1 b hb)
  have hmid : (if done = true ∧ vs ≠ [] then [(⟨n, sortV vs⟩ : PAttr)] else []) = [] := if_neg fun ⟨h2, h3⟩ => (hd.1 h2).elim h3 hno
  have e1 := filt_none (pre := pre) (p := fun a => dec (LtS n a.name)) fun b hb => dec_neg (LtS_asymm (h1 b hb))
  refine ⟨?_, ?_⟩
  · unfold putUpto
    rw [hmid, List.filter_append, List.filter_append, e1]
    simp [dec_pos h, dec_neg (LtS_asymm h)]
  · rw [hd]
    constructor
    · rintro (h2 | ⟨b, hb, hn⟩)
      · exact .inl h2
      · exact absurd (h1 b hb) hn
    · rintro (h2 | ⟨b, hb, hn⟩)
      · exact .inl h2
      · rcases List.mem_append.1 hb with hb | hb
        · exact absurd (h1 b hb) hn
        · simp at hb; subst hb; exact absurd h hn
/-- At the name. -/
theorem put_eq (hs : ∀ b ∈ pre, LtS b.name a.name) (hd : done = true ↔ vs = [] ∨ ∃ b ∈ pre, ¬ LtS b.name n) (h : a.name = n) :
    (done = true → vs = []) ∧ putUpto pre n vs done ++ (if done = true then [] else [⟨n, sortV vs⟩]) = putUpto (pre ++ [a]) n vs true := by
  have h1 : ∀ b ∈ pre, LtS b.name n := fun b hb => h ▸ hs b hb
  have hno : ¬ ∃ b ∈ pre, ¬ LtS b.name n := fun ⟨b, hb, hn⟩ => hn (h1 b hb)
  have hv : done = true → vs = [] := fun h2 => (hd.1 h2).elim id fun h3 => absurd h3 hno
  have e1 := filt_none (pre := pre) (p := fun a => dec (LtS n a.name)) fun b hb => dec_neg (LtS_asymm (h1 b hb))
  refine ⟨hv, ?_⟩
  unfold putUpto
  rw [List.filter_append, List.filter_append, e1]
  subst h
  cases done with
  | true => simp [hv rfl, dec_neg (LtS_irrefl a.name)]
  | false =>
    have : vs ≠ [] := fun h2 => by have := hd.2 (.inl h2); cases this
    simp [this, dec_neg (LtS_irrefl a.name)]
/-- Behind the name. -/
theorem put_gt (hs : ∀ b ∈ pre, LtS b.name a.name) (hd : done = true ↔ vs = [] ∨ ∃ b ∈ pre, ¬ LtS b.name n) (h : LtS n a.name) :
    (putUpto pre n vs done ++ (if done = true then [] else [⟨n, sortV vs⟩])) ++ [a] = putUpto (pre ++ [a]) n vs true := by
  unfold putUpto
  rw [List.filter_append, List.filter_append]
  cases done with
  | true => simp [dec_pos h, dec_neg (LtS_asymm h)]
  | false =>
    have h2 : vs ≠ [] := fun h2 => by have := hd.2 (.inl h2); cases this
    have h1 : ∀ b ∈ pre, LtS b.name n := fun b hb => Classical.byContradiction fun hn => by have := hd.2 (.inr ⟨b, hb, hn⟩); cases this
    have e1 := filt_none (pre := pre) (p := fun a => dec (LtS n a.name)) fun b hb => dec_neg (LtS_asymm (h1 b hb))
    rw [e1]
    simp [h2, dec_pos h, dec_neg (LtS_asymm h)]
theorem put_end (hd : done = true ↔ vs = [] ∨ ∃ b ∈ pre, ¬ LtS b.name n) : putUpto pre n vs done ++ (if done = true then [] else [⟨n, sortV vs⟩]) = putAttr pre n (sortV vs) := by
  have hz : sortV vs = [] ↔ vs = [] := by rw [← List.length_eq_zero_iff, sortV_len, List.length_eq_zero_iff]
  unfold putUpto putAttr
  cases done with
  | true =>
    by_cases h2 : vs = []
    · simp [h2, sortV_nil]
    · simp [h2, hz]
  | false =>
    have h2 : vs ≠ [] := fun h2 => by have := hd.2 (.inl h2); cases this
    have h1 : ∀ b ∈ pre, LtS b.name n := fun b hb => Classical.byContradiction fun hn => by have := hd.2 (.inr ⟨b, hb, hn⟩); cases this
    have e1 := filt_none (pre := pre) (p := fun a => dec (LtS n a.name)) fun b hb => dec_neg (LtS_asymm (h1 b hb))
    rw [e1]
    simp [h2, hz]
end

set_option maxRecDepth 10000 in
set_option maxHeartbeats 16000000 in
theorem s_Set {H : List Ob} {vd va vv : V} {e : PEntry} {n : Str} {vs : List Str} (hd : ARdns H vd e.dn) (ha : AAttrs H va e.attrs) (hb : SmallE e) (hp : e.attrs.Pairwise fun a b => a.name < b.name) (hn : n.length ≤ maxLen) (hv : AStrs H vv vs) (hvl : vs.length ≤ 1000) :
    ∃ T w1 w2, callW C 139 [.agg [vd, va], .str n, vv] H = some (.agg [w1, w2], H ++ T) ∧ At (H ++ T) shEntry [w1, w2] (setE e n (sortV vs)).u ∧ ¬ lowV H w2 := by
  suffices hs : Ret C 139 [.agg [vd, va], .str n, vv] H fun q H' => ∃ T w1 w2, q = .agg [w1, w2] ∧ H' = H ++ T ∧ At (H ++ T) shEntry [w1, w2] (setE e n (sortV vs)).u ∧ ¬ lowV H w2 by
    obtain ⟨q, H', hc, T, w1, w2, rfl, rfl, hr⟩ := hs
    exact ⟨T, w1, w2, hc, hr⟩
  rw [op139]
  have hod := hd.one
  have hoa := ha.one
  obtain ⟨T1, d1, a1, c1, n1⟩ := s_Copy hd ha hb
  obtain ⟨K, hK⟩ : ∃ K, K = H ++ T1 := ⟨_, rfl⟩
  rw [← hK] at n1 c1
  obtain ⟨_, _, hcs, hd1, ha1⟩ := entry_at.1 n1.at
  cases hcs
  obtain ⟨T2, wv, c2, n2⟩ := s_Sort (H := K ++ [.mk true 2 []]) (v := vv) (l := vs) (by rw [hK]; exact hv.ext.ext) hvl
  obtain ⟨K3, hK3⟩ : ∃ K3, K3 = K ++ [.mk true 2 []] ++ T2 := ⟨_, rfl⟩
  rw [← hK3] at n2 c2
  have hoD := hd1.one
  have hoA := ha1.one
  have hoV := New.one1 n2
  have hL0 : Lst K K3 shAttr PAttr.u (.slc (some (K.length, 0)) 0) [] := by
    rw [hK3]
    have h := Lst.init (B := K) (sh := shAttr) (f := PAttr.u)
    exact h.ext
  obtain ⟨F, f1, f2, f3⟩ := New.st (News.str hn (News.one n2 (by rw [hK3]; simp)))
  have fx : AtF K3 shAttr [.str n, wv] (⟨n, sortV vs⟩ : PAttr).u F := f1
  have hvsI : ((vs.length : Int) = 0) = (vs = []) := by rw [← List.length_eq_zero_iff]; simp
  simp [code139, Tryz.f139, c1, c2, hod, hoa, hoD, hoA, hoV, hv.len, elemT, fillL, zerosL, St.new, strideOf, buildV, structPlace, hvsI]
  have hbl := hb.2.1
  refine WP_loop (fun k σ => ∃ (i : Nat) (r : Nat → R) (G : List Ob) (w : V) (done : Bool), i + k = e.attrs.length ∧ σ = ⟨r, 4, G⟩ ∧ r 1 = .val (.str n) ∧ r 6 = .box 1 [.slc none 0, .slc none 0] ∧ r 7 = .box 2 [d1, a1] ∧ r 8 = .val w ∧ r 9 = .box 3 [.str n, wv] ∧ r 10 = .val (.bool done) ∧ r 11 = .val (.int .i64 i) ∧
    Lst K G shAttr PAttr.u w (putUpto (e.attrs.take i) n vs done) ∧ (done = true ↔ vs = [] ∨ ∃ b ∈ e.attrs.take i, ¬ LtS b.name n) ∧ AtF G shAttr [.str n, wv] (⟨n, sortV vs⟩ : PAttr).u F ∧ (∀ q ∈ F, ∀ m, w ≠ .slc (some (q, 0)) m) ∧ w ≠ .slc none 0) ?_ e.attrs.length _
    ⟨0, _, K3, .slc (some (K.length, 0)) 0, decide (vs = []), by simp, rfl, by simp, by simp, by simp, by simp, by simp, by simp, by simp, by simpa [putUpto] using hL0, by simp, fx, fun q hq m => by have := (f3 q hq).1; simp at this ⊢; omega, by simp⟩
  rintro k σ ⟨i, r, G, w, done, hik, rfl, r1, r6, r7, r8, r9, r10, r11, hG, hdone, hx, hxw, hwn⟩
  obtain ⟨S, hS⟩ := hG.pre
  have hwo := hG.one
  have haG : AAttrs G a1 e.attrs := by rw [hS]; exact ha1.ext
  have hxc : [V.str n, wv].length = 2 := rfl
  have hpl : ∀ d, (putUpto (e.attrs.take i) n vs d).length ≤ 2097160 := fun d => by
    unfold putUpto
    have e1 := List.length_filter_le (fun a : PAttr => dec (LtS a.name n)) (e.attrs.take i)
    have e2 := List.length_filter_le (fun a : PAttr => dec (LtS n a.name)) (e.attrs.take i)
    have e3 := List.length_take_le i e.attrs
    have e4 : (if d = true ∧ vs ≠ [] then [(⟨n, sortV vs⟩ : PAttr)] else []).length ≤ 1 := by split <;> simp
    simp only [List.length_append]
    omega
  have hmm : ∀ k : Nat, k ≤ 2097165 → k * 40 ≤ maxMade := fun k hk => by unfold maxMade; omega
  cases k with
  | zero =>
    have hi : i = e.attrs.length := by omega
    subst hi
    rw [List.take_length] at hG hdone hpl
    have hend := put_end hdone
    cases done with
    | true =>
      simp only [if_true, List.append_nil] at hend
      rw [hend] at hG
      have hb3 : (putAttr e.attrs n (sortV vs)).length ≤ maxLen := by rw [← hend]; have := hpl true; unfold maxLen; omega
      have hat : At G shEntry [d1, w] (setE e n (sortV vs)).u := entry_at.2 ⟨d1, w, rfl, by rw [hS]; exact hd1.ext, hG.at hb3⟩
      have hnl : ¬ lowV H w := hG.notlow hwn (by rw [hK]; simp)
      have hgc : gcH H G (.agg [d1, w]) = G := gcH_not fun h => hnl h.2.1
      simp [r1, r6, r7, r8, r9, r10, r11, haG.len, hgc, hoD, hoA, hwo]
      exact ⟨T1 ++ S, d1, w, ⟨rfl, rfl⟩, by rw [hS, hK]; simp, by rw [← List.append_assoc, ← hK, ← hS]; exact hat, hnl⟩
    | false =>
      simp only [Bool.false_eq_true, if_false] at hend
      obtain ⟨w', G', p1, hG', _, _, hw', hfr, _⟩ := hG.push (T := []) (x := ⟨n, sortV vs⟩) (c := [.str n, wv]) (d := .struct [(0, 9), (1, 26)]) (by_ := 40) (z := [.str [], .slc none 0]) (sz := 2) (.inl ⟨F, by rw [List.append_nil]; exact hx, hxw⟩) rfl rfl (by decide) (by decide) (by decide) (hmm _ (by have := hpl false; omega))
      rw [hend] at hG'
      obtain ⟨S', hS'⟩ := hG'.pre
      have hwo' := hG'.one
      have hb3 : (putAttr e.attrs n (sortV vs)).length ≤ maxLen := by rw [← hend]; have := hpl false; simp; unfold maxLen; omega
      have hat : At G' shEntry [d1, w'] (setE e n (sortV vs)).u := entry_at.2 ⟨d1, w', rfl, by rw [hS']; exact hd1.ext, hG'.at hb3⟩
      have hnl : ¬ lowV H w' := hG'.notlow (by rw [hw']; simp) (by rw [hK]; simp)
      have hgc : gcH H G' (.agg [d1, w']) = G' := gcH_not fun h => hnl h.2.1
      simp only [List.append_nil] at p1
      simp [r1, r6, r7, r8, r9, r10, r11, haG.len, hgc, hoD, hoA, hoV, hwo, hwo', elemT, fillL, zerosL, St.new, p1]
      exact ⟨T1 ++ S', d1, w', ⟨rfl, rfl⟩, by rw [hS', hK]; simp, by rw [← List.append_assoc, ← hK, ← hS']; exact hat, hnl⟩
  | succ k =>
    have hi : i < e.attrs.length := by omega
    obtain ⟨a, hxa⟩ : ∃ c, e.attrs[i]? = some c := ⟨e.attrs[i], by simp [hi]⟩
    have hw : IntKind.i64.wrap ((i : Int) + 1) = ((i : Int) + 1) := wrap_i64 (by omega) (by omega)
    have htk := take_get hxa
    have hsort : ∀ b ∈ e.attrs.take i, LtS b.name a.name := fun b hb => by
      obtain ⟨j, hj, rfl⟩ := List.getElem_of_mem hb
      have hj2 : j < i ∧ j < e.attrs.length := by rw [List.length_take] at hj; omega
      rw [List.getElem_take]
      obtain ⟨hi', rfl⟩ := List.getElem?_eq_some_iff.1 hxa
      exact (LtS_iff _ _).2 (List.pairwise_iff_getElem.1 hp j i hj2.2 hi hj2.1)
    obtain ⟨id, o, wx, ex, lx, hvx, hnx, hidx, hatx⟩ := attrs_idxT ha1 hxa
    obtain ⟨l0, l1, l2⟩ := lx G ⟨_, hS⟩
    have hox := hvx.one
    rcases LtS_tri a.name n with hlt | heq | hgt
    · obtain ⟨q1, q2⟩ := put_lt hsort hdone hlt
      obtain ⟨w', G', p1, hG', _, _, hw', hfr, _⟩ := hG.push (T := []) (x := a) (c := [.str a.name, wx]) (d := .struct [(0, 9), (1, 26)]) (by_ := 40) (z := [.str [], .slc none 0]) (sz := 2) (.inr hatx) rfl rfl (by decide) (by decide) (by decide) (hmm _ (by have := hpl done; omega))
      rw [q1, ← htk] at hG'
      rw [← htk] at q2
      rw [List.append_nil] at hw' hfr
      obtain ⟨k1, k2⟩ := push_keep hx hxw hw' hfr
      simp only [List.append_nil] at p1
      have hne : ¬ a.name = n := fun e => LtS_irrefl _ (e ▸ hlt)
      cases done with
      | false =>
        simp [r1, r6, r7, r8, r9, r10, r11, hi, haG.len, ex, l0, l2, LtS_no (LtS_asymm hlt), hne, hoD, hoA, hoV, hox, elemT, fillL, zerosL, St.new, p1, hw]
        exact ⟨k, by omega, i + 1, by omega, _, _, ⟨rfl, rfl⟩, by simp [r1], by simp [r6], by simp [r7], w', by simp, by simp [r9], .inl ⟨by simp [r10], by simp, hG', by simpa using q2, k1, k2, by rw [hw']; simp⟩⟩
      | true =>
        simp [r1, r6, r7, r8, r9, r10, r11, hi, haG.len, ex, l0, l2, LtS_no (LtS_asymm hlt), hne, hoD, hoA, hoV, hox, elemT, fillL, zerosL, St.new, p1, hw]
        exact ⟨k, by omega, i + 1, by omega, _, _, ⟨rfl, rfl⟩, by simp [r1], by simp [r6], by simp [r7], w', by simp, by simp [r9], .inr ⟨by simp [r10], by simp, hG', by simpa using q2, k1, k2, by rw [hw']; simp⟩⟩
    · obtain ⟨q1, q2⟩ := put_eq hsort hdone heq
      have hdone' : true = true ↔ vs = [] ∨ ∃ b ∈ e.attrs.take (i + 1), ¬ LtS b.name n := ⟨fun _ => .inr ⟨a, by rw [htk]; simp, by rw [heq]; exact LtS_irrefl n⟩, fun _ => rfl⟩
      cases done with
      | true =>
        simp only [if_true, List.append_nil] at q2
        rw [q2, ← htk] at hG
        simp [r1, r6, r7, r8, r9, r10, r11, hi, haG.len, ex, l0, l2, heq, LtS_no (LtS_irrefl n), hoD, hoA, hoV, hox, hw]
        exact ⟨k, by omega, i + 1, by omega, _, _, ⟨rfl, rfl⟩, by simp [r1], by simp [r6], by simp [r7], w, by simp [r8], by simp [r9], .inr ⟨by simp [r10], by simp, hG, by simpa using hdone', hx, hxw, hwn⟩⟩
      | false =>
        simp only [Bool.false_eq_true, if_false] at q2
        obtain ⟨w', G', p1, hG', _, _, hw', hfr, _⟩ := hG.push (T := []) (x := ⟨n, sortV vs⟩) (c := [.str n, wv]) (d := .struct [(0, 9), (1, 26)]) (by_ := 40) (z := [.str [], .slc none 0]) (sz := 2) (.inl ⟨F, by rw [List.append_nil]; exact hx, hxw⟩) rfl rfl (by decide) (by decide) (by decide) (hmm _ (by have := hpl false; omega))
        rw [q2, ← htk] at hG'
        rw [List.append_nil] at hw' hfr
        obtain ⟨k1, k2⟩ := push_keep hx hxw hw' hfr
        simp only [List.append_nil] at p1
        simp [r1, r6, r7, r8, r9, r10, r11, hi, haG.len, ex, l0, l2, heq, LtS_no (LtS_irrefl n), hoD, hoA, hoV, hox, elemT, fillL, zerosL, St.new, p1, hw]
        exact ⟨k, by omega, i + 1, by omega, _, _, ⟨rfl, rfl⟩, by simp [r1], by simp [r6], by simp [r7], w', by simp, by simp [r9], .inr ⟨by simp, by simp, hG', by simpa using hdone', k1, k2, by rw [hw']; simp⟩⟩
    · have q2 := put_gt hsort hdone hgt
      have hne : ¬ a.name = n := fun e => LtS_irrefl _ (e ▸ hgt)
      have hdone' : true = true ↔ vs = [] ∨ ∃ b ∈ e.attrs.take (i + 1), ¬ LtS b.name n := ⟨fun _ => .inr ⟨a, by rw [htk]; simp, LtS_asymm hgt⟩, fun _ => rfl⟩
      cases done with
      | true =>
        simp only [if_true, List.append_nil] at q2
        obtain ⟨w', G', p1, hG', _, _, hw', hfr, _⟩ := hG.push (T := []) (x := a) (c := [.str a.name, wx]) (d := .struct [(0, 9), (1, 26)]) (by_ := 40) (z := [.str [], .slc none 0]) (sz := 2) (.inr hatx) rfl rfl (by decide) (by decide) (by decide) (hmm _ (by have := hpl true; omega))
        rw [q2, ← htk] at hG'
        rw [List.append_nil] at hw' hfr
        obtain ⟨k1, k2⟩ := push_keep hx hxw hw' hfr
        simp only [List.append_nil] at p1
        simp [r1, r6, r7, r8, r9, r10, r11, hi, haG.len, ex, l0, l2, hne, hoD, hoA, hoV, hox, elemT, fillL, zerosL, St.new, p1, hw]
        exact ⟨k, by omega, i + 1, by omega, _, _, ⟨rfl, rfl⟩, by simp [r1], by simp [r6], by simp [r7], w', by simp, by simp [r9], .inr ⟨by simp [r10], by simp, hG', by simpa using hdone', k1, k2, by rw [hw']; simp⟩⟩
      | false =>
        simp only [Bool.false_eq_true, if_false] at q2
        obtain ⟨w', G', p1, hG', _, _, hw', hfr, _⟩ := hG.push (T := []) (x := ⟨n, sortV vs⟩) (c := [.str n, wv]) (d := .struct [(0, 9), (1, 26)]) (by_ := 40) (z := [.str [], .slc none 0]) (sz := 2) (.inl ⟨F, by rw [List.append_nil]; exact hx, hxw⟩) rfl rfl (by decide) (by decide) (by decide) (hmm _ (by have := hpl false; omega))
        rw [List.append_nil] at hw' hfr
        obtain ⟨k1, k2⟩ := push_keep hx hxw hw' hfr
        obtain ⟨S', hS'⟩ := hG'.pre
        have haG' : AAttrs G' a1 e.attrs := by rw [hS']; exact ha1.ext
        obtain ⟨l0', l1', l2'⟩ := lx G' ⟨_, hS'⟩
        obtain ⟨w'', G'', p2, hG'', _, _, hw'', hfr', _⟩ := hG'.push (T := []) (x := a) (c := [.str a.name, wx]) (d := .struct [(0, 9), (1, 26)]) (by_ := 40) (z := [.str [], .slc none 0]) (sz := 2) (.inr hatx) rfl rfl (by decide) (by decide) (by decide) (hmm _ (by have := hpl false; simp; omega))
        rw [q2, ← htk] at hG''
        rw [List.append_nil] at hw'' hfr'
        obtain ⟨k3, k4⟩ := push_keep k1 k2 hw'' hfr'
        simp only [List.append_nil] at p1 p2
        simp [r1, r6, r7, r8, r9, r10, r11, hi, haG.len, haG'.len, ex, l0, l2, l0', l2', hne, LtS_dec hgt, hoD, hoA, hoV, hox, elemT, fillL, zerosL, St.new, p1, p2, hw]
        exact ⟨k, by omega, i + 1, by omega, _, _, ⟨rfl, rfl⟩, by simp [r1], by simp [r6], by simp [r7], w'', by simp, by simp [r9], .inr ⟨by simp, by simp, hG'', by simpa using hdone', k3, k4, by rw [hw'']; simp⟩⟩
end Go.Proofs.Try1
end

section
namespace Go.Proofs.Try1
open Go Go.Lite
set_option linter.unusedSimpArgs false
set_option linter.unusedVariables false

theorem EntryOk.small {e : PEntry} (h : EntryOk e) : SmallE e := by
  obtain ⟨_, h1, h2⟩ := h
  refine ⟨by have := h1.2; omega, by have := h2.2; omega, fun a ha => ?_⟩
  obtain ⟨j, hj, rfl⟩ := List.getElem_of_mem ha
  have := (h2.1 j _ (List.getElem?_eq_getElem hj)).2.2.2.2
  omega
theorem EntryOk.rise {e : PEntry} (h : EntryOk e) : e.attrs.Pairwise fun a b => a.name < b.name := rise_pair (fun j x hx => (h.2.2.1 j x hx).2.1)
theorem At_illE {H : List Ob} {c : Int} (h : (Lit.int .i64 c).wf = true) : At H shEntryOut [.slc none 0, .slc none 0, .int .i64 c] (illE c).u :=
  entryOut_at.2 ⟨_, _, rfl, At_slice.2 ⟨_, _, rfl, rfl, by simp [illE], .inl ⟨rfl, rfl⟩⟩, At_slice.2 ⟨_, _, rfl, rfl, by simp [illE], .inl ⟨rfl, rfl⟩⟩, h⟩

/-- A call hands back such an answer. -/
def EOut (H : List Ob) (o : PEntryOut) (q : V) (H' : List Ob) : Prop := ∃ T w1 w2, q = .agg [w1, w2, .int .i64 o.code] ∧ H' = H ++ T ∧ At (H ++ T) shEntryOut [w1, w2, .int .i64 o.code] o.u ∧ gcH H (H ++ T) (.agg [w1, w2, .int .i64 o.code]) = H ++ T
theorem EOut.ill {H : List Ob} {c : Int} (h : (Lit.int .i64 c).wf = true) : EOut H (illE c) (.agg [.slc none 0, .slc none 0, .int .i64 c]) H :=
  ⟨[], .slc none 0, .slc none 0, rfl, by simp, by rw [List.append_nil]; exact At_illE h, by rw [List.append_nil]; exact gcH_same⟩

set_option maxRecDepth 10000 in
set_option maxHeartbeats 4000000 in
theorem s_Put {H : List Ob} {vd va vv : V} {e : PEntry} {n : Str} {vs : List Str} (hd : ARdns H vd e.dn) (ha : AAttrs H va e.attrs) (hb : SmallE e) (hp : e.attrs.Pairwise fun a b => a.name < b.name) (hn : n.length ≤ maxLen) (hv : AStrs H vv vs) (hvl : vs.length ≤ 1000) :
    ∃ q H', callW C 99 [.agg [vd, va], .str n, vv] H = some (q, H') ∧ EOut H (putOf e n vs) q H' := by
  suffices hs : Ret C 99 [.agg [vd, va], .str n, vv] H fun q H' => EOut H (putOf e n vs) q H' by
    obtain ⟨q, H', hc, hr⟩ := hs
    exact ⟨q, H', hc, hr⟩
  rw [op99]
  have hod := hd.one
  have hoa := ha.one
  obtain ⟨r, c1, hr⟩ := s_At (t := n) ha hod.2
  have c2 := s_Ill (H := H) (c := 9)
  by_cases g : vs ≠ [] ∧ 8 ≤ e.attrs.length ∧ firstOf PAttr.name e.attrs n = none
  · have hz : 0 < vs.length := List.length_pos_iff.2 g.1
    have hz' : ¬ vs = [] := g.1
    have h8 : (8 : Int) ≤ e.attrs.length := by have := g.2.1; omega
    have hr0 : r = -1 := by
      rcases hr.pos with ⟨k, a, h1, h2, h3⟩ | ⟨h1, _⟩
      · rw [g.2.2] at h3; cases h3
      · exact h1
    subst hr0
    have hpo : putOf e n vs = illE 9 := if_pos g
    rw [hpo]
    simp [code99, Tryz.f99, c1, c2, hod, hoa, hv.len, ha.len, hz, h8]
    exact EOut.ill (by decide)
  · have hpo : putOf e n vs = ⟨setE e n (sortV vs), 0⟩ := if_neg g
    obtain ⟨T, w1, w2, c3, hat, hnl⟩ := s_Set hd ha hb hp hn hv hvl
    obtain ⟨v1, v2, hcs, a1, a2⟩ := entry_at.1 hat
    cases hcs
    have ho1 := a1.one
    have ho2 := a2.one
    have hgc : gcH H (H ++ T) (.agg [w1, w2, .int .i64 0]) = H ++ T := gcH_not fun h => hnl h.2.1
    rw [hpo]
    have fin : EOut H ⟨setE e n (sortV vs), 0⟩ (.agg [w1, w2, .int .i64 0]) (H ++ T) := ⟨T, w1, w2, rfl, rfl, entryOut_at.2 ⟨_, _, rfl, a1, a2, show (Lit.int .i64 0).wf = true by decide⟩, hgc⟩
    by_cases g1 : vs = []
    · subst g1
      simp [code99, Tryz.f99, c1, c2, c3, hod, hoa, hv.len, ha.len, buildV, structPlace, fillL, ho1, ho2, hgc]
      exact fin
    have hz : 0 < vs.length := List.length_pos_iff.2 g1
    by_cases g2 : 8 ≤ e.attrs.length
    · have h8 : (8 : Int) ≤ e.attrs.length := by omega
      have hr0 : ¬ r < 0 := by
        rcases hr.pos with ⟨k, a, h1, h2, h3⟩ | ⟨h1, h3⟩
        · omega
        · exact absurd ⟨g1, g2, h3⟩ g
      simp [code99, Tryz.f99, c1, c2, c3, hod, hoa, hv.len, ha.len, hz, h8, hr0, buildV, structPlace, fillL, ho1, ho2, hgc]
      exact fin
    · have h8 : ¬ (8 : Int) ≤ e.attrs.length := by omega
      simp [code99, Tryz.f99, c1, c2, c3, hod, hoa, hv.len, ha.len, hz, h8, buildV, structPlace, fillL, ho1, ho2, hgc]
      exact fin

set_option maxRecDepth 10000 in
set_option maxHeartbeats 4000000 in
theorem s_AttrSet {H : List Ob} {vd va vv : V} {e : PEntry} {n : Str} {vs : List Str} (hd : ARdns H vd e.dn) (ha : AAttrs H va e.attrs) (hn : n.length ≤ maxLen) (hv : AStrs H vv vs) :
    ∃ q H', callW C 17 [.agg [vd, va], .str n, vv] H = some (q, H') ∧ EOut H (attrSetOf e n vs) q H' := by
  suffices hs : Ret C 17 [.agg [vd, va], .str n, vv] H fun q H' => EOut H (attrSetOf e n vs) q H' by
    obtain ⟨q, H', hc, hr⟩ := hs
    exact ⟨q, H', hc, hr⟩
  rw [op17]
  have hod := hd.one
  have hoa := ha.one
  have c1 := s_Ill (H := H) (c := 2)
  have c2 := s_Ill (H := H) (c := 1)
  have c3 := s_Entry hd ha
  have c4 := s_Name (t := n) (H := H)
  have c5 := s_New hv
  by_cases g1 : 8000 < n.length ∨ 400 < vs.length
  · have ho : attrSetOf e n vs = illE 2 := if_pos g1
    rw [ho]
    by_cases g2 : 8000 < n.length
    · have g2' : (8000 : Int) < n.length := by omega
      simp [code17, Tryz.f17, c1, hod, hoa, hv.len, g2']
      exact EOut.ill (by decide)
    · have g2' : ¬ (8000 : Int) < n.length := by omega
      have g3' : (400 : Int) < vs.length := by omega
      simp [code17, Tryz.f17, c1, hod, hoa, hv.len, g2', g3']
      exact EOut.ill (by decide)
  · have g2' : ¬ (8000 : Int) < n.length := by omega
    have g3' : ¬ (400 : Int) < vs.length := by omega
    have ho0 : attrSetOf e n vs = if dec (EntryOk e ∧ NameOk n ∧ NewOk vs) = true then putOf e n vs else illE 1 := if_neg g1
    have hill : ¬ (EntryOk e ∧ NameOk n ∧ NewOk vs) → attrSetOf e n vs = illE 1 := fun h => by rw [ho0, dec_neg h]; rfl
    by_cases h1 : EntryOk e
    rotate_left
    · rw [dec_neg h1] at c3
      rw [hill fun h => h1 h.1]
      simp [code17, Tryz.f17, c2, c3, hod, hoa, hv.len, g2', g3']
      exact EOut.ill (by decide)
    rw [dec_pos h1] at c3
    by_cases h2 : NameOk n
    rotate_left
    · rw [dec_neg h2] at c4
      rw [hill fun h => h2 h.2.1]
      simp [code17, Tryz.f17, c2, c3, c4, hod, hoa, hv.len, g2', g3']
      exact EOut.ill (by decide)
    rw [dec_pos h2] at c4
    by_cases h3 : NewOk vs
    rotate_left
    · rw [dec_neg h3] at c5
      rw [hill fun h => h3 h.2.2]
      simp [code17, Tryz.f17, c2, c3, c4, c5, hod, hoa, hv.len, g2', g3']
      exact EOut.ill (by decide)
    rw [dec_pos h3] at c5
    have ho : attrSetOf e n vs = putOf e n vs := by rw [ho0, dec_pos ⟨h1, h2, h3⟩]; rfl
    rw [ho]
    obtain ⟨q, H', c6, T, w1, w2, rfl, rfl, hat, hgc⟩ := s_Put hd ha (EntryOk.small h1) (EntryOk.rise h1) hn hv (by omega)
    obtain ⟨_, _, hcs, a1, a2, hwf⟩ := entryOut_at.1 hat
    cases hcs
    have ho1 := a1.one
    have ho2 := a2.one
    simp [code17, Tryz.f17, c3, c4, c5, c6, hod, hoa, hv.len, g2', g3', ho1, ho2, hgc]
    exact ⟨T, w1, w2, rfl, rfl, hat, hgc⟩
end Go.Proofs.Try1
end

section
namespace Go.Proofs.Try1
open Go Go.Lite
set_option linter.unusedSimpArgs false
set_option linter.unusedVariables false

set_option maxRecDepth 10000 in
theorem i_Long {H : List Ob} {v : V} {l : List Str} (h : AStrs H v l) : callW C 101 [v] H = some (.bool (dec (∃ t ∈ l, 8000 < t.length)), H) := by
  apply Ret.dec
  rw [op101]
  have hb : l.length ≤ 9223372036854775807 := h.bound
  simp [code101, Tryz.f101, h.len]
  refine WP_loop (fun k σ => ∃ (i : Nat) (r : Nat → R), i + k = l.length ∧ σ = ⟨r, 0, H⟩ ∧ r 5 = .val v ∧ r 6 = .val (.int .i64 l.length) ∧ r 7 = .val (.int .i64 i) ∧ ∀ j x, j < i → l[j]? = some x → ¬ 8000 < x.length) ?_ l.length _ ⟨0, _, by simp, rfl, by simp, by simp, by simp, by simp⟩
  rintro k σ ⟨i, r, hik, rfl, r5, r6, r7, hall⟩
  cases k with
  | zero =>
    have hi : i = l.length := by omega
    subst hi
    have hx := at_all (P := fun j (x : Str) => ¬ 8000 < x.length) hall
    simp [r5, r6, r7]
    intro x hm
    obtain ⟨j, hj, rfl⟩ := List.getElem_of_mem hm
    have := hx j _ (List.getElem?_eq_getElem hj)
    omega
  | succ k =>
    have hi : i < l.length := by omega
    obtain ⟨x, hx⟩ : ∃ c, l[i]? = some c := ⟨l[i], by simp [hi]⟩
    have hw : IntKind.i64.wrap ((i : Int) + 1) = ((i : Int) + 1) := wrap_i64 (by omega) (by omega)
    obtain ⟨id, o, e1, l0, _⟩ := strs_idx h hx
    by_cases g1 : 8000 < x.length
    · have g1' : (8000 : Int) < x.length := by omega
      simp [r5, r6, r7, hi, e1, l0, g1']
      exact ⟨x, List.mem_of_getElem? hx, g1⟩
    · have g1' : ¬ (8000 : Int) < x.length := by omega
      simp [r5, r6, r7, hi, e1, l0, g1', hw]
      exact ⟨k, by omega, i + 1, by omega, by omega, fun j x hj hx' => Nat.not_lt.1 (at_step (P := fun j (x : Str) => ¬ 8000 < x.length) hall hx g1 j x hj hx')⟩

theorem i_ManyS {H : List Ob} {v : V} {l : List Str} (h : AStrs H v l) : callW C 102 [v] H = some (.bool (decide (400 < l.length)), H) := by
  apply Ret.eq
  rw [op102]
  simp [code102, Tryz.f102, h.len]
  omega

set_option maxRecDepth 10000 in
theorem l_CloneR {H : List Ob} {v : V} {l : List PRdn} (h : ARdns H v l) (hl : l.length ≤ 1048576) :
    ∃ T w, callW C 261 [v] H = some (w, H ++ T) ∧ New H.length (H ++ T).length (H ++ T) (.slice shRdn) [w] (.lst (l.map PRdn.u)) := by
  suffices hs : Ret C 261 [v] H fun q H' => ∃ T, H' = H ++ T ∧ New H.length (H ++ T).length (H ++ T) (.slice shRdn) [q] (.lst (l.map PRdn.u)) by
    obtain ⟨q, H', hc, T, rfl, hr⟩ := hs
    exact ⟨T, q, hc, hr⟩
  rw [op261]
  obtain ⟨w, T1, a1, n1⟩ := append_clone (d := .struct [(0, 9), (1, 9)]) (by_ := 32) (z := [.str [], .str []]) (sz := 2) h rfl rfl rfl (by decide) (by decide) (by decide) (by unfold maxMade; omega)
  obtain ⟨T', hg, hn⟩ := n1.gc1
  rcases h.sub with ⟨rfl, rfl⟩ | ⟨id, off, own, cells, rfl, _⟩
  · simp [code261, Tryz.f261]
    exact New.nil
  · simp [code261, Tryz.f261, elemT, fillL, zerosL, St.new, a1, hg]
    simpa using hn

set_option maxRecDepth 10000 in
set_option maxHeartbeats 4000000 in
theorem l_CloneS {H : List Ob} {v : V} {l : List Str} (h : AStrs H v l) (hl : l.length ≤ 1048576) :
    ∃ T w, callW C 153 [v] H = some (w, H ++ T) ∧ New H.length (H ++ T).length (H ++ T) (.slice .str) [w] (.lst (l.map strU)) := by
  suffices hs : Ret C 153 [v] H fun q H' => ∃ T, H' = H ++ T ∧ New H.length (H ++ T).length (H ++ T) (.slice .str) [q] (.lst (l.map strU)) by
    obtain ⟨q, H', hc, T, rfl, hr⟩ := hs
    exact ⟨T, q, hc, hr⟩
  rw [op153]
  obtain ⟨w, T1, a1, n1⟩ := append_clone (d := .str) (by_ := 16) (z := [.str []]) (sz := 1) h rfl rfl rfl (by decide) (by decide) (by decide) (by unfold maxMade; omega)
  obtain ⟨T', hg, hn⟩ := n1.gc1
  rcases h.sub with ⟨rfl, rfl⟩ | ⟨id, off, own, cells, rfl, _⟩
  · simp [code153, Tryz.f153]
    exact New.nil
  · simp [code153, Tryz.f153, elemT, fillL, zerosL, St.new, a1, hg]
    simpa using hn

set_option maxRecDepth 10000 in
set_option maxHeartbeats 8000000 in
theorem i_copied {H : List Ob} {vd va : V} {e : PEntry} (hd : ARdns H vd e.dn) (ha : AAttrs H va e.attrs) (hb : SmallE e) :
    ∃ T w1 w2, callW C 162 [.agg [vd, va]] H = some (.agg [w1, w2], H ++ T) ∧ New H.length (H ++ T).length (H ++ T) shEntry [w1, w2] e.u := by
  suffices hs : Ret C 162 [.agg [vd, va]] H fun q H' => ∃ T w1 w2, q = .agg [w1, w2] ∧ H' = H ++ T ∧ New H.length (H ++ T).length (H ++ T) shEntry [w1, w2] e.u by
    obtain ⟨q, H', hc, T, w1, w2, rfl, rfl, hr⟩ := hs
    exact ⟨T, w1, w2, hc, hr⟩
  rw [op162]
  have hod := hd.one
  have hoa := ha.one
  obtain ⟨T1, w1, a1, n1⟩ := l_CloneR hd hb.1
  have hb2 := hb.2.1
  have how := New.one1 n1
  obtain ⟨K, hK⟩ : ∃ K, K = H ++ T1 := ⟨_, rfl⟩
  rw [← hK] at n1 a1
  have haK : AAttrs K va e.attrs := by rw [hK]; exact ha.ext
  simp [code162, Tryz.f162, hod, hoa, a1, buildV, structPlace, fillL, how, haK.len]
  refine WP_loop (fun k σ => ∃ (i n : Nat) (r : Nat → R) (G : List Ob) (w : V), i + k = e.attrs.length ∧ σ = ⟨r, n, G⟩ ∧ r 2 = .box 1 [.slc none 0, .slc none 0] ∧ r 3 = .box 2 [w1, w] ∧ r 11 = .val va ∧ r 12 = .val (.int .i64 e.attrs.length) ∧ r 13 = .val (.int .i64 i) ∧ LstF K G shAttr PAttr.u w (e.attrs.take i)) ?_ e.attrs.length _ ⟨0, 3, _, K, .slc none 0, by simp, rfl, by simp, by simp, by simp, by simp, by simp, by simpa using LstF.nil⟩
  rintro k σ ⟨i, cn, r, G, w, hik, rfl, r2, r3, r11, r12, r13, hG⟩
  obtain ⟨S, hS⟩ := hG.pre
  have haG : AAttrs G va e.attrs := by rw [hS]; exact haK.ext
  have hwo := hG.one
  cases k with
  | zero =>
    have hi : i = e.attrs.length := by omega
    subst hi
    rw [List.take_length] at hG
    have n2 := hG.new ha.bound
    have hne : New H.length G.length G shEntry [w1, w] e.u := by
      refine New.st (News.cons (m := K.length) (c1 := [w1]) ?_ (News.one n2 (by rw [hS]; simp)) (by rw [hK]; simp) (by rw [hS]; simp))
      rw [hS]; exact n1.ext
    obtain ⟨T', hg, hn⟩ := (show New H.length G.length (H ++ (T1 ++ S)) shEntry [w1, w] e.u by rw [← List.append_assoc, ← hK, ← hS]; exact hne).gcA
    rw [← List.append_assoc, ← hK, ← hS] at hg
    simp [r2, r3, r11, r12, r13, hg, how, hwo]
    exact ⟨T', w1, w, ⟨rfl, rfl⟩, rfl, by simpa using hn⟩
  | succ k =>
    have hi : i < e.attrs.length := by omega
    obtain ⟨x, hx⟩ : ∃ c, e.attrs[i]? = some c := ⟨e.attrs[i], by simp [hi]⟩
    have hw : IntKind.i64.wrap ((i : Int) + 1) = ((i : Int) + 1) := wrap_i64 (by omega) (by omega)
    obtain ⟨id, o, wx, ex, lx, hvx, hnx, hidx, _⟩ := attrs_idxT ha hx
    have hGH : G = H ++ (T1 ++ S) := by rw [hS, hK, List.append_assoc]
    obtain ⟨l0, l1, l2⟩ := lx G ⟨_, hGH⟩
    have hvG : AStrs G wx x.vals := by rw [hGH]; exact hvx.ext
    have hox := hvG.one
    have hbx := hb.2.2 x (List.mem_of_getElem? hx)
    obtain ⟨T2, wv, a2, n2⟩ := l_CloneS hvG hbx
    have hel : New G.length (G ++ T2).length (G ++ T2) shAttr [.str x.name, wv] x.u := New.st (News.str hnx (News.one n2 (by simp)))
    obtain ⟨w', G', a3, hG', _, _⟩ := hG.push (T := T2) (d := .struct [(0, 9), (1, 26)]) (by_ := 40) (z := [.str [], .slc none 0]) (sz := 2) hel rfl rfl (by decide) (by decide) (by decide) (by simp; unfold maxMade; omega)
    rw [← take_get hx] at hG'
    have hwv := New.one1 n2
    have hw' := hG'.one
    simp only [List.append_assoc, List.length_append] at a3
    simp [r2, r3, r11, r12, r13, hi, ex, l0, l1, l2, a2, a3, Keep_append, elemT, fillL, zerosL, St.new, buildV, structPlace, hod, hoa, hox, hwv, hwo, hw', hw, List.lookup]
    exact ⟨k, by omega, i + 1, by omega, _, _, _, ⟨rfl, rfl, rfl⟩, by simp [r2], w', by simp, by simp [r11], by simp [r12], by simp, hG'⟩

set_option maxRecDepth 10000 in
set_option maxHeartbeats 4000000 in
theorem l_searchS {H : List Ob} {v : V} {l : List PAttr} {t : Str} (h : AAttrs H v l) (hl : l.length ≤ 1000) (hp : l.Pairwise fun a b => a.name < b.name) :
    ∃ (i : Nat) (ok : Bool), callW C 331 [v, .str t, .fn 332 [] []] H = some (.tup [.int .i64 i, .bool ok], H) ∧
      i ≤ l.length ∧ (∀ q a, q < i → l[q]? = some a → LtS a.name t) ∧ (∀ q a, i ≤ q → l[q]? = some a → ¬ LtS a.name t) ∧ (ok = true ↔ ∃ a, l[i]? = some a ∧ a.name = t) := by
  suffices hs : Ret C 331 [v, .str t, .fn 332 [] []] H fun q H' =>
      (∃ (i : Nat) (ok : Bool), q = .tup [.int .i64 i, .bool ok] ∧ i ≤ l.length ∧ (∀ q a, q < i → l[q]? = some a → LtS a.name t) ∧ (∀ q a, i ≤ q → l[q]? = some a → ¬ LtS a.name t) ∧ (ok = true ↔ ∃ a, l[i]? = some a ∧ a.name = t)) ∧ H' = H by
    obtain ⟨q, H', hc, ⟨i, ok, rfl, h1⟩, rfl⟩ := hs
    exact ⟨i, ok, hc, h1⟩
  rw [op331]
  simp [code331, Tryz.f331, h.len]
  refine WP_loop (fun k σ => ∃ (i j : Nat) (r : Nat → R), j - i = k ∧ i ≤ j ∧ j ≤ l.length ∧ σ = ⟨r, 0, H⟩ ∧ r 0 = .val v ∧ r 1 = .val (.str t) ∧ r 2 = .val (.fn 332 [] []) ∧ r 8 = .val (.int .i64 l.length) ∧ r 9 = .val (.int .i64 i) ∧ r 10 = .val (.int .i64 j) ∧
    (∀ q a, q < i → l[q]? = some a → LtS a.name t) ∧ (∀ q a, j ≤ q → l[q]? = some a → ¬ LtS a.name t)) ?_ l.length _ ⟨0, l.length, _, by omega, by omega, by omega, rfl, by simp, by simp, by simp, by simp, by simp, by simp, fun q a h => by omega, fun q a h1 h2 => by have := (List.getElem?_eq_some_iff.1 h2).1; omega⟩
  rintro k σ ⟨i, j, r, hk, hij, hjl, rfl, r0, r1, r2, r8, r9, r10, hlo, hhi⟩
  cases k with
  | succ k =>
    have hlt : (i : Int) < j := by omega
    have hlt' : i < j := by omega
    have hw1 : IntKind.i64.wrap ((i : Int) + j) = (i : Int) + j := wrap_i64 (by omega) (by omega)
    have hw2 : IntKind.u64.wrap ((i : Int) + j) = (i : Int) + j := by unfold IntKind.wrap; simp [IntKind.bits, IntKind.signed]; omega
    have hq : ((i : Int) + j).fdiv 2 = (((i + j) / 2 : Nat) : Int) := by rw [Int.fdiv_eq_ediv_of_nonneg _ (by omega)]; omega
    obtain ⟨m, hm⟩ : ∃ m, m = (i + j) / 2 := ⟨_, rfl⟩
    rw [← hm] at hq
    have hw3 : IntKind.i64.wrap (m : Int) = m := wrap_i64 (by omega) (by omega)
    have hw4 : IntKind.i64.wrap ((m : Int) + 1) = (m : Int) + 1 := wrap_i64 (by omega) (by omega)
    have hml : m < l.length := by omega
    obtain ⟨a, ha⟩ : ∃ a, l[m]? = some a := ⟨l[m], List.getElem?_eq_getElem hml⟩
    obtain ⟨id, o, w, e1, l0, l1, l2, hvs, _⟩ := attrs_idx h ha
    have c1 := i_byName (n := a.name) (t := t) (w := w) (H := H) hvs.one.2
    have hord : ∀ q b, l[q]? = some b → (q < m → b.name < a.name) ∧ (m < q → a.name < b.name) := fun q b hb => by
      obtain ⟨hq1, hb⟩ := List.getElem?_eq_some_iff.1 hb
      obtain ⟨_, ha⟩ := List.getElem?_eq_some_iff.1 ha
      have := List.pairwise_iff_getElem.1 hp
      exact ⟨fun hh => by have := this q m hq1 hml hh; rwa [hb, ha] at this, fun hh => by have := this m q hml hq1 hh; rwa [hb, ha] at this⟩
    by_cases g1 : LtS a.name t
    · have g1' := cmpS_lt.2 g1
      simp [r0, r1, r2, r8, r9, r10, hlt, hlt', hw1, hw2, hq, hw3, hw4, e1, l2, c1, g1', intShift, IntKind.bits]
      refine ⟨j - (m + 1), by omega, m + 1, j, by omega, by omega, by omega, by omega, rfl, fun q b hq1 hb => ?_, hhi⟩
      by_cases hqm : q = m
      · subst hqm; rw [ha] at hb; cases hb; exact g1
      · exact (LtS_iff _ _).2 (List.lt_trans ((hord q b hb).1 (by omega)) ((LtS_iff _ _).1 g1))
    · have g1' : ¬ cmpS a.name t < 0 := mt cmpS_lt.1 g1
      simp [r0, r1, r2, r8, r9, r10, hlt, hlt', hw1, hw2, hq, hw3, hw4, e1, l2, c1, g1', intShift, IntKind.bits]
      refine ⟨m - i, by omega, i, m, by omega, by omega, by omega, rfl, rfl, hlo, fun q b hq1 hb hlt2 => ?_⟩
      by_cases hqm : q = m
      · subst hqm; rw [ha] at hb; cases hb; exact g1 hlt2
      · exact g1 ((LtS_iff _ _).2 (List.lt_trans ((hord q b hb).2 (by omega)) ((LtS_iff _ _).1 hlt2)))
  | zero =>
    have hij' : i = j := by omega
    subst hij'
    by_cases hil : i < l.length
    · have hilI : (i : Int) < l.length := by omega
      obtain ⟨a, ha⟩ : ∃ a, l[i]? = some a := ⟨l[i], List.getElem?_eq_getElem hil⟩
      obtain ⟨id, o, w, e1, l0, l1, l2, hvs, _⟩ := attrs_idx h ha
      have c1 := i_byName (n := a.name) (t := t) (w := w) (H := H) hvs.one.2
      by_cases g1 : a.name = t
      · have g1' := cmpS_eq.2 g1
        simp [r0, r1, r2, r8, r9, r10, hil, e1, l2, c1, g1']
        exact ⟨i, rfl, by omega, hlo, hhi, a, ha, g1⟩
      · have g1' : ¬ cmpS a.name t = 0 := mt cmpS_eq.1 g1
        simp [r0, r1, r2, r8, r9, r10, hil, e1, l2, c1, g1']
        exact ⟨i, rfl, by omega, hlo, hhi, fun b hb => by rw [ha] at hb; cases hb; exact g1⟩
    · simp [r0, r1, r2, r8, r9, r10, hil]
      exact ⟨i, rfl, by omega, hlo, hhi, fun b hb => by have := (List.getElem?_eq_some_iff.1 hb).1; omega⟩

set_option maxRecDepth 10000 in
theorem i_findS {H : List Ob} {ide : Nat} {own : Bool} {es : Nat} {vd va : V} {l : List PAttr} {t : Str} (he : H[ide]? = some (.mk own es [vd, va])) (h : AAttrs H va l) (hl : l.length ≤ 1000) (hp : l.Pairwise fun a b => a.name < b.name) :
    ∃ (i : Nat) (ok : Bool), callW C 226 [.ptr (some (ide, 0)), .str t] H = some (.tup [.int .i64 i, .bool ok], H) ∧ i ≤ l.length ∧ (∀ q a, q < i → l[q]? = some a → LtS a.name t) ∧ (∀ q a, i ≤ q → l[q]? = some a → ¬ LtS a.name t) ∧ (ok = true ↔ ∃ a, l[i]? = some a ∧ a.name = t) := by
  obtain ⟨i, ok, c1, h1⟩ := l_searchS (t := t) h hl hp
  refine ⟨i, ok, ?_, h1⟩
  apply Ret.eq
  rw [op226]
  have ld := load1 (o := 1) (v := va) he rfl
  simp [code226, Tryz.f226, ld, c1]
end Go.Proofs.Try1
end

section
namespace Go.Proofs.Try1
open Go Go.Lite
set_option linter.unusedSimpArgs false
set_option linter.unusedVariables false

/-- What TreeGet answers. -/
noncomputable def treeGetOf (t : PTree) (dn : List PRdn) : PEntryOut :=
  if 400 < dn.length then illE 2 else if dec (TreeOk t ∧ DnOk dn) = true then (match firstOf keyE t.entries (keyD dn) with
    | some e => ⟨e, 0⟩
    | none => illE 6) else illE 1

theorem TreeOk.dns {t : PTree} (h : TreeOk t) : ∀ x ∈ t.entries, EntryOk x := fun x hx => by
  obtain ⟨j, hj, rfl⟩ := List.getElem_of_mem hx
  exact (h.2.1.2 j _ (List.getElem?_eq_getElem hj)).1

set_option maxRecDepth 10000 in
set_option maxHeartbeats 4000000 in
theorem s_TreeGet {H : List Ob} {vs ve vd : V} {t : PTree} {dn : List PRdn} (hs : AClasses H vs t.schema) (h : AEntries H ve t.entries) (hd : ARdns H vd dn) :
    ∃ q H', callW C 53 [.agg [vs, ve], vd] H = some (q, H') ∧ NOut H (treeGetOf t dn) q H' := by
  suffices hs : Ret C 53 [.agg [vs, ve], vd] H fun q H' => NOut H (treeGetOf t dn) q H' by
    obtain ⟨q, H', hc, hr⟩ := hs
    exact ⟨q, H', hc, hr⟩
  rw [op53]
  have hos := hs.one
  have hoe := h.one
  have c1 := s_Ill (H := H) (c := 2)
  have c2 := s_Ill (H := H) (c := 1)
  have c3 := s_Ill (H := H) (c := 6)
  have c4 := s_TreeRight hs h
  have c5 := s_Dn hd
  by_cases g1 : 400 < dn.length
  · have g1' : (400 : Int) < dn.length := by omega
    have e : treeGetOf t dn = illE 2 := if_pos g1
    rw [e]
    simp [code53, Tryz.f53, hos, hoe, hd.len, g1', c1, fillL, zerosL]
    exact NOut.ill (by decide)
  have g1' : ¬ (400 : Int) < dn.length := by omega
  by_cases g2 : TreeOk t
  rotate_left
  · rw [dec_neg g2] at c4
    have e : treeGetOf t dn = illE 1 := by unfold treeGetOf; rw [if_neg g1, dec_neg (fun h => g2 h.1)]; rfl
    rw [e]
    simp [code53, Tryz.f53, hos, hoe, hd.len, g1', c2, c4, fillL, zerosL]
    exact NOut.ill (by decide)
  rw [dec_pos g2] at c4
  by_cases g3 : DnOk dn
  rotate_left
  · rw [dec_neg g3] at c5
    have e : treeGetOf t dn = illE 1 := by unfold treeGetOf; rw [if_neg g1, dec_neg (fun h => g3 h.2)]; rfl
    rw [e]
    simp [code53, Tryz.f53, hos, hoe, hd.len, g1', c2, c4, c5, fillL, zerosL]
    exact NOut.ill (by decide)
  rw [dec_pos g3] at c5
  have c6 := s_Key hd g3
  obtain ⟨q, c7, hq⟩ := s_TAt (vs := vs) (t := keyD dn) h (fun x hx => (TreeOk.dns g2 x hx).2.1) hos
  have e : treeGetOf t dn = match firstOf keyE t.entries (keyD dn) with
    | some e => ⟨e, 0⟩
    | none => illE 6 := by unfold treeGetOf; rw [if_neg g1, dec_pos ⟨g2, g3⟩]; rfl
  rcases hq.pos with ⟨k, x, h1, rfl, h2⟩ | ⟨rfl, h2⟩
  · rw [h2] at e
    simp only at e
    have hk : ¬ ((k : Int) < 0) := by omega
    obtain ⟨id, o, w1, w2, e1, l0, l1, lm, a1, a2, _⟩ := entries_idx h h1
    obtain ⟨T, y1, y2, c8, hn⟩ := s_Copy a1 a2 (EntryOk.small (TreeOk.dns g2 x (List.mem_of_getElem? h1)))
    have ho1 := a1.one
    have ho2 := a2.one
    obtain ⟨_, _, hcy, b1, b2⟩ := entry_at.1 hn.at
    cases hcy
    have hoy1 := b1.one
    have hoy2 := b2.one
    rw [e]
    simp [code53, Tryz.f53, hos, hoe, hd.len, g1', c4, c5, c6, c7, hk, e1, lm, c8, ho1, ho2, hoy1, hoy2, fillL, zerosL, buildV, structPlace, regionL_none, regionL_some, List.lookup]
    exact NOut.of ⟨T, rfl⟩ hn
  · rw [h2] at e
    simp only at e
    rw [e]
    simp [code53, Tryz.f53, hos, hoe, hd.len, g1', c3, c4, c5, c6, c7, fillL, zerosL, regionL_none, regionL_some, List.lookup]
    exact NOut.ill (by decide)
end Go.Proofs.Try1
end

section
namespace Go.Proofs.Try1
open Go Go.Lite
set_option linter.unusedSimpArgs false
set_option linter.unusedVariables false

/-- A class of no more than what a law takes. -/
def SmallC (c : PClass) : Prop := c.must.length ≤ 1048576 ∧ c.may.length ≤ 1048576 ∧ c.single.length ≤ 1048576

set_option maxRecDepth 10000 in
set_option maxHeartbeats 8000000 in
theorem s_CopyC {H : List Ob} {v1 v2 v3 : V} {c : PClass} (h1 : AStrs H v1 c.must) (h2 : AStrs H v2 c.may) (h3 : AStrs H v3 c.single) (hn : c.name.length ≤ maxLen) (hb : SmallC c) :
    ∃ T w1 w2 w3, callW C 147 [.agg [.str c.name, v1, v2, v3]] H = some (.agg [.str c.name, w1, w2, w3], H ++ T) ∧ New H.length (H ++ T).length (H ++ T) shClass [.str c.name, w1, w2, w3] c.u := by
  suffices hs : Ret C 147 [.agg [.str c.name, v1, v2, v3]] H fun q H' => ∃ T w1 w2 w3, q = .agg [.str c.name, w1, w2, w3] ∧ H' = H ++ T ∧ New H.length (H ++ T).length (H ++ T) shClass [.str c.name, w1, w2, w3] c.u by
    obtain ⟨q, H', hc, T, w1, w2, w3, rfl, rfl, hr⟩ := hs
    exact ⟨T, w1, w2, w3, hc, hr⟩
  rw [op147]
  obtain ⟨w1, T1, a1, n1⟩ := append_clone (d := .str) (by_ := 16) (z := [.str []]) (sz := 1) h1 rfl rfl rfl (by decide) (by decide) (by decide) (by have := hb.1; unfold maxMade; omega)
  obtain ⟨A, hA⟩ : ∃ A, A = H ++ T1 := ⟨_, rfl⟩
  rw [← hA] at a1 n1
  obtain ⟨w2, T2, a2, n2⟩ := append_clone (d := .str) (by_ := 16) (z := [.str []]) (sz := 1) (by rw [hA]; exact h2.ext : AStrs A v2 c.may) rfl rfl rfl (by decide) (by decide) (by decide) (by have := hb.2.1; unfold maxMade; omega)
  obtain ⟨B, hB⟩ : ∃ B, B = A ++ T2 := ⟨_, rfl⟩
  rw [← hB] at a2 n2
  obtain ⟨w3, T3, a3, n3⟩ := append_clone (d := .str) (by_ := 16) (z := [.str []]) (sz := 1) (by rw [hB, hA]; exact h3.ext.ext : AStrs B v3 c.single) rfl rfl rfl (by decide) (by decide) (by decide) (by have := hb.2.2; unfold maxMade; omega)
  have ho1 := New.one1 n1
  have ho2 := New.one1 n2
  have ho3 := New.one1 n3
  have hAl : H.length ≤ A.length := by rw [hA]; simp
  have hBl : A.length ≤ B.length := by rw [hB]; simp
  have hne : New H.length (B ++ T3).length (B ++ T3) shClass [.str c.name, w1, w2, w3] c.u :=
    New.st (News.str hn (News.cons (m := A.length) (c1 := [w1]) (by rw [hB, List.append_assoc]; exact n1.ext) (News.cons (m := B.length) (c1 := [w2]) n2.ext (News.one n3 (by simp)) hBl (by simp)) hAl (by simp; omega)))
  have hGH : B ++ T3 = H ++ (T1 ++ T2 ++ T3) := by rw [hB, hA]; simp
  rw [hGH] at hne
  obtain ⟨T', hg, hn'⟩ := hne.gcA
  rw [← hGH] at hg
  have o1 := h1.one
  have o2 := h2.one
  have o3 := h3.one
  simp [code147, Tryz.f147, o1, o2, o3, elemT, fillL, zerosL, St.new, a1, a2, a3, ← hA, ← hB, ho1, ho2, ho3, hg, List.lookup]
  exact ⟨T', w1, w2, w3, ⟨rfl, rfl, rfl⟩, rfl, by simpa using hn'⟩

set_option maxRecDepth 10000 in
set_option maxHeartbeats 8000000 in
theorem s_CopyCs {H : List Ob} {vl : V} {l : List PClass} (h : AClasses H vl l) (hb : l.length ≤ 1048576 ∧ ∀ c ∈ l, SmallC c) :
    ∃ T w, callW C 204 [vl] H = some (w, H ++ T) ∧ New H.length (H ++ T).length (H ++ T) (.slice shClass) [w] (.lst (l.map PClass.u)) := by
  suffices hs : Ret C 204 [vl] H fun q H' => ∃ T, H' = H ++ T ∧ New H.length (H ++ T).length (H ++ T) (.slice shClass) [q] (.lst (l.map PClass.u)) by
    obtain ⟨q, H', hc, T, rfl, hr⟩ := hs
    exact ⟨T, q, hc, hr⟩
  rw [op204]
  have hbl := hb.1
  simp [code204, Tryz.f204, elemT, fillL, zerosL, St.new]
  refine WP_loop (fun k σ => ∃ (i : Nat) (r : Nat → R) (G : List Ob) (w : V), i + k = l.length ∧ σ = ⟨r, 0, G⟩ ∧ r 0 = .val vl ∧ r 3 = .val w ∧ r 4 = .val (.int .i64 i) ∧ LstF H G shClass PClass.u w (l.take i)) ?_ l.length _ ⟨0, _, H ++ [.mk true 4 []], .slc (some (H.length, 0)) 0, by simp, rfl, by simp, by simp, by simp, by rw [List.take_zero]; exact LstF.init (sh := shClass)⟩
  rintro k σ ⟨i, r, G, w, hik, rfl, r0, r3, r4, hG⟩
  obtain ⟨S, hS⟩ := hG.pre
  have hlG : AClasses G vl l := by rw [hS]; exact h.ext
  have hwo := hG.one
  cases k with
  | zero =>
    have hi : i = l.length := by omega
    subst hi
    rw [List.take_length] at hG
    have n2 := hG.new h.bound
    obtain ⟨T', hg, hn⟩ := (show New H.length G.length (H ++ S) (.slice shClass) [w] (.lst (l.map PClass.u)) by rw [← hS]; exact n2).gc1
    rw [← hS] at hg
    simp [r0, r3, r4, hlG.len, hg, hwo]
    simpa using hn
  | succ k =>
    have hi : i < l.length := by omega
    obtain ⟨x, hx⟩ : ∃ c, l[i]? = some c := ⟨l[i], by simp [hi]⟩
    have hw : IntKind.i64.wrap ((i : Int) + 1) = ((i : Int) + 1) := wrap_i64 (by omega) (by omega)
    obtain ⟨id, o, w1, w2, w3, e1, l0, l4, q1, q2, q3, _, hnm⟩ := classes_idx hlG hx
    obtain ⟨T2, y1, y2, y3, c1, n1⟩ := s_CopyC q1 q2 q3 hnm (hb.2 x (List.mem_of_getElem? hx))
    obtain ⟨w', G', a3, hG', _, _⟩ := hG.push (T := T2) (d := .struct [(0, 9), (1, 26), (2, 26), (3, 26)]) (by_ := 88) (z := [.str [], .slc none 0, .slc none 0, .slc none 0]) (sz := 4) n1 rfl rfl (by decide) (by decide) (by decide) (by simp; unfold maxMade; omega)
    rw [← take_get hx] at hG'
    obtain ⟨_, _, _, hcy, _, b1, b2, b3⟩ := class_at.1 n1.at
    cases hcy
    have hw' := hG'.one
    have o1 := q1.one
    have o2 := q2.one
    have o3 := q3.one
    have p1 := b1.one
    have p2 := b2.one
    have p3 := b3.one
    simp only [List.append_assoc, List.length_append] at a3
    simp [r0, r3, r4, hi, hlG.len, e1, l0, l4, c1, a3, elemT, fillL, zerosL, St.new, buildV, o1, o2, o3, p1, p2, p3, hwo, hw', hw]
    exact ⟨k, by omega, i + 1, by omega, _, _, ⟨rfl, rfl⟩, by simp [r0], w', by simp, by simp, hG'⟩
end Go.Proofs.Try1
end

section
namespace Go.Proofs.Try1
open Go Go.Lite
set_option linter.unusedSimpArgs false
set_option linter.unusedVariables false

/-- A tree of no more than what a law takes. -/
def SmallT (t : PTree) : Prop := (t.schema.length ≤ 1048576 ∧ ∀ c ∈ t.schema, SmallC c) ∧ t.entries.length ≤ 1048576 ∧ ∀ e ∈ t.entries, SmallE e

set_option maxRecDepth 10000 in
set_option maxHeartbeats 8000000 in
theorem s_CopyT {H : List Ob} {vs ve : V} {t : PTree} (hs : AClasses H vs t.schema) (h : AEntries H ve t.entries) (hb : SmallT t) :
    ∃ T w1 w2, callW C 360 [.agg [vs, ve]] H = some (.agg [w1, w2], H ++ T) ∧ New H.length (H ++ T).length (H ++ T) shTree [w1, w2] t.u := by
  suffices hs : Ret C 360 [.agg [vs, ve]] H fun q H' => ∃ T w1 w2, q = .agg [w1, w2] ∧ H' = H ++ T ∧ New H.length (H ++ T).length (H ++ T) shTree [w1, w2] t.u by
    obtain ⟨q, H', hc, T, w1, w2, rfl, rfl, hr⟩ := hs
    exact ⟨T, w1, w2, hc, hr⟩
  rw [op360]
  have hos := hs.one
  have hoe := h.one
  have hbe := hb.2.1
  obtain ⟨T1, w1, c1, n1⟩ := s_CopyCs hs hb.1
  have how := New.one1 n1
  obtain ⟨K, hK⟩ : ∃ K, K = H ++ T1 := ⟨_, rfl⟩
  rw [← hK] at n1 c1
  have hKl : H.length ≤ K.length := by rw [hK]; simp
  have haK : AEntries K ve t.entries := by rw [hK]; exact h.ext
  simp [code360, Tryz.f360, hos, hoe, c1, fillL, zerosL, buildV, structPlace, how]
  refine WP_loop (fun k σ => ∃ (i : Nat) (r : Nat → R) (G : List Ob) (w : V), i + k = t.entries.length ∧ σ = ⟨r, 3, G⟩ ∧ r 1 = .box 0 [vs, ve] ∧ r 2 = .box 1 [.slc none 0, .slc none 0] ∧ r 3 = .box 2 [w1, w] ∧ r 4 = .val (.int .i64 i) ∧ LstF K G shEntry PEntry.u w (t.entries.take i)) ?_ t.entries.length _ ⟨0, _, K, .slc none 0, by simp, rfl, by simp, by simp, by simp, by simp, by simpa using LstF.nil⟩
  rintro k σ ⟨i, r, G, w, hik, rfl, r1, r2, r3, r4, hG⟩
  obtain ⟨S, hS⟩ := hG.pre
  have haG : AEntries G ve t.entries := by rw [hS]; exact haK.ext
  have hwo := hG.one
  cases k with
  | zero =>
    have hi : i = t.entries.length := by omega
    subst hi
    rw [List.take_length] at hG
    have n2 := hG.new h.bound
    have hne : New H.length G.length G shTree [w1, w] t.u := by
      refine New.st (News.cons (m := K.length) (c1 := [w1]) ?_ (News.one n2 (by rw [hS]; simp)) hKl (by rw [hS]; simp))
      rw [hS]; exact n1.ext
    obtain ⟨T', hg, hn⟩ := (show New H.length G.length (H ++ (T1 ++ S)) shTree [w1, w] t.u by rw [← List.append_assoc, ← hK, ← hS]; exact hne).gcA
    rw [← List.append_assoc, ← hK, ← hS] at hg
    simp [r1, r2, r3, r4, haG.len, hg, how, hwo]
    exact ⟨T', w1, w, ⟨rfl, rfl⟩, rfl, by simpa using hn⟩
  | succ k =>
    have hi : i < t.entries.length := by omega
    obtain ⟨x, hx⟩ : ∃ c, t.entries[i]? = some c := ⟨t.entries[i], by simp [hi]⟩
    have hw : IntKind.i64.wrap ((i : Int) + 1) = ((i : Int) + 1) := wrap_i64 (by omega) (by omega)
    obtain ⟨id, o, v1, v2, e1, l0, l1, lm, a1, a2, _⟩ := entries_idx haG hx
    have hid := lo_of l0
    obtain ⟨T2, y1, y2, c2, n2⟩ := s_Copy a1 a2 (hb.2.2 x (List.mem_of_getElem? hx))
    obtain ⟨_, _, hcy, b1, b2⟩ := entry_at.1 n2.at
    cases hcy
    obtain ⟨w', G', a3, hG', _, _⟩ := hG.push (T := T2) (d := .struct [(0, 29), (1, 30)]) (by_ := 48) (z := [.slc none 0, .slc none 0]) (sz := 2) n2 rfl rfl (by decide) (by decide) (by decide) (by simp; unfold maxMade; omega)
    rw [← take_get hx] at hG'
    have hw' := hG'.one
    have o1 := a1.one
    have o2 := a2.one
    have p1 := b1.one
    have p2 := b2.one
    simp only [List.append_assoc, List.length_append] at a3
    simp [r1, r2, r3, r4, hi, haG.len, e1, l0, l1, lm, hid, c2, a3, Keep_append, elemT, fillL, zerosL, St.new, buildV, structPlace, hos, hoe, o1, o2, p1, p2, hwo, hw', hw, how, regionL_none, regionL_some, List.lookup]
    exact ⟨k, by omega, i + 1, by omega, _, _, ⟨rfl, rfl⟩, by simp [r1], by simp [r2], w', by simp, by simp, hG'⟩
end Go.Proofs.Try1
end

section
namespace Go.Proofs.Try1
open Go Go.Lite
set_option linter.unusedSimpArgs false
set_option linter.unusedVariables false

structure PTreeOut where
  tree : PTree
  entries : List PEntry
  code : Int
def PTreeOut.u (o : PTreeOut) : U := .st [o.tree.u, .lst (o.entries.map PEntry.u), .int o.code]
abbrev shTreeOut : Sh := .st [shTree, .slice shEntry, .int .i64]
def illT (c : Int) : PTreeOut := ⟨⟨[], []⟩, [], c⟩

theorem s_IllT {H : List Ob} {c : Int} : callW C 177 [.int .i64 c] H = some (.agg [.slc none 0, .slc none 0, .slc none 0, .int .i64 c], H) := by
  apply Ret.eq
  rw [op177]
  simp [code177, Tryz.f177, buildV, structPlace, fillL, zerosL]

/-- An answer of a call's own. -/
def TOut (H : List Ob) (o : PTreeOut) (q : V) (H' : List Ob) : Prop := ∃ T w1 w2 w3, q = .agg [w1, w2, w3, .int .i64 o.code] ∧ H' = H ++ T ∧ New H.length (H ++ T).length (H ++ T) shTreeOut [w1, w2, w3, .int .i64 o.code] o.u
theorem TOut.ill {H : List Ob} {c : Int} (h : (Lit.int .i64 c).wf = true) : TOut H (illT c) (.agg [.slc none 0, .slc none 0, .slc none 0, .int .i64 c]) H :=
  ⟨[], .slc none 0, .slc none 0, .slc none 0, rfl, by simp, New.st (News.cons (c1 := [.slc none 0, .slc none 0]) (m := H.length) (New.st (News.nilS (News.nilS News.nil))) (News.nilS (News.int h News.nil)) (Nat.le_refl _) (by simp))⟩
theorem TOut.of {H G : List Ob} {t : PTree} {w1 w2 : V} (hT : ∃ T, G = H ++ T) (hn : New H.length G.length G shTree [w1, w2] t.u) : TOut H ⟨t, [], 0⟩ (.agg [w1, w2, .slc none 0, .int .i64 0]) (gcH H G (.agg [w1, w2, .slc none 0, .int .i64 0])) := by
  obtain ⟨T, rfl⟩ := hT
  have h2 : New H.length (H ++ T).length (H ++ T) shTreeOut [w1, w2, .slc none 0, .int .i64 0] (PTreeOut.u ⟨t, [], 0⟩) := New.st (News.cons (c1 := [w1, w2]) (m := (H ++ T).length) hn (News.nilS (News.int (by decide) News.nil)) (by simp) (Nat.le_refl _))
  obtain ⟨T', h3, h4⟩ := h2.gcA
  exact ⟨T', w1, w2, .slc none 0, rfl, h3, h4⟩
end Go.Proofs.Try1
end

section
namespace Go.Proofs.Try1
open Go Go.Lite
set_option linter.unusedSimpArgs false
set_option linter.unusedVariables false
set_option maxRecDepth 10000 in
theorem eq_TreeOut : EqFn 69 shTreeOut := by
  intro H cs ds u w h h'
  replace h := At_st.1 h
  obtain ⟨usa, rfl, h⟩ := h
  replace h := Ats_cons.1 h
  obtain ⟨ca0, da0, ua0, rra0, rfl, rfl, ha0, h⟩ := h
  replace h := Ats_cons.1 h
  obtain ⟨ca1, da1, ua1, rra1, rfl, rfl, ha1, h⟩ := h
  replace h := Ats_cons.1 h
  obtain ⟨ca2, da2, ua2, rra2, rfl, rfl, ha2, h⟩ := h
  replace h := Ats_nil.1 h
  obtain ⟨rfl, rfl⟩ := h
  have ka0 := ha0
  replace ha0 := At_st.1 ha0
  obtain ⟨usa0_, rfl, ha0⟩ := ha0
  replace ha0 := Ats_cons.1 ha0
  obtain ⟨ca0_0, da0_0, ua0_0, rra0_0, rfl, rfl, ha0_0, ha0⟩ := ha0
  replace ha0 := Ats_cons.1 ha0
  obtain ⟨ca0_1, da0_1, ua0_1, rra0_1, rfl, rfl, ha0_1, ha0⟩ := ha0
  replace ha0 := Ats_nil.1 ha0
  obtain ⟨rfl, rfl⟩ := ha0
  have ka0_0 := ha0_0
  replace ha0_0 := At_slice.1 ha0_0
  obtain ⟨va0_0, la0_0, rfl, rfl, wa0_0, hva0_0⟩ := ha0_0
  have oa0_0 := hva0_0.one
  have ka0_1 := ha0_1
  replace ha0_1 := At_slice.1 ha0_1
  obtain ⟨va0_1, la0_1, rfl, rfl, wa0_1, hva0_1⟩ := ha0_1
  have oa0_1 := hva0_1.one
  have ka1 := ha1
  replace ha1 := At_slice.1 ha1
  obtain ⟨va1, la1, rfl, rfl, wa1, hva1⟩ := ha1
  have oa1 := hva1.one
  replace ha2 := At_int.1 ha2
  obtain ⟨na2, rfl, rfl, wa2⟩ := ha2
  replace h' := At_st.1 h'
  obtain ⟨usb, rfl, h'⟩ := h'
  replace h' := Ats_cons.1 h'
  obtain ⟨cb0, db0, ub0, rrb0, rfl, rfl, hb0, h'⟩ := h'
  replace h' := Ats_cons.1 h'
  obtain ⟨cb1, db1, ub1, rrb1, rfl, rfl, hb1, h'⟩ := h'
  replace h' := Ats_cons.1 h'
  obtain ⟨cb2, db2, ub2, rrb2, rfl, rfl, hb2, h'⟩ := h'
  replace h' := Ats_nil.1 h'
  obtain ⟨rfl, rfl⟩ := h'
  have kb0 := hb0
  replace hb0 := At_st.1 hb0
  obtain ⟨usb0_, rfl, hb0⟩ := hb0
  replace hb0 := Ats_cons.1 hb0
  obtain ⟨cb0_0, db0_0, ub0_0, rrb0_0, rfl, rfl, hb0_0, hb0⟩ := hb0
  replace hb0 := Ats_cons.1 hb0
  obtain ⟨cb0_1, db0_1, ub0_1, rrb0_1, rfl, rfl, hb0_1, hb0⟩ := hb0
  replace hb0 := Ats_nil.1 hb0
  obtain ⟨rfl, rfl⟩ := hb0
  have kb0_0 := hb0_0
  replace hb0_0 := At_slice.1 hb0_0
  obtain ⟨vb0_0, lb0_0, rfl, rfl, wb0_0, hvb0_0⟩ := hb0_0
  have ob0_0 := hvb0_0.one
  have kb0_1 := hb0_1
  replace hb0_1 := At_slice.1 hb0_1
  obtain ⟨vb0_1, lb0_1, rfl, rfl, wb0_1, hvb0_1⟩ := hb0_1
  have ob0_1 := hvb0_1.one
  have kb1 := hb1
  replace hb1 := At_slice.1 hb1
  obtain ⟨vb1, lb1, rfl, rfl, wb1, hvb1⟩ := hb1
  have ob1 := hvb1.one
  replace hb2 := At_int.1 hb2
  obtain ⟨nb2, rfl, rfl, wb2⟩ := hb2
  obtain ⟨t0, e0, q0⟩ := eq_Tree H _ _ _ _ ka0 kb0
  simp only [valC, List.headD_cons, List.append_nil, List.cons_append, List.nil_append] at q0
  cases t0 with
  | false =>
    have e0 : ¬ (.st [(.lst la0_0), (.lst la0_1)]) = (U.st [(U.lst lb0_0), (U.lst lb0_1)]) := fun h => by simpa using e0.2 h
    refine ⟨false, by simp only [U.st.injEq, List.cons.injEq, e0, and_false, false_and, Bool.false_eq_true], ?_⟩
    apply Ret.eq
    rw [op69]
    simp [code69, Tryz.f69, valC, q0, oa0_0, oa0_1, oa1, ob0_0, ob0_1, ob1]
  | true =>
  have e0 := e0.1 rfl
  obtain ⟨t1, e1, q1⟩ := eq_EntryS H _ _ _ _ ka1 kb1
  simp only [valC, List.headD_cons, List.append_nil, List.cons_append, List.nil_append] at q1
  cases t1 with
  | false =>
    have e1 : ¬ (.lst la1) = (U.lst lb1) := fun h => by simpa using e1.2 h
    refine ⟨false, by simp only [U.st.injEq, List.cons.injEq, e1, and_false, false_and, Bool.false_eq_true], ?_⟩
    apply Ret.eq
    rw [op69]
    simp [code69, Tryz.f69, valC, q0, q1, oa0_0, oa0_1, oa1, ob0_0, ob0_1, ob1]
  | true =>
  have e1 := e1.1 rfl
  by_cases e2 : na2 = nb2
  rotate_left
  · refine ⟨false, by simp [e2], ?_⟩
    apply Ret.eq
    rw [op69]
    simp [code69, Tryz.f69, valC, q0, q1, e2, oa0_0, oa0_1, oa1, ob0_0, ob0_1, ob1]
  subst e2
  refine ⟨true, by simp only [e0, e1], ?_⟩
  apply Ret.eq
  rw [op69]
  simp [code69, Tryz.f69, valC, q0, q1, oa0_0, oa0_1, oa1, ob0_0, ob0_1, ob1]
end Go.Proofs.Try1
end

section
namespace Go.Proofs.Try1
open Go Go.Lite
set_option linter.unusedSimpArgs false
set_option linter.unusedVariables false

set_option maxRecDepth 10000 in
theorem mk_TreeOut : MkFn 70 shTreeOut := by
  intro H cs u F k h hn hk
  obtain ⟨us, rfl, g0⟩ := AtF_st.1 h
  obtain ⟨c1, c2, u1, us1, F1, F2, rfl, rfl, rfl, h1, g1⟩ := AtsF_cons.1 g0
  obtain ⟨c3, c4, u2, us2, F3, F4, rfl, rfl, rfl, h2, g2⟩ := AtsF_cons.1 g1
  obtain ⟨c5, c6, u3, us3, F5, F6, rfl, rfl, rfl, h3, g3⟩ := AtsF_cons.1 g2
  obtain ⟨rfl, rfl, rfl⟩ := AtsF_nil.1 g3
  obtain ⟨⟨n, rfl, rfl, w⟩, rfl⟩ := AtF_int.1 h3
  obtain ⟨e, rfl⟩ := tree_typed (AtF.at _ h1)
  obtain ⟨v1, v2, rfl, a1, a2⟩ := tree_at.1 (AtF.at _ h1)
  obtain ⟨v3, l3, rfl, rfl, l3b, _⟩ := AtF_slice.1 h2
  have ho1 := a1.one
  have ho2 := a2.one
  have ho3 : isOne v3 = true ∧ cellsOf v3 = some [v3] := by
    have := At.ones _ (AtF.at _ h2)
    simp only [List.all_cons, List.all_nil, Bool.and_true] at this
    exact ⟨this, isOne_cells this⟩
  simp only [List.append_nil] at hn ⊢
  simp only [cntV_st, cntVs_cons, cntVs_nil, cntV_int, Nat.add_zero] at hk ⊢
  obtain ⟨n1, n2, nd⟩ := List.nodup_append.1 hn
  obtain ⟨H1, q1, len1, fr1, m1⟩ := mk_Tree H [v1, v2] _ F1 k h1 n1 (by omega)
  have h2' := AtF.frame (H' := H1) _ (fun q hq => fr1 q fun hm => nd q hm q hq rfl) h2
  obtain ⟨H2, q2, len2, fr2, m2⟩ := mk_EntryS H1 [v3] _ F3 (k + cntV e.u) h2' n2 (by omega)
  have m1' := AtF.frame (H' := H2) _ (fun q hq => fr2 q fun hm => nd q hq q hm rfl) m1
  simp only [valC, List.headD_cons] at q1 q2
  apply Ret.mark
  rw [op70]
  simp only [Int.natCast_add] at q1 q2
  simp [code70, Tryz.f70, valC, q1, q2, ho1, ho2, ho3, gcH_len (len2.trans len1)]
  refine ⟨by omega, len2.trans len1, fun q hq1 hq2 => (fr2 q hq2).trans (fr1 q hq1), ?_⟩
  have hA : AtF H2 shTreeOut [v1, v2, v3, .int .i64 n] (.st [mkV e.u k, mkV (.lst l3) (k + cntV e.u), .int n]) (F1 ++ F3) := AtF_st.2 ⟨_, rfl, AtsF_cons.2 ⟨[v1, v2], [v3, .int .i64 n], _, [_, .int n], F1, F3, rfl, rfl, rfl, m1', AtsF_cons.2 ⟨[v3], [.int .i64 n], _, [.int n], F3, [], rfl, rfl, (List.append_nil _).symm, m2, AtsF_cons.2 ⟨[.int .i64 n], [], _, [], [], [], rfl, rfl, rfl, AtF_int.2 ⟨⟨n, rfl, rfl, w⟩, rfl⟩, AtsF_nil.2 ⟨rfl, rfl, rfl⟩⟩⟩⟩⟩
  have hM : mkV (U.st [e.u, .lst l3, .int n]) k = .st [mkV e.u k, mkV (.lst l3) (k + cntV e.u), .int n] := by simp [mkV, mkVs]
  rw [hM]
  exact hA

set_option maxRecDepth 10000 in
theorem held_TreeOut : HeldFn 71 shTreeOut := by
  intro H cs u k h hk
  obtain ⟨us, hu, g0⟩ := At_st.1 h
  obtain ⟨us, rfl, rfl⟩ := mkV_st hu
  obtain ⟨c1, c2, u1, us1, rfl, hu1, h1, g1⟩ := Ats_cons.1 g0
  obtain ⟨u1, us, rfl, rfl, rfl⟩ := mkVs_cons hu1
  obtain ⟨c3, c4, u2, us2, rfl, hu2, h2, g2⟩ := Ats_cons.1 g1
  obtain ⟨u2, us, rfl, rfl, rfl⟩ := mkVs_cons hu2
  obtain ⟨c5, c6, u3, us3, rfl, hu3, h3, g3⟩ := Ats_cons.1 g2
  obtain ⟨u3, us, rfl, rfl, rfl⟩ := mkVs_cons hu3
  obtain ⟨rfl, hu4⟩ := Ats_nil.1 g3
  obtain rfl := mkVs_nil hu4
  obtain ⟨n, rfl, hn, w⟩ := At_int.1 h3
  obtain rfl := mkV_int hn
  obtain ⟨e, he⟩ := tree_typed h1
  have h1' := h1
  rw [he] at h1'
  obtain ⟨v1, v2, rfl, a1, a2⟩ := tree_at.1 h1'
  obtain ⟨v3, rfl⟩ := list1 (At.len _ h2 : _ = 1)
  have ho1 := a1.one
  have ho2 := a2.one
  have ho3 : isOne v3 = true ∧ cellsOf v3 = some [v3] := by
    have := At.ones _ h2
    simp only [List.all_cons, List.all_nil, Bool.and_true] at this
    exact ⟨this, isOne_cells this⟩
  simp only [cntV_st, cntVs_cons, cntVs_nil, cntV_int, Nat.add_zero] at hk ⊢
  have q1 := held_Tree H [v1, v2] u1 k h1 (by omega)
  have q2 := held_EntryS H [v3] u2 (k + cntV u1) h2 (by omega)
  simp only [valC, List.headD_cons, Int.natCast_add] at q1 q2
  have p1 : ¬ ((k : Int) + (cntV u1 : Nat) < 0) := by omega
  have p2 : ¬ ((k : Int) + (cntV u1 : Nat) + (cntV u2 : Nat) < 0) := by omega
  apply Ret.eq
  rw [op71]
  simp [code71, Tryz.f71, valC, q1, q2, p1, p2, ho1, ho2, ho3, Int.add_assoc]
  omega
end Go.Proofs.Try1
end

section
namespace Go.Proofs.Try1
open Go Go.Lite
set_option linter.unusedSimpArgs false
set_option linter.unusedVariables false

set_option maxRecDepth 20000 in
set_option maxHeartbeats 40000000 in
theorem ret_FnExactTreeDelete {H : List Ob} {c0 : List V} {u0 : U} {c1 : List V} {u1 : U}  {uR : U} (h0 : At H shTree c0 u0) (h1 : At H (.slice shRdn) c1 u1)
    (hS : ∀ (G : List Ob) (x0 x1 : List V), At G shTree x0 u0 → At G (.slice shRdn) x1 u1 → ∃ G' y, callW C 67 [valC shTree x0, valC (.slice shRdn) x1] G = some (valC shTreeOut y, G') ∧ Le G G' ∧ At G' shTreeOut y uR)
    (hI : ∀ (G : List Ob) (x0 x1 : List V), At G shTree x0 u0 → At G (.slice shRdn) x1 u1 → ∃ G' y, callW C 68 [valC shTree x0, valC (.slice shRdn) x1] G = some (valC shTreeOut y, G') ∧ Le G G' ∧ New G.length G'.length G' shTreeOut y uR)
    (hR : 1 + cntV uR ≤ 50000000) : Ret C 10 [valC shTree c0, valC (.slice shRdn) c1] H fun r _ => r = .bool true := by
  rw [op10]
  obtain ⟨c0_0, c0_1, rfl⟩ := list2 (At.len _ h0 : _ = 2)
  have on0 := ones_all h0
  simp only [List.mem_cons, List.not_mem_nil, or_false, forall_eq_or_imp, forall_eq] at on0
  obtain ⟨c1_0, rfl⟩ := list1 (At.len _ h1 : _ = 1)
  have on1 := ones_all h1
  simp only [List.mem_cons, List.not_mem_nil, or_false, forall_eq_or_imp, forall_eq] at on1
  simp only [valC, List.headD_cons]
  have b0 := sz_Tree H [c0_0, c0_1] _ (1048576) h0 (by omega)
  simp only [valC, List.headD_cons] at b0
  by_cases g0 : wt u0 ≤ 1048576
  rotate_left
  · rw [if_neg g0] at b0
    simp at b0
    simp [code10, Tryz.f10, on0, on1, b0]
  rw [if_pos g0] at b0
  have hw0 : wt u0 ≤ 1048576 := by omega
  have p0 : ¬ (((1048576 - wt u0 : Nat) : Int) < 0) := by omega
  obtain ⟨LL0, hLL0⟩ : ∃ n, n = 1048576 - wt u0 := ⟨_, rfl⟩
  rw [← hLL0] at b0 p0
  have q0 : LL0 + wt u0 = 1048576 := by omega
  have b1 := sz_RdnS H [c1_0] _ (LL0) h1 (by omega)
  simp only [valC, List.headD_cons] at b1
  by_cases g1 : wt u1 ≤ LL0
  rotate_left
  · rw [if_neg g1] at b1
    simp at b0 b1
    simp [code10, Tryz.f10, on0, on1, b0, p0, b1]
  rw [if_pos g1] at b1
  have hw1 : wt u1 ≤ 1048576 := by omega
  have p1 : ¬ (((LL0 - wt u1 : Nat) : Int) < 0) := by omega
  obtain ⟨LL1, hLL1⟩ : ∃ n, n = LL0 - wt u1 := ⟨_, rfl⟩
  rw [← hLL1] at b1 p1
  have q1 : LL1 + wt u1 = LL0 := by omega
  have L0 : Le H H := Le.refl
  obtain ⟨G1, y0, k1, s1, n1⟩ := toN to_Tree (h0.Le L0) hw0
  have l1 := s1.len
  have L1 := L0.trans s1
  obtain ⟨y0_0, y0_1, rfl⟩ := list2 (At.len _ n1.at : _ = 2)
  have o1 := ones_all n1.at
  simp only [List.mem_cons, List.not_mem_nil, or_false, forall_eq_or_imp, forall_eq] at o1
  simp only [valC, List.headD_cons] at k1
  obtain ⟨G2, y1, k2, s2, n2⟩ := toN to_RdnS (h1.Le L1) hw1
  have l2 := s2.len
  have L2 := L1.trans s2
  obtain ⟨y1_0, rfl⟩ := list1 (At.len _ n2.at : _ = 1)
  have o2 := ones_all n2.at
  simp only [List.mem_cons, List.not_mem_nil, or_false, forall_eq_or_imp, forall_eq] at o2
  simp only [valC, List.headD_cons] at k2
  obtain ⟨G3, w, k3, s3, n3⟩ := hS _ [y0_0, y0_1] [y1_0] (n1.at.Le s2) (n2.at.Le Le.refl)
  have l3 := s3.len
  have L3 := L2.trans s3
  obtain ⟨w_0, w_1, w_2, w_3, rfl⟩ := list4 (At.len _ n3 : _ = 4)
  have o3 := ones_all n3
  simp only [List.mem_cons, List.not_mem_nil, or_false, forall_eq_or_imp, forall_eq] at o3
  simp only [valC, List.headD_cons] at k3
  obtain ⟨G4, z0, k4, s4, n4⟩ := toN to_Tree (h0.Le L3) hw0
  have l4 := s4.len
  have L4 := L3.trans s4
  obtain ⟨z0_0, z0_1, rfl⟩ := list2 (At.len _ n4.at : _ = 2)
  have o4 := ones_all n4.at
  simp only [List.mem_cons, List.not_mem_nil, or_false, forall_eq_or_imp, forall_eq] at o4
  simp only [valC, List.headD_cons] at k4
  obtain ⟨G5, z1, k5, s5, n5⟩ := toN to_RdnS (h1.Le L4) hw1
  have l5 := s5.len
  have L5 := L4.trans s5
  obtain ⟨z1_0, rfl⟩ := list1 (At.len _ n5.at : _ = 1)
  have o5 := ones_all n5.at
  simp only [List.mem_cons, List.not_mem_nil, or_false, forall_eq_or_imp, forall_eq] at o5
  simp only [valC, List.headD_cons] at k5
  obtain ⟨G6, g, k6, s6, n6⟩ := hI _ [z0_0, z0_1] [z1_0] (n4.at.Le s5) (n5.at.Le Le.refl)
  have l6 := s6.len
  have L6 := L5.trans s6
  obtain ⟨g_0, g_1, g_2, g_3, rfl⟩ := list4 (At.len _ n6.at : _ = 4)
  have o6 := ones_all n6.at
  simp only [List.mem_cons, List.not_mem_nil, or_false, forall_eq_or_imp, forall_eq] at o6
  simp only [valC, List.headD_cons] at k6
  have k7 := eqN eq_TreeOut n6.at (n3.Le (Le.trans (Le.trans s4 s5) s6))
  simp only [valC, List.headD_cons] at k7
  obtain ⟨G7, v0, k8, s7, n7⟩ := toN to_Tree (h0.Le L6) hw0
  have l7 := s7.len
  have L7 := L6.trans s7
  obtain ⟨v0_0, v0_1, rfl⟩ := list2 (At.len _ n7.at : _ = 2)
  have o7 := ones_all n7.at
  simp only [List.mem_cons, List.not_mem_nil, or_false, forall_eq_or_imp, forall_eq] at o7
  simp only [valC, List.headD_cons] at k8
  have k9 := eqN eq_Tree (n4.at.Le (Le.trans (Le.trans s5 s6) s7)) n7.at
  simp only [valC, List.headD_cons] at k9
  obtain ⟨G8, v1, k10, s8, n8⟩ := toN to_RdnS (h1.Le L7) hw1
  have l8 := s8.len
  have L8 := L7.trans s8
  obtain ⟨v1_0, rfl⟩ := list1 (At.len _ n8.at : _ = 1)
  have o8 := ones_all n8.at
  simp only [List.mem_cons, List.not_mem_nil, or_false, forall_eq_or_imp, forall_eq] at o8
  simp only [valC, List.headD_cons] at k10
  have k11 := eqN eq_RdnS (n5.at.Le (Le.trans (Le.trans s6 s7) s8)) n8.at
  simp only [valC, List.headD_cons] at k11
  have hsum : wt u0 + wt u1 ≤ 1048576 := by omega
  have cb0 := cntV_bound h0 40 (by decide)
  have cb1 := cntV_bound h1 40 (by decide)
  have m4 := n4.Le (Le.trans (Le.trans (Le.trans s5 s6) s7) s8)
  have m5 := n5.Le (Le.trans (Le.trans s6 s7) s8)
  have mR := n6.Le (Le.trans s7 s8)
  obtain ⟨M0, k12, ml0, mf0, mn0⟩ := mkN (k := 1) mk_Tree m4 (by omega)
  simp only [valC, List.headD_cons] at k12
  have m5 := New.frame (G' := M0) m5 (fun q h1 h2 => mf0 q (by omega))
  have mR := New.frame (G' := M0) mR (fun q h1 h2 => mf0 q (by omega))
  obtain ⟨K0, hK0⟩ : ∃ n, n = 1 + cntV u0 := ⟨_, rfl⟩
  rw [← hK0] at k12
  obtain ⟨M1, k13, ml1, mf1, mn1⟩ := mkN (k := K0) mk_RdnS m5 (by omega)
  simp only [valC, List.headD_cons] at k13
  have mR := New.frame (G' := M1) mR (fun q h1 h2 => mf1 q (by omega))
  obtain ⟨K1, hK1⟩ : ∃ n, n = K0 + cntV u1 := ⟨_, rfl⟩
  rw [← hK1] at k13
  have hKb : K1 ≤ 50000000 := by omega
  have pK : ¬ ((K1 : Int) < 0) := by omega
  have upS : Up G3 M1 := fun q o hq => by
    have hql := (List.getElem?_eq_some_iff.1 hq).1
    rw [mf1 q (.inl (by omega)), mf0 q (.inl (by omega))]
    exact ((Le.trans (Le.trans (Le.trans (Le.trans s4 s5) s6) s7) s8) : Le _ _).up q o hq
  have k14 := eqN eq_TreeOut mR.at (n3.Up upS)
  simp only [valC, List.headD_cons] at k14
  obtain ⟨Q, k15, ql, qf, qn⟩ := mkN (k := 1) mk_TreeOut mR hR
  simp only [valC, List.headD_cons] at k15
  have upQ : Up G3 Q := fun q o hq => by
    have hql := (List.getElem?_eq_some_iff.1 hq).1
    rw [qf q (.inl (by omega))]
    exact upS q o hq
  have upH : Up H Q := L3.up.trans upQ
  have k16 := held_TreeOut Q [g_0, g_1, g_2, g_3] _ 1 qn.at hR
  simp only [valC, List.headD_cons] at k16
  have R0 : Le Q Q := Le.refl
  have L9 := R0
  obtain ⟨G10, zz0, k17, s10, n10⟩ := toN to_Tree ((h0.Up upH).Le L9) hw0
  have l10 := s10.len
  have L10 := L9.trans s10
  obtain ⟨zz0_0, zz0_1, rfl⟩ := list2 (At.len _ n10.at : _ = 2)
  have o10 := ones_all n10.at
  simp only [List.mem_cons, List.not_mem_nil, or_false, forall_eq_or_imp, forall_eq] at o10
  simp only [valC, List.headD_cons] at k17
  obtain ⟨G11, zz1, k18, s11, n11⟩ := toN to_RdnS ((h1.Up upH).Le L10) hw1
  have l11 := s11.len
  have L11 := L10.trans s11
  obtain ⟨zz1_0, rfl⟩ := list1 (At.len _ n11.at : _ = 1)
  have o11 := ones_all n11.at
  simp only [List.mem_cons, List.not_mem_nil, or_false, forall_eq_or_imp, forall_eq] at o11
  simp only [valC, List.headD_cons] at k18
  obtain ⟨G12, gg, k19, s12, n12⟩ := hI _ [zz0_0, zz0_1] [zz1_0] (n10.at.Le s11) (n11.at.Le Le.refl)
  have l12 := s12.len
  have L12 := L11.trans s12
  obtain ⟨gg_0, gg_1, gg_2, gg_3, rfl⟩ := list4 (At.len _ n12.at : _ = 4)
  have o12 := ones_all n12.at
  simp only [List.mem_cons, List.not_mem_nil, or_false, forall_eq_or_imp, forall_eq] at o12
  simp only [valC, List.headD_cons] at k19
  have k20 := eqN eq_TreeOut n12.at ((n3.Up upQ).Le L12)
  simp only [valC, List.headD_cons] at k20
  have k21 := held_TreeOut G12 [g_0, g_1, g_2, g_3] _ 1 (qn.at.Le L12) hR
  simp only [valC, List.headD_cons] at k21
  obtain ⟨KR, hKR⟩ : ∃ n, n = 1 + cntV uR := ⟨_, rfl⟩
  rw [← hKR] at k15
  rw [← hKR] at k16
  rw [← hKR] at k21
  have pR : ¬ ((KR : Int) < 0) := by omega
  clear upS upQ upH
  simp at b0 k12 k15 k16 k21
  simp [code10, Tryz.f10, on0, on1, b0, p0, b1, p1, k1, o1, k2, o2, k3, o3, k4, o4, k5, o5, k6, o6, k7, k8, o7, k9, k10, o8, k11, k12, k13, pK, k14, k15, k16, k17, o10, k18, o11, k19, o12, k20, k21, pR, regionL_some, List.lookup]
end Go.Proofs.Try1
end

section
namespace Go.Proofs.Try1
open Go Go.Lite
set_option linter.unusedSimpArgs false
set_option linter.unusedVariables false

/-- A name lies under another one. -/
def UnderOk (dn base : List PRdn) : Prop := base.length ≤ dn.length ∧ keyD (dn.drop (dn.length - base.length)) = keyD base

/-- A name without its first parts. -/
theorem rdns_drop {H : List Ob} {v : V} {l : List PRdn} (h : ARdns H v l) {k : Nat} (hk : k ≤ l.length) (h0 : 0 < l.length) :
    ∃ id off own cells, v = .slc (some (id, off)) l.length ∧ H[id]? = some (.mk own 2 cells) ∧ ARdns H (.slc (some (id, off + k * 2)) (l.length - k)) (l.drop k) := by
  have hb := h.bound
  rcases h.sl with ⟨rfl, h1⟩ | ⟨id, off, own, cells, rfl, h2, h3, h4⟩
  · have : l = [] := by simpa using h1
    subst this
    simp at h0
  · rw [List.length_map] at h3 ⊢
    refine ⟨id, off, own, cells, rfl, h2, ?_⟩
    have hsz : shRdn.size = 2 := rfl
    rw [hsz] at h2 h3 h4
    refine At_slice.2 ⟨_, _, rfl, rfl, by simp; omega, .inr ⟨id, off + k * 2, own, cells, by simp, h2, ?_, fun i x hx => ?_⟩⟩
    · rw [hsz, List.length_map, List.length_drop]; omega
    · have := h4 (k + i) x (by rw [List.getElem?_map] at hx ⊢; rw [List.getElem?_drop] at hx; exact hx)
      rw [hsz, show off + k * 2 + i * 2 = off + (k + i) * 2 by omega]
      exact this
theorem DnOk.drop {l : List PRdn} (hd : DnOk l) (k : Nat) : DnOk (l.drop k) :=
  ⟨fun j x hx => hd.1 (k + j) x (by rw [List.getElem?_drop] at hx; exact hx), by have := hd.2; simp; omega⟩

theorem s_Under {H : List Ob} {v w : V} {dn base : List PRdn} (h : ARdns H v dn) (hb : ARdns H w base) (h1 : DnOk dn) (h2 : DnOk base) (hl : 0 < dn.length) :
    callW C 87 [v, w] H = some (.bool (dec (UnderOk dn base)), H) := by
  apply Ret.dec
  rw [op87]
  have e1 : ¬ (400 : Int) < dn.length := by have := h1.2; omega
  have e2 : ¬ (400 : Int) < base.length := by have := h2.2; omega
  have c1 := s_Dn h
  have c2 := s_Dn hb
  rw [dec_pos h1] at c1
  rw [dec_pos h2] at c2
  by_cases g : base.length ≤ dn.length
  rotate_left
  · have g' : (dn.length : Int) < base.length := by omega
    simp [code87, Tryz.f87, h.len, hb.len, e1, e2, c1, c2, g']
    exact fun h => g h.1
  have g' : ¬ (dn.length : Int) < base.length := by omega
  have hw : IntKind.i64.wrap ((dn.length : Int) - base.length) = ((dn.length - base.length : Nat) : Int) := by
    have := h1.2
    rw [wrap_i64 (by omega) (by omega)]; omega
  obtain ⟨id, off, own, cells, hv, hcell, hd⟩ := rdns_drop h (k := dn.length - base.length) (by omega) hl
  have hst : strideIs H id 2 = true := by simp [strideIs, hcell]
  have c3 := s_Key hd (DnOk.drop h1 _)
  have c4 := s_Key hb h2
  have hle : dn.length - base.length ≤ dn.length := by omega
  rw [hv] at h c1 ⊢
  simp [code87, Tryz.f87, h.len, hb.len, e1, e2, c1, c2, g', hw, hst, c3, c4, hle]
  by_cases gk : keyD (dn.drop (dn.length - base.length)) = keyD base
  · exact .inr ⟨gk, g, gk⟩
  · exact .inl ⟨gk, fun h => gk h.2⟩
end Go.Proofs.Try1
end

section
namespace Go.Proofs.Try1
open Go Go.Lite
set_option linter.unusedSimpArgs false
set_option linter.unusedVariables false

/-- Another entry lies under a name. -/
def OverOk (es : List PEntry) (dn : List PRdn) : Prop := ∃ x ∈ es, dn.length < x.dn.length ∧ UnderOk x.dn dn

set_option maxRecDepth 10000 in
theorem s_Over {H : List Ob} {vs ve vd : V} {es : List PEntry} {dn : List PRdn} (h : AEntries H ve es) (hok : ∀ x ∈ es, DnOk x.dn) (ho : isOne vs = true ∧ cellsOf vs = some [vs]) (hd : ARdns H vd dn) (hdn : DnOk dn) :
    callW C 280 [.agg [vs, ve], vd] H = some (.bool (dec (OverOk es dn)), H) := by
  apply Ret.dec
  rw [op280]
  have hb : es.length ≤ 9223372036854775807 := h.bound
  have hone := h.one
  simp [code280, Tryz.f280, ho, hone]
  refine WP_loop (fun k σ => ∃ (i : Nat) (r : Nat → R), i + k = es.length ∧ σ = ⟨r, 1, H⟩ ∧ r 1 = .val vd ∧ r 2 = .box 0 [vs, ve] ∧ r 5 = .val (.int .i64 i) ∧ ∀ j x, j < i → es[j]? = some x → ¬ (dn.length < x.dn.length ∧ UnderOk x.dn dn)) ?_ es.length _ ⟨0, _, by simp, rfl, by simp, by simp, by simp, by simp⟩
  rintro k σ ⟨i, r, hik, rfl, r1, r2, r5, hall⟩
  cases k with
  | zero =>
    have hi : i = es.length := by omega
    subst hi
    have hx := at_all (P := fun j (x : PEntry) => ¬ (dn.length < x.dn.length ∧ UnderOk x.dn dn)) hall
    have hn : ¬ OverOk es dn := by
      rintro ⟨x, hm, hu⟩
      obtain ⟨j, hj, rfl⟩ := List.getElem_of_mem hm
      exact hx j _ (List.getElem?_eq_getElem hj) hu
    simp [r1, r2, r5, h.len, hone, hn]
  | succ k =>
    have hi : i < es.length := by omega
    obtain ⟨x, hx⟩ : ∃ c, es[i]? = some c := ⟨es[i], by simp [hi]⟩
    have hw : IntKind.i64.wrap ((i : Int) + 1) = ((i : Int) + 1) := wrap_i64 (by omega) (by omega)
    obtain ⟨id, o, w1, w2, e1, l0, _, _, a1, _⟩ := entries_idx h hx
    have hstep := fun hh => at_step (P := fun j (x : PEntry) => ¬ (dn.length < x.dn.length ∧ UnderOk x.dn dn)) hall hx hh
    have ho1 := a1.one
    by_cases g1 : dn.length < x.dn.length
    rotate_left
    · have g1' : ¬ (dn.length : Int) < x.dn.length := by omega
      simp [r1, r2, r5, hi, h.len, e1, l0, a1.len, hd.len, g1', hone, ho1, hw, regionL_none, regionL_some, List.lookup]
      exact ⟨k, by omega, i + 1, by omega, by omega, fun j y h1 h2 h3 h4 => hstep (fun hh => g1 hh.1) j y h1 h2 ⟨h3, h4⟩⟩
    have g1' : (dn.length : Int) < x.dn.length := by omega
    have c1 := s_Under a1 hd (hok x (List.mem_of_getElem? hx)) hdn (by omega)
    by_cases g2 : UnderOk x.dn dn
    · rw [dec_pos g2] at c1
      have hn : OverOk es dn := ⟨x, List.mem_of_getElem? hx, g1, g2⟩
      simp [r1, r2, r5, hi, h.len, e1, l0, a1.len, hd.len, g1', c1, hone, ho1, hw, hn, regionL_none, regionL_some, List.lookup]
    · rw [dec_neg g2] at c1
      simp [r1, r2, r5, hi, h.len, e1, l0, a1.len, hd.len, g1', c1, hone, ho1, hw, regionL_none, regionL_some, List.lookup]
      exact ⟨k, by omega, i + 1, by omega, by omega, fun j y h1 h2 h3 h4 => hstep (fun hh => g2 hh.2) j y h1 h2 ⟨h3, h4⟩⟩
end Go.Proofs.Try1
end

section
namespace Go.Lite
open Go
set_option linter.unusedSimpArgs false
set_option linter.unusedVariables false

section
variable {α : Type} {G : List Ob} {sh : Sh} {f : α → U} {v : V} {l : List α} {F : List Nat}

theorem chunk_take {D : List V} {s i j : Nat} (h : j * s + s ≤ i * s) : ((D.take (i * s)).drop (j * s)).take s = (D.drop (j * s)).take s := by
  apply List.ext_getElem?
  intro q
  by_cases hq : q < s
  · rw [List.getElem?_take_of_lt hq, List.getElem?_take_of_lt hq, List.getElem?_drop, List.getElem?_take_of_lt (by omega), List.getElem?_drop]
  · rw [List.getElem?_eq_none (by simp; omega), List.getElem?_eq_none (by simp; omega)]

/-- The chunks of a row into which one is put. -/
theorem ins_chunk {D c : List V} {s n i : Nat} (hD : D.length = n * s) (hc : c.length = s) (hi : i ≤ n) {j : Nat} :
    (j < i → ((D.take (i * s) ++ c ++ D.drop (i * s)).drop (j * s)).take s = (D.drop (j * s)).take s) ∧ (j = i → ((D.take (i * s) ++ c ++ D.drop (i * s)).drop (j * s)).take s = c) ∧
    (∀ t, j = i + 1 + t → ((D.take (i * s) ++ c ++ D.drop (i * s)).drop (j * s)).take s = (D.drop ((i + t) * s)).take s) := by
  have hin : i * s ≤ n * s := Nat.mul_le_mul_right _ hi
  have hA : (D.take (i * s)).length = i * s := by simp; omega
  refine ⟨fun h => ?_, fun h => ?_, fun t h => ?_⟩
  · have hm := mul_step (s := s) h
    rw [List.append_assoc, List.drop_append_of_le_length (by omega), List.take_append_of_le_length (by simp; omega)]
    exact chunk_take hm
  · subst h
    rw [List.append_assoc, List.drop_append_of_le_length (by omega), List.drop_of_length_le (by omega), List.nil_append, List.take_append_of_le_length (by omega), List.take_of_length_le (by omega)]
  · subst h
    have e1 : (i + 1 + t) * s = (D.take (i * s) ++ c).length + t * s := by rw [List.length_append, hA, hc]; simp [Nat.add_mul]
    rw [e1, ← List.drop_drop, List.drop_left, List.drop_drop]
    congr 2
    rw [Nat.add_mul]

theorem take_get? {α : Type} {l : List α} {i j : Nat} {x : α} : (l.take i ++ x :: l.drop i)[j]? = if j < i ∧ j < l.length then l[j]? else if j = min i l.length then some x else l[j - 1]? := by
  by_cases h1 : j < (l.take i).length
  · rw [List.getElem?_append_left h1]
    have h2 : j < i ∧ j < l.length := by simp at h1; omega
    rw [if_pos h2, List.getElem?_take_of_lt h2.1]
  · rw [List.getElem?_append_right (by omega)]
    have h2 : ¬ (j < i ∧ j < l.length) := by simp at h1; omega
    rw [if_neg h2]
    have hl : (l.take i).length = min i l.length := List.length_take
    by_cases h3 : j = min i l.length
    · rw [if_pos h3, hl, h3, Nat.sub_self]; rfl
    · rw [if_neg h3, hl]
      obtain ⟨k, hk⟩ : ∃ k, j - min i l.length = k + 1 := ⟨j - min i l.length - 1, by omega⟩
      rw [hk, List.getElem?_cons_succ, List.getElem?_drop]
      by_cases h4 : i ≤ l.length
      · congr 1; omega
      · rw [List.getElem?_eq_none (by omega), List.getElem?_eq_none (by omega)]

theorem flatten_ins {Fs : List (List Nat)} {K : List Nat} {i : Nat} : ∀ q, q ∈ (Fs.take i ++ K :: Fs.drop i).flatten ↔ q ∈ Fs.flatten ∨ q ∈ K := by
  intro q
  have h : Fs.flatten = (Fs.take i).flatten ++ (Fs.drop i).flatten := by rw [← List.flatten_append, List.take_append_drop]
  rw [h, List.flatten_append, List.flatten_cons]
  simp only [List.mem_append]
  constructor
  · rintro (h | h | h) <;> simp [h]
  · rintro ((h | h) | h) <;> simp [h]
theorem flatten_ins_nodup {Fs : List (List Nat)} {K : List Nat} {i : Nat} (h1 : Fs.flatten.Nodup) (h2 : K.Nodup) (h3 : ∀ q ∈ K, q ∉ Fs.flatten) : (Fs.take i ++ K :: Fs.drop i).flatten.Nodup := by
  have h : Fs.flatten = (Fs.take i).flatten ++ (Fs.drop i).flatten := by rw [← List.flatten_append, List.take_append_drop]
  rw [h] at h1 h3
  rw [List.flatten_append, List.flatten_cons]
  obtain ⟨a1, a2, a3⟩ := List.nodup_append.1 h1
  refine List.nodup_append.2 ⟨a1, List.nodup_append.2 ⟨h2, a2, fun a ha b hb e => ?_⟩, fun a ha b hb e => ?_⟩
  · subst e; exact h3 a ha (List.mem_append_right _ hb)
  · subst e
    rcases List.mem_append.1 hb with hb | hb
    · exact h3 a hb (List.mem_append_left _ ha)
    · exact a3 a ha a hb rfl

/-- An element of its own is inserted. -/
theorem insertF (h : AtF G (.slice sh) [v] (.lst (l.map f)) F) (hn : F.Nodup) {x : α} {c : List V} {K : List Nat} (hx : AtF G sh c (f x) K) (hxn : K.Nodup) (hd : ∀ q ∈ K, q ∉ F) {i : Nat} (hi : i ≤ l.length) (hl : l.length ≤ 1000000) (hs : sh.size ≠ 0) :
    ∃ v' G' F', insertPrim sh.size [v, .int .i64 i, .slc (some (G.length, 0)) 1] (G ++ [.mk true sh.size c]) = some (v', G') ∧ AtF G' (.slice sh) [v'] (.lst ((l.take i ++ x :: l.drop i).map f)) F' ∧ F'.Nodup ∧
      (∀ q ∈ F', q ∈ F ∨ q ∈ K ∨ q = G.length + 1) ∧ (∀ q, q ∉ F → q < G.length → G'[q]? = G[q]?) ∧ G'.length = G.length + 2 ∧ v' = .slc (some (G.length + 1, 0)) (l.length + 1) := by
  obtain ⟨w, us, hw, hus, hlen, h⟩ := AtF_slice.1 h
  cases hw
  cases hus
  have hcl : c.length = sh.size := At.len _ (AtF.at _ hx)
  have hco : c.all isOne = true := At.ones _ (AtF.at _ hx)
  have hget : (G ++ [Ob.mk true sh.size c])[G.length]? = some (.mk true sh.size c) := get_last
  have hK := AtF.mem _ hx
  have hcond : sh.size = sh.size ∧ c.length = sh.size ∧ (0 : Int) ≤ (i : Int) ∧ (i : Int) ≤ ((l.length : Nat) : Int) ∧ l.length ≤ 1000000 ∧ c.all isOne = true := ⟨rfl, hcl, by omega, by omega, hl, hco⟩
  rcases h with ⟨rfl, hl0, rfl⟩ | ⟨id, off, cells, Fs, rfl, h2, h3, h4, rfl, h6⟩
  · have hl0 : l = [] := by simpa using hl0
    subst hl0
    have hi0 : i = 0 := by simpa using hi
    subst hi0
    refine ⟨.slc (some (G.length + 1, 0)) 1, G ++ [.mk true sh.size c] ++ [.mk true sh.size c], (G.length + 1) :: K, ?_, ?_, ?_, fun q hq => ?_, fun q _ hq => ?_, by simp, by simp⟩
    · simp [insertPrim, hcl, hco]
    · refine AtF_slice.2 ⟨_, [f x], rfl, rfl, by simp [maxLen], .inr ⟨G.length + 1, 0, c, [K], rfl, by simp, by simp [hcl], rfl, by simp, fun j y Fj hy hFj => ?_⟩⟩
      have hj : j = 0 := by have := (List.getElem?_eq_some_iff.1 hy).1; simpa using this
      subst hj
      cases hy
      cases hFj
      rw [Nat.zero_mul, Nat.add_zero, List.drop_zero, List.take_of_length_le (by omega)]
      exact hx.ext.ext
    · exact List.nodup_cons.2 ⟨fun hm => by have := hK _ hm; omega, hxn⟩
    · rcases List.mem_cons.1 hq with rfl | hq
      · exact .inr (.inr rfl)
      · exact .inr (.inl hq)
    · rw [List.append_assoc, List.getElem?_append_left hq]
  · rw [List.length_map] at h3 h4 hlen
    have hid : id < G.length := (List.getElem?_eq_some_iff.1 h2).1
    have hidx : id ≠ G.length := by omega
    obtain ⟨D, hD⟩ : ∃ D, D = (cells.drop off).take (l.length * sh.size) := ⟨_, rfl⟩
    have hDl : D.length = l.length * sh.size := by rw [hD]; simp; omega
    have hg2 : (G ++ [Ob.mk true sh.size c])[id]? = some (.mk true sh.size cells) := up_append _ _ h2
    have him : i * sh.size ≤ l.length * sh.size := Nat.mul_le_mul_right _ hi
    have hcells : ((cells.drop off).take (i * sh.size)) ++ c ++ (((cells.drop off).take (l.length * sh.size)).drop (i * sh.size)) = D.take (i * sh.size) ++ c ++ D.drop (i * sh.size) := by
      rw [hD, List.take_take, Nat.min_eq_left him]
    obtain ⟨N, hN⟩ : ∃ N, N = D.take (i * sh.size) ++ c ++ D.drop (i * sh.size) := ⟨_, rfl⟩
    have hNl : N.length = (l.length + 1) * sh.size := by
      have e1 : (D.take (i * sh.size)).length = i * sh.size := by rw [List.length_take, hDl]; omega
      rw [hN, List.length_append, List.length_append, e1, hcl, List.length_drop, hDl, Nat.add_mul]; omega
    have hlen2 : ((G ++ [Ob.mk true sh.size c]).set id .dead).length = G.length + 1 := by simp
    have hfr : ∀ q, q ≠ id → q < G.length → ((G ++ [Ob.mk true sh.size c]).set id .dead ++ [Ob.mk true sh.size N])[q]? = G[q]? := fun q hq hql => by
      rw [List.getElem?_append_left (by omega), List.getElem?_set_ne (fun e => hq e.symm), List.getElem?_append_left hql]
    obtain ⟨hnid, hnf⟩ := List.nodup_cons.1 hn
    have hFlt : ∀ j y Fj, (l.map f)[j]? = some y → Fs[j]? = some Fj → ∀ q ∈ Fj, q < G.length ∧ q ≠ id := fun j y Fj hy hFj q hq => ⟨AtF.mem _ (h6 j y Fj hy hFj) q hq, fun e => hnid (e ▸ List.mem_flatten.2 ⟨Fj, List.mem_of_getElem? hFj, hq⟩)⟩
    have hlen3 : (l.take i ++ x :: l.drop i).length = l.length + 1 := by simp; omega
    have hKid : id ∉ K := fun hm => hd id hm List.mem_cons_self
    refine ⟨.slc (some (G.length + 1, 0)) (l.length + 1), (G ++ [Ob.mk true sh.size c]).set id .dead ++ [Ob.mk true sh.size N], (G.length + 1) :: (Fs.take i ++ K :: Fs.drop i).flatten, ?_, ?_, ?_, fun q hq => ?_, fun q hqF hq => hfr q (fun e => hqF (by rw [e]; exact List.mem_cons_self)) hq, by simp, by simp⟩
    · have hone : ((cells.drop off).take (l.length * sh.size)).all isOne = true := by
        rw [← hD]
        refine rows_ones hDl fun j hj => ?_
        obtain ⟨Fj, hFj⟩ : ∃ Fj, Fs[j]? = some Fj := ⟨_, List.getElem?_eq_getElem (by omega)⟩
        have h7 := h6 j (f l[j]) Fj (by rw [List.getElem?_map, List.getElem?_eq_getElem hj]; rfl) hFj
        rw [hD, row_chunk h3 hj]
        exact At.ones _ (AtF.at _ h7)
      simp only [insertPrim, hget, List.length_map, hg2]
      rw [if_pos ⟨trivial, hcond.2⟩, if_pos ⟨trivial, hidx, h3, hone⟩, Int.toNat_natCast, hcells, ← hN]
      simp
    · refine AtF_slice.2 ⟨.slc (some (G.length + 1, 0)) (l.length + 1), (l.take i ++ x :: l.drop i).map f, rfl, rfl, by rw [List.length_map, hlen3]; unfold maxLen; omega, .inr ⟨G.length + 1, 0, N, Fs.take i ++ K :: Fs.drop i, by rw [List.length_map, hlen3], by rw [← hlen2, get_last], by rw [List.length_map, hlen3, hNl]; omega, by rw [List.length_map, hlen3]; simp; omega, rfl, fun j y Fj hy hFj => ?_⟩⟩
      rw [List.getElem?_map, take_get?] at hy
      rw [take_get?] at hFj
      obtain ⟨c1, c2, c3⟩ := ins_chunk (j := j) hDl hcl hi
      rw [← hN] at c1 c2 c3
      rw [Nat.zero_add]
      have hmin : min i l.length = i := by omega
      have hmin' : min i Fs.length = i := by omega
      by_cases j1 : j < i
      · rw [if_pos ⟨j1, by omega⟩] at hy hFj
        rw [c1 j1, hD, row_chunk h3 (by omega)]
        have h7 := h6 j y Fj (by rw [List.getElem?_map]; exact hy) hFj
        exact AtF.frame _ (fun q hq => hfr q (hFlt j y Fj (by rw [List.getElem?_map]; exact hy) hFj q hq).2 (hFlt j y Fj (by rw [List.getElem?_map]; exact hy) hFj q hq).1) h7
      · rw [if_neg (by omega)] at hy hFj
        by_cases j2 : j = i
        · rw [hmin, if_pos j2] at hy
          rw [hmin', if_pos j2] at hFj
          cases hy
          cases hFj
          rw [c2 j2]
          exact AtF.frame _ (fun q hq => hfr q (fun e => hKid (e ▸ hq)) (hK q hq)) hx
        · rw [hmin, if_neg j2] at hy
          rw [hmin', if_neg j2] at hFj
          obtain ⟨t, ht⟩ : ∃ t, j = i + 1 + t := ⟨j - i - 1, by omega⟩
          have hj1 : j - 1 = i + t := by omega
          rw [hj1] at hy hFj
          have hlt : i + t < l.length := by
            cases hh : l[i + t]? with
            | none => rw [hh] at hy; cases hy
            | some z => exact (List.getElem?_eq_some_iff.1 hh).1
          rw [c3 t ht, hD, row_chunk h3 hlt]
          have h7 := h6 (i + t) y Fj (by rw [List.getElem?_map]; exact hy) hFj
          exact AtF.frame _ (fun q hq => hfr q (hFlt _ y Fj (by rw [List.getElem?_map]; exact hy) hFj q hq).2 (hFlt _ y Fj (by rw [List.getElem?_map]; exact hy) hFj q hq).1) h7
    · refine List.nodup_cons.2 ⟨fun hm => ?_, flatten_ins_nodup hnf hxn fun q hq hm => hd q hq (List.mem_cons_of_mem _ hm)⟩
      rcases (flatten_ins _).1 hm with hm | hm
      · obtain ⟨Fj, hF1, hF2⟩ := List.mem_flatten.1 hm
        obtain ⟨j, hj, rfl⟩ := List.getElem_of_mem hF1
        have := hFlt j ((l.map f)[j]'(by simp; omega)) Fs[j] (List.getElem?_eq_getElem _) (List.getElem?_eq_getElem _) _ hF2
        omega
      · have := hK _ hm; omega
    · rcases List.mem_cons.1 hq with rfl | hq
      · exact .inr (.inr rfl)
      · rcases (flatten_ins _).1 hq with hq | hq
        · exact .inl (List.mem_cons_of_mem _ hq)
        · exact .inr (.inl hq)
end

theorem setRange_in {cells xs : List V} {o t s : Nat} (h : o + xs.length ≤ cells.length) (ht : t + s ≤ xs.length) : ((setRange cells o xs).drop (o + t)).take s = (xs.drop t).take s := by
  unfold setRange
  have h1 : (cells.take o).length = o := by simp; omega
  rw [List.append_assoc, ← List.drop_drop, List.drop_left' h1, List.drop_append_of_le_length (by omega), List.take_append_of_le_length (by simp; omega)]
theorem setRange_nil {cells : List V} {o : Nat} : setRange cells o [] = cells := by simp [setRange]

section
variable {α : Type} {G : List Ob} {sh : Sh} {f : α → U} {v : V} {l : List α} {F : List Nat}
/-- An element is taken out where it stands. -/
theorem deleteF (h : AtF G (.slice sh) [v] (.lst (l.map f)) F) (hn : F.Nodup) {i : Nat} (hi : i < l.length) (z : List V) (hz : z.length = sh.size) :
    ∃ id off cells xs F', v = .slc (some (id, off)) l.length ∧ G[id]? = some (.mk true sh.size cells) ∧ off + l.length * sh.size ≤ cells.length ∧ xs = (cells.drop (off + (i + 1) * sh.size)).take ((l.length - (i + 1)) * sh.size) ∧ xs.length = (l.length - (i + 1)) * sh.size ∧ xs.all isOne = true ∧ id ∈ F ∧
      AtF (G.set id (.mk true sh.size (setRange (setRange cells (off + i * sh.size) xs) (off + (l.length - 1) * sh.size) z))) (.slice sh) [.slc (some (id, off)) (l.length - 1)] (.lst ((l.take i ++ l.drop (i + 1)).map f)) F' ∧ F'.Nodup ∧ ∀ q ∈ F', q ∈ F := by
  have h0 := h
  obtain ⟨w, us, hw, hus, hlen, h⟩ := AtF_slice.1 h
  cases hw
  cases hus
  rcases h with ⟨rfl, hl0, rfl⟩ | ⟨id, off, cells, Fs, rfl, h2, h3, h4, rfl, h6⟩
  · have hl0 : l = [] := by simpa using hl0
    subst hl0
    simp at hi
  rw [List.length_map] at h3 h4 hlen ⊢
  have hid : id < G.length := (List.getElem?_eq_some_iff.1 h2).1
  have hsl : ASl G sh f (.slc (some (id, off)) l.length) l := by have := AtF.at _ h0; rwa [List.length_map] at this
  obtain ⟨s, hs⟩ : ∃ s, s = sh.size := ⟨_, rfl⟩
  rw [← hs] at h2 h3 h6 hz ⊢
  obtain ⟨m, hm⟩ : ∃ m, l.length = i + 1 + m := ⟨l.length - (i + 1), by omega⟩
  have e1 : l.length - (i + 1) = m := by omega
  have e2 : l.length - 1 = i + m := by omega
  rw [e1, e2]
  have f1 : l.length * s = i * s + s + m * s := by rw [hm, Nat.add_mul, Nat.add_mul, Nat.one_mul]
  have f2 : (i + 1) * s = i * s + s := by rw [Nat.add_mul, Nat.one_mul]
  have f3 : (i + m) * s = i * s + m * s := Nat.add_mul _ _ _
  obtain ⟨xs, hxs⟩ : ∃ xs, xs = (cells.drop (off + (i + 1) * s)).take (m * s) := ⟨_, rfl⟩
  have hxl : xs.length = m * s := by rw [hxs]; simp; omega
  have hch : ∀ j, j < l.length → ((cells.drop (off + j * s)).take s).all isOne = true := fun j hj => by
    have := h6 j (f l[j]) (Fs[j]'(by omega)) (by rw [List.getElem?_map, List.getElem?_eq_getElem hj]; rfl) (List.getElem?_eq_getElem _)
    exact At.ones _ (AtF.at _ this)
  have hxo : xs.all isOne = true := rows_ones (n := m) (s := s) hxl fun j hj => by
    rw [hxs, row_chunk (by omega) hj, Nat.add_assoc, ← Nat.add_mul]
    exact hch _ (by omega)
  obtain ⟨hnid, hnf⟩ := List.nodup_cons.1 hn
  obtain ⟨N, hN⟩ : ∃ N, N = setRange (setRange cells (off + i * s) xs) (off + (i + m) * s) z := ⟨_, rfl⟩
  have hl1 : (setRange cells (off + i * s) xs).length = cells.length := setRange_len (by omega)
  have hNl : N.length = cells.length := by rw [hN, setRange_len (by rw [hl1, hz]; omega), hl1]
  have hfr : ∀ q, q ≠ id → (G.set id (.mk true s N))[q]? = G[q]? := fun q hq => List.getElem?_set_ne fun e => hq e.symm
  have hdec : Fs.flatten = (Fs.take i).flatten ++ (Fs.drop i).flatten := by rw [← List.flatten_append, List.take_append_drop]
  have hsub : List.Sublist (Fs.take i ++ Fs.drop (i + 1)).flatten Fs.flatten := by
    rw [hdec, List.flatten_append]
    refine List.Sublist.append (List.Sublist.refl _) ?_
    have hd : Fs.drop i = Fs[i]'(by omega) :: Fs.drop (i + 1) := List.drop_eq_getElem_cons (by omega)
    rw [hd, List.flatten_cons]
    exact List.sublist_append_right _ _
  have hlen3 : (l.take i ++ l.drop (i + 1)).length = i + m := by simp; omega
  refine ⟨id, off, cells, xs, id :: (Fs.take i ++ Fs.drop (i + 1)).flatten, rfl, h2, h3, hxs, hxl, hxo, List.mem_cons_self, ?_, List.nodup_cons.2 ⟨fun hm => hnid (hsub.subset hm), hnf.sublist hsub⟩, fun q hq => ?_⟩
  · rw [← hN]
    refine AtF_slice.2 ⟨_, _, rfl, rfl, by rw [List.length_map, hlen3]; omega, .inr ⟨id, off, N, Fs.take i ++ Fs.drop (i + 1), by rw [List.length_map, hlen3], by rw [List.getElem?_set_self hid, hs], by rw [List.length_map, hlen3, hNl, ← hs]; omega, by rw [List.length_map, hlen3]; simp; omega, rfl, fun j y Fj hy hFj => ?_⟩⟩
    rw [← hs]
    rw [List.getElem?_map] at hy
    have hj : j < i + m := by
      cases hh : (l.take i ++ l.drop (i + 1))[j]? with
      | none => rw [hh] at hy; cases hy
      | some z => have := (List.getElem?_eq_some_iff.1 hh).1; omega
    have hjs : j * s + s ≤ (i + m) * s := mul_step hj
    have hz2 : ((N.drop (off + j * s)).take s) = ((setRange cells (off + i * s) xs).drop (off + j * s)).take s := by
      rw [hN]
      exact setRange_apart (by rw [hl1, hz]; omega) (.inl (by omega))
    rw [hz2]
    by_cases j1 : j < i
    · have hjs' : j * s + s ≤ i * s := mul_step j1
      rw [setRange_apart (by omega) (.inl (by omega))]
      rw [List.getElem?_append_left (by simp; omega), List.getElem?_take_of_lt j1] at hy hFj
      have h7 := h6 j y Fj (by rw [List.getElem?_map]; exact hy) hFj
      exact AtF.frame _ (fun q hq => hfr q fun e => hnid (e ▸ List.mem_flatten.2 ⟨Fj, List.mem_of_getElem? hFj, hq⟩)) h7
    · obtain ⟨t, ht⟩ : ∃ t, j = i + t := ⟨j - i, by omega⟩
      subst ht
      have htm : t < m := by omega
      have hts : t * s + s ≤ m * s := mul_step htm
      have e5 : off + (i + t) * s = off + i * s + t * s := by rw [Nat.add_mul]; omega
      rw [e5, setRange_in (by omega) (by omega), hxs, row_chunk (by omega) htm]
      have e6 : off + (i + 1) * s + t * s = off + (i + 1 + t) * s := by rw [Nat.add_mul (i + 1) t]; omega
      rw [e6]
      rw [List.getElem?_append_right (by rw [List.length_take]; omega), List.getElem?_drop] at hy
      rw [List.getElem?_append_right (by rw [List.length_take]; omega), List.getElem?_drop] at hFj
      have e7 : (l.take i).length = i := by simp; omega
      have e8 : (Fs.take i).length = i := by simp; omega
      rw [e7] at hy
      rw [e8] at hFj
      rw [show i + 1 + (i + t - i) = i + 1 + t by omega] at hy hFj
      have h7 := h6 (i + 1 + t) y Fj (by rw [List.getElem?_map]; exact hy) hFj
      exact AtF.frame _ (fun q hq => hfr q fun e => hnid (e ▸ List.mem_flatten.2 ⟨Fj, List.mem_of_getElem? hFj, hq⟩)) h7
  · rcases List.mem_cons.1 hq with rfl | hq
    · exact List.mem_cons_self
    · exact List.mem_cons_of_mem _ (hsub.subset hq)
end

section
variable {α : Type} {G : List Ob} {sh : Sh} {f : α → U} {v : V} {l : List α} {F : List Nat}
/-- An element is set. -/
theorem replaceF (h : AtF G (.slice sh) [v] (.lst (l.map f)) F) (hn : F.Nodup) {i : Nat} (hi : i < l.length) {x : α} {c : List V} {K : List Nat} (hx : AtF G sh c (f x) K) (hxn : K.Nodup) (hd : ∀ q ∈ K, q ∉ F) :
    ∃ id off cells F', v = .slc (some (id, off)) l.length ∧ G[id]? = some (.mk true sh.size cells) ∧ off + l.length * sh.size ≤ cells.length ∧ id ∈ F ∧
      AtF (G.set id (.mk true sh.size (setRange cells (off + i * sh.size) c))) (.slice sh) [v] (.lst ((l.set i x).map f)) F' ∧ F'.Nodup ∧ ∀ q ∈ F', q ∈ F ∨ q ∈ K := by
  obtain ⟨w, us, hw, hus, hlen, h⟩ := AtF_slice.1 h
  cases hw
  cases hus
  have hcl : c.length = sh.size := At.len _ (AtF.at _ hx)
  rcases h with ⟨rfl, hl0, rfl⟩ | ⟨id, off, cells, Fs, rfl, h2, h3, h4, rfl, h6⟩
  · have hl0 : l = [] := by simpa using hl0
    subst hl0
    simp at hi
  rw [List.length_map] at h3 h4 hlen ⊢
  have hid : id < G.length := (List.getElem?_eq_some_iff.1 h2).1
  have his : i * sh.size + sh.size ≤ l.length * sh.size := mul_step hi
  obtain ⟨hnid, hnf⟩ := List.nodup_cons.1 hn
  have hKid : id ∉ K := fun hm => hd id hm List.mem_cons_self
  obtain ⟨N, hN⟩ : ∃ N, N = setRange cells (off + i * sh.size) c := ⟨_, rfl⟩
  have hNl : N.length = cells.length := by rw [hN, setRange_len (by omega)]
  have hfr : ∀ q, q ≠ id → (G.set id (.mk true sh.size N))[q]? = G[q]? := fun q hq => List.getElem?_set_ne fun e => hq e.symm
  have hset : Fs.set i K = Fs.take i ++ K :: Fs.drop (i + 1) := by rw [List.set_eq_take_append_cons_drop, if_pos (by omega)]
  have hdec : Fs.flatten = (Fs.take i).flatten ++ (Fs.drop i).flatten := by rw [← List.flatten_append, List.take_append_drop]
  have hd2 : Fs.drop i = Fs[i]'(by omega) :: Fs.drop (i + 1) := List.drop_eq_getElem_cons (by omega)
  have hmem : ∀ q ∈ (Fs.set i K).flatten, q ∈ Fs.flatten ∨ q ∈ K := fun q hq => by
    rw [hset, List.flatten_append, List.flatten_cons] at hq
    rw [hdec, hd2, List.flatten_cons]
    simp only [List.mem_append] at hq ⊢
    rcases hq with h | h | h <;> simp [h]
  refine ⟨id, off, cells, id :: (Fs.set i K).flatten, rfl, h2, h3, List.mem_cons_self, ?_, ?_, fun q hq => ?_⟩
  · rw [← hN]
    refine AtF_slice.2 ⟨_, _, rfl, rfl, by simpa using hlen, .inr ⟨id, off, N, Fs.set i K, by simp, List.getElem?_set_self hid, by simp [hNl]; exact h3, by simp [h4], rfl, fun j y Fj hy hFj => ?_⟩⟩
    rw [List.getElem?_map] at hy
    by_cases hji : j = i
    · subst hji
      rw [List.getElem?_set_self hi] at hy
      rw [List.getElem?_set_self (by omega)] at hFj
      cases hy
      cases hFj
      have := setRange_same (cells := cells) (c := c) (o := off + j * sh.size) (by omega)
      rw [hcl] at this
      rw [← hN] at this
      rw [this]
      exact AtF.frame _ (fun q hq => hfr q fun e => hKid (e ▸ hq)) hx
    · rw [List.getElem?_set_ne (fun e => hji e.symm)] at hy hFj
      have hj : j < l.length := by
        cases hh : l[j]? with
        | none => rw [hh] at hy; cases hy
        | some z => exact (List.getElem?_eq_some_iff.1 hh).1
      have hjs : j * sh.size + sh.size ≤ l.length * sh.size := mul_step hj
      have hap : j * sh.size + sh.size ≤ i * sh.size ∨ i * sh.size + sh.size ≤ j * sh.size := by
        rcases Nat.lt_or_gt_of_ne hji with hlt | hlt
        · exact .inl (mul_step hlt)
        · exact .inr (mul_step hlt)
      have hz : (N.drop (off + j * sh.size)).take sh.size = (cells.drop (off + j * sh.size)).take sh.size := by rw [hN]; exact setRange_apart (by omega) (by omega)
      rw [hz]
      have h7 := h6 j y Fj (by rw [List.getElem?_map]; exact hy) hFj
      exact AtF.frame _ (fun q hq => hfr q fun e => hnid (e ▸ List.mem_flatten.2 ⟨Fj, List.mem_of_getElem? hFj, hq⟩)) h7
  · refine List.nodup_cons.2 ⟨fun hm => (hmem _ hm).elim hnid hKid, ?_⟩
    rw [hset, List.flatten_append, List.flatten_cons]
    rw [hdec, hd2, List.flatten_cons] at hnf
    obtain ⟨a1, a2, a3⟩ := List.nodup_append.1 hnf
    obtain ⟨b1, b2, b3⟩ := List.nodup_append.1 a2
    have hdK : ∀ q ∈ K, q ∉ Fs.flatten := fun q hq hm => hd q hq (List.mem_cons_of_mem _ hm)
    rw [hdec, hd2, List.flatten_cons] at hdK
    refine List.nodup_append.2 ⟨a1, List.nodup_append.2 ⟨hxn, b2, fun a ha b hb e => ?_⟩, fun a ha b hb e => ?_⟩
    · subst e; exact hdK a ha (by simp [hb])
    · subst e
      rcases List.mem_append.1 hb with hb | hb
      · exact hdK a hb (by simp [ha])
      · exact a3 a ha a (by simp [hb]) rfl
  · rcases List.mem_cons.1 hq with rfl | hq
    · exact .inl List.mem_cons_self
    · exact (hmem q hq).imp (List.mem_cons_of_mem _) fun h => h
end

/-! ### The attributes, one of them set -/
theorem filt_take {α : Type} {p : α → Bool} {l : List α} {i : Nat} (h1 : ∀ q x, q < i → l[q]? = some x → p x = true) (h2 : ∀ q x, i ≤ q → l[q]? = some x → p x = false) : l.filter p = l.take i := by
  have : l.filter p = (l.take i).filter p ++ (l.drop i).filter p := by rw [← List.filter_append, List.take_append_drop]
  rw [this, List.filter_eq_self.2, List.filter_eq_nil_iff.2, List.append_nil]
  · intro x hx
    obtain ⟨j, hj, rfl⟩ := List.getElem_of_mem hx
    rw [h2 (i + j) _ (by omega) (by rw [← List.getElem?_drop]; exact List.getElem?_eq_getElem hj)]
    decide
  · intro x hx
    obtain ⟨j, hj, rfl⟩ := List.getElem_of_mem hx
    have hj2 : j < i := by rw [List.length_take] at hj; omega
    exact h1 j _ hj2 (by rw [← List.getElem?_take_of_lt hj2]; exact List.getElem?_eq_getElem hj)
theorem filt_drop {α : Type} {p : α → Bool} {l : List α} {i : Nat} (h1 : ∀ q x, q < i → l[q]? = some x → p x = false) (h2 : ∀ q x, i ≤ q → l[q]? = some x → p x = true) : l.filter p = l.drop i := by
  have : l.filter p = (l.take i).filter p ++ (l.drop i).filter p := by rw [← List.filter_append, List.take_append_drop]
  rw [this, List.filter_eq_nil_iff.2, List.nil_append, List.filter_eq_self.2]
  · intro x hx
    obtain ⟨j, hj, rfl⟩ := List.getElem_of_mem hx
    exact h2 (i + j) _ (by omega) (by rw [← List.getElem?_drop]; exact List.getElem?_eq_getElem hj)
  · intro x hx
    obtain ⟨j, hj, rfl⟩ := List.getElem_of_mem hx
    have hj2 : j < i := by rw [List.length_take] at hj; omega
    rw [h1 j _ hj2 (by rw [← List.getElem?_take_of_lt hj2]; exact List.getElem?_eq_getElem hj)]
    decide
end Go.Lite
end

section
namespace Go.Lite
open Go
set_option linter.unusedSimpArgs false
set_option linter.unusedVariables false

/-- A row that the call itself lays, over a heap that stood before. -/
def Rw (s : Nat) (B G : List Ob) (v : V) (n : Nat) (cs : List V) : Prop :=
  (∃ T, G = B ++ T) ∧ cs.length = n * s ∧ ((v = .slc none 0 ∧ n = 0) ∨ ∃ id, v = .slc (some (id, 0)) n ∧ B.length ≤ id ∧ G[id]? = some (.mk true s cs))

section
variable {s n m : Nat} {B G : List Ob} {v : V} {cs xs : List V}
theorem Rw.nil : Rw s B B (.slc none 0) 0 [] := ⟨⟨[], by simp⟩, by simp, .inl ⟨rfl, rfl⟩⟩
theorem Rw.init (hB : ∃ T, G = B ++ T) : Rw s B (G ++ [.mk true s []]) (.slc (some (G.length, 0)) 0) 0 [] := by
  obtain ⟨T, rfl⟩ := hB
  exact ⟨⟨T ++ [.mk true s []], by simp⟩, by simp, .inr ⟨(B ++ T).length, rfl, by simp, get_last⟩⟩
theorem Rw.pre (h : Rw s B G v n cs) : ∃ T, G = B ++ T := h.1
theorem Rw.ext {T : List Ob} (h : Rw s B G v n cs) : Rw s B (G ++ T) v n cs := by
  obtain ⟨⟨S, rfl⟩, h2, h3⟩ := h
  exact ⟨⟨S ++ T, by simp⟩, h2, h3.imp id fun ⟨id, q1, q2, q3⟩ => ⟨id, q1, q2, up_append _ _ q3⟩⟩
theorem Rw.one (h : Rw s B G v n cs) : isOne v = true ∧ cellsOf v = some [v] := by
  rcases h.2.2 with ⟨rfl, _⟩ | ⟨id, rfl, _⟩ <;> exact ⟨rfl, rfl⟩
theorem Rw.many (h : Rw s B G v n cs) {d : LD} {by_ : Nat} {z : List V} {x : V} (hx : newCells ⟨d, s, by_, z⟩ G x = some (xs, m)) (hm : xs.length = m * s) (ho : xs.all isOne = true)
    (hz : z.length = s) (h0 : 0 < s) (hb0 : 0 < by_) (hb1 : by_ ≤ 1000000) (hb : (n + m) * by_ ≤ maxMade) :
    ∃ v' G', appendV ⟨d, s, by_, z⟩ G v x = some (v', G') ∧ Rw s B G' v' (n + m) (cs ++ xs) := by
  by_cases hm0 : m = 0
  · subst hm0
    have hx0 : xs = [] := List.length_eq_zero_iff.1 (by omega)
    subst hx0
    refine ⟨v, G, ?_, by simpa using h⟩
    unfold appendV
    rw [if_pos (by simp [growOk, h0, hb0, hb1, hz]), hx]
    simp only [if_true]
    rcases h.2.2 with ⟨rfl, _⟩ | ⟨id, rfl, _⟩ <;> rfl
  obtain ⟨⟨T, rfl⟩, h2, h3⟩ := h
  rcases h3 with ⟨rfl, rfl⟩ | ⟨id, rfl, q2, q3⟩
  · have hc0 : cs = [] := List.length_eq_zero_iff.1 (by omega)
    subst hc0
    refine ⟨_, _, appendV_nil hz h0 hb0 hb1 hx hm0 ho (by simpa using hb), ⟨T ++ [.mk true s xs], by simp⟩, by simp [hm], .inr ⟨(B ++ T).length, by simp, by simp, ?_⟩⟩
    rw [List.nil_append]; exact get_last
  · refine ⟨_, _, appendV_row hz h0 hb0 hb1 q3 h2 hx hm0 ho hb, ⟨T.set (id - B.length) .dead ++ [.mk true s (cs ++ xs)], ?_⟩, by simp [h2, hm, Nat.add_mul], .inr ⟨(B ++ T).length, rfl, by simp, ?_⟩⟩
    · rw [List.set_append_right _ _ q2, List.append_assoc]
    · have hl : ((B ++ T).set id .dead).length = (B ++ T).length := List.length_set
      rw [← hl, get_last]
end

/-- Elements in their cells, each with its own objects. -/
def RowsOk (B : List Ob) (sh : Sh) (cs : List V) (us : List U) (Fs : List (List Nat)) : Prop :=
  cs.length = us.length * sh.size ∧ Fs.length = us.length ∧ ∀ i x F, us[i]? = some x → Fs[i]? = some F → AtF B sh ((cs.drop (i * sh.size)).take sh.size) x F

section
variable {B G : List Ob} {sh : Sh} {cs cs' : List V} {us us' : List U} {Fs Fs' : List (List Nat)} {v : V}
theorem RowsOk.nil : RowsOk B sh [] [] [] := ⟨by simp, rfl, fun i x F h => by cases h⟩
theorem RowsOk.one {c : List V} {x : U} {F : List Nat} (h : AtF B sh c x F) : RowsOk B sh c [x] [F] := by
  have hl : c.length = sh.size := At.len _ (AtF.at _ h)
  refine ⟨by simp [hl], rfl, fun i y K hy hK => ?_⟩
  cases i with
  | zero => cases hy; cases hK; rw [Nat.zero_mul, List.drop_zero, List.take_of_length_le (by omega)]; exact h
  | succ i => cases hy
theorem RowsOk.take (h : RowsOk B sh cs us Fs) {k : Nat} (hk : k ≤ us.length) : RowsOk B sh (cs.take (k * sh.size)) (us.take k) (Fs.take k) := by
  obtain ⟨h1, h2, h3⟩ := h
  have hm : k * sh.size ≤ us.length * sh.size := Nat.mul_le_mul_right _ hk
  refine ⟨by simp [Nat.min_eq_left hk]; omega, by simp; omega, fun i x F hx hF => ?_⟩
  have hi : i < k := by have := (List.getElem?_eq_some_iff.1 hx).1; simp at this; omega
  rw [List.getElem?_take_of_lt hi] at hx hF
  have hs : i * sh.size + sh.size ≤ k * sh.size := mul_step hi
  have := h3 i x F hx hF
  rw [chunk_take hs]
  exact this
theorem RowsOk.drop (h : RowsOk B sh cs us Fs) {k : Nat} (hk : k ≤ us.length) : RowsOk B sh (cs.drop (k * sh.size)) (us.drop k) (Fs.drop k) := by
  obtain ⟨h1, h2, h3⟩ := h
  refine ⟨by simp [h1, Nat.sub_mul], by simp; omega, fun i x F hx hF => ?_⟩
  rw [List.getElem?_drop] at hx hF
  have := h3 (k + i) x F hx hF
  rw [List.drop_drop, ← Nat.add_mul]
  exact this
theorem RowsOk.append (h : RowsOk B sh cs us Fs) (h' : RowsOk B sh cs' us' Fs') : RowsOk B sh (cs ++ cs') (us ++ us') (Fs ++ Fs') := by
  obtain ⟨h1, h2, h3⟩ := h
  obtain ⟨k1, k2, k3⟩ := h'
  refine ⟨by simp [h1, k1, Nat.add_mul], by simp [h2, k2], fun i x F hx hF => ?_⟩
  by_cases hi : i < us.length
  · rw [List.getElem?_append_left hi] at hx
    rw [List.getElem?_append_left (by omega)] at hF
    have hs : i * sh.size + sh.size ≤ us.length * sh.size := mul_step hi
    rw [List.drop_append_of_le_length (by omega), List.take_append_of_le_length (by simp; omega)]
    exact h3 i x F hx hF
  · obtain ⟨t, rfl⟩ : ∃ t, i = us.length + t := ⟨i - us.length, by omega⟩
    rw [List.getElem?_append_right (by omega)] at hx hF
    rw [show us.length + t - us.length = t by omega] at hx
    rw [show us.length + t - Fs.length = t by omega] at hF
    have e : (us.length + t) * sh.size = cs.length + t * sh.size := by rw [Nat.add_mul, h1]
    rw [e, List.drop_append, List.drop_eq_nil_of_le (by omega), List.nil_append, Nat.add_sub_cancel_left]
    exact k3 t x F hx hF
theorem RowsOk.ones (h : RowsOk B sh cs us Fs) : cs.all isOne = true := by
  refine rows_ones (n := us.length) (s := sh.size) h.1 fun j hj => ?_
  have hF : j < Fs.length := by rw [h.2.1]; exact hj
  exact At.ones _ (AtF.at _ (h.2.2 j us[j] Fs[j] (List.getElem?_eq_getElem hj) (List.getElem?_eq_getElem hF)))
theorem RowsOk.mem (h : RowsOk B sh cs us Fs) : ∀ q ∈ Fs.flatten, q < B.length := fun q hq => by
  obtain ⟨F, hF, hq⟩ := List.mem_flatten.1 hq
  obtain ⟨i, hi, rfl⟩ := List.getElem_of_mem hF
  have hi' : i < us.length := by rw [← h.2.1]; exact hi
  exact AtF.mem _ (h.2.2 i us[i] Fs[i] (List.getElem?_eq_getElem hi') (List.getElem?_eq_getElem hi)) q hq
theorem RowsOk.frame (h : RowsOk B sh cs us Fs) (hG : ∀ q ∈ Fs.flatten, G[q]? = B[q]?) : RowsOk G sh cs us Fs :=
  ⟨h.1, h.2.1, fun i x F hx hF => AtF.frame _ (fun q hq => hG q (List.mem_flatten.2 ⟨F, List.mem_of_getElem? hF, hq⟩)) (h.2.2 i x F hx hF)⟩

/-- A row that was laid of such elements. -/
theorem Rw.slF {n : Nat} (h : Rw sh.size B G v n cs) (hr : RowsOk B sh cs us Fs) (hl : us.length = n) (hb : n ≤ maxLen) (hn : Fs.flatten.Nodup) :
    ∃ F, AtF G (.slice sh) [v] (.lst us) F ∧ F.Nodup ∧ ∀ q ∈ F, q < G.length ∧ (q ∈ Fs.flatten ∨ B.length ≤ q) := by
  obtain ⟨⟨T, rfl⟩, h2, h3⟩ := h
  subst hl
  rcases h3 with ⟨rfl, h0⟩ | ⟨id, rfl, q2, q3⟩
  · have hu : us = [] := List.length_eq_zero_iff.1 h0
    subst hu
    exact ⟨[], AtF_slice.2 ⟨_, _, rfl, rfl, by simp, .inl ⟨rfl, rfl, rfl⟩⟩, List.nodup_nil, fun q hq => by cases hq⟩
  · have hm := hr.mem
    refine ⟨id :: Fs.flatten, AtF_slice.2 ⟨_, _, rfl, rfl, hb, .inr ⟨id, 0, cs, Fs, rfl, q3, by rw [hr.1]; omega, hr.2.1, rfl, fun i x F hx hF => ?_⟩⟩, List.nodup_cons.2 ⟨fun hq => by have := hm id hq; omega, hn⟩, fun q hq => ?_⟩
    · rw [Nat.zero_add]
      exact (hr.2.2 i x F hx hF).ext
    · rcases List.mem_cons.1 hq with rfl | hq
      · exact ⟨(List.getElem?_eq_some_iff.1 q3).1, .inr q2⟩
      · exact ⟨by have := hm q hq; simp; omega, .inl hq⟩

/-- The cells of a slice's own elements, and of its parts. -/
theorem AtF.rows {F : List Nat} (h : AtF B (.slice sh) [v] (.lst us) F) (hn : F.Nodup) : ∃ p cs Fs, v = .slc p us.length ∧ RowsOk B sh cs us Fs ∧ Fs.flatten.Nodup ∧ (∀ q ∈ Fs.flatten, q ∈ F) ∧
    ((p = none ∧ us = []) ∨ ∃ id off cells, p = some (id, off) ∧ B[id]? = some (.mk true sh.size cells) ∧ id ∈ F ∧ id ∉ Fs.flatten ∧
      ∀ (d : LD) (by_ : Nat) (z : List V) (G : List Ob) (lo hi : Nat), G[id]? = B[id]? → lo ≤ hi → hi ≤ us.length →
        newCells ⟨d, sh.size, by_, z⟩ G (.slc (some (id, off + lo * sh.size)) (hi - lo)) = some ((cs.drop (lo * sh.size)).take ((hi - lo) * sh.size), hi - lo)) := by
  obtain ⟨w, us', hw, hus, hlen, h⟩ := AtF_slice.1 h
  cases hw
  cases hus
  rcases h with ⟨rfl, rfl, rfl⟩ | ⟨id, off, cells, Fs, rfl, h2, h3, h4, rfl, h6⟩
  · exact ⟨none, [], [], rfl, RowsOk.nil, by simp, by simp, .inl ⟨rfl, rfl⟩⟩
  · obtain ⟨hn1, hn2⟩ := List.nodup_cons.1 hn
    have hcl : ((cells.drop off).take (us.length * sh.size)).length = us.length * sh.size := by simp; omega
    refine ⟨some (id, off), (cells.drop off).take (us.length * sh.size), Fs, rfl, ⟨hcl, h4, fun i x F hx hF => ?_⟩, hn2, fun q hq => List.mem_cons_of_mem _ hq, .inr ⟨id, off, cells, rfl, h2, List.mem_cons_self, hn1, fun d by_ z G lo hi hG hlo hhi => ?_⟩⟩
    · rw [row_chunk h3 (List.getElem?_eq_some_iff.1 hx).1]
      exact h6 i x F hx hF
    · have e1 : lo * sh.size + (hi - lo) * sh.size = hi * sh.size := by rw [← Nat.add_mul]; congr 1; omega
      have e2 : hi * sh.size ≤ us.length * sh.size := Nat.mul_le_mul_right _ hhi
      have e3 : (((cells.drop off).take (us.length * sh.size)).drop (lo * sh.size)).take ((hi - lo) * sh.size) = (cells.drop (off + lo * sh.size)).take ((hi - lo) * sh.size) := by
        rw [List.drop_take, List.take_take, List.drop_drop, Nat.min_eq_left (by omega)]
      rw [e3]
      simp only [newCells, slcCells, hG, h2]
      by_cases h0 : (hi - lo) * sh.size = 0
      · rw [if_pos h0, h0, List.take_zero]
      · rw [if_neg h0]
        unfold rdCells
        rw [if_pos (by omega)]
end
end Go.Lite
end
