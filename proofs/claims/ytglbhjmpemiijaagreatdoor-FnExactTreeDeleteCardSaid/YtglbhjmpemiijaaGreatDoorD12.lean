/- Part 12 of the proof of a law: the interpreter, its soundness, and what functions of the program compute over it. Conditions: none but those that each theorem names. -/
import Derived.Test.YtglbhjmpemiijaaGreatDoorD11
import Derived.Test.YtglbhjmpemiijaaGreatDoorD09
import Derived.Test.YtglbhjmpemiijaaGreatDoorD08
import Derived.Test.YtglbhjmpemiijaaGreatDoorD10
import Derived.Test.YtglbhjmpemiijaaGreatDoorD04
import Derived.Laws.Externs
import Derived.CallsIn
import Derived.Sort.EncStr
import Derived.Sort.Grow
import Derived.Test.YtglbhjmpemiijaaGreatDoorD06
import Derived.WalkKit
import Derived.Test.YtglbhjmpemiijaaGreatDoorD05
import Derived.Test.YtglbhjmpemiijaaGreatDoorProg
import Derived.KernelRfl
import Derived.Test.YtglbhjmpemiijaaGreatDoorD07

section
namespace Go.Lite
open Go
set_option linter.unusedSimpArgs false
set_option linter.unusedVariables false

section
variable {H S X : List Ob} {l : List Nat} {k : Nat} {o : Ob}
theorem hideL_app : hideL l H.length (H ++ S) = H ++ hideL l 0 S := by
  apply List.ext_getElem?
  intro i
  rw [hideL_get]
  by_cases hi : i < H.length
  · rw [List.getElem?_append_left hi, List.getElem?_append_left hi]
    cases H[i]? with
    | none => rfl
    | some o => rw [Option.map_some, if_neg (fun hc => absurd hc.1 (by omega))]
  · rw [List.getElem?_append_right (by omega), List.getElem?_append_right (by omega), hideL_get]
    have : (H.length ≤ i ∧ l.contains (i - H.length) = true) ↔ (0 ≤ i - H.length ∧ l.contains (i - H.length - 0) = true) := by simp; omega
    simp only [this]
theorem backL_app : backL l H.length (H ++ S) (H ++ X) = H ++ backL l 0 S X := by
  apply List.ext_getElem?
  intro i
  rw [backL_get]
  by_cases hi : i < H.length
  · rw [List.getElem?_append_left hi, List.getElem?_append_left hi]
    cases H[i]? with
    | none => rfl
    | some o => rw [Option.map_some, if_neg (fun hc => absurd hc.1 (by omega))]
  · rw [List.getElem?_append_right (by omega), List.getElem?_append_right (by omega), backL_get]
    have : (H.length ≤ i ∧ l.contains (i - H.length) = true) ↔ (0 ≤ i - H.length ∧ l.contains (i - H.length - 0) = true) := by simp; omega
    simp only [this, List.getD_eq_getElem?_getD]
    rw [List.getElem?_append_right (by omega)]
theorem hideL_cons {o : Ob} {n : Nat} : hideL l n (o :: S) = (if n = 0 ∧ l.contains 0 = true then .dead else o) :: (if n = 0 then hideL (l.filterMap fun i => if i = 0 then none else some (i - 1)) 0 S else hideL l (n - 1) S) := by
  apply List.ext_getElem?
  intro i
  rw [hideL_get]
  cases i with
  | zero =>
    simp only [List.getElem?_cons_zero, Option.map_some, Nat.zero_sub]
    congr 1
    simp only [Nat.le_zero_eq]
  | succ i =>
    simp only [List.getElem?_cons_succ]
    by_cases hn : n = 0
    · subst hn
      simp only [if_true]
      rw [hideL_get]
      have : (0 ≤ i + 1 ∧ l.contains (i + 1 - 0) = true) ↔ (0 ≤ i ∧ (l.filterMap fun i => if i = 0 then none else some (i - 1)).contains (i - 0) = true) := by
        simp only [Nat.zero_le, true_and, Nat.sub_zero, List.contains_eq_mem, decide_eq_true_eq, List.mem_filterMap]
        constructor
        · intro h; exact ⟨i + 1, h, by simp⟩
        · rintro ⟨j, h1, h2⟩
          split at h2
          · cases h2
          · cases h2; rename_i hj; rwa [Nat.sub_add_cancel (by omega)]
      simp only [this]
    · simp only [hn, if_false]
      rw [hideL_get]
      have : (n ≤ i + 1 ∧ l.contains (i + 1 - n) = true) ↔ (n - 1 ≤ i ∧ l.contains (i - (n - 1)) = true) := by
        rw [show i + 1 - n = i - (n - 1) by omega]
        constructor <;> rintro ⟨h1, h2⟩ <;> exact ⟨by omega, h2⟩
      simp only [this]
theorem hideL_e {n : Nat} : hideL l n [] = [] := rfl
theorem set_app_at : (H ++ S).set (H.length + k) o = H ++ S.set k o := by
  rw [List.set_append_right _ _ (by omega), Nat.add_sub_cancel_left]
theorem set_app_0 : (H ++ S).set H.length o = H ++ S.set 0 o := by
  rw [List.set_append_right _ _ (by omega), Nat.sub_self]
theorem get_app_at : (H ++ S)[H.length + k]? = S[k]? := by
  rw [List.getElem?_append_right (by omega), Nat.add_sub_cancel_left]
end
end Go.Lite
end

section
namespace Go.Proofs.Try1
open Go Go.Lite
set_option linter.unusedSimpArgs false
set_option linter.unusedVariables false

/-- A tree without one of its entries. -/
def outT (t : PTree) (k : Nat) : PTree := ⟨t.schema, t.entries.take k ++ t.entries.drop (k + 1)⟩

set_option maxRecDepth 10000 in
set_option maxHeartbeats 8000000 in
theorem s_Out {H : List Ob} {vs ve : V} {t : PTree} {k : Nat} (hs : AClasses H vs t.schema) (h : AEntries H ve t.entries) (hb : SmallT t) (hk : k < t.entries.length) :
    ∃ T w1 w2, callW C 281 [.agg [vs, ve], .int .i64 k] H = some (.agg [w1, w2], H ++ T) ∧ New H.length (H ++ T).length (H ++ T) shTree [w1, w2] (outT t k).u := by
  suffices hs : Ret C 281 [.agg [vs, ve], .int .i64 k] H fun q H' => ∃ T w1 w2, q = .agg [w1, w2] ∧ H' = H ++ T ∧ New H.length (H ++ T).length (H ++ T) shTree [w1, w2] (outT t k).u by
    obtain ⟨q, H', hc, T, w1, w2, rfl, rfl, hr⟩ := hs
    exact ⟨T, w1, w2, hc, hr⟩
  rw [op281]
  have hos := hs.one
  have hoe := h.one
  have hbe := hb.2.1
  obtain ⟨T1, w1, w2, c1, n1⟩ := s_CopyT hs h hb
  obtain ⟨K, hK⟩ : ∃ K, K = H ++ T1 := ⟨_, rfl⟩
  rw [← hK] at n1 c1
  obtain ⟨F, f1, f2, f3⟩ := n1
  obtain ⟨us, hus, f4⟩ := AtF_st.1 f1
  cases hus
  obtain ⟨c1', c2', u1, us1, F1, F2, hcs, hu, rfl, f5, f6⟩ := AtsF_cons.1 f4
  cases hu
  obtain ⟨c3', c4', u2, us2, F3, F4, rfl, hu, rfl, f7, f8⟩ := AtsF_cons.1 f6
  cases hu
  obtain ⟨rfl, _, rfl⟩ := AtsF_nil.1 f8
  obtain ⟨x1, _, rfl, _⟩ := AtF_slice.1 f5
  obtain ⟨x2, _, rfl, _⟩ := AtF_slice.1 f7
  simp only [List.append_nil, List.cons_append, List.nil_append, List.cons.injEq, and_true] at hcs
  obtain ⟨rfl, rfl⟩ := hcs
  rw [List.append_nil] at f2 f3
  obtain ⟨fa, fb, fc⟩ := List.nodup_append.1 f2
  have ho1 : isOne w1 = true ∧ cellsOf w1 = some [w1] := ASl.one (f := PClass.u) (l := t.schema) (AtF.at _ f5)
  have hsz : shEntry.size = 2 := rfl
  obtain ⟨p, cs, Fs, hw2, hr, hn, hsub, hp⟩ := f7.rows fb
  rw [List.length_map] at hw2 hp
  rcases hp with ⟨_, h0⟩ | ⟨id, off, cells, rfl, hcell, hidF, hidn, hnc⟩
  · have : t.entries = [] := by simpa using h0
    rw [this] at hk
    simp at hk
  subst hw2
  rw [hsz] at hcell hnc
  have hst : strideIs K id 2 = true := by simp [strideIs, hcell]
  have hidl : id < K.length := (List.getElem?_eq_some_iff.1 hcell).1
  have nc1 := fun d by_ z => hnc d by_ z (K ++ [.mk true 2 []]) 0 k (List.getElem?_append_left hidl) (by omega) (by omega)
  simp only [Nat.zero_mul, Nat.add_zero, Nat.sub_zero, List.drop_zero] at nc1
  have hrl := hr.1
  rw [List.length_map, hsz] at hrl
  have R0 : Rw 2 K (K ++ [.mk true 2 []]) (.slc (some (K.length, 0)) 0) 0 [] := Rw.init ⟨[], by simp⟩
  have hmul : k * 2 ≤ t.entries.length * 2 := by omega
  have hones := hr.ones
  have hone1 : (cs.take (k * 2)).all isOne = true := List.all_eq_true.2 fun x hx => List.all_eq_true.1 hones x (List.mem_of_mem_take hx)
  obtain ⟨v1, G1, a1, R1⟩ := R0.many (d := .struct [(0, 29), (1, 30)]) (by_ := 48) (z := [.slc none 0, .slc none 0]) (nc1 _ _ _) (by simp; omega) hone1 rfl (by decide) (by decide) (by decide) (by unfold maxMade; omega)
  obtain ⟨S1, hS1⟩ := R1.pre
  have nc2 := fun d by_ z => hnc d by_ z G1 (k + 1) t.entries.length (by rw [hS1, List.getElem?_append_left hidl]) (by omega) (Nat.le_refl _)
  have e2 : (cs.drop ((k + 1) * 2)).take ((t.entries.length - (k + 1)) * 2) = cs.drop ((k + 1) * 2) := List.take_of_length_le (by simp; omega)
  rw [e2] at nc2
  have hone2 : (cs.drop ((k + 1) * 2)).all isOne = true := List.all_eq_true.2 fun x hx => List.all_eq_true.1 hones x (List.mem_of_mem_drop hx)
  obtain ⟨v2, G2, a2, R2⟩ := R1.many (d := .struct [(0, 29), (1, 30)]) (by_ := 48) (z := [.slc none 0, .slc none 0]) (nc2 _ _ _) (by simp; omega) hone2 rfl (by decide) (by decide) (by decide) (by unfold maxMade; omega)
  obtain ⟨S2, hS2⟩ := R2.pre
  have hul : k ≤ (t.entries.map PEntry.u).length := by rw [List.length_map]; omega
  have hul1 : k + 1 ≤ (t.entries.map PEntry.u).length := by rw [List.length_map]; omega
  have hrow := (hr.take hul).append (hr.drop hul1)
  have hsl : List.Sublist (Fs.take k ++ Fs.drop (k + 1)).flatten Fs.flatten := by
    have hFl : k < Fs.length := by rw [hr.2.1, List.length_map]; exact hk
    have hd : Fs.drop k = Fs[k] :: Fs.drop (k + 1) := List.drop_eq_getElem_cons hFl
    conv => rhs; rw [← List.take_append_drop k Fs, hd]
    rw [List.flatten_append, List.flatten_append, List.flatten_cons]
    exact List.Sublist.append (List.Sublist.refl _) (List.sublist_append_right _ _)
  have R2' : Rw shEntry.size K G2 v2 (0 + k + (t.entries.length - (k + 1))) (cs.take (k * shEntry.size) ++ cs.drop ((k + 1) * shEntry.size)) := by simpa [hsz] using R2
  obtain ⟨F', g1, g2, g3⟩ := R2'.slF hrow (by simp; omega) (by unfold maxLen; omega) (hn.sublist hsl)
  have e3 : (t.entries.map PEntry.u).take k ++ (t.entries.map PEntry.u).drop (k + 1) = ((outT t k).entries).map PEntry.u := by simp [outT]
  rw [e3] at g1
  have hne : New H.length G2.length G2 shTree [w1, v2] (outT t k).u := by
    refine ⟨F1 ++ F', AtF_st.2 ⟨_, rfl, AtsF_cons.2 ⟨[w1], [v2], _, _, F1, F', rfl, rfl, rfl, by rw [hS2]; exact f5.ext, AtsF_cons.2 ⟨[v2], [], _, _, F', [], rfl, rfl, by simp, g1, AtsF_nil.2 ⟨rfl, rfl, rfl⟩⟩⟩⟩, List.nodup_append.2 ⟨fa, g2, fun x hx y hy e => ?_⟩, fun q hq => ?_⟩
    · subst e
      rcases (g3 x hy).2 with hh | hh
      · exact fc x hx x (by simpa using hsub x (hsl.subset hh)) rfl
      · have := AtF.mem _ f5 x hx; omega
    · have hKl : H.length ≤ K.length := by rw [hK]; simp
      rcases List.mem_append.1 hq with hq | hq
      · have := AtF.mem _ f5 q hq
        exact ⟨(f3 q (List.mem_append_left _ hq)).1, by rw [hS2]; simp; omega⟩
      · refine ⟨?_, (g3 q hq).1⟩
        rcases (g3 q hq).2 with hh | hh
        · exact (f3 q (List.mem_append_right _ (by simpa using hsub q (hsl.subset hh)))).1
        · omega
  obtain ⟨T', hg, hn'⟩ := (show New H.length G2.length (H ++ (T1 ++ S2)) shTree [w1, v2] (outT t k).u by rw [← List.append_assoc, ← hK, ← hS2]; exact hne).gcA
  rw [← List.append_assoc, ← hK, ← hS2] at hg
  have ho2 := R2.one
  have ho3 := R1.one
  have hw : IntKind.i64.wrap ((k : Int) + 1) = (k : Int) + 1 := wrap_i64 (by omega) (by omega)
  have hk1 : Keep K.length (K ++ [Ob.mk true 2 []]) G1 := Keep_of K (Nat.le_refl _) ⟨_, rfl⟩ ⟨_, hS1⟩
  have hkI : (k : Int) ≤ t.entries.length := by omega
  have hk0 : (0 : Int) ≤ (k : Int) + 1 := by omega
  have hkN : k ≤ t.entries.length := by omega
  have hkN1 : k + 1 ≤ t.entries.length := by omega
  have hgl : K.length ≤ G1.length := by rw [hS1]; simp
  simp [code281, Tryz.f281, hos, hoe, c1, fillL, zerosL, buildV, structPlace, elemT, St.new, ho1, ho2, ho3, hst, hw, a1, a2, hk1, hkN, hkN1, hk0, hidl, Keep_append, hg, regionL_none, regionL_some, List.lookup]
  exact ⟨T', w1, v2, ⟨rfl, rfl⟩, rfl, by simpa using hn'⟩
end Go.Proofs.Try1
end

section
namespace Go.Proofs.Try1
open Go Go.Lite
set_option linter.unusedSimpArgs false
set_option linter.unusedVariables false

theorem i_ManyR {H : List Ob} {v : V} {l : List PRdn} (h : ARdns H v l) : callW C 257 [v] H = some (.bool (decide (400 < l.length)), H) := by
  apply Ret.eq
  rw [op257]
  have hi : (400 : Int) < (l.length : Int) ↔ 400 < l.length := by omega
  simp [code257, Tryz.f257, h.len, hi]

/-- One name is looked at, and what else must hold. -/
theorem i_dnsCode1 {H : List Ob} {idd g : Nat} {b : List V} {vd : V} {dn : List PRdn} {rr : Bool} (hi : H[idd]? = some (.mk true 1 [vd])) (hd : ARdns H vd dn) (hr : callW C g b H = some (.bool rr, H)) :
    callW C 159 [.fn g [] b, .slc (some (idd, 0)) 1] H = some (.int .i64 (if 400 < dn.length then 2 else if dec (DnOk dn) = true ∧ rr = true then 0 else 1), H) := by
  apply Ret.eq
  rw [op159]
  have c1 := i_ManyR hd
  have c2 := i_Dn hd
  have ld := load1 (o := 0) (v := vd) hi rfl
  simp [code159, Tryz.f159]
  refine WP_loop (fun k σ => ∃ (i : Nat) (r : Nat → R), i + k = 1 ∧ (0 < i → ¬ 400 < dn.length) ∧ σ = ⟨r, 0, H⟩ ∧ r 0 = .val (.fn g [] b) ∧ r 1 = .val (.slc (some (idd, 0)) 1) ∧ r 9 = .val (.slc (some (idd, 0)) 1) ∧ r 10 = .val (.int .i64 1) ∧ r 11 = .val (.int .i64 i)) ?_ 1 _ ⟨0, _, by omega, by omega, rfl, by simp, by simp, by simp, by simp, by simp⟩
  rintro k σ ⟨i, r, hik, hlow, rfl, r0, r1, r9, r10, r11⟩
  cases k with
  | succ k =>
    obtain rfl : i = 0 := by omega
    obtain rfl : k = 0 := by omega
    by_cases g1 : 400 < dn.length
    · simp [r0, r1, r9, r10, r11, ld, c1, g1]
    · simp [r0, r1, r9, r10, r11, ld, c1, g1]
  | zero =>
    obtain rfl : i = 1 := by omega
    have g1 := hlow (by omega)
    simp [r0, r1, r9, r10, r11, g1]
    refine WP_loop (fun k σ => ∃ (i : Nat) (r : Nat → R), i + k = 1 ∧ (0 < i → DnOk dn) ∧ σ = ⟨r, 0, H⟩ ∧ r 0 = .val (.fn g [] b) ∧ r 1 = .val (.slc (some (idd, 0)) 1) ∧ r 18 = .val (.slc (some (idd, 0)) 1) ∧ r 19 = .val (.int .i64 1) ∧ r 20 = .val (.int .i64 i)) ?_ 1 _ ⟨0, _, by omega, by omega, rfl, by simp [r0], by simp [r1], by simp, by simp, by simp⟩
    clear r0 r1 r9 r10 r11 r
    rintro k σ ⟨i, r, hik, hdn, rfl, r0, r1, r18, r19, r20⟩
    cases k with
    | succ k =>
      obtain rfl : i = 0 := by omega
      obtain rfl : k = 0 := by omega
      by_cases g2 : DnOk dn
      · rw [dec_pos g2] at c2
        simp [r0, r1, r18, r19, r20, ld, c2, g1]
        exact g2
      · rw [dec_neg g2] at c2
        simp [r0, r1, r18, r19, r20, ld, c2, g1, dec_neg g2]
    | zero =>
      obtain rfl : i = 1 := by omega
      have g2 := hdn (by omega)
      cases rr with
      | true => simp [r0, r1, r18, r19, r20, hr, dec_pos g2]
      | false => simp [r0, r1, r18, r19, r20, hr, dec_pos g2]

set_option maxRecDepth 10000 in
set_option maxHeartbeats 4000000 in
theorem i_TreeGet {H : List Ob} {vs ve vd : V} {t : PTree} {dn : List PRdn} (hs : AClasses H vs t.schema) (h : AEntries H ve t.entries) (hd : ARdns H vd dn) :
    ∃ q H', callW C 55 [.agg [vs, ve], vd] H = some (q, H') ∧ NOut H (treeGetOf t dn) q H' := by
  suffices hs : Ret C 55 [.agg [vs, ve], vd] H fun q H' => NOut H (treeGetOf t dn) q H' by
    obtain ⟨q, H', hc, hr⟩ := hs
    exact ⟨q, H', hc, hr⟩
  rw [op55]
  have hos := hs.one
  have hoe := h.one
  have hod := hd.one
  have hil : ∀ (X : List Ob) c, gcH H (H ++ X) (.agg [.slc none 0, .slc none 0, .int .i64 c]) = H := fun X c => gcH_low (by simp [lowV, lowVs])
  obtain ⟨Y, hY⟩ : ∃ Y, Y = H ++ [.mk true 2 [vs, ve]] := ⟨_, rfl⟩
  obtain ⟨K, hK⟩ : ∃ K, K = Y ++ [.mk true 1 [vd]] := ⟨_, rfl⟩
  have hYl : Y.length = H.length + 1 := by rw [hY]; simp
  have hYt : Y[H.length]? = some (.mk true 2 [vs, ve]) := by rw [hY]; exact get_last
  have hKt : K[H.length]? = some (.mk true 2 [vs, ve]) := by rw [hK]; exact up_append _ _ hYt
  have hKd : K[Y.length]? = some (.mk true 1 [vd]) := by rw [hK]; exact get_last
  obtain ⟨S, hS⟩ : ∃ S, K = H ++ S := ⟨_, by rw [hK, hY, List.append_assoc]⟩
  have hsK : AClasses K vs t.schema := by rw [hS]; exact hs.ext
  have hK2 : AEntries K ve t.entries := by rw [hS]; exact h.ext
  have hdK : ARdns K vd dn := by rw [hS]; exact hd.ext
  have ld0 := load1 (o := 0) (v := vs) hKt rfl
  have ld1 := load1 (o := 1) (v := ve) hKt rfl
  have ldN := loadN (o := 0) (n := 2) hKt (by simp) (by decide) rfl
  simp at ldN
  have hgK : ∀ c, gcH H K (.agg [.slc none 0, .slc none 0, .int .i64 c]) = H := fun c => by rw [hS]; exact hil _ _
  have c0 := i_TreeRight hsK hK2
  have cR : callW C 160 [.ptr (some (H.length, 0))] K = some (.bool (dec (TreeOk t)), K) := by
    apply Ret.eq
    rw [op160]
    simp [code160, Tryz.f160, ldN, c0]
  have c1 := i_dnsCode1 (g := 160) (b := [.ptr (some (H.length, 0))]) hKd hdK cR
  by_cases g1 : 400 < dn.length
  · have e : treeGetOf t dn = illE 2 := if_pos g1
    rw [if_pos g1] at c1
    rw [e]
    simp [code55, Tryz.f55, hos, hoe, hod, strideOf, fillL, zerosL, St.new, buildV, structPlace, elemT, ← hY, ← hK, ← hYl, c1, hgK]
    exact NOut.ill (by decide)
  rw [if_neg g1] at c1
  by_cases g2 : TreeOk t ∧ DnOk dn
  rotate_left
  · have e : treeGetOf t dn = illE 1 := by unfold treeGetOf; rw [if_neg g1, dec_neg g2]; rfl
    have g2' : ¬ (dec (DnOk dn) = true ∧ dec (TreeOk t) = true) := fun h => g2 ⟨dec_true.1 h.2, dec_true.1 h.1⟩
    rw [if_neg g2'] at c1
    rw [e]
    simp [code55, Tryz.f55, hos, hoe, hod, strideOf, fillL, zerosL, St.new, buildV, structPlace, elemT, ← hY, ← hK, ← hYl, c1, hgK]
    exact NOut.ill (by decide)
  rw [if_pos ⟨dec_pos g2.2, dec_pos g2.1⟩] at c1
  obtain ⟨gt, gd⟩ := g2
  have hok : ∀ x ∈ t.entries, DnOk x.dn := fun x hx => (TreeOk.dns gt x hx).2.1
  have hpw : t.entries.Pairwise fun a b => keyD a.dn < keyD b.dn := rise_pair (key := fun e => keyD e.dn) (fun j x hx => (gt.2.1.2 j x hx).2.2)
  have hel : t.entries.length ≤ 1000 := by have := gt.2.1.1; omega
  obtain ⟨i, ok, c2, hile, hlo, hhi, hok'⟩ := i_searchT hKt hK2 hel hok hpw hdK gd
  have e : treeGetOf t dn = match firstOf keyE t.entries (keyD dn) with
    | some e => ⟨e, 0⟩
    | none => illE 6 := by unfold treeGetOf; rw [if_neg g1, dec_pos ⟨gt, gd⟩]; rfl
  cases ok with
  | false =>
    have hn : firstOf keyE t.entries (keyD dn) = none := by
      refine List.find?_eq_none.2 fun y hy he => ?_
      have he : keyD y.dn = keyD dn := by simpa using he
      obtain ⟨j, hj, rfl⟩ := List.getElem_of_mem hy
      have hji : ¬ j < i := fun hh => by
        have := hlo j _ hh (List.getElem?_eq_getElem hj)
        rw [he] at this
        exact List.lt_irrefl _ ((LtS_iff _ _).1 this)
      by_cases hij : i = j
      · subst hij
        have := hok'.2 ⟨_, List.getElem?_eq_getElem hj, he⟩
        cases this
      · have hi2 : i < t.entries.length := by omega
        have h1 := hhi i _ (Nat.le_refl _) (List.getElem?_eq_getElem hi2)
        have h2 := List.pairwise_iff_getElem.1 hpw i j hi2 hj (by omega)
        rw [he] at h2
        exact h1 ((LtS_iff _ _).2 h2)
    rw [hn] at e
    simp only at e
    rw [e]
    simp [code55, Tryz.f55, hos, hoe, hod, strideOf, fillL, zerosL, St.new, buildV, structPlace, elemT, ← hY, ← hK, ← hYl, c1, c2, hgK]
    exact NOut.ill (by decide)
  | true =>
    obtain ⟨x, hx, he⟩ := hok'.1 rfl
    have hf : firstOf keyE t.entries (keyD dn) = some x := by
      cases hf : firstOf keyE t.entries (keyD dn) with
      | none =>
        have := List.find?_eq_none.1 hf x (List.mem_of_getElem? hx)
        exact absurd (by simpa using he) this
      | some y =>
        have hy1 : keyD y.dn = keyD dn := by have := List.find?_some hf; simpa using this
        obtain ⟨j, hj, rfl⟩ := List.getElem_of_mem (List.mem_of_find?_eq_some hf)
        obtain ⟨hi2, rfl⟩ := List.getElem?_eq_some_iff.1 hx
        have hp := List.pairwise_iff_getElem.1 hpw
        by_cases h1 : i < j
        · have := hp i j hi2 hj h1
          rw [he, hy1] at this
          exact absurd this (List.lt_irrefl _)
        · by_cases h2 : j < i
          · have := hp j i hj hi2 h2
            rw [he, hy1] at this
            exact absurd this (List.lt_irrefl _)
          · obtain rfl : i = j := by omega
            rfl
    rw [hf] at e
    simp only at e
    obtain ⟨id, o, w1, w2, e1, l0, l1, lm, a1, a2, _⟩ := entries_idx hK2 hx
    obtain ⟨T, y1, y2, c3, hn⟩ := i_copied a1 a2 (EntryOk.small (TreeOk.dns gt x (List.mem_of_getElem? hx)))
    obtain ⟨_, _, hcy, b1, b2⟩ := entry_at.1 hn.at
    cases hcy
    have ho1 := a1.one
    have ho2 := a2.one
    have hoy1 := b1.one
    have hoy2 := b2.one
    rw [e]
    simp [code55, Tryz.f55, hos, hoe, hod, strideOf, fillL, zerosL, St.new, buildV, structPlace, elemT, ← hY, ← hK, ← hYl, c1, c2, c3, e1, lm, ld0, ld1, ho1, ho2, hoy1, hoy2, hgK]
    exact NOut.of ⟨S ++ T, by rw [hS, List.append_assoc]⟩ (hn.wide (by rw [hS]; simp) (Nat.le_refl _))
end Go.Proofs.Try1
end

section
namespace Go.Proofs.Try1
open Go Go.Lite
set_option linter.unusedSimpArgs false
set_option linter.unusedVariables false

/-- What TreeDelete answers. -/
noncomputable def dropE (es : List PEntry) (key : Str) : List PEntry := es.filter fun x => !(keyE x == key)
noncomputable def deleteOf (t : PTree) (dn : List PRdn) : PTreeOut := match firstOf keyE t.entries (keyD dn) with
  | none => illT 6
  | some _ => if dec (OverOk t.entries dn) = true then illT 10 else ⟨⟨t.schema, dropE t.entries (keyD dn)⟩, [], 0⟩
noncomputable def treeDeleteOf (t : PTree) (dn : List PRdn) : PTreeOut :=
  if 400 < dn.length then illT 2 else if dec (TreeOk t ∧ DnOk dn) = true then deleteOf t dn else illT 1

theorem dropE_at {l : List PEntry} {key : Str} {k : Nat} {x : PEntry} (hp : l.Pairwise fun a b => keyE a < keyE b) (hx : l[k]? = some x) (hk : keyE x = key) : dropE l key = l.take k ++ l.drop (k + 1) := by
  obtain ⟨hkl, rfl⟩ := List.getElem?_eq_some_iff.1 hx
  have hpw := List.pairwise_iff_getElem.1 hp
  have hd : l.drop k = l[k] :: l.drop (k + 1) := List.drop_eq_getElem_cons hkl
  unfold dropE
  conv => lhs; rw [← List.take_append_drop k l, hd]
  rw [List.filter_append, List.filter_cons]
  have e1 : (l.take k).filter (fun x => !(keyE x == key)) = l.take k := List.filter_eq_self.2 fun y hy => by
    obtain ⟨j, hj, rfl⟩ := List.getElem_of_mem hy
    simp only [List.length_take] at hj
    have := hpw j k (by omega) hkl (by omega)
    simp only [List.getElem_take, Bool.not_eq_true', beq_eq_false_iff_ne, ne_eq]
    intro e
    rw [e, hk] at this
    exact List.lt_irrefl _ this
  have e2 : (l.drop (k + 1)).filter (fun x => !(keyE x == key)) = l.drop (k + 1) := List.filter_eq_self.2 fun y hy => by
    obtain ⟨j, hj, rfl⟩ := List.getElem_of_mem hy
    simp only [List.length_drop] at hj
    have := hpw k (k + 1 + j) hkl (by omega) (by omega)
    simp only [List.getElem_drop, Bool.not_eq_true', beq_eq_false_iff_ne, ne_eq]
    intro e
    rw [e, hk] at this
    exact List.lt_irrefl _ this
  rw [e1, e2]
  simp [hk]

theorem TreeOk.small {t : PTree} (h : TreeOk t) : SmallT t := by
  refine ⟨⟨by have := h.1.2; omega, fun c hc => ?_⟩, by have := h.2.1.1; omega, fun e he => EntryOk.small (TreeOk.dns h e he)⟩
  obtain ⟨j, hj, rfl⟩ := List.getElem_of_mem hc
  have hc := (h.1.1 j _ (List.getElem?_eq_getElem hj)).1
  exact ⟨by have := hc.l1; omega, by have := hc.l2; omega, by have := hc.l3; omega⟩
theorem TreeOk.rise {t : PTree} (h : TreeOk t) : t.entries.Pairwise fun a b => keyE a < keyE b := rise_pair (key := keyE) (fun j x hx => (h.2.1.2 j x hx).2.2)

theorem TOut.new {H : List Ob} {T : List Ob} {t : PTree} {w1 w2 : V} (hn : New H.length (H ++ T).length (H ++ T) shTree [w1, w2] t.u) : ∃ T' q, q = .agg [w1, w2, .slc none 0, .int .i64 0] ∧ gcH H (H ++ T) q = H ++ T' ∧ TOut H ⟨t, [], 0⟩ q (H ++ T') := by
  have h2 : New H.length (H ++ T).length (H ++ T) shTreeOut [w1, w2, .slc none 0, .int .i64 0] (PTreeOut.u ⟨t, [], 0⟩) := New.st (News.cons (c1 := [w1, w2]) (m := (H ++ T).length) hn (News.nilS (News.int (by decide) News.nil)) (by simp) (Nat.le_refl _))
  obtain ⟨T', h3, h4⟩ := h2.gcA
  exact ⟨T', _, rfl, h3, T', w1, w2, .slc none 0, rfl, rfl, h4⟩
theorem TOut.ones {H : List Ob} {o : PTreeOut} {q : V} {H' : List Ob} (h : TOut H o q H') : ∃ w1 w2 w3, q = .agg [w1, w2, w3, .int .i64 o.code] ∧ (isOne w1 = true ∧ cellsOf w1 = some [w1]) ∧ (isOne w2 = true ∧ cellsOf w2 = some [w2]) ∧ (isOne w3 = true ∧ cellsOf w3 = some [w3]) := by
  obtain ⟨T, w1, w2, w3, rfl, rfl, h3⟩ := h
  have := At.ones _ h3.at
  simp only [List.all_cons, List.all_nil, Bool.and_true, Bool.and_eq_true] at this
  exact ⟨w1, w2, w3, rfl, ⟨this.1, isOne_cells this.1⟩, ⟨this.2.1, isOne_cells this.2.1⟩, ⟨this.2.2.1, isOne_cells this.2.2.1⟩⟩
/-- An answer that a call hands on as it is. -/
theorem TOut.gc {H : List Ob} {o : PTreeOut} {q : V} {H' : List Ob} (h : TOut H o q H') : TOut H o q (gcH H H' q) := by
  obtain ⟨T, w1, w2, w3, rfl, rfl, h3⟩ := h
  obtain ⟨T', h4, h5⟩ := h3.gcA
  exact ⟨T', w1, w2, w3, rfl, h4, h5⟩

set_option maxRecDepth 10000 in
set_option maxHeartbeats 4000000 in
theorem s_Delete {H : List Ob} {vs ve vd : V} {t : PTree} {dn : List PRdn} (hs : AClasses H vs t.schema) (h : AEntries H ve t.entries) (hd : ARdns H vd dn) (gt : TreeOk t) (gd : DnOk dn) :
    ∃ q H', callW C 178 [.agg [vs, ve], vd] H = some (q, H') ∧ TOut H (deleteOf t dn) q H' := by
  suffices hs : Ret C 178 [.agg [vs, ve], vd] H fun q H' => TOut H (deleteOf t dn) q H' by
    obtain ⟨q, H', hc, hr⟩ := hs
    exact ⟨q, H', hc, hr⟩
  rw [op178]
  have hos := hs.one
  have hoe := h.one
  have hokd : ∀ x ∈ t.entries, DnOk x.dn := fun x hx => (TreeOk.dns gt x hx).2.1
  have c1 := s_IllT (H := H) (c := 6)
  have c2 := s_IllT (H := H) (c := 10)
  have c3 := s_Key hd gd
  obtain ⟨r, c4, hr⟩ := s_TAt (vs := vs) (t := keyD dn) h hokd hos
  have c5 := s_Over h hokd hos hd gd
  rcases hr.pos with ⟨k, x, h1, rfl, h2⟩ | ⟨rfl, h2⟩
  rotate_left
  · have e : deleteOf t dn = illT 6 := by unfold deleteOf; rw [h2]
    rw [e]
    simp [code178, Tryz.f178, hos, hoe, fillL, zerosL, c1, c3, c4, regionL_none, regionL_some, List.lookup]
    exact TOut.ill (by decide)
  have hk : ¬ ((k : Int) < 0) := by omega
  by_cases g : OverOk t.entries dn
  · have e : deleteOf t dn = illT 10 := by unfold deleteOf; rw [h2, dec_pos g]; rfl
    rw [dec_pos g] at c5
    rw [e]
    simp [code178, Tryz.f178, hos, hoe, fillL, zerosL, c2, c3, c4, c5, hk, regionL_none, regionL_some, List.lookup]
    exact TOut.ill (by decide)
  have hkx : keyE x = keyD dn := by have := List.find?_some h2; simpa using this
  have e : deleteOf t dn = ⟨outT t k, [], 0⟩ := by
    unfold deleteOf
    rw [h2, dec_neg g]
    simp only [Bool.false_eq_true, if_false]
    rw [dropE_at (TreeOk.rise gt) h1 hkx]
    rfl
  rw [dec_neg g] at c5
  obtain ⟨T, w1, w2, c6, hn⟩ := s_Out hs h (TreeOk.small gt) (List.getElem?_eq_some_iff.1 h1).1
  have hos2 := At.ones _ hn.at
  simp only [List.all_cons, List.all_nil, Bool.and_true, Bool.and_eq_true] at hos2
  have ho1 := isOne_cells hos2.1
  have ho2 := isOne_cells hos2.2
  obtain ⟨T', q, rfl, hg, hfin⟩ := TOut.new hn
  rw [e]
  simp [code178, Tryz.f178, hos, hoe, fillL, zerosL, buildV, structPlace, c3, c4, c5, c6, hk, hos2, ho1, ho2, hg, regionL_none, regionL_some, List.lookup]
  exact hfin

set_option maxRecDepth 10000 in
set_option maxHeartbeats 4000000 in
theorem s_TreeDelete {H : List Ob} {vs ve vd : V} {t : PTree} {dn : List PRdn} (hs : AClasses H vs t.schema) (h : AEntries H ve t.entries) (hd : ARdns H vd dn) :
    ∃ q H', callW C 67 [.agg [vs, ve], vd] H = some (q, H') ∧ TOut H (treeDeleteOf t dn) q H' := by
  suffices hs : Ret C 67 [.agg [vs, ve], vd] H fun q H' => TOut H (treeDeleteOf t dn) q H' by
    obtain ⟨q, H', hc, hr⟩ := hs
    exact ⟨q, H', hc, hr⟩
  rw [op67]
  have hos := hs.one
  have hoe := h.one
  have c1 := s_IllT (H := H) (c := 2)
  have c2 := s_IllT (H := H) (c := 1)
  have c3 := s_TreeRight hs h
  have c4 := s_Dn hd
  by_cases g1 : 400 < dn.length
  · have g1' : (400 : Int) < dn.length := by omega
    have e : treeDeleteOf t dn = illT 2 := if_pos g1
    rw [e]
    simp [code67, Tryz.f67, hos, hoe, hd.len, g1', c1, fillL, zerosL]
    exact TOut.ill (by decide)
  have g1' : ¬ (400 : Int) < dn.length := by omega
  by_cases g2 : TreeOk t
  rotate_left
  · rw [dec_neg g2] at c3
    have e : treeDeleteOf t dn = illT 1 := by unfold treeDeleteOf; rw [if_neg g1, dec_neg (fun h => g2 h.1)]; rfl
    rw [e]
    simp [code67, Tryz.f67, hos, hoe, hd.len, g1', c2, c3, fillL, zerosL]
    exact TOut.ill (by decide)
  rw [dec_pos g2] at c3
  by_cases g3 : DnOk dn
  rotate_left
  · rw [dec_neg g3] at c4
    have e : treeDeleteOf t dn = illT 1 := by unfold treeDeleteOf; rw [if_neg g1, dec_neg (fun h => g3 h.2)]; rfl
    rw [e]
    simp [code67, Tryz.f67, hos, hoe, hd.len, g1', c2, c3, c4, fillL, zerosL]
    exact TOut.ill (by decide)
  rw [dec_pos g3] at c4
  have e : treeDeleteOf t dn = deleteOf t dn := by unfold treeDeleteOf; rw [if_neg g1, dec_pos ⟨g2, g3⟩]; rfl
  rw [e]
  obtain ⟨q, H', c5, hq⟩ := s_Delete hs h hd g2 g3
  obtain ⟨w1, w2, w3, rfl, o1, o2, o3⟩ := hq.ones
  have := hq.gc
  simp [code67, Tryz.f67, hos, hoe, hd.len, g1', c3, c4, c5, o1, o2, o3, fillL, zerosL]
  exact this
end Go.Proofs.Try1
end

section
namespace Go.Proofs.Try1
open Go Go.Lite
set_option linter.unusedSimpArgs false
set_option linter.unusedVariables false

set_option maxRecDepth 10000 in
set_option maxHeartbeats 4000000 in
theorem i_classOfN {H : List Ob} {v : V} {l : List PClass} {t : Str} {c : PClass} (h : AClasses H v l) (hf : firstOf PClass.name l t = some c) (hb : SmallC c) (hnm : c.name.length ≤ maxLen) :
    ∃ T w1 w2 w3, callW C 145 [v, .str t] H = some (.tup [.agg [.str c.name, w1, w2, w3], .bool true], H ++ T) ∧ New H.length (H ++ T).length (H ++ T) shClass [.str c.name, w1, w2, w3] c.u := by
  suffices hs : Ret C 145 [v, .str t] H fun q H' => ∃ T w1 w2 w3, q = .tup [.agg [.str c.name, w1, w2, w3], .bool true] ∧ H' = H ++ T ∧ New H.length (H ++ T).length (H ++ T) shClass [.str c.name, w1, w2, w3] c.u by
    obtain ⟨q, H', hc, T, w1, w2, w3, rfl, rfl, hr⟩ := hs
    exact ⟨T, w1, w2, w3, hc, hr⟩
  rw [op145]
  obtain ⟨r, c1, hr⟩ := l_idxClass (H := H ++ [.mk true 1 [.str t]]) (idn := H.length) (t := t) get_last h.ext
  rcases hr.pos with ⟨k, a, h1, rfl, h2⟩ | ⟨rfl, h2⟩
  rotate_left
  · rw [hf] at h2; cases h2
  rw [hf] at h2
  cases h2
  obtain ⟨id, o, w1, w2, w3, e1, l4, q1, q2, q3⟩ := classes_idxT h h1
  have l4 := l4 [.mk true 1 [.str t]]
  have hk : ¬ ((k : Int) < 0) := by omega
  obtain ⟨A0, hA0⟩ : ∃ A, A = H ++ [.mk true 1 [.str t]] := ⟨_, rfl⟩
  obtain ⟨T1, x1, d1, n1⟩ := l_CloneS (H := A0) (by rw [hA0]; exact q1.ext) hb.1
  obtain ⟨A, hA⟩ : ∃ A, A = A0 ++ T1 := ⟨_, rfl⟩
  rw [← hA] at d1 n1
  obtain ⟨T2, x2, d2, n2⟩ := l_CloneS (H := A) (by rw [hA, hA0]; exact q2.ext.ext) hb.2.1
  obtain ⟨B, hB⟩ : ∃ B, B = A ++ T2 := ⟨_, rfl⟩
  rw [← hB] at d2 n2
  obtain ⟨T3, x3, d3, n3⟩ := l_CloneS (H := B) (by rw [hB, hA, hA0]; exact q3.ext.ext.ext) hb.2.2
  have o1 := New.one1 n1
  have o2 := New.one1 n2
  have o3 := New.one1 n3
  have hAl : A0.length ≤ A.length := by rw [hA]; simp
  have hBl : A.length ≤ B.length := by rw [hB]; simp
  have hne : New A0.length (B ++ T3).length (B ++ T3) shClass [.str c.name, x1, x2, x3] c.u :=
    New.st (News.str hnm (News.cons (m := A.length) (c1 := [x1]) (by rw [hB, List.append_assoc]; exact n1.ext) (News.cons (m := B.length) (c1 := [x2]) n2.ext (News.one n3 (by simp)) hBl (by simp)) hAl (by simp; omega)))
  have hGH : B ++ T3 = H ++ ([.mk true 1 [.str t]] ++ T1 ++ T2 ++ T3) := by rw [hB, hA, hA0]; simp
  have hne' : New H.length (B ++ T3).length (B ++ T3) shClass [.str c.name, x1, x2, x3] c.u := hne.wide (by rw [hA0]; simp) (Nat.le_refl _)
  rw [hGH] at hne'
  obtain ⟨T', hg, hn'⟩ := hne'.gc (v := .tup [.agg [.str c.name, x1, x2, x3], .bool true]) (by simp [lowV, lowVs])
  rw [← hGH] at hg
  rw [← hA0] at c1 l4
  simp [code145, Tryz.f145, c1, hk, e1, l4, d1, d2, d3, o1, o2, o3, q1.one, q2.one, q3.one, strideOf, buildV, fillL, structPlace, ← hA0, List.lookup, hg]
  exact ⟨T', x1, x2, x3, ⟨rfl, rfl, rfl⟩, rfl, by simpa using hn'⟩

set_option maxRecDepth 10000 in
set_option maxHeartbeats 8000000 in
theorem i_copySchema {H : List Ob} {vl : V} {l : List PClass} (h : AClasses H vl l) (hb : l.length ≤ 1048576 ∧ ∀ c ∈ l, SmallC c) :
    ∃ T w, callW C 203 [vl] H = some (w, H ++ T) ∧ New H.length (H ++ T).length (H ++ T) (.slice shClass) [w] (.lst (l.map PClass.u)) ∧ ¬ lowV H w := by
  suffices hs : Ret C 203 [vl] H fun q H' => ∃ T, H' = H ++ T ∧ New H.length (H ++ T).length (H ++ T) (.slice shClass) [q] (.lst (l.map PClass.u)) ∧ ¬ lowV H q by
    obtain ⟨q, H', hc, T, rfl, hr⟩ := hs
    exact ⟨T, q, hc, hr⟩
  rw [op203]
  have hbl := hb.1
  simp [code203, Tryz.f203, elemT, fillL, zerosL, St.new, h.len]
  refine WP_loop (fun k σ => ∃ (i n : Nat) (r : Nat → R) (G : List Ob) (w : V), i + k = l.length ∧ σ = ⟨r, n, G⟩ ∧ r 3 = .val w ∧ r 9 = .val vl ∧ r 10 = .val (.int .i64 l.length) ∧ r 11 = .val (.int .i64 i) ∧ LstF H G shClass PClass.u w (l.take i) ∧ ¬ lowV H w) ?_ l.length _ ⟨0, _, _, H ++ [.mk true 4 []], .slc (some (H.length, 0)) 0, by simp, rfl, by simp, by simp, by simp, by simp, by rw [List.take_zero]; exact LstF.init (sh := shClass), fun ⟨own, es, cells, h⟩ => by simp at h⟩
  rintro k σ ⟨i, n, r, G, w, hik, rfl, r3, r9, r10, r11, hG, hnl⟩
  obtain ⟨S, hS⟩ := hG.pre
  have hlG : AClasses G vl l := by rw [hS]; exact h.ext
  have hwo := hG.one
  cases k with
  | zero =>
    have hi : i = l.length := by omega
    subst hi
    rw [List.take_length] at hG
    have n2 := hG.new h.bound
    have hg : gcH H G w = G := gcH_not hnl
    simp [r3, r9, r10, r11, hg, hwo]
    exact ⟨S, hS, by rw [← List.length_append, ← hS]; exact n2, hnl⟩
  | succ k =>
    have hi : i < l.length := by omega
    obtain ⟨x, hx⟩ : ∃ c, l[i]? = some c := ⟨l[i], by simp [hi]⟩
    have hw : IntKind.i64.wrap ((i : Int) + 1) = ((i : Int) + 1) := wrap_i64 (by omega) (by omega)
    obtain ⟨id, o, w1, w2, w3, e1, l0, l4, q1, q2, q3, _, hnm⟩ := classes_idx hlG hx
    have h1 : AClasses (G ++ [.mk true 4 [.str x.name, w1, w2, w3]]) (.slc (some (G.length, 0)) 1) [x] := At_slice.2 ⟨_, _, rfl, rfl, by simp [maxLen], .inr ⟨G.length, 0, true, [.str x.name, w1, w2, w3], rfl, get_last, by simp, fun j y hy => by
      have hj : j = 0 := by have := (List.getElem?_eq_some_iff.1 hy).1; simpa using this
      subst hj
      cases hy
      simpa using class_at.2 ⟨w1, w2, w3, rfl, hnm, q1.ext, q2.ext, q3.ext⟩⟩⟩
    obtain ⟨T2, y1, y2, y3, c1, n1⟩ := i_classOfN h1 (t := x.name) (c := x) (by simp [firstOf]) (hb.2 x (List.mem_of_getElem? hx)) hnm
    rw [List.append_assoc] at c1 n1
    have n1' : New G.length _ (G ++ ([.mk true 4 [.str x.name, w1, w2, w3]] ++ T2)) shClass [.str x.name, y1, y2, y3] x.u := n1.wide (by simp) (Nat.le_refl _)
    obtain ⟨w', G', a3, hG', _, _⟩ := hG.push (T := [.mk true 4 [.str x.name, w1, w2, w3]] ++ T2) (d := .struct [(0, 9), (1, 26), (2, 26), (3, 26)]) (by_ := 88) (z := [.str [], .slc none 0, .slc none 0, .slc none 0]) (sz := 4) n1' rfl rfl (by decide) (by decide) (by decide) (by simp; unfold maxMade; omega)
    rw [← take_get hx] at hG'
    obtain ⟨_, _, _, hcy, _, b1, b2, b3⟩ := class_at.1 n1.at
    cases hcy
    have hw' := hG'.one
    have o1 := q1.one
    have o2 := q2.one
    have o3 := q3.one
    have p1 := b1.one
    have p2 := b2.one
    have p3 := b3.one
    have hid := lo_of l0
    have hnl' : ¬ lowV H w' := by
      rcases hG'.2 with ⟨_, h0⟩ | ⟨id', cs, Fs, g1, g2, rfl, _⟩
      · have := congrArg List.length h0; rw [List.length_take, List.length_nil] at this; omega
      · rintro ⟨own, es, cells, hh⟩
        have := (List.getElem?_eq_some_iff.1 hh).1
        omega
    simp only [List.append_assoc, List.length_append, List.cons_append, List.nil_append, List.length_cons] at a3 c1
    simp [r3, r9, r10, r11, hi, e1, l0, l4, hid, c1, a3, elemT, fillL, zerosL, St.new, buildV, o1, o2, o3, p1, p2, p3, hwo, hw', hw]
    exact ⟨k, by omega, i + 1, by omega, _, _, _, ⟨rfl, rfl, rfl⟩, w', by simp, by simp [r9], by simp [r10], by simp, hG', hnl'⟩

set_option maxRecDepth 10000 in
set_option maxHeartbeats 8000000 in
theorem i_copyEntries {H : List Ob} {vl : V} {l : List PEntry} (h : AEntries H vl l) (hb : l.length ≤ 1048576 ∧ ∀ c ∈ l, SmallE c) :
    ∃ T w, callW C 361 [vl] H = some (w, H ++ T) ∧ New H.length (H ++ T).length (H ++ T) (.slice shEntry) [w] (.lst (l.map PEntry.u)) ∧ ¬ lowV H w := by
  suffices hs : Ret C 361 [vl] H fun q H' => ∃ T, H' = H ++ T ∧ New H.length (H ++ T).length (H ++ T) (.slice shEntry) [q] (.lst (l.map PEntry.u)) ∧ ¬ lowV H q by
    obtain ⟨q, H', hc, T, rfl, hr⟩ := hs
    exact ⟨T, q, hc, hr⟩
  rw [op361]
  have hbl := hb.1
  simp [code361, Tryz.f361, elemT, fillL, zerosL, St.new, h.len]
  refine WP_loop (fun k σ => ∃ (i n : Nat) (r : Nat → R) (G : List Ob) (w : V), i + k = l.length ∧ σ = ⟨r, n, G⟩ ∧ r 3 = .val w ∧ r 7 = .val vl ∧ r 8 = .val (.int .i64 l.length) ∧ r 9 = .val (.int .i64 i) ∧ LstF H G shEntry PEntry.u w (l.take i) ∧ ¬ lowV H w) ?_ l.length _ ⟨0, _, _, H ++ [.mk true 2 []], .slc (some (H.length, 0)) 0, by simp, rfl, by simp, by simp, by simp, by simp, by rw [List.take_zero]; exact LstF.init (sh := shEntry), fun ⟨own, es, cells, h⟩ => by simp at h⟩
  rintro k σ ⟨i, n, r, G, w, hik, rfl, r3, r7, r8, r9, hG, hnl⟩
  obtain ⟨S, hS⟩ := hG.pre
  have hlG : AEntries G vl l := by rw [hS]; exact h.ext
  have hwo := hG.one
  cases k with
  | zero =>
    have hi : i = l.length := by omega
    subst hi
    rw [List.take_length] at hG
    have n2 := hG.new h.bound
    have hg : gcH H G w = G := gcH_not hnl
    simp [r3, r7, r8, r9, hg, hwo]
    exact ⟨S, hS, by rw [← List.length_append, ← hS]; exact n2, hnl⟩
  | succ k =>
    have hi : i < l.length := by omega
    obtain ⟨x, hx⟩ : ∃ c, l[i]? = some c := ⟨l[i], by simp [hi]⟩
    have hw : IntKind.i64.wrap ((i : Int) + 1) = ((i : Int) + 1) := wrap_i64 (by omega) (by omega)
    obtain ⟨id, o, v1, v2, e1, l0, l1, lm, a1, a2, _⟩ := entries_idx hlG hx
    have hid := lo_of l0
    obtain ⟨T2, y1, y2, c2, n2⟩ := i_copied a1 a2 (hb.2 x (List.mem_of_getElem? hx))
    obtain ⟨_, _, hcy, b1, b2⟩ := entry_at.1 n2.at
    cases hcy
    obtain ⟨w', G', a3, hG', _, _⟩ := hG.push (T := T2) (d := .struct [(0, 29), (1, 30)]) (by_ := 48) (z := [.slc none 0, .slc none 0]) (sz := 2) n2 rfl rfl (by decide) (by decide) (by decide) (by simp; unfold maxMade; omega)
    rw [← take_get hx] at hG'
    have hw' := hG'.one
    have o1 := a1.one
    have o2 := a2.one
    have p1 := b1.one
    have p2 := b2.one
    have hnl' : ¬ lowV H w' := by
      rcases hG'.2 with ⟨_, h0⟩ | ⟨id', cs, Fs, g1, g2, rfl, _⟩
      · have := congrArg List.length h0; rw [List.length_take, List.length_nil] at this; omega
      · rintro ⟨own, es, cells, hh⟩
        have := (List.getElem?_eq_some_iff.1 hh).1
        omega
    simp only [List.append_assoc, List.length_append] at a3
    simp [r3, r7, r8, r9, hi, e1, l0, l1, lm, hid, c2, a3, elemT, fillL, zerosL, St.new, buildV, structPlace, o1, o2, p1, p2, hwo, hw', hw]
    exact ⟨k, by omega, i + 1, by omega, _, _, _, ⟨rfl, rfl, rfl⟩, w', by simp, by simp [r7], by simp [r8], by simp, hG', hnl'⟩

set_option maxRecDepth 10000 in
set_option maxHeartbeats 4000000 in
theorem i_copiedT {H : List Ob} {vs ve : V} {t : PTree} (hs : AClasses H vs t.schema) (h : AEntries H ve t.entries) (hb : SmallT t) :
    ∃ T w1 w2, callW C 282 [.agg [vs, ve]] H = some (.agg [w1, w2], H ++ T) ∧ New H.length (H ++ T).length (H ++ T) shTree [w1, w2] t.u ∧ ¬ lowV H w1 := by
  suffices hs : Ret C 282 [.agg [vs, ve]] H fun q H' => ∃ T w1 w2, q = .agg [w1, w2] ∧ H' = H ++ T ∧ New H.length (H ++ T).length (H ++ T) shTree [w1, w2] t.u ∧ ¬ lowV H w1 by
    obtain ⟨q, H', hc, T, w1, w2, rfl, rfl, hr⟩ := hs
    exact ⟨T, w1, w2, hc, hr⟩
  rw [op282]
  have hos := hs.one
  have hoe := h.one
  obtain ⟨T1, w1, c1, n1, nl1⟩ := i_copySchema hs hb.1
  obtain ⟨K, hK⟩ : ∃ K, K = H ++ T1 := ⟨_, rfl⟩
  rw [← hK] at n1 c1
  obtain ⟨T2, w2, c2, n2, nl2⟩ := i_copyEntries (H := K) (by rw [hK]; exact h.ext) hb.2
  have o1 := New.one1 n1
  have o2 := New.one1 n2
  have hKl : H.length ≤ K.length := by rw [hK]; simp
  have hne : New H.length (K ++ T2).length (K ++ T2) shTree [w1, w2] t.u := New.st (News.cons (m := K.length) (c1 := [w1]) n1.ext (News.one n2 (by simp)) hKl (by simp))
  have hg : gcH H (K ++ T2) (.agg [w1, w2]) = K ++ T2 := gcH_not fun h => nl1 h.1
  simp [code282, Tryz.f282, hos, hoe, c1, c2, o1, o2, fillL, zerosL, buildV, structPlace, hg, regionL_none, regionL_some, List.lookup]
  exact ⟨T1 ++ T2, w1, w2, ⟨rfl, rfl⟩, by rw [hK]; simp, by rw [hK, List.append_assoc] at hne; simpa using hne, nl1⟩

theorem keepPre {H G : List Ob} (h : ∀ q, q < H.length → G[q]? = H[q]?) (hl : H.length ≤ G.length) : ∃ T, G = H ++ T := by
  refine ⟨G.drop H.length, List.ext_getElem? fun i => ?_⟩
  by_cases hi : i < H.length
  · rw [List.getElem?_append_left hi, h i hi]
  · rw [List.getElem?_append_right (by omega), List.getElem?_drop]
    congr 1
    omega

/-- What a change of a tree leaves: a code, or the tree changed in its place. -/
def ChgT (H : List Ob) (idt : Nat) (G : List Ob) (o : PTreeOut) (code : Int) (G' : List Ob) : Prop :=
  code = o.code ∧ (∀ q, q < H.length → G'[q]? = G[q]?) ∧ G.length ≤ G'.length ∧ (code = 0 → o.entries = [] ∧ ∃ w1 w2, G'[idt]? = some (.mk true 2 [w1, w2]) ∧ New H.length G'.length G' shTree [w1, w2] o.tree.u)

set_option maxRecDepth 10000 in
set_option maxHeartbeats 4000000 in
theorem i_treeChanged {H : List Ob} {vs ve : V} {t : PTree} {g : Nat} {b : List V} {o : PTreeOut} (hs : AClasses H vs t.schema) (h : AEntries H ve t.entries) (hb : SmallT t) (hill : o.code ≠ 0 → o = illT o.code) (hwf : (Lit.int .i64 o.code).wf = true)
    (hcall : ∀ K w1 w2, (∃ T, K = H ++ T) → New H.length K.length K shTree [w1, w2] t.u → ∃ code G', callW C g ([.ptr (some (K.length, 0))] ++ b) (K ++ [.mk true 2 [w1, w2]]) = some (.int .i64 code, G') ∧ ChgT H K.length (K ++ [.mk true 2 [w1, w2]]) o code G') :
    ∃ q H', callW C 180 [.agg [vs, ve], .fn g [] b] H = some (q, H') ∧ TOut H o q H' := by
  suffices hs : Ret C 180 [.agg [vs, ve], .fn g [] b] H fun q H' => TOut H o q H' by
    obtain ⟨q, H', hc, hr⟩ := hs
    exact ⟨q, H', hc, hr⟩
  rw [op180]
  have hos := hs.one
  have hoe := h.one
  obtain ⟨T1, d, a, c1, n1, _⟩ := i_copiedT hs h hb
  obtain ⟨K, hK⟩ : ∃ K, K = H ++ T1 := ⟨_, rfl⟩
  rw [← hK] at c1 n1
  obtain ⟨_, _, hcs, hd1, ha1⟩ := tree_at.1 n1.at
  cases hcs
  have hoD := hd1.one
  have hoA := ha1.one
  obtain ⟨code, G', c2, rfl, hfr, hlen, hok⟩ := hcall K d a ⟨T1, hK⟩ n1
  have hpre : ∃ T, G' = H ++ T := keepPre (fun q hq => by rw [hfr q hq, hK, List.append_assoc, List.getElem?_append_left hq]) (by rw [hK] at hlen; simp at hlen; omega)
  have st := storeN (H := K ++ [.mk true 2 [.slc none 0, .slc none 0]]) (o := 0) (l := [d, a]) get_last (by simp) (by simp) (by simp [hoD, hoA])
  simp at st
  by_cases g0 : o.code = 0
  · obtain ⟨k0, d', a', k1, k2⟩ := hok g0
    obtain ⟨_, _, hcs, hd2, ha2⟩ := tree_at.1 k2.at
    cases hcs
    have hoD' := hd2.one
    have hoA' := ha2.one
    have ld := loadN (o := 0) (n := 2) k1 (by simp) (by decide) rfl
    simp at ld
    obtain ⟨T, rfl⟩ := hpre
    obtain ⟨T', q, rfl, hg, hfin⟩ := TOut.new k2
    obtain ⟨ot, oe, oc⟩ := o
    simp only at g0 c2 hfin k0
    subst g0 k0
    simp at c2
    simp [code180, Tryz.f180, c1, c2, hos, hoe, hoD, hoA, hoD', hoA', strideOf, st, ld, buildV, structPlace, fillL, hg]
    exact hfin
  · have hgc : gcH H G' (.agg [.slc none 0, .slc none 0, .slc none 0, .int .i64 o.code]) = H := by
      obtain ⟨T, rfl⟩ := hpre
      exact gcH_low (by simp [lowV, lowVs])
    have hfin : TOut H o (.agg [.slc none 0, .slc none 0, .slc none 0, .int .i64 o.code]) H := by
      have := TOut.ill (H := H) hwf
      rw [← hill g0] at this
      exact this
    simp at c2
    simp [code180, Tryz.f180, c1, c2, hos, hoe, hoD, hoA, strideOf, st, g0, buildV, structPlace, fillL, hgc]
    exact hfin
end Go.Proofs.Try1
end

section
namespace Go.Proofs.Try1
open Go Go.Lite
set_option linter.unusedSimpArgs false
set_option linter.unusedVariables false

theorem gcH_lenS {G G' : List Ob} {r : V} (h : G'.length = G.length) : gcH G G' r = G' := by
  unfold gcH
  split
  · rename_i hc
    obtain ⟨⟨T, rfl⟩, _⟩ := hc
    have : T = [] := List.length_eq_zero_iff.1 (by simp at h; simpa using h)
    rw [this, List.append_nil]
  · rfl

set_option maxRecDepth 10000 in
set_option maxHeartbeats 4000000 in
theorem l_DelA {G : List Ob} {v : V} {l : List PAttr} {F : List Nat} (h : AtF G (.slice shAttr) [v] (.lst (l.map PAttr.u)) F) (hn : F.Nodup) {i : Nat} (hi : i < l.length) (hl : l.length ≤ 1000000) :
    ∃ w G' F', callW C 334 [v, .int .i64 i, .int .i64 ((i : Int) + 1)] G = some (w, G') ∧ AtF G' (.slice shAttr) [w] (.lst ((l.take i ++ l.drop (i + 1)).map PAttr.u)) F' ∧ F'.Nodup ∧ (∀ q ∈ F', q ∈ F) ∧ (∀ q, q ∉ F → G'[q]? = G[q]?) ∧ G'.length = G.length ∧ isOne w = true ∧ cellsOf w = some [w] := by
  obtain ⟨id, off, cells, xs, F', rfl, h2, h3, hxs, hxl, hxo, hidF, hF', hn', hsub⟩ := deleteF h hn hi [.str [], .slc none 0] rfl
  have hsz : shAttr.size = 2 := rfl
  rw [hsz] at h2 h3 hxs hxl hF'
  have hid : id < G.length := (List.getElem?_eq_some_iff.1 h2).1
  obtain ⟨N1, hN1⟩ : ∃ N1, N1 = setRange cells (off + i * 2) xs := ⟨_, rfl⟩
  have hN1l : N1.length = cells.length := by rw [hN1, setRange_len (by omega)]
  obtain ⟨N2, hN2⟩ : ∃ N2, N2 = setRange N1 (off + (l.length - 1) * 2) [.str [], .slc none 0] := ⟨_, rfl⟩
  rw [← hN1, ← hN2] at hF'
  suffices hs : Ret C 334 [.slc (some (id, off)) l.length, .int .i64 i, .int .i64 ((i : Int) + 1)] G fun q H' => q = .slc (some (id, off)) (l.length - 1) ∧ H' = G.set id (.mk true 2 N2) by
    obtain ⟨q, H', hc, rfl, rfl⟩ := hs
    exact ⟨_, _, F', hc, hF', hn', hsub, fun q hq => List.getElem?_set_ne fun e => hq (by rw [← e]; exact hidF), by simp, rfl, rfl⟩
  rw [op334]
  have hst : strideIs G id 2 = true := by unfold strideIs; rw [h2]; rfl
  have hi1 : ¬ ((i : Int) = (i : Int) + 1) := by omega
  have hil : (i : Int) ≤ l.length := by omega
  have hil1 : (i : Int) + 1 ≤ l.length := by omega
  have hG1 : (G.set id (.mk true 2 N1))[id]? = some (.mk true 2 N1) := List.getElem?_set_self hid
  have hst1 : strideIs (G.set id (.mk true 2 N1)) id 2 = true := by unfold strideIs; rw [hG1]; rfl
  have hre1 : reaches (G.set id (.mk true 2 N1)) id off 2 l.length = true := by unfold reaches; rw [hG1]; simp; omega
  have hap : appendV ⟨.struct [(0, 9), (1, 26)], 2, 40, [.str [], .slc none 0]⟩ G (.slc (some (id, off)) i) (.slc (some (id, off + (i + 1) * 2)) (l.length - (i + 1))) = some (.slc (some (id, off)) (l.length - 1), G.set id (.mk true 2 N1)) := by
    have hnew : newCells ⟨.struct [(0, 9), (1, 26)], 2, 40, [.str [], .slc none 0]⟩ G (.slc (some (id, off + (i + 1) * 2)) (l.length - (i + 1))) = some (xs, l.length - (i + 1)) := by
      simp only [newCells, slcCells, h2]
      by_cases h0 : (l.length - (i + 1)) * 2 = 0
      · rw [if_pos h0]
        have : xs = [] := List.length_eq_zero_iff.1 (by omega)
        rw [this]
      · rw [if_neg h0]
        unfold rdCells
        rw [if_pos (by omega), ← hxs]
    unfold appendV
    rw [if_pos (by simp [growOk]), hnew]
    by_cases h0 : l.length - (i + 1) = 0
    · have hx0 : xs = [] := List.length_eq_zero_iff.1 (by omega)
      have hn1 : N1 = cells := by rw [hN1, hx0, setRange_nil]
      have e1 : l.length - 1 = i := by omega
      simp only [h0, if_true]
      rw [e1, hn1]
      congr 2
      obtain ⟨_, h2'⟩ := List.getElem?_eq_some_iff.1 h2
      rw [← h2', List.set_getElem_self]
    · simp only [h0, if_false, hxo, if_true, h2]
      rw [if_pos (by omega), ← hN1]
      congr 3
      omega
  have e3 : i + (l.length - (i + 1)) = l.length - 1 := by omega
  have hwr : ∀ r c, writeAt ⟨r, c, G.set id (.mk true 2 N1)⟩ (.hp id (off + (l.length - 1) * 2)) [.str [], .slc none 0] = some ⟨r, c, G.set id (.mk true 2 N2)⟩ := fun r c => by
    simp only [writeAt, hG1, List.length_cons, List.length_nil]
    rw [if_pos (by omega), List.set_set, hN2]
  have e4 : l.length - (l.length - 1) = 1 := by omega
  have e5 : ((l.length - 1 : Nat) : Int) ≤ l.length := by omega
  have h01 : (0 : Int) ≤ (i : Int) + 1 := by omega
  have hiN : i + 1 ≤ l.length := by omega
  have hiN' : i ≤ l.length := by omega
  have hgc : ∀ r, gcH G (G.set id (.mk true 2 N2)) r = G.set id (.mk true 2 N2) := fun r => gcH_lenS (by simp)
  simp [code334, Tryz.f334, regionL_none, hi1, hil, hil1, hst, hap, hst1, hre1, hwr, e4, elemT, zerosL, hgc, h01, hiN, hiN']
end Go.Proofs.Try1
end

section
namespace Go.Proofs.Try1
open Go Go.Lite
set_option linter.unusedSimpArgs false
set_option linter.unusedVariables false

set_option maxRecDepth 10000 in
set_option maxHeartbeats 4000000 in
theorem l_DelE {G : List Ob} {v : V} {l : List PEntry} {F : List Nat} (h : AtF G (.slice shEntry) [v] (.lst (l.map PEntry.u)) F) (hn : F.Nodup) {i : Nat} (hi : i < l.length) (hl : l.length ≤ 1000000) :
    ∃ w G' F', callW C 284 [v, .int .i64 i, .int .i64 ((i : Int) + 1)] G = some (w, G') ∧ AtF G' (.slice shEntry) [w] (.lst ((l.take i ++ l.drop (i + 1)).map PEntry.u)) F' ∧ F'.Nodup ∧ (∀ q ∈ F', q ∈ F) ∧ (∀ q, q ∉ F → G'[q]? = G[q]?) ∧ G'.length = G.length ∧ isOne w = true ∧ cellsOf w = some [w] := by
  obtain ⟨id, off, cells, xs, F', rfl, h2, h3, hxs, hxl, hxo, hidF, hF', hn', hsub⟩ := deleteF h hn hi [.slc none 0, .slc none 0] rfl
  have hsz : shEntry.size = 2 := rfl
  rw [hsz] at h2 h3 hxs hxl hF'
  have hid : id < G.length := (List.getElem?_eq_some_iff.1 h2).1
  obtain ⟨N1, hN1⟩ : ∃ N1, N1 = setRange cells (off + i * 2) xs := ⟨_, rfl⟩
  have hN1l : N1.length = cells.length := by rw [hN1, setRange_len (by omega)]
  obtain ⟨N2, hN2⟩ : ∃ N2, N2 = setRange N1 (off + (l.length - 1) * 2) [.slc none 0, .slc none 0] := ⟨_, rfl⟩
  rw [← hN1, ← hN2] at hF'
  suffices hs : Ret C 284 [.slc (some (id, off)) l.length, .int .i64 i, .int .i64 ((i : Int) + 1)] G fun q H' => q = .slc (some (id, off)) (l.length - 1) ∧ H' = G.set id (.mk true 2 N2) by
    obtain ⟨q, H', hc, rfl, rfl⟩ := hs
    exact ⟨_, _, F', hc, hF', hn', hsub, fun q hq => List.getElem?_set_ne fun e => hq (by rw [← e]; exact hidF), by simp, rfl, rfl⟩
  rw [op284]
  have hst : strideIs G id 2 = true := by unfold strideIs; rw [h2]; rfl
  have hi1 : ¬ ((i : Int) = (i : Int) + 1) := by omega
  have hil : (i : Int) ≤ l.length := by omega
  have hil1 : (i : Int) + 1 ≤ l.length := by omega
  have hG1 : (G.set id (.mk true 2 N1))[id]? = some (.mk true 2 N1) := List.getElem?_set_self hid
  have hst1 : strideIs (G.set id (.mk true 2 N1)) id 2 = true := by unfold strideIs; rw [hG1]; rfl
  have hre1 : reaches (G.set id (.mk true 2 N1)) id off 2 l.length = true := by unfold reaches; rw [hG1]; simp; omega
  have hap : appendV ⟨.struct [(0, 29), (1, 30)], 2, 48, [.slc none 0, .slc none 0]⟩ G (.slc (some (id, off)) i) (.slc (some (id, off + (i + 1) * 2)) (l.length - (i + 1))) = some (.slc (some (id, off)) (l.length - 1), G.set id (.mk true 2 N1)) := by
    have hnew : newCells ⟨.struct [(0, 29), (1, 30)], 2, 48, [.slc none 0, .slc none 0]⟩ G (.slc (some (id, off + (i + 1) * 2)) (l.length - (i + 1))) = some (xs, l.length - (i + 1)) := by
      simp only [newCells, slcCells, h2]
      by_cases h0 : (l.length - (i + 1)) * 2 = 0
      · rw [if_pos h0]
        have : xs = [] := List.length_eq_zero_iff.1 (by omega)
        rw [this]
      · rw [if_neg h0]
        unfold rdCells
        rw [if_pos (by omega), ← hxs]
    unfold appendV
    rw [if_pos (by simp [growOk]), hnew]
    by_cases h0 : l.length - (i + 1) = 0
    · have hx0 : xs = [] := List.length_eq_zero_iff.1 (by omega)
      have hn1 : N1 = cells := by rw [hN1, hx0, setRange_nil]
      have e1 : l.length - 1 = i := by omega
      simp only [h0, if_true]
      rw [e1, hn1]
      congr 2
      obtain ⟨_, h2'⟩ := List.getElem?_eq_some_iff.1 h2
      rw [← h2', List.set_getElem_self]
    · simp only [h0, if_false, hxo, if_true, h2]
      rw [if_pos (by omega), ← hN1]
      congr 3
      omega
  have e3 : i + (l.length - (i + 1)) = l.length - 1 := by omega
  have hwr : ∀ r c, writeAt ⟨r, c, G.set id (.mk true 2 N1)⟩ (.hp id (off + (l.length - 1) * 2)) [.slc none 0, .slc none 0] = some ⟨r, c, G.set id (.mk true 2 N2)⟩ := fun r c => by
    simp only [writeAt, hG1, List.length_cons, List.length_nil]
    rw [if_pos (by omega), List.set_set, hN2]
  have e4 : l.length - (l.length - 1) = 1 := by omega
  have e5 : ((l.length - 1 : Nat) : Int) ≤ l.length := by omega
  have h01 : (0 : Int) ≤ (i : Int) + 1 := by omega
  have hiN : i + 1 ≤ l.length := by omega
  have hiN' : i ≤ l.length := by omega
  have hgc : ∀ r, gcH G (G.set id (.mk true 2 N2)) r = G.set id (.mk true 2 N2) := fun r => gcH_lenS (by simp)
  simp [code284, Tryz.f284, regionL_none, hi1, hil, hil1, hst, hap, hst1, hre1, hwr, e4, elemT, zerosL, hgc, h01, hiN, hiN']

theorem i_dnSame {H : List Ob} {v w : V} {a b : List PRdn} (h : ARdns H v a) (hb : ARdns H w b) (h1 : DnOk a) (h2 : DnOk b) (hl : a.length = b.length) :
    callW C 314 [v, w] H = some (.bool (dec (keyD a = keyD b)), H) := by
  apply Ret.dec
  rw [op314]
  have c1 := i_Key h h1
  have c2 := i_Key hb h2
  by_cases g : keyD a = keyD b
  · simp [code314, Tryz.f314, h.len, hb.len, hl, c1, c2, g]
  · simp [code314, Tryz.f314, h.len, hb.len, hl, c1, c2, g]

theorem i_dnUnder {H : List Ob} {v w : V} {dn base : List PRdn} (h : ARdns H v dn) (hb : ARdns H w base) (h1 : DnOk dn) (h2 : DnOk base) (hl : 0 < dn.length) :
    callW C 271 [v, w] H = some (.bool (dec (UnderOk dn base)), H) := by
  apply Ret.dec
  rw [op271]
  by_cases g : base.length ≤ dn.length
  rotate_left
  · have g' : ¬ (base.length : Int) ≤ dn.length := by omega
    simp [code271, Tryz.f271, h.len, hb.len, g']
    exact fun h => g h.1
  have g' : (base.length : Int) ≤ dn.length := by omega
  have hw : IntKind.i64.wrap ((dn.length : Int) - base.length) = ((dn.length - base.length : Nat) : Int) := by
    have := h1.2
    rw [wrap_i64 (by omega) (by omega)]; omega
  obtain ⟨id, off, own, cells, hv, hcell, hd⟩ := rdns_drop h (k := dn.length - base.length) (by omega) hl
  have hst : strideIs H id 2 = true := by simp [strideIs, hcell]
  have c3 := i_dnSame hd hb (DnOk.drop h1 _) h2 (by simp; omega)
  have hle : dn.length - base.length ≤ dn.length := by omega
  rw [hv] at h ⊢
  by_cases gk : keyD (dn.drop (dn.length - base.length)) = keyD base
  · rw [dec_pos gk] at c3
    simp [code271, Tryz.f271, h.len, hb.len, g', hw, hst, c3, hle]
    exact ⟨g, gk⟩
  · rw [dec_neg gk] at c3
    simp [code271, Tryz.f271, h.len, hb.len, g', hw, hst, c3, hle]
    exact fun h => gk h.2

theorem i_leafFn {H : List Ob} {idd : Nat} {own : Bool} {es : Nat} {vd w1 w2 : V} {x : PEntry} {dn : List PRdn} (hq : H[idd]? = some (.mk own es [vd])) (hd : ARdns H vd dn) (h1 : ARdns H w1 x.dn) (h2 : AAttrs H w2 x.attrs) (hx : DnOk x.dn) (hdn : DnOk dn) :
    callW C 362 [.agg [w1, w2], .ptr (some (idd, 0))] H = some (.bool (dec (dn.length < x.dn.length ∧ UnderOk x.dn dn)), H) := by
  apply Ret.dec
  rw [op362]
  have ld := load1 (o := 0) (v := vd) hq rfl
  by_cases g : dn.length < x.dn.length
  · have g' : (dn.length : Int) < x.dn.length := by omega
    have c1 := i_dnUnder h1 hd hx hdn (by omega)
    by_cases gu : UnderOk x.dn dn
    · rw [dec_pos gu] at c1
      simp [code362, Tryz.f362, h1.one, h2.one, h1.len, hd.len, ld, g, g', c1, gu]
    · rw [dec_neg gu] at c1
      simp [code362, Tryz.f362, h1.one, h2.one, h1.len, hd.len, ld, g, g', c1, gu]
  · have g' : ¬ (dn.length : Int) < x.dn.length := by omega
    simp [code362, Tryz.f362, h1.one, h2.one, h1.len, hd.len, ld, g, g']

noncomputable def delCode (l : List PEntry) (dn : List PRdn) : Int := if firstOf keyE l (keyD dn) = none then 6 else if dec (OverOk l dn) = true then 10 else 0

/-- What the search tells of the first entry of a key. -/
theorem search_first {l : List PEntry} {key : Str} {i : Nat} {ok : Bool} (hp : l.Pairwise fun a b => keyE a < keyE b) (hlo : ∀ q a, q < i → l[q]? = some a → LtS (keyE a) key) (hhi : ∀ q a, i ≤ q → l[q]? = some a → ¬ LtS (keyE a) key) (hok : ok = true ↔ ∃ a, l[i]? = some a ∧ keyE a = key) :
    (ok = false → firstOf keyE l key = none) ∧ (ok = true → ∃ x, l[i]? = some x ∧ keyE x = key ∧ firstOf keyE l key = some x) := by
  refine ⟨fun h => first_none fun y hy he => ?_, fun h => ?_⟩
  · obtain ⟨j, hj, rfl⟩ := List.getElem_of_mem hy
    rcases Nat.lt_trichotomy j i with hh | hh | hh
    · have := hlo j _ hh (List.getElem?_eq_getElem hj)
      rw [he] at this
      exact LtS_irrefl _ this
    · subst hh
      have := hok.2 ⟨_, List.getElem?_eq_getElem hj, he⟩
      rw [h] at this; cases this
    · have h1 := hhi i _ (Nat.le_refl _) (List.getElem?_eq_getElem (by omega))
      have h2 := List.pairwise_iff_getElem.1 hp i j (by omega) hj hh
      rw [he] at h2
      exact h1 ((LtS_iff _ _).2 h2)
  · obtain ⟨x, hx, he⟩ := hok.1 h
    exact ⟨x, hx, he, first_uniq hp hx he⟩

set_option maxRecDepth 10000 in
set_option maxHeartbeats 4000000 in
theorem i_leaf {H : List Ob} {idt : Nat} {own : Bool} {es : Nat} {vs ve vd : V} {l : List PEntry} {dn : List PRdn} (ht : H[idt]? = some (.mk own es [vs, ve])) (h : AEntries H ve l) (hl : l.length ≤ 1000) (hok : ∀ x ∈ l, DnOk x.dn) (hp : l.Pairwise fun a b => keyE a < keyE b) (hd : ARdns H vd dn) (hdn : DnOk dn) :
    ∃ i : Nat, callW C 283 [.ptr (some (idt, 0)), vd] H = some (.tup [.int .i64 i, .int .i64 (delCode l dn)], H) ∧ (delCode l dn = 0 → ∃ x, l[i]? = some x ∧ keyE x = keyD dn) := by
  suffices hs : Ret C 283 [.ptr (some (idt, 0)), vd] H fun q H' => H' = H ∧ ∃ i : Nat, q = .tup [.int .i64 i, .int .i64 (delCode l dn)] ∧ (delCode l dn = 0 → ∃ x, l[i]? = some x ∧ keyE x = keyD dn) by
    obtain ⟨q, H', hc, rfl, i, rfl, hr⟩ := hs
    exact ⟨i, hc, hr⟩
  rw [op283]
  have hod := hd.one
  obtain ⟨K, hK⟩ : ∃ K, K = H ++ [.mk true 1 [vd]] := ⟨_, rfl⟩
  have hKt : K[idt]? = some (.mk own es [vs, ve]) := by rw [hK]; exact up_append _ _ ht
  have hKd : K[H.length]? = some (.mk true 1 [vd]) := by rw [hK]; exact get_last
  have hK2 : AEntries K ve l := by rw [hK]; exact h.ext
  have hdK : ARdns K vd dn := by rw [hK]; exact hd.ext
  have ld := load1 (o := 0) (v := vd) hKd rfl
  have lt := load1 (o := 1) (v := ve) hKt rfl
  have hgc : ∀ a b : Int, gcH H K (.tup [.int .i64 a, .int .i64 b]) = H := fun a b => by rw [hK]; exact gcH_low (by simp [lowV, lowVs])
  obtain ⟨i, ok, c1, hile, hlo, hhi, hok'⟩ := i_searchT hKt hK2 hl hok hp hdK hdn
  obtain ⟨s1, s2⟩ := search_first hp hlo hhi hok'
  have c2 := l_ContainsFuncE (g := 362) (a := []) (b := [.ptr (some (H.length, 0))]) hK2 (fun x => dec (dn.length < x.dn.length ∧ UnderOk x.dn dn)) (fun x hx w1 w2 a1 a2 => i_leafFn hKd hdK a1 a2 (hok x hx) hdn)
  cases ok with
  | false =>
    have e : delCode l dn = 6 := if_pos (s1 rfl)
    rw [e]
    simp [code283, Tryz.f283, hod, strideOf, ← hK, ld, c1, hgc]
    exact ⟨0, rfl⟩
  | true =>
    obtain ⟨x, hx, he, hf⟩ := s2 rfl
    have hne : ¬ firstOf keyE l (keyD dn) = none := by rw [hf]; simp
    by_cases g : OverOk l dn
    · have e : delCode l dn = 10 := by unfold delCode; rw [if_neg hne, dec_pos g]; rfl
      have g2 : ∃ x ∈ l, (dec (dn.length < x.dn.length ∧ UnderOk x.dn dn)) = true := by
        obtain ⟨x, h1, h2, h3⟩ := g
        exact ⟨x, h1, dec_pos ⟨h2, h3⟩⟩
      rw [dec_pos g2] at c2
      rw [e]
      simp [code283, Tryz.f283, hod, strideOf, ← hK, ld, lt, c1, c2, hgc]
      exact ⟨0, rfl⟩
    · have e : delCode l dn = 0 := by unfold delCode; rw [if_neg hne, dec_neg g]; rfl
      have g2 : ¬ ∃ x ∈ l, (dec (dn.length < x.dn.length ∧ UnderOk x.dn dn)) = true := by
        rintro ⟨x, h1, h2⟩
        exact g ⟨x, h1, dec_true.1 h2⟩
      rw [dec_neg g2] at c2
      rw [e]
      simp [code283, Tryz.f283, hod, strideOf, ← hK, ld, lt, c1, c2, hgc]
      exact ⟨i, rfl, x, hx, he⟩

set_option maxRecDepth 10000 in
set_option maxHeartbeats 4000000 in
theorem i_remove {G : List Ob} {idt : Nat} {vs ve vd : V} {l : List PEntry} {dn : List PRdn} {F : List Nat} (ht : G[idt]? = some (.mk true 2 [vs, ve])) (hA : AtF G (.slice shEntry) [ve] (.lst (l.map PEntry.u)) F) (hn : F.Nodup) (hide : idt ∉ F) (hl : l.length ≤ 1000) (hok : ∀ x ∈ l, DnOk x.dn) (hp : l.Pairwise fun a b => keyE a < keyE b) (hd : ARdns G vd dn) (hdn : DnOk dn) :
    ∃ G', callW C 182 [.ptr (some (idt, 0)), vd] G = some (.int .i64 (delCode l dn), G') ∧ (delCode l dn ≠ 0 → G' = G) ∧
      (delCode l dn = 0 → ∃ ve' F', G'[idt]? = some (.mk true 2 [vs, ve']) ∧ AtF G' (.slice shEntry) [ve'] (.lst ((dropE l (keyD dn)).map PEntry.u)) F' ∧ F'.Nodup ∧ (∀ q ∈ F', q ∈ F) ∧ (∀ q, q ∉ F → q ≠ idt → G'[q]? = G[q]?) ∧ G'.length = G.length) := by
  suffices hs : Ret C 182 [.ptr (some (idt, 0)), vd] G fun q G' => q = .int .i64 (delCode l dn) ∧ (delCode l dn ≠ 0 → G' = G) ∧
      (delCode l dn = 0 → ∃ ve' F', G'[idt]? = some (.mk true 2 [vs, ve']) ∧ AtF G' (.slice shEntry) [ve'] (.lst ((dropE l (keyD dn)).map PEntry.u)) F' ∧ F'.Nodup ∧ (∀ q ∈ F', q ∈ F) ∧ (∀ q, q ∉ F → q ≠ idt → G'[q]? = G[q]?) ∧ G'.length = G.length) by
    obtain ⟨q, G', hc, rfl, hr⟩ := hs
    exact ⟨G', hc, hr⟩
  rw [op182]
  have he : AEntries G ve l := AtF.at _ hA
  obtain ⟨i, c1, hi⟩ := i_leaf ht he hl hok hp hd hdn
  have ld := load1 (o := 1) (v := ve) ht rfl
  have htl : idt < G.length := (List.getElem?_eq_some_iff.1 ht).1
  by_cases g : delCode l dn = 0
  · obtain ⟨x, hx, hk⟩ := hi g
    have hil : i < l.length := (List.getElem?_eq_some_iff.1 hx).1
    obtain ⟨w, G1, F1, c2, a1, n1, s1, fr1, len1, hov'⟩ := l_DelE hA hn hil (by omega)
    have ht1 : G1[idt]? = some (.mk true 2 [vs, ve]) := by rw [fr1 idt hide]; exact ht
    have st := store1 (o := 1) (v := w) ht1 (by simp) hov'.2 hov'.1
    simp at st
    have hw : IntKind.i64.wrap ((i : Int) + 1) = (i : Int) + 1 := wrap_i64 (by omega) (by omega)
    have hG1l : idt < G1.length := by omega
    have hgc : ∀ r, gcH G (G1.set idt (.mk true 2 [vs, w])) r = G1.set idt (.mk true 2 [vs, w]) := fun r => gcH_lenS (by simp; exact len1)
    rw [g] at c1
    rw [g]
    simp [-gcH_int, code182, Tryz.f182, c1, c2, ld, hw, st, hgc, hov', he.one]
    refine ⟨w, List.getElem?_set_self hG1l, F1, ?_, n1, s1, fun q hq hqe => ?_, len1⟩
    · rw [dropE_at hp hx hk]
      exact AtF.kill a1 fun hm => hide (s1 idt hm)
    · rw [List.getElem?_set_ne (fun e => hqe e.symm)]
      exact fr1 q hq
  · simp [-gcH_int, code182, Tryz.f182, c1, g, gcH_same]
end Go.Proofs.Try1
end

section
namespace Go.Proofs.Try1
open Go Go.Lite
set_option linter.unusedSimpArgs false
set_option linter.unusedVariables false

theorem TOut.base {H : List Ob} {X : List Ob} {o : PTreeOut} {q : V} {H' : List Ob} (h : TOut (H ++ X) o q H') : TOut H o q (gcH H H' q) := by
  obtain ⟨T, w1, w2, w3, rfl, rfl, h3⟩ := h
  rw [List.append_assoc] at h3 ⊢
  obtain ⟨T', h4, h5⟩ := (h3.wide (b' := H.length) (by simp) (Nat.le_refl _)).gcA
  exact ⟨T', w1, w2, w3, rfl, h4, h5⟩

theorem deleteOf_code {t : PTree} {dn : List PRdn} : (deleteOf t dn).code = delCode t.entries dn := by
  unfold deleteOf delCode
  cases firstOf keyE t.entries (keyD dn) with
  | none => rfl
  | some x =>
    simp only [reduceCtorEq, if_false]
    split <;> rfl
theorem deleteOf_ill {t : PTree} {dn : List PRdn} (h : (deleteOf t dn).code ≠ 0) : deleteOf t dn = illT (deleteOf t dn).code := by
  unfold deleteOf at h ⊢
  cases hf : firstOf keyE t.entries (keyD dn) with
  | none => rfl
  | some x =>
    rw [hf] at h
    simp only at h ⊢
    split
    · rfl
    · rename_i g; rw [if_neg g] at h; exact absurd rfl h
theorem deleteOf_wf {t : PTree} {dn : List PRdn} : (Lit.int .i64 (deleteOf t dn).code).wf = true := by
  unfold deleteOf
  split
  · exact wf_code (n := 6) (by decide) (by decide)
  · split
    · exact wf_code (n := 10) (by decide) (by decide)
    · exact wf_code (n := 0) (by decide) (by decide)

/-- A tree's cells, each with its own objects. -/
theorem tree_parts {G : List Ob} {w1 w2 : V} {t : PTree} {b e : Nat} (h : New b e G shTree [w1, w2] t.u) : ∃ F1 F2, AtF G (.slice shClass) [w1] (.lst (t.schema.map PClass.u)) F1 ∧ AtF G (.slice shEntry) [w2] (.lst (t.entries.map PEntry.u)) F2 ∧ F1.Nodup ∧ F2.Nodup ∧ (∀ q ∈ F1, q ∉ F2) ∧ (∀ q ∈ F1, b ≤ q) ∧ (∀ q ∈ F2, b ≤ q) := by
  obtain ⟨F, f1, f2, f3⟩ := h
  obtain ⟨us, hus, f4⟩ := AtF_st.1 f1
  cases hus
  obtain ⟨c1', c2', u1, us1, F1, F2, hcs, hu, rfl, f5, f6⟩ := AtsF_cons.1 f4
  cases hu
  obtain ⟨c3', c4', u2, us2, F3, F4, rfl, hu, rfl, f7, f8⟩ := AtsF_cons.1 f6
  cases hu
  obtain ⟨rfl, _, rfl⟩ := AtsF_nil.1 f8
  obtain ⟨x1, _, rfl, _⟩ := AtF_slice.1 f5
  obtain ⟨x2, _, rfl, _⟩ := AtF_slice.1 f7
  simp only [List.append_nil, List.cons_append, List.nil_append, List.cons.injEq, and_true] at hcs
  obtain ⟨rfl, rfl⟩ := hcs
  rw [List.append_nil] at f2 f3
  obtain ⟨fa, fb, fc⟩ := List.nodup_append.1 f2
  exact ⟨F1, F3, f5, f7, fa, fb, fun q h1 h2 => fc q h1 q h2 rfl, fun q hq => (f3 q (List.mem_append_left _ hq)).1, fun q hq => (f3 q (List.mem_append_right _ hq)).1⟩
theorem tree_join {G : List Ob} {w1 w2 : V} {t : PTree} {b : Nat} {F1 F2 : List Nat} (h1 : AtF G (.slice shClass) [w1] (.lst (t.schema.map PClass.u)) F1) (h2 : AtF G (.slice shEntry) [w2] (.lst (t.entries.map PEntry.u)) F2) (n1 : F1.Nodup) (n2 : F2.Nodup) (hd : ∀ q ∈ F1, q ∉ F2) (b1 : ∀ q ∈ F1, b ≤ q) (b2 : ∀ q ∈ F2, b ≤ q) : New b G.length G shTree [w1, w2] t.u :=
  ⟨F1 ++ F2, AtF_st.2 ⟨_, rfl, AtsF_cons.2 ⟨[w1], [w2], _, _, F1, F2, rfl, rfl, rfl, h1, AtsF_cons.2 ⟨[w2], [], _, _, F2, [], rfl, rfl, by simp, h2, AtsF_nil.2 ⟨rfl, rfl, rfl⟩⟩⟩⟩, List.nodup_append.2 ⟨n1, n2, fun x hx y hy e => hd x hx (e ▸ hy)⟩, fun q hq => by
    rcases List.mem_append.1 hq with hq | hq
    · exact ⟨b1 q hq, AtF.mem _ h1 q hq⟩
    · exact ⟨b2 q hq, AtF.mem _ h2 q hq⟩⟩

theorem i_delFn {G : List Ob} {idt idd : Nat} {vd : V} {own : Bool} {es : Nat} (hq : G[idd]? = some (.mk own es [vd])) (ho : isOne vd = true ∧ cellsOf vd = some [vd]) {code : Int} {G' : List Ob}
    (hc : callW C 182 [.ptr (some (idt, 0)), vd] G = some (.int .i64 code, G')) (hgc : gcH G G' (.int .i64 code) = G') :
    callW C 181 [.ptr (some (idt, 0)), .ptr (some (idd, 0))] G = some (.int .i64 code, G') := by
  suffices hs : Ret C 181 [.ptr (some (idt, 0)), .ptr (some (idd, 0))] G fun r H' => r = .int .i64 code ∧ H' = G' by
    obtain ⟨r, H', h, rfl, rfl⟩ := hs
    exact h
  rw [op181]
  have l1 := load1 (o := 0) (v := vd) hq rfl
  simp [-gcH_int, code181, Tryz.f181, l1, ho, hc, hgc]

set_option maxRecDepth 10000 in
set_option maxHeartbeats 4000000 in
theorem i_TreeDelete {H : List Ob} {vs ve vd : V} {t : PTree} {dn : List PRdn} (hs : AClasses H vs t.schema) (h : AEntries H ve t.entries) (hd : ARdns H vd dn) :
    ∃ q H', callW C 68 [.agg [vs, ve], vd] H = some (q, H') ∧ TOut H (treeDeleteOf t dn) q H' := by
  suffices hs : Ret C 68 [.agg [vs, ve], vd] H fun q H' => TOut H (treeDeleteOf t dn) q H' by
    obtain ⟨q, H', hc, hr⟩ := hs
    exact ⟨q, H', hc, hr⟩
  rw [op68]
  have hos := hs.one
  have hoe := h.one
  have hod := hd.one
  have hil : ∀ (X : List Ob) c, gcH H (H ++ X) (.agg [.slc none 0, .slc none 0, .slc none 0, .int .i64 c]) = H := fun X c => gcH_low (by simp [lowV, lowVs])
  obtain ⟨Y, hY⟩ : ∃ Y, Y = H ++ [.mk true 2 [vs, ve]] := ⟨_, rfl⟩
  obtain ⟨Z, hZ⟩ : ∃ Z, Z = Y ++ [.mk true 1 [vd]] := ⟨_, rfl⟩
  obtain ⟨K, hK⟩ : ∃ K, K = Z ++ [.mk true 1 [vd]] := ⟨_, rfl⟩
  have hYl : Y.length = H.length + 1 := by rw [hY]; simp
  have hZl : Z.length = H.length + 2 := by rw [hZ]; simp [hYl]
  have hYt : Y[H.length]? = some (.mk true 2 [vs, ve]) := by rw [hY]; exact get_last
  have hZd : Z[Y.length]? = some (.mk true 1 [vd]) := by rw [hZ]; exact get_last
  have hKt : K[H.length]? = some (.mk true 2 [vs, ve]) := by rw [hK]; exact up_append _ _ (by rw [hZ]; exact up_append _ _ hYt)
  have hKd : K[Y.length]? = some (.mk true 1 [vd]) := by rw [hK]; exact up_append _ _ hZd
  have hKz : K[Z.length]? = some (.mk true 1 [vd]) := by rw [hK]; exact get_last
  obtain ⟨S, hS⟩ : ∃ S, K = H ++ S := ⟨_, by rw [hK, hZ, hY, List.append_assoc, List.append_assoc]⟩
  have hsK : AClasses K vs t.schema := by rw [hS]; exact hs.ext
  have hK2 : AEntries K ve t.entries := by rw [hS]; exact h.ext
  have hdK : ARdns K vd dn := by rw [hS]; exact hd.ext
  have ldZ := load1 (o := 0) (v := vd) hZd rfl
  have ldN := loadN (o := 0) (n := 2) hKt (by simp) (by decide) rfl
  simp at ldN
  have hgK : ∀ c, gcH H K (.agg [.slc none 0, .slc none 0, .slc none 0, .int .i64 c]) = H := fun c => by rw [hS]; exact hil _ _
  have c0 := i_TreeRight hsK hK2
  have cR : callW C 179 [.ptr (some (H.length, 0))] K = some (.bool (dec (TreeOk t)), K) := by
    apply Ret.eq
    rw [op179]
    simp [code179, Tryz.f179, ldN, c0]
  have c1 := i_dnsCode1 (g := 179) (b := [.ptr (some (H.length, 0))]) hKz hdK cR
  by_cases g1 : 400 < dn.length
  · have e : treeDeleteOf t dn = illT 2 := if_pos g1
    rw [if_pos g1] at c1
    rw [e]
    simp [code68, Tryz.f68, hos, hoe, hod, strideOf, fillL, zerosL, St.new, buildV, structPlace, elemT, ← hY, ← hZ, ← hK, ← hYl, ← hZl, ldZ, c1, hgK]
    exact TOut.ill (by decide)
  rw [if_neg g1] at c1
  by_cases g2 : TreeOk t ∧ DnOk dn
  rotate_left
  · have e : treeDeleteOf t dn = illT 1 := by unfold treeDeleteOf; rw [if_neg g1, dec_neg g2]; rfl
    have g2' : ¬ (dec (DnOk dn) = true ∧ dec (TreeOk t) = true) := fun h => g2 ⟨dec_true.1 h.2, dec_true.1 h.1⟩
    rw [if_neg g2'] at c1
    rw [e]
    simp [code68, Tryz.f68, hos, hoe, hod, strideOf, fillL, zerosL, St.new, buildV, structPlace, elemT, ← hY, ← hZ, ← hK, ← hYl, ← hZl, ldZ, c1, hgK]
    exact TOut.ill (by decide)
  rw [if_pos ⟨dec_pos g2.2, dec_pos g2.1⟩] at c1
  obtain ⟨gt, gd⟩ := g2
  have e : treeDeleteOf t dn = deleteOf t dn := by unfold treeDeleteOf; rw [if_neg g1, dec_pos ⟨gt, gd⟩]; rfl
  have hok : ∀ x ∈ t.entries, DnOk x.dn := fun x hx => (TreeOk.dns gt x hx).2.1
  have hel : t.entries.length ≤ 1000 := by have := gt.2.1.1; omega
  obtain ⟨q, H', c6, hq⟩ := i_treeChanged (H := K) (g := 181) (b := [.ptr (some (Y.length, 0))]) (o := deleteOf t dn) hsK hK2 (TreeOk.small gt) deleteOf_ill deleteOf_wf (fun M d a ⟨R, hR⟩ hnew => by
    obtain ⟨F1, F2, f1, f2, n1, n2, hdj, b1, b2⟩ := tree_parts hnew
    obtain ⟨G, hG⟩ : ∃ G, G = M ++ [.mk true 2 [d, a]] := ⟨_, rfl⟩
    have hMl : K.length ≤ M.length := by rw [hR]; simp
    have hGl : G.length = M.length + 1 := by rw [hG]; simp
    have hGt : G[M.length]? = some (.mk true 2 [d, a]) := by rw [hG]; exact get_last
    have g2 : AtF G (.slice shEntry) [a] (.lst (t.entries.map PEntry.u)) F2 := by rw [hG]; exact f2.ext
    have g1 : AtF G (.slice shClass) [d] (.lst (t.schema.map PClass.u)) F1 := by rw [hG]; exact f1.ext
    have m2 := AtF.mem _ f2
    have m1 := AtF.mem _ f1
    have hGd : G[Y.length]? = some (.mk true 1 [vd]) := by rw [hG, hR, List.append_assoc]; exact up_append _ _ hKd
    have hdG : ARdns G vd dn := by rw [hG, hR, List.append_assoc]; exact hdK.ext
    obtain ⟨G', k1, k2, k3⟩ := i_remove hGt g2 n2 (fun hm => by have := m2 _ hm; omega) hel hok (TreeOk.rise gt) hdG gd
    rw [← hG]
    refine ⟨delCode t.entries dn, G', ?_, ?_⟩
    · refine i_delFn hGd hod k1 ?_
      by_cases g0 : delCode t.entries dn = 0
      · obtain ⟨_, _, _, _, _, _, _, hl⟩ := k3 g0
        exact gcH_lenS hl
      · rw [k2 g0]; exact gcH_same
    · by_cases g0 : delCode t.entries dn = 0
      · obtain ⟨w', F', p1, p2, p3, p4, p5, p6⟩ := k3 g0
        refine ⟨deleteOf_code.symm, fun q hq => p5 q (fun hm => by have := b2 q hm; omega) (by omega), by omega, fun _ => ?_⟩
        have ho : ∃ x, firstOf keyE t.entries (keyD dn) = some x := by
          cases hf : firstOf keyE t.entries (keyD dn) with
          | none => unfold delCode at g0; rw [if_pos hf] at g0; cases g0
          | some x => exact ⟨x, rfl⟩
        obtain ⟨x, hf⟩ := ho
        have hno : ¬ dec (OverOk t.entries dn) = true := fun hh => by
          unfold delCode at g0
          rw [if_neg (by rw [hf]; simp), if_pos hh] at g0
          cases g0
        have ed : deleteOf t dn = ⟨⟨t.schema, dropE t.entries (keyD dn)⟩, [], 0⟩ := by unfold deleteOf; rw [hf]; simp only; rw [if_neg hno]
        rw [ed]
        refine ⟨rfl, d, w', p1, tree_join (F1 := F1) (F2 := F') (AtF.frame _ (fun q hq => p5 q (hdj q hq) (by have := m1 q hq; omega)) g1) p2 n1 p3 (fun q h1 h2 => hdj q h1 (p4 q h2)) (fun q hq => b1 q hq) (fun q hq => b2 q (p4 q hq))⟩
      · have := k2 g0
        subst this
        exact ⟨deleteOf_code.symm, fun _ _ => rfl, Nat.le_refl _, fun hh => absurd hh g0⟩)
  rw [e]
  obtain ⟨w1, w2, w3, rfl, o1, o2, o3⟩ := hq.ones
  have hfin := TOut.base (by rw [← hS]; exact hq : TOut (H ++ S) _ _ _)
  have ldK := load1 (o := 0) (v := vd) hKd rfl
  simp [code68, Tryz.f68, hos, hoe, hod, o1, o2, o3, strideOf, fillL, zerosL, St.new, buildV, structPlace, elemT, ← hY, ← hZ, ← hK, ← hYl, ← hZl, ldZ, ldN, c1, c6]
  exact hfin
end Go.Proofs.Try1
end

section
namespace Go.Proofs.Try1
open Go Go.Lite
set_option linter.unusedSimpArgs false
set_option linter.unusedVariables false

theorem cntP_rdn (x : PRdn) : cntP x.u ≤ 2 := by simp [PRdn.u, cntP, cntPs]
theorem cntP_attr {a : PAttr} (h : a.vals.length ≤ 4) : cntP a.u ≤ 5 := by
  have := cntPs_map (f := strU) (l := a.vals) (k := 1) fun x _ => by simp [strU, cntP]
  simp only [PAttr.u, cntP, cntPs]
  omega
theorem cntP_entry {e : PEntry} (h : EntryOk e) : cntP e.u ≤ 52 := by
  obtain ⟨_, hd, ha⟩ := h
  have h1 := cntPs_map (l := e.dn) fun x _ => cntP_rdn x
  have h2 : cntPs (e.attrs.map PAttr.u) ≤ e.attrs.length * 5 := cntPs_map fun a h => by
    obtain ⟨j, hj, rfl⟩ := List.getElem_of_mem h
    exact cntP_attr (ha.1 j _ (List.getElem?_eq_getElem hj)).2.2.2.2
  have := hd.2
  have := ha.2
  simp only [PEntry.u, cntP, cntPs]
  omega
theorem cntP_class {c : PClass} (h : ClassOk c) : cntP c.u ≤ 31 := by
  have h1 := cntPs_map (f := strU) (l := c.must) (k := 1) fun x _ => by simp [strU, cntP]
  have h2 := cntPs_map (f := strU) (l := c.may) (k := 1) fun x _ => by simp [strU, cntP]
  have h3 := cntPs_map (f := strU) (l := c.single) (k := 1) fun x _ => by simp [strU, cntP]
  have := h.l1
  have := h.l2
  have := h.l3
  simp only [PClass.u, cntP, cntPs]
  omega
theorem cnt_illT (c : Int) : cntV (illT c).u ≤ 1000000 := by simp [illT, PTreeOut.u, PTree.u, cntV, cntVs, cntPs]
theorem cnt_treeOut {s : List PClass} {es : List PEntry} (hs : SchemaOk s) (he : ∀ e ∈ es, EntryOk e) (hl : es.length ≤ 100) : cntV (PTreeOut.u ⟨⟨s, es⟩, [], 0⟩) ≤ 1000000 := by
  have h1 : cntPs (s.map PClass.u) ≤ s.length * 31 := cntPs_map fun c hc => by
    obtain ⟨j, hj, rfl⟩ := List.getElem_of_mem hc
    exact cntP_class (hs.1 j _ (List.getElem?_eq_getElem hj)).1
  have h2 : cntPs (es.map PEntry.u) ≤ es.length * 52 := cntPs_map fun e h => cntP_entry (he e h)
  have := hs.2
  simp only [PTreeOut.u, PTree.u, cntV, cntVs, List.map_nil, cntPs]
  omega

theorem cnt_treeDelete {t : PTree} {dn : List PRdn} : cntV (treeDeleteOf t dn).u ≤ 1000000 := by
  unfold treeDeleteOf
  split
  · exact cnt_illT 2
  split
  case isFalse => exact cnt_illT 1
  rename_i hok
  obtain ⟨gt, _⟩ := dec_true.1 hok
  unfold deleteOf
  split
  · exact cnt_illT 6
  split
  · exact cnt_illT 10
  refine cnt_treeOut gt.1 (fun e he => TreeOk.dns gt e (List.mem_filter.1 he).1) ?_
  have := List.length_filter_le (fun x : PEntry => !(keyE x == keyD dn)) t.entries
  have := gt.2.1.1
  unfold dropE
  omega

/-- The law: for all arguments the call says 'true'. -/
theorem lawTreeDelete {H : List Ob} {vs : List V} {xs : List D} (h : IsArgs H [shTree, .slice shRdn] vs xs) : ∃ H', callW C 10 vs H = some (.bool true, H') := by
  rcases vs with _ | ⟨v1, _ | ⟨v2, _ | ⟨v3, vs⟩⟩⟩ <;> rcases xs with _ | ⟨d1, _ | ⟨d2, _ | ⟨d3, xs⟩⟩⟩ <;> first | (exfalso; simp [IsArgs] at h; done) | skip
  obtain ⟨⟨cs1, e1, l1, i1⟩, ⟨cs2, e2, l2, i2⟩, _⟩ := h
  subst e1; subst e2
  have h1 := Is.at _ i1
  obtain ⟨t, he⟩ := tree_typed h1
  rw [he] at h1
  have h2 := Is.at _ i2
  obtain ⟨v, l, rfl, hl, _⟩ := ASl.typed (f := PRdn.u) (fun _ _ => rdn_typed) h2
  rw [hl] at h2
  have key := ret_FnExactTreeDelete (uR := (treeDeleteOf t l).u) h1 h2
    (fun G x0 x1 a0 a1 => by
      obtain ⟨w1, w2, rfl, b1, b2⟩ := tree_at.1 a0
      obtain ⟨y, rfl⟩ := list1 (At.len _ a1 : _ = 1)
      obtain ⟨q, G', hc, T, y1, y2, y3, rfl, rfl, hn⟩ := s_TreeDelete b1 b2 (dn := l) a1
      exact ⟨_, [y1, y2, y3, .int .i64 (treeDeleteOf t l).code], hc, .app, hn.at⟩)
    (fun G x0 x1 a0 a1 => by
      obtain ⟨w1, w2, rfl, b1, b2⟩ := tree_at.1 a0
      obtain ⟨y, rfl⟩ := list1 (At.len _ a1 : _ = 1)
      obtain ⟨q, G', hc, T, y1, y2, y3, rfl, rfl, hn⟩ := i_TreeDelete b1 b2 (dn := l) a1
      exact ⟨_, [y1, y2, y3, .int .i64 (treeDeleteOf t l).code], hc, .app, hn⟩)
    (by have := cnt_treeDelete (t := t) (dn := l); omega)
  obtain ⟨r, H', hc, rfl⟩ := key
  exact ⟨H', hc⟩
end Go.Proofs.Try1
end

section
namespace Go.Lite
open Go
set_option linter.unusedSimpArgs false
set_option linter.unusedVariables false

theorem VL.one {μ : Mu} {v : V} {us : Array Value} (h : VL μ [v] us.toList) : ∃ u, us = #[u] ∧ VR μ v u := by
  have hl := h.length
  match us, hl, h with
  | ⟨[u]⟩, _, h => exact ⟨u, rfl, h.get 0 v u rfl rfl⟩
theorem VL.two {μ : Mu} {v v' : V} {us : Array Value} (h : VL μ [v, v'] us.toList) : ∃ u u', us = #[u, u'] ∧ VR μ v u ∧ VR μ v' u' := by
  have hl := h.length
  match us, hl, h with
  | ⟨[u, u']⟩, _, h => exact ⟨u, u', rfl, h.get 0 v u rfl rfl, h.get 1 v' u' rfl rfl⟩

theorem cmpPrim_ok {P : Program} {g : FuncId} {fn : Func} (hf : P.funcs[g]? = some fn) (hname : (fn.name == "runtime.NumGoroutine") = false) (hb : fn.body.isNone = true) (hn : Extern.findNext fn = none) (he : Extern.find fn = some Extern.BytealgCompare.compare) : PrimOk P g cmpPrim := by
  intro args H r H' h μ w us hs hv
  unfold cmpPrim at h
  split at h
  · rename_i a b
    cases h
    obtain ⟨u, u', rfl, h1, h2⟩ := hv.two
    obtain ⟨x, rfl, rfl⟩ := h1.str_inv
    obtain ⟨y, rfl, rfl⟩ := h2.str_inv
    refine .inl ⟨.int .i64 (Lib.compareBytes x.data.toList y.data.toList), w, ?_, μ, .refl hs, .int _ _⟩
    rw [run_callFunc_extern hf hname hb hn he, Lib.run_compareString]
    rfl
  · cases h

theorem nonePrim_ok {P : Program} {g : FuncId} : PrimOk P g nonePrim := by
  intro args H r H' h
  cases h

theorem strsOf_get : ∀ {cs : List V} {l : List (List UInt8)}, strsOf cs = some l → cs = l.map V.str
  | [], l, h => by cases h; rfl
  | c :: cs, l, h => by
    unfold strsOf at h
    split at h
    · rename_i he; cases he
    · rename_i s vs he
      cases he
      split at h
      · rename_i l' hl
        cases h
        rw [List.map_cons, ← strsOf_get hl]
      · cases h
    · cases h

theorem cells_get' {cells l : List V} {o n : Nat} (h : (cells.drop o).take n = l) {j : Nat} (hj : j < n) : cells[o + j]? = l[j]? := by
  subst h
  rw [List.getElem?_take_of_lt hj, List.getElem?_drop]

theorem HGoes.garbage {H : List Ob} {μ : Mu} {w : World} (h : HSim H μ w) (n : Nat) (os : Array Obj) : HGoes H μ w H μ (Sort.grow (Sort.ahead w n) os) := by
  have hsame : ∀ b, b < w.heap.size → (Sort.grow (Sort.ahead w n) os).heap[b]? = w.heap[b]? := fun b hb => by
    show (w.heap ++ os)[b]? = _
    rw [Array.getElem?_append_left hb]
  have hsz : w.heap.size ≤ (Sort.grow (Sort.ahead w n) os).heap.size := by
    show _ ≤ (w.heap ++ os).size
    rw [Array.size_append]; omega
  exact ⟨h.world (fun id o m h1 h2 h3 => .of_heap (hsame _ (live_lt h id o m h1 h2 h3))) hsz, μ.le_refl, ⟨hsz, fun b hb _ => hsame b hb, fun b hb => .inl hb, rfl, rfl, rfl, fun _ => Nat.le_add_right _ _⟩, Lives.refl _ _ _⟩

theorem putRow_wrote {w : World} {blk off : Nat} {d d' : Array (List UInt8)} (h0 : Sort.Holds Go.Proofs.encStr w blk off d) (hs : d'.size = d.size) : Wrote w (Sort.putRow Go.Proofs.encStr w blk off d') blk off (d'.toList.map Go.Proofs.encStr) where
  size := by simp
  os := rfl
  tape := rfl
  drawn := rfl
  output := rfl
  other b' hb := by
    show (w.heap.modify blk _)[b']? = _
    rw [Array.getElem?_modify, if_neg (fun e => hb e.symm)]
  cell j := by
    rw [List.length_map, Array.length_toList]
    split
    · rename_i hj
      have := Sort.cell?_putRow Go.Proofs.encStr w blk off d d' h0 hs (j - off) (by omega)
      rw [show off + (j - off) = j by omega] at this
      rw [this, List.getElem?_map, Array.getElem?_toList, Array.getElem?_eq_getElem (by omega), getElem!_pos d' (j - off) (by omega)]
      rfl
    · rename_i hj
      exact Sort.cell?_putRow_other Go.Proofs.encStr w blk off d' ⟨blk, j, none⟩ (by simp only; omega)
  frozen j := by simp

theorem sortPrim_ok {P : Program} {g : FuncId} (hcall : ∀ us w, (callFunc g us).run P w = .ok (.enter g us) w)
    (hsort : ∀ (blk off cap : Nat) (zs : List (List UInt8)) (w : World), Sort.Holds Go.Proofs.encStr w blk off zs.toArray → blk < w.heap.size → zs.length < 4611686018427387904 → Calls P g #[.slice (some ⟨blk, off, none⟩) zs.length cap] w fun e w' =>
      e = .returned (.tuple #[]) ∧ ∃ n os, w' = Sort.grow (Sort.putRow Go.Proofs.encStr (Sort.ahead w n) blk off (zs.mergeSort fun x y => decide (x ≤ y)).toArray) os)
    (hnone : ∀ (p : Option Addr) (cap : Nat) (w : World), Calls P g #[.slice p 0 cap] w fun e w' => e = .returned (.tuple #[]) ∧ w' = w) : PrimOk P g sortPrim := by
  intro args H r H' h μ w us hs hv
  have htup : ∀ μ : Mu, VR μ (.tup []) (.tuple #[]) := fun μ => VR.tup [] #[] rfl (fun i v u h _ => by simp at h)
  unfold sortPrim at h
  split at h
  case h_2 => cases h
  rename_i p n
  obtain ⟨u, rfl, hu⟩ := hv.one
  refine .inr ⟨hcall _ _, ?_⟩
  split at h
  · rename_i hn
    subst hn
    cases h
    have : ∃ q c, u = .slice q 0 c := by
      cases p with
      | none => obtain ⟨rfl, _⟩ := hu.slcN_inv; exact ⟨_, _, rfl⟩
      | some p =>
        obtain ⟨id, off⟩ := p
        obtain ⟨m, _, ⟨c, _, _, _, rfl⟩ | ⟨_, _, a, rfl⟩⟩ := hu.slc_inv <;> exact ⟨_, _, rfl⟩
    obtain ⟨q, c, rfl⟩ := this
    refine (hnone q c w).mono ?_
    rintro e w' ⟨rfl, rfl⟩
    exact ⟨_, rfl, μ, .refl hs, htup μ⟩
  · rename_i hn
    split at h
    case h_2 => cases h
    rename_i id off
    split at h
    case h_2 => cases h
    rename_i es cells ho
    split at h
    case isFalse => cases h
    rename_i hc
    obtain ⟨rfl, hlen, hmax⟩ := hc
    split at h
    case h_2 => cases h
    rename_i ss hss
    cases h
    have hcs := strsOf_get hss
    have hssl : ss.length = n := by
      have := congrArg List.length hcs
      simp at this
      omega
    obtain ⟨m, hm, ⟨c, hc1, hc2, hc3, rfl⟩ | ⟨h0, _⟩⟩ := hu.slc_inv
    rotate_left
    · exact absurd h0 hn
    obtain ⟨g1, g2, g3, g4, g5, g6⟩ := hs.obj id _ m ho hm
    obtain ⟨g6, g7⟩ := g6 rfl
    have hget : ∀ j, j < ss.length → cells[off + j]? = some (.str ss[j]!) := fun j hj => by
      rw [cells_get' hcs (show j < n by omega), List.getElem?_map, List.getElem?_eq_getElem hj]
      simp [hj]
    have hH : Sort.Holds Go.Proofs.encStr w m.blk (m.base + off) ss.toArray := fun j hj => by
      simp only [List.size_toArray] at hj
      obtain ⟨u, hu1, hu2⟩ := g4 (off + j) _ (hget j hj)
      obtain ⟨b, rfl, hb⟩ := hu2.str_inv
      have hbe : Value.string b = Go.Proofs.encStr ss[j]! := by
        show _ = Value.string ⟨ss[j]!.toArray⟩
        rw [hb]
      refine ⟨?_, ?_⟩
      · rw [Nat.add_assoc, hu1, hbe]
        congr 2
        simp [hj]
      · exact (g7 (m.base + off + j) (by omega) (by omega)).2
    have hsort' := hsort m.blk (m.base + off) c ss w hH g5 (by omega)
    rw [hssl] at hsort'
    refine hsort'.mono ?_
    rintro e w' ⟨rfl, k, os, rfl⟩
    refine ⟨_, rfl, μ, ?_, htup μ⟩
    have hlen2 : (ss.mergeSort fun x y => decide (x ≤ y)).length = ss.length := List.length_mergeSort ss
    have hwr := putRow_wrote (d' := (ss.mergeSort fun x y => decide (x ≤ y)).toArray) hH (by simp [hlen2])
    have hvl : VL μ ((ss.mergeSort fun x y => decide (x ≤ y)).map V.str) (((ss.mergeSort fun x y => decide (x ≤ y)).toArray).toList.map Go.Proofs.encStr) := by
      refine VL.of_get (by simp) fun i v u h1 h2 => ?_
      simp only [List.getElem?_map] at h1 h2
      cases hx : (ss.mergeSort fun x y => decide (x ≤ y))[i]? with
      | none => rw [hx] at h1; cases h1
      | some s =>
        rw [hx] at h1 h2
        cases h1
        cases h2
        exact VR.str ⟨s.toArray⟩
    have hgo := HGoes.write hs ho hm hwr hvl (by rw [List.length_map, hlen2]; omega)
    rw [Sort.putRow_ahead]
    exact hgo.trans (HGoes.garbage hgo.sim k os)
end Go.Lite
end

section
namespace Go.Proofs.Try1
open Go Go.Lite

theorem calls_of_in {L : List Nat} {n : Nat} {P : Program} {f : FuncId} {args : Array Value} {w : World} {R : Ending → World → Prop} (h : ∀ D, CallsIn (Fence.list L (some D)) n P f args w R) : Calls P f args w R := fun cs =>
  let ⟨e, w', fr, r, s, x⟩ := (h (cs.length + 1 + n)).2 cs (fun d hd => by cases hd; omega)
  ⟨e, w', fr, r, s.comes, x⟩

theorem cmp_ok : PrimOk Tryz.prog 425 cmpPrim :=
  cmpPrim_ok Tryz.func425 (by kernel_rfl) (by kernel_rfl) rfl rfl

theorem enters {g : Nat} {fn : Func} (h1 : Tryz.prog.funcs[g]? = some fn) (h2 : (fn.name == "runtime.NumGoroutine") = false) (h3 : fn.body.isNone = false) (us : Array Value) (w : World) : (callFunc g us).run Tryz.prog w = .ok (.enter g us) w := by
  simp [callFunc, h1, (by simpa using h2 : ¬ fn.name = "runtime.NumGoroutine")]
  intro hb
  rw [hb] at h3
  cases h3
end Go.Proofs.Try1
end

section
namespace Go.Proofs.Try0
open Go Go.Lite
def locTab : List (Nat × List Nat) := [(126, [3, 5])]
def ordTab : List (Nat × List (Nat × Hint)) := [(126, [(4, ⟨[0, 1, 2, 3, 4, 5, 6, 7, 8, 9, 10], [], [], [(0, 3), (2, 5), (6, 5), (10, 3)], [], []⟩)])]
def fids : List Nat := [50, 97, 114, 151, 152, 219, 222, 232, 256, 316, 319, 345, 391]
noncomputable def primTab : Nat → Option (List V → List Ob → Option (V × List Ob)) := fun f => if f = 425 then some cmpPrim else none
noncomputable def tabs : Tabs := { locs := fun f => (locTab.lookup f).getD [], ord := fun f id => ((ordTab.lookup f).getD []).lookup id, prim := primTab, fids := fids }
theorem mixed : Tryz.prog.follows .mixedOrders = true := rfl
theorem ok : progB Tryz.prog tabs = true := by decide +kernel
end Go.Proofs.Try0
end

section
namespace Go.Proofs.Try0
open Go Go.Lite
noncomputable def C : Ctx := ctxOf Tryz.prog tabs
@[simp] theorem ty3 : C.ty 3 = ⟨.int .i64, 1, 8, [.int .i64 0]⟩ := by kernel_rfl
@[simp] theorem ty4 : C.ty 4 = ⟨.bool, 1, 1, [.bool false]⟩ := by kernel_rfl
@[simp] theorem ty5 : C.ty 5 = ⟨.int .u8, 1, 1, [.int .u8 0]⟩ := by kernel_rfl
@[simp] theorem ty9 : C.ty 9 = ⟨.str, 1, 16, [.str []]⟩ := by kernel_rfl
@[simp] theorem ty29 : C.ty 29 = ⟨.slice 190, 1, 24, [.slc none 0]⟩ := by kernel_rfl
@[simp] theorem ty59 : C.ty 59 = ⟨.slice 5, 1, 24, [.slc none 0]⟩ := by kernel_rfl
@[simp] theorem ty190 : C.ty 190 = ⟨.struct [(0, 9), (1, 9)], 2, 32, [.str [], .str []]⟩ := by kernel_rfl
noncomputable def code50 : Code := match Tryz.f50.body with | some c => c | none => .skip
theorem fi50 : C.fids 50 = true := by kernel_rfl
theorem bo50 : Tryz.f50.body = some code50 := rfl
theorem pr50 : C.prim 50 = none := rfl
theorem fu50 : C.funcs 50 = some Tryz.f50 := Tryz.func50
theorem op50 {a : List V} {H : List Ob} {R : V → List Ob → Prop} : Ret C 50 a H R ↔ WP C 50 code50 ⟨initRegs a, 0, H⟩ (finQ C Tryz.f50 H R) := Ret_fn pr50 fi50 fu50 bo50
@[simp] theorem locs50 : C.locs 50 = [] := by kernel_rfl
noncomputable def code97 : Code := match Tryz.f97.body with | some c => c | none => .skip
theorem fi97 : C.fids 97 = true := by kernel_rfl
theorem bo97 : Tryz.f97.body = some code97 := rfl
theorem pr97 : C.prim 97 = none := rfl
theorem fu97 : C.funcs 97 = some Tryz.f97 := Tryz.func97
theorem op97 {a : List V} {H : List Ob} {R : V → List Ob → Prop} : Ret C 97 a H R ↔ WP C 97 code97 ⟨initRegs a, 0, H⟩ (finQ C Tryz.f97 H R) := Ret_fn pr97 fi97 fu97 bo97
@[simp] theorem locs97 : C.locs 97 = [] := by kernel_rfl
noncomputable def code114 : Code := match Tryz.f114.body with | some c => c | none => .skip
theorem fi114 : C.fids 114 = true := by kernel_rfl
theorem bo114 : Tryz.f114.body = some code114 := rfl
theorem pr114 : C.prim 114 = none := rfl
theorem fu114 : C.funcs 114 = some Tryz.f114 := Tryz.func114
theorem op114 {a : List V} {H : List Ob} {R : V → List Ob → Prop} : Ret C 114 a H R ↔ WP C 114 code114 ⟨initRegs a, 0, H⟩ (finQ C Tryz.f114 H R) := Ret_fn pr114 fi114 fu114 bo114
@[simp] theorem locs114 : C.locs 114 = [] := by kernel_rfl
noncomputable def code151 : Code := match Tryz.f151.body with | some c => c | none => .skip
theorem fi151 : C.fids 151 = true := by kernel_rfl
theorem bo151 : Tryz.f151.body = some code151 := rfl
theorem pr151 : C.prim 151 = none := rfl
theorem fu151 : C.funcs 151 = some Tryz.f151 := Tryz.func151
theorem op151 {a : List V} {H : List Ob} {R : V → List Ob → Prop} : Ret C 151 a H R ↔ WP C 151 code151 ⟨initRegs a, 0, H⟩ (finQ C Tryz.f151 H R) := Ret_fn pr151 fi151 fu151 bo151
@[simp] theorem locs151 : C.locs 151 = [] := by kernel_rfl
noncomputable def code152 : Code := match Tryz.f152.body with | some c => c | none => .skip
theorem fi152 : C.fids 152 = true := by kernel_rfl
theorem bo152 : Tryz.f152.body = some code152 := rfl
theorem pr152 : C.prim 152 = none := rfl
theorem fu152 : C.funcs 152 = some Tryz.f152 := Tryz.func152
theorem op152 {a : List V} {H : List Ob} {R : V → List Ob → Prop} : Ret C 152 a H R ↔ WP C 152 code152 ⟨initRegs a, 0, H⟩ (finQ C Tryz.f152 H R) := Ret_fn pr152 fi152 fu152 bo152
@[simp] theorem locs152 : C.locs 152 = [] := by kernel_rfl
noncomputable def code219 : Code := match Tryz.f219.body with | some c => c | none => .skip
theorem fi219 : C.fids 219 = true := by kernel_rfl
theorem bo219 : Tryz.f219.body = some code219 := rfl
theorem pr219 : C.prim 219 = none := rfl
theorem fu219 : C.funcs 219 = some Tryz.f219 := Tryz.func219
theorem op219 {a : List V} {H : List Ob} {R : V → List Ob → Prop} : Ret C 219 a H R ↔ WP C 219 code219 ⟨initRegs a, 0, H⟩ (finQ C Tryz.f219 H R) := Ret_fn pr219 fi219 fu219 bo219
@[simp] theorem locs219 : C.locs 219 = [] := by kernel_rfl
noncomputable def code222 : Code := match Tryz.f222.body with | some c => c | none => .skip
theorem fi222 : C.fids 222 = true := by kernel_rfl
theorem bo222 : Tryz.f222.body = some code222 := rfl
theorem pr222 : C.prim 222 = none := rfl
theorem fu222 : C.funcs 222 = some Tryz.f222 := Tryz.func222
theorem op222 {a : List V} {H : List Ob} {R : V → List Ob → Prop} : Ret C 222 a H R ↔ WP C 222 code222 ⟨initRegs a, 0, H⟩ (finQ C Tryz.f222 H R) := Ret_fn pr222 fi222 fu222 bo222
@[simp] theorem locs222 : C.locs 222 = [] := by kernel_rfl
noncomputable def code232 : Code := match Tryz.f232.body with | some c => c | none => .skip
theorem fi232 : C.fids 232 = true := by kernel_rfl
theorem bo232 : Tryz.f232.body = some code232 := rfl
theorem pr232 : C.prim 232 = none := rfl
theorem fu232 : C.funcs 232 = some Tryz.f232 := Tryz.func232
theorem op232 {a : List V} {H : List Ob} {R : V → List Ob → Prop} : Ret C 232 a H R ↔ WP C 232 code232 ⟨initRegs a, 0, H⟩ (finQ C Tryz.f232 H R) := Ret_fn pr232 fi232 fu232 bo232
@[simp] theorem locs232 : C.locs 232 = [] := by kernel_rfl
noncomputable def code256 : Code := match Tryz.f256.body with | some c => c | none => .skip
theorem fi256 : C.fids 256 = true := by kernel_rfl
theorem bo256 : Tryz.f256.body = some code256 := rfl
theorem pr256 : C.prim 256 = none := rfl
theorem fu256 : C.funcs 256 = some Tryz.f256 := Tryz.func256
theorem op256 {a : List V} {H : List Ob} {R : V → List Ob → Prop} : Ret C 256 a H R ↔ WP C 256 code256 ⟨initRegs a, 0, H⟩ (finQ C Tryz.f256 H R) := Ret_fn pr256 fi256 fu256 bo256
@[simp] theorem locs256 : C.locs 256 = [] := by kernel_rfl
noncomputable def code316 : Code := match Tryz.f316.body with | some c => c | none => .skip
theorem fi316 : C.fids 316 = true := by kernel_rfl
theorem bo316 : Tryz.f316.body = some code316 := rfl
theorem pr316 : C.prim 316 = none := rfl
theorem fu316 : C.funcs 316 = some Tryz.f316 := Tryz.func316
theorem op316 {a : List V} {H : List Ob} {R : V → List Ob → Prop} : Ret C 316 a H R ↔ WP C 316 code316 ⟨initRegs a, 0, H⟩ (finQ C Tryz.f316 H R) := Ret_fn pr316 fi316 fu316 bo316
@[simp] theorem locs316 : C.locs 316 = [] := by kernel_rfl
noncomputable def code319 : Code := match Tryz.f319.body with | some c => c | none => .skip
theorem fi319 : C.fids 319 = true := by kernel_rfl
theorem bo319 : Tryz.f319.body = some code319 := rfl
theorem pr319 : C.prim 319 = none := rfl
theorem fu319 : C.funcs 319 = some Tryz.f319 := Tryz.func319
theorem op319 {a : List V} {H : List Ob} {R : V → List Ob → Prop} : Ret C 319 a H R ↔ WP C 319 code319 ⟨initRegs a, 0, H⟩ (finQ C Tryz.f319 H R) := Ret_fn pr319 fi319 fu319 bo319
@[simp] theorem locs319 : C.locs 319 = [] := by kernel_rfl
noncomputable def code345 : Code := match Tryz.f345.body with | some c => c | none => .skip
theorem fi345 : C.fids 345 = true := by kernel_rfl
theorem bo345 : Tryz.f345.body = some code345 := rfl
theorem pr345 : C.prim 345 = none := rfl
theorem fu345 : C.funcs 345 = some Tryz.f345 := Tryz.func345
theorem op345 {a : List V} {H : List Ob} {R : V → List Ob → Prop} : Ret C 345 a H R ↔ WP C 345 code345 ⟨initRegs a, 0, H⟩ (finQ C Tryz.f345 H R) := Ret_fn pr345 fi345 fu345 bo345
@[simp] theorem locs345 : C.locs 345 = [] := by kernel_rfl
noncomputable def code391 : Code := match Tryz.f391.body with | some c => c | none => .skip
theorem fi391 : C.fids 391 = true := by kernel_rfl
theorem bo391 : Tryz.f391.body = some code391 := rfl
theorem pr391 : C.prim 391 = none := rfl
theorem fu391 : C.funcs 391 = some Tryz.f391 := Tryz.func391
theorem op391 {a : List V} {H : List Ob} {R : V → List Ob → Prop} : Ret C 391 a H R ↔ WP C 391 code391 ⟨initRegs a, 0, H⟩ (finQ C Tryz.f391 H R) := Ret_fn pr391 fi391 fu391 bo391
@[simp] theorem locs391 : C.locs 391 = [] := by kernel_rfl
noncomputable def code126 : Code := match Tryz.f126.body with | some c => c | none => .skip
theorem bo126 : Tryz.f126.body = some code126 := rfl
theorem fu126 : C.funcs 126 = some Tryz.f126 := Tryz.func126
@[simp] theorem locs126 : C.locs 126 = [3, 5] := by kernel_rfl
@[simp] theorem ord126_4 : C.ord 126 4 = some ⟨[0, 1, 2, 3, 4, 5, 6, 7, 8, 9, 10], [], [], [(0, 3), (2, 5), (6, 5), (10, 3)], [], []⟩ := by kernel_rfl
end Go.Proofs.Try0
end

section
namespace Go.Proofs.Try0
open Go Go.Lite
set_option linter.unusedSimpArgs false
set_option linter.unusedVariables false

theorem u8_lt {c : UInt8} : c.toNat < 256 := c.toNat_lt

set_option maxRecDepth 10000 in
theorem s_Plain {t : Str} {H : List Ob} (ht : t.length ≤ 1000) : callW C 316 [.str t] H = some (.bool (dec (Plain t)), H) := by
  apply Ret.dec
  rw [op316]
  simp [code316, Tryz.f316]
  refine WP_loop (fun k σ => ∃ (i : Nat) (r : Nat → R), i + k = t.length ∧ σ = ⟨r, 0, H⟩ ∧ r 0 = .val (.str t) ∧ r 3 = .val (.int .i64 i) ∧ ∀ j, j < i → ∀ c, t[j]? = some c → PlainB c) ?_ t.length _ ⟨0, _, by simp, rfl, by simp, by simp, by simp⟩
  rintro k σ ⟨i, r, hik, rfl, r0, r3, hall⟩
  cases k with
  | zero =>
    have hi : i = t.length := by omega
    subst hi
    simp [r0, r3]
    intro j c hc
    exact hall j (List.getElem?_eq_some_iff.1 hc).1 c hc
  | succ k =>
    have hi : i < t.length := by omega
    obtain ⟨c, hc⟩ : ∃ c, t[i]? = some c := ⟨t[i], by simp [hi]⟩
    have hc' : t[i] = c := (List.getElem?_eq_some_iff.1 hc).2
    have hw : IntKind.i64.wrap ((i : Int) + 1) = ((i : Int) + 1) := wrap_i64 (by omega) (by omega)
    by_cases h1 : (c.toNat : Int) < 32
    · simp [r0, r3, hi, hc', h1]
      intro hp
      have := (hp i c hc).1
      omega
    · by_cases h2 : (c.toNat : Int) > 126
      · simp [r0, r3, hi, hc', h1, h2]
        intro hp
        have := (hp i c hc).2
        omega
      · simp [r0, r3, hi, hc', h1, h2, hw]
        exact ⟨k, by omega, i + 1, by omega, by omega, all_step (P := fun _ c => PlainB c) hall hc ⟨by omega, by omega⟩⟩

set_option maxRecDepth 10000 in
theorem i_Plain {t : Str} {H : List Ob} (ht : t.length ≤ 1000) : callW C 151 [.str t] H = some (.bool (dec (Plain t)), H) := by
  apply Ret.dec
  rw [op151]
  simp [code151, Tryz.f151]
  refine WP_loop (fun k σ => ∃ (i : Nat) (r : Nat → R), i + k = t.length ∧ σ = ⟨r, 0, H⟩ ∧ r 0 = .val (.str t) ∧ r 5 = .val (.int .i64 t.length) ∧ r 6 = .val (.int .i64 i) ∧ ∀ j, j < i → ∀ c, t[j]? = some c → PlainB c) ?_ t.length _ ⟨0, _, by simp, rfl, by simp, by simp, by simp, by simp⟩
  rintro k σ ⟨i, r, hik, rfl, r0, r5, r6, hall⟩
  cases k with
  | zero =>
    have hi : i = t.length := by omega
    subst hi
    simp [r0, r5, r6]
    intro j c hc
    exact hall j (List.getElem?_eq_some_iff.1 hc).1 c hc
  | succ k =>
    have hi : i < t.length := by omega
    obtain ⟨c, hc⟩ : ∃ c, t[i]? = some c := ⟨t[i], by simp [hi]⟩
    have hc' : t[i] = c := (List.getElem?_eq_some_iff.1 hc).2
    have hw : IntKind.i64.wrap ((i : Int) + 1) = ((i : Int) + 1) := wrap_i64 (by omega) (by omega)
    by_cases h1 : (c.toNat : Int) < 32
    · simp [r0, r5, r6, hi, hc', h1]
      intro hp
      have := (hp i c hc).1
      omega
    · by_cases h2 : (c.toNat : Int) > 126
      · simp [r0, r5, r6, hi, hc', h1, h2]
        intro hp
        have := (hp i c hc).2
        omega
      · simp [r0, r5, r6, hi, hc', h1, h2, hw]
        exact ⟨k, by omega, i + 1, by omega, by omega, all_step (P := fun _ c => PlainB c) hall hc ⟨by omega, by omega⟩⟩

set_option maxRecDepth 10000 in
set_option maxHeartbeats 2000000 in
theorem s_Name {t : Str} {H : List Ob} : callW C 97 [.str t] H = some (.bool (dec (NameOk t)), H) := by
  apply Ret.dec
  rw [op97]
  by_cases g1 : (t.length : Int) < 1
  · have g2 : ¬ NameOk t := fun h => by have := h.1; omega
    simp [code97, Tryz.f97, g1, g2]
  by_cases g2 : (t.length : Int) > 20
  · have g3 : ¬ NameOk t := fun h => by have := h.2.1; omega
    simp [code97, Tryz.f97, g1, g2, g3]
  simp [code97, Tryz.f97, g1, g2]
  refine WP_loop (fun k σ => ∃ (i : Nat) (r : Nat → R), i + k = t.length ∧ σ = ⟨r, 0, H⟩ ∧ r 0 = .val (.str t) ∧ r 3 = .val (.int .i64 i) ∧ ∀ j, j < i → ∀ c, t[j]? = some c → LowB c ∨ (0 < j ∧ (DigB c ∨ c.toNat = 95))) ?_ t.length _ ⟨0, _, by simp, rfl, by simp, by simp, by simp⟩
  rintro k σ ⟨i, r, hik, rfl, r0, r3, hall⟩
  cases k with
  | zero =>
    have hi : i = t.length := by omega
    subst hi
    have hok : NameOk t := ⟨by omega, by omega, fun j c hc => hall j (List.getElem?_eq_some_iff.1 hc).1 c hc⟩
    simp [r0, r3, hok]
  | succ k =>
    have hi : i < t.length := by omega
    obtain ⟨c, hc⟩ : ∃ c, t[i]? = some c := ⟨t[i], by simp [hi]⟩
    have hc' : t[i] = c := (List.getElem?_eq_some_iff.1 hc).2
    have hw : IntKind.i64.wrap ((i : Int) + 1) = ((i : Int) + 1) := wrap_i64 (by omega) (by omega)
    have hgo : LowB c ∨ (0 < i ∧ (DigB c ∨ c.toNat = 95)) → ∃ k', k' < k + 1 ∧ ∃ i', i' + k' = t.length ∧ (i : Int) + 1 = i' ∧ ∀ j, j < i' → ∀ c, t[j]? = some c → LowB c ∨ (0 < j ∧ (DigB c ∨ c.toNat = 95)) := fun h =>
      ⟨k, by omega, i + 1, by omega, by omega, all_step (P := fun j c => LowB c ∨ (0 < j ∧ (DigB c ∨ c.toNat = 95))) hall hc h⟩
    by_cases h1 : LowB c
    · have h1a : (c.toNat : Int) ≥ 97 := by have := h1.1; omega
      have h1b : (c.toNat : Int) ≤ 122 := by have := h1.2; omega
      simp [r0, r3, hi, hc', h1a, h1b, hw]
      exact hgo (.inl h1)
    have hl : (¬ (c.toNat : Int) ≥ 97) ∨ ((c.toNat : Int) ≥ 97 ∧ ¬ (c.toNat : Int) ≤ 122) := by unfold LowB at h1; omega
    have hno : ¬ (0 < i ∧ (DigB c ∨ c.toNat = 95)) → ¬ NameOk t := fun h hk => (hk.2.2 i c hc).elim h1 h
    by_cases h2 : i = 0
    · have hno := hno (by omega)
      subst h2
      rcases hl with hl | ⟨hl, hl2⟩
      · simp [r0, r3, hi, hc', hl, hno]
      · simp [r0, r3, hi, hc', hl, hl2, hno]
    have h2' : ¬ (i : Int) = 0 := by omega
    by_cases h3 : DigB c
    · have h3a : (c.toNat : Int) ≥ 48 := by have := h3.1; omega
      have h3b : (c.toNat : Int) ≤ 57 := by have := h3.2; omega
      have h3c : ¬ (c.toNat : Int) ≥ 97 := by omega
      simp [r0, r3, hi, hc', h2, h3a, h3b, h3c, hw]
      exact hgo (.inr ⟨by omega, .inl h3⟩)
    have hd : (¬ (c.toNat : Int) ≥ 48) ∨ ((c.toNat : Int) ≥ 48 ∧ ¬ (c.toNat : Int) ≤ 57) := by unfold DigB at h3; omega
    by_cases h4 : c.toNat = 95
    · have := hgo (.inr ⟨by omega, .inr h4⟩)
      simp [r0, r3, hi, hc', h2, h4, hw]
      exact this
    · have h4' : ¬ (c.toNat : Int) = 95 := by omega
      have hno := hno (fun h => h.2.elim h3 h4)
      rcases hl with hl | ⟨hl, hl2⟩ <;> rcases hd with hd | ⟨hd, hd2⟩
      · simp [r0, r3, hi, hc', h2, h4', hl, hd, hno]
      · simp [r0, r3, hi, hc', h2, h4', hl, hd, hd2, hno]
      · simp [r0, r3, hi, hc', h2, h4', hl, hl2, hd, hno]
      · simp [r0, r3, hi, hc', h2, h4', hl, hl2, hd, hd2, hno]
end Go.Proofs.Try0
end

section
namespace Go.Proofs.Try0
open Go Go.Lite
set_option linter.unusedSimpArgs false
set_option linter.unusedVariables false

theorem lowC_up {c : UInt8} (h1 : 65 ≤ c.toNat) (h2 : c.toNat ≤ 90) : IntKind.u8.wrap ((c.toNat : Int) + 32) = ((lowC c).toNat : Int) := by
  have : lowC c = c + 32 := by unfold lowC; rw [if_pos ⟨h1, h2⟩]
  rw [this]
  unfold IntKind.wrap
  simp [IntKind.bits, IntKind.signed, UInt8.toNat_add]
theorem lowC_up32 {c : UInt8} (h1 : 65 ≤ c.toNat) (h2 : c.toNat ≤ 90) : (lowC c).toNat = c.toNat + 32 := by
  have : lowC c = c + 32 := by unfold lowC; rw [if_pos ⟨h1, h2⟩]
  rw [this, UInt8.toNat_add]
  have : c.toNat + 32 < 256 := by omega
  simp
  omega
theorem lowC_no {c : UInt8} (h : ¬ (65 ≤ c.toNat ∧ c.toNat ≤ 90)) : lowC c = c := by unfold lowC; rw [if_neg h]
theorem u8_32 {c : UInt8} : c = 32 ↔ c.toNat = 32 := ⟨fun h => by rw [h]; rfl, fun h => UInt8.toNat_inj.1 h⟩
theorem foldl_step {t : Str} {i : Nat} {c : UInt8} (h : t[i]? = some c) (f : Str → UInt8 → Str) (b : Str) : (t.take (i + 1)).foldl f b = f ((t.take i).foldl f b) c := by
  rw [take_get h, List.foldl_append]
  rfl
theorem endSp_last {b : Str} {d : UInt8} (h : b.getLast? = some d) : endSp b = true ↔ d = 32 := by
  unfold endSp
  rw [h]
  simp
theorem last_some {b : Str} (h : b ≠ []) : ∃ d, b.getLast? = some d := ⟨b.getLast h, List.getLast?_eq_some_getLast h⟩

set_option maxRecDepth 10000 in
set_option maxHeartbeats 4000000 in
theorem s_Norm {t : Str} {H : List Ob} : callW C 219 [.str t] H = some (.str (norm t), H) := by
  apply Ret.eq
  rw [op219]
  by_cases g1 : (t.length : Int) > 100
  · have : norm t = [] := by unfold norm; rw [if_neg (by omega)]
    simp [code219, Tryz.f219, g1, this]
  have hp := s_Plain (t := t) (H := H) (by omega)
  by_cases g2 : Plain t
  rotate_left
  · rw [dec_neg g2] at hp
    have : norm t = [] := by unfold norm; rw [dec_neg g2]; simp
    simp [code219, Tryz.f219, g1, hp, this]
  rw [dec_pos g2] at hp
  have hn : norm t = nfin (t.foldl nstep []) := by unfold norm; rw [if_pos ⟨by omega, dec_pos g2⟩]
  have hbz : ∀ i, ((t.take i).foldl nstep []).length ≤ 100 := fun i => by
    have := foldl_len (t.take i) []
    simp at this
    omega
  simp [code219, Tryz.f219, g1, hp, elemT, fillL, zerosL, St.new]
  refine WP_loop (fun k σ => ∃ (i : Nat) (r : Nat → R) (G : List Ob) (v : V), i + k = t.length ∧ σ = ⟨r, 0, G⟩ ∧ r 0 = .val (.str t) ∧ r 3 = .val v ∧ r 4 = .val (.int .i64 i) ∧ Bs H G v ((t.take i).foldl nstep [])) ?_ t.length _ ⟨0, _, _, _, by simp, rfl, by simp, by simp, by simp, Bs.init⟩
  rintro k σ ⟨i, r, G, v, hik, rfl, r0, r3, r4, hB⟩
  have hbl := hbz i
  generalize hb : (t.take i).foldl nstep [] = b at hB hbl
  have hw1 : IntKind.i64.wrap ((b.length : Int) - 1) = (b.length : Int) - 1 := wrap_i64 (by omega) (by omega)
  cases k with
  | zero =>
    have hi : i = t.length := by omega
    subst hi
    rw [List.take_length] at hb
    rw [hb] at hn
    obtain ⟨TT, rfl⟩ := hB.ext
    by_cases hb0 : b = []
    · subst hb0
      obtain ⟨id, rfl, hst, hsl⟩ := hB.cut (n := 0) (Nat.le_refl _)
      simp [r0, r3, r4, hsl, isByte, bys_mapM, hn, nfin, endSp]
    · obtain ⟨d, hd⟩ := last_some hb0
      have hb1 : 0 < b.length := List.length_pos_iff.2 hb0
      have hb2 : 0 < (b.length : Int) := by omega
      have hb3 : (1 : Int) ≤ (b.length : Int) := by omega
      have hb5 : (b.length : Int) - 1 < (b.length : Int) := by omega
      have hb4 : ((b.length : Int) - 1).toNat = b.length - 1 := by omega
      obtain ⟨id, rfl, hld⟩ := hB.last hd
      by_cases hd32 : d = 32
      · obtain ⟨_, hv, hst, hsl⟩ := hB.cut (n := b.length - 1) (by omega)
        cases hv
        have he : nfin b = b.take (b.length - 1) := by unfold nfin; rw [if_pos ((endSp_last hd).2 hd32), List.dropLast_eq_take]
        have hd' : (d.toNat : Int) = 32 := by rw [hd32]; rfl
        simp [r0, r3, r4, hb0, hb1, hb2, hb3, hb4, hb5, hw1, hld, hd', hst, hsl, isByte, bys_mapM, hn, he]
      · obtain ⟨_, hv, hst, hsl⟩ := hB.cut (n := b.length) (Nat.le_refl _)
        cases hv
        have he : nfin b = b := by unfold nfin; rw [if_neg (fun h => hd32 ((endSp_last hd).1 h))]
        have hd' : ¬ (d.toNat : Int) = 32 := by have := mt u8_32.2 hd32; omega
        rw [List.take_length] at hsl
        simp [r0, r3, r4, hb0, hb1, hb2, hb3, hb4, hb5, hw1, hld, hd', hst, hsl, isByte, bys_mapM, hn, he]
  | succ k =>
    have hi : i < t.length := by omega
    obtain ⟨c, hc⟩ : ∃ c, t[i]? = some c := ⟨t[i], by simp [hi]⟩
    have hc' : t[i] = c := (List.getElem?_eq_some_iff.1 hc).2
    have hw : IntKind.i64.wrap ((i : Int) + 1) = ((i : Int) + 1) := wrap_i64 (by omega) (by omega)
    have hfs := foldl_step hc nstep []
    rw [hb] at hfs
    have hgo : ∀ G' v', Bs H G' v' (nstep b c) → ∃ k', k' < k + 1 ∧ ∃ i', i' + k' = t.length ∧ (i : Int) + 1 = i' ∧ Bs H G' v' ((t.take i').foldl nstep []) := fun G' v' h =>
      ⟨k, by omega, i + 1, by omega, by omega, by rw [hfs]; exact h⟩
    by_cases hup : 65 ≤ c.toNat ∧ c.toNat ≤ 90
    · have hu1 : (c.toNat : Int) ≥ 65 := by omega
      have hu2 : (c.toNat : Int) ≤ 90 := by omega
      have hlw := lowC_up hup.1 hup.2
      have hl32 : ¬ ((lowC c).toNat : Int) = 32 := by rw [lowC_up32 hup.1 hup.2]; omega
      have hns : nstep b c = b ++ [lowC c] := by unfold nstep; rw [if_neg (fun h => hl32 (by rw [u8_32.1 h.1]; rfl))]
      obtain ⟨v', G', ha, hB'⟩ := hB.push (by omega) (c := lowC c) (d := .int .u8) (z := [.int .u8 0]) rfl
      rw [← hns] at hB'
      simp [r0, r3, r4, hi, hc', hu1, hu2, hlw, hl32, elemT, fillL, zerosL, St.new, badArg, ha, hw]
      obtain ⟨k', q1, i', q2, q3, q4⟩ := hgo G' v' hB'
      exact ⟨k', q1, i', q2, _, _, ⟨rfl, rfl⟩, by simp [r0], _, by simp [r3], by simp [q3], q4⟩
    have hlc := lowC_no hup
    have hu : (¬ (c.toNat : Int) ≥ 65) ∨ ((c.toNat : Int) ≥ 65 ∧ ¬ (c.toNat : Int) ≤ 90) := by omega
    by_cases h32 : c = 32
    · have h32' : (c.toNat : Int) = 32 := by rw [h32]; rfl
      have hu1 : ¬ (c.toNat : Int) ≥ 65 := by omega
      by_cases hb0 : b = []
      · have hns : nstep b c = b := by unfold nstep; rw [if_pos ⟨by rw [hlc, h32], .inl hb0⟩]
        rw [hns] at hgo
        have hbl0 : b.length = 0 := by rw [hb0]; rfl
        have := hgo G v hB
        simp [r0, r3, r4, hi, hc', h32', hB.len, hbl0, hw]
        obtain ⟨k', q1, i', q2, q3, q4⟩ := this
        exact ⟨k', q1, i', q2, _, _, ⟨rfl, rfl⟩, by simp [r0], _, by simp [r3], by simp [q3], q4⟩
      · obtain ⟨d, hd⟩ := last_some hb0
        have hb1 : 0 < b.length := List.length_pos_iff.2 hb0
        have hb3 : (1 : Int) ≤ (b.length : Int) := by omega
        have hb5 : (b.length : Int) - 1 < (b.length : Int) := by omega
        have hb4 : ((b.length : Int) - 1).toNat = b.length - 1 := by omega
        obtain ⟨id, hv, hld⟩ := hB.last hd
        have hB0 := hB
        subst hv
        by_cases hd32 : d = 32
        · have hns : nstep b c = b := by unfold nstep; rw [if_pos ⟨by rw [hlc, h32], .inr ((endSp_last hd).2 hd32)⟩]
          rw [hns] at hgo
          have hd' : (d.toNat : Int) = 32 := by rw [hd32]; rfl
          have := hgo G _ hB
          simp [r0, r3, r4, hi, hc', h32', hb0, hb1, hb3, hb4, hb5, hw1, hld, hd', hw]
          obtain ⟨k', q1, i', q2, q3, q4⟩ := this
          exact ⟨k', q1, i', q2, _, _, ⟨rfl, rfl⟩, by simp [r0], _, by simp [r3], by simp [q3], q4⟩
        · have hns : nstep b c = b ++ [c] := by unfold nstep; rw [if_neg (fun h => h.2.elim hb0 (fun h => hd32 ((endSp_last hd).1 h))), hlc]
          have hd' : ¬ (d.toNat : Int) = 32 := by have := mt u8_32.2 hd32; omega
          obtain ⟨v', G', ha, hB'⟩ := hB.push (by omega) (c := c) (d := .int .u8) (z := [.int .u8 0]) rfl
          rw [← hns] at hB'
          rw [h32'] at ha
          simp [r0, r3, r4, hi, hc', h32', hb0, hb1, hb3, hb4, hb5, hw1, hld, hd', elemT, fillL, zerosL, St.new, badArg, ha, hw]
          obtain ⟨k', q1, i', q2, q3, q4⟩ := hgo G' v' hB'
          exact ⟨k', q1, i', q2, _, _, ⟨rfl, rfl⟩, by simp [r0], _, by simp [r3], by simp [q3], q4⟩
    · have h32' : ¬ (c.toNat : Int) = 32 := by have := mt u8_32.2 h32; omega
      have hns : nstep b c = b ++ [c] := by unfold nstep; rw [if_neg (fun h => h32 (hlc ▸ h.1)), hlc]
      obtain ⟨v', G', ha, hB'⟩ := hB.push (by omega) (c := c) (d := .int .u8) (z := [.int .u8 0]) rfl
      rw [← hns] at hB'
      have := hgo G' v' hB'
      rcases hu with hu | ⟨hu, hu2⟩
      · simp [r0, r3, r4, hi, hc', hu, h32', elemT, fillL, zerosL, St.new, badArg, ha, hw]
        obtain ⟨k', q1, i', q2, q3, q4⟩ := this
        exact ⟨k', q1, i', q2, _, _, ⟨rfl, rfl⟩, by simp [r0], _, by simp [r3], by simp [q3], q4⟩
      · simp [r0, r3, r4, hi, hc', hu, hu2, h32', elemT, fillL, zerosL, St.new, badArg, ha, hw]
        obtain ⟨k', q1, i', q2, q3, q4⟩ := this
        exact ⟨k', q1, i', q2, _, _, ⟨rfl, rfl⟩, by simp [r0], _, by simp [r3], by simp [q3], q4⟩
end Go.Proofs.Try0
end
