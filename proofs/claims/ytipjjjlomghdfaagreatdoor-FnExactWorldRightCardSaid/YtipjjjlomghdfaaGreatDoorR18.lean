/- Part 18 of the proof of a law: the interpreter, its soundness, and what functions of the program compute over it. Conditions: none but those that each theorem names. -/
import Derived.Test.YtipjjjlomghdfaaGreatDoorR17
import Derived.Test.YtipjjjlomghdfaaGreatDoorR16
import Derived.Test.YtipjjjlomghdfaaGreatDoorR10
import Derived.Test.YtipjjjlomghdfaaGreatDoorR11

set_option linter.all false
set_option maxRecDepth 20000
set_option maxHeartbeats 40000000
section
namespace Go.Proofs.Try1
open Go Go.Lite
attribute [-simp] WP_region WP_cond
attribute [local simp] WP_regionF WP_condF ThenW_some ThenW_none CondW_true CondW_false
attribute [local simp low] CondW_bool
theorem amu {H : List Ob} {v : V} {t : PTable} (h : ARows H v t.rows) : callW C 93 [.agg [.int .i64 t.next, .int .i64 t.usn, v]] H = some (.bool (dec (ajq t)), H) := by
 apply Ret.dec
 rw [aB9]
 have ov := h.one
 have c1 := aik (n := t.next) (a := 1) (b := 1000000) (H := H)
 have c2 := aik (n := t.usn) (a := 0) (b := 1000000) (H := H)
 by_cases g1 : 1 ≤ t.next ∧ t.next ≤ 1000000
 rotate_left
 ·rw [dec_neg g1] at c1
  simp [alk, Tryz.f93, ov, c1]
  exact fun h => g1 h.1
 rw [dec_pos g1] at c1
 by_cases g2 : 0 ≤ t.usn ∧ t.usn ≤ 1000000
 rotate_left
 ·rw [dec_neg g2] at c2
  simp [alk, Tryz.f93, ov, c1, c2]
  exact fun h => g2 h.2.1
 rw [dec_pos g2] at c2
 by_cases g3 : t.rows.length ≤ 20
 rotate_left
 ·have g3' : (20 : Int) < t.rows.length := by omega
  simp [alk, Tryz.f93, ov, c1, c2, h.len, g3']
  exact fun h => g3 h.2.2.1
 have g3' : ¬ (20 : Int) < t.rows.length := by omega
 simp [alk, Tryz.f93, ov, c1, c2, h.len, g3']
 refine WP_loop (fun k σ => ∃ (i n : Nat) (r : Nat → R), i + k = t.rows.length ∧ σ = ⟨r, n, H⟩ ∧ r 1 = .box 0 [.int .i64 t.next, .int .i64 t.usn, v] ∧ r 24 = .val v ∧ r 25 = .val (.int .i64 t.rows.length) ∧ r 26 = .val (.int .i64 i) ∧ ∀ (j : Nat) x, j < i → t.rows[j]? = some x → akb t.next t.usn t.rows j x) ?_ t.rows.length _ ⟨0, _, _, by simp, rfl, by simp, by simp, by simp, by simp, by simp⟩
 rintro k σ ⟨i, n, r, hik, rfl, r1, r24, r25, r26, hall⟩
 cases k with
 | zero =>
  have hi : i = t.rows.length := by omega
  subst hi
  have hA : ajq t := ⟨g1, g2, g3, at_all (P := fun j (x : PRow) => akb t.next t.usn t.rows j x) hall⟩
  simp [r1, r24, r25, r26, h.len, ov, hA]
 | succ k =>
  have hi : i < t.rows.length := by omega
  obtain ⟨x, hx⟩ : ∃ c, t.rows[i]? = some c := ⟨t.rows[i], by simp [hi]⟩
  have hw : IntKind.i64.wrap ((i : Int) + 1) = ((i : Int) + 1) := wrap_i64 (by omega) (by omega)
  obtain ⟨s1, _, hcut, _, hcs⟩ := h.cut (i := i) (by omega)
  rcases hcs with ⟨_, _, _, _, h0⟩ | ⟨idv, offv, rfl, rfl, _, hst⟩
  ·rw [h0] at hi; simp at hi
  have hst : strideIs H idv 7 = true := hst H ⟨[], by simp⟩
  obtain ⟨id, o, hid, e1, lm, ll⟩ := rows_idx h hx
  have c3 := awF (x := x) (n := t.next) (u := t.usn) (H := H) g1
  by_cases q1 : aiY x ∧ akw t.next t.usn x
  rotate_left
  ·rw [dec_neg q1] at c3
   simp only [PRow.cs] at c3 lm
   simp [r1, r24, r25, r26, hi, h.len, ov, hid, e1, lm, hw, c3, strideOf, fillL, zerosL, St.new, PRow.cs, regionL_none, regionL_some, List.lookup]
   exact fun h => q1 ⟨(h.2.2.2 i x hx).1, (h.2.2.2 i x hx).2.1⟩
  rw [dec_pos q1] at c3
  have hprev : (¬ (0 : Int) < i ∧ (∀ p, 0 < i → t.rows[i - 1]? = some p → p.id < x.id)) ∨ ((0 : Int) < i ∧ ∃ p idp op, t.rows[i - 1]? = some p ∧ idp < H.length ∧ (∀ (e s b : Nat) (z : List V) (ty : Nat → LT) (k : IntKind), (ty e).size = 7 → indexR ⟨.slice e, s, b, z⟩ ty (.val (.slc (some (idv, offv)) t.rows.length)) (.int k ((i : Int) - 1)) = some (.val (.ptr (some (idp, op))))) ∧ (∀ T : LT, T.one → ∀ r c, loadAt T ⟨r, c, H⟩ (.hp idp op) = some (.int .i64 p.id))) := by
   by_cases h0 : 0 < i
   ·obtain ⟨p, hp⟩ : ∃ c, t.rows[i - 1]? = some c := ⟨t.rows[i - 1], List.getElem?_eq_getElem (by omega)⟩
    obtain ⟨idp, op, hidp, f1, fm, fl⟩ := rows_idx h hp
    refine .inr ⟨by omega, p, idp, op, hp, hidp, ?_, fun T hT r c => by simpa using fl T hT r c 0 _ rfl⟩
    have : ((i - 1 : Nat) : Int) = (i : Int) - 1 := by omega
    rw [this] at f1
    exact f1
   ·exact .inl ⟨by omega, fun p h => absurd h h0⟩
  have hwp : (0 : Int) < i → IntKind.i64.wrap ((i : Int) - 1) = (i : Int) - 1 := fun h => wrap_i64 (by omega) (by omega)
  simp only [PRow.cs] at c3 lm
  rcases hprev with ⟨g0, hpr⟩ | ⟨g0, p, idp, op, hp, hidp, f1, f2⟩
  ·have i0 : ¬ 0 < i := by omega
   have hsl : i ≤ t.rows.length := by omega
   simp [r1, r24, r25, r26, hi, h.len, ov, hid, e1, lm, hw, c3, g0, i0, hst, hsl, strideOf, fillL, zerosL, St.new, PRow.cs, regionL_none, regionL_some, List.lookup]
   refine WP.mono (Q := TbQ 2 (∀ (m : Nat) q, m < i → t.rows[m]? = some q → ¬ ajT q x) (fun r => r 1 = .box 0 [.int .i64 t.next, .int .i64 t.usn, .slc (some (idv, offv)) t.rows.length] ∧ r 24 = .val (.slc (some (idv, offv)) t.rows.length) ∧ r 25 = .val (.int .i64 t.rows.length) ∧ r 26 = .val (.int .i64 i) ∧ r 4 = .box n x.cs) H) ?_ ?_
   ·refine WP_loop (TbI t.rows i x H (fun j r => r 1 = .box 0 [.int .i64 t.next, .int .i64 t.usn, .slc (some (idv, offv)) t.rows.length] ∧ r 24 = .val (.slc (some (idv, offv)) t.rows.length) ∧ r 25 = .val (.int .i64 t.rows.length) ∧ r 26 = .val (.int .i64 i) ∧ r 4 = .box n x.cs ∧ r 57 = .val (.slc (some (idv, offv)) i) ∧ r 58 = .val (.int .i64 i) ∧ r 59 = .val (.int .i64 j))) ?_ i _ ⟨0, _, _, by simp, rfl, ⟨by simp [r1, r24, r25, r26], by simp [r1, r24, r25, r26], by simp [r1, r24, r25, r26], by simp [r1, r24, r25, r26], by simp [r1, r24, r25, r26], by simp [r1, r24, r25, r26], by simp [r1, r24, r25, r26], by simp [r1, r24, r25, r26]⟩, by simp⟩
    clear r1 r24 r25 r26 hall
    clear r
    rintro k2 σ ⟨j, n2, r, hjk, rfl, ⟨r1, r24, r25, r26, r4, r57, r58, r59⟩, hno⟩
    cases k2 with
    | zero =>
     have hj : j = i := by omega
     subst hj
     simp [r1, r24, r25, r26, r4, r57, r58, r59, regionL_none, regionL_some, List.lookup]
     exact .inl ⟨rfl, _, _, rfl, ⟨by simp [r1, r24, r25, r26, r4, r57, r58, r59], by simp [r1, r24, r25, r26, r4, r57, r58, r59], by simp [r1, r24, r25, r26, r4, r57, r58, r59], by simp [r1, r24, r25, r26, r4, r57, r58, r59], by simp [r1, r24, r25, r26, r4, r57, r58, r59]⟩, hno⟩
    | succ k2 =>
     have hj : j < i := by omega
     obtain ⟨q, hq⟩ : ∃ c, t.rows[j]? = some c := ⟨t.rows[j], List.getElem?_eq_getElem (by omega)⟩
     have hw2 : IntKind.i64.wrap ((j : Int) + 1) = ((j : Int) + 1) := wrap_i64 (by omega) (by omega)
     have hne := fun hc => at_step (P := fun m (q : PRow) => ¬ ajT q x) hno hq hc
     obtain ⟨idq, oq, hidq, f1, fm, _⟩ := rows_idx hcut (i := j) (x := q) (by rw [List.getElem?_take_of_lt hj]; exact hq)
     simp only [PRow.cs] at fm
     by_cases eu : q.usn = x.usn
     ·simp [r1, r24, r25, r26, r4, r57, r58, r59, eu, hj, hidq, f1, fm, hw2, strideOf, fillL, zerosL, St.new, PRow.cs, regionL_none, regionL_some, List.lookup]
      exact .inr ⟨rfl, _, _, rfl, by simp, fun hc => hc j q hj hq (.inl eu)⟩
     rcases (show (¬ q.login = x.login ∧ True) ∨ (q.login = x.login ∧ q.gone = true) ∨ (q.login = x.login ∧ q.gone = false ∧ x.gone = true) ∨ (q.login = x.login ∧ q.gone = false ∧ x.gone = false) by cases q.gone <;> cases x.gone <;> by_cases h : q.login = x.login <;> simp [h]) with ⟨a1, _⟩ | ⟨a1, a2⟩ | ⟨a1, a2, a3⟩ | ⟨a1, a2, a3⟩
     ·simp [r1, r24, r25, r26, r4, r57, r58, r59, eu, a1, hj, hidq, f1, fm, hw2, strideOf, fillL, zerosL, St.new, PRow.cs, regionL_none, regionL_some, List.lookup]
      refine ⟨k2, by omega, j + 1, _, _, by omega, rfl, ⟨by simp [r1, r24, r25, r26, r4, r57, r58, r59, a1], by simp [r1, r24, r25, r26, r4, r57, r58, r59, a1], by simp [r1, r24, r25, r26, r4, r57, r58, r59, a1], by simp [r1, r24, r25, r26, r4, r57, r58, r59, a1], by simp [r1, r24, r25, r26, r4, r57, r58, r59, a1], by simp [r1, r24, r25, r26, r4, r57, r58, r59, a1], by simp [r1, r24, r25, r26, r4, r57, r58, r59, a1], by simp [r1, r24, r25, r26, r4, r57, r58, r59, a1]⟩, hne fun hc => ?_⟩
      rcases hc with h | h
      ·exact eu h
      ·exact a1 h.1
     ·simp [r1, r24, r25, r26, r4, r57, r58, r59, eu, a1, a2, hj, hidq, f1, fm, hw2, strideOf, fillL, zerosL, St.new, PRow.cs, regionL_none, regionL_some, List.lookup]
      refine ⟨k2, by omega, j + 1, _, _, by omega, rfl, ⟨by simp [r1, r24, r25, r26, r4, r57, r58, r59, a1, a2], by simp [r1, r24, r25, r26, r4, r57, r58, r59, a1, a2], by simp [r1, r24, r25, r26, r4, r57, r58, r59, a1, a2], by simp [r1, r24, r25, r26, r4, r57, r58, r59, a1, a2], by simp [r1, r24, r25, r26, r4, r57, r58, r59, a1, a2], by simp [r1, r24, r25, r26, r4, r57, r58, r59, a1, a2], by simp [r1, r24, r25, r26, r4, r57, r58, r59, a1, a2], by simp [r1, r24, r25, r26, r4, r57, r58, r59, a1, a2]⟩, hne fun hc => ?_⟩
      rcases hc with h | h
      ·exact eu h
      ·rw [a2] at h; exact absurd h.2.1 (by simp)
     ·simp [r1, r24, r25, r26, r4, r57, r58, r59, eu, a1, a2, a3, hj, hidq, f1, fm, hw2, strideOf, fillL, zerosL, St.new, PRow.cs, regionL_none, regionL_some, List.lookup]
      refine ⟨k2, by omega, j + 1, _, _, by omega, rfl, ⟨by simp [r1, r24, r25, r26, r4, r57, r58, r59, a1, a2, a3], by simp [r1, r24, r25, r26, r4, r57, r58, r59, a1, a2, a3], by simp [r1, r24, r25, r26, r4, r57, r58, r59, a1, a2, a3], by simp [r1, r24, r25, r26, r4, r57, r58, r59, a1, a2, a3], by simp [r1, r24, r25, r26, r4, r57, r58, r59, a1, a2, a3], by simp [r1, r24, r25, r26, r4, r57, r58, r59, a1, a2, a3], by simp [r1, r24, r25, r26, r4, r57, r58, r59, a1, a2, a3], by simp [r1, r24, r25, r26, r4, r57, r58, r59, a1, a2, a3]⟩, hne fun hc => ?_⟩
      rcases hc with h | h
      ·exact eu h
      ·rw [a3] at h; exact absurd h.2.2 (by simp)
     ·simp [r1, r24, r25, r26, r4, r57, r58, r59, eu, a1, a2, a3, hj, hidq, f1, fm, hw2, strideOf, fillL, zerosL, St.new, PRow.cs, regionL_none, regionL_some, List.lookup]
      exact .inr ⟨rfl, _, _, rfl, by simp, fun hc => hc j q hj hq (.inr ⟨a1, a2, a3⟩)⟩
   ·clear r1 r24 r25 r26
    clear r
    rintro ex σ' (⟨rfl, n2, r, rfl, ⟨r1, r24, r25, r26, r4⟩, hno⟩ | ⟨rfl, n2, r, rfl, r2, hno⟩)
    ·simp [r1, r24, r25, r26, r4, hw, regionL_none, regionL_some, List.lookup]
     exact ⟨k, by omega, i + 1, by omega, _, _, ⟨rfl, rfl⟩, by simp [r1, r24, r25, r26, r4], by simp [r1, r24, r25, r26, r4], by simp [r1, r24, r25, r26, r4], by simp [r1, r24, r25, r26, r4], at_step (P := fun j (x : PRow) => akb t.next t.usn t.rows j x) hall hx ⟨q1.1, q1.2, hpr, hno⟩⟩
    ·simp [r2]
     exact fun h => hno (h.2.2.2 i x hx).2.2.2
  ·have hwp := hwp g0
   have i0 : 0 < i := by omega
   by_cases qp : p.id < x.id
   rotate_left
   ·have qp' : x.id ≤ p.id := by omega
    simp [r1, r24, r25, r26, hi, h.len, ov, hid, e1, lm, hw, c3, g0, i0, hwp, hidp, f1, f2, qp', strideOf, fillL, zerosL, St.new, PRow.cs, regionL_none, regionL_some, List.lookup]
    exact fun h => qp ((h.2.2.2 i x hx).2.2.1 p (by omega) hp)
   have qp' : ¬ x.id ≤ p.id := by omega
   have hpr : ∀ p, 0 < i → t.rows[i - 1]? = some p → p.id < x.id := fun p2 _ h2 => by rw [hp] at h2; cases h2; exact qp
   have hsl : i ≤ t.rows.length := by omega
   simp [r1, r24, r25, r26, hi, h.len, ov, hid, e1, lm, hw, c3, g0, i0, hwp, hidp, f1, f2, qp', hst, hsl, strideOf, fillL, zerosL, St.new, PRow.cs, regionL_none, regionL_some, List.lookup]
   refine WP.mono (Q := TbQ 2 (∀ (m : Nat) q, m < i → t.rows[m]? = some q → ¬ ajT q x) (fun r => r 1 = .box 0 [.int .i64 t.next, .int .i64 t.usn, .slc (some (idv, offv)) t.rows.length] ∧ r 24 = .val (.slc (some (idv, offv)) t.rows.length) ∧ r 25 = .val (.int .i64 t.rows.length) ∧ r 26 = .val (.int .i64 i) ∧ r 4 = .box n x.cs) H) ?_ ?_
   ·refine WP_loop (TbI t.rows i x H (fun j r => r 1 = .box 0 [.int .i64 t.next, .int .i64 t.usn, .slc (some (idv, offv)) t.rows.length] ∧ r 24 = .val (.slc (some (idv, offv)) t.rows.length) ∧ r 25 = .val (.int .i64 t.rows.length) ∧ r 26 = .val (.int .i64 i) ∧ r 4 = .box n x.cs ∧ r 57 = .val (.slc (some (idv, offv)) i) ∧ r 58 = .val (.int .i64 i) ∧ r 59 = .val (.int .i64 j))) ?_ i _ ⟨0, _, _, by simp, rfl, ⟨by simp [r1, r24, r25, r26], by simp [r1, r24, r25, r26], by simp [r1, r24, r25, r26], by simp [r1, r24, r25, r26], by simp [r1, r24, r25, r26], by simp [r1, r24, r25, r26], by simp [r1, r24, r25, r26], by simp [r1, r24, r25, r26]⟩, by simp⟩
    clear r1 r24 r25 r26 hall
    clear r
    rintro k2 σ ⟨j, n2, r, hjk, rfl, ⟨r1, r24, r25, r26, r4, r57, r58, r59⟩, hno⟩
    cases k2 with
    | zero =>
     have hj : j = i := by omega
     subst hj
     simp [r1, r24, r25, r26, r4, r57, r58, r59, regionL_none, regionL_some, List.lookup]
     exact .inl ⟨rfl, _, _, rfl, ⟨by simp [r1, r24, r25, r26, r4, r57, r58, r59], by simp [r1, r24, r25, r26, r4, r57, r58, r59], by simp [r1, r24, r25, r26, r4, r57, r58, r59], by simp [r1, r24, r25, r26, r4, r57, r58, r59], by simp [r1, r24, r25, r26, r4, r57, r58, r59]⟩, hno⟩
    | succ k2 =>
     have hj : j < i := by omega
     obtain ⟨q, hq⟩ : ∃ c, t.rows[j]? = some c := ⟨t.rows[j], List.getElem?_eq_getElem (by omega)⟩
     have hw2 : IntKind.i64.wrap ((j : Int) + 1) = ((j : Int) + 1) := wrap_i64 (by omega) (by omega)
     have hne := fun hc => at_step (P := fun m (q : PRow) => ¬ ajT q x) hno hq hc
     obtain ⟨idq, oq, hidq, f1, fm, _⟩ := rows_idx hcut (i := j) (x := q) (by rw [List.getElem?_take_of_lt hj]; exact hq)
     simp only [PRow.cs] at fm
     by_cases eu : q.usn = x.usn
     ·simp [r1, r24, r25, r26, r4, r57, r58, r59, eu, hj, hidq, f1, fm, hw2, strideOf, fillL, zerosL, St.new, PRow.cs, regionL_none, regionL_some, List.lookup]
      exact .inr ⟨rfl, _, _, rfl, by simp, fun hc => hc j q hj hq (.inl eu)⟩
     rcases (show (¬ q.login = x.login ∧ True) ∨ (q.login = x.login ∧ q.gone = true) ∨ (q.login = x.login ∧ q.gone = false ∧ x.gone = true) ∨ (q.login = x.login ∧ q.gone = false ∧ x.gone = false) by cases q.gone <;> cases x.gone <;> by_cases h : q.login = x.login <;> simp [h]) with ⟨a1, _⟩ | ⟨a1, a2⟩ | ⟨a1, a2, a3⟩ | ⟨a1, a2, a3⟩
     ·simp [r1, r24, r25, r26, r4, r57, r58, r59, eu, a1, hj, hidq, f1, fm, hw2, strideOf, fillL, zerosL, St.new, PRow.cs, regionL_none, regionL_some, List.lookup]
      refine ⟨k2, by omega, j + 1, _, _, by omega, rfl, ⟨by simp [r1, r24, r25, r26, r4, r57, r58, r59, a1], by simp [r1, r24, r25, r26, r4, r57, r58, r59, a1], by simp [r1, r24, r25, r26, r4, r57, r58, r59, a1], by simp [r1, r24, r25, r26, r4, r57, r58, r59, a1], by simp [r1, r24, r25, r26, r4, r57, r58, r59, a1], by simp [r1, r24, r25, r26, r4, r57, r58, r59, a1], by simp [r1, r24, r25, r26, r4, r57, r58, r59, a1], by simp [r1, r24, r25, r26, r4, r57, r58, r59, a1]⟩, hne fun hc => ?_⟩
      rcases hc with h | h
      ·exact eu h
      ·exact a1 h.1
     ·simp [r1, r24, r25, r26, r4, r57, r58, r59, eu, a1, a2, hj, hidq, f1, fm, hw2, strideOf, fillL, zerosL, St.new, PRow.cs, regionL_none, regionL_some, List.lookup]
      refine ⟨k2, by omega, j + 1, _, _, by omega, rfl, ⟨by simp [r1, r24, r25, r26, r4, r57, r58, r59, a1, a2], by simp [r1, r24, r25, r26, r4, r57, r58, r59, a1, a2], by simp [r1, r24, r25, r26, r4, r57, r58, r59, a1, a2], by simp [r1, r24, r25, r26, r4, r57, r58, r59, a1, a2], by simp [r1, r24, r25, r26, r4, r57, r58, r59, a1, a2], by simp [r1, r24, r25, r26, r4, r57, r58, r59, a1, a2], by simp [r1, r24, r25, r26, r4, r57, r58, r59, a1, a2], by simp [r1, r24, r25, r26, r4, r57, r58, r59, a1, a2]⟩, hne fun hc => ?_⟩
      rcases hc with h | h
      ·exact eu h
      ·rw [a2] at h; exact absurd h.2.1 (by simp)
     ·simp [r1, r24, r25, r26, r4, r57, r58, r59, eu, a1, a2, a3, hj, hidq, f1, fm, hw2, strideOf, fillL, zerosL, St.new, PRow.cs, regionL_none, regionL_some, List.lookup]
      refine ⟨k2, by omega, j + 1, _, _, by omega, rfl, ⟨by simp [r1, r24, r25, r26, r4, r57, r58, r59, a1, a2, a3], by simp [r1, r24, r25, r26, r4, r57, r58, r59, a1, a2, a3], by simp [r1, r24, r25, r26, r4, r57, r58, r59, a1, a2, a3], by simp [r1, r24, r25, r26, r4, r57, r58, r59, a1, a2, a3], by simp [r1, r24, r25, r26, r4, r57, r58, r59, a1, a2, a3], by simp [r1, r24, r25, r26, r4, r57, r58, r59, a1, a2, a3], by simp [r1, r24, r25, r26, r4, r57, r58, r59, a1, a2, a3], by simp [r1, r24, r25, r26, r4, r57, r58, r59, a1, a2, a3]⟩, hne fun hc => ?_⟩
      rcases hc with h | h
      ·exact eu h
      ·rw [a3] at h; exact absurd h.2.2 (by simp)
     ·simp [r1, r24, r25, r26, r4, r57, r58, r59, eu, a1, a2, a3, hj, hidq, f1, fm, hw2, strideOf, fillL, zerosL, St.new, PRow.cs, regionL_none, regionL_some, List.lookup]
      exact .inr ⟨rfl, _, _, rfl, by simp, fun hc => hc j q hj hq (.inr ⟨a1, a2, a3⟩)⟩
   ·clear r1 r24 r25 r26
    clear r
    rintro ex σ' (⟨rfl, n2, r, rfl, ⟨r1, r24, r25, r26, r4⟩, hno⟩ | ⟨rfl, n2, r, rfl, r2, hno⟩)
    ·simp [r1, r24, r25, r26, r4, hw, regionL_none, regionL_some, List.lookup]
     exact ⟨k, by omega, i + 1, by omega, _, _, ⟨rfl, rfl⟩, by simp [r1, r24, r25, r26, r4], by simp [r1, r24, r25, r26, r4], by simp [r1, r24, r25, r26, r4], by simp [r1, r24, r25, r26, r4], at_step (P := fun j (x : PRow) => akb t.next t.usn t.rows j x) hall hx ⟨q1.1, q1.2, hpr, hno⟩⟩
    ·simp [r2]
     exact fun h => hno (h.2.2.2 i x hx).2.2.2
def ah1 (w : PWorld) : Prop := ServerOk w.server ∧ ajq w.table ∧ aia w.flow ∧ (0 ≤ w.mark ∧ w.mark ≤ w.server.next - 1) ∧ (0 ≤ w.usn ∧ w.usn ≤ w.table.usn)
def ajg (w : PWorld) : Prop := w.mark = w.server.next - 1 ∧ w.usn = w.table.usn
abbrev wcs (w : PWorld) (vs ve va vl vr vb vf vg vm vp : V) : List V := [vs, ve, va, .int .i64 w.server.next, vl, .str w.server.who, .int .i64 w.table.next, .int .i64 w.table.usn, vr, vb, vf, vg, vm, vp, .bool w.flow.back, .int .i64 w.mark, .int .i64 w.usn]
structure AtW (H : List Ob) (w : PWorld) (vs ve va vl vr vb vf vg vm vp : V) : Prop where
 s : AClasses H vs w.server.tree.schema
 e : AEntries H ve w.server.tree.entries
 a : ARules H va w.server.acl
 l : AChanges H vl w.server.list
 r : ARows H vr w.table.rows
 b : ARdns H vb w.flow.base
 f : ANodes H vf w.flow.filter
 g : AParts H vg w.flow.login
 m : AParts H vm w.flow.mail
 p : AParts H vp w.flow.phone
theorem AtW.ext {H T : List Ob} {w : PWorld} {vs ve va vl vr vb vf vg vm vp : V} (h : AtW H w vs ve va vl vr vb vf vg vm vp) : AtW (H ++ T) w vs ve va vl vr vb vf vg vm vp :=
 ⟨h.s.ext, h.e.ext, h.a.ext, h.l.ext, h.r.ext, h.b.ext, h.f.ext, h.g.ext, h.m.ext, h.p.ext⟩
theorem ai9 {H : List Ob} {cs : List V} {w : PWorld} (h : At H shWorld cs w.u) : ∃ vs ve va vl vr vb vf vg vm vp, cs = wcs w vs ve va vl vr vb vf vg vm vp ∧ AtW H w vs ve va vl vr vb vf vg vm vp := by
 obtain ⟨c1, c2, c3, rfl, h1, h2, h3, _⟩ := world_at.1 h
 obtain ⟨vs, ve, va, vl, rfl, a1, a2, a3, _, a4, _⟩ := server_at.1 h1
 obtain ⟨vr, rfl, _, _, a5⟩ := table_at.1 h2
 obtain ⟨vb, vf, vg, vm, vp, rfl, a6, a7, a8, a9, a10⟩ := flow_at.1 h3
 exact ⟨vs, ve, va, vl, vr, vb, vf, vg, vm, vp, rfl, ⟨a1, a2, a3, a4, a5, a6, a7, a8, a9, a10⟩⟩
theorem akk {H : List Ob} {w : PWorld} {vs ve va vl vr vb vf vg vm vp : V} (h : AtW H w vs ve va vl vr vb vf vg vm vp) (hb : ∀ x ∈ w.server.list, x.dn.length ≤ 2000000) :
  callW C 33 [.agg (wcs w vs ve va vl vr vb vf vg vm vp)] H = some (.bool (dec (ah1 w)), H) := by
 apply Ret.dec
 rw [aBD]
 have o1 := h.s.one
 have o2 := h.e.one
 have o3 := h.a.one
 have o4 := h.l.one
 have o5 := h.r.one
 have o6 := h.b.one
 have o7 := h.f.one
 have o8 := h.g.one
 have o9 := h.m.one
 have o10 := h.p.one
 have c1 := ajS h.s h.e h.a h.l hb
 have c2 := amf h.r
 have c3 := anc h.b h.f h.g h.m h.p
 have c4 := alz (n := w.mark) (a := 0) (b := w.server.next - 1) (H := H)
 have c5 := alz (n := w.usn) (a := 0) (b := w.table.usn) (H := H)
 by_cases g1 : ServerOk w.server
 rotate_left
 ·rw [dec_neg g1] at c1
  have hn : ¬ ah1 w := fun h => g1 h.1
  simp [aj0, Tryz.f33, o1, o2, o3, o4, o5, o6, o7, o8, o9, o10, c1, hn, wcs, fillL, zerosL, St.new, setRange, regionL_none, regionL_some, List.lookup]
 rw [dec_pos g1] at c1
 by_cases g2 : ajq w.table
 rotate_left
 ·rw [dec_neg g2] at c2
  have hn : ¬ ah1 w := fun h => g2 h.2.1
  simp [aj0, Tryz.f33, o1, o2, o3, o4, o5, o6, o7, o8, o9, o10, c1, c2, hn, wcs, fillL, zerosL, St.new, setRange, regionL_none, regionL_some, List.lookup]
 rw [dec_pos g2] at c2
 by_cases g3 : aia w.flow
 rotate_left
 ·rw [dec_neg g3] at c3
  have hn : ¬ ah1 w := fun h => g3 h.2.2.1
  simp [aj0, Tryz.f33, o1, o2, o3, o4, o5, o6, o7, o8, o9, o10, c1, c2, c3, hn, wcs, fillL, zerosL, St.new, setRange, regionL_none, regionL_some, List.lookup]
 rw [dec_pos g3] at c3
 have hw : IntKind.i64.wrap (w.server.next - 1) = w.server.next - 1 := wrap_i64 (by have := g1.2.2.1.1; omega) (by have := g1.2.2.1.1; omega)
 by_cases g4 : 0 ≤ w.mark ∧ w.mark ≤ w.server.next - 1
 rotate_left
 ·rw [dec_neg g4] at c4
  have hn : ¬ ah1 w := fun h => g4 h.2.2.2.1
  simp [aj0, Tryz.f33, o1, o2, o3, o4, o5, o6, o7, o8, o9, o10, c1, c2, c3, hw, c4, hn, wcs, fillL, zerosL, St.new, setRange, regionL_none, regionL_some, List.lookup]
 rw [dec_pos g4] at c4
 by_cases g5 : 0 ≤ w.usn ∧ w.usn ≤ w.table.usn
 rotate_left
 ·rw [dec_neg g5] at c5
  have hn : ¬ ah1 w := fun h => g5 h.2.2.2.2
  simp [aj0, Tryz.f33, o1, o2, o3, o4, o5, o6, o7, o8, o9, o10, c1, c2, c3, hw, c4, c5, hn, wcs, fillL, zerosL, St.new, setRange, regionL_none, regionL_some, List.lookup]
 rw [dec_pos g5] at c5
 have hy : ah1 w := ⟨g1, g2, g3, g4, g5⟩
 simp [aj0, Tryz.f33, o1, o2, o3, o4, o5, o6, o7, o8, o9, o10, c1, c2, c3, hw, c4, c5, hy, wcs, fillL, zerosL, St.new, setRange, regionL_none, regionL_some, List.lookup]
theorem akh {H : List Ob} {w : PWorld} {vs ve va vl vr vb vf vg vm vp : V} (h : AtW H w vs ve va vl vr vb vf vg vm vp) (hb : ∀ x ∈ w.server.list, x.dn.length ≤ 2000000) :
  callW C 35 [.agg (wcs w vs ve va vl vr vb vf vg vm vp)] H = some (.bool (dec (ah1 w)), H) := by
 apply Ret.dec
 rw [aB8]
 have o1 := h.s.one
 have o2 := h.e.one
 have o3 := h.a.one
 have o4 := h.l.one
 have o5 := h.r.one
 have o6 := h.b.one
 have o7 := h.f.one
 have o8 := h.g.one
 have o9 := h.m.one
 have o10 := h.p.one
 have c1 := ajR h.s h.e h.a h.l hb
 have c2 := amu h.r
 have c3 := am1 h.b h.f h.g h.m h.p
 have c4 := aik (n := w.mark) (a := 0) (b := w.server.next - 1) (H := H)
 have c5 := aik (n := w.usn) (a := 0) (b := w.table.usn) (H := H)
 by_cases g1 : ServerOk w.server
 rotate_left
 ·rw [dec_neg g1] at c1
  have hn : ¬ ah1 w := fun h => g1 h.1
  simp [aj1, Tryz.f35, o1, o2, o3, o4, o5, o6, o7, o8, o9, o10, c1, hn, wcs, fillL, zerosL, St.new, setRange, regionL_none, regionL_some, List.lookup]
 rw [dec_pos g1] at c1
 by_cases g2 : ajq w.table
 rotate_left
 ·rw [dec_neg g2] at c2
  have hn : ¬ ah1 w := fun h => g2 h.2.1
  simp [aj1, Tryz.f35, o1, o2, o3, o4, o5, o6, o7, o8, o9, o10, c1, c2, hn, wcs, fillL, zerosL, St.new, setRange, regionL_none, regionL_some, List.lookup]
 rw [dec_pos g2] at c2
 by_cases g3 : aia w.flow
 rotate_left
 ·rw [dec_neg g3] at c3
  have hn : ¬ ah1 w := fun h => g3 h.2.2.1
  simp [aj1, Tryz.f35, o1, o2, o3, o4, o5, o6, o7, o8, o9, o10, c1, c2, c3, hn, wcs, fillL, zerosL, St.new, setRange, regionL_none, regionL_some, List.lookup]
 rw [dec_pos g3] at c3
 have hw : IntKind.i64.wrap (w.server.next - 1) = w.server.next - 1 := wrap_i64 (by have := g1.2.2.1.1; omega) (by have := g1.2.2.1.1; omega)
 by_cases g4 : 0 ≤ w.mark ∧ w.mark ≤ w.server.next - 1
 rotate_left
 ·rw [dec_neg g4] at c4
  have hn : ¬ ah1 w := fun h => g4 h.2.2.2.1
  simp [aj1, Tryz.f35, o1, o2, o3, o4, o5, o6, o7, o8, o9, o10, c1, c2, c3, hw, c4, hn, wcs, fillL, zerosL, St.new, setRange, regionL_none, regionL_some, List.lookup]
 rw [dec_pos g4] at c4
 by_cases g5 : 0 ≤ w.usn ∧ w.usn ≤ w.table.usn
 rotate_left
 ·rw [dec_neg g5] at c5
  have hn : ¬ ah1 w := fun h => g5 h.2.2.2.2
  simp [aj1, Tryz.f35, o1, o2, o3, o4, o5, o6, o7, o8, o9, o10, c1, c2, c3, hw, c4, c5, hn, wcs, fillL, zerosL, St.new, setRange, regionL_none, regionL_some, List.lookup]
 rw [dec_pos g5] at c5
 have hy : ah1 w := ⟨g1, g2, g3, g4, g5⟩
 simp [aj1, Tryz.f35, o1, o2, o3, o4, o5, o6, o7, o8, o9, o10, c1, c2, c3, hw, c4, c5, hy, wcs, fillL, zerosL, St.new, setRange, regionL_none, regionL_some, List.lookup]
theorem arf {H : List Ob} {w : PWorld} {vs ve va vl vr vb vf vg vm vp : V} (h : AtW H w vs ve va vl vr vb vf vg vm vp) (hw : ah1 w) : callW C 96 [.agg (wcs w vs ve va vl vr vb vf vg vm vp)] H = some (.bool (dec (ajg w)), H) := by
 apply Ret.dec
 rw [aCa]
 have o1 := h.s.one
 have o2 := h.e.one
 have o3 := h.a.one
 have o4 := h.l.one
 have o5 := h.r.one
 have o6 := h.b.one
 have o7 := h.f.one
 have o8 := h.g.one
 have o9 := h.m.one
 have o10 := h.p.one
 have hw : IntKind.i64.wrap (w.server.next - 1) = w.server.next - 1 := wrap_i64 (by have := hw.1.2.2.1.1; omega) (by have := hw.1.2.2.1.1; omega)
 unfold ajg
 by_cases g1 : w.mark = w.server.next - 1 <;> by_cases g2 : w.usn = w.table.usn <;> simp [arJ, Tryz.f96, o1, o2, o3, o4, o5, o6, o7, o8, o9, o10, hw, g1, g2, wcs, fillL, zerosL, St.new, setRange, regionL_none, regionL_some, List.lookup]
theorem aue {H : List Ob} {w : PWorld} {vs ve va vl vr vb vf vg vm vp : V} (h : AtW H w vs ve va vl vr vb vf vg vm vp) (hb : ∀ x ∈ w.server.list, x.dn.length ≤ 2000000) : callW C 37 [.agg (wcs w vs ve va vl vr vb vf vg vm vp)] H = some (.bool (dec (ah1 w ∧ ajg w)), H) := by
 apply Ret.dec
 rw [aBa]
 have o1 := h.s.one
 have o2 := h.e.one
 have o3 := h.a.one
 have o4 := h.l.one
 have o5 := h.r.one
 have o6 := h.b.one
 have o7 := h.f.one
 have o8 := h.g.one
 have o9 := h.m.one
 have o10 := h.p.one
 have c1 := akk h hb
 by_cases g1 : ah1 w
 rotate_left
 ·rw [dec_neg g1] at c1
  simp only [wcs] at c1
  simp [amB, Tryz.f37, o1, o2, o3, o4, o5, o6, o7, o8, o9, o10, c1, g1, wcs, fillL, zerosL, St.new, setRange, regionL_none, regionL_some, List.lookup]
 have c2 := arf h g1
 rw [dec_pos g1] at c1
 simp only [wcs] at c1 c2
 by_cases g2 : ajg w
 ·rw [dec_pos g2] at c2
  simp [amB, Tryz.f37, o1, o2, o3, o4, o5, o6, o7, o8, o9, o10, c1, c2, g1, g2, wcs, fillL, zerosL, St.new, setRange, regionL_none, regionL_some, List.lookup]
 ·rw [dec_neg g2] at c2
  simp [amB, Tryz.f37, o1, o2, o3, o4, o5, o6, o7, o8, o9, o10, c1, c2, g1, g2, wcs, fillL, zerosL, St.new, setRange, regionL_none, regionL_some, List.lookup]
theorem aqd {H : List Ob} {w : PWorld} {id o : Nat} {own : Bool} {es : Nat} {cells : List V} (hc : H[id]? = some (.mk own es cells)) (h3 : cells[o + 3]? = some (.int .i64 w.server.next)) (h7 : cells[o + 7]? = some (.int .i64 w.table.usn)) (h15 : cells[o + 15]? = some (.int .i64 w.mark)) (h16 : cells[o + 16]? = some (.int .i64 w.usn)) (hw : ah1 w) :
  callW C 97 [.ptr (some (id, o))] H = some (.bool (dec (ajg w)), H) := by
 apply Ret.dec
 rw [aCb]
 have l3 := load1 hc h3
 have l7 := load1 hc h7
 have l15 := load1 hc h15
 have l16 := load1 hc h16
 have hw : IntKind.i64.wrap (w.server.next - 1) = w.server.next - 1 := wrap_i64 (by have := hw.1.2.2.1.1; omega) (by have := hw.1.2.2.1.1; omega)
 have hid : id < H.length := (List.getElem?_eq_some_iff.1 hc).1
 have e7 : o + 6 + 1 = o + 7 := rfl
 unfold ajg
 by_cases g1 : w.mark = w.server.next - 1 <;> by_cases g2 : w.usn = w.table.usn <;> simp [aqg, Tryz.f97, hid, e7, l3, l7, l15, l16, hw, g1, g2, regionL_none, regionL_some, List.lookup]
theorem auH {H : List Ob} {w : PWorld} {vs ve va vl vr vb vf vg vm vp : V} (h : AtW H w vs ve va vl vr vb vf vg vm vp) (hb : ∀ x ∈ w.server.list, x.dn.length ≤ 2000000) : callW C 38 [.agg (wcs w vs ve va vl vr vb vf vg vm vp)] H = some (.bool (dec (ah1 w ∧ ajg w)), H) := by
 apply Ret.dec
 rw [aCl]
 have o1 := h.s.one
 have o2 := h.e.one
 have o3 := h.a.one
 have o4 := h.l.one
 have o5 := h.r.one
 have o6 := h.b.one
 have o7 := h.f.one
 have o8 := h.g.one
 have o9 := h.m.one
 have o10 := h.p.one
 obtain ⟨K, hK⟩ : ∃ K, K = H ++ [.mk true 17 (wcs w vs ve va vl vr vb vf vg vm vp)] := ⟨_, rfl⟩
 have hp : K[H.length]? = some (.mk true 17 (wcs w vs ve va vl vr vb vf vg vm vp)) := by rw [hK]; exact get_last
 have hKl : H.length < K.length := by rw [hK]; simp
 have hKw : AtW K w vs ve va vl vr vb vf vg vm vp := by rw [hK]; exact h.ext
 have ldN := loadN (o := 0) (n := 17) (l := wcs w vs ve va vl vr vb vf vg vm vp) hp (by simp) (by decide) rfl
 have hg : ∀ b, gcH H K (.bool b) = H := fun b => by rw [hK]; exact gcH_bool
 have c1 := akh hKw hb
 simp only [wcs] at ldN hK c1
 by_cases g1 : ah1 w
 rotate_left
 ·rw [dec_neg g1] at c1
  simp [amr, Tryz.f38, o1, o2, o3, o4, o5, o6, o7, o8, o9, o10, strideOf, ← hK, ldN, hKl, hg, c1, g1, wcs, fillL, zerosL, St.new, setRange, regionL_none, regionL_some, List.lookup]
 have c2 := aqd (w := w) (o := 0) hp rfl rfl rfl rfl g1
 rw [dec_pos g1] at c1
 by_cases g2 : ajg w
 ·rw [dec_pos g2] at c2
  simp [amr, Tryz.f38, o1, o2, o3, o4, o5, o6, o7, o8, o9, o10, strideOf, ← hK, ldN, hKl, hg, c1, c2, g1, g2, wcs, fillL, zerosL, St.new, setRange, regionL_none, regionL_some, List.lookup]
 ·rw [dec_neg g2] at c2
  simp [amr, Tryz.f38, o1, o2, o3, o4, o5, o6, o7, o8, o9, o10, strideOf, ← hK, ldN, hKl, hg, c1, c2, g1, g2, wcs, fillL, zerosL, St.new, setRange, regionL_none, regionL_some, List.lookup]
end Go.Proofs.Try1
end
section
namespace Go.Proofs.Try1
open Go Go.Lite
theorem ai8 {w : PWorld} (hw : wt w.u ≤ 1048576) : ∀ x ∈ w.server.list, x.dn.length ≤ 2000000 := by
 have : wt w.server.u ≤ wt w.u := by
  have h : wt w.u = wt w.server.u + (wt w.table.u + (wt w.flow.u + (0 + (0 + 0)))) := by
   show wt (.st [w.server.u, w.table.u, w.flow.u, .int w.mark, .int w.usn]) = _
   simp only [wt, wts]
  omega
 exact ajl (by omega)
theorem lawWorldRight {H : List Ob} {vs : List V} {xs : List D} (h : IsArgs H [shWorld] vs xs) : ∃ H', callW C 6 vs H = some (.bool true, H') := by
 rcases vs with _ | ⟨v1, _ | ⟨v2, vs⟩⟩ <;> rcases xs with _ | ⟨d1, _ | ⟨d2, xs⟩⟩ <;> first | (exfalso; simp [IsArgs] at h; done) | skip
 obtain ⟨⟨cs1, e1, l1, i1⟩, _⟩ := h
 subst e1
 have h1 := Is.at _ i1
 obtain ⟨w, hw⟩ := world_typed h1
 rw [hw] at h1
 have key := ajv (rV := .bool (dec (ah1 w))) h1
  (fun hw G x0 a0 => by
   obtain ⟨_, _, _, _, _, _, _, _, _, _, rfl, b⟩ := ai9 a0
   exact ⟨G, akk b (ai8 hw), .refl⟩)
  (fun hw G x0 a0 => by
   obtain ⟨_, _, _, _, _, _, _, _, _, _, rfl, b⟩ := ai9 a0
   exact ⟨G, akh b (ai8 hw), .refl⟩)
 obtain ⟨r, H', hc, rfl⟩ := key ⟨_, rfl⟩
 exact ⟨H', hc⟩
end Go.Proofs.Try1
end
section
namespace Go.Proofs.Try1
open Go Go.Lite
attribute [-simp] WP_region WP_cond
attribute [local simp] WP_regionF WP_condF ThenW_some ThenW_none CondW_true CondW_false
attribute [local simp low] CondW_bool
theorem akM {H : List Ob} {c0 : List V} {u0 : U}  {rV : V} (h0 : At H shWorld c0 u0)
  (hS : wt u0 ≤ 1048576 → ∀ (G : List Ob) (x0 : List V), At G shWorld x0 u0 → ∃ G', callW C 37 [valC shWorld x0] G = some (rV, G') ∧ Le G G')
  (hI : wt u0 ≤ 1048576 → ∀ (G : List Ob) (x0 : List V), At G shWorld x0 u0 → ∃ G', callW C 38 [valC shWorld x0] G = some (rV, G') ∧ Le G G')
  (hR : ∃ n, rV = .bool n) : Ret C 7 [valC shWorld c0] H fun r _ => r = .bool true := by
 obtain ⟨nR, rfl⟩ := hR
 rw [op7]
 obtain ⟨c0_0, c0_1, c0_2, c0_3, c0_4, c0_5, c0_6, c0_7, c0_8, c0_9, c0_10, c0_11, c0_12, c0_13, c0_14, c0_15, c0_16, rfl⟩ := list17 (At.len _ h0 : _ = 17)
 have on0 := ones_all h0
 simp only [List.mem_cons, List.not_mem_nil, or_false, forall_eq_or_imp, forall_eq] at on0
 simp only [valC, List.headD_cons]
 have b0 := amY H [c0_0, c0_1, c0_2, c0_3, c0_4, c0_5, c0_6, c0_7, c0_8, c0_9, c0_10, c0_11, c0_12, c0_13, c0_14, c0_15, c0_16] _ (1048576) h0 (by omega)
 simp only [valC, List.headD_cons] at b0
 by_cases g0 : wt u0 ≤ 1048576
 rotate_left
 ·rw [if_neg g0] at b0
  simp at b0
  simp [ary, Tryz.f7, on0, b0]
 rw [if_pos g0] at b0
 have hw0 : wt u0 ≤ 1048576 := by omega
 have p0 : ¬ (((1048576 - wt u0 : Nat) : Int) < 0) := by omega
 obtain ⟨LL0, hLL0⟩ : ∃ n, n = 1048576 - wt u0 := ⟨_, rfl⟩
 rw [← hLL0] at b0 p0
 have q0 : LL0 + wt u0 = 1048576 := by omega
 have L0 : Le H H := Le.refl
 obtain ⟨G1, y0, k1, s1, n1⟩ := toN ajb (h0.Le L0) hw0
 have l1 := s1.len
 have L1 := L0.trans s1
 obtain ⟨y0_0, y0_1, y0_2, y0_3, y0_4, y0_5, y0_6, y0_7, y0_8, y0_9, y0_10, y0_11, y0_12, y0_13, y0_14, y0_15, y0_16, rfl⟩ := list17 (At.len _ n1.at : _ = 17)
 have o1 := ones_all n1.at
 simp only [List.mem_cons, List.not_mem_nil, or_false, forall_eq_or_imp, forall_eq] at o1
 simp only [valC, List.headD_cons] at k1
 obtain ⟨G2, k2, s2⟩ := hS hw0 _ [y0_0, y0_1, y0_2, y0_3, y0_4, y0_5, y0_6, y0_7, y0_8, y0_9, y0_10, y0_11, y0_12, y0_13, y0_14, y0_15, y0_16] (n1.at.Le Le.refl)
 have l2 := s2.len
 have L2 := L1.trans s2
 simp only [valC, List.headD_cons] at k2
 obtain ⟨G3, z0, k3, s3, n3⟩ := toN ajb (h0.Le L2) hw0
 have l3 := s3.len
 have L3 := L2.trans s3
 obtain ⟨z0_0, z0_1, z0_2, z0_3, z0_4, z0_5, z0_6, z0_7, z0_8, z0_9, z0_10, z0_11, z0_12, z0_13, z0_14, z0_15, z0_16, rfl⟩ := list17 (At.len _ n3.at : _ = 17)
 have o3 := ones_all n3.at
 simp only [List.mem_cons, List.not_mem_nil, or_false, forall_eq_or_imp, forall_eq] at o3
 simp only [valC, List.headD_cons] at k3
 obtain ⟨G4, k4, s4⟩ := hI hw0 _ [z0_0, z0_1, z0_2, z0_3, z0_4, z0_5, z0_6, z0_7, z0_8, z0_9, z0_10, z0_11, z0_12, z0_13, z0_14, z0_15, z0_16] (n3.at.Le Le.refl)
 have l4 := s4.len
 have L4 := L3.trans s4
 simp only [valC, List.headD_cons] at k4
 obtain ⟨G5, v0, k5, s5, n5⟩ := toN ajb (h0.Le L4) hw0
 have l5 := s5.len
 have L5 := L4.trans s5
 obtain ⟨v0_0, v0_1, v0_2, v0_3, v0_4, v0_5, v0_6, v0_7, v0_8, v0_9, v0_10, v0_11, v0_12, v0_13, v0_14, v0_15, v0_16, rfl⟩ := list17 (At.len _ n5.at : _ = 17)
 have o5 := ones_all n5.at
 simp only [List.mem_cons, List.not_mem_nil, or_false, forall_eq_or_imp, forall_eq] at o5
 simp only [valC, List.headD_cons] at k5
 have k6 := eqN amZ (n3.at.Le (Le.trans s4 s5)) n5.at
 simp only [valC, List.headD_cons] at k6
 simp at b0
 simp (maxSteps := 2000000) [ary, Tryz.f7, on0, b0, p0, k1, o1, k2, k3, o3, k4, k5, o5, k6, regionL_none, regionL_some, List.lookup]
end Go.Proofs.Try1
end
section
namespace Go.Proofs.Try1
open Go Go.Lite
theorem lawIdle {H : List Ob} {vs : List V} {xs : List D} (h : IsArgs H [shWorld] vs xs) : ∃ H', callW C 7 vs H = some (.bool true, H') := by
 rcases vs with _ | ⟨v1, _ | ⟨v2, vs⟩⟩ <;> rcases xs with _ | ⟨d1, _ | ⟨d2, xs⟩⟩ <;> first | (exfalso; simp [IsArgs] at h; done) | skip
 obtain ⟨⟨cs1, e1, l1, i1⟩, _⟩ := h
 subst e1
 have h1 := Is.at _ i1
 obtain ⟨w, hw⟩ := world_typed h1
 rw [hw] at h1
 have key := akM (rV := .bool (dec (ah1 w ∧ ajg w))) h1
  (fun hw G x0 a0 => by
   obtain ⟨_, _, _, _, _, _, _, _, _, _, rfl, b⟩ := ai9 a0
   exact ⟨G, aue b (ai8 hw), .refl⟩)
  (fun hw G x0 a0 => by
   obtain ⟨_, _, _, _, _, _, _, _, _, _, rfl, b⟩ := ai9 a0
   exact ⟨G, auH b (ai8 hw), .refl⟩)
 obtain ⟨r, H', hc, rfl⟩ := key ⟨_, rfl⟩
 exact ⟨H', hc⟩
end Go.Proofs.Try1
end
