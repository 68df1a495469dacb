/- Part 15 of the proof of a law: the interpreter, its soundness, and what functions of the program compute over it. Conditions: none but those that each theorem names. -/
import Derived.Test.YtipjjjlomghdfaaGreatDoorU14
import Derived.Test.YtipjjjlomghdfaaGreatDoorU12
import Derived.Test.YtipjjjlomghdfaaGreatDoorU13
import Derived.Test.YtipjjjlomghdfaaGreatDoorU11
import Derived.Test.YtipjjjlomghdfaaGreatDoorU10
import Derived.Test.YtipjjjlomghdfaaGreatDoorU08

set_option linter.all false
set_option maxRecDepth 20000
set_option maxHeartbeats 40000000
section
namespace Go.Proofs.Try1
open Go Go.Lite
attribute [-simp] WP_region WP_cond
attribute [local simp] WP_regionF WP_condF ThenW_some ThenW_none CondW_true CondW_false
attribute [local simp low] CondW_bool
theorem Dp {H : List Ob} {w1 w2 : V} {e : PEntry} (h1 : ARdns H w1 e.dn) (h2 : AAttrs H w2 e.attrs) : callW C 191 [.agg [w1, w2]] H = some (.bool (dec (ZeroE e)), H) := by
 apply Ret.dec
 rw [H6]
 have o1 := h1.one
 have o2 := h2.one
 have n1 := h1.len (e := 202) (s := 1) (b := 24) (z := [.slc none 0])
 by_cases g1 : e.dn = [] <;> by_cases g2 : e.attrs = [] <;> simp [uH, Tryz.f191, o1, o2, h1.len, h2.len, g1, g2, ZeroE]
theorem Dn {H : List Ob} {w1 w2 : V} {e : PEntry} (h1 : ARdns H w1 e.dn) (h2 : AAttrs H w2 e.attrs) : callW C 277 [.agg [w1, w2]] H = some (.bool (dec (ZeroE e)), H) := by
 apply Ret.dec
 rw [FP]
 have o1 := h1.one
 have o2 := h2.one
 by_cases g1 : e.dn = [] <;> by_cases g2 : e.attrs = [] <;> simp [sH, Tryz.f277, o1, o2, h1.len, h2.len, g1, g2, ZeroE]
theorem kind2 {e : PEntry} : KindOk 2 e ↔ ZeroE e := ⟨fun h => h.2.1 rfl, fun h => ⟨by decide, fun _ => h, fun h => absurd rfl h⟩⟩
theorem qy {k : Int} {e : PEntry} (h : k ≠ 2) : KindOk k e ↔ (1 ≤ k ∧ k ≤ 4) ∧ EntryOk e := ⟨fun g => ⟨g.1, g.2.2 h⟩, fun g => ⟨g.1, fun e => absurd e h, fun _ => g.2⟩⟩
theorem wu {H : List Ob} {v w1 w2 : V} {k : Int} {dn : List PRdn} {e : PEntry} (hd : ARdns H v dn) (h1 : ARdns H w1 e.dn) (h2 : AAttrs H w2 e.attrs) :
  callW C 107 [.int .i64 k, v, .agg [w1, w2]] H = some (.bool (dec (dn ≠ [] ∧ DnOk dn ∧ KindOk k e)), H) := by
 apply Ret.dec
 rw [GY]
 have o0 := hd.one
 have o1 := h1.one
 have o2 := h2.one
 have c1 := Dt (n := k) (a := 1) (b := 4) (H := H)
 have c2 := Ag hd
 have c3 := Dp h1 h2
 have c4 := qE h1 h2
 by_cases g1 : 1 ≤ k ∧ k ≤ 4
 rotate_left
 ·rw [dec_neg g1] at c1
  simp [bP, Tryz.f107, o0, o1, o2, c1]
  exact fun _ _ h => g1 h.1
 rw [dec_pos g1] at c1
 by_cases g2 : dn = []
 ·simp [bP, Tryz.f107, o0, o1, o2, c1, hd.len, g2]
 by_cases g3 : DnOk dn
 rotate_left
 ·rw [dec_neg g3] at c2
  simp [bP, Tryz.f107, o0, o1, o2, c1, c2, hd.len, g2, g3]
 rw [dec_pos g3] at c2
 by_cases g4 : k = 2
 ·subst g4
  by_cases g5 : ZeroE e
  ·rw [dec_pos g5] at c3
   simp [bP, Tryz.f107, o0, o1, o2, c1, c2, c3, hd.len, g2, g3, kind2, g5]
  ·rw [dec_neg g5] at c3
   simp [bP, Tryz.f107, o0, o1, o2, c1, c2, c3, hd.len, g2, g3, kind2, g5]
 ·by_cases g5 : EntryOk e
  ·rw [dec_pos g5] at c4
   simp [bP, Tryz.f107, o0, o1, o2, c1, c2, c4, hd.len, g2, g3, g4, qy g4, g1, g5]
  ·rw [dec_neg g5] at c4
   simp [bP, Tryz.f107, o0, o1, o2, c1, c2, c4, hd.len, g2, g3, g4, qy g4, g1, g5]
theorem DU {H : List Ob} {w1 w2 : V} {k : Int} {e : PEntry} (h1 : ARdns H w1 e.dn) (h2 : AAttrs H w2 e.attrs) :
  callW C 206 [.int .i64 k, .agg [w1, w2]] H = some (.bool (dec (KindOk k e)), H) := by
 apply Ret.dec
 rw [Gu]
 have o1 := h1.one
 have o2 := h2.one
 have c1 := fU (n := k) (a := 1) (b := 4) (H := H)
 have c3 := Dn h1 h2
 have c4 := tZ h1 h2
 by_cases g4 : k = 2
 ·subst g4
  by_cases g5 : ZeroE e
  ·rw [dec_pos g5] at c3
   simp [dO, Tryz.f206, o1, o2, c3, kind2, g5]
  ·rw [dec_neg g5] at c3
   simp [dO, Tryz.f206, o1, o2, c3, kind2, g5]
 by_cases g1 : 1 ≤ k ∧ k ≤ 4
 rotate_left
 ·rw [dec_neg g1] at c1
  simp [dO, Tryz.f206, o1, o2, c1, g4]
  exact fun h => g1 h.1
 rw [dec_pos g1] at c1
 by_cases g5 : EntryOk e
 ·rw [dec_pos g5] at c4
  simp [dO, Tryz.f206, o1, o2, c1, c4, g4, qy g4, g1, g5]
 ·rw [dec_neg g5] at c4
  simp [dO, Tryz.f206, o1, o2, c1, c4, g4, qy g4, g1, g5]
theorem pF {t : Str} (h : ReadOk t) : t.length ≤ 612 := by
 have := txt_len h.1
 rwa [h.2] at this
theorem oz {t : Str} {H : List Ob} (hl : t.length ≤ 2000000) : callW C 205 [.str t] H = some (.bool (dec (ReadOk t ∧ readS t ≠ [])), H) := by
 apply Ret.dec
 rw [Et]
 obtain ⟨q, H', c1, T, w, dn, rfl, rfl, hn, hd⟩ := wI (t := t) (H := H) hl
 have ow := New.one1 hn
 have hw : ARdns (H ++ T) w dn := hn.at
 have hgb : ∀ b, gcH H (H ++ T) (.bool b) = H := fun b => gcH_bool
 by_cases g1 : ReadOk t
 ·rw [dec_pos g1] at c1
  have e := hd g1
  subst e
  have g2 : (t.length : Int) ≤ 8000 := by have := pF g1; omega
  by_cases g3 : readS t = []
  ·simp [fC, Tryz.f205, c1, ow, hw.len, g2, g3, hgb]
  ·have g3' : 0 < (readS t).length := List.length_pos_iff.2 g3
   simp [fC, Tryz.f205, c1, ow, hw.len, g1, g2, g3, g3', hgb]
 ·rw [dec_neg g1] at c1
  by_cases g2 : (t.length : Int) ≤ 8000
  ·simp [fC, Tryz.f205, c1, ow, hw.len, g1, g2, hgb]
  ·simp [fC, Tryz.f205, c1, ow, hw.len, g1, g2, hgb]
theorem zf {H : List Ob} {w1 w2 : V} {x : PChange} (h1 : ARdns H w1 x.entry.dn) (h2 : AAttrs H w2 x.entry.attrs) (hl : x.dn.length ≤ 2000000) :
  callW C 120 [.agg [.int .i64 x.number, .int .i64 x.kind, .str x.dn, w1, w2]] H = some (.bool (dec (ChangeOk x)), H) := by
 apply Ret.dec
 rw [Iq]
 have o1 := h1.one
 have o2 := h2.one
 have c1 := oz (t := x.dn) (H := H) hl
 have c2 := DU (k := x.kind) h1 h2
 by_cases g1 : ReadOk x.dn ∧ readS x.dn ≠ []
 rotate_left
 ·rw [dec_neg g1] at c1
  simp [iq, Tryz.f120, o1, o2, c1]
  exact fun h => g1 ⟨h.1, h.2.1⟩
 rw [dec_pos g1] at c1
 by_cases g2 : KindOk x.kind x.entry
 ·rw [dec_pos g2] at c2
  have hy : ChangeOk x := ⟨g1.1, g1.2, g2⟩
  simp [iq, Tryz.f120, o1, o2, c1, c2, hy]
 ·rw [dec_neg g2] at c2
  have hn : ¬ ChangeOk x := fun h => g2 h.2.2
  simp [iq, Tryz.f120, o1, o2, c1, c2, hn]
theorem DD {H : List Ob} {w1 w2 : V} {x : PRule} (h1 : ARdns H w1 x.base) (h2 : AStrs H w2 x.attrs) : callW C 105 [.agg [.str x.who, w1, w2, .int .i64 x.right, .bool x.allow]] H = some (.bool (dec (RuleOk x)), H) := by
 apply Ret.dec
 rw [FB]
 have o1 := h1.one
 have o2 := h2.one
 have c1 := dZ (t := x.who) (H := H)
 have c2 := Ag h1
 have c3 := iJ h2
 have c4 := Dt (n := x.right) (a := 1) (b := 4) (H := H)
 have key : ∀ b : Bool, (b = true ↔ (x.who = [42] ∨ NameOk x.who)) → ((x.who = [42] ∧ b = true) ∨ (¬ x.who = [42] ∧ b = dec (NameOk x.who))) := fun b hb => by
  by_cases h : x.who = [42]
  ·exact .inl ⟨h, hb.2 (.inl h)⟩
  ·refine .inr ⟨h, ?_⟩
   cases b with
   | true => rw [dec_pos ((hb.1 rfl).resolve_left h)]
   | false => rw [dec_neg fun g => by have := hb.2 (.inr g); cases this]
 by_cases g1 : x.who = [42] ∨ NameOk x.who
 rotate_left
 ·have g0 : ¬ x.who = [42] := fun h => g1 (.inl h)
  rw [dec_neg fun h => g1 (.inr h)] at c1
  simp [aJ, Tryz.f105, o1, o2, c1, g0]
  exact fun h => g1 h.1
 by_cases g2 : DnOk x.base
 rotate_left
 ·rw [dec_neg g2] at c2
  have hn : ¬ RuleOk x := fun h => g2 h.2.1
  rcases key true (by simp [g1]) with ⟨k1, _⟩ | ⟨k1, k2⟩
  ·simp [aJ, Tryz.f105, o1, o2, k1, c2, hn]
  ·rw [← k2] at c1
   simp [aJ, Tryz.f105, o1, o2, k1, c1, c2, hn]
 rw [dec_pos g2] at c2
 by_cases g3 : x.attrs.length ≤ 8
 rotate_left
 ·have g3' : ¬ (x.attrs.length : Int) ≤ 8 := by omega
  have hn : ¬ RuleOk x := fun h => g3 h.2.2.1
  rcases key true (by simp [g1]) with ⟨k1, _⟩ | ⟨k1, k2⟩
  ·simp [aJ, Tryz.f105, o1, o2, k1, c2, h2.len, g3', hn]
  ·rw [← k2] at c1
   simp [aJ, Tryz.f105, o1, o2, k1, c1, c2, h2.len, g3', hn]
 have g3' : (x.attrs.length : Int) ≤ 8 := by omega
 by_cases g4 : NamesOk x.attrs
 rotate_left
 ·rw [dec_neg g4] at c3
  have hn : ¬ RuleOk x := fun h => g4 h.2.2.2.1
  rcases key true (by simp [g1]) with ⟨k1, _⟩ | ⟨k1, k2⟩
  ·simp [aJ, Tryz.f105, o1, o2, k1, c2, c3, h2.len, g3', hn]
  ·rw [← k2] at c1
   simp [aJ, Tryz.f105, o1, o2, k1, c1, c2, c3, h2.len, g3', hn]
 rw [dec_pos g4] at c3
 by_cases g5 : 1 ≤ x.right ∧ x.right ≤ 4
 rotate_left
 ·rw [dec_neg g5] at c4
  have hn : ¬ RuleOk x := fun h => g5 h.2.2.2.2
  rcases key true (by simp [g1]) with ⟨k1, _⟩ | ⟨k1, k2⟩
  ·simp [aJ, Tryz.f105, o1, o2, k1, c2, c3, c4, h2.len, g3', hn]
  ·rw [← k2] at c1
   simp [aJ, Tryz.f105, o1, o2, k1, c1, c2, c3, c4, h2.len, g3', hn]
 rw [dec_pos g5] at c4
 have hy : RuleOk x := ⟨g1, g2, g3, g4, g5⟩
 rcases key true (by simp [g1]) with ⟨k1, _⟩ | ⟨k1, k2⟩
 ·simp [aJ, Tryz.f105, o1, o2, k1, c2, c3, c4, h2.len, g3', hy]
 ·rw [← k2] at c1
  simp [aJ, Tryz.f105, o1, o2, k1, c1, c2, c3, c4, h2.len, g3', hy]
theorem oG {H : List Ob} {v : V} {l : List PRule} (h : ARules H v l) : callW C 42 [v] H = some (.bool (dec (AclOk l)), H) := by
 apply Ret.dec
 rw [Qh]
 have hb : l.length ≤ 9223372036854775807 := h.bound
 simp [xB, Tryz.f42]
 refine WP_loop (fun k σ => ∃ (i : Nat) (r : Nat → R), i + k = l.length ∧ σ = ⟨r, 0, H⟩ ∧ r 0 = .val v ∧ r 3 = .val (.int .i64 i) ∧ ∀ (j : Nat) x, j < i → l[j]? = some x → RuleOk x) ?_ l.length _ ⟨0, _, by simp, rfl, by simp, by simp, by simp⟩
 rintro k σ ⟨i, r, hik, rfl, r0, r3, hall⟩
 cases k with
 | zero =>
  have hi : i = l.length := by omega
  subst hi
  have hx := at_all (P := fun j (x : PRule) => RuleOk x) hall
  have hA : AclOk l ↔ (l.length : Int) ≤ 10 := ⟨fun h => by have := h.2; omega, fun h => ⟨fun x hm => by
   obtain ⟨j, hj, rfl⟩ := List.getElem_of_mem hm
   exact hx j _ (List.getElem?_eq_getElem hj), by omega⟩⟩
  by_cases g : (l.length : Int) ≤ 10 <;> simp [r0, r3, h.len, hA, g]
 | succ k =>
  have hi : i < l.length := by omega
  obtain ⟨x, hx⟩ : ∃ c, l[i]? = some c := ⟨l[i], by simp [hi]⟩
  have hw : IntKind.i64.wrap ((i : Int) + 1) = ((i : Int) + 1) := wrap_i64 (by omega) (by omega)
  obtain ⟨id, o, w1, w2, hid, e1, lm, a1, a2⟩ := rules_idx h hx
  have o1 := a1.one
  have o2 := a2.one
  have c1 := DD a1 a2
  by_cases g : RuleOk x
  ·rw [dec_pos g] at c1
   simp [r0, r3, hi, h.len, hid, e1, lm, o1, o2, c1, hw]
   exact ⟨k, by omega, i + 1, by omega, by omega, at_step (P := fun j (x : PRule) => RuleOk x) hall hx g⟩
  ·rw [dec_neg g] at c1
   simp [r0, r3, hi, h.len, hid, e1, lm, o1, o2, c1, hw]
   exact fun h => g (h.1 x (List.mem_of_getElem? hx))
theorem dG {H : List Ob} {v : V} {n : Int} {l : List PChange} (h : AChanges H v l) (hs : ∀ x ∈ l, x.dn.length ≤ 2000000) : callW C 43 [.agg [.int .i64 n, v]] H = some (.bool (dec (ChangesOk n l)), H) := by
 apply Ret.dec
 rw [OO]
 have ov := h.one
 have c1 := Dt (n := n) (a := 1) (b := 1000000) (H := H)
 by_cases g1 : 1 ≤ n ∧ n ≤ 1000000
 rotate_left
 ·rw [dec_neg g1] at c1
  simp [kQ, Tryz.f43, ov, c1]
  exact fun h => g1 h.1
 rw [dec_pos g1] at c1
 by_cases g2 : l.length ≤ 40
 rotate_left
 ·have g2' : (40 : Int) < l.length := by omega
  simp [kQ, Tryz.f43, ov, c1, h.len, g2']
  exact fun h => g2 h.2.1
 have g2' : ¬ (40 : Int) < l.length := by omega
 simp [kQ, Tryz.f43, ov, c1, h.len, g2']
 refine WP_loop (fun k σ => ∃ (i : Nat) (r : Nat → R) (T : List Ob), i + k = l.length ∧ σ = ⟨r, 1 + i, H ++ T⟩ ∧ r 1 = .box 0 [.int .i64 n, v] ∧ r 3 = .val (.int .i64 i) ∧ ∀ (j : Nat) x, j < i → l[j]? = some x → ChangeOk x ∧ x.number = n - l.length + j ∧ 1 ≤ x.number) ?_ l.length _ ⟨0, _, [], by simp, by simp; rfl, by simp, by simp, by simp⟩
 rintro k σ ⟨i, r, T, hik, rfl, r1, r3, hall⟩
 have hT : AChanges (H ++ T) v l := h.ext
 have hgb : ∀ b, gcH H (H ++ T) (.bool b) = H := fun b => gcH_bool
 cases k with
 | zero =>
  have hi : i = l.length := by omega
  subst hi
  have hx := at_all (P := fun j (x : PChange) => ChangeOk x ∧ x.number = n - l.length + j ∧ 1 ≤ x.number) hall
  have hA : ChangesOk n l := ⟨g1, g2, by
   by_cases h0 : l.length = 0
   ·omega
   ·have hl0 : l[0]? = some l[0] := List.getElem?_eq_getElem (by omega)
    have := hx 0 _ hl0
    omega, fun i x hi => ⟨(hx i x hi).1, (hx i x hi).2.1⟩⟩
  simp [r1, r3, hT.len, ov, hA, hgb]
 | succ k =>
  have hi : i < l.length := by omega
  obtain ⟨x, hx⟩ : ∃ c, l[i]? = some c := ⟨l[i], by simp [hi]⟩
  have hw : IntKind.i64.wrap ((i : Int) + 1) = ((i : Int) + 1) := wrap_i64 (by omega) (by omega)
  have hw1 : IntKind.i64.wrap ((l.length : Int) - i) = (l.length : Int) - i := wrap_i64 (by omega) (by omega)
  have hw2 : IntKind.i64.wrap (n - ((l.length : Int) - i)) = n - ((l.length : Int) - i) := wrap_i64 (by omega) (by omega)
  obtain ⟨id, o, w1, w2, hid, e1, lm, a1, a2, _⟩ := changes_idx hT hx
  have hid' : id < H.length + T.length := by simpa using hid
  have o1 := a1.one
  have o2 := a2.one
  obtain ⟨q, G, c2, T2, w, dn, rfl, rfl, hn, hd⟩ := Dj (t := x.dn) (H := H ++ T) (hs x (List.mem_of_getElem? hx))
  have ow := New.one1 hn
  have hat : ARdns (H ++ T ++ T2) w dn := hn.at
  have hlen2 : ∀ (e s b : Nat) (z : List V), lenV ⟨.slice e, s, b, z⟩ v = some (.int .i64 l.length) := fun e s b z => h.len
  have c3 := wu (k := x.kind) hat a1.ext a2.ext
  simp only [List.append_assoc] at c2 c3
  have hgb2 : ∀ b, gcH H (H ++ (T ++ T2)) (.bool b) = H := fun b => gcH_bool
  by_cases g3 : ReadOk x.dn
  rotate_left
  ·rw [dec_neg g3] at c2
   simp [r1, r3, hi, hT.len, hlen2, hid', e1, lm, o1, o2, ov, ow, c2, hw, hgb2, strideOf, fillL, zerosL, St.new]
   exact fun h => g3 (h.2.2.2 i x hx).1.1
  rw [dec_pos g3] at c2
  obtain rfl := hd g3
  by_cases g4 : readS x.dn ≠ [] ∧ DnOk (readS x.dn) ∧ KindOk x.kind x.entry
  rotate_left
  ·rw [dec_neg g4] at c3
   simp [r1, r3, hi, hT.len, hlen2, hid', e1, lm, o1, o2, ov, ow, c2, c3, hw, hgb2, strideOf, fillL, zerosL, St.new]
   exact fun h => g4 ⟨(h.2.2.2 i x hx).1.2.1, g3.1, (h.2.2.2 i x hx).1.2.2⟩
  rw [dec_pos g4] at c3
  have gc : ChangeOk x := ⟨g3, g4.1, g4.2.2⟩
  by_cases g5 : x.number < 1
  ·simp [r1, r3, hi, hT.len, hlen2, hid', e1, lm, o1, o2, ov, ow, c2, c3, g5, hw, hgb2, strideOf, fillL, zerosL, St.new]
   exact fun h => by have := (h.2.2.2 i x hx).2; have := h.2.2.1; omega
  obtain ⟨nn, hnn⟩ : ∃ nn, nn = n - ((l.length : Int) - i) := ⟨_, rfl⟩
  replace hw2 := hw2.trans hnn.symm
  by_cases g6 : x.number = nn
  ·have g5 : ¬ nn < 1 := by omega
   simp [r1, r3, hi, hT.len, hlen2, hid', e1, lm, o1, o2, ov, ow, c2, c3, g5, g6, hw, hw1, hw2, strideOf, fillL, zerosL, St.new]
   exact ⟨k, by omega, i + 1, by omega, _, ⟨rfl, by omega⟩, by simp [r1], by simp, at_step (P := fun j (x : PChange) => ChangeOk x ∧ x.number = n - l.length + j ∧ 1 ≤ x.number) hall hx ⟨gc, by omega, by omega⟩⟩
  ·simp [r1, r3, hi, hT.len, hlen2, hid', e1, lm, o1, o2, ov, ow, c2, c3, g5, g6, hw, hw1, hw2, hgb2, strideOf, fillL, zerosL, St.new]
   exact fun h => by have := (h.2.2.2 i x hx).2; omega
theorem jI {H : List Ob} {vs ve va vl : V} {s : PServer} (hs : AClasses H vs s.tree.schema) (he : AEntries H ve s.tree.entries) (ha : ARules H va s.acl) (hl : AChanges H vl s.list) (hb : ∀ x ∈ s.list, x.dn.length ≤ 2000000) :
  callW C 9 [.agg [vs, ve, va, .int .i64 s.next, vl, .str s.who]] H = some (.bool (dec (ServerOk s)), H) := by
 apply Ret.dec
 rw [op9]
 have o1 := hs.one
 have o2 := he.one
 have o3 := ha.one
 have o4 := hl.one
 have c1 := mM hs he
 have c2 := oG ha
 have c3 := dG (n := s.next) hl hb
 have c4 := dZ (t := s.who) (H := H)
 by_cases g1 : TreeOk s.tree
 rotate_left
 ·rw [dec_neg g1] at c1
  simp [kD, Tryz.f9, o1, o2, o3, o4, c1]
  exact fun h => g1 h.1
 rw [dec_pos g1] at c1
 by_cases g2 : AclOk s.acl
 rotate_left
 ·rw [dec_neg g2] at c2
  simp [kD, Tryz.f9, o1, o2, o3, o4, c1, c2]
  exact fun h => g2 h.2.1
 rw [dec_pos g2] at c2
 by_cases g3 : ChangesOk s.next s.list
 rotate_left
 ·rw [dec_neg g3] at c3
  simp [kD, Tryz.f9, o1, o2, o3, o4, c1, c2, c3]
  exact fun h => g3 h.2.2.1
 rw [dec_pos g3] at c3
 by_cases g4 : NameOk s.who
 ·rw [dec_pos g4] at c4
  have hy : ServerOk s := ⟨g1, g2, g3, g4⟩
  simp [kD, Tryz.f9, o1, o2, o3, o4, c1, c2, c3, c4, hy]
 ·rw [dec_neg g4] at c4
  have hn : ¬ ServerOk s := fun h => g4 h.2.2.2
  simp [kD, Tryz.f9, o1, o2, o3, o4, c1, c2, c3, c4, hn]
end Go.Proofs.Try1
end
section
namespace Go.Proofs.Try1
open Go Go.Lite
abbrev dF : Sh := .st [.int .i64, .int .i64, .slice shEntry]
abbrev ai : Sh := .st [shServer, dF, .int .i64]
def ak (l : List PChange) (b : Int) : List PChange := l.filter fun x => decide (b ≤ x.number)
def yJ (s : PServer) : U := .st [s.u, .st [.int 0, .int 0, .lst []], .int 0]
def Dq : U := .st [PServer.u ⟨⟨[], []⟩, [], 0, [], []⟩, .st [.int 0, .int 0, .lst []], .int 1]
open Classical in
noncomputable def aC (s : PServer) (b : Int) : U := if ServerOk s then yJ { s with list := ak s.list b } else Dq
theorem vW {n b : Int} {l : List PChange} {j : Nat} (hok : ChangesOk n l) (h1 : ∀ x ∈ l.take j, x.number < b) (h2 : ∀ x, l[j]? = some x → b ≤ x.number) : ak l b = l.drop j := by
 unfold ak
 have e : l.filter (fun x => decide (b ≤ x.number)) = (l.take j ++ l.drop j).filter (fun x => decide (b ≤ x.number)) := by rw [List.take_append_drop]
 rw [e, List.filter_append]
 have e1 : (l.take j).filter (fun x => decide (b ≤ x.number)) = [] := List.filter_eq_nil_iff.2 fun x hx => by
  have := h1 x hx
  simp; omega
 have e2 : (l.drop j).filter (fun x => decide (b ≤ x.number)) = l.drop j := List.filter_eq_self.2 fun x hx => by
  obtain ⟨t, ht'⟩ := List.mem_iff_getElem?.1 hx
  rw [List.getElem?_drop] at ht'
  have k1 := (hok.2.2.2 _ _ ht').2
  have hj : j < l.length := by have := (List.getElem?_eq_some_iff.1 ht').1; omega
  have k2 := (hok.2.2.2 j l[j] (List.getElem?_eq_getElem hj)).2
  have k3 := h2 l[j] (List.getElem?_eq_getElem hj)
  simp
  omega
 rw [e1, e2, List.nil_append]
theorem jo {H : List Ob} {b m1 m2 e : Nat} {vs ve va vl : V} {s : PServer} (h1 : New b m1 H shTree [vs, ve] s.tree.u) (h2 : New m1 m2 H (.slice shRule) [va] (.lst (s.acl.map PRule.u))) (hn : (Lit.int .i64 s.next).wf = true)
  (h3 : New m2 e H (.slice shChange) [vl] (.lst (s.list.map PChange.u))) (hw : s.who.length ≤ maxLen) (l1 : b ≤ m1) (l2 : m1 ≤ m2) (l3 : m2 ≤ e) : New b e H shServer [vs, ve, va, .int .i64 s.next, vl, .str s.who] s.u :=
 New.st (News.cons (m := m1) (c1 := [vs, ve]) h1 (News.cons (m := m2) (c1 := [va]) h2 (News.cons (m := e) (c1 := [.int .i64 s.next, vl]) (New.st (News.int hn (News.one h3 l3))) (News.str hw News.nil) l3 (Nat.le_refl _)) l2 l3) l1 (by omega))
theorem gI {H : List Ob} {b m e : Nat} {vs ve va vl wl : V} {s : PServer} {l : List PChange} (h : New b m H shServer [vs, ve, va, .int .i64 s.next, vl, .str s.who] s.u) (h3 : New m e H (.slice shChange) [wl] (.lst (l.map PChange.u))) (hbm : b ≤ m) (hme : m ≤ e) :
  New b e H shServer [vs, ve, va, .int .i64 s.next, wl, .str s.who] (PServer.u { s with list := l }) := by
 have hat := server_at.1 h.at
 obtain ⟨_, _, _, _, hcs, q1, q2, q3, q4, q5, q6⟩ := hat
 cases hcs
 obtain ⟨F, f1, f2, f3⟩ := h
 obtain ⟨us, hu, f1⟩ := AtF_st.1 f1
 cases hu
 obtain ⟨c1, r1, u1, us1, F1, R1, hc1, hu, hF, a1, f1⟩ := AtsF_cons.1 f1
 cases hu
 obtain ⟨c2, r2, u2, us2, F2, R2, hc2, hu, hF2, a2, f1⟩ := AtsF_cons.1 f1
 cases hu
 have l1 := At.len _ (AtF.at _ a1)
 obtain ⟨x1, x2, rfl⟩ : ∃ x1 x2, c1 = [x1, x2] := by
  rcases c1 with _ | ⟨x1, _ | ⟨x2, _ | ⟨x3, c1⟩⟩⟩ <;> simp [Sh.size] at l1
  exact ⟨x1, x2, rfl⟩
 obtain ⟨v, _, rfl, _, _⟩ := AtF_slice.1 a2
 simp only [List.cons_append, List.nil_append, List.cons.injEq] at hc1 hc2
 obtain ⟨rfl, rfl, hc1⟩ := hc1
 subst hc1
 simp only [List.cons.injEq] at hc2
 obtain ⟨rfl, _⟩ := hc2
 subst hF hF2
 have d1 := List.nodup_append.1 f2
 have d2 := List.nodup_append.1 d1.2.1
 obtain ⟨F', g1, g2, g3⟩ := h3
 refine ⟨F1 ++ (F2 ++ (F' ++ [])), AtF_st.2 ⟨_, rfl, AtsF_cons.2 ⟨[vs, ve], _, _, _, F1, _, rfl, rfl, rfl, a1, AtsF_cons.2 ⟨[va], _, _, _, F2, _, rfl, rfl, rfl, a2, AtsF_cons.2 ⟨[.int .i64 s.next, wl], [.str s.who], _, _, F', [], rfl, rfl, rfl, ?_, ?_⟩⟩⟩⟩, ?_, ?_⟩
 ·exact AtF_st.2 ⟨_, rfl, AtsF_cons.2 ⟨[.int .i64 s.next], [wl], _, _, [], F', rfl, rfl, rfl, AtF_int.2 ⟨⟨_, rfl, rfl, q4⟩, rfl⟩, AtsF_cons.2 ⟨[wl], [], _, _, F', [], rfl, rfl, by simp, g1, AtsF_nil.2 ⟨rfl, rfl, rfl⟩⟩⟩⟩
 ·exact AtsF_cons.2 ⟨[.str s.who], [], _, _, [], [], rfl, rfl, rfl, AtF_str.2 ⟨⟨_, rfl, rfl, q6⟩, rfl⟩, AtsF_nil.2 ⟨rfl, rfl, rfl⟩⟩
 ·rw [List.append_nil]
  have hlow : ∀ q ∈ F1 ++ F2, q < m := fun q hq => (f3 q (by rcases List.mem_append.1 hq with hq | hq <;> simp [hq])).2
  rw [← List.append_assoc]
  refine List.nodup_append.2 ⟨List.nodup_append.2 ⟨d1.1, d2.1, fun x hx y hy => d1.2.2 x hx y (List.mem_append_left _ hy)⟩, g2, fun x hx y hy hxy => ?_⟩
  have := hlow x hx
  have := (g3 y hy).1
  omega
 ·intro q hq
  rw [List.append_nil] at hq
  rcases List.mem_append.1 hq with hq | hq
  ·have := f3 q (List.mem_append_left _ hq); omega
  ·rcases List.mem_append.1 hq with hq | hq
   ·have := f3 q (List.mem_append_right _ (List.mem_append_left _ hq)); omega
   ·have := g3 q hq; omega
theorem uz {H : List Ob} {vl : V} {n : Int} {l : List PChange} (h : AChanges H vl l) (hb : dX l) :
  ∃ T w, callW C 162 [.agg [.int .i64 n, vl]] H = some (.agg [.int .i64 n, w], H ++ T) ∧ New H.length (H ++ T).length (H ++ T) (.slice shChange) [w] (.lst (l.map PChange.u)) := by
 suffices hs : Ret C 162 [.agg [.int .i64 n, vl]] H fun q H' => ∃ T w, q = .agg [.int .i64 n, w] ∧ H' = H ++ T ∧ New H.length (H ++ T).length (H ++ T) (.slice shChange) [w] (.lst (l.map PChange.u)) by
  obtain ⟨q, H', hc, T, w, rfl, rfl, hr⟩ := hs
  exact ⟨T, w, hc, hr⟩
 rw [Il]
 have ol := h.one
 obtain ⟨T1, w, c1, n1⟩ := zQ h hb
 have ow := New.one1 n1
 obtain ⟨T', hg, hn⟩ := n1.gc (v := .agg [.int .i64 n, w]) (by simp [lowV, lowVs])
 simp [rC, Tryz.f162, ol, ow, c1, fillL, zerosL, buildV, structPlace, hg, regionL_none, regionL_some, List.lookup]
 simpa using hn
theorem zY {H : List Ob} {vs ve va vl : V} {s : PServer} (hs : AClasses H vs s.tree.schema) (he : AEntries H ve s.tree.entries) (ha : ARules H va s.acl) (hl : AChanges H vl s.list) (hn : (Lit.int .i64 s.next).wf = true) (hw : s.who.length ≤ maxLen) (hb : ja s) :
  ∃ T ws we wa wl, callW C 79 [.agg [vs, ve, va, .int .i64 s.next, vl, .str s.who]] H = some (.agg [ws, we, wa, .int .i64 s.next, wl, .str s.who], H ++ T) ∧ New H.length (H ++ T).length (H ++ T) shServer [ws, we, wa, .int .i64 s.next, wl, .str s.who] s.u := by
 suffices hs : Ret C 79 [.agg [vs, ve, va, .int .i64 s.next, vl, .str s.who]] H fun q H' => ∃ T ws we wa wl, q = .agg [ws, we, wa, .int .i64 s.next, wl, .str s.who] ∧ H' = H ++ T ∧ New H.length (H ++ T).length (H ++ T) shServer [ws, we, wa, .int .i64 s.next, wl, .str s.who] s.u by
  obtain ⟨q, H', hc, T, ws, we, wa, wl, rfl, rfl, hr⟩ := hs
  exact ⟨T, ws, we, wa, wl, hc, hr⟩
 rw [PU]
 have o1 := hs.one
 have o2 := he.one
 have o3 := ha.one
 have o4 := hl.one
 obtain ⟨T1, ws, we, c1, n1⟩ := zT hs he hb.1
 obtain ⟨A, hA⟩ : ∃ A, A = H ++ T1 := ⟨_, rfl⟩
 rw [← hA] at n1 c1
 obtain ⟨T2, wa, c2, n2⟩ := wz (H := A) (by rw [hA]; exact ha.ext) hb.2.1
 obtain ⟨B, hB⟩ : ∃ B, B = A ++ T2 := ⟨_, rfl⟩
 rw [← hB] at n2 c2
 obtain ⟨T3, wl, c3, n3⟩ := uz (H := B) (n := s.next) (by rw [hB, hA]; exact hl.ext.ext) hb.2.2
 obtain ⟨_, _, hcs, hd1, hd2⟩ := tree_at.1 n1.at
 cases hcs
 have p1 := hd1.one
 have p2 := hd2.one
 have p3 := New.one1 n2
 have p4 := New.one1 n3
 have hne : New H.length (B ++ T3).length (B ++ T3) shServer [ws, we, wa, .int .i64 s.next, wl, .str s.who] s.u := by
  refine jo (m1 := A.length) (m2 := B.length) ?_ n2.ext hn n3 hw (by rw [hA]; simp) (by rw [hB]; simp) (by simp)
  rw [hB, List.append_assoc]; exact n1.ext
 have hGH : B ++ T3 = H ++ (T1 ++ T2 ++ T3) := by rw [hB, hA]; simp
 rw [hGH] at hne
 obtain ⟨T', hg, hn'⟩ := hne.gcA
 rw [← hGH] at hg
 simp [wQ, Tryz.f79, o1, o2, o3, o4, p1, p2, p3, p4, c1, c2, c3, fillL, zerosL, buildV, structPlace, hg, regionL_none, regionL_some, List.lookup]
 exact ⟨T', ws, we, wa, wl, ⟨rfl, rfl, rfl, rfl⟩, rfl, by simpa using hn'⟩
theorem jD {H : List Ob} {vl : V} {n b : Int} {l : List PChange} (h : AChanges H vl l) (hb : dX l) (hs : ∀ x ∈ l, x.dn.length ≤ 2000000) (hok : ChangesOk n l) :
  ∃ T w, callW C 80 [.agg [.int .i64 n, vl], .int .i64 b] H = some (.agg [.int .i64 n, w, .slc none 0, .int .i64 0], H ++ T) ∧ New H.length (H ++ T).length (H ++ T) (.slice shChange) [w] (.lst ((ak l b).map PChange.u)) := by
 suffices hs : Ret C 80 [.agg [.int .i64 n, vl], .int .i64 b] H fun q H' => ∃ T w, q = .agg [.int .i64 n, w, .slc none 0, .int .i64 0] ∧ H' = H ++ T ∧ New H.length (H ++ T).length (H ++ T) (.slice shChange) [w] (.lst ((ak l b).map PChange.u)) by
  obtain ⟨q, H', hc, T, w, rfl, rfl, hr⟩ := hs
  exact ⟨T, w, hc, hr⟩
 rw [Qy]
 have ol := h.one
 have c0 := dG (n := n) h hs
 rw [dec_pos hok] at c0
 obtain ⟨T1, w, c1, n1⟩ := uz (n := n) h hb
 have ow := New.one1 n1
 obtain ⟨G, hG⟩ : ∃ G, G = H ++ T1 := ⟨_, rfl⟩
 rw [← hG] at n1 c1
 simp [yA, Tryz.f80, ol, ow, c0, c1, fillL, zerosL, buildV, structPlace, regionL_none, regionL_some, List.lookup]
 refine WP_loop (fun k σ => ∃ (j : Nat) (r : Nat → R) (w : V), j + k = l.length ∧ σ = ⟨r, 3, G⟩ ∧ r 1 = .val (.int .i64 b) ∧ r 4 = .box 1 [.int .i64 0, .slc none 0, .slc none 0, .int .i64 0] ∧ r 5 = .box 2 [.int .i64 n, w] ∧ New H.length G.length G (.slice shChange) [w] (.lst ((l.drop j).map PChange.u)) ∧ ∀ x ∈ l.take j, x.number < b) ?_ l.length _ ⟨0, _, w, by simp, rfl, by simp, by simp, by simp, by simpa using n1, by simp⟩
 rintro k σ ⟨j, r, w, hjk, rfl, r1, r4, r5, hN, hlt⟩
 have ow := New.one1 hN
 have hA : AChanges G w (l.drop j) := hN.at
 have hll := fun {e s b : Nat} {z : List V} => hA.len (e := e) (s := s) (b := b) (z := z)
 simp only [List.length_drop] at hll
 by_cases hend : ∀ x, l[j]? = some x → b ≤ x.number
 ·rw [← vW hok hlt hend] at hN
  obtain ⟨T', hg, hn⟩ := (show New H.length G.length (H ++ T1) (.slice shChange) [w] _ by rw [← hG]; exact hN).gc (v := .agg [.int .i64 n, w, .slc none 0, .int .i64 0]) (by simp [lowV, lowVs])
  rw [← hG] at hg
  cases k with
  | zero =>
   have hj : j = l.length := by omega
   have hz : ((l.length - j : Nat) : Int) = 0 := by omega
   simp [r1, r4, r5, ow, hll, hz, hg, buildV, structPlace, fillL]
   simpa using hn
  | succ k =>
   have hj : j < l.length := by omega
   obtain ⟨x, hx⟩ : ∃ c, l[j]? = some c := ⟨l[j], by simp [hj]⟩
   have hge := hend x hx
   have hx0 : (l.drop j)[0]? = some x := by rw [List.getElem?_drop]; simpa using hx
   obtain ⟨id, o, own, cells, e1, e2, e3, e4⟩ := ASl.idx hA hx0 (by decide)
   rw [show shChange.size = 5 from rfl] at e1 e2 e3 e4
   obtain ⟨v1, v2, e4, _⟩ := change_at.1 e4
   have ld := load1 e2 (by simpa using cells_get e4 (j := 0) rfl)
   simp only [Int.natCast_zero, Int.cast_ofNat_Int] at e1
   have hid := (List.getElem?_eq_some_iff.1 e2).1
   have hz : 0 < ((l.length - j : Nat) : Int) := by omega
   have hz' : ¬ x.number < b := by omega
   have hzn : 0 < l.length - j := by omega
   simp [r1, r4, r5, ow, hll, hz, hzn, hj, hz', e1, ld, hid, hg, buildV, structPlace, fillL]
   simpa using hn
 ·have ⟨x, hx, hlt'⟩ : ∃ x, l[j]? = some x ∧ x.number < b := by
   refine Classical.byContradiction fun hh => hend fun x hx => ?_
   exact Int.not_lt.1 fun h => hh ⟨x, hx, h⟩
  have hj : j < l.length := (List.getElem?_eq_some_iff.1 hx).1
  obtain ⟨k, rfl⟩ : ∃ m, k = m + 1 := ⟨k - 1, by omega⟩
  have hx0 : (l.drop j)[0]? = some x := by rw [List.getElem?_drop]; simpa using hx
  have hd : l.drop j = x :: l.drop (j + 1) := by
   rw [List.drop_eq_getElem_cons hj]
   congr 1
   exact Option.some.inj ((List.getElem?_eq_getElem hj).symm.trans hx)
  obtain ⟨F, f1, f2, f3⟩ := hN
  obtain ⟨v, us, hv, hus, hub, hs'⟩ := AtF_slice.1 f1
  cases hv
  cases hus
  rcases hs' with ⟨_, h0, _⟩ | ⟨id, off, cells, Ks, hw, k1, k2, k3, k4, k5⟩
  ·rw [hd] at h0; cases h0
  subst hw
  have hN : New H.length G.length G (.slice shChange) [.slc (some (id, off)) ((l.drop j).map PChange.u).length] (.lst ((l.drop j).map PChange.u)) := ⟨F, f1, f2, f3⟩
  obtain ⟨K, hK⟩ : ∃ K, Ks[0]? = some K := ⟨Ks[0]'(by rw [k3, hd]; simp), List.getElem?_eq_getElem _⟩
  have e4 := AtF.at _ (k5 0 x.u K (by rw [hd]; rfl) hK)
  rw [show shChange.size = 5 from rfl, Nat.zero_mul, Nat.add_zero] at e4
  rw [show shChange.size = 5 from rfl] at k1
  obtain ⟨v1, v2, e4, _⟩ := change_at.1 e4
  have ld := load1 k1 (by simpa using cells_get e4 (j := 0) rfl)
  have hid := (List.getElem?_eq_some_iff.1 k1).1
  have hz : 0 < ((l.length - j : Nat) : Int) := by omega
  have hz1 : 1 ≤ l.length - j := by omega
  have hzn : 0 < l.length - j := by omega
  have hst : strideIs G id 5 = true := by unfold strideIs; rw [k1]; rfl
  have hN2 := hN
  rw [hd, List.map_cons] at hN2
  have hT := hN2.tail
  have hlen : ((l.drop (j + 1)).map PChange.u).length = l.length - j - 1 := by simp; omega
  rw [hlen] at hT
  simp [r1, r4, r5, ow, hll, hz, hzn, hj, hz1, hlt', ld, hid, hst, boundL, fillL]
  exact ⟨k, by omega, j + 1, by omega, by simpa using hT, fun y hy => by
   rw [List.take_succ] at hy
   rcases List.mem_append.1 hy with hy | hy
   ·exact hlt y hy
   ·rw [hx] at hy; simp at hy; subst hy; exact hlt'⟩
def VOut (H : List Ob) (u : U) (q : V) (H' : List Ob) : Prop := ∃ T y, q = .agg y ∧ H' = H ++ T ∧ New H.length (H ++ T).length (H ++ T) ai y u
theorem VOut.ill {H : List Ob} : VOut H Dq (.agg [.slc none 0, .slc none 0, .slc none 0, .int .i64 0, .slc none 0, .str [], .int .i64 0, .int .i64 0, .slc none 0, .int .i64 1]) H :=
 ⟨[], _, rfl, by simp, New.st (News.cons (m := H.length) (c1 := [.slc none 0, .slc none 0, .slc none 0, .int .i64 0, .slc none 0, .str []])
  (New.st (News.cons (m := H.length) (c1 := [.slc none 0, .slc none 0]) (New.st (News.nilS (News.nilS News.nil))) (News.nilS (News.cons (m := H.length) (c1 := [.int .i64 0, .slc none 0]) (New.st (News.int (by decide) (News.nilS News.nil))) (News.str (by decide) News.nil) (Nat.le_refl _) (by simp))) (Nat.le_refl _) (by simp)))
  (News.cons (m := H.length) (c1 := [.int .i64 0, .int .i64 0, .slc none 0]) (New.st (News.int (by decide) (News.int (by decide) (News.nilS News.nil)))) (News.int (by decide) News.nil) (Nat.le_refl _) (by simp)) (Nat.le_refl _) (by simp))⟩
theorem VOut.of {H T : List Ob} {s : PServer} {vs ve va vl : V} (h : New H.length (H ++ T).length (H ++ T) shServer [vs, ve, va, .int .i64 s.next, vl, .str s.who] s.u) :
  ∃ T', gcH H (H ++ T) (.agg [vs, ve, va, .int .i64 s.next, vl, .str s.who, .int .i64 0, .int .i64 0, .slc none 0, .int .i64 0]) = H ++ T' ∧ VOut H (yJ s) (.agg [vs, ve, va, .int .i64 s.next, vl, .str s.who, .int .i64 0, .int .i64 0, .slc none 0, .int .i64 0]) (H ++ T') := by
 have h2 : New H.length (H ++ T).length (H ++ T) ai [vs, ve, va, .int .i64 s.next, vl, .str s.who, .int .i64 0, .int .i64 0, .slc none 0, .int .i64 0] (yJ s) :=
  New.st (News.cons (m := (H ++ T).length) (c1 := [vs, ve, va, .int .i64 s.next, vl, .str s.who]) h (News.cons (m := (H ++ T).length) (c1 := [.int .i64 0, .int .i64 0, .slc none 0]) (New.st (News.int (by decide) (News.int (by decide) (News.nilS News.nil)))) (News.int (by decide) News.nil) (Nat.le_refl _) (Nat.le_refl _)) (by simp) (Nat.le_refl _))
 obtain ⟨T', h3, h4⟩ := h2.gcA
 exact ⟨T', h3, T', _, rfl, rfl, h4⟩
theorem lC {H : List Ob} {vs ve va vl : V} {s : PServer} {b : Int} (hs : AClasses H vs s.tree.schema) (he : AEntries H ve s.tree.entries) (ha : ARules H va s.acl) (hl : AChanges H vl s.list) (hn : (Lit.int .i64 s.next).wf = true) (hw : s.who.length ≤ maxLen) (hb : ServerOk s → ja s) (hd : ∀ x ∈ s.list, x.dn.length ≤ 2000000) :
  ∃ q H', callW C 26 [.agg [vs, ve, va, .int .i64 s.next, vl, .str s.who], .int .i64 b] H = some (q, H') ∧ VOut H (aC s b) q H' := by
 suffices hs : Ret C 26 [.agg [vs, ve, va, .int .i64 s.next, vl, .str s.who], .int .i64 b] H fun q H' => VOut H (aC s b) q H' by
  obtain ⟨q, H', hc, hr⟩ := hs
  exact ⟨q, H', hc, hr⟩
 rw [OT]
 have o1 := hs.one
 have o2 := he.one
 have o3 := ha.one
 have o4 := hl.one
 have c0 := jI hs he ha hl hd
 unfold aC
 by_cases g : ServerOk s
 rotate_left
 ·rw [dec_neg g] at c0
  rw [if_neg g]
  have hg : gcH H H (.agg [.slc none 0, .slc none 0, .slc none 0, .int .i64 0, .slc none 0, .str [], .int .i64 0, .int .i64 0, .slc none 0, .int .i64 1]) = H := by
   have := gcH_low (H := H) (T := []) (r := .agg [.slc none 0, .slc none 0, .slc none 0, .int .i64 0, .slc none 0, .str [], .int .i64 0, .int .i64 0, .slc none 0, .int .i64 1]) (by simp [lowV, lowVs])
   rwa [List.append_nil] at this
  have hV := VOut.ill (H := H)
  simp [oN, Tryz.f26, o1, o2, o3, o4, c0, fillL, zerosL, buildV, structPlace, hg]
  exact hV
 rw [dec_pos g] at c0
 rw [if_pos g]
 have hb := hb g
 obtain ⟨T1, ws, we, wa, wl, c1, n1⟩ := zY hs he ha hl hn hw hb
 obtain ⟨A, hA⟩ : ∃ A, A = H ++ T1 := ⟨_, rfl⟩
 rw [← hA] at n1 c1
 obtain ⟨T2, w, c2, n2⟩ := jD (H := A) (b := b) (by rw [hA]; exact hl.ext) hb.2.2 hd g.2.2.1
 obtain ⟨_, _, _, _, hcs, p1, p2, p3, _, p4, _⟩ := server_at.1 n1.at
 cases hcs
 have p1 := p1.one
 have p2 := p2.one
 have p3 := p3.one
 have p4 := p4.one
 have p5 := New.one1 n2
 have hne : New H.length (A ++ T2).length (A ++ T2) shServer [ws, we, wa, .int .i64 s.next, w, .str s.who] (PServer.u { s with list := ak s.list b }) := by
  obtain ⟨m1, m2, k1, k2, k3, k4⟩ : ∃ m1 m2, H.length ≤ m1 ∧ m1 ≤ m2 ∧ m2 ≤ A.length ∧ True := ⟨H.length, H.length, Nat.le_refl _, Nat.le_refl _, by rw [hA]; simp, trivial⟩
  exact gI n1.ext n2 (by rw [hA]; simp) (by simp)
 have hGH : A ++ T2 = H ++ (T1 ++ T2) := by rw [hA]; simp
 rw [hGH] at hne
 obtain ⟨T', hg, hV⟩ := VOut.of (s := { s with list := ak s.list b }) hne
 rw [← hGH] at hg
 simp only at hg hV
 simp [oN, Tryz.f26, o1, o2, o3, o4, p1, p2, p3, p4, p5, c0, c1, c2, fillL, zerosL, buildV, structPlace, hg, partV]
 exact hV
theorem oU : eU 169 (.slice shChange) := by
 intro H cs u F k h hn hk
 obtain ⟨v, l, rfl, rfl, hlen, hs⟩ := AtF_slice.1 h
 obtain ⟨_, hC⟩ := mr (AtF.at _ h)
 have h2 := (qZ hC).1 h
 have hcnt : cntV (.lst (l.map aH)) = cntV (.lst l) := by simp only [cntV]; exact gm hC
 obtain ⟨H', q, h3, h4, h5⟩ := mP H [v] _ F k h2 hn (by rw [hcnt]; exact hk)
 rw [hcnt] at q
 refine ⟨H', q, h3, h4, ?_⟩
 have hm := jg (k := k) hC
 have e : mkV (.lst (l.map aH)) k = .lst ((mkPs l k).map aH) := by simp only [mkV]; rw [hm.1]
 rw [e] at h5
 exact (qZ hm.2).2 h5
theorem kV : aU 254 (.slice shChange) := by
 intro H cs u k h hk
 obtain ⟨v, l', rfl, hu, hlen, hv⟩ := At_slice.1 h
 obtain ⟨l, rfl, rfl⟩ := mkV_lst hu
 obtain ⟨h2, hC⟩ := mr (show At H (.slice shChange) [v] (.lst (mkPs l k)) from h)
 have hl := rG hC
 have hm := jg (k := k) hl
 rw [← hm.1] at h2
 have hcnt : cntV (.lst (l.map aH)) = cntV (.lst l) := by simp only [cntV]; exact gm hl
 have := jE H [v] (.lst (l.map aH)) k h2 (by rw [hcnt]; exact hk)
 rw [hcnt] at this
 exact this
theorem pg : eU 85 shChanges := by
 intro H cs u F k h hn hk
 replace h := AtF_st.1 h
 obtain ⟨us, rfl, h⟩ := h
 replace h := AtsF_cons.1 h
 obtain ⟨c0, d0, u0, rr0, F0, E0, rfl, rfl, rfl, h0, h⟩ := h
 replace h := AtsF_cons.1 h
 obtain ⟨c1, d1, u1, rr1, F1, E1, rfl, rfl, rfl, h1, h⟩ := h
 replace h := AtsF_nil.1 h
 obtain ⟨rfl, rfl, rfl⟩ := h
 replace h0 := AtF_int.1 h0
 obtain ⟨⟨n0, rfl, rfl, w0⟩, rfl⟩ := h0
 have k1 := h1
 replace h1 := AtF_slice.1 h1
 obtain ⟨v1, l1, rfl, rfl, w1, hv1⟩ := h1
 have o1 := (At_slice.1 (AtF.at _ k1))
 obtain ⟨_, _, x1, x2, _, o1⟩ := o1
 cases x1
 cases x2
 have o1 := o1.one
 simp only [cntV_st, cntVs_cons, cntVs_nil, cntV_str, cntV_int, cntV_bool, Nat.zero_add] at hk
 simp only [List.nil_append, List.append_nil] at hn
 have hn0 := hn
 have nd1 := hn0
 obtain ⟨H1, q1, len1, fr1, k1'⟩ := oU H _ _ _ (k) k1 nd1 (by first | omega | (simp only [cntV_st, cntVs_cons, cntVs_nil, cntV_str, cntV_int, cntV_bool] at *; omega))
 simp only [valC, List.headD_cons, List.append_nil, List.cons_append, List.nil_append, Int.natCast_add] at q1
 have hK : k + cntV (U.st [(.int n0), (.lst l1)]) = k + cntV (.lst l1) := by simp only [cntV_st, cntVs_cons, cntVs_nil, cntV_str, cntV_int, cntV_bool, Nat.zero_add]; omega
 have hA : AtF H1 shChanges _ _ _ := AtF_st.2 ⟨_, rfl, AtsF_cons.2 ⟨[_], _, _, _, [], _, rfl, rfl, rfl, AtF_int.2 ⟨⟨_, rfl, rfl, w0⟩, rfl⟩, AtsF_cons.2 ⟨[_], _, _, _, F1, _, rfl, rfl, rfl, k1', AtsF_nil.2 ⟨rfl, rfl, rfl⟩⟩⟩⟩
 simp only [List.append_nil, List.nil_append, List.cons_append] at hA
 have hl : H1.length = H.length := by rw [len1]
 have hfr : ∀ q, q ∉ F1 → H1[q]? = H[q]? := by
  intro q hq
  try simp only [List.mem_append, not_or] at hq
  rw [fr1 q hq]
 apply Ret.mark
 rw [Pq, hK]
 simp [yZ, Tryz.f85, valC, aK hl, q1, o1]
 exact ⟨hl, by simpa using hfr, hA⟩
theorem kU : aU 172 shChanges := by
 intro H cs u k h hk
 obtain ⟨us, hu, h⟩ := At_st.1 h
 obtain ⟨us, rfl, rfl⟩ := mkV_st hu
 obtain ⟨c0, d0, u0, r0, rfl, hu, h0, h⟩ := Ats_cons.1 h
 obtain ⟨u0, us, rfl, rfl, rfl⟩ := mkVs_cons hu
 obtain ⟨c1, d1, u1, r1, rfl, hu, h1, h⟩ := Ats_cons.1 h
 obtain ⟨u1, us, rfl, rfl, rfl⟩ := mkVs_cons hu
 obtain ⟨rfl, hu⟩ := Ats_nil.1 h
 obtain rfl := mkVs_nil hu
 obtain ⟨s0, rfl, hu, _⟩ := At_int.1 h0
 obtain rfl := mkV_int hu
 have k1 := h1
 obtain ⟨v1, l1, rfl, hu, _, hv1⟩ := At_slice.1 h1
 have o1 := hv1.one
 obtain ⟨m1, rfl, rfl⟩ := mkV_lst hu
 simp only [cntV_st, cntVs_cons, cntVs_nil, cntV_str, cntV_int, cntV_bool, Nat.zero_add, Nat.add_zero] at *
 have q1 := kV H _ _ (k) k1 (by omega)
 simp only [valC, List.headD_cons, List.append_nil, List.cons_append, List.nil_append, Int.natCast_add] at q1
 have p1 : ¬ (((k + cntV (.lst m1) : Nat) : Int) < 0) := by omega
 simp only [Int.natCast_add] at p1
 have hK : k + (cntV (.lst m1)) = k + cntV (.lst m1) := by omega
 rw [hK]
 apply Ret.eq
 rw [Ei]
 simp [qX, Tryz.f172, valC, q1, p1, o1]
theorem wo : eU 86 dF := by
 intro H cs u F k h hn hk
 replace h := AtF_st.1 h
 obtain ⟨us, rfl, h⟩ := h
 replace h := AtsF_cons.1 h
 obtain ⟨c0, d0, u0, rr0, F0, E0, rfl, rfl, rfl, h0, h⟩ := h
 replace h := AtsF_cons.1 h
 obtain ⟨c1, d1, u1, rr1, F1, E1, rfl, rfl, rfl, h1, h⟩ := h
 replace h := AtsF_cons.1 h
 obtain ⟨c2, d2, u2, rr2, F2, E2, rfl, rfl, rfl, h2, h⟩ := h
 replace h := AtsF_nil.1 h
 obtain ⟨rfl, rfl, rfl⟩ := h
 replace h0 := AtF_int.1 h0
 obtain ⟨⟨n0, rfl, rfl, w0⟩, rfl⟩ := h0
 replace h1 := AtF_int.1 h1
 obtain ⟨⟨n1, rfl, rfl, w1⟩, rfl⟩ := h1
 have k2 := h2
 replace h2 := AtF_slice.1 h2
 obtain ⟨v2, l2, rfl, rfl, w2, hv2⟩ := h2
 have o2 := (At_slice.1 (AtF.at _ k2))
 obtain ⟨_, _, x1, x2, _, o2⟩ := o2
 cases x1
 cases x2
 have o2 := o2.one
 simp only [cntV_st, cntVs_cons, cntVs_nil, cntV_str, cntV_int, cntV_bool, Nat.zero_add] at hk
 simp only [List.nil_append, List.append_nil] at hn
 have hn0 := hn
 have nd2 := hn0
 obtain ⟨H2, q2, len2, fr2, k2'⟩ := jP H _ _ _ (k) k2 nd2 (by first | omega | (simp only [cntV_st, cntVs_cons, cntVs_nil, cntV_str, cntV_int, cntV_bool] at *; omega))
 simp only [valC, List.headD_cons, List.append_nil, List.cons_append, List.nil_append, Int.natCast_add] at q2
 have hK : k + cntV (U.st [(.int n0), (.int n1), (.lst l2)]) = k + cntV (.lst l2) := by simp only [cntV_st, cntVs_cons, cntVs_nil, cntV_str, cntV_int, cntV_bool, Nat.zero_add]; omega
 have hA : AtF H2 dF _ _ _ := AtF_st.2 ⟨_, rfl, AtsF_cons.2 ⟨[_], _, _, _, [], _, rfl, rfl, rfl, AtF_int.2 ⟨⟨_, rfl, rfl, w0⟩, rfl⟩, AtsF_cons.2 ⟨[_], _, _, _, [], _, rfl, rfl, rfl, AtF_int.2 ⟨⟨_, rfl, rfl, w1⟩, rfl⟩, AtsF_cons.2 ⟨[_], _, _, _, F2, _, rfl, rfl, rfl, k2', AtsF_nil.2 ⟨rfl, rfl, rfl⟩⟩⟩⟩⟩
 simp only [List.append_nil, List.nil_append, List.cons_append] at hA
 have hl : H2.length = H.length := by rw [len2]
 have hfr : ∀ q, q ∉ F2 → H2[q]? = H[q]? := by
  intro q hq
  try simp only [List.mem_append, not_or] at hq
  rw [fr2 q hq]
 apply Ret.mark
 rw [Qr, hK]
 simp [yx, Tryz.f86, valC, aK hl, q2, o2]
 exact ⟨hl, by simpa using hfr, hA⟩
theorem mY : aU 88 dF := by
 intro H cs u k h hk
 obtain ⟨us, hu, h⟩ := At_st.1 h
 obtain ⟨us, rfl, rfl⟩ := mkV_st hu
 obtain ⟨c0, d0, u0, r0, rfl, hu, h0, h⟩ := Ats_cons.1 h
 obtain ⟨u0, us, rfl, rfl, rfl⟩ := mkVs_cons hu
 obtain ⟨c1, d1, u1, r1, rfl, hu, h1, h⟩ := Ats_cons.1 h
 obtain ⟨u1, us, rfl, rfl, rfl⟩ := mkVs_cons hu
 obtain ⟨c2, d2, u2, r2, rfl, hu, h2, h⟩ := Ats_cons.1 h
 obtain ⟨u2, us, rfl, rfl, rfl⟩ := mkVs_cons hu
 obtain ⟨rfl, hu⟩ := Ats_nil.1 h
 obtain rfl := mkVs_nil hu
 obtain ⟨s0, rfl, hu, _⟩ := At_int.1 h0
 obtain rfl := mkV_int hu
 obtain ⟨s1, rfl, hu, _⟩ := At_int.1 h1
 obtain rfl := mkV_int hu
 have k2 := h2
 obtain ⟨v2, l2, rfl, hu, _, hv2⟩ := At_slice.1 h2
 have o2 := hv2.one
 obtain ⟨m2, rfl, rfl⟩ := mkV_lst hu
 simp only [cntV_st, cntVs_cons, cntVs_nil, cntV_str, cntV_int, cntV_bool, Nat.zero_add, Nat.add_zero] at *
 have q2 := gz H _ _ (k) k2 (by omega)
 simp only [valC, List.headD_cons, List.append_nil, List.cons_append, List.nil_append, Int.natCast_add] at q2
 have p2 : ¬ (((k + cntV (.lst m2) : Nat) : Int) < 0) := by omega
 simp only [Int.natCast_add] at p2
 have hK : k + (cntV (.lst m2)) = k + cntV (.lst m2) := by omega
 rw [hK]
 apply Ret.eq
 rw [OL]
 simp [yf, Tryz.f88, valC, q2, p2, o2]
theorem kz : eU 29 shServer := by
 intro H cs u F k h hn hk
 replace h := AtF_st.1 h
 obtain ⟨us, rfl, h⟩ := h
 replace h := AtsF_cons.1 h
 obtain ⟨c0, d0, u0, rr0, F0, E0, rfl, rfl, rfl, h0, h⟩ := h
 replace h := AtsF_cons.1 h
 obtain ⟨c1, d1, u1, rr1, F1, E1, rfl, rfl, rfl, h1, h⟩ := h
 replace h := AtsF_cons.1 h
 obtain ⟨c2, d2, u2, rr2, F2, E2, rfl, rfl, rfl, h2, h⟩ := h
 replace h := AtsF_cons.1 h
 obtain ⟨c3, d3, u3, rr3, F3, E3, rfl, rfl, rfl, h3, h⟩ := h
 replace h := AtsF_nil.1 h
 obtain ⟨rfl, rfl, rfl⟩ := h
 have k0 := h0
 obtain ⟨c0_0, c0_1, rfl⟩ := list2 (At.len _ (AtF.at _ h0) : _ = 2)
 have o0 := ones_all (AtF.at _ h0)
 simp only [List.mem_cons, List.not_mem_nil, or_false, forall_eq_or_imp, forall_eq] at o0
 have k1 := h1
 replace h1 := AtF_slice.1 h1
 obtain ⟨v1, l1, rfl, rfl, w1, hv1⟩ := h1
 have o1 := (At_slice.1 (AtF.at _ k1))
 obtain ⟨_, _, x1, x2, _, o1⟩ := o1
 cases x1
 cases x2
 have o1 := o1.one
 have k2 := h2
 obtain ⟨c2_0, c2_1, rfl⟩ := list2 (At.len _ (AtF.at _ h2) : _ = 2)
 have o2 := ones_all (AtF.at _ h2)
 simp only [List.mem_cons, List.not_mem_nil, or_false, forall_eq_or_imp, forall_eq] at o2
 replace h3 := AtF_str.1 h3
 obtain ⟨⟨s3, rfl, rfl, w3⟩, rfl⟩ := h3
 simp only [cntV_st, cntVs_cons, cntVs_nil, cntV_str, cntV_int, cntV_bool, Nat.zero_add] at hk
 simp only [List.nil_append, List.append_nil] at hn
 have hn0 := hn
 obtain ⟨nd0, hn0, dj0⟩ := List.nodup_append.1 hn0
 obtain ⟨nd1, hn0, dj1⟩ := List.nodup_append.1 hn0
 have nd2 := hn0
 obtain ⟨H0, q0, len0, fr0, k0'⟩ := AX H _ _ _ (k) k0 nd0 (by first | omega | (simp only [cntV_st, cntVs_cons, cntVs_nil, cntV_str, cntV_int, cntV_bool] at *; omega))
 simp only [valC, List.headD_cons, List.append_nil, List.cons_append, List.nil_append, Int.natCast_add] at q0
 have k1 := AtF.frame _ (H' := H0) (fun q hq2 => fr0 q (fun hq1 => dj0 q hq1 q (List.mem_append_left _ hq2) rfl)) k1
 have k2 := AtF.frame _ (H' := H0) (fun q hq2 => fr0 q (fun hq1 => dj0 q hq1 q (List.mem_append_right _ hq2) rfl)) k2
 obtain ⟨H1, q1, len1, fr1, k1'⟩ := xA H0 _ _ _ (k + cntV u0) k1 nd1 (by first | omega | (simp only [cntV_st, cntVs_cons, cntVs_nil, cntV_str, cntV_int, cntV_bool] at *; omega))
 simp only [valC, List.headD_cons, List.append_nil, List.cons_append, List.nil_append, Int.natCast_add] at q1
 have k0' := AtF.frame _ (H' := H1) (fun q hq2 => fr1 q (fun hq1 => dj0 q hq2 q (List.mem_append_left _ hq1) rfl)) k0'
 have k2 := AtF.frame _ (H' := H1) (fun q hq2 => fr1 q (fun hq1 => dj1 q hq1 q hq2 rfl)) k2
 obtain ⟨H2, q2, len2, fr2, k2'⟩ := pg H1 _ _ _ (k + cntV u0 + cntV (.lst l1)) k2 nd2 (by first | omega | (simp only [cntV_st, cntVs_cons, cntVs_nil, cntV_str, cntV_int, cntV_bool] at *; omega))
 simp only [valC, List.headD_cons, List.append_nil, List.cons_append, List.nil_append, Int.natCast_add] at q2
 have k0' := AtF.frame _ (H' := H2) (fun q hq2 => fr2 q (fun hq1 => dj0 q hq2 q (List.mem_append_right _ hq1) rfl)) k0'
 have k1' := AtF.frame _ (H' := H2) (fun q hq2 => fr2 q (fun hq1 => dj1 q hq2 q hq1 rfl)) k1'
 have hK : k + cntV (U.st [u0, (.lst l1), u2, (.str s3)]) = k + cntV u0 + cntV (.lst l1) + cntV u2 := by simp only [cntV_st, cntVs_cons, cntVs_nil, cntV_str, cntV_int, cntV_bool, Nat.zero_add]; omega
 have hA : AtF H2 shServer _ _ _ := AtF_st.2 ⟨_, rfl, AtsF_cons.2 ⟨_, _, _, _, F0, _, rfl, rfl, rfl, k0', AtsF_cons.2 ⟨[_], _, _, _, F1, _, rfl, rfl, rfl, k1', AtsF_cons.2 ⟨_, _, _, _, F2, _, rfl, rfl, rfl, k2', AtsF_cons.2 ⟨[_], _, _, _, [], _, rfl, rfl, rfl, AtF_str.2 ⟨⟨_, rfl, rfl, w3⟩, rfl⟩, AtsF_nil.2 ⟨rfl, rfl, rfl⟩⟩⟩⟩⟩⟩
 simp only [List.append_nil, List.nil_append, List.cons_append] at hA
 have hl : H2.length = H.length := by rw [len2, len1, len0]
 have hfr : ∀ q, q ∉ F0 ++ (F1 ++ (F2)) → H2[q]? = H[q]? := by
  intro q hq
  try simp only [List.mem_append, not_or] at hq
  rw [fr2 q hq.2.2, fr1 q hq.2.1, fr0 q hq.1]
 apply Ret.mark
 rw [PH, hK]
 simp [yN, Tryz.f29, valC, aK hl, q0, q1, q2, o0, o1, o2]
 exact ⟨hl, by simpa using hfr, hA⟩
theorem og : aU 87 shServer := by
 intro H cs u k h hk
 obtain ⟨us, hu, h⟩ := At_st.1 h
 obtain ⟨us, rfl, rfl⟩ := mkV_st hu
 obtain ⟨c0, d0, u0, r0, rfl, hu, h0, h⟩ := Ats_cons.1 h
 obtain ⟨u0, us, rfl, rfl, rfl⟩ := mkVs_cons hu
 obtain ⟨c1, d1, u1, r1, rfl, hu, h1, h⟩ := Ats_cons.1 h
 obtain ⟨u1, us, rfl, rfl, rfl⟩ := mkVs_cons hu
 obtain ⟨c2, d2, u2, r2, rfl, hu, h2, h⟩ := Ats_cons.1 h
 obtain ⟨u2, us, rfl, rfl, rfl⟩ := mkVs_cons hu
 obtain ⟨c3, d3, u3, r3, rfl, hu, h3, h⟩ := Ats_cons.1 h
 obtain ⟨u3, us, rfl, rfl, rfl⟩ := mkVs_cons hu
 obtain ⟨rfl, hu⟩ := Ats_nil.1 h
 obtain rfl := mkVs_nil hu
 have k0 := h0
 obtain ⟨c0_0, c0_1, rfl⟩ := list2 (At.len _ h0 : _ = 2)
 have o0 := ones_all h0
 simp only [List.mem_cons, List.not_mem_nil, or_false, forall_eq_or_imp, forall_eq] at o0
 have k1 := h1
 obtain ⟨v1, l1, rfl, hu, _, hv1⟩ := At_slice.1 h1
 have o1 := hv1.one
 obtain ⟨m1, rfl, rfl⟩ := mkV_lst hu
 have k2 := h2
 obtain ⟨c2_0, c2_1, rfl⟩ := list2 (At.len _ h2 : _ = 2)
 have o2 := ones_all h2
 simp only [List.mem_cons, List.not_mem_nil, or_false, forall_eq_or_imp, forall_eq] at o2
 obtain ⟨s3, rfl, hu, _⟩ := At_str.1 h3
 obtain rfl := mkV_str hu
 simp only [cntV_st, cntVs_cons, cntVs_nil, cntV_str, cntV_int, cntV_bool, Nat.zero_add, Nat.add_zero] at *
 have q0 := vT H _ _ (k) k0 (by omega)
 simp only [valC, List.headD_cons, List.append_nil, List.cons_append, List.nil_append, Int.natCast_add] at q0
 have p0 : ¬ (((k + cntV u0 : Nat) : Int) < 0) := by omega
 simp only [Int.natCast_add] at p0
 have q1 := ou H _ _ (k + cntV u0) k1 (by omega)
 simp only [valC, List.headD_cons, List.append_nil, List.cons_append, List.nil_append, Int.natCast_add] at q1
 have p1 : ¬ (((k + cntV u0 + cntV (.lst m1) : Nat) : Int) < 0) := by omega
 simp only [Int.natCast_add] at p1
 have q2 := kU H _ _ (k + cntV u0 + cntV (.lst m1)) k2 (by omega)
 simp only [valC, List.headD_cons, List.append_nil, List.cons_append, List.nil_append, Int.natCast_add] at q2
 have p2 : ¬ (((k + cntV u0 + cntV (.lst m1) + cntV u2 : Nat) : Int) < 0) := by omega
 simp only [Int.natCast_add] at p2
 have hK : k + (cntV u0 + (cntV (.lst m1) + (cntV u2))) = k + cntV u0 + cntV (.lst m1) + cntV u2 := by omega
 rw [hK]
 apply Ret.eq
 rw [OU]
 simp [zo, Tryz.f87, valC, q0, p0, q1, p1, q2, p2, o0, o1, o2]
theorem lg : eU 30 ai := by
 intro H cs u F k h hn hk
 replace h := AtF_st.1 h
 obtain ⟨us, rfl, h⟩ := h
 replace h := AtsF_cons.1 h
 obtain ⟨c0, d0, u0, rr0, F0, E0, rfl, rfl, rfl, h0, h⟩ := h
 replace h := AtsF_cons.1 h
 obtain ⟨c1, d1, u1, rr1, F1, E1, rfl, rfl, rfl, h1, h⟩ := h
 replace h := AtsF_cons.1 h
 obtain ⟨c2, d2, u2, rr2, F2, E2, rfl, rfl, rfl, h2, h⟩ := h
 replace h := AtsF_nil.1 h
 obtain ⟨rfl, rfl, rfl⟩ := h
 have k0 := h0
 obtain ⟨c0_0, c0_1, c0_2, c0_3, c0_4, c0_5, rfl⟩ := list6 (At.len _ (AtF.at _ h0) : _ = 6)
 have o0 := ones_all (AtF.at _ h0)
 simp only [List.mem_cons, List.not_mem_nil, or_false, forall_eq_or_imp, forall_eq] at o0
 have k1 := h1
 obtain ⟨c1_0, c1_1, c1_2, rfl⟩ := list3 (At.len _ (AtF.at _ h1) : _ = 3)
 have o1 := ones_all (AtF.at _ h1)
 simp only [List.mem_cons, List.not_mem_nil, or_false, forall_eq_or_imp, forall_eq] at o1
 replace h2 := AtF_int.1 h2
 obtain ⟨⟨n2, rfl, rfl, w2⟩, rfl⟩ := h2
 simp only [cntV_st, cntVs_cons, cntVs_nil, cntV_str, cntV_int, cntV_bool, Nat.zero_add] at hk
 simp only [List.nil_append, List.append_nil] at hn
 have hn0 := hn
 obtain ⟨nd0, hn0, dj0⟩ := List.nodup_append.1 hn0
 have nd1 := hn0
 obtain ⟨H0, q0, len0, fr0, k0'⟩ := kz H _ _ _ (k) k0 nd0 (by first | omega | (simp only [cntV_st, cntVs_cons, cntVs_nil, cntV_str, cntV_int, cntV_bool] at *; omega))
 simp only [valC, List.headD_cons, List.append_nil, List.cons_append, List.nil_append, Int.natCast_add] at q0
 have k1 := AtF.frame _ (H' := H0) (fun q hq2 => fr0 q (fun hq1 => dj0 q hq1 q hq2 rfl)) k1
 obtain ⟨H1, q1, len1, fr1, k1'⟩ := wo H0 _ _ _ (k + cntV u0) k1 nd1 (by first | omega | (simp only [cntV_st, cntVs_cons, cntVs_nil, cntV_str, cntV_int, cntV_bool] at *; omega))
 simp only [valC, List.headD_cons, List.append_nil, List.cons_append, List.nil_append, Int.natCast_add] at q1
 have k0' := AtF.frame _ (H' := H1) (fun q hq2 => fr1 q (fun hq1 => dj0 q hq2 q hq1 rfl)) k0'
 have hK : k + cntV (U.st [u0, u1, (.int n2)]) = k + cntV u0 + cntV u1 := by simp only [cntV_st, cntVs_cons, cntVs_nil, cntV_str, cntV_int, cntV_bool, Nat.zero_add]; omega
 have hA : AtF H1 ai _ _ _ := AtF_st.2 ⟨_, rfl, AtsF_cons.2 ⟨_, _, _, _, F0, _, rfl, rfl, rfl, k0', AtsF_cons.2 ⟨_, _, _, _, F1, _, rfl, rfl, rfl, k1', AtsF_cons.2 ⟨[_], _, _, _, [], _, rfl, rfl, rfl, AtF_int.2 ⟨⟨_, rfl, rfl, w2⟩, rfl⟩, AtsF_nil.2 ⟨rfl, rfl, rfl⟩⟩⟩⟩⟩
 simp only [List.append_nil, List.nil_append, List.cons_append] at hA
 have hl : H1.length = H.length := by rw [len1, len0]
 have hfr : ∀ q, q ∉ F0 ++ (F1) → H1[q]? = H[q]? := by
  intro q hq
  try simp only [List.mem_append, not_or] at hq
  rw [fr1 q hq.2, fr0 q hq.1]
 apply Ret.mark
 rw [OX, hK]
 simp [xh, Tryz.f30, valC, aK hl, q0, q1, o0, o1]
 exact ⟨hl, by simpa using hfr, hA⟩
theorem dK : aU 31 ai := by
 intro H cs u k h hk
 obtain ⟨us, hu, h⟩ := At_st.1 h
 obtain ⟨us, rfl, rfl⟩ := mkV_st hu
 obtain ⟨c0, d0, u0, r0, rfl, hu, h0, h⟩ := Ats_cons.1 h
 obtain ⟨u0, us, rfl, rfl, rfl⟩ := mkVs_cons hu
 obtain ⟨c1, d1, u1, r1, rfl, hu, h1, h⟩ := Ats_cons.1 h
 obtain ⟨u1, us, rfl, rfl, rfl⟩ := mkVs_cons hu
 obtain ⟨c2, d2, u2, r2, rfl, hu, h2, h⟩ := Ats_cons.1 h
 obtain ⟨u2, us, rfl, rfl, rfl⟩ := mkVs_cons hu
 obtain ⟨rfl, hu⟩ := Ats_nil.1 h
 obtain rfl := mkVs_nil hu
 have k0 := h0
 obtain ⟨c0_0, c0_1, c0_2, c0_3, c0_4, c0_5, rfl⟩ := list6 (At.len _ h0 : _ = 6)
 have o0 := ones_all h0
 simp only [List.mem_cons, List.not_mem_nil, or_false, forall_eq_or_imp, forall_eq] at o0
 have k1 := h1
 obtain ⟨c1_0, c1_1, c1_2, rfl⟩ := list3 (At.len _ h1 : _ = 3)
 have o1 := ones_all h1
 simp only [List.mem_cons, List.not_mem_nil, or_false, forall_eq_or_imp, forall_eq] at o1
 obtain ⟨s2, rfl, hu, _⟩ := At_int.1 h2
 obtain rfl := mkV_int hu
 simp only [cntV_st, cntVs_cons, cntVs_nil, cntV_str, cntV_int, cntV_bool, Nat.zero_add, Nat.add_zero] at *
 have q0 := og H _ _ (k) k0 (by omega)
 simp only [valC, List.headD_cons, List.append_nil, List.cons_append, List.nil_append, Int.natCast_add] at q0
 have p0 : ¬ (((k + cntV u0 : Nat) : Int) < 0) := by omega
 simp only [Int.natCast_add] at p0
 have q1 := mY H _ _ (k + cntV u0) k1 (by omega)
 simp only [valC, List.headD_cons, List.append_nil, List.cons_append, List.nil_append, Int.natCast_add] at q1
 have p1 : ¬ (((k + cntV u0 + cntV u1 : Nat) : Int) < 0) := by omega
 simp only [Int.natCast_add] at p1
 have hK : k + (cntV u0 + (cntV u1)) = k + cntV u0 + cntV u1 := by omega
 rw [hK]
 apply Ret.eq
 rw [Pn]
 simp [xg, Tryz.f31, valC, q0, p0, q1, p1, o0, o1]
theorem AV : bQ 122 shRule := by
 intro H cs ds u w h h'
 replace h := At_st.1 h
 obtain ⟨usa, rfl, h⟩ := h
 replace h := Ats_cons.1 h
 obtain ⟨ca0, da0, ua0, rra0, rfl, rfl, ha0, h⟩ := h
 replace h := Ats_cons.1 h
 obtain ⟨ca1, da1, ua1, rra1, rfl, rfl, ha1, h⟩ := h
 replace h := Ats_cons.1 h
 obtain ⟨ca2, da2, ua2, rra2, rfl, rfl, ha2, h⟩ := h
 replace h := Ats_cons.1 h
 obtain ⟨ca3, da3, ua3, rra3, rfl, rfl, ha3, h⟩ := h
 replace h := Ats_cons.1 h
 obtain ⟨ca4, da4, ua4, rra4, rfl, rfl, ha4, h⟩ := h
 replace h := Ats_nil.1 h
 obtain ⟨rfl, rfl⟩ := h
 replace ha0 := At_str.1 ha0
 obtain ⟨sa0, rfl, rfl, wa0⟩ := ha0
 have ka1 := ha1
 replace ha1 := At_slice.1 ha1
 obtain ⟨va1, la1, rfl, rfl, wa1, hva1⟩ := ha1
 have oa1 := hva1.one
 have ka2 := ha2
 replace ha2 := At_slice.1 ha2
 obtain ⟨va2, la2, rfl, rfl, wa2, hva2⟩ := ha2
 have oa2 := hva2.one
 replace ha3 := At_int.1 ha3
 obtain ⟨na3, rfl, rfl, wa3⟩ := ha3
 replace ha4 := At_bool.1 ha4
 obtain ⟨ba4, rfl, rfl⟩ := ha4
 replace h' := At_st.1 h'
 obtain ⟨usb, rfl, h'⟩ := h'
 replace h' := Ats_cons.1 h'
 obtain ⟨cb0, db0, ub0, rrb0, rfl, rfl, hb0, h'⟩ := h'
 replace h' := Ats_cons.1 h'
 obtain ⟨cb1, db1, ub1, rrb1, rfl, rfl, hb1, h'⟩ := h'
 replace h' := Ats_cons.1 h'
 obtain ⟨cb2, db2, ub2, rrb2, rfl, rfl, hb2, h'⟩ := h'
 replace h' := Ats_cons.1 h'
 obtain ⟨cb3, db3, ub3, rrb3, rfl, rfl, hb3, h'⟩ := h'
 replace h' := Ats_cons.1 h'
 obtain ⟨cb4, db4, ub4, rrb4, rfl, rfl, hb4, h'⟩ := h'
 replace h' := Ats_nil.1 h'
 obtain ⟨rfl, rfl⟩ := h'
 replace hb0 := At_str.1 hb0
 obtain ⟨sb0, rfl, rfl, wb0⟩ := hb0
 have kb1 := hb1
 replace hb1 := At_slice.1 hb1
 obtain ⟨vb1, lb1, rfl, rfl, wb1, hvb1⟩ := hb1
 have ob1 := hvb1.one
 have kb2 := hb2
 replace hb2 := At_slice.1 hb2
 obtain ⟨vb2, lb2, rfl, rfl, wb2, hvb2⟩ := hb2
 have ob2 := hvb2.one
 replace hb3 := At_int.1 hb3
 obtain ⟨nb3, rfl, rfl, wb3⟩ := hb3
 replace hb4 := At_bool.1 hb4
 obtain ⟨bb4, rfl, rfl⟩ := hb4
 by_cases e0 : sa0 = sb0
 rotate_left
 ·refine ⟨false, by simp [e0], ?_⟩
  apply Ret.eq
  rw [jV]
  simp [cO, Tryz.f122, valC, e0, oa1, oa2, ob1, ob2]
 subst e0
 obtain ⟨t1, e1, q1⟩ := rZ H _ _ _ _ ka1 kb1
 simp only [valC, List.headD_cons, List.append_nil, List.cons_append, List.nil_append] at q1
 cases t1 with
 | false =>
  have e1 : ¬ (.lst la1) = (U.lst lb1) := fun h => by simpa using e1.2 h
  refine ⟨false, by simp only [U.st.injEq, List.cons.injEq, e1, and_false, false_and, Bool.false_eq_true], ?_⟩
  apply Ret.eq
  rw [jV]
  simp [cO, Tryz.f122, valC, q1, oa1, oa2, ob1, ob2]
 | true =>
 have e1 := e1.1 rfl
 obtain ⟨t2, e2, q2⟩ := bC H _ _ _ _ ka2 kb2
 simp only [valC, List.headD_cons, List.append_nil, List.cons_append, List.nil_append] at q2
 cases t2 with
 | false =>
  have e2 : ¬ (.lst la2) = (U.lst lb2) := fun h => by simpa using e2.2 h
  refine ⟨false, by simp only [U.st.injEq, List.cons.injEq, e2, and_false, false_and, Bool.false_eq_true], ?_⟩
  apply Ret.eq
  rw [jV]
  simp [cO, Tryz.f122, valC, q1, q2, oa1, oa2, ob1, ob2]
 | true =>
 have e2 := e2.1 rfl
 by_cases e3 : na3 = nb3
 rotate_left
 ·refine ⟨false, by simp [e3], ?_⟩
  apply Ret.eq
  rw [jV]
  simp [cO, Tryz.f122, valC, q1, q2, e3, oa1, oa2, ob1, ob2]
 subst e3
 by_cases e4 : ba4 = bb4
 rotate_left
 ·refine ⟨false, by simp [e4], ?_⟩
  apply Ret.eq
  rw [jV]
  simp [cO, Tryz.f122, valC, q1, q2, e4, oa1, oa2, ob1, ob2]
 subst e4
 refine ⟨true, by simp only [e1, e2], ?_⟩
 apply Ret.eq
 rw [jV]
 simp [cO, Tryz.f122, valC, q1, q2, oa1, oa2, ob1, ob2]
theorem y8 : bQ 51 (.slice shRule) :=
 jL (f := 51) (g := 122) (tS := 38) (tE := 162) (F := Tryz.f51) (op_ren (c := xk) (by kernel_rfl) Qc) rfl AZ Es (by rw [sO]; rfl) (by rw [sO]; rfl) (by rw [sO]; decide) AV
theorem vZ : bQ 215 shChange := by
 intro H cs ds u w h h'
 replace h := At_st.1 h
 obtain ⟨usa, rfl, h⟩ := h
 replace h := Ats_cons.1 h
 obtain ⟨ca0, da0, ua0, rra0, rfl, rfl, ha0, h⟩ := h
 replace h := Ats_cons.1 h
 obtain ⟨ca1, da1, ua1, rra1, rfl, rfl, ha1, h⟩ := h
 replace h := Ats_cons.1 h
 obtain ⟨ca2, da2, ua2, rra2, rfl, rfl, ha2, h⟩ := h
 replace h := Ats_cons.1 h
 obtain ⟨ca3, da3, ua3, rra3, rfl, rfl, ha3, h⟩ := h
 replace h := Ats_nil.1 h
 obtain ⟨rfl, rfl⟩ := h
 replace ha0 := At_int.1 ha0
 obtain ⟨na0, rfl, rfl, wa0⟩ := ha0
 replace ha1 := At_int.1 ha1
 obtain ⟨na1, rfl, rfl, wa1⟩ := ha1
 replace ha2 := At_str.1 ha2
 obtain ⟨sa2, rfl, rfl, wa2⟩ := ha2
 have ka3 := ha3
 replace ha3 := At_st.1 ha3
 obtain ⟨usa3_, rfl, ha3⟩ := ha3
 replace ha3 := Ats_cons.1 ha3
 obtain ⟨ca3_0, da3_0, ua3_0, rra3_0, rfl, rfl, ha3_0, ha3⟩ := ha3
 replace ha3 := Ats_cons.1 ha3
 obtain ⟨ca3_1, da3_1, ua3_1, rra3_1, rfl, rfl, ha3_1, ha3⟩ := ha3
 replace ha3 := Ats_nil.1 ha3
 obtain ⟨rfl, rfl⟩ := ha3
 have ka3_0 := ha3_0
 replace ha3_0 := At_slice.1 ha3_0
 obtain ⟨va3_0, la3_0, rfl, rfl, wa3_0, hva3_0⟩ := ha3_0
 have oa3_0 := hva3_0.one
 have ka3_1 := ha3_1
 replace ha3_1 := At_slice.1 ha3_1
 obtain ⟨va3_1, la3_1, rfl, rfl, wa3_1, hva3_1⟩ := ha3_1
 have oa3_1 := hva3_1.one
 replace h' := At_st.1 h'
 obtain ⟨usb, rfl, h'⟩ := h'
 replace h' := Ats_cons.1 h'
 obtain ⟨cb0, db0, ub0, rrb0, rfl, rfl, hb0, h'⟩ := h'
 replace h' := Ats_cons.1 h'
 obtain ⟨cb1, db1, ub1, rrb1, rfl, rfl, hb1, h'⟩ := h'
 replace h' := Ats_cons.1 h'
 obtain ⟨cb2, db2, ub2, rrb2, rfl, rfl, hb2, h'⟩ := h'
 replace h' := Ats_cons.1 h'
 obtain ⟨cb3, db3, ub3, rrb3, rfl, rfl, hb3, h'⟩ := h'
 replace h' := Ats_nil.1 h'
 obtain ⟨rfl, rfl⟩ := h'
 replace hb0 := At_int.1 hb0
 obtain ⟨nb0, rfl, rfl, wb0⟩ := hb0
 replace hb1 := At_int.1 hb1
 obtain ⟨nb1, rfl, rfl, wb1⟩ := hb1
 replace hb2 := At_str.1 hb2
 obtain ⟨sb2, rfl, rfl, wb2⟩ := hb2
 have kb3 := hb3
 replace hb3 := At_st.1 hb3
 obtain ⟨usb3_, rfl, hb3⟩ := hb3
 replace hb3 := Ats_cons.1 hb3
 obtain ⟨cb3_0, db3_0, ub3_0, rrb3_0, rfl, rfl, hb3_0, hb3⟩ := hb3
 replace hb3 := Ats_cons.1 hb3
 obtain ⟨cb3_1, db3_1, ub3_1, rrb3_1, rfl, rfl, hb3_1, hb3⟩ := hb3
 replace hb3 := Ats_nil.1 hb3
 obtain ⟨rfl, rfl⟩ := hb3
 have kb3_0 := hb3_0
 replace hb3_0 := At_slice.1 hb3_0
 obtain ⟨vb3_0, lb3_0, rfl, rfl, wb3_0, hvb3_0⟩ := hb3_0
 have ob3_0 := hvb3_0.one
 have kb3_1 := hb3_1
 replace hb3_1 := At_slice.1 hb3_1
 obtain ⟨vb3_1, lb3_1, rfl, rfl, wb3_1, hvb3_1⟩ := hb3_1
 have ob3_1 := hvb3_1.one
 by_cases e0 : na0 = nb0
 rotate_left
 ·refine ⟨false, by simp [e0], ?_⟩
  apply Ret.eq
  rw [nN]
  simp [dL, Tryz.f215, valC, e0, oa3_0, oa3_1, ob3_0, ob3_1]
 subst e0
 by_cases e1 : na1 = nb1
 rotate_left
 ·refine ⟨false, by simp [e1], ?_⟩
  apply Ret.eq
  rw [nN]
  simp [dL, Tryz.f215, valC, e1, oa3_0, oa3_1, ob3_0, ob3_1]
 subst e1
 by_cases e2 : sa2 = sb2
 rotate_left
 ·refine ⟨false, by simp [e2], ?_⟩
  apply Ret.eq
  rw [nN]
  simp [dL, Tryz.f215, valC, e2, oa3_0, oa3_1, ob3_0, ob3_1]
 subst e2
 obtain ⟨t3, e3, q3⟩ := ny H _ _ _ _ ka3 kb3
 simp only [valC, List.headD_cons, List.append_nil, List.cons_append, List.nil_append] at q3
 cases t3 with
 | false =>
  have e3 : ¬ (.st [(.lst la3_0), (.lst la3_1)]) = (U.st [(U.lst lb3_0), (U.lst lb3_1)]) := fun h => by simpa using e3.2 h
  refine ⟨false, by simp only [U.st.injEq, List.cons.injEq, e3, and_false, false_and, Bool.false_eq_true], ?_⟩
  apply Ret.eq
  rw [nN]
  simp [dL, Tryz.f215, valC, q3, oa3_0, oa3_1, ob3_0, ob3_1]
 | true =>
 have e3 := e3.1 rfl
 refine ⟨true, by simp only [e3], ?_⟩
 apply Ret.eq
 rw [nN]
 simp [dL, Tryz.f215, valC, q3, oa3_0, oa3_1, ob3_0, ob3_1]
theorem oD : bQ 123 (.slice shChange) :=
 jL (f := 123) (g := 215) (tS := 39) (tE := 164) (F := Tryz.f123) (op_ren (c := sN) (by kernel_rfl) ET) rfl yw DZ (by rw [l9]; rfl) (by rw [l9]; rfl) (by rw [l9]; decide) vZ
theorem pG : bQ 52 shChanges := by
 intro H cs ds u w h h'
 replace h := At_st.1 h
 obtain ⟨usa, rfl, h⟩ := h
 replace h := Ats_cons.1 h
 obtain ⟨ca0, da0, ua0, rra0, rfl, rfl, ha0, h⟩ := h
 replace h := Ats_cons.1 h
 obtain ⟨ca1, da1, ua1, rra1, rfl, rfl, ha1, h⟩ := h
 replace h := Ats_nil.1 h
 obtain ⟨rfl, rfl⟩ := h
 replace ha0 := At_int.1 ha0
 obtain ⟨na0, rfl, rfl, wa0⟩ := ha0
 have ka1 := ha1
 replace ha1 := At_slice.1 ha1
 obtain ⟨va1, la1, rfl, rfl, wa1, hva1⟩ := ha1
 have oa1 := hva1.one
 replace h' := At_st.1 h'
 obtain ⟨usb, rfl, h'⟩ := h'
 replace h' := Ats_cons.1 h'
 obtain ⟨cb0, db0, ub0, rrb0, rfl, rfl, hb0, h'⟩ := h'
 replace h' := Ats_cons.1 h'
 obtain ⟨cb1, db1, ub1, rrb1, rfl, rfl, hb1, h'⟩ := h'
 replace h' := Ats_nil.1 h'
 obtain ⟨rfl, rfl⟩ := h'
 replace hb0 := At_int.1 hb0
 obtain ⟨nb0, rfl, rfl, wb0⟩ := hb0
 have kb1 := hb1
 replace hb1 := At_slice.1 hb1
 obtain ⟨vb1, lb1, rfl, rfl, wb1, hvb1⟩ := hb1
 have ob1 := hvb1.one
 by_cases e0 : na0 = nb0
 rotate_left
 ·refine ⟨false, by simp [e0], ?_⟩
  apply Ret.eq
  rw [D6]
  simp [lw, Tryz.f52, valC, e0, oa1, ob1]
 subst e0
 obtain ⟨t1, e1, q1⟩ := oD H _ _ _ _ ka1 kb1
 simp only [valC, List.headD_cons, List.append_nil, List.cons_append, List.nil_append] at q1
 cases t1 with
 | false =>
  have e1 : ¬ (.lst la1) = (U.lst lb1) := fun h => by simpa using e1.2 h
  refine ⟨false, by simp only [U.st.injEq, List.cons.injEq, e1, and_false, false_and, Bool.false_eq_true], ?_⟩
  apply Ret.eq
  rw [D6]
  simp [lw, Tryz.f52, valC, q1, oa1, ob1]
 | true =>
 have e1 := e1.1 rfl
 refine ⟨true, by simp only [e1], ?_⟩
 apply Ret.eq
 rw [D6]
 simp [lw, Tryz.f52, valC, q1, oa1, ob1]
theorem jK : bQ 12 shServer := by
 intro H cs ds u w h h'
 replace h := At_st.1 h
 obtain ⟨usa, rfl, h⟩ := h
 replace h := Ats_cons.1 h
 obtain ⟨ca0, da0, ua0, rra0, rfl, rfl, ha0, h⟩ := h
 replace h := Ats_cons.1 h
 obtain ⟨ca1, da1, ua1, rra1, rfl, rfl, ha1, h⟩ := h
 replace h := Ats_cons.1 h
 obtain ⟨ca2, da2, ua2, rra2, rfl, rfl, ha2, h⟩ := h
 replace h := Ats_cons.1 h
 obtain ⟨ca3, da3, ua3, rra3, rfl, rfl, ha3, h⟩ := h
 replace h := Ats_nil.1 h
 obtain ⟨rfl, rfl⟩ := h
 have ka0 := ha0
 replace ha0 := At_st.1 ha0
 obtain ⟨usa0_, rfl, ha0⟩ := ha0
 replace ha0 := Ats_cons.1 ha0
 obtain ⟨ca0_0, da0_0, ua0_0, rra0_0, rfl, rfl, ha0_0, ha0⟩ := ha0
 replace ha0 := Ats_cons.1 ha0
 obtain ⟨ca0_1, da0_1, ua0_1, rra0_1, rfl, rfl, ha0_1, ha0⟩ := ha0
 replace ha0 := Ats_nil.1 ha0
 obtain ⟨rfl, rfl⟩ := ha0
 have ka0_0 := ha0_0
 replace ha0_0 := At_slice.1 ha0_0
 obtain ⟨va0_0, la0_0, rfl, rfl, wa0_0, hva0_0⟩ := ha0_0
 have oa0_0 := hva0_0.one
 have ka0_1 := ha0_1
 replace ha0_1 := At_slice.1 ha0_1
 obtain ⟨va0_1, la0_1, rfl, rfl, wa0_1, hva0_1⟩ := ha0_1
 have oa0_1 := hva0_1.one
 have ka1 := ha1
 replace ha1 := At_slice.1 ha1
 obtain ⟨va1, la1, rfl, rfl, wa1, hva1⟩ := ha1
 have oa1 := hva1.one
 have ka2 := ha2
 replace ha2 := At_st.1 ha2
 obtain ⟨usa2_, rfl, ha2⟩ := ha2
 replace ha2 := Ats_cons.1 ha2
 obtain ⟨ca2_0, da2_0, ua2_0, rra2_0, rfl, rfl, ha2_0, ha2⟩ := ha2
 replace ha2 := Ats_cons.1 ha2
 obtain ⟨ca2_1, da2_1, ua2_1, rra2_1, rfl, rfl, ha2_1, ha2⟩ := ha2
 replace ha2 := Ats_nil.1 ha2
 obtain ⟨rfl, rfl⟩ := ha2
 replace ha2_0 := At_int.1 ha2_0
 obtain ⟨na2_0, rfl, rfl, wa2_0⟩ := ha2_0
 have ka2_1 := ha2_1
 replace ha2_1 := At_slice.1 ha2_1
 obtain ⟨va2_1, la2_1, rfl, rfl, wa2_1, hva2_1⟩ := ha2_1
 have oa2_1 := hva2_1.one
 replace ha3 := At_str.1 ha3
 obtain ⟨sa3, rfl, rfl, wa3⟩ := ha3
 replace h' := At_st.1 h'
 obtain ⟨usb, rfl, h'⟩ := h'
 replace h' := Ats_cons.1 h'
 obtain ⟨cb0, db0, ub0, rrb0, rfl, rfl, hb0, h'⟩ := h'
 replace h' := Ats_cons.1 h'
 obtain ⟨cb1, db1, ub1, rrb1, rfl, rfl, hb1, h'⟩ := h'
 replace h' := Ats_cons.1 h'
 obtain ⟨cb2, db2, ub2, rrb2, rfl, rfl, hb2, h'⟩ := h'
 replace h' := Ats_cons.1 h'
 obtain ⟨cb3, db3, ub3, rrb3, rfl, rfl, hb3, h'⟩ := h'
 replace h' := Ats_nil.1 h'
 obtain ⟨rfl, rfl⟩ := h'
 have kb0 := hb0
 replace hb0 := At_st.1 hb0
 obtain ⟨usb0_, rfl, hb0⟩ := hb0
 replace hb0 := Ats_cons.1 hb0
 obtain ⟨cb0_0, db0_0, ub0_0, rrb0_0, rfl, rfl, hb0_0, hb0⟩ := hb0
 replace hb0 := Ats_cons.1 hb0
 obtain ⟨cb0_1, db0_1, ub0_1, rrb0_1, rfl, rfl, hb0_1, hb0⟩ := hb0
 replace hb0 := Ats_nil.1 hb0
 obtain ⟨rfl, rfl⟩ := hb0
 have kb0_0 := hb0_0
 replace hb0_0 := At_slice.1 hb0_0
 obtain ⟨vb0_0, lb0_0, rfl, rfl, wb0_0, hvb0_0⟩ := hb0_0
 have ob0_0 := hvb0_0.one
 have kb0_1 := hb0_1
 replace hb0_1 := At_slice.1 hb0_1
 obtain ⟨vb0_1, lb0_1, rfl, rfl, wb0_1, hvb0_1⟩ := hb0_1
 have ob0_1 := hvb0_1.one
 have kb1 := hb1
 replace hb1 := At_slice.1 hb1
 obtain ⟨vb1, lb1, rfl, rfl, wb1, hvb1⟩ := hb1
 have ob1 := hvb1.one
 have kb2 := hb2
 replace hb2 := At_st.1 hb2
 obtain ⟨usb2_, rfl, hb2⟩ := hb2
 replace hb2 := Ats_cons.1 hb2
 obtain ⟨cb2_0, db2_0, ub2_0, rrb2_0, rfl, rfl, hb2_0, hb2⟩ := hb2
 replace hb2 := Ats_cons.1 hb2
 obtain ⟨cb2_1, db2_1, ub2_1, rrb2_1, rfl, rfl, hb2_1, hb2⟩ := hb2
 replace hb2 := Ats_nil.1 hb2
 obtain ⟨rfl, rfl⟩ := hb2
 replace hb2_0 := At_int.1 hb2_0
 obtain ⟨nb2_0, rfl, rfl, wb2_0⟩ := hb2_0
 have kb2_1 := hb2_1
 replace hb2_1 := At_slice.1 hb2_1
 obtain ⟨vb2_1, lb2_1, rfl, rfl, wb2_1, hvb2_1⟩ := hb2_1
 have ob2_1 := hvb2_1.one
 replace hb3 := At_str.1 hb3
 obtain ⟨sb3, rfl, rfl, wb3⟩ := hb3
 obtain ⟨t0, e0, q0⟩ := AQ H _ _ _ _ ka0 kb0
 simp only [valC, List.headD_cons, List.append_nil, List.cons_append, List.nil_append] at q0
 cases t0 with
 | false =>
  have e0 : ¬ (.st [(.lst la0_0), (.lst la0_1)]) = (U.st [(U.lst lb0_0), (U.lst lb0_1)]) := fun h => by simpa using e0.2 h
  refine ⟨false, by simp only [U.st.injEq, List.cons.injEq, e0, and_false, false_and, Bool.false_eq_true], ?_⟩
  apply Ret.eq
  rw [yY]
  simp [fP, Tryz.f12, valC, q0, oa0_0, oa0_1, oa1, oa2_1, ob0_0, ob0_1, ob1, ob2_1]
 | true =>
 have e0 := e0.1 rfl
 obtain ⟨t1, e1, q1⟩ := y8 H _ _ _ _ ka1 kb1
 simp only [valC, List.headD_cons, List.append_nil, List.cons_append, List.nil_append] at q1
 cases t1 with
 | false =>
  have e1 : ¬ (.lst la1) = (U.lst lb1) := fun h => by simpa using e1.2 h
  refine ⟨false, by simp only [U.st.injEq, List.cons.injEq, e1, and_false, false_and, Bool.false_eq_true], ?_⟩
  apply Ret.eq
  rw [yY]
  simp [fP, Tryz.f12, valC, q0, q1, oa0_0, oa0_1, oa1, oa2_1, ob0_0, ob0_1, ob1, ob2_1]
 | true =>
 have e1 := e1.1 rfl
 obtain ⟨t2, e2, q2⟩ := pG H _ _ _ _ ka2 kb2
 simp only [valC, List.headD_cons, List.append_nil, List.cons_append, List.nil_append] at q2
 cases t2 with
 | false =>
  have e2 : ¬ (.st [(.int na2_0), (.lst la2_1)]) = (U.st [(.int nb2_0), (U.lst lb2_1)]) := fun h => by simpa using e2.2 h
  refine ⟨false, by simp only [U.st.injEq, List.cons.injEq, e2, and_false, false_and, Bool.false_eq_true], ?_⟩
  apply Ret.eq
  rw [yY]
  simp [fP, Tryz.f12, valC, q0, q1, q2, oa0_0, oa0_1, oa1, oa2_1, ob0_0, ob0_1, ob1, ob2_1]
 | true =>
 have e2 := e2.1 rfl
 by_cases e3 : sa3 = sb3
 rotate_left
 ·refine ⟨false, by simp [e3], ?_⟩
  apply Ret.eq
  rw [yY]
  simp [fP, Tryz.f12, valC, q0, q1, q2, e3, oa0_0, oa0_1, oa1, oa2_1, ob0_0, ob0_1, ob1, ob2_1]
 subst e3
 refine ⟨true, by simp only [e0, e1, e2], ?_⟩
 apply Ret.eq
 rw [yY]
 simp [fP, Tryz.f12, valC, q0, q1, q2, oa0_0, oa0_1, oa1, oa2_1, ob0_0, ob0_1, ob1, ob2_1]
theorem wB : bQ 83 dF := by
 intro H cs ds u w h h'
 replace h := At_st.1 h
 obtain ⟨usa, rfl, h⟩ := h
 replace h := Ats_cons.1 h
 obtain ⟨ca0, da0, ua0, rra0, rfl, rfl, ha0, h⟩ := h
 replace h := Ats_cons.1 h
 obtain ⟨ca1, da1, ua1, rra1, rfl, rfl, ha1, h⟩ := h
 replace h := Ats_cons.1 h
 obtain ⟨ca2, da2, ua2, rra2, rfl, rfl, ha2, h⟩ := h
 replace h := Ats_nil.1 h
 obtain ⟨rfl, rfl⟩ := h
 replace ha0 := At_int.1 ha0
 obtain ⟨na0, rfl, rfl, wa0⟩ := ha0
 replace ha1 := At_int.1 ha1
 obtain ⟨na1, rfl, rfl, wa1⟩ := ha1
 have ka2 := ha2
 replace ha2 := At_slice.1 ha2
 obtain ⟨va2, la2, rfl, rfl, wa2, hva2⟩ := ha2
 have oa2 := hva2.one
 replace h' := At_st.1 h'
 obtain ⟨usb, rfl, h'⟩ := h'
 replace h' := Ats_cons.1 h'
 obtain ⟨cb0, db0, ub0, rrb0, rfl, rfl, hb0, h'⟩ := h'
 replace h' := Ats_cons.1 h'
 obtain ⟨cb1, db1, ub1, rrb1, rfl, rfl, hb1, h'⟩ := h'
 replace h' := Ats_cons.1 h'
 obtain ⟨cb2, db2, ub2, rrb2, rfl, rfl, hb2, h'⟩ := h'
 replace h' := Ats_nil.1 h'
 obtain ⟨rfl, rfl⟩ := h'
 replace hb0 := At_int.1 hb0
 obtain ⟨nb0, rfl, rfl, wb0⟩ := hb0
 replace hb1 := At_int.1 hb1
 obtain ⟨nb1, rfl, rfl, wb1⟩ := hb1
 have kb2 := hb2
 replace hb2 := At_slice.1 hb2
 obtain ⟨vb2, lb2, rfl, rfl, wb2, hvb2⟩ := hb2
 have ob2 := hvb2.one
 by_cases e0 : na0 = nb0
 rotate_left
 ·refine ⟨false, by simp [e0], ?_⟩
  apply Ret.eq
  rw [Af]
  simp [jy, Tryz.f83, valC, e0, oa2, ob2]
 subst e0
 by_cases e1 : na1 = nb1
 rotate_left
 ·refine ⟨false, by simp [e1], ?_⟩
  apply Ret.eq
  rw [Af]
  simp [jy, Tryz.f83, valC, e1, oa2, ob2]
 subst e1
 obtain ⟨t2, e2, q2⟩ := jT H _ _ _ _ ka2 kb2
 simp only [valC, List.headD_cons, List.append_nil, List.cons_append, List.nil_append] at q2
 cases t2 with
 | false =>
  have e2 : ¬ (.lst la2) = (U.lst lb2) := fun h => by simpa using e2.2 h
  refine ⟨false, by simp only [U.st.injEq, List.cons.injEq, e2, and_false, false_and, Bool.false_eq_true], ?_⟩
  apply Ret.eq
  rw [Af]
  simp [jy, Tryz.f83, valC, q2, oa2, ob2]
 | true =>
 have e2 := e2.1 rfl
 refine ⟨true, by simp only [e2], ?_⟩
 apply Ret.eq
 rw [Af]
 simp [jy, Tryz.f83, valC, q2, oa2, ob2]
theorem dA : bQ 28 ai := by
 intro H cs ds u w h h'
 replace h := At_st.1 h
 obtain ⟨usa, rfl, h⟩ := h
 replace h := Ats_cons.1 h
 obtain ⟨ca0, da0, ua0, rra0, rfl, rfl, ha0, h⟩ := h
 replace h := Ats_cons.1 h
 obtain ⟨ca1, da1, ua1, rra1, rfl, rfl, ha1, h⟩ := h
 replace h := Ats_cons.1 h
 obtain ⟨ca2, da2, ua2, rra2, rfl, rfl, ha2, h⟩ := h
 replace h := Ats_nil.1 h
 obtain ⟨rfl, rfl⟩ := h
 have ka0 := ha0
 replace ha0 := At_st.1 ha0
 obtain ⟨usa0_, rfl, ha0⟩ := ha0
 replace ha0 := Ats_cons.1 ha0
 obtain ⟨ca0_0, da0_0, ua0_0, rra0_0, rfl, rfl, ha0_0, ha0⟩ := ha0
 replace ha0 := Ats_cons.1 ha0
 obtain ⟨ca0_1, da0_1, ua0_1, rra0_1, rfl, rfl, ha0_1, ha0⟩ := ha0
 replace ha0 := Ats_cons.1 ha0
 obtain ⟨ca0_2, da0_2, ua0_2, rra0_2, rfl, rfl, ha0_2, ha0⟩ := ha0
 replace ha0 := Ats_cons.1 ha0
 obtain ⟨ca0_3, da0_3, ua0_3, rra0_3, rfl, rfl, ha0_3, ha0⟩ := ha0
 replace ha0 := Ats_nil.1 ha0
 obtain ⟨rfl, rfl⟩ := ha0
 have ka0_0 := ha0_0
 replace ha0_0 := At_st.1 ha0_0
 obtain ⟨usa0_0_, rfl, ha0_0⟩ := ha0_0
 replace ha0_0 := Ats_cons.1 ha0_0
 obtain ⟨ca0_0_0, da0_0_0, ua0_0_0, rra0_0_0, rfl, rfl, ha0_0_0, ha0_0⟩ := ha0_0
 replace ha0_0 := Ats_cons.1 ha0_0
 obtain ⟨ca0_0_1, da0_0_1, ua0_0_1, rra0_0_1, rfl, rfl, ha0_0_1, ha0_0⟩ := ha0_0
 replace ha0_0 := Ats_nil.1 ha0_0
 obtain ⟨rfl, rfl⟩ := ha0_0
 have ka0_0_0 := ha0_0_0
 replace ha0_0_0 := At_slice.1 ha0_0_0
 obtain ⟨va0_0_0, la0_0_0, rfl, rfl, wa0_0_0, hva0_0_0⟩ := ha0_0_0
 have oa0_0_0 := hva0_0_0.one
 have ka0_0_1 := ha0_0_1
 replace ha0_0_1 := At_slice.1 ha0_0_1
 obtain ⟨va0_0_1, la0_0_1, rfl, rfl, wa0_0_1, hva0_0_1⟩ := ha0_0_1
 have oa0_0_1 := hva0_0_1.one
 have ka0_1 := ha0_1
 replace ha0_1 := At_slice.1 ha0_1
 obtain ⟨va0_1, la0_1, rfl, rfl, wa0_1, hva0_1⟩ := ha0_1
 have oa0_1 := hva0_1.one
 have ka0_2 := ha0_2
 replace ha0_2 := At_st.1 ha0_2
 obtain ⟨usa0_2_, rfl, ha0_2⟩ := ha0_2
 replace ha0_2 := Ats_cons.1 ha0_2
 obtain ⟨ca0_2_0, da0_2_0, ua0_2_0, rra0_2_0, rfl, rfl, ha0_2_0, ha0_2⟩ := ha0_2
 replace ha0_2 := Ats_cons.1 ha0_2
 obtain ⟨ca0_2_1, da0_2_1, ua0_2_1, rra0_2_1, rfl, rfl, ha0_2_1, ha0_2⟩ := ha0_2
 replace ha0_2 := Ats_nil.1 ha0_2
 obtain ⟨rfl, rfl⟩ := ha0_2
 replace ha0_2_0 := At_int.1 ha0_2_0
 obtain ⟨na0_2_0, rfl, rfl, wa0_2_0⟩ := ha0_2_0
 have ka0_2_1 := ha0_2_1
 replace ha0_2_1 := At_slice.1 ha0_2_1
 obtain ⟨va0_2_1, la0_2_1, rfl, rfl, wa0_2_1, hva0_2_1⟩ := ha0_2_1
 have oa0_2_1 := hva0_2_1.one
 replace ha0_3 := At_str.1 ha0_3
 obtain ⟨sa0_3, rfl, rfl, wa0_3⟩ := ha0_3
 have ka1 := ha1
 replace ha1 := At_st.1 ha1
 obtain ⟨usa1_, rfl, ha1⟩ := ha1
 replace ha1 := Ats_cons.1 ha1
 obtain ⟨ca1_0, da1_0, ua1_0, rra1_0, rfl, rfl, ha1_0, ha1⟩ := ha1
 replace ha1 := Ats_cons.1 ha1
 obtain ⟨ca1_1, da1_1, ua1_1, rra1_1, rfl, rfl, ha1_1, ha1⟩ := ha1
 replace ha1 := Ats_cons.1 ha1
 obtain ⟨ca1_2, da1_2, ua1_2, rra1_2, rfl, rfl, ha1_2, ha1⟩ := ha1
 replace ha1 := Ats_nil.1 ha1
 obtain ⟨rfl, rfl⟩ := ha1
 replace ha1_0 := At_int.1 ha1_0
 obtain ⟨na1_0, rfl, rfl, wa1_0⟩ := ha1_0
 replace ha1_1 := At_int.1 ha1_1
 obtain ⟨na1_1, rfl, rfl, wa1_1⟩ := ha1_1
 have ka1_2 := ha1_2
 replace ha1_2 := At_slice.1 ha1_2
 obtain ⟨va1_2, la1_2, rfl, rfl, wa1_2, hva1_2⟩ := ha1_2
 have oa1_2 := hva1_2.one
 replace ha2 := At_int.1 ha2
 obtain ⟨na2, rfl, rfl, wa2⟩ := ha2
 replace h' := At_st.1 h'
 obtain ⟨usb, rfl, h'⟩ := h'
 replace h' := Ats_cons.1 h'
 obtain ⟨cb0, db0, ub0, rrb0, rfl, rfl, hb0, h'⟩ := h'
 replace h' := Ats_cons.1 h'
 obtain ⟨cb1, db1, ub1, rrb1, rfl, rfl, hb1, h'⟩ := h'
 replace h' := Ats_cons.1 h'
 obtain ⟨cb2, db2, ub2, rrb2, rfl, rfl, hb2, h'⟩ := h'
 replace h' := Ats_nil.1 h'
 obtain ⟨rfl, rfl⟩ := h'
 have kb0 := hb0
 replace hb0 := At_st.1 hb0
 obtain ⟨usb0_, rfl, hb0⟩ := hb0
 replace hb0 := Ats_cons.1 hb0
 obtain ⟨cb0_0, db0_0, ub0_0, rrb0_0, rfl, rfl, hb0_0, hb0⟩ := hb0
 replace hb0 := Ats_cons.1 hb0
 obtain ⟨cb0_1, db0_1, ub0_1, rrb0_1, rfl, rfl, hb0_1, hb0⟩ := hb0
 replace hb0 := Ats_cons.1 hb0
 obtain ⟨cb0_2, db0_2, ub0_2, rrb0_2, rfl, rfl, hb0_2, hb0⟩ := hb0
 replace hb0 := Ats_cons.1 hb0
 obtain ⟨cb0_3, db0_3, ub0_3, rrb0_3, rfl, rfl, hb0_3, hb0⟩ := hb0
 replace hb0 := Ats_nil.1 hb0
 obtain ⟨rfl, rfl⟩ := hb0
 have kb0_0 := hb0_0
 replace hb0_0 := At_st.1 hb0_0
 obtain ⟨usb0_0_, rfl, hb0_0⟩ := hb0_0
 replace hb0_0 := Ats_cons.1 hb0_0
 obtain ⟨cb0_0_0, db0_0_0, ub0_0_0, rrb0_0_0, rfl, rfl, hb0_0_0, hb0_0⟩ := hb0_0
 replace hb0_0 := Ats_cons.1 hb0_0
 obtain ⟨cb0_0_1, db0_0_1, ub0_0_1, rrb0_0_1, rfl, rfl, hb0_0_1, hb0_0⟩ := hb0_0
 replace hb0_0 := Ats_nil.1 hb0_0
 obtain ⟨rfl, rfl⟩ := hb0_0
 have kb0_0_0 := hb0_0_0
 replace hb0_0_0 := At_slice.1 hb0_0_0
 obtain ⟨vb0_0_0, lb0_0_0, rfl, rfl, wb0_0_0, hvb0_0_0⟩ := hb0_0_0
 have ob0_0_0 := hvb0_0_0.one
 have kb0_0_1 := hb0_0_1
 replace hb0_0_1 := At_slice.1 hb0_0_1
 obtain ⟨vb0_0_1, lb0_0_1, rfl, rfl, wb0_0_1, hvb0_0_1⟩ := hb0_0_1
 have ob0_0_1 := hvb0_0_1.one
 have kb0_1 := hb0_1
 replace hb0_1 := At_slice.1 hb0_1
 obtain ⟨vb0_1, lb0_1, rfl, rfl, wb0_1, hvb0_1⟩ := hb0_1
 have ob0_1 := hvb0_1.one
 have kb0_2 := hb0_2
 replace hb0_2 := At_st.1 hb0_2
 obtain ⟨usb0_2_, rfl, hb0_2⟩ := hb0_2
 replace hb0_2 := Ats_cons.1 hb0_2
 obtain ⟨cb0_2_0, db0_2_0, ub0_2_0, rrb0_2_0, rfl, rfl, hb0_2_0, hb0_2⟩ := hb0_2
 replace hb0_2 := Ats_cons.1 hb0_2
 obtain ⟨cb0_2_1, db0_2_1, ub0_2_1, rrb0_2_1, rfl, rfl, hb0_2_1, hb0_2⟩ := hb0_2
 replace hb0_2 := Ats_nil.1 hb0_2
 obtain ⟨rfl, rfl⟩ := hb0_2
 replace hb0_2_0 := At_int.1 hb0_2_0
 obtain ⟨nb0_2_0, rfl, rfl, wb0_2_0⟩ := hb0_2_0
 have kb0_2_1 := hb0_2_1
 replace hb0_2_1 := At_slice.1 hb0_2_1
 obtain ⟨vb0_2_1, lb0_2_1, rfl, rfl, wb0_2_1, hvb0_2_1⟩ := hb0_2_1
 have ob0_2_1 := hvb0_2_1.one
 replace hb0_3 := At_str.1 hb0_3
 obtain ⟨sb0_3, rfl, rfl, wb0_3⟩ := hb0_3
 have kb1 := hb1
 replace hb1 := At_st.1 hb1
 obtain ⟨usb1_, rfl, hb1⟩ := hb1
 replace hb1 := Ats_cons.1 hb1
 obtain ⟨cb1_0, db1_0, ub1_0, rrb1_0, rfl, rfl, hb1_0, hb1⟩ := hb1
 replace hb1 := Ats_cons.1 hb1
 obtain ⟨cb1_1, db1_1, ub1_1, rrb1_1, rfl, rfl, hb1_1, hb1⟩ := hb1
 replace hb1 := Ats_cons.1 hb1
 obtain ⟨cb1_2, db1_2, ub1_2, rrb1_2, rfl, rfl, hb1_2, hb1⟩ := hb1
 replace hb1 := Ats_nil.1 hb1
 obtain ⟨rfl, rfl⟩ := hb1
 replace hb1_0 := At_int.1 hb1_0
 obtain ⟨nb1_0, rfl, rfl, wb1_0⟩ := hb1_0
 replace hb1_1 := At_int.1 hb1_1
 obtain ⟨nb1_1, rfl, rfl, wb1_1⟩ := hb1_1
 have kb1_2 := hb1_2
 replace hb1_2 := At_slice.1 hb1_2
 obtain ⟨vb1_2, lb1_2, rfl, rfl, wb1_2, hvb1_2⟩ := hb1_2
 have ob1_2 := hvb1_2.one
 replace hb2 := At_int.1 hb2
 obtain ⟨nb2, rfl, rfl, wb2⟩ := hb2
 obtain ⟨t0, e0, q0⟩ := jK H _ _ _ _ ka0 kb0
 simp only [valC, List.headD_cons, List.append_nil, List.cons_append, List.nil_append] at q0
 cases t0 with
 | false =>
  have e0 : ¬ (.st [(.st [(.lst la0_0_0), (.lst la0_0_1)]), (.lst la0_1), (.st [(.int na0_2_0), (.lst la0_2_1)]), (.str sa0_3)]) = (U.st [(U.st [(U.lst lb0_0_0), (U.lst lb0_0_1)]), (U.lst lb0_1), (U.st [(.int nb0_2_0), (U.lst lb0_2_1)]), (U.str sb0_3)]) := fun h => by simpa using e0.2 h
  refine ⟨false, by simp only [U.st.injEq, List.cons.injEq, e0, and_false, false_and, Bool.false_eq_true], ?_⟩
  apply Ret.eq
  rw [Am]
  simp [iY, Tryz.f28, valC, q0, oa0_0_0, oa0_0_1, oa0_1, oa0_2_1, oa1_2, ob0_0_0, ob0_0_1, ob0_1, ob0_2_1, ob1_2]
 | true =>
 have e0 := e0.1 rfl
 obtain ⟨t1, e1, q1⟩ := wB H _ _ _ _ ka1 kb1
 simp only [valC, List.headD_cons, List.append_nil, List.cons_append, List.nil_append] at q1
 cases t1 with
 | false =>
  have e1 : ¬ (.st [(.int na1_0), (.int na1_1), (.lst la1_2)]) = (U.st [(.int nb1_0), (.int nb1_1), (U.lst lb1_2)]) := fun h => by simpa using e1.2 h
  refine ⟨false, by simp only [U.st.injEq, List.cons.injEq, e1, and_false, false_and, Bool.false_eq_true], ?_⟩
  apply Ret.eq
  rw [Am]
  simp [iY, Tryz.f28, valC, q0, q1, oa0_0_0, oa0_0_1, oa0_1, oa0_2_1, oa1_2, ob0_0_0, ob0_0_1, ob0_1, ob0_2_1, ob1_2]
 | true =>
 have e1 := e1.1 rfl
 by_cases e2 : na2 = nb2
 rotate_left
 ·refine ⟨false, by simp [e2], ?_⟩
  apply Ret.eq
  rw [Am]
  simp [iY, Tryz.f28, valC, q0, q1, e2, oa0_0_0, oa0_0_1, oa0_1, oa0_2_1, oa1_2, ob0_0_0, ob0_0_1, ob0_1, ob0_2_1, ob1_2]
 subst e2
 refine ⟨true, by simp only [e0, e1], ?_⟩
 apply Ret.eq
 rw [Am]
 simp [iY, Tryz.f28, valC, q0, q1, oa0_0_0, oa0_0_1, oa0_1, oa0_2_1, oa1_2, ob0_0_0, ob0_0_1, ob0_1, ob0_2_1, ob1_2]
end Go.Proofs.Try1
end
