/- Part 12 of the proof of a law: the interpreter, its soundness, and what functions of the program compute over it. Conditions: none but those that each theorem names. -/
import Derived.Test.YtamgeahibepfnaaGreatDoorQ11
import Derived.Test.YtamgeahibepfnaaGreatDoorQ09
import Derived.Test.YtamgeahibepfnaaGreatDoorQ06
import Derived.Test.YtamgeahibepfnaaGreatDoorQ08

set_option linter.all false
set_option maxRecDepth 20000
set_option maxHeartbeats 40000000
section
namespace Go.Proofs.Try1
open Go Go.Lite
attribute [-simp] aqY arP
attribute [local simp] arb arN aq6 aq9 aq7 aqQ
attribute [local simp low] ara
def ar0 (H : List Ob) (vx vd va : V) (i : Nat) (bad : Bool) : List Ob := H ++ [.mk true 5 [vx, vd, va, .int .i64 i, .bool bad]]
theorem asM {H : List Ob} {vx vd va : V} {i : Nat} {bad : Bool} : (ar0 H vx vd va i bad)[H.length]? = some (.mk true 5 [vx, vd, va, .int .i64 i, .bool bad]) := get_last
theorem atw {t : Str} : decide ((40 : Int) < (t.length : Int)) = !atm t := by
 unfold atm
 by_cases h : t.length ≤ 40
 ·have : ¬ (40 : Int) < (t.length : Int) := by omega
  simp [h, this]
 ·have : (40 : Int) < (t.length : Int) := by omega
  simp [h, this]
theorem az0 {H : List Ob} {v : V} {xs : List PPart} (h : ap9 H v xs) {i : Nat} {x : PPart} (hx : xs[i]? = some x) : ∃ id o, id < H.length ∧
  (∀ (e s b : Nat) (z : List V) (ty : Nat → LT) (k : IntKind), (ty e).size = 3 → aqU ⟨.slice e, s, b, z⟩ ty (.val v) (.int k i) = some (.val (.ptr (some (id, o))))) ∧
  (∀ T' : List Ob, ∀ T : LT, T.many 3 → ∀ r c, loadAt T ⟨r, c, H ++ T'⟩ (.hp id o) = some (.agg x.cs)) := by
 obtain ⟨id, o, own, cells, e1, e2, e3, e4⟩ := ASl.idx h hx (by decide)
 obtain ⟨e4, _⟩ := aCo.1 e4
 exact ⟨id, o, (List.getElem?_eq_some_iff.1 e2).1, e1, fun T' => awf (aqf _ _ e2) e3 (by decide) e4⟩
theorem aL8 {a b : Int} {H : List Ob} : callW C 320 [.int .i64 a, .int .i64 b] H = some (.int .i64 (min a b), H) := by
 apply Ret.eq
 rw [aLv]
 by_cases g : a < b
 ·have e : min a b = a := by omega
  simp [awC, Tryz.f320, g, e]
 ·have e : min a b = b := by omega
  simp [awC, Tryz.f320, g, e]
theorem aJ1 {H : List Ob} {vx vd va : V} {f : List PPart} {e : PEntry} (hx : ap9 H vx f) (hd : aq2 H vd e.dn) (ha : aqO H va e.attrs) (he : EntryOk e) (hf : f.length ≤ 12) : ∀ d i q bad t b, aqz f d i = some q → avL f e d i = some (t, b, q.1) → d ≤ 5 →
  callW C 243 [.ptr (some (H.length, 0))] (ar0 H vx vd va i bad) = some (.str t, ar0 H vx vd va q.1 (bad || !b)) := by
 intro d
 induction d with
 | zero => intro i q bad t b h; cases h
 | succ d ih =>
  intro i q bad t b hq hv hd5
  have hi0 := arn _ _ _ hq
  suffices hs : Ret C 243 [.ptr (some (H.length, 0))] (ar0 H vx vd va i bad) fun r G' => r = .str t ∧ G' = ar0 H vx vd va q.1 (bad || !b) by
   obtain ⟨r, G', h, rfl, rfl⟩ := hs
   exact h
  rw [aKm]
  unfold aqz at hq
  unfold avL at hv
  cases hn : f[i]? with
  | none => rw [hn] at hq; cases hq
  | some p =>
   rw [hn] at hq hv
   simp only at hq hv
   split at hq
   case isFalse => cases hq
   rename_i hok
   have hok := atn.1 hok
   have hil : i < f.length := (List.getElem?_eq_some_iff.1 hn).1
   have hw : IntKind.i64.wrap ((i : Int) + 1) = ((i : Int) + 1) := wrap_i64 (by omega) (by omega)
   obtain ⟨idp, op, hidp, e1, lm⟩ := az0 hx hn
   have hone := hx.one
   have hod := hd.one
   have hoa := ha.one
   have len0 : ∀ j c, (ar0 H vx vd va j c).length = H.length + 1 := fun j c => by unfold ar0; simp
   have hidl : ∀ j c, H.length < (ar0 H vx vd va j c).length := fun j c => by rw [len0]; omega
   have hidl2 : ∀ j c, idp < (ar0 H vx vd va j c).length := fun j c => by rw [len0]; omega
   have g0 : ∀ j c, _ := fun j c => aqt (o := 0) (v := vx) (asM (H := H) (vx := vx) (vd := vd) (va := va) (i := j) (bad := c)) rfl
   have g3 : ∀ j c, _ := fun j c => aqt (o := 3) (v := .int .i64 (j : Nat)) (asM (H := H) (vx := vx) (vd := vd) (va := va) (i := j) (bad := c)) rfl
   have g4 : ∀ j c, _ := fun j c => aqt (o := 4) (v := .bool c) (asM (H := H) (vx := vx) (vd := vd) (va := va) (i := j) (bad := c)) rfl
   have lp : ∀ j c, ∀ T : LT, T.many 3 → ∀ r c', loadAt T ⟨r, c', ar0 H vx vd va j c⟩ (.hp idp op) = some (.agg p.cs) := fun j c => lm _
   have st3 : ∀ c, _ := fun c => store1 (o := 3) (v := .int .i64 ((i : Int) + 1)) (asM (H := H) (vx := vx) (vd := vd) (va := va) (i := i) (bad := c)) (by simp) rfl rfl
   have st4 : ∀ j c c2, _ := fun j c c2 => store1 (o := 4) (v := .bool c2) (asM (H := H) (vx := vx) (vd := vd) (va := va) (i := j) (bad := c)) (by simp) rfl rfl
   have e3 : ∀ c, (ar0 H vx vd va i c).set H.length (.mk true 5 ([vx, vd, va, .int .i64 i, .bool c].set 3 (.int .i64 ((i : Int) + 1)))) = ar0 H vx vd va (i + 1) c := fun c => by unfold ar0; rw [arh]; rfl
   have e4 : ∀ (j : Nat) c c2, (ar0 H vx vd va j c).set H.length (.mk true 5 ([vx, vd, va, .int .i64 j, .bool c].set 4 (.bool c2))) = ar0 H vx vd va j c2 := fun j c c2 => by unfold ar0; rw [arh]; rfl
   simp only [e3] at st3
   simp only [e4] at st4
   have hgc : ∀ j c, gcH (ar0 H vx vd va i bad) (ar0 H vx vd va j c) (.str t) = ar0 H vx vd va j c := fun j c => aDr (by rw [len0, len0])
   by_cases o1 : p.op = 1
   ·rw [if_pos o1] at hv
    have hm : p.many = 0 := by unfold PPart.many; simp [o1]
    rw [hm] at hq
    cases hq
    cases hv
    have hlf := atw (t := p.text)
    cases bad <;> simp [arT, Tryz.f243, o1, hidl, hidl2, g0, g3, g4, e1, hone, lp, st3, st4, hw, hlf, hgc, apN, apG, apQ, apE, apR, aiB, akl, List.lookup]
   rw [if_neg o1] at hv
   by_cases o2 : p.op = 2
   ·rw [if_pos o2] at hv
    have hm : p.many = 0 := by unfold PPart.many; simp [o2]
    rw [hm] at hq
    cases hq
    cases hv
    have hlf := atw (t := atV e p.text)
    have lE : ∀ j c, _ := fun j c => awf (o := 1) (n := 2) (asM (H := H) (vx := vx) (vd := vd) (va := va) (i := j) (bad := c)) (by simp) (by decide) rfl
    simp at lE
    obtain ⟨w, c1, hwv⟩ := aRt (H := ar0 H vx vd va (i + 1) bad) (l := e.attrs) (t := p.text) (v' := vd) ha.ext hod.2 hod.1
    cases hv1 : valsOf e.attrs p.text with
    | nil =>
     rw [hv1] at hwv
     have hat : atV e p.text = [] := by unfold atV; rw [hv1]; rfl
     rw [hat] at hlf hgc ⊢
     have hfn : atm [] = true := rfl
     cases bad <;> simp [arT, Tryz.f243, o1, o2, hfn, lE, hod, hoa, c1, hwv.len, hidl, hidl2, g0, g3, g4, e1, hone, lp, st3, st4, hw, hlf, hgc, apN, apG, apQ, apE, apR, aiB, akl, List.lookup]
    | cons s0 l0 =>
     rw [hv1] at hwv
     have hat : atV e p.text = s0 := by unfold atV; rw [hv1]; rfl
     obtain ⟨ids, os, e5', l5, _⟩ := aqG hwv (i := 0) (s := s0) rfl
     have e5 : ∀ (e s b : Nat) (z : List V) (ty : Nat → LT) (k : IntKind), (ty e).size = 1 → aqU ⟨.slice e, s, b, z⟩ ty (.val w) (.int k 0) = some (.val (.ptr (some (ids, os)))) := e5'
     rw [hat] at hlf hgc ⊢
     cases bad <;> simp [arT, Tryz.f243, o1, o2, lE, hod, hoa, c1, hwv.len, e5, l5, hidl, hidl2, g0, g3, g4, e1, hone, lp, st3, st4, hw, hlf, hgc, apN, apG, apQ, apE, apR, aiB, akl, List.lookup]
   rw [if_neg o2] at hv
   have hp5 : 40 * 2 ^ d ≤ 1280 := by
    have : 2 ^ d ≤ 2 ^ 5 := Nat.pow_le_pow_right (by decide) (by omega)
    omega
   have hMs : ∀ n, n ≤ 100000 → n ≤ maxStr := fun n h => by unfold maxStr; omega
   cases h1 : aqz f d (i + 1) with
   | none =>
    exfalso
    by_cases m1 : p.many = 1
    ·rw [m1] at hq; simp only [aqm, h1] at hq; cases hq
    ·have m2 : p.many = 2 := by
      have := hok.1
      have := hok.2.1
      unfold PPart.many at m1 ⊢
      split
      ·rename_i hh; rw [if_pos hh] at m1; exact absurd rfl m1
      ·rename_i hh; rw [if_pos (by omega)]
     rw [m2] at hq; simp only [aqm, h1] at hq; cases hq
   | some q1 =>
   obtain ⟨a, fa, v1, v2⟩ := asE he d (i + 1) q1 h1
   rw [v1] at hv
   simp only at hv
   have k1 := ih (i + 1) q1 bad a fa h1 v1 (by omega)
   by_cases m1 : p.many = 1
   ·rw [m1] at hq hv
    simp only [aqm, h1, if_true] at hq hv
    cases hq
    cases hv
    have hop : p.op = 3 ∨ p.op = 4 ∨ p.op = 7 := by
     have := hok.1
     have := hok.2.1
     unfold PPart.many at m1
     split at m1
     ·assumption
     ·split at m1 <;> cases m1
    have hlf := atw (t := unT p a)
    have hbb : ∀ b1 b2 b3 : Bool, (b1 || !(b2 && b3)) = ((b1 || !b2) || !b3) := by decide
    rw [hbb]
    generalize (bad || !fa) = bad1 at k1 ⊢
    rcases hop with o3 | o4 | o7
    ·have hu : unT p a = a.map (aq3 false) := by unfold unT; rw [if_pos o3]
     rw [hu] at hlf hgc ⊢
     simp only [List.length_map] at hlf
     have c1 := aEf (t := a) (up := false) (H := ar0 H vx vd va q1.1 bad1) (by omega)
     cases bad1 <;> simp [arT, Tryz.f243, o3, k1, c1, hidl, hidl2, g0, g3, g4, e1, hone, lp, st3, st4, hw, hlf, hgc, apN, apG, apQ, apE, apR, aiB, akl, List.lookup]
    ·have hu : unT p a = a.map (aq3 true) := by unfold unT; rw [if_neg (by omega), if_pos o4]
     rw [hu] at hlf hgc ⊢
     simp only [List.length_map] at hlf
     have c1 := aEf (t := a) (up := true) (H := ar0 H vx vd va q1.1 bad1) (by omega)
     cases bad1 <;> simp [arT, Tryz.f243, o4, k1, c1, hidl, hidl2, g0, g3, g4, e1, hone, lp, st3, st4, hw, hlf, hgc, apN, apG, apQ, apE, apR, aiB, akl, List.lookup]
    ·have hu : unT p a = a.take p.n.toNat := by unfold unT; rw [if_neg (by omega), if_neg (by omega)]
     rw [hu] at hlf hgc ⊢
     rw [List.length_take] at hlf
     have c1 := aL8 (a := p.n) (b := (a.length : Int)) (H := ar0 H vx vd va q1.1 bad1)
     have hn0 : 0 ≤ p.n := hok.2.2.2.1
     have hmn : (0 : Int) ≤ min p.n (a.length : Int) := by omega
     have hmt : (min p.n (a.length : Int)).toNat ≤ a.length := by omega
     have htk : a.take (min p.n (a.length : Int)).toNat = a.take p.n.toNat := by
      by_cases hh : p.n ≤ (a.length : Int)
      ·rw [show min p.n (a.length : Int) = p.n by omega]
      ·rw [show min p.n (a.length : Int) = (a.length : Int) by omega, Int.toNat_natCast, List.take_length, List.take_of_length_le (by omega)]
     cases bad1 <;> simp [arT, Tryz.f243, o7, k1, c1, hmn, hmt, htk, hidl, hidl2, g0, g3, g4, e1, hone, lp, st3, st4, hw, hlf, hgc, apN, apG, apQ, apE, apR, aiB, akl, List.lookup]
   have hop : p.op = 5 ∨ p.op = 6 := by
    have := hok.1
    have := hok.2.1
    unfold PPart.many at m1
    by_cases hh : p.op = 3 ∨ p.op = 4 ∨ p.op = 7
    ·rw [if_pos hh] at m1; exact absurd rfl m1
    ·omega
   have m2 : p.many = 2 := by unfold PPart.many; rw [if_neg (by omega), if_pos hop]
   rw [m2] at hq hv
   simp only [aqm, h1] at hq
   simp only [show ¬ (2 = 1) by decide, if_false] at hv
   cases h2 : aqz f d q1.1 with
   | none => rw [h2] at hq; cases hq
   | some q2 =>
   rw [h2] at hq
   obtain ⟨b', fb, v3, v4⟩ := asE he d q1.1 q2 h2
   rw [v3] at hv
   simp only at hv
   cases hq
   cases hv
   have k2 := ih q1.1 q2 (bad || !fa) b' fb h2 v3 (by omega)
   have hbb : ∀ b1 b2 b3 b4 : Bool, (b1 || !((b2 && b3) && b4)) = (((b1 || !b2) || !b3) || !b4) := by decide
   rw [hbb]
   have hlf := atw (t := atE p a b')
   generalize (bad || !fa) = bad1 at k1 k2 ⊢
   generalize (bad1 || !fb) = bad2 at k2 ⊢
   rcases hop with o5 | o6
   ·have hu : atE p a b' = a ++ b' := by unfold atE; rw [if_pos o5]
    rw [hu] at hlf hgc ⊢
    have hms := hMs (a.length + b'.length) (by omega)
    rw [List.length_append, Int.natCast_add] at hlf
    cases bad2 <;> simp [arT, Tryz.f243, o5, k1, k2, hms, hidl, hidl2, g0, g3, g4, e1, hone, lp, st3, st4, hw, hlf, hgc, apN, apG, apQ, apE, apR, aiB, akl, List.lookup]
   ·by_cases ga : a = []
    ·have hu : atE p a b' = b' := by unfold atE; rw [if_neg (by omega), if_pos ga]
     rw [hu] at hlf hgc ⊢
     subst ga
     cases bad2 <;> simp [arT, Tryz.f243, o6, k1, k2, hidl, hidl2, g0, g3, g4, e1, hone, lp, st3, st4, hw, hlf, hgc, apN, apG, apQ, apE, apR, aiB, akl, List.lookup]
    ·have hu : atE p a b' = a := by unfold atE; rw [if_neg (by omega), if_neg ga]
     rw [hu] at hlf hgc ⊢
     have gae : List.isEmpty a = false := by simpa using ga
     cases bad2 <;> simp [arT, Tryz.f243, o6, k1, k2, ga, gae, hidl, hidl2, g0, g3, g4, e1, hone, lp, st3, st4, hw, hlf, hgc, apN, apG, apQ, apE, apR, aiB, akl, List.lookup]
theorem aDF {f : List PPart} {e : PEntry} (he : EntryOk e) (hf : arA f) : ∃ t b, avL f e 5 0 = some (t, b, f.length) ∧ t.length ≤ 1280 := by
 obtain ⟨_, x, hx⟩ := hf
 obtain ⟨t, b, h1, h2⟩ := asE he 5 0 _ hx
 exact ⟨t, b, h1, by simpa using h2⟩
theorem azv {H : List Ob} {vx vd va : V} {f : List PPart} {e : PEntry} {t : Str} {b : Bool} (hx : ap9 H vx f) (hd : aq2 H vd e.dn) (ha : aqO H va e.attrs) (he : EntryOk e) (hf : arA f) (hv : avL f e 5 0 = some (t, b, f.length)) :
  callW C 152 [vx, .agg [vd, va]] H = some (.tup [.str t, .bool b], H) := by
 apply Ret.eq
 rw [aHx]
 have hox := hx.one
 have hod := hd.one
 have hoa := ha.one
 obtain ⟨h12, x, hdp⟩ := hf
 have c1 := aJ1 hx hd ha he h12 5 0 (f.length, x) false t b hdp hv (by decide)
 have hK : H ++ [.mk true 5 [vx, vd, va, .int .i64 0, .bool false]] = ar0 H vx vd va 0 false := rfl
 have hidl : ∀ j c, H.length < (ar0 H vx vd va j c).length := fun j c => by unfold ar0; simp
 have g4 : ∀ j c, _ := fun j c => aqt (o := 4) (v := .bool c) (asM (H := H) (vx := vx) (vd := vd) (va := va) (i := j) (bad := c)) rfl
 have hgc : ∀ j c b', gcH H (ar0 H vx vd va j c) (.tup [.str t, .bool b']) = H := fun j c b' => as8 (by simp [asC, arC])
 cases b <;> simp [ayk, Tryz.f152, hox, hod, hoa, aqC, apN, apG, apQ, apE, apR, setRange, hK, c1, hidl, g4, hgc, aiB, akl, List.lookup]
theorem az8 {t : Str} {c : UInt8} {H : List Ob} : callW C 322 [.str t, .int .u8 c.toNat] H = some (.int .i64 (Lib.indexByte t c), H) := by
 have p : callW C 383 [.str t, .int .u8 c.toNat] H = some (.int .i64 (Lib.indexByte t c), H) := by
  rw [asI (pr := auq) rfl]
  simp [auq]
 have q : callW C 351 [.str t, .int .u8 c.toNat] H = some (.int .i64 (Lib.indexByte t c), H) := by
  apply Ret.eq
  rw [aJl]
  simp [ay6, Tryz.f351, p]
 apply Ret.eq
 rw [aKU]
 simp [azy, Tryz.f322, q]
abbrev aEU : Str := [44, 43, 34, 92, 60, 62, 59, 61]
theorem aCw {c : UInt8} : 0 ≤ Lib.indexByte aEU c ↔ asY c = true := by
 rw [ave]
 simp [asY, aEU, or_assoc]
theorem aBs {t : Str} {i : Nat} {c : UInt8} {H : List Ob} (hc : t[i]? = some c) (hl : t.length ≤ 1000000) : callW C 245 [.str t, .int .i64 i] H = some (.bool (aqA t i c), H) := by
 apply Ret.eq
 rw [aIK]
 obtain ⟨hi, hc'⟩ := List.getElem?_eq_some_iff.1 hc
 have hw : IntKind.i64.wrap ((t.length : Int) - 1) = (t.length : Int) - 1 := wrap_i64 (by omega) (by omega)
 have c1 := az8 (t := aEU) (c := c) (H := H)
 by_cases ho : asY c = true
 ·have h0 := aCw.2 ho
  simp [ast, Tryz.f245, hi, hc', c1, h0, aqA, ho]
 have h0 : ¬ 0 ≤ Lib.indexByte aEU c := fun h => ho (aCw.1 h)
 have ho' : asY c = false := by simpa using ho
 by_cases h9 : c = 35
 ·have e9 : (c.toNat : Int) = 35 := by rw [h9]; rfl
  rw [e9] at c1
  by_cases g : i = 0
  ·have ha : aqA t i c = true := by simp [aqA, h9, g]
   have g' : (i : Int) = 0 := by omega
   subst g
   simp [ast, Tryz.f245, hi, hc', e9, c1, h0, ha]
  ·have g' : ¬ (i : Int) = 0 := by omega
   have ha : aqA t i c = false := by simp [aqA, asY, h9, g]
   simp [ast, Tryz.f245, hi, hc', e9, c1, h0, ha, g, g']
 have e9 := atT h9
 simp at e9
 by_cases h10 : c = 32
 ·have e10 : (c.toNat : Int) = 32 := by rw [h10]; rfl
  rw [e10] at c1
  by_cases g : i = 0
  ·have ha : aqA t i c = true := by simp [aqA, h10, g]
   subst g
   simp [ast, Tryz.f245, hi, hc', e10, c1, h0, ha]
  ·have g' : ¬ (i : Int) = 0 := by omega
   by_cases g2 : i + 1 = t.length
   ·have g2' : IntKind.i64.wrap ((t.length : Int) - 1) = (i : Int) := by rw [hw]; omega
    have ha : aqA t i c = true := by simp [aqA, h10, g2]
    simp [ast, Tryz.f245, hi, hc', e10, c1, h0, ha, g, g', g2']
   ·have g2' : ¬ (i : Int) = (t.length : Int) - 1 := by omega
    have ha : aqA t i c = false := by simp [aqA, asY, h10, g, g2]
    simp [ast, Tryz.f245, hi, hc', e10, c1, h0, ha, g, g', g2', hw]
 have e10 := atT h10
 simp at e10
 simp [ast, Tryz.f245, hi, hc', c1, h0, aqA, ho', h9, h10, e9, e10]
theorem aEL {H G : List Ob} {v : V} {b t : Str} (h : Bs H G v b) (hb : b.length + t.length ≤ 1000000000) {z : List V} {d : LD} (hz : z.length = 1) : ∃ v' G', aql ⟨d, 1, 1, z⟩ G v (.str t) = some (v', G') ∧ Bs H G' v' (b ++ t) := by
 obtain ⟨T, id, h0, h1, h2, h3⟩ := h
 have hg : Gs H G v (bys b) := ⟨T, id, h0, h1, h2, by rw [h3, asw]⟩
 have hn : aqc ⟨d, 1, 1, z⟩ G (.str t) = some (bys t, (bys t).length) := by simp [aqc, bys]
 obtain ⟨v', G', ha, T', id', e0, e1, e2, e3⟩ := hg.many hn (by simp [bys]) (by simp [asw]; unfold ap0; omega) (by decide) (by decide) hz
 exact ⟨v', G', ha, T', id', e0, e1, by rw [axk]; exact e2, by rw [e3]; simp [asw]⟩
theorem aDK {H : List Ob} {v : V} {dn : List PRdn} (h : aq2 H v dn) (hd : DnOk dn) : callW C 155 [v] H = some (.str (txt dn), H) := by
 apply Ret.eq
 rw [aKt]
 have hb : dn.length ≤ 6 := hd.2
 simp [azn, Tryz.f155, apR, apN, apG, St.new, h.len]
 refine apT (fun k σ => ∃ (i : Nat) (r : Nat → R) (c : Nat) (G : List Ob) (vb : V), i + k = dn.length ∧ σ = ⟨r, c, G⟩ ∧ r 0 = .val v ∧ r 3 = .val vb ∧ r 8 = .val v ∧ r 9 = .val (.int .i64 dn.length) ∧ r 10 = .val (.int .i64 i) ∧ Bs H G vb (arO dn i)) ?_ dn.length _ ⟨0, _, 0, _, _, by simp, rfl, by simp, by simp, by simp, by simp, by simp, Bs.init⟩
 rintro k σ ⟨i, r, c, G, vb, hik, rfl, r0, r3, r8, r9, r10, hB⟩
 have hbl := aw6 hd i
 cases k with
 | zero =>
  have hi : i = dn.length := by omega
  subst hi
  obtain ⟨TT, rfl⟩ := hB.ext
  obtain ⟨id, rfl, hst, hsl⟩ := hB.cut (n := (arO dn dn.length).length) (Nat.le_refl _)
  rw [List.take_length] at hsl
  simp [r0, r3, r8, r9, r10, hsl, hst, isByte, arD, txt]
 | succ k =>
  have hi : i < dn.length := by omega
  obtain ⟨x, hx⟩ : ∃ c, dn[i]? = some c := ⟨dn[i], by simp [hi]⟩
  have hw : IntKind.i64.wrap ((i : Int) + 1) = ((i : Int) + 1) := wrap_i64 (by omega) (by omega)
  obtain ⟨id, o, hid, e1, _, lm⟩ := aCq h hx
  obtain ⟨TT, hG⟩ := hB.ext
  have lm0 := lm
  have lm := lm TT
  rw [← hG] at lm
  have q1 := (hd.1 i x hx).1.2.1
  have q2 := (hd.1 i x hx).2.2.1
  have hts := ayg hx
  obtain ⟨v1, G1, hB1, hcase⟩ : ∃ v1 G1, Bs H G1 v1 (if 0 < i then arO dn i ++ [44] else arO dn i) ∧ ((0 < i ∧ aql ⟨.int .u8, 1, 1, [.int .u8 0]⟩ (G ++ [.mk true 1 [.int .u8 44]]) vb (.slc (some (G.length, 0)) 1) = some (v1, G1)) ∨ (¬ 0 < i ∧ (vb = v1 ∧ G = G1))) := by
   by_cases g : 0 < i
   ·obtain ⟨v', G', ha, hB'⟩ := hB.push (by omega) (c := 44) (d := .int .u8) (z := [.int .u8 0]) rfl
    rw [if_pos g]
    exact ⟨v', G', hB', .inl ⟨g, ha⟩⟩
   ·rw [if_neg g]
    exact ⟨vb, G, hB, .inr ⟨g, rfl, rfl⟩⟩
  have hl1 : (if 0 < i then arO dn i ++ [44] else arO dn i).length ≤ 102 * i + 1 := by
   split
   ·simp; omega
   ·omega
  generalize (if 0 < i then arO dn i ++ [44] else arO dn i) = b1 at hts hB1 hl1
  obtain ⟨T1, hG1⟩ := hB1.ext
  have lm1 := lm0 T1
  rw [← hG1] at lm1
  obtain ⟨v2, G2, ha2, hB2⟩ := aEL (t := x.attr) hB1 (by omega) (d := .int .u8) (z := [.int .u8 0]) rfl
  obtain ⟨v3, G3, ha3, hB3⟩ := hB2.push (by simp; omega) (c := 61) (d := .int .u8) (z := [.int .u8 0]) rfl
  simp at ha3
  have hts' : arO dn (i + 1) = b1 ++ x.attr ++ [61] ++ esc x.value := hts
  have hl3 : (b1 ++ x.attr ++ [61]).length ≤ 102 * i + 100 := by simp; omega
  generalize b1 ++ x.attr ++ [61] = b3 at hts' hB3 hl3
  rcases hcase with ⟨g, ha1⟩ | ⟨g, ha1⟩ <;> (
   simp [r0, r3, r8, r9, r10, hi, e1, lm, lm1, g, ha1, ha2, ha3, apR, apN, apG, St.new, arp]
   refine apT (fun m σ => ∃ (j : Nat) (r' : Nat → R) (G' : List Ob) (v' : V), j + m = x.value.length ∧ σ = ⟨r', c + 1, G'⟩ ∧ r' 0 = .val v ∧ r' 3 = .val v' ∧ r' 5 = .box c [.str x.attr, .str x.value] ∧ r' 8 = .val v ∧ r' 9 = .val (.int .i64 dn.length) ∧ r' 10 = .val (.int .i64 i) ∧ r' 28 = .val (.int .i64 x.value.length) ∧ r' 29 = .val (.int .i64 j) ∧ Bs H G' v' (b3 ++ auF x.value j)) ?_ x.value.length _ ⟨0, _, G3, v3, by simp, rfl, by simp [r0], by simp, by simp, by simp [r8], by simp [r9], by simp [r10], by simp, by simp, by simpa [auF] using hB3⟩
   rintro m σ ⟨j, r', G', v', hjm, rfl, s0, s3, s5, s8, s9, s10, s28, s29, hB4⟩
   have hbl2 := avh x.value j
   cases m with
   | zero =>
    have hj : j = x.value.length := by omega
    subst hj
    rw [show auF x.value x.value.length = esc x.value from rfl, ← hts'] at hB4
    simp [s0, s3, s5, s8, s9, s10, s28, s29, hw]
    exact ⟨k, by omega, i + 1, by omega, _, _, _, ⟨rfl, rfl, rfl⟩, by simp [s0], _, by simp [s3], by simp [s8], by simp [s9], by simp, hB4⟩
   | succ m =>
    have hj : j < x.value.length := by omega
    obtain ⟨cc, hcc⟩ : ∃ c, x.value[j]? = some c := ⟨x.value[j], by simp [hj]⟩
    have hcc' : x.value[j] = cc := (List.getElem?_eq_some_iff.1 hcc).2
    have hwj : IntKind.i64.wrap ((j : Int) + 1) = ((j : Int) + 1) := wrap_i64 (by omega) (by omega)
    have c1 : callW C 245 [.str x.value, .int .i64 j] G' = some (.bool (aqA x.value j cc), G') := aBs hcc (by omega)
    have hes := ax7 hcc
    have hlb : (b3 ++ auF x.value j).length ≤ 1000 := by simp; omega
    cases ho : aqA x.value j cc with
    | false =>
     rw [ho] at c1
     rw [ho, if_neg (by simp)] at hes
     obtain ⟨v5, G5, hb1, hB5⟩ := hB4.push (by omega) (c := cc) (d := .int .u8) (z := [.int .u8 0]) rfl
     rw [List.append_assoc, ← hes] at hB5
     simp [s0, s3, s5, s8, s9, s10, s28, s29, hj, hcc', c1, apR, apN, apG, St.new, arp, hb1, hwj]
     exact ⟨m, by omega, j + 1, by omega, _, _, ⟨rfl, rfl⟩, by simp [s0], _, by simp, by simp [s5], by simp [s8], by simp [s9], by simp [s10], by simp [s28], by simp, hB5⟩
    | true =>
     rw [ho] at c1
     rw [ho, if_pos rfl] at hes
     obtain ⟨v5, G5, hb1, hB5⟩ := hB4.push (by omega) (c := 92) (d := .int .u8) (z := [.int .u8 0]) rfl
     obtain ⟨v6, G6, hb2, hB6⟩ := hB5.push (by rw [List.length_append]; simp only [List.length_cons, List.length_nil]; omega) (c := cc) (d := .int .u8) (z := [.int .u8 0]) rfl
     rw [List.append_assoc, List.append_assoc, ← List.append_assoc (auF x.value j), ← hes] at hB6
     simp at hb1
     simp [s0, s3, s5, s8, s9, s10, s28, s29, hj, hcc', c1, apR, apN, apG, St.new, arp, hb1, hb2, hwj]
     exact ⟨m, by omega, j + 1, by omega, _, _, ⟨rfl, rfl⟩, by simp [s0], _, by simp, by simp [s5], by simp [s8], by simp [s9], by simp [s10], by simp [s28], by simp, hB6⟩)
abbrev sfx (id off n i : Nat) : V := .slc (some (id, off + i * 3)) (n - i)
theorem aBa {H : List Ob} {v : V} {f : List PPart} (h : ap9 H v f) (hf : 0 < f.length) : ∃ id off, v = sfx id off f.length 0 ∧ (∀ i, i ≤ f.length → ap9 H (sfx id off f.length i) (f.drop i)) ∧ (∀ G, (∃ S, G = H ++ S) → apX G id 3 = true) := by
 obtain ⟨s1, s2, a1, a2, hc⟩ := h.cut (i := 0) (Nat.zero_le _)
 rcases hc with ⟨_, _, _, _, h0⟩ | ⟨id, off, hv, _, _, hst⟩
 ·rw [h0] at hf; cases hf
 refine ⟨id, off, by rw [hv]; simp, fun i hi => ?_, hst⟩
 obtain ⟨_, s2', _, a2', hc'⟩ := h.cut hi
 rcases hc' with ⟨_, _, _, _, h0⟩ | ⟨id', off', hv', _, hs2, _⟩
 ·rw [h0] at hf; cases hf
 rw [hv] at hv'
 cases hv'
 rw [hs2] at a2'
 exact a2'
def aHG (a b : Str) (fa fb : Bool) (i j1 j2 : Nat) (m : Nat) (Lc : List V) (pos : Nat) (fine : Bool) : Prop :=
 (m = 0 ∧ Lc = [.str [], .str []] ∧ pos = i + 1 ∧ fine = true) ∨ (m = 1 ∧ Lc = [.str a, .str []] ∧ pos = j1 ∧ fine = fa) ∨ (m = 2 ∧ Lc = [.str a, .str b] ∧ pos = j2 ∧ fine = (fa && fb))
theorem aty {t : Str} : decide ((t.length : Int) ≤ 40) = atm t := by
 unfold atm
 by_cases h : t.length ≤ 40
 ·have : (t.length : Int) ≤ 40 := by omega
  simp [h, this]
 ·have : ¬ (t.length : Int) ≤ 40 := by omega
  simp [h, this]
def aQp (G : List Ob) (id off n ide : Nat) (p : PPart) (a b : Str) (fa fb : Bool) (i j1 j2 : Nat) (k : Nat) (σ : St) : Prop :=
 ∃ (m : Nat) (r : Nat → R) (Lc : List V) (pos : Nat) (fine : Bool), m + k = p.many ∧ σ = ⟨r, 1, G ++ [.mk true 1 Lc]⟩ ∧ r 1 = .val (.ptr (some (ide, 0))) ∧ r 7 = .box 0 p.cs ∧ r 8 = .val (sfx id off n pos) ∧ r 9 = .val (.bool fine) ∧ r 10 = .val (.slc (some (G.length, 0)) 2) ∧ r 23 = .val (.int .i64 p.many) ∧ r 24 = .val (.int .i64 m) ∧ aHG a b fa fb i j1 j2 m Lc pos fine
theorem azq {G : List Ob} {id off n ide es : Nat} {own : Bool} {vd va : V} {e : PEntry} {f : List PPart} {p : PPart} {i j1 j2 : Nat} {a b : Str} {fa fb : Bool} (hx : ap9 G (sfx id off n i) (f.drop i)) (hst : ∀ T, apX (G ++ T) id 3 = true) (hn : n = f.length) (hp : f[i]? = some p) (hok : asJ p) (heE : G[ide]? = some (.mk own es [vd, va])) (ha : aqO G va e.attrs) (he : EntryOk e)
  (hla : a.length ≤ 1280) (hlb : b.length ≤ 1280)
  (hc1 : 1 ≤ p.many → ∀ T, callW C 244 [sfx id off n (i + 1), .ptr (some (ide, 0))] (G ++ T) = some (.tup [.str a, sfx id off n j1, .bool fa], G ++ T))
  (hc2 : p.many = 2 → ∀ T, callW C 244 [sfx id off n j1, .ptr (some (ide, 0))] (G ++ T) = some (.tup [.str b, sfx id off n j2, .bool fb], G ++ T)) (t : Str) (jE : Nat) (fE : Bool)
  (hres : (p.many = 0 → jE = i + 1 ∧ fE = atm t ∧ (p.op = 1 → t = p.text) ∧ (p.op = 2 → t = atV e p.text)) ∧ (p.many = 1 → jE = j1 ∧ t = unT p a ∧ fE = (fa && atm t)) ∧ (p.many = 2 → jE = j2 ∧ t = atE p a b ∧ fE = ((fa && fb) && atm t))) :
  callW C 244 [sfx id off n i, .ptr (some (ide, 0))] G = some (.tup [.str t, sfx id off n jE, .bool fE], G) := by
 apply Ret.eq
 rw [aKc]
 have hil : i < f.length := (List.getElem?_eq_some_iff.1 hp).1
 have hp0 : (f.drop i)[0]? = some p := by rw [List.getElem?_drop]; simpa using hp
 obtain ⟨idp, op, hidp, e1', lm⟩ := az0 hx hp0
 have e1 : ∀ (e s b : Nat) (z : List V) (ty : Nat → LT) (k : IntKind), (ty e).size = 3 → aqU ⟨.slice e, s, b, z⟩ ty (.val (.slc (some (id, off + i * 3)) (n - i))) (.int k 0) = some (.val (.ptr (some (idp, op)))) := e1'
 have lp : ∀ T : LT, T.many 3 → ∀ r c', loadAt T ⟨r, c', G⟩ (.hp idp op) = some (.agg p.cs) := fun T hT r c' => by have := lm [] T hT r c'; rwa [List.append_nil] at this
 have hs0 : apX G id 3 = true := by have := hst []; rwa [List.append_nil] at this
 have hmi := auR (n := p.op) (H := G ++ [.mk true 1 [.str [], .str []]])
 have hop := hok.1
 have hop2 := hok.2.1
 have hmany : aro p.op = (p.many : Int) := by
  unfold aro PPart.many
  by_cases h1 : p.op = 1 ∨ p.op = 2
  ·rw [if_pos h1, if_neg (by omega), if_neg (by omega)]; rfl
  rw [if_neg h1]
  by_cases h3 : p.op = 3 ∨ p.op = 4 ∨ p.op = 7
  ·rw [if_pos h3, if_pos h3]; rfl
  rw [if_neg h3, if_neg h3]
  rw [if_pos (by omega), if_pos (by omega)]; rfl
 rw [hmany] at hmi
 have hsl1 : (1 : Nat) ≤ n - i := by omega
 have hpos : off + i * 3 + 3 = off + (i + 1) * 3 := by omega
 have hlen : n - i - 1 = n - (i + 1) := by omega
 simp [azg, Tryz.f244, hidp, e1, lp, hs0, hsl1, hpos, hlen, hmi, aqC, apN, apG, St.new, apQ, apE, apR, setRange, aiB, akl, List.lookup]
 refine apT (aQp G id off n ide p a b fa fb i j1 j2) ?_ p.many _ ⟨0, _, [.str [], .str []], i + 1, true, by simp, rfl, by simp, by simp, by simp, by simp, by simp, by simp, by simp, .inl ⟨rfl, rfl, rfl, rfl⟩⟩
 rintro k σ ⟨m, r, Lc, pos, fine, hmk, rfl, r1, r7, r8, r9, r10, r23, r24, hops⟩
 have hG : (G ++ [Ob.mk true 1 Lc])[G.length]? = some (.mk true 1 Lc) := get_last
 cases k with
 | succ k =>
  have hm : m < p.many := by omega
  have hm2 : p.many ≤ 2 := by unfold PPart.many; split <;> (try split) <;> omega
  have hw : IntKind.i64.wrap ((m : Int) + 1) = (m : Int) + 1 := wrap_i64 (by omega) (by omega)
  rcases hops with ⟨rfl, rfl, rfl, rfl⟩ | ⟨rfl, rfl, rfl, rfl⟩ | ⟨rfl, _⟩
  ·have c1 := hc1 (by omega) [.mk true 1 [.str [], .str []]]
   have st := store1 (o := 0) (v := .str a) hG (by simp) rfl rfl
   simp [arh] at st
   simp [r1, r7, r8, r9, r10, r23, r24, hm, c1, st, hw, apN, apG, St.new, apQ, apE, apR, aiB, akl, List.lookup]
   exact ⟨k, by omega, 1, _, [.str a, .str []], j1, fa, by omega, rfl, by simp [r1], by simp [r7], by simp, by simp, by simp [r10], by simp [r23], by simp, .inr (.inl ⟨rfl, rfl, rfl, rfl⟩)⟩
  ·have c2 := hc2 (by omega) [.mk true 1 [.str a, .str []]]
   have st := store1 (o := 1) (v := .str b) hG (by simp) rfl rfl
   simp [arh] at st
   have hmI : (1 : Int) < (p.many : Int) := by omega
   cases fine <;> simp [r1, r7, r8, r9, r10, r23, r24, hm, hmI, c2, st, hw, apN, apG, St.new, apQ, apE, apR, aiB, akl, List.lookup]
   ·exact ⟨k, by omega, 2, _, [.str a, .str b], j2, false, by omega, rfl, by simp [r1], by simp [r7], by simp, by simp, by simp [r10], by simp [r23], by simp; decide, .inr (.inr ⟨rfl, rfl, rfl, rfl⟩)⟩
   ·exact ⟨k, by omega, 2, _, [.str a, .str b], j2, fb, by omega, rfl, by simp [r1], by simp [r7], by simp, by simp, by simp [r10], by simp [r23], by simp; decide, .inr (.inr ⟨rfl, rfl, rfl, rfl⟩)⟩
  ·omega
 | zero =>
  obtain rfl : m = p.many := by omega
  have hid : id < G.length := by
   have := hst []
   unfold apX at this
   cases h0 : (G ++ [])[id]? with
   | none => rw [h0] at this; cases this
   | some o => have := (List.getElem?_eq_some_iff.1 h0).1; simpa using this
  have hsj := hst [.mk true 1 Lc]
  have hgc : ∀ (X : List V) u (w : Nat) bb, asB G id → gcH G (G ++ [.mk true 1 X]) (.tup [.str u, sfx id off n w, .bool bb]) = G := fun X u w bb ht => as8 (by simp [asC, arC]; exact ht)
  have hth : asB G id := by
   have := hst []
   rw [List.append_nil] at this
   unfold apX at this
   cases h0 : G[id]? with
   | none => rw [h0] at this; cases this
   | some o => cases o with
    | mk own es cells => exact ⟨_, _, _, h0⟩
    | dead => rw [h0] at this; cases this
  have hlt := atw (t := t)
  rcases hops with ⟨hm0, rfl, rfl, rfl⟩ | ⟨hm1, rfl, rfl, rfl⟩ | ⟨hm2, rfl, rfl, rfl⟩
  ·obtain ⟨rfl, rfl, ht1, ht2⟩ := hres.1 hm0
   have hop12 : p.op = 1 ∨ p.op = 2 := by
    unfold PPart.many at hm0
    split at hm0
    ·cases hm0
    split at hm0
    ·cases hm0
    omega
   rcases hop12 with o1 | o2
   ·have ht := ht1 o1
    subst ht
    have hfd := aty (t := p.text)
    simp [r1, r7, r8, r9, r10, r23, r24, hm0, o1, hfd, hgc _ _ _ _ hth, apN, apG, St.new, apQ, apE, apR, aiB, akl, List.lookup]
   ·have ht := ht2 o2
    have hfd := aty (t := t)
    have heL : (G ++ [Ob.mk true 1 [.str [], .str []]])[ide]? = some (.mk own es [vd, va]) := aqf _ _ heE
    obtain ⟨w, c3, hwv⟩ := aDT (t := p.text) heL ha.ext (by have := he.2.2.2; omega) (EntryOk.rise he)
    cases hv1 : valsOf e.attrs p.text with
    | nil =>
     rw [hv1] at hwv
     have hat : t = [] := by rw [ht]; unfold atV; rw [hv1]; rfl
     subst hat
     have hfn : atm [] = true := rfl
     simp [r1, r7, r8, r9, r10, r23, r24, hm0, o2, hfd, hfn, c3, hwv.len, hgc _ _ _ _ hth, apN, apG, St.new, apQ, apE, apR, aiB, akl, List.lookup]
    | cons s0 l0 =>
     rw [hv1] at hwv
     have hat : t = s0 := by rw [ht]; unfold atV; rw [hv1]; rfl
     subst hat
     obtain ⟨ids, os, e5', l5, _⟩ := aqG hwv (i := 0) (s := t) rfl
     have e5 : ∀ (e s b : Nat) (z : List V) (ty : Nat → LT) (k : IntKind), (ty e).size = 1 → aqU ⟨.slice e, s, b, z⟩ ty (.val w) (.int k 0) = some (.val (.ptr (some (ids, os)))) := e5'
     simp [r1, r7, r8, r9, r10, r23, r24, hm0, o2, hfd, c3, hwv.len, e5, l5, hgc _ _ _ _ hth, apN, apG, St.new, apQ, apE, apR, aiB, akl, List.lookup]
  ·obtain ⟨rfl, rfl, rfl⟩ := hres.2.1 hm1
   have hfd := aty (t := unT p a)
   have la := aqt (o := 0) (v := .str a) hG rfl
   have hop3 : p.op = 3 ∨ p.op = 4 ∨ p.op = 7 := by
    have h1 := hm1
    unfold PPart.many at h1
    split at h1
    ·assumption
    ·split at h1 <;> cases h1
   rcases hop3 with o3 | o4 | o7
   ·have hu : unT p a = a.map (aq3 false) := by unfold unT; rw [if_pos o3]
    rw [hu] at hfd ⊢
    rw [List.length_map] at hfd
    have c3 := aFi (t := a) (H := G ++ [.mk true 1 [.str a, .str []]]) (by omega)
    cases fine <;> simp [r1, r7, r8, r9, r10, r23, r24, hm1, o3, hfd, la, c3, hgc _ _ _ _ hth, apN, apG, St.new, apQ, apE, apR, aiB, akl, List.lookup]
   ·have hu : unT p a = a.map (aq3 true) := by unfold unT; rw [if_neg (by omega), if_pos o4]
    rw [hu] at hfd ⊢
    rw [List.length_map] at hfd
    have c3 := aEM (t := a) (H := G ++ [.mk true 1 [.str a, .str []]]) (by omega)
    cases fine <;> simp [r1, r7, r8, r9, r10, r23, r24, hm1, o4, hfd, la, c3, hgc _ _ _ _ hth, apN, apG, St.new, apQ, apE, apR, aiB, akl, List.lookup]
   ·have hu : unT p a = a.take p.n.toNat := by unfold unT; rw [if_neg (by omega), if_neg (by omega)]
    rw [hu] at hfd ⊢
    rw [List.length_take] at hfd
    have hn0 : 0 ≤ p.n := hok.2.2.2.1
    have hmn : (0 : Int) ≤ min (a.length : Int) p.n := by omega
    have hmt : (min (a.length : Int) p.n).toNat ≤ a.length := by omega
    have htk : a.take (min (a.length : Int) p.n).toNat = a.take p.n.toNat := by
     by_cases hh : p.n ≤ (a.length : Int)
     ·rw [show min (a.length : Int) p.n = p.n by omega]
     ·rw [show min (a.length : Int) p.n = (a.length : Int) by omega, Int.toNat_natCast, List.take_length, List.take_of_length_le (by omega)]
    have hmv : aDW [.int .i64 (a.length : Int), .int .i64 p.n] = some (.int .i64 (min (a.length : Int) p.n)) := by
     simp [aDW]
     split <;> omega
    cases fine <;> simp [r1, r7, r8, r9, r10, r23, r24, hm1, o7, hfd, la, hmv, hmn, hmt, htk, hgc _ _ _ _ hth, apN, apG, St.new, apQ, apE, apR, aiB, akl, List.lookup]
  ·obtain ⟨rfl, rfl, rfl⟩ := hres.2.2 hm2
   have hfd := aty (t := atE p a b)
   have la := aqt (o := 0) (v := .str a) hG rfl
   have lb := aqt (o := 1) (v := .str b) hG rfl
   have hop5 : p.op = 5 ∨ p.op = 6 := by
    have h1 := hm2
    unfold PPart.many at h1
    split at h1
    ·cases h1
    split at h1
    ·assumption
    ·cases h1
   generalize (fa && fb) = fab at r9 ⊢
   rcases hop5 with o5 | o6
   ·have hu : atE p a b = a ++ b := by unfold atE; rw [if_pos o5]
    rw [hu] at hfd ⊢
    rw [List.length_append, Int.natCast_add] at hfd
    have hms : a.length + b.length ≤ maxStr := by unfold maxStr; omega
    cases fab <;> simp [r1, r7, r8, r9, r10, r23, r24, hm2, o5, hfd, la, lb, hms, hgc _ _ _ _ hth, apN, apG, St.new, apQ, apE, apR, aiB, akl, List.lookup]
   ·by_cases ga : a = []
    ·have hu : atE p a b = b := by unfold atE; rw [if_neg (by omega), if_pos ga]
     rw [hu] at hfd ⊢
     subst ga
     cases fab <;> simp [r1, r7, r8, r9, r10, r23, r24, hm2, o6, hfd, la, lb, hgc _ _ _ _ hth, apN, apG, St.new, apQ, apE, apR, aiB, akl, List.lookup]
    ·have hu : atE p a b = a := by unfold atE; rw [if_neg (by omega), if_neg ga]
     rw [hu] at hfd ⊢
     have gae : List.isEmpty a = false := by simpa using ga
     cases fab <;> simp [r1, r7, r8, r9, r10, r23, r24, hm2, o6, hfd, la, lb, ga, gae, hgc _ _ _ _ hth, apN, apG, St.new, apQ, apE, apR, aiB, akl, List.lookup]
theorem aF0 {H : List Ob} {id off ide es : Nat} {own : Bool} {vd va : V} {e : PEntry} {f : List PPart} (hx : ∀ i, i ≤ f.length → ap9 H (sfx id off f.length i) (f.drop i)) (hst : ∀ G, (∃ S, G = H ++ S) → apX G id 3 = true) (heE : H[ide]? = some (.mk own es [vd, va])) (ha : aqO H va e.attrs) (he : EntryOk e) :
  ∀ d i q t b, aqz f d i = some q → avL f e d i = some (t, b, q.1) → d ≤ 5 → ∀ G, (∃ S, G = H ++ S) → callW C 244 [sfx id off f.length i, .ptr (some (ide, 0))] G = some (.tup [.str t, sfx id off f.length q.1, .bool b], G) := by
 intro d
 induction d with
 | zero => intro i q t b h; cases h
 | succ d ih =>
  intro i q t b hq hv hd5 G ⟨S, hG⟩
  unfold aqz at hq
  unfold avL at hv
  cases hn : f[i]? with
  | none => rw [hn] at hq; cases hq
  | some p =>
   rw [hn] at hq hv
   simp only at hq hv
   split at hq
   case isFalse => cases hq
   rename_i hok
   have hok := atn.1 hok
   have hil : i < f.length := (List.getElem?_eq_some_iff.1 hn).1
   have hxG : ap9 G (sfx id off f.length i) (f.drop i) := by rw [hG]; exact (hx i (by omega)).ext
   have hsG : ∀ T, apX (G ++ T) id 3 = true := fun T => hst _ ⟨S ++ T, by rw [hG, List.append_assoc]⟩
   have heG : G[ide]? = some (.mk own es [vd, va]) := by rw [hG]; exact aqf _ _ heE
   have haG : aqO G va e.attrs := by rw [hG]; exact ha.ext
   have hext : ∀ T, ∃ S', G ++ T = H ++ S' := fun T => ⟨S ++ T, by rw [hG, List.append_assoc]⟩
   have hp5 : 40 * 2 ^ d ≤ 1280 := by
    have : 2 ^ d ≤ 2 ^ 5 := Nat.pow_le_pow_right (by decide) (by omega)
    omega
   have h1 := hok.1
   have h2 := hok.2.1
   have hm012 : p.many = 0 ∨ p.many = 1 ∨ p.many = 2 := by unfold PPart.many; split <;> (try split) <;> omega
   have hop12 : p.many = 0 ↔ (p.op = 1 ∨ p.op = 2) := by
    unfold PPart.many
    split
    ·constructor <;> intro <;> omega
    split
    ·constructor <;> intro <;> omega
    constructor <;> intro <;> omega
   rcases hm012 with m0 | m1 | m2
   ·rw [m0] at hq
    cases hq
    refine azq (a := []) (b := []) (fa := true) (fb := true) (j1 := 0) (j2 := 0) hxG hsG rfl hn hok heG haG he (by simp) (by simp) (fun h => by omega) (fun h => by omega) t (i + 1) b ⟨fun _ => ?_, fun h => by omega, fun h => by omega⟩
    by_cases o1 : p.op = 1
    ·rw [if_pos o1] at hv
     cases hv
     exact ⟨rfl, rfl, fun _ => rfl, fun h => by omega⟩
    ·have o2 : p.op = 2 := (hop12.1 m0).resolve_left o1
     rw [if_neg o1, if_pos o2] at hv
     cases hv
     exact ⟨rfl, rfl, fun h => by omega, fun _ => rfl⟩
   ·have hn12 : ¬ (p.op = 1 ∨ p.op = 2) := fun h => by have := hop12.2 h; omega
    rw [if_neg (fun h => hn12 (.inl h)), if_neg (fun h => hn12 (.inr h))] at hv
    rw [m1] at hq
    simp only [aqm] at hq
    cases k1 : aqz f d (i + 1) with
    | none => rw [k1] at hq; cases hq
    | some q1 =>
    rw [k1] at hq
    obtain ⟨a, fa, v1, v2⟩ := asE he d (i + 1) q1 k1
    rw [v1] at hv
    simp only [m1, if_true] at hv
    cases hq
    cases hv
    exact azq (b := []) (fb := true) (j2 := 0) hxG hsG rfl hn hok heG haG he (by omega) (by simp) (fun _ T => ih (i + 1) q1 a fa k1 v1 (by omega) _ (hext T)) (fun h => by omega) _ _ _ ⟨fun h => by omega, fun _ => ⟨rfl, rfl, rfl⟩, fun h => by omega⟩
   ·have hn12 : ¬ (p.op = 1 ∨ p.op = 2) := fun h => by have := hop12.2 h; omega
    rw [if_neg (fun h => hn12 (.inl h)), if_neg (fun h => hn12 (.inr h))] at hv
    rw [m2] at hq
    simp only [aqm] at hq
    cases k1 : aqz f d (i + 1) with
    | none => rw [k1] at hq; cases hq
    | some q1 =>
    rw [k1] at hq
    simp only at hq
    cases k2 : aqz f d q1.1 with
    | none => rw [k2] at hq; cases hq
    | some q2 =>
    rw [k2] at hq
    obtain ⟨a, fa, v1, v2⟩ := asE he d (i + 1) q1 k1
    obtain ⟨b', fb, v3, v4⟩ := asE he d q1.1 q2 k2
    rw [v1] at hv
    simp only [m2, show ¬ (2 = 1) by decide, if_false, v3] at hv
    cases hq
    cases hv
    exact azq hxG hsG rfl hn hok heG haG he (by omega) (by omega) (fun _ T => ih (i + 1) q1 a fa k1 v1 (by omega) _ (hext T)) (fun _ T => ih q1.1 q2 b' fb k2 v3 (by omega) _ (hext T)) _ _ _ ⟨fun h => by omega, fun h => by omega, fun _ => ⟨rfl, rfl, rfl⟩⟩
theorem auf {H : List Ob} {v : V} {ide es : Nat} {own : Bool} {vd va : V} {e : PEntry} {f : List PPart} {t : Str} {b : Bool} (hx : ap9 H v f) (heE : H[ide]? = some (.mk own es [vd, va])) (ha : aqO H va e.attrs) (he : EntryOk e) (hf : arA f) (hv : avL f e 5 0 = some (t, b, f.length)) :
  callW C 154 [v, .ptr (some (ide, 0))] H = some (.tup [.str (if b = true then t else []), .int .i64 (if b = true then 0 else 8)], H) := by
 obtain ⟨_, x, hdp⟩ := hf
 have h0 : 0 < f.length := (arn _ _ _ hdp).1
 obtain ⟨id, off, rfl, hs, hst⟩ := aBa hx h0
 have c1 := aF0 hs hst heE ha he 5 0 (f.length, x) t b hdp hv (by decide) H ⟨[], by simp⟩
 apply Ret.eq
 rw [aKP]
 cases b <;> simp [ayy, Tryz.f154, c1]
theorem avD {H G : List Ob} {v : V} {l : List Str} (h : AStrs H v l) (hG : ∃ S, G = H ++ S) (d : LD) (b : Nat) (z : List V) : aqc ⟨d, 1, b, z⟩ G v = some (l.map V.str, (l.map V.str).length) := by
 obtain ⟨S, rfl⟩ := hG
 obtain ⟨p, rfl, hc, _⟩ := auS (T := S) h
 simp only [aqc, Nat.mul_one, hc, List.length_map]
theorem auA {l : List Str} : (l.map V.str).all ap5 = true := by
 rw [List.all_eq_true]
 intro x hx
 obtain ⟨s, _, rfl⟩ := List.mem_map.1 hx
 rfl
theorem aD2 {H : List Ob} {v : V} {l : List Str} {t : Str} (h : AStrs H v l) (ht : t.length ≤ maxLen) (hl : l.length ≤ 1000000) :
  ∃ T w l', callW C 226 [v, .str t] H = some (w, H ++ T) ∧ AStrs (H ++ T) w l' ∧ (∀ x, x ∈ l' ↔ x = t ∨ x ∈ l) ∧ l'.length ≤ l.length + 1 := by
 suffices hs : Ret C 226 [v, .str t] H fun w H' => ∃ T l', H' = H ++ T ∧ AStrs (H ++ T) w l' ∧ (∀ x, x ∈ l' ↔ x = t ∨ x ∈ l) ∧ l'.length ≤ l.length + 1 by
  obtain ⟨q, H', hc, T, l', rfl, hr⟩ := hs
  exact ⟨T, q, l', hc, hr⟩
 rw [aJS]
 have hone := h.one
 have hmx := h.max
 simp [ayt, Tryz.f226, hone]
 refine WP.mono (Q := fun ex σ' => ∃ (i : Nat) (r : Nat → R), ex = .exit 0 ∧ σ' = ⟨r, 0, H⟩ ∧ r 0 = .val v ∧ r 1 = .val (.str t) ∧ r 5 = .val (.int .i64 i) ∧ i ≤ l.length) ?_ ?_
 ·refine apT (fun k σ => ∃ (i : Nat) (r : Nat → R), i + k = l.length ∧ σ = ⟨r, 0, H⟩ ∧ r 0 = .val v ∧ r 1 = .val (.str t) ∧ r 5 = .val (.int .i64 i)) ?_ l.length _ ⟨0, _, by simp, rfl, by simp, by simp, by simp⟩
  rintro k σ ⟨i, r, hik, rfl, r0, r1, r5⟩
  cases k with
  | zero =>
   have hi : i = l.length := by omega
   subst hi
   simp [r0, r1, r5, h.len, aiB, akl, List.lookup]
   exact ⟨l.length, rfl, Nat.le_refl _⟩
  | succ k =>
   have hi : i < l.length := by omega
   obtain ⟨x, hx⟩ : ∃ c, l[i]? = some c := ⟨l[i], by simp [hi]⟩
   have hw : IntKind.i64.wrap ((i : Int) + 1) = ((i : Int) + 1) := wrap_i64 (by omega) (by omega)
   obtain ⟨id, o, e1, l0, _⟩ := aqG h hx
   by_cases g : LtS x t
   ·simp [r0, r1, r5, hi, h.len, e1, l0, atJ g, hw, aiB, akl, List.lookup]
    exact ⟨k, by omega, i + 1, by omega, by omega⟩
   ·simp [r0, r1, r5, hi, h.len, e1, l0, at6 g, hw, aiB, akl, List.lookup]
    exact ⟨i, rfl, by omega⟩
 ·rintro ex σ' ⟨i, r, rfl, rfl, r0, r1, r5, hil⟩
  by_cases gs : ∃ x, l[i]? = some x ∧ x = t
  ·obtain ⟨x, hx, rfl⟩ := gs
   have hi := (List.getElem?_eq_some_iff.1 hx).1
   obtain ⟨id, o, e1, l0, _⟩ := aqG h hx
   simp [r0, r1, r5, hi, h.len, e1, l0, hone, aiB, akl, List.lookup]
   exact ⟨l, h, fun y => ⟨.inr, fun hh => hh.elim (fun e => e ▸ List.mem_of_getElem? hx) fun z => z⟩, by omega⟩
  obtain ⟨s1, s2, a1, a2, hcase⟩ := h.cut hil
  have n1 := avD a1 (G := H ++ [.mk true 1 []]) ⟨_, rfl⟩
  have R0 : Gs H (H ++ [.mk true 1 []]) (.slc (some (H.length, 0)) 0) (([] : List Str).map V.str) := Gs.init
  obtain ⟨x1, G1, p1, g1⟩ := R0.many (d := .str) (b := 16) (z := [.str []]) (n1 _ _ _) auA (by simp; unfold ap0; omega) (by decide) (by decide) rfl
  obtain ⟨x2, G2, p2, g2⟩ := g1.push (x := .str t) (d := .str) (b := 16) (z := [.str []]) rfl (by simp; unfold ap0; omega) (by decide) (by decide) rfl
  have n2 := avD a2 g2.ext
  obtain ⟨x3, G3, p3, g3⟩ := g2.many (d := .str) (b := 16) (z := [.str []]) (n2 _ _ _) auA (by simp; unfold ap0; omega) (by decide) (by decide) rfl
  have hl3 : l.take i ++ [t] ++ l.drop i = l.take i ++ t :: l.drop i := by simp
  have g3' : Gs H G3 x3 ((l.take i ++ t :: l.drop i).map V.str) := by simpa using g3
  have hmem : ∀ y, y ∈ l.take i ++ t :: l.drop i ↔ y = t ∨ y ∈ l := fun y => by
   conv => rhs; rw [← List.take_append_drop i l]
   simp only [List.mem_append, List.mem_cons]
   constructor
   ·rintro (h | h | h)
    ·exact .inr (.inl h)
    ·exact .inl h
    ·exact .inr (.inr h)
   ·rintro (h | h | h)
    ·exact .inr (.inl h)
    ·exact .inl h
    ·exact .inr (.inr h)
  have hat := (g3'.strs (by simp; unfold maxLen; omega) (fun s hs => ((hmem s).1 hs).elim (fun e => e ▸ ht) (hmx s))).1
  obtain ⟨T, rfl⟩ := g3'.ext
  have hgc := g3'.gc
  have o1 := g1.one
  have o2 := g2.one
  have o3 := g3'.one
  obtain ⟨S2, hS2⟩ := g2.ext
  have fin : ∃ l', AStrs (H ++ T) x3 l' ∧ (∀ x, x ∈ l' ↔ x = t ∨ x ∈ l) ∧ l'.length ≤ l.length + 1 := ⟨_, hat, hmem, by simp; omega⟩
  have hng : ¬ (∃ x, l[i]? = some x ∧ x = t) := gs
  have hoA : ap5 s1 = true ∧ cellsOf s1 = some [s1] := a1.one
  have hoB : ap5 s2 = true ∧ cellsOf s2 = some [s2] := a2.one
  by_cases gi : i < l.length
  ·obtain ⟨x, hx⟩ : ∃ c, l[i]? = some c := ⟨l[i], by simp [gi]⟩
   obtain ⟨id, o, e1, l0, _⟩ := aqG h hx
   have hxt : ¬ x = t := fun e => gs ⟨x, hx, e⟩
   rcases hcase with ⟨_, _, _, _, h0⟩ | ⟨ids, off, hv, hs1, hs2, hst⟩
   ·rw [h0] at gi; simp at gi
   have t1 := hst (H ++ [.mk true 1 []]) ⟨_, rfl⟩
   have t2 := hst G2 ⟨S2, hS2⟩
   rw [hv] at r0 h e1
   rw [hs1] at p1
   rw [hs2] at p3
   simp [Sh.size_str] at t1 t2 p1 p2 p3
   simp [r0, r1, r5, gi, hil, h.len, e1, l0, hxt, St.new, apR, apN, apG, t1, t2, p1, p2, p3, o1, o2, o3, hgc, aiB, akl, List.lookup]
   exact fin
  ·have hin : i = l.length := by omega
   rcases hcase with ⟨hv, hs1, hs2, hi0, h0⟩ | ⟨ids, off, hv, hs1, hs2, hst⟩
   ·rw [hv] at r0 h
    rw [hs1] at p1
    rw [hs2] at p3
    subst h0
    have hlen := fun {e s b : Nat} {z : List V} => h.len (e := e) (s := s) (b := b) (z := z)
    simp at p1 p2 p3 hlen
    simp [r0, r1, r5, hi0, hlen, St.new, apR, apN, apG, p1, p2, p3, o1, o2, o3, hgc, aiB, akl, List.lookup]
    simpa using fin
   ·have t1 := hst (H ++ [.mk true 1 []]) ⟨_, rfl⟩
    have t2 := hst G2 ⟨S2, hS2⟩
    rw [hv] at r0 h
    rw [hs1] at p1
    rw [hs2] at p3
    have hlen := fun {e s b : Nat} {z : List V} => h.len (e := e) (s := s) (b := b) (z := z)
    simp [Sh.size_str] at t1 t2 p1 p2 p3 hlen
    simp [r0, r1, r5, gi, hil, hlen, St.new, apR, apN, apG, t1, t2, p1, p2, p3, o1, o2, o3, hgc, aiB, akl, List.lookup]
    exact fin


theorem aAj {f : List PPart} (hl : f.length ≤ 100) : ∀ (d : Nat) (v : V) (i : Nat) (H : List Ob), d ≤ 100 → i ≤ f.length → f.length - i ≤ d → ap9 H v (f.drop i) →
  callW C 233 [v] H = some (aqg i (aqz f d i), H) := by
 intro d
 induction d with
 | zero =>
  intro v i H hd hi hfi h
  suffices hs : Ret C 233 [v] H fun q H' => q = aqg i (aqz f 0 i) ∧ H' = H by
   obtain ⟨q, H', hc, rfl, rfl⟩ := hs
   exact hc
  rw [aFN]
  have he : f.drop i = [] := by simp; omega
  rw [he] at h
  simp [auC, Tryz.f233, h.len, aqg, aqz]
 | succ d ih0 =>
 intro v i H hdb hi0 hfi h
 suffices hs : Ret C 233 [v] H fun q H' => q = aqg i (aqz f (d + 1) i) ∧ H' = H by
  obtain ⟨q, H', hc, rfl, rfl⟩ := hs
  exact hc
 rw [aFN]
 rcases Nat.lt_or_ge i f.length with hi | g
 rotate_left
 ·have he : f.drop i = [] := by simp; omega
  rw [he] at h
  simp [auC, Tryz.f233, h.len, aqg, aqz, List.getElem?_eq_none g]
 obtain ⟨x, hx⟩ : ∃ c, f[i]? = some c := ⟨f[i], by simp [hi]⟩
 have ih : ∀ (w : V) (j : Nat) (G : List Ob), i < j → j ≤ f.length → ap9 G w (f.drop j) → callW C 233 [w] G = some (aqg j (aqz f d j), G) := fun w j G h1 h2 h3 => ih0 w j G (by omega) h2 (by omega) h3
 obtain ⟨fs, hfs⟩ : ∃ fs, fs = f.drop i := ⟨_, rfl⟩
 have hfl : fs.length = f.length - i := by rw [hfs]; simp
 have hn0 : ¬ fs = [] := by intro h; rw [h] at hfl; simp at hfl; omega
 have hn0' : ¬ (fs.length : Int) = 0 := by omega
 have hx0 : fs[0]? = some x := by rw [hfs, List.getElem?_drop]; exact hx
 rw [← hfs] at h
 obtain ⟨id, o, e1, l0, l1, _, _, w4⟩ := aut h hx0
 have e1' := fun (e s b : Nat) (z : List V) (ty : Nat → LT) => e1 e s b z ty .i64
 have l1' := l1 []
 have l0' := l0 []
 simp only [List.append_nil, Int.natCast_zero] at l1' e1' l0'
 have l0'' : ∀ T : LT, T.one → ∀ r c, loadAt T ⟨r, c, H⟩ (.hp id o) = some (.int .i64 x.op) := fun T hT r c => (l0' T hT r c).1
 have c1 := aDE (p := x) (H := H)
 by_cases hok : asJ x
 rotate_left
 ·rw [apJ hok] at c1
  simp [auC, Tryz.f233, h.len, hn0, hn0', e1', l1', c1, aqg, aqz, hx, apJ hok]
 rw [apK hok] at c1
 have c5 := auR (n := x.op) (H := H)
 rw [aCE hok] at c5
 have hmb : x.many ≤ 2 := by unfold PPart.many; split <;> (try split) <;> omega
 have hgoal : aqg i (aqz f (d + 1) i) = aqg i ((aqm (aqz f d) x.many (i + 1, 0)).map fun p => (p.1, p.2 + 1)) := by
  show aqg i (match f[i]? with
   | none => none
   | some n => if dec (asJ n) = true then (aqm (aqz f d) n.many (i + 1, 0)).map fun p => (p.1, p.2 + 1) else none) = _
  rw [hx]
  simp only [apK hok, if_true]
 rw [hgoal]
 obtain ⟨mm, hmm⟩ : ∃ mm, mm = x.many := ⟨_, rfl⟩
 rw [← hmm] at hmb c5 ⊢
 simp [auC, Tryz.f233, h.len, hn0, hn0', e1', l1', l0'', c1, c5]
 refine apT (fun k σ => ∃ (p : Nat × Nat) (r : Nat → R), σ = ⟨r, 0, H⟩ ∧ r 0 = .val v ∧ r 4 = .val (.int .i64 ((p.1 - i : Nat) : Int)) ∧ r 5 = .val (.int .i64 (p.2 : Int)) ∧ r 22 = .val (.int .i64 (mm : Int)) ∧ k ≤ mm ∧ r 23 = .val (.int .i64 ((mm - k : Nat) : Int)) ∧ i < p.1 ∧ p.1 ≤ f.length ∧ p.2 ≤ d ∧ aqm (aqz f d) k p = aqm (aqz f d) mm (i + 1, 0)) ?_ mm _ ⟨(i + 1, 0), _, rfl, by simp, by simp, by simp, by simp, Nat.le_refl _, by simp, by simp, by simp; omega, by simp, rfl⟩
 rintro k σ ⟨p, r, rfl, r0, r5, r6, r50, hkm, r51, hip, hpl, hpd, hp⟩
 cases k with
 | zero =>
  have e1 : ¬ ((mm - 0 : Nat) : Int) < mm := by omega
  simp only [aqm] at hp
  have hw : IntKind.i64.wrap ((p.2 : Int) + 1) = ((p.2 + 1 : Nat) : Int) := by rw [wrap_i64 (by omega) (by omega)]; omega
  simp [r0, r5, r6, r50, r51, ← hp, aqg, hw]
 | succ k =>
  have e1 : ((mm - (k + 1) : Nat) : Int) < mm := by omega
  have hw1 : IntKind.i64.wrap (((mm - (k + 1) : Nat) : Int) + 1) = ((mm - k : Nat) : Int) := by rw [wrap_i64 (by omega) (by omega)]; omega
  obtain ⟨ids, off, own, cells, hv, hcell, hd⟩ := h.drop (k := p.1 - i) (by omega) (by omega)
  have hdj : fs.drop (p.1 - i) = f.drop p.1 := by rw [hfs, List.drop_drop]; congr 1; omega
  rw [hdj] at hd
  have hst : apX H ids 3 = true := by simp [apX, hcell]
  have hsz : shPart.size = 3 := rfl
  rw [hsz] at hd
  have c2 := ih _ p.1 H hip hpl hd
  have hle : p.1 - i ≤ fs.length := by omega
  cases hsub : aqz f d p.1 with
  | none =>
   rw [hsub] at c2
   simp only [aqm, hsub] at hp
   simp only [aqg] at c2
   simp [r0, r5, r6, r50, r51, e1, hv, hst, hle, c2, ← hp, aqg]
  | some q =>
   rw [hsub] at c2
   simp only [aqm, hsub] at hp
   simp only [aqg] at c2
   have hq := arn _ _ _ hsub
   have e2 : ¬ ((q.1 - p.1 : Nat) : Int) = 0 := by omega
   have e2' : ¬ (q.1 - p.1 : Nat) = 0 := by omega
   have hw2 : IntKind.i64.wrap (((p.1 - i : Nat) : Int) + ((q.1 - p.1 : Nat) : Int)) = ((q.1 - i : Nat) : Int) := by rw [wrap_i64 (by omega) (by omega)]; omega
   have hmx : aw0 [.int .i64 (p.2 : Int), .int .i64 (q.2 : Int)] = some (.int .i64 ((max p.2 q.2 : Nat) : Int)) := by
    simp [aw0]
    omega
   simp [r0, r5, r6, r50, r51, e1, hv, hst, hle, c2, e2, e2', hw1, hw2, hmx]
   exact ⟨k, by omega, q.1, rfl, max p.2 q.2, rfl, by omega, rfl, by omega, by omega, by omega, hp⟩
theorem atY {v : V} {f : List PPart} {H : List Ob} (h : ap9 H v f) : callW C 141 [v] H = some (.bool (dec (arA f)), H) := by
 apply Ret.dec
 rw [aMW]
 by_cases g : f.length ≤ 12
 rotate_left
 ·have g' : (12 : Int) < f.length := by omega
  simp [atM, Tryz.f141, h.len, g']
  exact fun h => g h.1
 have g' : ¬ (12 : Int) < f.length := by omega
 have c1 := aAj (f := f) (by omega) 12 v 0 H (by omega) (by omega) (by omega) h
 rw [aEQ]
 cases hf : aqz f 12 0 with
 | none =>
  rw [hf] at c1
  simp only [aqg] at c1
  simp [atM, Tryz.f141, h.len, g', c1]
 | some q =>
  rw [hf] at c1
  simp only [aqg, Nat.sub_zero] at c1
  have hq := arn _ _ _ hf
  have h0 : 0 < q.1 := by omega
  by_cases e : q.1 = f.length
  ·have h1 : 0 < f.length := by omega
   by_cases e5 : q.2 ≤ 5
   ·have e5' : (q.2 : Int) ≤ 5 := by omega
    simp [atM, Tryz.f141, h.len, g', c1, e, h1, e5']
    exact ⟨g, q.2, by rw [← e], e5⟩
   ·have e5' : ¬ (q.2 : Int) ≤ 5 := by omega
    simp [atM, Tryz.f141, h.len, g', c1, e, h1, e5']
    intro _ x hx
    rw [hx] at e5
    exact Nat.lt_of_not_le e5
  ·have e' : ¬ (q.1 : Int) = f.length := by omega
   simp [atM, Tryz.f141, h.len, g', c1, e, e', h0]
   intro _ x hx
   rw [hx] at e
   exact absurd rfl e
def aqE (x : List PPart) : List Str := x.flatMap fun p => if p.op = 2 then [p.text] else []
theorem av4 {x : List PPart} {i : Nat} {p : PPart} (h : x[i]? = some p) : aqE (x.take (i + 1)) = aqE (x.take i) ++ if p.op = 2 then [p.text] else [] := by
 unfold aqE
 rw [ars h, List.flatMap_append]
 simp
theorem aBk {x : List PPart} : (aqE x).length ≤ x.length := by
 induction x with
 | nil => simp [aqE]
 | cons p x ih =>
  unfold aqE at ih ⊢
  rw [List.flatMap_cons, List.length_append, List.length_cons]
  have h1 : (if p.op = 2 then [p.text] else []).length ≤ 1 := by split <;> simp
  omega
theorem awP {H : List Ob} {v : V} {x : List PPart} (h : ap9 H v x) (hl : x.length ≤ 12) :
  ∃ T w l', callW C 134 [v] H = some (w, H ++ T) ∧ AStrs (H ++ T) w l' ∧ (∀ y, y ∈ l' ↔ y ∈ aqE x) := by
 suffices hs : Ret C 134 [v] H fun w H' => ∃ T l', H' = H ++ T ∧ AStrs (H ++ T) w l' ∧ (∀ y, y ∈ l' ↔ y ∈ aqE x) by
  obtain ⟨q, H', hc, T, l', rfl, hr⟩ := hs
  exact ⟨T, q, l', hc, hr⟩
 rw [aMH]
 have hone := h.one
 simp [ayo, Tryz.f134, St.new, apR, apN, apG]
 have hinit : AStrs (H ++ [.mk true 1 []]) (.slc (some (H.length, 0)) 0) [] := (Gs.strs (l := []) Gs.init (by simp) (by simp)).1
 refine apT (fun k σ => ∃ (i : Nat) (r : Nat → R) (T : List Ob) (w : V) (ks : List Str), i + k = x.length ∧ σ = ⟨r, 0, H ++ T⟩ ∧ r 0 = .val v ∧ r 3 = .val w ∧ r 4 = .val (.int .i64 i) ∧ AStrs (H ++ T) w ks ∧ (∀ y, y ∈ ks ↔ y ∈ aqE (x.take i)) ∧ ks.length ≤ i) ?_ x.length _ ⟨0, _, _, _, [], by simp, rfl, by simp, by simp, by simp, hinit, by simp [aqE], by simp⟩
 rintro k σ ⟨i, r, T, w, ks, hik, rfl, r0, r3, r4, hw, hmem, hlen⟩
 have hwo := hw.one
 cases k with
 | zero =>
  have hi : i = x.length := by omega
  subst hi
  rw [List.take_length] at hmem
  obtain ⟨T', hg, hw'⟩ := hw.gc
  simp [r0, r3, r4, h.len, hwo, hg, aiB, akl, List.lookup]
  exact ⟨ks, hw', hmem⟩
 | succ k =>
  have hi : i < x.length := by omega
  obtain ⟨p, hp⟩ : ∃ p, x[i]? = some p := ⟨x[i], by simp [hi]⟩
  have hw1 : IntKind.i64.wrap ((i : Int) + 1) = ((i : Int) + 1) := wrap_i64 (by omega) (by omega)
  obtain ⟨id, o, e1, l0, _, ht, _⟩ := aut h hp
  have l0' := l0 T
  have hstep := av4 hp
  by_cases g : p.op = 2
  ·obtain ⟨T2, w', ks', c1, hw', hm', hl'⟩ := aD2 hw ht (by omega)
   have hwo' := hw'.one
   simp [r0, r3, r4, hi, h.len, e1, l0', g, c1, hw1, hwo', aiB, akl, List.lookup]
   refine ⟨k, by omega, i + 1, by omega, _, T ++ T2, ⟨rfl, by simp⟩, by simp [r0], w', by simp, by simp, ks', by simpa using hw', fun y => ?_, by omega⟩
   rw [hm' y, hmem y, hstep, if_pos g, List.mem_append, List.mem_singleton, or_comm]
  ·simp [r0, r3, r4, hi, h.len, e1, l0', g, hw1, aiB, akl, List.lookup]
   refine ⟨k, by omega, i + 1, by omega, _, T, ⟨rfl, rfl⟩, by simp [r0], w, by simp [r3], by simp, ks, hw, fun y => ?_, by omega⟩
   rw [hmem y, hstep, if_neg g, List.append_nil]
theorem av8 {H : List Ob} {v : V} {x : List PPart} (h : ap9 H v x) (hl : x.length ≤ 12) :
  ∃ T w l', callW C 145 [v] H = some (w, H ++ T) ∧ AStrs (H ++ T) w l' ∧ (∀ y, y ∈ l' ↔ y ∈ aqE x) ∧ l'.length ≤ 12 := by
 suffices hs : Ret C 145 [v] H fun w H' => ∃ T l', H' = H ++ T ∧ AStrs (H ++ T) w l' ∧ (∀ y, y ∈ l' ↔ y ∈ aqE x) ∧ l'.length ≤ 12 by
  obtain ⟨q, H', hc, T, l', rfl, hr⟩ := hs
  exact ⟨T, q, l', hc, hr⟩
 rw [aGH]
 have hone := h.one
 simp [azc, Tryz.f145, St.new, apR, apN, apG, h.len, hone]
 refine apT (fun k σ => ∃ (i n : Nat) (r : Nat → R) (G : List Ob) (w : V), i + k = x.length ∧ σ = ⟨r, n, G⟩ ∧ r 3 = .val w ∧ r 7 = .val v ∧ r 8 = .val (.int .i64 x.length) ∧ r 9 = .val (.int .i64 i) ∧ Gs H G w ((aqE (x.take i)).map V.str) ∧ ∀ s ∈ aqE (x.take i), s.length ≤ maxLen) ?_ x.length _ ⟨0, _, _, _, .slc (some (H.length, 0)) 0, by simp, rfl, by simp, by simp, by simp, by simp, by simpa [aqE] using Gs.init, by simp [aqE]⟩
 rintro k σ ⟨i, n, r, G, w, hik, rfl, r3, r7, r8, r9, hG, hms⟩
 obtain ⟨S, hS⟩ := hG.ext
 have hwo := hG.one
 have hle := aBk (x := x.take i)
 rw [List.length_take] at hle
 cases k with
 | zero =>
  have hi : i = x.length := by omega
  subst hi
  rw [List.take_length] at hG hle hms
  have hw := (hG.strs (by unfold maxLen; omega) hms).1
  obtain ⟨T, p, m, c1, _, ⟨l', hl', hmem, hll⟩, _⟩ := azM (H := G ++ [.mk true 1 [w]]) (id := G.length) (own := true) (va := w) (l := aqE x) get_last hw.ext (by omega)
  simp only [hS, List.append_assoc] at hl'
  obtain ⟨T', hg, hat⟩ := hl'.gc
  simp only [List.append_assoc] at c1
  rw [← List.append_assoc, ← hS] at hg
  simp [r3, r7, r8, r9, hwo, St.new, apR, apN, apG, c1, hg, aiB, akl, List.lookup]
  exact ⟨T', by simpa using hg, l', hat, hmem, by omega⟩
 | succ k =>
  have hi : i < x.length := by omega
  obtain ⟨p, hp⟩ : ∃ p, x[i]? = some p := ⟨x[i], by simp [hi]⟩
  have hw1 : IntKind.i64.wrap ((i : Int) + 1) = ((i : Int) + 1) := wrap_i64 (by omega) (by omega)
  obtain ⟨id, o, e1, l0, l3, ht, _⟩ := aut h hp
  have l3' := l3 S
  rw [← hS] at l3'
  have hstep := av4 hp
  by_cases g : p.op = 2
  ·rw [if_pos g] at hstep
   obtain ⟨x2, G2, p2, g2⟩ := hG.push (x := .str p.text) (d := .str) (b := 16) (z := [.str []]) rfl (by simp; unfold ap0; omega) (by decide) (by decide) rfl
   have o2 := g2.one
   simp [r3, r7, r8, r9, hi, e1, l3', hwo, o2, g, St.new, apR, apN, apG, p2, hw1, aiB, akl, List.lookup]
   refine ⟨k, by omega, i + 1, by omega, _, _, _, ⟨rfl, rfl, rfl⟩, x2, by simp, by simp [r7], by simp [r8], by simp, by rw [hstep]; simpa using g2, fun s hs => ?_⟩
   rw [hstep] at hs
   rcases List.mem_append.1 hs with hs | hs
   ·exact hms s hs
   ·rw [List.mem_singleton.1 hs]; exact ht
  ·rw [if_neg g, List.append_nil] at hstep
   simp [r3, r7, r8, r9, hi, e1, l3', hwo, g, St.new, apR, apN, apG, hw1, aiB, akl, List.lookup]
   exact ⟨k, by omega, i + 1, by omega, _, _, _, ⟨rfl, rfl, rfl⟩, w, by simp [r3], by simp [r7], by simp [r8], by simp, by rw [hstep]; exact hG, by rw [hstep]; exact hms⟩
noncomputable def aqM (f : List PNode) : List Str := f.flatMap fun n => if dec n.Inner = true then [] else [n.attr]
theorem awh {f : List PNode} {i : Nat} {n : PNode} (h : f[i]? = some n) : aqM (f.take (i + 1)) = aqM (f.take i) ++ if dec n.Inner = true then [] else [n.attr] := by
 unfold aqM
 rw [ars h, List.flatMap_append]
 simp
theorem aAN {f : List PNode} : (aqM f).length ≤ f.length := by
 induction f with
 | nil => simp [aqM]
 | cons n f ih =>
  unfold aqM at ih ⊢
  rw [List.flatMap_cons, List.length_append, List.length_cons]
  have h1 : (if dec n.Inner = true then [] else [n.attr]).length ≤ 1 := by split <;> simp
  omega
theorem aAw {f : List PNode} {g : Nat → Option (Nat × Nat)} (hg : ∀ i q, g i = some q → i < q.1 ∧ ∀ j n, i ≤ j → j < q.1 → f[j]? = some n → NodeOk n) : ∀ k p q, aqm g k p = some q → p.1 ≤ q.1 ∧ ∀ j n, p.1 ≤ j → j < q.1 → f[j]? = some n → NodeOk n
 | 0, p, q, h => by cases h; exact ⟨Nat.le_refl _, fun j n h1 h2 => by omega⟩
 | k + 1, p, q, h => by
  unfold aqm at h
  cases hq : g p.1 with
  | none => rw [hq] at h; cases h
  | some r =>
   rw [hq] at h
   obtain ⟨e1, e2⟩ := hg _ _ hq
   obtain ⟨f1, f2⟩ := aAw hg k _ q h
   simp only at f1 f2
   refine ⟨by omega, fun j n h1 h2 h3 => ?_⟩
   by_cases hj : j < r.1
   ·exact e2 j n h1 hj h3
   ·exact f2 j n (by omega) h2 h3
theorem azJ {f : List PNode} : ∀ d i q, aqu f d i = some q → i < q.1 ∧ ∀ j n, i ≤ j → j < q.1 → f[j]? = some n → NodeOk n
 | 0, i, q, h => by cases h
 | d + 1, i, q, h => by
  unfold aqu at h
  cases hn : f[i]? with
  | none => rw [hn] at h; cases h
  | some x =>
   rw [hn] at h
   simp only at h
   split at h
   ·rename_i hok
    cases hr : aqm (aqu f d) x.many.toNat (i + 1, 0) with
    | none => rw [hr] at h; cases h
    | some r =>
     rw [hr] at h
     cases h
     obtain ⟨e1, e2⟩ := aAw (f := f) (fun i q h => azJ d i q h) _ _ _ hr
     simp only at e1 e2
     refine ⟨by simp only; omega, fun j n h1 h2 h3 => ?_⟩
     by_cases hj : j = i
     ·subst hj
      rw [hn] at h3
      cases h3
      exact atn.1 hok
     ·exact e2 j n (by omega) h2 h3
   ·cases h
theorem FilterOk.nodes {f : List PNode} (h : FilterOk f) : ∀ n ∈ f, NodeOk n := fun n hn => by
 obtain ⟨_, x, hx⟩ := h
 obtain ⟨j, hj, rfl⟩ := List.getElem_of_mem hn
 exact (azJ _ _ _ hx).2 j _ (Nat.zero_le _) hj (List.getElem?_eq_getElem hj)
theorem aFB {n : PNode} (h : NodeOk n) : 3 < n.op ↔ ¬ n.Inner := by
 unfold PNode.Inner
 rcases h with ⟨a, _⟩ | ⟨a, _⟩ | ⟨a, _⟩
 ·unfold PNode.Inner at a; omega
 ·omega
 ·omega
theorem axF {H : List Ob} {v : V} {f : List PNode} (h : aqT H v f) (hok : FilterOk f) :
  ∃ T w l', callW C 144 [v] H = some (w, H ++ T) ∧ AStrs (H ++ T) w l' ∧ (∀ y, y ∈ l' ↔ y ∈ aqM f) ∧ l'.length ≤ 20 := by
 suffices hs : Ret C 144 [v] H fun w H' => ∃ T l', H' = H ++ T ∧ AStrs (H ++ T) w l' ∧ (∀ y, y ∈ l' ↔ y ∈ aqM f) ∧ l'.length ≤ 20 by
  obtain ⟨q, H', hc, T, l', rfl, hr⟩ := hs
  exact ⟨T, q, l', hc, hr⟩
 rw [aIa]
 have hone := h.one
 have hl := hok.1
 simp [ayD, Tryz.f144, St.new, apR, apN, apG, h.len, hone]
 refine apT (fun k σ => ∃ (i n : Nat) (r : Nat → R) (G : List Ob) (w : V), i + k = f.length ∧ σ = ⟨r, n, G⟩ ∧ r 3 = .val w ∧ r 7 = .val v ∧ r 8 = .val (.int .i64 f.length) ∧ r 9 = .val (.int .i64 i) ∧ Gs H G w ((aqM (f.take i)).map V.str) ∧ ∀ s ∈ aqM (f.take i), s.length ≤ maxLen) ?_ f.length _ ⟨0, _, _, _, .slc (some (H.length, 0)) 0, by simp, rfl, by simp, by simp, by simp, by simp, by simpa [aqM] using Gs.init, by simp [aqM]⟩
 rintro k σ ⟨i, n, r, G, w, hik, rfl, r3, r7, r8, r9, hG, hms⟩
 obtain ⟨S, hS⟩ := hG.ext
 have hwo := hG.one
 have hle := aAN (f := f.take i)
 rw [List.length_take] at hle
 cases k with
 | zero =>
  have hi : i = f.length := by omega
  subst hi
  rw [List.take_length] at hG hle hms
  have hw := (hG.strs (by unfold maxLen; omega) hms).1
  obtain ⟨T, p, m, c1, _, ⟨l', hl', hmem, hll⟩, _⟩ := azM (H := G ++ [.mk true 1 [w]]) (id := G.length) (own := true) (va := w) (l := aqM f) get_last hw.ext (by omega)
  simp only [hS, List.append_assoc] at hl'
  obtain ⟨T', hg, hat⟩ := hl'.gc
  simp only [List.append_assoc] at c1
  rw [← List.append_assoc, ← hS] at hg
  simp [r3, r7, r8, r9, hwo, St.new, apR, apN, apG, c1, hg, aiB, akl, List.lookup]
  exact ⟨T', by simpa using hg, l', hat, hmem, by omega⟩
 | succ k =>
  have hi : i < f.length := by omega
  obtain ⟨p, hp⟩ : ∃ p, f[i]? = some p := ⟨f[i], by simp [hi]⟩
  have hw1 : IntKind.i64.wrap ((i : Int) + 1) = ((i : Int) + 1) := wrap_i64 (by omega) (by omega)
  obtain ⟨id, o, e1, l0, l3, ht, _⟩ := ar1 h hp
  have l3' := l3 S
  rw [← hS] at l3'
  have hstep := awh hp
  have hgt := aFB (FilterOk.nodes hok p (List.mem_of_getElem? hp))
  by_cases g : p.Inner
  ·have g' : ¬ 3 < p.op := fun hh => hgt.1 hh g
   rw [apK g, if_pos rfl, List.append_nil] at hstep
   simp [r3, r7, r8, r9, hi, e1, l3', hwo, g', St.new, apR, apN, apG, hw1, aiB, akl, List.lookup]
   exact ⟨k, by omega, i + 1, by omega, _, _, _, ⟨rfl, rfl, rfl⟩, w, by simp [r3], by simp [r7], by simp [r8], by simp, by rw [hstep]; exact hG, by rw [hstep]; exact hms⟩
  ·have g' : 3 < p.op := hgt.2 g
   rw [apJ g] at hstep
   simp only [Bool.false_eq_true, if_false] at hstep
   obtain ⟨x2, G2, p2, g2⟩ := hG.push (x := .str p.attr) (d := .str) (b := 16) (z := [.str []]) rfl (by simp; unfold ap0; omega) (by decide) (by decide) rfl
   have o2 := g2.one
   simp [r3, r7, r8, r9, hi, e1, l3', hwo, o2, g', St.new, apR, apN, apG, p2, hw1, aiB, akl, List.lookup]
   refine ⟨k, by omega, i + 1, by omega, _, _, _, ⟨rfl, rfl, rfl⟩, x2, by simp, by simp [r7], by simp [r8], by simp, by rw [hstep]; simpa using g2, fun s hs => ?_⟩
   rw [hstep] at hs
   rcases List.mem_append.1 hs with hs | hs
   ·exact hms s hs
   ·rw [List.mem_singleton.1 hs]; exact ht
theorem axR {H : List Ob} {v : V} {f : List PNode} (h : aqT H v f) (hok : FilterOk f) :
  ∃ T w l', callW C 133 [v] H = some (w, H ++ T) ∧ AStrs (H ++ T) w l' ∧ (∀ y, y ∈ l' ↔ y ∈ aqM f) := by
 suffices hs : Ret C 133 [v] H fun w H' => ∃ T l', H' = H ++ T ∧ AStrs (H ++ T) w l' ∧ (∀ y, y ∈ l' ↔ y ∈ aqM f) by
  obtain ⟨q, H', hc, T, l', rfl, hr⟩ := hs
  exact ⟨T, q, l', hc, hr⟩
 rw [aIC]
 have hone := h.one
 have hl := hok.1
 have hl4 : ¬ (400 : Int) < f.length := by omega
 have c0 := auM (h.ext (T := [.mk true 1 []]))
 rw [apK hok] at c0
 simp [ayw, Tryz.f133, St.new, apR, apN, apG, h.len, hone, hl4, c0]
 have hinit : AStrs (H ++ [.mk true 1 []]) (.slc (some (H.length, 0)) 0) [] := (Gs.strs (l := []) Gs.init (by simp) (by simp)).1
 refine apT (fun k σ => ∃ (i : Nat) (r : Nat → R) (T : List Ob) (w : V) (ks : List Str), i + k = f.length ∧ σ = ⟨r, 0, H ++ T⟩ ∧ r 0 = .val v ∧ r 3 = .val w ∧ r 4 = .val (.int .i64 i) ∧ AStrs (H ++ T) w ks ∧ (∀ y, y ∈ ks ↔ y ∈ aqM (f.take i)) ∧ ks.length ≤ i) ?_ f.length _ ⟨0, _, _, _, [], by simp, rfl, by simp, by simp, by simp, hinit, by simp [aqM], by simp⟩
 rintro k σ ⟨i, r, T, w, ks, hik, rfl, r0, r3, r4, hw, hmem, hlen⟩
 have hwo := hw.one
 have hfT : aqT (H ++ T) v f := h.ext
 cases k with
 | zero =>
  have hi : i = f.length := by omega
  subst hi
  rw [List.take_length] at hmem
  obtain ⟨T', hg, hw'⟩ := hw.gc
  simp [r0, r3, r4, h.len, hwo, hg, aiB, akl, List.lookup]
  exact ⟨ks, hw', hmem⟩
 | succ k =>
  have hi : i < f.length := by omega
  obtain ⟨p, hp⟩ : ∃ p, f[i]? = some p := ⟨f[i], by simp [hi]⟩
  have hw1 : IntKind.i64.wrap ((i : Int) + 1) = ((i : Int) + 1) := wrap_i64 (by omega) (by omega)
  obtain ⟨id, o, e1, l0, l3, ht, _⟩ := ar1 h hp
  have hidn : id < H.length := by
   obtain ⟨id2, o2, ow2, cl2, f1, f2, _, _⟩ := ASl.idx h hp (by decide)
   have t1 := e1 0 0 0 [] (fun _ => ⟨.str, 4, 0, []⟩) .i64 rfl
   have t2 := f1 0 0 0 [] (fun _ => ⟨.str, 4, 0, []⟩) .i64 rfl
   rw [t1] at t2
   cases t2
   exact (List.getElem?_eq_some_iff.1 f2).1
  have l0' := l0 T
  have l3' := l3 T
  have cI := aE5 (n := p) (H := H ++ T)
  have hstep := awh hp
  by_cases g : p.Inner
  ·rw [apK g] at cI
   rw [apK g, if_pos rfl, List.append_nil] at hstep
   simp [r0, r3, r4, hi, h.len, e1, l3', cI, hw1, aiB, akl, List.lookup]
   exact ⟨k, by omega, i + 1, by omega, _, T, ⟨rfl, rfl⟩, by simp [r0], w, by simp [r3], by simp, ks, hw, by rw [hstep]; exact hmem, by omega⟩
  rw [apJ g] at cI hstep
  simp only [Bool.false_eq_true, if_false] at hstep
  simp [r0, r3, r4, hi, h.len, e1, l3', cI, aiB, akl, List.lookup]
  have hmx := hw.max
  refine WP.mono (Q := fun ex σ' => ∃ (m : Nat) (r : Nat → R), ex = .exit 2 ∧ σ' = ⟨r, 0, H ++ T⟩ ∧ r 0 = .val v ∧ r 3 = .val w ∧ r 4 = .val (.int .i64 i) ∧ r 5 = .val (.int .i64 m) ∧ m ≤ ks.length) ?_ ?_
  ·refine apT (fun k σ => ∃ (m : Nat) (r : Nat → R), m + k = ks.length ∧ σ = ⟨r, 0, H ++ T⟩ ∧ r 0 = .val v ∧ r 3 = .val w ∧ r 4 = .val (.int .i64 i) ∧ r 5 = .val (.int .i64 m)) ?_ ks.length _ ⟨0, _, by simp, rfl, by simp [r0], by simp [r3], by simp [r4], by simp⟩
   clear r0 r3 r4 r
   rintro k σ ⟨m, r, hmk, rfl, r0, r3, r4, r5⟩
   cases k with
   | zero =>
    have hm : m = ks.length := by omega
    subst hm
    simp [r0, r3, r4, r5, hw.len, aiB, akl, List.lookup]
    exact ⟨ks.length, rfl, Nat.le_refl _⟩
   | succ k =>
    have hm : m < ks.length := by omega
    obtain ⟨x, hx⟩ : ∃ c, ks[m]? = some c := ⟨ks[m], by simp [hm]⟩
    have hw2 : IntKind.i64.wrap ((m : Int) + 1) = ((m : Int) + 1) := wrap_i64 (by omega) (by omega)
    obtain ⟨id2, o2, f1, f0, _⟩ := aqG hw hx
    by_cases g : LtS x p.attr
    ·simp [r0, r3, r4, r5, hi, hm, hw.len, e1, l0', f1, f0, atJ g, hw2, aiB, akl, List.lookup]
     exact ⟨k, by omega, m + 1, by omega, by omega⟩
    ·simp [r0, r3, r4, r5, hi, hm, hw.len, e1, l0', f1, f0, at6 g, hw2, aiB, akl, List.lookup]
     exact ⟨m, rfl, by omega⟩
  ·clear r0 r3 r4 r
   rintro ex σ' ⟨m, r, rfl, rfl, r0, r3, r4, r5, hml⟩
   by_cases gs : ∃ x, ks[m]? = some x ∧ x = p.attr
   ·obtain ⟨x, hx, hxp⟩ := gs
    have hm := (List.getElem?_eq_some_iff.1 hx).1
    obtain ⟨id2, o2, f1, f0, _⟩ := aqG hw hx
    simp [r0, r3, r4, r5, hi, hm, hw.len, e1, l0', f1, f0, hxp, hw1, aiB, akl, List.lookup]
    refine ⟨k, by omega, i + 1, by omega, _, T, ⟨rfl, rfl⟩, by simp [r0], w, by simp [r3], by simp, ks, hw, fun y => ?_, by omega⟩
    rw [hstep, List.mem_append, List.mem_singleton, ← hmem y]
    exact ⟨.inl, fun hh => hh.elim (fun z => z) fun e => by rw [e, ← hxp]; exact List.mem_of_getElem? hx⟩
   obtain ⟨s1, s2, a1, a2, hcase⟩ := hw.cut hml
   have n1 := avD a1 (G := H ++ T ++ [.mk true 1 []]) ⟨_, rfl⟩
   have R0 : Gs (H ++ T) (H ++ T ++ [.mk true 1 []]) (.slc (some ((H ++ T).length, 0)) 0) (([] : List Str).map V.str) := Gs.init
   obtain ⟨x1, G1, p1, g1⟩ := R0.many (d := .str) (b := 16) (z := [.str []]) (n1 _ _ _) auA (by simp; unfold ap0; omega) (by decide) (by decide) rfl
   obtain ⟨x2, G2, p2, g2⟩ := g1.push (x := .str p.attr) (d := .str) (b := 16) (z := [.str []]) rfl (by simp; unfold ap0; omega) (by decide) (by decide) rfl
   have n2 := avD a2 g2.ext
   obtain ⟨x3, G3, p3, g3⟩ := g2.many (d := .str) (b := 16) (z := [.str []]) (n2 _ _ _) auA (by simp; unfold ap0; omega) (by decide) (by decide) rfl
   have g3' : Gs (H ++ T) G3 x3 ((ks.take m ++ p.attr :: ks.drop m).map V.str) := by simpa using g3
   have hmem2 : ∀ y, y ∈ ks.take m ++ p.attr :: ks.drop m ↔ y ∈ aqM (f.take (i + 1)) := fun y => by
    rw [hstep, List.mem_append (s := aqM _), List.mem_singleton, ← hmem y]
    conv => rhs; rw [← List.take_append_drop m ks]
    simp only [List.mem_append, List.mem_cons]
    constructor
    ·rintro (h | h | h)
     ·exact .inl (.inl h)
     ·exact .inr h
     ·exact .inl (.inr h)
    ·rintro ((h | h) | h)
     ·exact .inl h
     ·exact .inr (.inr h)
     ·exact .inr (.inl h)
   have hat := (g3'.strs (by simp; unfold maxLen; omega) (fun s hs => by
    rcases List.mem_append.1 hs with hs | hs
    ·exact hmx s (List.mem_of_mem_take hs)
    ·rcases List.mem_cons.1 hs with rfl | hs
     ·exact ht
     ·exact hmx s (List.mem_of_mem_drop hs))).1
   obtain ⟨S1, hS1⟩ := g1.ext
   obtain ⟨S2, hS2⟩ := g2.ext
   obtain ⟨S3, hS3⟩ := g3'.ext
   have l1a : ∀ T : LT, T.one → ∀ r c, loadAt T ⟨r, c, G1⟩ (.hp id (o + 1)) = some (.str p.attr) := fun TT hT r c => by
    rw [hS1, List.append_assoc]; exact (l0 _ TT hT r c).2.1
   have o1 := g1.one
   have o2 := g2.one
   have o3 := g3'.one
   have hoA : ap5 s1 = true ∧ cellsOf s1 = some [s1] := a1.one
   have hoB : ap5 s2 = true ∧ cellsOf s2 = some [s2] := a2.one
   have fin : ∃ (T' : List Ob), G3 = H ++ T' ∧ AStrs (H ++ T') x3 (ks.take m ++ p.attr :: ks.drop m) := ⟨T ++ S3, by rw [hS3, List.append_assoc], by rw [← List.append_assoc, ← hS3]; exact hat⟩
   obtain ⟨T', hT', hat'⟩ := fin
   have hfin : (ks.take m ++ p.attr :: ks.drop m).length ≤ i + 1 := by simp; omega
   by_cases gi : m < ks.length
   ·obtain ⟨x, hx⟩ : ∃ c, ks[m]? = some c := ⟨ks[m], by simp [gi]⟩
    obtain ⟨id2, o2', f1, f0, _⟩ := aqG hw hx
    have hxt : ¬ x = p.attr := fun e => gs ⟨x, hx, e⟩
    rcases hcase with ⟨_, _, _, _, h0⟩ | ⟨ids, off, hv, hs1, hs2, hst⟩
    ·rw [h0] at gi; simp at gi
    have t1 := hst (H ++ T ++ [.mk true 1 []]) ⟨_, rfl⟩
    have t2 := hst G2 ⟨S2, hS2⟩
    rw [hv] at r3 f1
    have hwl := fun {e s b : Nat} {z : List V} => hw.len (e := e) (s := s) (b := b) (z := z)
    rw [hv] at hwl
    rw [hs1] at p1
    rw [hs2] at p3
    simp [Sh.size_str] at t1 t2 p1 p2 p3 hwl
    simp [r0, r3, r4, r5, hi, gi, hml, hwl, e1, l0', l1a, f1, f0, hxt, St.new, apR, apN, apG, t1, t2, p1, p2, p3, o1, o2, o3, hw1, aiB, akl, List.lookup]
    exact ⟨k, by omega, i + 1, by omega, _, T', ⟨rfl, hT'⟩, by simp [r0], x3, by simp, by simp, _, hat', hmem2, hfin⟩
   ·have hin : m = ks.length := by omega
    rcases hcase with ⟨hv, hs1, hs2, hi0, h0⟩ | ⟨ids, off, hv, hs1, hs2, hst⟩
    ·rw [hv] at r3
     have hwl := fun {e s b : Nat} {z : List V} => hw.len (e := e) (s := s) (b := b) (z := z)
     rw [hv] at hwl
     rw [hs1] at p1
     rw [hs2] at p3
     subst h0
     simp at p1 p2 p3 hwl
     simp [r0, r3, r4, r5, hi, hi0, hwl, e1, l0', l1a, St.new, apR, apN, apG, p1, p2, p3, o1, o2, o3, hw1, aiB, akl, List.lookup]
     exact ⟨k, by omega, i + 1, by omega, _, T', ⟨rfl, hT'⟩, by simp [r0], x3, by simp, by simp, _, hat', hmem2, hfin⟩
    ·have t1 := hst (H ++ T ++ [.mk true 1 []]) ⟨_, rfl⟩
     have t2 := hst G2 ⟨S2, hS2⟩
     rw [hv] at r3
     have hwl := fun {e s b : Nat} {z : List V} => hw.len (e := e) (s := s) (b := b) (z := z)
     rw [hv] at hwl
     rw [hs1] at p1
     rw [hs2] at p3
     simp [Sh.size_str] at t1 t2 p1 p2 p3 hwl
     simp [r0, r3, r4, r5, hi, gi, hml, hwl, e1, l0', l1a, St.new, apR, apN, apG, t1, t2, p1, p2, p3, o1, o2, o3, hw1, aiB, akl, List.lookup]
     exact ⟨k, by omega, i + 1, by omega, _, T', ⟨rfl, hT'⟩, by simp [r0], x3, by simp, by simp, _, hat', hmem2, hfin⟩
def aqB : Str := [112, 104, 111, 110, 101]
def aqF (f : PFlow) : Prop := DnOk f.base ∧ FilterOk f.filter ∧ arA f.login ∧ arA f.mail ∧ arA f.phone ∧ (f.back = true → aqB ∉ aqM f.filter ∧ aqB ∉ aqE f.login ∧ aqB ∉ aqE f.mail)
theorem aAv {H : List Ob} {vb vf vl vm vp : V} {f : PFlow} (h1 : aq2 H vb f.base) (h2 : aqT H vf f.filter) (h3 : ap9 H vl f.login) (h4 : ap9 H vm f.mail) (h5 : ap9 H vp f.phone) :
  callW C 57 [.agg [vb, vf, vl, vm, vp, .bool f.back]] H = some (.bool (dec (aqF f)), H) := by
 apply Ret.dec
 rw [aP8]
 have o1 := h1.one
 have o2 := h2.one
 have o3 := h3.one
 have o4 := h4.one
 have o5 := h5.one
 have c1 := aIn h1
 have c2 := auM h2
 have c3 := aug h3
 have c4 := aug h4
 have c5 := aug h5
 by_cases g1 : DnOk f.base
 rotate_left
 ·have hn : ¬ aqF f := fun h => g1 h.1
  rw [apJ g1] at c1
  simp [asr, Tryz.f57, o1, o2, o3, o4, o5, c1, c2, c3, c4, c5, hn, apN, apG, aiB, akl, List.lookup]
 rw [apK g1] at c1
 by_cases g2 : FilterOk f.filter
 rotate_left
 ·have hn : ¬ aqF f := fun h => g2 h.2.1
  rw [apJ g2] at c2
  simp [asr, Tryz.f57, o1, o2, o3, o4, o5, c1, c2, c3, c4, c5, hn, apN, apG, aiB, akl, List.lookup]
 rw [apK g2] at c2
 by_cases g3 : arA f.login
 rotate_left
 ·have hn : ¬ aqF f := fun h => g3 h.2.2.1
  rw [apJ g3] at c3
  simp [asr, Tryz.f57, o1, o2, o3, o4, o5, c1, c2, c3, c4, c5, hn, apN, apG, aiB, akl, List.lookup]
 rw [apK g3] at c3
 by_cases g4 : arA f.mail
 rotate_left
 ·have hn : ¬ aqF f := fun h => g4 h.2.2.2.1
  rw [apJ g4] at c4
  simp [asr, Tryz.f57, o1, o2, o3, o4, o5, c1, c2, c3, c4, c5, hn, apN, apG, aiB, akl, List.lookup]
 rw [apK g4] at c4
 by_cases g5 : arA f.phone
 rotate_left
 ·have hn : ¬ aqF f := fun h => g5 h.2.2.2.2.1
  rw [apJ g5] at c5
  simp [asr, Tryz.f57, o1, o2, o3, o4, o5, c1, c2, c3, c4, c5, hn, apN, apG, aiB, akl, List.lookup]
 rw [apK g5] at c5
 cases gb : f.back with
 | false =>
  have hy : aqF f := ⟨g1, g2, g3, g4, g5, fun h => by rw [gb] at h; cases h⟩
  simp [asr, Tryz.f57, o1, o2, o3, o4, o5, c1, c2, c3, c4, c5, hy, apN, apG, aiB, akl, List.lookup]
 | true =>
 obtain ⟨T1, w1, l1, d1, a1, m1⟩ := axR h2 g2
 obtain ⟨K1, hK1⟩ : ∃ K, K = H ++ T1 := ⟨_, rfl⟩
 rw [← hK1] at d1 a1
 have e1 := aDR (t := aqB) a1
 have o6 := a1.one
 obtain ⟨T2, w2, l2, d2, a2, m2⟩ := awP (H := K1) (by rw [hK1]; exact h3.ext) g3.1
 obtain ⟨K2, hK2⟩ : ∃ K, K = K1 ++ T2 := ⟨_, rfl⟩
 rw [← hK2] at d2 a2
 have e2 := aDR (t := aqB) a2
 have o7 := a2.one
 obtain ⟨T3, w3, l3, d3, a3, m3⟩ := awP (H := K2) (by rw [hK2, hK1]; exact h4.ext.ext) g4.1
 obtain ⟨K3, hK3⟩ : ∃ K, K = K2 ++ T3 := ⟨_, rfl⟩
 rw [← hK3] at d3 a3
 have e3 := aDR (t := aqB) a3
 have o8 := a3.one
 have b1 : ∀ t, gcH H K1 (.bool t) = H := fun t => by rw [hK1, aui]
 have b2 : ∀ t, gcH H K2 (.bool t) = H := fun t => by rw [hK2, hK1, List.append_assoc, aui]
 have b3 : ∀ t, gcH H K3 (.bool t) = H := fun t => by rw [hK3, hK2, hK1, List.append_assoc, List.append_assoc, aui]
 by_cases q1 : aqB ∈ aqM f.filter
 ·have hn : ¬ aqF f := fun h => (h.2.2.2.2.2 gb).1 q1
  rw [apK ((m1 _).2 q1)] at e1
  simp only [aqB] at e1
  simp [asr, Tryz.f57, o1, o2, o3, o4, o5, c1, c2, c3, c4, c5, d1, e1, o6, b1, hn, apN, apG, aiB, akl, List.lookup]
 rw [apJ (fun h => q1 ((m1 _).1 h))] at e1
 simp only [aqB] at e1
 by_cases q2 : aqB ∈ aqE f.login
 ·have hn : ¬ aqF f := fun h => (h.2.2.2.2.2 gb).2.1 q2
  rw [apK ((m2 _).2 q2)] at e2
  simp only [aqB] at e2
  simp [asr, Tryz.f57, o1, o2, o3, o4, o5, c1, c2, c3, c4, c5, d1, e1, d2, e2, o6, o7, b2, hn, apN, apG, aiB, akl, List.lookup]
 rw [apJ (fun h => q2 ((m2 _).1 h))] at e2
 simp only [aqB] at e2
 by_cases q3 : aqB ∈ aqE f.mail
 ·have hn : ¬ aqF f := fun h => (h.2.2.2.2.2 gb).2.2 q3
  rw [apK ((m3 _).2 q3)] at e3
  simp only [aqB] at e3
  simp [asr, Tryz.f57, o1, o2, o3, o4, o5, c1, c2, c3, c4, c5, d1, e1, d2, e2, d3, e3, o6, o7, o8, b3, hn, apN, apG, aiB, akl, List.lookup]
 ·have hy : aqF f := ⟨g1, g2, g3, g4, g5, fun _ => ⟨q1, q2, q3⟩⟩
  rw [apJ (fun h => q3 ((m3 _).1 h))] at e3
  simp only [aqB] at e3
  simp [asr, Tryz.f57, o1, o2, o3, o4, o5, c1, c2, c3, c4, c5, d1, e1, d2, e2, d3, e3, o6, o7, o8, b3, hy, apN, apG, aiB, akl, List.lookup]
theorem aAa {H : List Ob} {vb vf vl vm vp : V} {f : PFlow} (h1 : aq2 H vb f.base) (h2 : aqT H vf f.filter) (h3 : ap9 H vl f.login) (h4 : ap9 H vm f.mail) (h5 : ap9 H vp f.phone) :
  callW C 64 [.agg [vb, vf, vl, vm, vp, .bool f.back]] H = some (.bool (dec (aqF f)), H) := by
 apply Ret.dec
 rw [aQj]
 have o1 := h1.one
 have o2 := h2.one
 have o3 := h3.one
 have o4 := h4.one
 have o5 := h5.one
 have c1 := aJI h1
 have c2 := axE h2
 have c3 := atY h3
 have c4 := atY h4
 have c5 := atY h5
 by_cases g1 : DnOk f.base
 rotate_left
 ·have hn : ¬ aqF f := fun h => g1 h.1
  rw [apJ g1] at c1
  simp [ati, Tryz.f64, o1, o2, o3, o4, o5, c1, c2, c3, c4, c5, hn, apN, apG, aiB, akl, List.lookup]
 rw [apK g1] at c1
 by_cases g2 : FilterOk f.filter
 rotate_left
 ·have hn : ¬ aqF f := fun h => g2 h.2.1
  rw [apJ g2] at c2
  simp [ati, Tryz.f64, o1, o2, o3, o4, o5, c1, c2, c3, c4, c5, hn, apN, apG, aiB, akl, List.lookup]
 rw [apK g2] at c2
 by_cases g3 : arA f.login
 rotate_left
 ·have hn : ¬ aqF f := fun h => g3 h.2.2.1
  rw [apJ g3] at c3
  simp [ati, Tryz.f64, o1, o2, o3, o4, o5, c1, c2, c3, c4, c5, hn, apN, apG, aiB, akl, List.lookup]
 rw [apK g3] at c3
 by_cases g4 : arA f.mail
 rotate_left
 ·have hn : ¬ aqF f := fun h => g4 h.2.2.2.1
  rw [apJ g4] at c4
  simp [ati, Tryz.f64, o1, o2, o3, o4, o5, c1, c2, c3, c4, c5, hn, apN, apG, aiB, akl, List.lookup]
 rw [apK g4] at c4
 by_cases g5 : arA f.phone
 rotate_left
 ·have hn : ¬ aqF f := fun h => g5 h.2.2.2.2.1
  rw [apJ g5] at c5
  simp [ati, Tryz.f64, o1, o2, o3, o4, o5, c1, c2, c3, c4, c5, hn, apN, apG, aiB, akl, List.lookup]
 rw [apK g5] at c5
 cases gb : f.back with
 | false =>
  have hy : aqF f := ⟨g1, g2, g3, g4, g5, fun h => by rw [gb] at h; cases h⟩
  simp [ati, Tryz.f64, o1, o2, o3, o4, o5, c1, c2, c3, c4, c5, hy, apN, apG, aiB, akl, List.lookup]
 | true =>
 obtain ⟨T1, w1, l1, d1, a1, m1, z1⟩ := axF h2 g2
 obtain ⟨K1, hK1⟩ : ∃ K, K = H ++ T1 := ⟨_, rfl⟩
 rw [← hK1] at d1 a1
 have o6 := a1.one
 obtain ⟨T2, w2, l2, d2, a2, m2, z2⟩ := av8 (H := K1) (by rw [hK1]; exact h3.ext) g3.1
 obtain ⟨K2, hK2⟩ : ∃ K, K = K1 ++ T2 := ⟨_, rfl⟩
 rw [← hK2] at d2 a2
 have o7 := a2.one
 obtain ⟨T3, w3, l3, d3, a3, m3, z3⟩ := av8 (H := K2) (by rw [hK2, hK1]; exact h4.ext.ext) g4.1
 obtain ⟨K3, hK3⟩ : ∃ K, K = K2 ++ T3 := ⟨_, rfl⟩
 rw [← hK3] at d3 a3
 have o8 := a3.one
 have hfl : fl [l1, l2, l3] 3 = l1 ++ l2 ++ l3 := by simp [fl]
 have a1' : AStrs (K3 ++ [.mk true 1 [w1, w2, w3]]) w1 l1 := by rw [hK3, hK2]; exact a1.ext.ext.ext
 have a2' : AStrs (K3 ++ [.mk true 1 [w1, w2, w3]]) w2 l2 := by rw [hK3]; exact a2.ext.ext
 have a3' : AStrs (K3 ++ [.mk true 1 [w1, w2, w3]]) w3 l3 := a3.ext
 have hlen : (l1 ++ l2 ++ l3).length ≤ 44 := by simp; omega
 obtain ⟨T4, w, d4, hown⟩ := aAf (H := K3 ++ [.mk true 1 [w1, w2, w3]]) (id := K3.length) (own := true) (ws := [w1, w2, w3]) (ls := [l1, l2, l3]) get_last rfl (fun i w l hw hl => by
  match i with
  | 0 => cases hw; cases hl; exact a1'
  | 1 => cases hw; cases hl; exact a2'
  | 2 => cases hw; cases hl; exact a3'
  | i + 3 => simp at hw) (by simp only [List.length_cons, List.length_nil]; rw [hfl]; omega) (by simp)
 simp only [List.length_cons, List.length_nil] at hown d4
 rw [hfl] at hown
 have a4 := Own.strs hown (by unfold maxLen; omega) (fun s hs => by
  rcases List.mem_append.1 hs with hs | hs
  ·rcases List.mem_append.1 hs with hs | hs
   ·exact a1.max s hs
   ·exact a2.max s hs
  ·exact a3.max s hs)
 have e4 := aBx (t := aqB) a4
 have o9 := a4.one
 have b4 : ∀ t X, gcH H (K3 ++ X) (.bool t) = H := fun t X => by rw [hK3, hK2, hK1, List.append_assoc, List.append_assoc, List.append_assoc, aui]
 have hiff : aqB ∈ l1 ++ l2 ++ l3 ↔ ¬ (aqB ∉ aqM f.filter ∧ aqB ∉ aqE f.login ∧ aqB ∉ aqE f.mail) := by
  rw [List.mem_append, List.mem_append, m1, m2, m3]
  by_cases q1 : aqB ∈ aqM f.filter <;> by_cases q2 : aqB ∈ aqE f.login <;> by_cases q3 : aqB ∈ aqE f.mail <;> simp [q1, q2, q3]
 simp only [List.append_assoc, List.cons_append, List.nil_append, Nat.zero_add, Nat.reduceAdd] at d4 e4
 by_cases q : aqB ∈ l1 ++ l2 ++ l3
 ·have hn : ¬ aqF f := fun h => hiff.1 q (h.2.2.2.2.2 gb)
  simp only [List.append_assoc] at q
  rw [apK q] at e4
  simp only [aqB] at e4
  simp [ati, Tryz.f64, o1, o2, o3, o4, o5, c1, c2, c3, c4, c5, d1, d2, d3, d4, e4, o6, o7, o8, o9, b4, hn, St.new, apR, apN, apG, aiB, akl, List.lookup]
 ·have hy : aqF f := ⟨g1, g2, g3, g4, g5, fun _ => Classical.byContradiction fun hh => q (hiff.2 hh)⟩
  simp only [List.append_assoc] at q
  rw [apJ q] at e4
  simp only [aqB] at e4
  simp [ati, Tryz.f64, o1, o2, o3, o4, o5, c1, c2, c3, c4, c5, d1, d2, d3, d4, e4, o6, o7, o8, o9, b4, hy, St.new, apR, apN, apG, aiB, akl, List.lookup]
end Go.Proofs.Try1
end
