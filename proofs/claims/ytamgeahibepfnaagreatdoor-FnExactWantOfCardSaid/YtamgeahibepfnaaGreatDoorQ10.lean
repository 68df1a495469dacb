/- Part 10 of the proof of a law: the interpreter, its soundness, and what functions of the program compute over it. Conditions: none but those that each theorem names. -/
import Derived.Test.YtamgeahibepfnaaGreatDoorQ09
import Derived.Test.YtamgeahibepfnaaGreatDoorQ05
import Derived.Test.YtamgeahibepfnaaGreatDoorQ08

set_option linter.all false
set_option maxRecDepth 20000
set_option maxHeartbeats 40000000
section
namespace Go.Proofs.Try1
open Go Go.Lite
attribute [-simp] aqY arP
attribute [local simp] arb arN aq6 aq9 aq7 aqQ
attribute [local simp low] ara
def upC (c : UInt8) : UInt8 := if 97 ≤ c.toNat ∧ c.toNat ≤ 122 then c - 32 else c
def aq3 (up : Bool) (c : UInt8) : UInt8 := if up = true then upC c else asX c
theorem aCc {c : UInt8} (h1 : 97 ≤ c.toNat) (h2 : c.toNat ≤ 122) : IntKind.u8.wrap ((c.toNat : Int) - 32) = ((upC c).toNat : Int) := by
 have : upC c = c - 32 := by unfold upC; rw [if_pos ⟨h1, h2⟩]
 rw [this]
 have h3 : (32 : UInt8) ≤ c := by
  rw [UInt8.le_iff_toNat_le]
  have : (32 : UInt8).toNat = 32 := rfl
  omega
 have h4 : (c - 32).toNat = c.toNat - 32 := by
  rw [UInt8.toNat_sub_of_le _ _ h3]
  rfl
 rw [h4]
 unfold IntKind.wrap
 simp [IntKind.bits, IntKind.signed]
 omega
theorem aD8 {c : UInt8} (h : ¬ (97 ≤ c.toNat ∧ c.toNat ≤ 122)) : upC c = c := by unfold upC; rw [if_neg h]
def turned (up : Bool) (t : Str) (i : Nat) : Str := (t.take i).map (aq3 up) ++ t.drop i
theorem atQ {up : Bool} {t : Str} {i : Nat} : (turned up t i).length = t.length := by
 unfold turned
 simp
 omega
theorem atD {up : Bool} {t : Str} {i : Nat} {c : UInt8} (h : t[i]? = some c) : (turned up t i)[i]? = some c := by
 have hi := (List.getElem?_eq_some_iff.1 h).1
 unfold turned
 rw [List.getElem?_append_right (by simp; omega), List.getElem?_drop]
 simp
 rw [show i + (i - min i t.length) = i by omega]
 exact h
theorem as7 {up : Bool} {t : Str} {i : Nat} {c : UInt8} (h : t[i]? = some c) : turned up t (i + 1) = (turned up t i).set i (aq3 up c) := by
 obtain ⟨hi, hc⟩ := List.getElem?_eq_some_iff.1 h
 unfold turned
 rw [ars h, List.map_append, List.append_assoc, List.set_append_right _ _ (by simp; omega)]
 congr 1
 have : i - ((t.take i).map (aq3 up)).length = 0 := by simp; omega
 rw [this, List.drop_eq_getElem_cons hi]
 rfl
theorem as3 {up : Bool} {t : Str} {i : Nat} {c : UInt8} (h : t[i]? = some c) (hc : aq3 up c = c) : turned up t (i + 1) = turned up t i := by
 rw [as7 h, hc]
 apply List.ext_getElem?
 intro j
 rw [List.getElem?_set]
 split
 ·rename_i e
  subst e
  rw [atD h]
  split
  ·rfl
  ·rename_i hh
   rw [atQ] at hh
   exact absurd (List.getElem?_eq_some_iff.1 h).1 hh
 ·rfl
theorem ayC {b : Str} {i : Nat} {c : UInt8} : (bys b).set i (.int .u8 c.toNat) = bys (b.set i c) := by
 simp [bys, List.map_set]
theorem aEf {t : Str} {up : Bool} {H : List Ob} (hl : t.length ≤ 100000) : callW C 319 [.str t, .bool up] H = some (.str (t.map (aq3 up)), H) := by
 apply Ret.eq
 rw [aHt]
 simp [ayq, Tryz.f319, apR, apN, apG, St.new]
 have hb0 : List.map (fun c : UInt8 => V.int IntKind.u8 (c.toNat : Int)) t = bys (turned up t 0) := by simp [bys, turned]
 rw [hb0]
 refine apT (fun k σ => ∃ (i : Nat) (r : Nat → R) (G : List Ob), i + k = t.length ∧ σ = ⟨r, 0, G⟩ ∧ r 0 = .val (.str t) ∧ r 1 = .val (.bool up) ∧ r 5 = .val (.slc (some (H.length, 0)) t.length) ∧ r 6 = .val (.int .i64 i) ∧ G = H ++ [.mk true 1 (bys (turned up t i))]) ?_ t.length _ ⟨0, _, _, by simp, rfl, by simp, by simp, by simp, by simp, rfl⟩
 rintro k σ ⟨i, r, G, hik, rfl, r0, r1, r5, r6, hG⟩
 have hg : G[H.length]? = some (.mk true 1 (bys (turned up t i))) := by rw [hG]; exact get_last
 have hid : H.length < G.length := by rw [hG]; simp
 have hst : apX G H.length 1 = true := by unfold apX; rw [hg]; rfl
 cases k with
 | zero =>
  have hi : i = t.length := by omega
  subst hi
  have he : turned up t t.length = t.map (aq3 up) := by unfold turned; simp
  have hB : Bs H G (.slc (some (H.length, 0)) t.length) (t.map (aq3 up)) := ⟨_, H.length, hG, Nat.le_refl _, by rw [← he]; exact hg, by simp⟩
  obtain ⟨idb, hv, _, hsl⟩ := hB.cut (n := t.length) (by simp)
  rw [List.take_of_length_le (by simp)] at hsl
  simp only [V.slc.injEq, Option.some.injEq, Prod.mk.injEq] at hv
  obtain ⟨⟨rfl, _⟩, _⟩ := hv
  subst hG
  simp [r0, r1, r5, r6, hsl, hst, isByte, arD]
 | succ k =>
  have hi : i < t.length := by omega
  obtain ⟨c, hc⟩ : ∃ c, t[i]? = some c := ⟨t[i], by simp [hi]⟩
  have hw : IntKind.i64.wrap ((i : Int) + 1) = ((i : Int) + 1) := wrap_i64 (by omega) (by omega)
  have ld := aqt (o := i) (v := .int .u8 c.toNat) hg (awD (atD hc))
  have st : ∀ d : UInt8, _ := fun d => store1 (o := i) (v := .int .u8 d.toNat) hg (by rw [asw, atQ]; exact hi) rfl rfl
  have hset : ∀ d : UInt8, d = aq3 up c → G.set H.length (.mk true 1 ((bys (turned up t i)).set i (.int .u8 d.toNat))) = H ++ [.mk true 1 (bys (turned up t (i + 1)))] := fun d hd => by
   rw [hG, arh, ayC, hd, ← as7 hc]
  cases up with
  | true =>
   by_cases g : 97 ≤ c.toNat ∧ c.toNat ≤ 122
   ·have g1 : (97 : Int) ≤ c.toNat := by omega
    have g2 : (c.toNat : Int) ≤ 122 := by omega
    have hs := aCc g.1 g.2
    have st1 := st (upC c)
    rw [hset (upC c) rfl] at st1
    simp [r0, r1, r5, r6, hi, hid, g.1, g.2, g1, g2, ld, hs, st1, hw]
    exact ⟨k, by omega, i + 1, by omega, _, _, ⟨rfl, rfl⟩, by simp [r0], by simp [r1], by simp [r5], by simp, rfl⟩
   ·have he : aq3 true c = c := aD8 g
    have hG' : G = H ++ [.mk true 1 (bys (turned true t (i + 1)))] := by rw [as3 hc he]; exact hG
    by_cases g1 : 97 ≤ c.toNat
    ·have g1' : (97 : Int) ≤ c.toNat := by omega
     have g2 : ¬ c.toNat ≤ 122 := fun h => g ⟨g1, h⟩
     have g2' : ¬ (c.toNat : Int) ≤ 122 := by omega
     simp [r0, r1, r5, r6, hi, hid, g1, g2, g1', g2', ld, hw]
     exact ⟨k, by omega, i + 1, by omega, _, _, ⟨rfl, rfl⟩, by simp [r0], by simp [r1], by simp [r5], by simp, hG'⟩
    ·have g1' : ¬ (97 : Int) ≤ c.toNat := by omega
     simp [r0, r1, r5, r6, hi, hid, g1, g1', ld, hw]
     exact ⟨k, by omega, i + 1, by omega, _, _, ⟨rfl, rfl⟩, by simp [r0], by simp [r1], by simp [r5], by simp, hG'⟩
  | false =>
   by_cases g : 65 ≤ c.toNat ∧ c.toNat ≤ 90
   ·have g1 : (65 : Int) ≤ c.toNat := by omega
    have g2 : (c.toNat : Int) ≤ 90 := by omega
    have hs := awF g.1 g.2
    have st1 := st (asX c)
    rw [hset (asX c) rfl] at st1
    simp [r0, r1, r5, r6, hi, hid, g.1, g.2, g1, g2, ld, hs, st1, hw]
    exact ⟨k, by omega, i + 1, by omega, _, _, ⟨rfl, rfl⟩, by simp [r0], by simp [r1], by simp [r5], by simp, rfl⟩
   ·have he : aq3 false c = c := awG g
    have hG' : G = H ++ [.mk true 1 (bys (turned false t (i + 1)))] := by rw [as3 hc he]; exact hG
    by_cases g1 : 65 ≤ c.toNat
    ·have g1' : (65 : Int) ≤ c.toNat := by omega
     have g2 : ¬ c.toNat ≤ 90 := fun h => g ⟨g1, h⟩
     have g2' : ¬ (c.toNat : Int) ≤ 90 := by omega
     simp [r0, r1, r5, r6, hi, hid, g1, g2, g1', g2', ld, hw]
     exact ⟨k, by omega, i + 1, by omega, _, _, ⟨rfl, rfl⟩, by simp [r0], by simp [r1], by simp [r5], by simp, hG'⟩
    ·have g1' : ¬ (65 : Int) ≤ c.toNat := by omega
     simp [r0, r1, r5, r6, hi, hid, g1, g1', ld, hw]
     exact ⟨k, by omega, i + 1, by omega, _, _, ⟨rfl, rfl⟩, by simp [r0], by simp [r1], by simp [r5], by simp, hG'⟩
theorem aEM {t : Str} {H : List Ob} (hl : t.length ≤ 100000) : callW C 321 [.str t, .int .u8 97, .int .u8 65] H = some (.str (t.map (aq3 true)), H) := by
 apply Ret.eq
 rw [aFJ]
 simp [aww, Tryz.f321, apR, apN, apG, St.new]
 have hb0 : List.map (fun c : UInt8 => V.int IntKind.u8 (c.toNat : Int)) t = bys (turned true t 0) := by simp [bys, turned]
 rw [hb0]
 refine apT (fun k σ => ∃ (i : Nat) (r : Nat → R) (G : List Ob), i + k = t.length ∧ σ = ⟨r, 0, G⟩ ∧ r 0 = .val (.str t) ∧ r 1 = .val (.int .u8 97) ∧ r 2 = .val (.int .u8 65) ∧ r 7 = .val (.slc (some (H.length, 0)) t.length) ∧ r 12 = .val (.slc (some (H.length, 0)) t.length) ∧ r 13 = .val (.int .i64 t.length) ∧ r 14 = .val (.int .i64 i) ∧ G = H ++ [.mk true 1 (bys (turned true t i))]) ?_ t.length _ ⟨0, _, _, by simp, rfl, by simp, by simp, by simp, by simp, by simp, by simp, by simp, rfl⟩
 rintro k σ ⟨i, r, G, hik, rfl, r0, r1, r2, r7, r12, r13, r14, hG⟩
 have hg : G[H.length]? = some (.mk true 1 (bys (turned true t i))) := by rw [hG]; exact get_last
 have hid : H.length < G.length := by rw [hG]; simp
 have hst : apX G H.length 1 = true := by unfold apX; rw [hg]; rfl
 have hlo : IntKind.u8.wrap 123 = 123 := by decide
 cases k with
 | zero =>
  have hi : i = t.length := by omega
  subst hi
  have he : turned true t t.length = t.map (aq3 true) := by unfold turned; simp
  have hB : Bs H G (.slc (some (H.length, 0)) t.length) (t.map (aq3 true)) := ⟨_, H.length, hG, Nat.le_refl _, by rw [← he]; exact hg, by simp⟩
  obtain ⟨idb, hv, _, hsl⟩ := hB.cut (n := t.length) (by simp)
  rw [List.take_of_length_le (by simp)] at hsl
  simp only [V.slc.injEq, Option.some.injEq, Prod.mk.injEq] at hv
  obtain ⟨⟨rfl, _⟩, _⟩ := hv
  subst hG
  simp [r0, r1, r2, r7, r12, r13, r14, hsl, hst, isByte, arD]
 | succ k =>
  have hi : i < t.length := by omega
  obtain ⟨c, hc⟩ : ∃ c, t[i]? = some c := ⟨t[i], by simp [hi]⟩
  have hw : IntKind.i64.wrap ((i : Int) + 1) = ((i : Int) + 1) := wrap_i64 (by omega) (by omega)
  have ld := aqt (o := i) (v := .int .u8 c.toNat) hg (awD (atD hc))
  have st : ∀ d : UInt8, _ := fun d => store1 (o := i) (v := .int .u8 d.toNat) hg (by rw [asw, atQ]; exact hi) rfl rfl
  have hset : ∀ d : UInt8, d = aq3 true c → G.set H.length (.mk true 1 ((bys (turned true t i)).set i (.int .u8 d.toNat))) = H ++ [.mk true 1 (bys (turned true t (i + 1)))] := fun d hd => by
   rw [hG, arh, ayC, hd, ← as7 hc]
  by_cases g : 97 ≤ c.toNat ∧ c.toNat ≤ 122
  ·have g1 : (97 : Int) ≤ c.toNat := by omega
   have g2n : c.toNat < 123 := by omega
   have g2 : (c.toNat : Int) < 123 := by omega
   have hs0 : IntKind.u8.wrap ((c.toNat : Int) - 97) = (c.toNat : Int) - 97 := by unfold IntKind.wrap; simp [IntKind.bits, IntKind.signed]; omega
   have hs : IntKind.u8.wrap ((c.toNat : Int) - 97 + 65) = ((upC c).toNat : Int) := by
    have := aCc g.1 g.2
    rw [← this]
    congr 1
    omega
   have st1 := st (upC c)
   rw [hset (upC c) rfl] at st1
   simp [r0, r1, r2, r7, r12, r13, r14, hi, hid, g.1, g.2, g1, g2n, g2, hlo, ld, hs0, hs, st1, hw]
   exact ⟨k, by omega, i + 1, by omega, _, _, ⟨rfl, rfl⟩, by simp [r0], by simp [r1], by simp [r2], by simp [r7], by simp [r12], by simp [r13], by simp, rfl⟩
  ·have he : aq3 true c = c := aD8 g
   have hG' : G = H ++ [.mk true 1 (bys (turned true t (i + 1)))] := by rw [as3 hc he]; exact hG
   by_cases g1 : 97 ≤ c.toNat
   ·have g1' : (97 : Int) ≤ c.toNat := by omega
    have g2 : ¬ c.toNat < 123 := fun h => g ⟨g1, by omega⟩
    have g2' : ¬ (c.toNat : Int) < 123 := by omega
    simp [r0, r1, r2, r7, r12, r13, r14, hi, hid, g1, g2, g1', g2', hlo, ld, hw]
    exact ⟨k, by omega, i + 1, by omega, _, _, ⟨rfl, rfl⟩, by simp [r0], by simp [r1], by simp [r2], by simp [r7], by simp [r12], by simp [r13], by simp, hG'⟩
   ·have g1' : ¬ (97 : Int) ≤ c.toNat := by omega
    simp [r0, r1, r2, r7, r12, r13, r14, hi, hid, g1, g1', hlo, ld, hw]
    exact ⟨k, by omega, i + 1, by omega, _, _, ⟨rfl, rfl⟩, by simp [r0], by simp [r1], by simp [r2], by simp [r7], by simp [r12], by simp [r13], by simp, hG'⟩
theorem aFi {t : Str} {H : List Ob} (hl : t.length ≤ 100000) : callW C 321 [.str t, .int .u8 65, .int .u8 97] H = some (.str (t.map (aq3 false)), H) := by
 apply Ret.eq
 rw [aFJ]
 simp [aww, Tryz.f321, apR, apN, apG, St.new]
 have hb0 : List.map (fun c : UInt8 => V.int IntKind.u8 (c.toNat : Int)) t = bys (turned false t 0) := by simp [bys, turned]
 rw [hb0]
 refine apT (fun k σ => ∃ (i : Nat) (r : Nat → R) (G : List Ob), i + k = t.length ∧ σ = ⟨r, 0, G⟩ ∧ r 0 = .val (.str t) ∧ r 1 = .val (.int .u8 65) ∧ r 2 = .val (.int .u8 97) ∧ r 7 = .val (.slc (some (H.length, 0)) t.length) ∧ r 12 = .val (.slc (some (H.length, 0)) t.length) ∧ r 13 = .val (.int .i64 t.length) ∧ r 14 = .val (.int .i64 i) ∧ G = H ++ [.mk true 1 (bys (turned false t i))]) ?_ t.length _ ⟨0, _, _, by simp, rfl, by simp, by simp, by simp, by simp, by simp, by simp, by simp, rfl⟩
 rintro k σ ⟨i, r, G, hik, rfl, r0, r1, r2, r7, r12, r13, r14, hG⟩
 have hg : G[H.length]? = some (.mk true 1 (bys (turned false t i))) := by rw [hG]; exact get_last
 have hid : H.length < G.length := by rw [hG]; simp
 have hst : apX G H.length 1 = true := by unfold apX; rw [hg]; rfl
 have hlo : IntKind.u8.wrap 91 = 91 := by decide
 cases k with
 | zero =>
  have hi : i = t.length := by omega
  subst hi
  have he : turned false t t.length = t.map (aq3 false) := by unfold turned; simp
  have hB : Bs H G (.slc (some (H.length, 0)) t.length) (t.map (aq3 false)) := ⟨_, H.length, hG, Nat.le_refl _, by rw [← he]; exact hg, by simp⟩
  obtain ⟨idb, hv, _, hsl⟩ := hB.cut (n := t.length) (by simp)
  rw [List.take_of_length_le (by simp)] at hsl
  simp only [V.slc.injEq, Option.some.injEq, Prod.mk.injEq] at hv
  obtain ⟨⟨rfl, _⟩, _⟩ := hv
  subst hG
  simp [r0, r1, r2, r7, r12, r13, r14, hsl, hst, isByte, arD]
 | succ k =>
  have hi : i < t.length := by omega
  obtain ⟨c, hc⟩ : ∃ c, t[i]? = some c := ⟨t[i], by simp [hi]⟩
  have hw : IntKind.i64.wrap ((i : Int) + 1) = ((i : Int) + 1) := wrap_i64 (by omega) (by omega)
  have ld := aqt (o := i) (v := .int .u8 c.toNat) hg (awD (atD hc))
  have st : ∀ d : UInt8, _ := fun d => store1 (o := i) (v := .int .u8 d.toNat) hg (by rw [asw, atQ]; exact hi) rfl rfl
  have hset : ∀ d : UInt8, d = aq3 false c → G.set H.length (.mk true 1 ((bys (turned false t i)).set i (.int .u8 d.toNat))) = H ++ [.mk true 1 (bys (turned false t (i + 1)))] := fun d hd => by
   rw [hG, arh, ayC, hd, ← as7 hc]
  by_cases g : 65 ≤ c.toNat ∧ c.toNat ≤ 90
  ·have g1 : (65 : Int) ≤ c.toNat := by omega
   have g2n : c.toNat < 91 := by omega
   have g2 : (c.toNat : Int) < 91 := by omega
   have hs0 : IntKind.u8.wrap ((c.toNat : Int) - 65) = (c.toNat : Int) - 65 := by unfold IntKind.wrap; simp [IntKind.bits, IntKind.signed]; omega
   have hs : IntKind.u8.wrap ((c.toNat : Int) - 65 + 97) = ((asX c).toNat : Int) := by
    have := awF g.1 g.2
    rw [← this]
    congr 1
    omega
   have st1 := st (asX c)
   rw [hset (asX c) rfl] at st1
   simp [r0, r1, r2, r7, r12, r13, r14, hi, hid, g.1, g.2, g1, g2n, g2, hlo, ld, hs0, hs, st1, hw]
   exact ⟨k, by omega, i + 1, by omega, _, _, ⟨rfl, rfl⟩, by simp [r0], by simp [r1], by simp [r2], by simp [r7], by simp [r12], by simp [r13], by simp, rfl⟩
  ·have he : aq3 false c = c := awG g
   have hG' : G = H ++ [.mk true 1 (bys (turned false t (i + 1)))] := by rw [as3 hc he]; exact hG
   by_cases g1 : 65 ≤ c.toNat
   ·have g1' : (65 : Int) ≤ c.toNat := by omega
    have g2 : ¬ c.toNat < 91 := fun h => g ⟨g1, by omega⟩
    have g2' : ¬ (c.toNat : Int) < 91 := by omega
    simp [r0, r1, r2, r7, r12, r13, r14, hi, hid, g1, g2, g1', g2', hlo, ld, hw]
    exact ⟨k, by omega, i + 1, by omega, _, _, ⟨rfl, rfl⟩, by simp [r0], by simp [r1], by simp [r2], by simp [r7], by simp [r12], by simp [r13], by simp, hG'⟩
   ·have g1' : ¬ (65 : Int) ≤ c.toNat := by omega
    simp [r0, r1, r2, r7, r12, r13, r14, hi, hid, g1, g1', hlo, ld, hw]
    exact ⟨k, by omega, i + 1, by omega, _, _, ⟨rfl, rfl⟩, by simp [r0], by simp [r1], by simp [r2], by simp [r7], by simp [r12], by simp [r13], by simp, hG'⟩
end Go.Proofs.Try1
end
section
namespace Go.Proofs.Try1
open Go Go.Lite
def setB (l : Str) : List V := (List.range 256).map fun i => V.bool (l.any fun c => c.toNat == i)
theorem aqL {l : Str} : (setB l).length = 256 := by simp [setB]
theorem aup {l : Str} {i : Nat} (h : i < 256) : (setB l)[i]? = some (.bool (l.any fun c => c.toNat == i)) := by
 unfold setB
 rw [List.getElem?_map, List.getElem?_range h]
 rfl
theorem aCU {l : Str} {c : UInt8} : (setB l)[c.toNat]? = some (.bool (decide (c ∈ l))) := by
 rw [aup c.toNat_lt]
 congr 2
 rw [Bool.eq_iff_iff]
 simp only [List.any_eq_true, decide_eq_true_eq, beq_iff_eq]
 constructor
 ·rintro ⟨d, hd, he⟩
  rw [← UInt8.toNat_inj.1 he]
  exact hd
 ·intro h
  exact ⟨c, h, rfl⟩
theorem aDe : setB [] = List.replicate 256 (.bool false) := by
 apply List.ext_getElem?
 intro i
 by_cases h : i < 256
 ·rw [aup h, List.getElem?_replicate, if_pos h]
  rfl
 ·rw [List.getElem?_eq_none (by rw [aqL]; omega), List.getElem?_eq_none (by rw [List.length_replicate]; omega)]
theorem setOf_snoc {l : Str} {c : UInt8} : (setB l).set c.toNat (.bool true) = setB (l ++ [c]) := by
 apply List.ext_getElem?
 intro i
 have hc := c.toNat_lt
 by_cases h : i < 256
 ·rw [aup h]
  by_cases hi : i = c.toNat
  ·subst hi
   rw [List.getElem?_set_self (by rw [aqL]; omega)]
   simp
  ·rw [List.getElem?_set_ne (by omega), aup h]
   congr 2
   have : (c.toNat == i) = false := by simp; omega
   simp [this]
 ·rw [List.getElem?_eq_none (by simp [aqL]; omega), List.getElem?_eq_none (by rw [aqL]; omega)]
theorem aNw {t : Str} {H : List Ob} (ht : ∀ c ∈ t, c.toNat < 128) (hl : t.length ≤ 1000) : callW C 266 [.str t] H = some (.tup [.agg (setB t), .bool true], H) := by
 apply Ret.eq
 rw [aHb]
 simp [ayz, Tryz.f266, -List.reduceReplicate]
 refine apT (fun k σ => ∃ (i : Nat) (r : Nat → R), i + k = t.length ∧ σ = ⟨r, 1, H⟩ ∧ r 0 = .val (.str t) ∧ r 2 = .box 0 (setB (t.take i)) ∧ r 4 = .val (.int .i64 i)) ?_ t.length _ ⟨0, _, by simp, rfl, by simp, by simp [aDe, -List.reduceReplicate], by simp⟩
 rintro k σ ⟨i, r, hik, rfl, r0, r2, r4⟩
 cases k with
 | zero =>
  have hi : i = t.length := by omega
  subst hi
  rw [List.take_length] at r2
  have htk : (setB t).take 256 = setB t := List.take_of_length_le (by rw [aqL]; omega)
  have hdr : (setB t).drop 256 = [] := List.drop_of_length_le (by rw [aqL]; omega)
  have hall : ∀ x ∈ setB t, ap5 x = true := fun x hx => by
   simp only [setB, List.mem_map] at hx
   obtain ⟨_, _, rfl⟩ := hx
   rfl
  simp [r0, r2, r4, aqL, htk, hdr, if_pos hall, -List.reduceReplicate]
 | succ k =>
  have hi : i < t.length := by omega
  obtain ⟨c, hc⟩ : ∃ c, t[i]? = some c := ⟨t[i], by simp [hi]⟩
  have hc' : t[i] = c := (List.getElem?_eq_some_iff.1 hc).2
  have hw : IntKind.i64.wrap ((i : Int) + 1) = ((i : Int) + 1) := wrap_i64 (by omega) (by omega)
  have h128 : c.toNat < 128 := ht c (List.mem_of_getElem? hc)
  have h1 : ¬ (c.toNat : Int) ≥ 128 := by omega
  have h2 : (c.toNat : Int) < 256 := by omega
  have h3 : c.toNat < 256 := by omega
  have hs : setRange (setB (t.take i)) c.toNat [.bool true] = setB (t.take (i + 1)) := by rw [atN (by rw [aqL]; omega), setOf_snoc, ars hc]
  have h4 : c.toNat + 1 ≤ 256 := by omega
  simp [r0, r2, r4, hi, hc', h1, h2, h3, h4, hw, aqL, hs, aqU, -setRange, -List.reduceReplicate]
  exact ⟨k, by omega, i + 1, by omega, rfl, by omega⟩
theorem aEr {l : Str} {H : List Ob} {id : Nat} {own : Bool} {c : UInt8} (h : H[id]? = some (.mk own 1 (setB l))) : callW C 329 [.ptr (some (id, 0)), .int .u8 c.toNat] H = some (.bool (decide (c ∈ l)), H) := by
 apply Ret.eq
 rw [aLL]
 have h2 : (c.toNat : Int) < 256 := by have := c.toNat_lt; omega
 have ld := aqt (o := c.toNat) h aCU
 simp [ayL, Tryz.f329, aqU, h2, ld, -List.reduceReplicate]
def kset : Str := [97, 98, 99, 100, 101, 102, 103, 104, 105, 106, 107, 108, 109, 110, 111, 112, 113, 114, 115, 116, 117, 118, 119, 120, 121, 122, 48, 49, 50, 51, 52, 53, 54, 55, 56, 57, 95]
theorem awN {c : UInt8} : c ∈ kset ↔ axG c ∨ axM c ∨ c.toNat = 95 := by
 unfold kset axG axM
 simp only [List.mem_cons, List.not_mem_nil, or_false, ← UInt8.toNat_inj]
 have h := c.toNat_lt
 simp only [UInt8.toNat_ofNat, Nat.reducePow, Nat.reduceMod]
 omega
def asU (t : Str) : Prop := ∀ c ∈ t, c ∈ kset
theorem aHm {t : Str} {H : List Ob} {id : Nat} {own : Bool} (h : H[id]? = some (.mk own 1 (setB kset))) (hl : t.length ≤ 1000) : ∃ s, callW C 268 [.str t, .ptr (some (id, 0))] H = some (.str s, H) ∧ (asU s ↔ asU t) ∧ (s = [] ∨ ¬ asU s) ∧ s.length ≤ 1000 := by
 suffices hs : Ret C 268 [.str t, .ptr (some (id, 0))] H fun q H' => (∃ s, q = .str s ∧ (asU s ↔ asU t) ∧ (s = [] ∨ ¬ asU s) ∧ s.length ≤ 1000) ∧ H' = H by
  obtain ⟨q, H', hc, ⟨s, rfl, hr⟩, rfl⟩ := hs
  exact ⟨s, hc, hr⟩
 rw [aG6]
 simp [azB, Tryz.f268, -List.reduceReplicate]
 refine apT (fun k σ => ∃ (s : Str) (r : Nat → R), s.length = k ∧ σ = ⟨r, 0, H⟩ ∧ r 0 = .val (.str s) ∧ r 1 = .val (.ptr (some (id, 0))) ∧ (asU s ↔ asU t) ∧ s.length ≤ 1000) ?_ t.length _ ⟨t, _, rfl, rfl, by simp, by simp, Iff.rfl, hl⟩
 rintro k σ ⟨s, r, hk, rfl, r0, r1, hall, hs⟩
 cases k with
 | zero =>
  have hs0 : s = [] := List.length_eq_zero_iff.1 hk
  subst hs0
  simp [r0, r1]
  exact hall
 | succ k =>
  have hp : (0 : Int) < (s.length : Int) := by omega
  have hne : s ≠ [] := by rintro rfl; simp at hk
  obtain ⟨d, hd⟩ : ∃ d, s.getLast hne = d := ⟨_, rfl⟩
  have hd' : s[s.length - 1]? = some d := by rw [← List.getLast?_eq_getElem?, List.getLast?_eq_some_getLast hne, hd]
  have hd2 : s[s.length - 1]'(by omega) = d := (List.getElem?_eq_some_iff.1 hd').2
  have hw1 : IntKind.i64.wrap ((s.length : Int) - 1) = (s.length : Int) - 1 := wrap_i64 (by omega) (by omega)
  have h3 : (1 : Int) ≤ (s.length : Int) := by omega
  have h4 : ((s.length : Int) - 1).toNat = s.length - 1 := by omega
  have h5 : s.length - 1 < s.length := by omega
  have c1 := aEr (c := d) h
  have hdrop : s = s.take (s.length - 1) ++ [d] := by
   have := ars hd'
   rw [show s.length - 1 + 1 = s.length by omega, List.take_length] at this
   exact this
  by_cases hm : d ∈ kset
  ·have h6 : s.length - 1 ≤ s.length := by omega
   simp [r0, r1, hp, hne, hw1, h3, h4, h5, h6, hd2, hd', c1, hm, -List.reduceReplicate]
   refine ⟨by omega, k, by omega, _, by simp; omega, rfl, ?_, by simp; omega⟩
   rw [← hall]
   constructor
   ·intro hA c hc
    rw [hdrop] at hc
    rcases List.mem_append.1 hc with hc | hc
    ·exact hA c hc
    ·simp at hc; rw [hc]; exact hm
   ·intro hA c hc
    exact hA c (List.mem_of_mem_take hc)
  ·have hn : ¬ asU s := fun hA => hm (hA d (List.mem_of_getElem? hd'))
   simp [r0, r1, hp, hne, hw1, h3, h4, h5, hd2, hd', c1, hm, -List.reduceReplicate]
   exact ⟨by omega, hall, hn, hs⟩
theorem aMG {t : Str} {H : List Ob} {id : Nat} {own : Bool} (h : H[id]? = some (.mk own 1 (setB kset))) (hl : t.length ≤ 1000) : ∃ s, callW C 267 [.str t, .ptr (some (id, 0))] H = some (.str s, H) ∧ (asU s ↔ asU t) ∧ (s = [] ∨ ¬ asU s) := by
 suffices hs : Ret C 267 [.str t, .ptr (some (id, 0))] H fun q H' => (∃ s, q = .str s ∧ (asU s ↔ asU t) ∧ (s = [] ∨ ¬ asU s)) ∧ H' = H by
  obtain ⟨q, H', hc, ⟨s, rfl, hr⟩, rfl⟩ := hs
  exact ⟨s, hc, hr⟩
 rw [aLl]
 simp [ay7, Tryz.f267, -List.reduceReplicate]
 refine apT (fun k σ => ∃ (s : Str) (r : Nat → R), s.length = k ∧ σ = ⟨r, 0, H⟩ ∧ r 0 = .val (.str s) ∧ r 1 = .val (.ptr (some (id, 0))) ∧ (asU s ↔ asU t)) ?_ t.length _ ⟨t, _, rfl, rfl, by simp, by simp, Iff.rfl⟩
 rintro k σ ⟨s, r, hk, rfl, r0, r1, hall⟩
 cases k with
 | zero =>
  have hs0 : s = [] := List.length_eq_zero_iff.1 hk
  subst hs0
  simp [r0, r1]
  exact hall
 | succ k =>
  match s, hk with
  | d :: s, hk =>
  have hk' : s.length = k := by simpa using hk
  have c1 := aEr (c := d) h
  have hp : (0 : Int) < (s.length : Int) + 1 := by omega
  by_cases hm : d ∈ kset
  ·simp [r0, r1, hp, c1, hm, -List.reduceReplicate]
   refine ⟨k, by omega, s, hk', rfl, ?_⟩
   rw [← hall]
   constructor
   ·intro hA c hc
    rcases List.mem_cons.1 hc with rfl | hc
    ·exact hm
    ·exact hA c hc
   ·intro hA c hc
    exact hA c (List.mem_cons_of_mem _ hc)
  ·have hn : ¬ asU (d :: s) := fun hA => hm (hA d List.mem_cons_self)
   simp [r0, r1, hp, c1, hm, -List.reduceReplicate]
   exact ⟨hall, hn⟩
theorem wrap_one : IntKind.i64.wrap 1 = 1 := rfl
attribute [simp] wrap_one
theorem atJ {a b : Str} (h : LtS a b) : Op.bytesLess a b = true := h
theorem at6 {a b : Str} (h : ¬ LtS a b) : Op.bytesLess a b = false := by
 cases hb : Op.bytesLess a b with
 | false => rfl
 | true => exact absurd hb h
theorem aMo {H : List Ob} {id o : Nat} {v : V} (h : ∀ T : LT, T.one → ∀ r c, loadAt T ⟨r, c, H⟩ (.hp id o) = some v) : id < H.length := by
 have := h ⟨.str, 1, 16, [.str []]⟩ aCf (fun _ => .val .undef) 0
 unfold loadAt cellsAt at this
 rw [if_neg (by decide)] at this
 cases hg : H[id]? with
 | none => simp only [hg] at this; cases this
 | some o => exact (List.getElem?_eq_some_iff.1 hg).1
theorem aDQ {H : List Ob} {v : V} {l : List Str} (h : AStrs H v l) : callW C 227 [v] H = some (.bool (dec (aqk l)), H) := by
 apply Ret.dec
 rw [aGN]
 have hb : l.length ≤ 9223372036854775807 := h.bound
 simp [ayl, Tryz.f227]
 refine apT (fun k σ => ∃ (i : Nat) (r : Nat → R), i + k = l.length ∧ σ = ⟨r, 0, H⟩ ∧ r 0 = .val v ∧ r 3 = .val (.int .i64 i) ∧ ∀ j x, j < i → l[j]? = some x → ap2 x ∧ aqR norm l j x) ?_ l.length _ ⟨0, _, by simp, rfl, by simp, by simp, by simp⟩
 rintro k σ ⟨i, r, hik, rfl, r0, r3, hall⟩
 cases k with
 | zero =>
  have hi : i = l.length := by omega
  subst hi
  have hx := atI (P := fun j (x : Str) => ap2 x ∧ aqR norm l j x) hall
  by_cases g1 : 1 ≤ l.length
  ·have g1' : (1 : Int) ≤ (l.length : Int) := by omega
   by_cases g2 : l.length ≤ 4
   ·have g2' : (l.length : Int) ≤ 4 := by omega
    have hv : aqk l := ⟨hx, g1, g2⟩
    simp [r0, r3, h.len, g1', g2', hv]
   ·have g2' : ¬ (l.length : Int) ≤ 4 := by omega
    have hv : ¬ aqk l := fun h => g2 h.2.2
    simp [r0, r3, h.len, g1', g2', hv]
  ·have g1' : ¬ (1 : Int) ≤ (l.length : Int) := by omega
   have hv : ¬ aqk l := fun h => g1 h.2.1
   simp [r0, r3, h.len, g1', hv]
 | succ k =>
  have hi : i < l.length := by omega
  obtain ⟨x, hx⟩ : ∃ c, l[i]? = some c := ⟨l[i], by simp [hi]⟩
  have hw : IntKind.i64.wrap ((i : Int) + 1) = ((i : Int) + 1) := wrap_i64 (by omega) (by omega)
  obtain ⟨id, o, e1, l0, _⟩ := aqG h hx
  have c1 := awE (t := x) (H := H)
  have c2 := aBz (t := x) (H := H)
  have hstep := fun h => asy (P := fun j (x : Str) => ap2 x ∧ aqR norm l j x) hall hx h
  by_cases g1 : ap2 x
  ·rw [apK g1] at c1
   by_cases hi0 : i = 0
   ·have := hstep ⟨g1, fun y hy => by omega⟩
    subst hi0
    simp at e1
    simp [r0, r3, hi, h.len, e1, l0, c1]
    exact ⟨k, by omega, 1, by omega, by omega, this⟩
   ·have hip : 0 < i := by omega
    obtain ⟨y, hy⟩ : ∃ c, l[i - 1]? = some c := ⟨l[i - 1]'(by omega), by simp⟩
    obtain ⟨id', o', e1', l0', _⟩ := aqG h hy
    have c3 := aBz (t := y) (H := H)
    have hw1 : IntKind.i64.wrap ((i : Int) - 1) = ((i - 1 : Nat) : Int) := by rw [wrap_i64 (by omega) (by omega)]; omega
    have hlo := aMo l0
    by_cases g2 : LtS (norm y) (norm x)
    ·have := hstep ⟨g1, fun z _ hz => by rw [hy] at hz; cases hz; exact g2⟩
     simp [r0, r3, hi, h.len, e1, l0, c1, c2, c3, e1', l0', hw, hw1, hip, hlo, atJ g2]
     exact ⟨k, by omega, i + 1, by omega, by omega, this⟩
    ·have hn : ¬ aqk l := fun hd => g2 ((hd.1 i x hx).2 y hip hy)
     simp [r0, r3, hi, h.len, e1, l0, c1, c2, c3, e1', l0', hw, hw1, hip, hlo, at6 g2, hn]
  ·rw [apJ g1] at c1
   have hn : ¬ aqk l := fun hd => g1 (hd.1 i x hx).1
   simp [r0, r3, hi, h.len, e1, l0, c1, hn]
theorem aE2 {H : List Ob} {v : V} {l : List PAttr} (h : aqO H v l) : callW C 135 [v] H = some (.bool (dec (ar6 l)), H) := by
 apply Ret.dec
 rw [aNk]
 have hb : l.length ≤ 9223372036854775807 := h.bound
 simp [ayP, Tryz.f135]
 refine apT (fun k σ => ∃ (i : Nat) (r : Nat → R), i + k = l.length ∧ σ = ⟨r, 0, H⟩ ∧ r 0 = .val v ∧ r 3 = .val (.int .i64 i) ∧ ∀ j x, j < i → l[j]? = some x → apV x.name ∧ aqR PAttr.name l j x ∧ aqk x.vals) ?_ l.length _ ⟨0, _, by simp, rfl, by simp, by simp, by simp⟩
 rintro k σ ⟨i, r, hik, rfl, r0, r3, hall⟩
 cases k with
 | zero =>
  have hi : i = l.length := by omega
  subst hi
  have hx := atI (P := fun j (x : PAttr) => apV x.name ∧ aqR PAttr.name l j x ∧ aqk x.vals) hall
  by_cases g : l.length ≤ 8
  ·have g' : (l.length : Int) ≤ 8 := by omega
   have hv : ar6 l := ⟨hx, g⟩
   simp [r0, r3, h.len, g', hv]
  ·have g' : ¬ (l.length : Int) ≤ 8 := by omega
   have hv : ¬ ar6 l := fun h => g h.2
   simp [r0, r3, h.len, g', hv]
 | succ k =>
  have hi : i < l.length := by omega
  obtain ⟨x, hx⟩ : ∃ c, l[i]? = some c := ⟨l[i], by simp [hi]⟩
  have hw : IntKind.i64.wrap ((i : Int) + 1) = ((i : Int) + 1) := wrap_i64 (by omega) (by omega)
  obtain ⟨id, o, w, e1, l0, l1, _, hvs, _⟩ := ary h hx
  have c1 := axd (t := x.name) (H := H)
  have c2 := aDQ hvs
  have hstep := fun h => asy (P := fun j (x : PAttr) => apV x.name ∧ aqR PAttr.name l j x ∧ aqk x.vals) hall hx h
  by_cases g1 : apV x.name
  rotate_left
  ·rw [apJ g1] at c1
   have hn : ¬ ar6 l := fun hd => g1 (hd.1 i x hx).1
   simp [r0, r3, hi, h.len, e1, l0, c1, hn, aiB]
  rw [apK g1] at c1
  by_cases hi0 : i = 0
  ·have hpv : aqR PAttr.name l i x := fun y hy => by omega
   by_cases g3 : aqk x.vals
   ·rw [apK g3] at c2
    have := hstep ⟨g1, hpv, g3⟩
    subst hi0
    simp at e1
    simp [r0, r3, hi, h.len, e1, l0, l1, c1, c2, aiB]
    exact ⟨k, by omega, 1, by omega, by omega, this⟩
   ·rw [apJ g3] at c2
    have hn : ¬ ar6 l := fun hd => g3 (hd.1 i x hx).2.2
    subst hi0
    simp at e1
    simp [r0, r3, hi, h.len, e1, l0, l1, c1, c2, aiB, hn]
  ·have hip : 0 < i := by omega
   obtain ⟨y, hy⟩ : ∃ c, l[i - 1]? = some c := ⟨l[i - 1]'(by omega), by simp⟩
   obtain ⟨id', o', w', e1', l0', _⟩ := ary h hy
   have hw1 : IntKind.i64.wrap ((i : Int) - 1) = ((i - 1 : Nat) : Int) := by rw [wrap_i64 (by omega) (by omega)]; omega
   by_cases g2 : LtS y.name x.name
   ·have hpv : aqR PAttr.name l i x := fun z _ hz => by rw [hy] at hz; cases hz; exact g2
    by_cases g3 : aqk x.vals
    ·rw [apK g3] at c2
     have := hstep ⟨g1, hpv, g3⟩
     simp [r0, r3, hi, h.len, e1, l0, l1, c1, c2, e1', l0', hw, hw1, hip, atJ g2, aiB]
     exact ⟨k, by omega, i + 1, by omega, by omega, this⟩
    ·rw [apJ g3] at c2
     have hn : ¬ ar6 l := fun hd => g3 (hd.1 i x hx).2.2
     simp [r0, r3, hi, h.len, e1, l0, l1, c1, c2, e1', l0', hw, hw1, hip, atJ g2, aiB, hn]
   ·have hn : ¬ ar6 l := fun hd => g2 ((hd.1 i x hx).2.1 y hip hy)
    simp [r0, r3, hi, h.len, e1, l0, c1, e1', l0', hw, hw1, hip, at6 g2, aiB, hn]
theorem aE6 {H : List Ob} {v w : V} {e : PEntry} (h1 : aq2 H v e.dn) (h2 : aqO H w e.attrs) : callW C 58 [.agg [v, w]] H = some (.bool (dec (EntryOk e)), H) := by
 apply Ret.dec
 rw [aQW]
 have c1 := aIn h1
 have c2 := aE2 h2
 by_cases g0 : 0 < e.dn.length
 rotate_left
 ·have hn : ¬ EntryOk e := fun h => g0 h.1
  have g0' : e.dn.length = 0 := by omega
  simp [avK, Tryz.f58, h1.len, g0', hn, h1.one, h2.one]
 by_cases g1 : DnOk e.dn
 rotate_left
 ·rw [apJ g1] at c1
  have hn : ¬ EntryOk e := fun h => g1 h.2.1
  simp [avK, Tryz.f58, h1.len, g0, c1, hn, h1.one, h2.one]
 rw [apK g1] at c1
 by_cases g2 : ar6 e.attrs
 ·rw [apK g2] at c2
  have hn : EntryOk e := ⟨g0, g1, g2⟩
  simp [avK, Tryz.f58, h1.len, g0, c1, c2, hn, h1.one, h2.one]
 ·rw [apJ g2] at c2
  have hn : ¬ EntryOk e := fun h => g2 h.2.2
  simp [avK, Tryz.f58, h1.len, g0, c1, c2, hn, h1.one, h2.one]


theorem aH0 {t : Str} {H : List Ob} (h0 : t ≠ []) (hl : t.length ≤ 1000) : ∃ q, callW C 180 [.str t, .str kset] H = some (.str q, H) ∧ (q = [] ↔ asU t) := by
 suffices hs : Ret C 180 [.str t, .str kset] H fun q H' => (∃ s, q = .str s ∧ (s = [] ↔ asU t)) ∧ H' = H by
  obtain ⟨q, H', hc, ⟨s, rfl, hr⟩, rfl⟩ := hs
  exact ⟨s, hc, hr⟩
 rw [aMA]
 have hk0 : kset ≠ [] := by decide
 have hk1 : (kset.length : Int) = 37 := by decide
 have c1 := aNw (t := kset) (H := H) (fun c hc => by
  rcases awN.1 hc with h | h | h
  ·have := h.2; omega
  ·have := h.2; omega
  ·omega) (by decide)
 have hz : setRange (List.replicate 256 (V.bool false)) 0 (setB kset) = setB kset := by
  unfold setRange
  rw [List.take_zero, List.nil_append, Nat.zero_add, aqL, List.drop_of_length_le (by rw [List.length_replicate]; omega), List.append_nil]
 have hall : (setB kset).all ap5 = true := by
  rw [List.all_eq_true]
  intro x hx
  simp only [setB, List.mem_map] at hx
  obtain ⟨_, _, rfl⟩ := hx
  rfl
 have st := aEG (H := H ++ [.mk true 1 (List.replicate 256 (.bool false))]) (id := H.length) (o := 0) (l := setB kset) (cells := List.replicate 256 (.bool false)) (es := 1) get_last (by rw [aqL, List.length_replicate]; omega) (by intro h; have := aqL (l := kset); rw [h] at this; cases this) hall
 rw [aqL, hz, arh] at st
 have hob : (H ++ [Ob.mk true 1 (setB kset)])[H.length]? = some (.mk true 1 (setB kset)) := get_last
 obtain ⟨s, c2, q1, q2, q3⟩ := aHm (t := t) hob hl
 obtain ⟨s', c3, q4, q5⟩ := aMG (t := s) hob q3
 have hres : s' = [] ↔ asU t := by
  rw [← q1, ← q4]
  constructor
  ·rintro rfl; intro c hc; cases hc
  ·intro h
   rcases q5 with h' | h'
   ·exact h'
   ·exact absurd h h'
 simp [ayH, Tryz.f180, h0, hk0, hk1, c1, aqC, st, c2, c3, -List.reduceReplicate, -setRange]
 exact hres
theorem aDG {t : Str} {c : UInt8} {s : Str} (h : t = c :: s) : apV t ↔ t.length ≤ 20 ∧ axG c ∧ asU t := by
 subst h
 constructor
 ·rintro ⟨_, h1, h2⟩
  refine ⟨h1, ?_, fun d hd => ?_⟩
  ·rcases h2 0 c rfl with h | ⟨h, _⟩
   ·exact h
   ·omega
  ·obtain ⟨i, hi, rfl⟩ := List.getElem_of_mem hd
   rw [awN]
   rcases h2 i _ (List.getElem?_eq_getElem hi) with h | ⟨_, h | h⟩
   ·exact .inl h
   ·exact .inr (.inl h)
   ·exact .inr (.inr h)
 ·rintro ⟨h1, h2, h3⟩
  refine ⟨by simp, h1, fun i d hd => ?_⟩
  cases i with
  | zero => cases hd; exact .inl h2
  | succ i =>
   rcases awN.1 (h3 d (List.mem_of_getElem? hd)) with h | h | h
   ·exact .inl h
   ·exact .inr ⟨by omega, .inl h⟩
   ·exact .inr ⟨by omega, .inr h⟩
theorem axs {t : Str} {H : List Ob} : callW C 83 [.str t] H = some (.bool (dec (apV t)), H) := by
 apply Ret.dec
 rw [aRz]
 match t with
 | [] =>
  have hn : ¬ apV [] := fun h => by have := h.1; simp at this
  simp [auc, Tryz.f83, hn]
 | c :: s =>
 have hi := aDG (t := c :: s) rfl
 have g0 : (1 : Int) ≤ (s.length : Int) + 1 := by omega
 by_cases g1 : ((c :: s).length : Int) ≤ 20
 rotate_left
 ·have hn : ¬ apV (c :: s) := fun h => by have := h.2.1; omega
  simp only [List.length_cons, Int.natCast_add, Int.natCast_one] at g1
  simp [auc, Tryz.f83, g0, g1, hn]
 obtain ⟨q, hc, hq⟩ := aH0 (t := c :: s) (H := H) (by simp) (by omega)
 simp only [kset] at hc
 have g1' := g1
 simp only [List.length_cons, Int.natCast_add, Int.natCast_one] at g1
 by_cases g2 : (c.toNat : Int) ≥ 97
 rotate_left
 ·have hn : ¬ apV (c :: s) := fun h => by have := (hi.1 h).2.1.1; omega
  simp [auc, Tryz.f83, g0, g1, g2, hn]
 by_cases g3 : (c.toNat : Int) ≤ 122
 rotate_left
 ·have hn : ¬ apV (c :: s) := fun h => by have := (hi.1 h).2.1.2; omega
  simp [auc, Tryz.f83, g0, g1, g2, g3, hn]
 by_cases g4 : q = []
 ·have hn : apV (c :: s) := hi.2 ⟨by omega, ⟨by omega, by omega⟩, hq.1 g4⟩
  simp [auc, Tryz.f83, g0, g1, g2, g3, hc, g4, hn]
 ·have hn : ¬ apV (c :: s) := fun h => g4 (hq.2 (hi.1 h).2.2)
  simp [auc, Tryz.f83, g0, g1, g2, g3, hc, g4, hn]
theorem aE9 {a b : Str} {H : List Ob} : callW C 114 [.agg [.str a, .str b]] H = some (.bool (dec (apV a ∧ ap2 b)), H) := by
 apply Ret.dec
 rw [aHo]
 have c1 := axs (t := a) (H := H)
 have c2 := awt (t := b) (H := H)
 by_cases g1 : apV a
 ·rw [apK g1] at c1
  by_cases g2 : ap2 b
  ·rw [apK g2] at c2
   simp [avy, Tryz.f114, c1, c2, g1, g2]
  ·rw [apJ g2] at c2
   simp [avy, Tryz.f114, c1, c2, g1, g2]
 ·rw [apJ g1] at c1
  simp [avy, Tryz.f114, c1, g1]
theorem aDq {a b : Str} {H : List Ob} : callW C 232 [.agg [.str a, .str b]] H = some (.bool (!dec (apV a ∧ ap2 b)), H) := by
 apply Ret.eq
 rw [aLM]
 have c1 := aE9 (a := a) (b := b) (H := H)
 simp [azD, Tryz.f232, c1]
theorem aDv {H : List Ob} {v : V} {l : List PRdn} (h : aq2 H v l) : ∃ r : Int, callW C 308 [v, .fn 232 [] []] H = some (.int .i64 r, H) ∧ (0 ≤ r ↔ ¬ ∀ (j : Nat) x, l[j]? = some x → apV x.attr ∧ ap2 x.value) := by
 suffices hs : Ret C 308 [v, .fn 232 [] []] H fun q H' => (∃ r : Int, q = .int .i64 r ∧ (0 ≤ r ↔ ¬ ∀ (j : Nat) x, l[j]? = some x → apV x.attr ∧ ap2 x.value)) ∧ H' = H by
  obtain ⟨q, H', hc, ⟨r, rfl, hr⟩, rfl⟩ := hs
  exact ⟨r, hc, hr⟩
 rw [aJT]
 have hb : l.length ≤ 9223372036854775807 := h.bound
 simp [ayR, Tryz.f308, h.len]
 refine apT (fun k σ => ∃ (i : Nat) (r : Nat → R), i + k = l.length ∧ σ = ⟨r, 0, H⟩ ∧ r 0 = .val v ∧ r 1 = .val (.fn 232 [] []) ∧ r 7 = .val (.int .i64 l.length) ∧ r 8 = .val (.int .i64 i) ∧ ∀ j x, j < i → l[j]? = some x → apV x.attr ∧ ap2 x.value) ?_ l.length _ ⟨0, _, by simp, rfl, by simp, by simp, by simp, by simp, by simp⟩
 rintro k σ ⟨i, r, hik, rfl, r0, r1, r7, r8, hall⟩
 cases k with
 | zero =>
  have hi : i = l.length := by omega
  subst hi
  have hx := atI (P := fun j (x : PRdn) => apV x.attr ∧ ap2 x.value) hall
  simp [r0, r1, r7, r8]
  exact fun j x hj => hx j x hj
 | succ k =>
  have hi : i < l.length := by omega
  obtain ⟨x, hx⟩ : ∃ c, l[i]? = some c := ⟨l[i], by simp [hi]⟩
  have hw : IntKind.i64.wrap ((i : Int) + 1) = ((i : Int) + 1) := wrap_i64 (by omega) (by omega)
  obtain ⟨id, o, e1, l0, l1, l2, _⟩ := aAD h hx
  have c1 := aDq (a := x.attr) (b := x.value) (H := H)
  by_cases g1 : apV x.attr ∧ ap2 x.value
  ·rw [apK g1] at c1
   simp at c1
   simp [r0, r1, r7, r8, hi, e1, l2, c1, hw]
   exact ⟨k, by omega, i + 1, by omega, by omega, asy (P := fun j (x : PRdn) => apV x.attr ∧ ap2 x.value) hall hx g1⟩
  ·rw [apJ g1] at c1
   simp at c1
   simp [r0, r1, r7, r8, hi, e1, l2, c1, hw]
   exact ⟨i, x, hx, fun h1 h2 => g1 ⟨h1, h2⟩⟩
theorem aJI {H : List Ob} {v : V} {l : List PRdn} (h : aq2 H v l) : callW C 140 [v] H = some (.bool (dec (DnOk l)), H) := by
 obtain ⟨r, c1, hr⟩ := aDv h
 have c2 : callW C 231 [v, .fn 232 [] []] H = some (.bool (decide (0 ≤ r)), H) := by
  apply Ret.eq
  rw [aGv]
  simp [ay2, Tryz.f231, c1]
 apply Ret.dec
 rw [aJK]
 by_cases g1 : (l.length : Int) ≤ 6
 ·by_cases g2 : 0 ≤ r
  ·have hn : ¬ DnOk l := fun h => hr.1 g2 h.1
   simp [avp, Tryz.f140, h.len, g1, c2, g2, hn]
  ·have hn : DnOk l := ⟨Classical.byContradiction fun h => g2 (hr.2 h), by omega⟩
   simp [avp, Tryz.f140, h.len, g1, c2, g2, hn]
 ·have hn : ¬ DnOk l := fun h => g1 (by have := h.2; omega)
  simp [avp, Tryz.f140, h.len, g1, hn]
theorem aEc {a b : Str} {H : List Ob} : callW C 382 [.str a, .str b] H = some (.int .i64 (Lib.compareBytes a b), H) :=
 asI (pr := avu) rfl
theorem awo {a b : Str} {H : List Ob} : callW C 349 [.str a, .str b] H = some (.int .i64 (Lib.compareBytes a b), H) := by
 apply Ret.eq
 rw [aLt]
 simp [aza, Tryz.f349, aEc]
theorem aCI {a b : Str} {H : List Ob} : callW C 313 [.str a, .str b] H = some (.int .i64 (Lib.compareBytes a b), H) := by
 apply Ret.eq
 rw [aLC]
 simp [ayI, Tryz.f313, awo]
theorem i_byNorm {a b : Str} {H : List Ob} : callW C 238 [.str a, .str b] H = some (.int .i64 (Lib.compareBytes (norm a) (norm b)), H) := by
 apply Ret.eq
 rw [aMm]
 have c1 := aBX (t := a) (H := H)
 have c2 := aBX (t := b) (H := H)
 simp [ay1, Tryz.f238, c1, c2, aCI]
theorem aBo : ∀ (a b : Str), (Lib.compareBytes a b < 0 ↔ LtS a b) ∧ (Lib.compareBytes a b = 0 ↔ a = b)
 | [], [] => by simp [Lib.compareBytes, LtS, Op.bytesLess]
 | [], _ :: _ => by simp [Lib.compareBytes, LtS, Op.bytesLess]
 | _ :: _, [] => by simp [Lib.compareBytes, LtS, Op.bytesLess]
 | a :: as', b :: bs => by
  obtain ⟨h1, h2⟩ := aBo as' bs
  unfold LtS at h1 ⊢
  simp only [Lib.compareBytes, Op.bytesLess]
  by_cases g1 : a < b
  ·have : a ≠ b := fun h => by subst h; exact absurd g1 (by simp)
   simp [g1, this]
  ·by_cases g2 : b < a
   ·have : a ≠ b := fun h => by subst h; exact absurd g2 (by simp)
    simp [g1, g2, this]
   ·have : a = b := UInt8.toNat_inj.1 (by rw [UInt8.lt_iff_toNat_lt] at g1 g2; omega)
    subst this
    simp [h1, h2]
theorem aF7 {H : List Ob} {v : V} {l : List Str} (h : AStrs H v l) : callW C 237 [v] H = some (.int .i64 l.length, H) := by
 apply Ret.eq
 rw [aNe]
 simp [ayW, Tryz.f237, h.len]
theorem aCZ {a b c : Int} {H : List Ob} : callW C 178 [.int .i64 a, .int .i64 b, .int .i64 c] H = some (.bool (decide (b ≤ a ∧ a ≤ c)), H) := by
 apply Ret.eq
 rw [aFH]
 by_cases g1 : b ≤ a
 ·by_cases g2 : a ≤ c <;> simp [atK, Tryz.f178, g1, g2]
 ·simp [atK, Tryz.f178, g1]
theorem aFT {H : List Ob} {n : Str} {v : V} {l : List Str} (h : AStrs H v l) : callW C 146 [.agg [.str n, v]] H = some (.bool (dec (apV n ∧ aqk l)), H) := by
 apply Ret.dec
 rw [aK5]
 have c1 := axs (t := n) (H := H)
 have c2 := aF7 h
 have c3 := aCZ (a := l.length) (b := 1) (c := 4) (H := H)
 have hb : l.length ≤ 9223372036854775807 := h.bound
 by_cases g1 : apV n
 rotate_left
 ·rw [apJ g1] at c1
  simp [auY, Tryz.f146, c1, g1, h.one]
 rw [apK g1] at c1
 by_cases g2 : (1 : Int) ≤ l.length ∧ (l.length : Int) ≤ 4
 rotate_left
 ·rw [decide_eq_false g2] at c3
  have hn : ¬ aqk l := fun h => g2 ⟨by have := h.2.1; omega, by have := h.2.2; omega⟩
  simp [auY, Tryz.f146, c1, c2, c3, hn, h.one]
 rw [decide_eq_true g2] at c3
 simp [auY, Tryz.f146, c1, c2, c3, h.one, h.len]
 refine apT (fun k σ => ∃ (i : Nat) (r : Nat → R), i + k = l.length ∧ σ = ⟨r, 1, H⟩ ∧ r 1 = .box 0 [.str n, v] ∧ r 17 = .val v ∧ r 18 = .val (.int .i64 l.length) ∧ r 19 = .val (.int .i64 i) ∧ ∀ j x, j < i → l[j]? = some x → ap2 x ∧ aqR norm l j x) ?_ l.length _ ⟨0, _, by simp, rfl, by simp, by simp, by simp, by simp, by simp⟩
 rintro k σ ⟨i, r, hik, rfl, r1, r17, r18, r19, hall⟩
 cases k with
 | zero =>
  have hi : i = l.length := by omega
  subst hi
  have hx := atI (P := fun j (x : Str) => ap2 x ∧ aqR norm l j x) hall
  have hv : aqk l := ⟨hx, by omega, by omega⟩
  simp [r1, r17, r18, r19, g1, hv]
 | succ k =>
  have hi : i < l.length := by omega
  obtain ⟨x, hx⟩ : ∃ c, l[i]? = some c := ⟨l[i], by simp [hi]⟩
  have hw : IntKind.i64.wrap ((i : Int) + 1) = ((i : Int) + 1) := wrap_i64 (by omega) (by omega)
  obtain ⟨id, o, e1, l0, _⟩ := aqG h hx
  have c4 := awt (t := x) (H := H)
  have hstep := fun h => asy (P := fun j (x : Str) => ap2 x ∧ aqR norm l j x) hall hx h
  by_cases g3 : ap2 x
  rotate_left
  ·rw [apJ g3] at c4
   have hn : ¬ aqk l := fun hd => g3 (hd.1 i x hx).1
   simp [r1, r17, r18, r19, hi, e1, l0, c4, hn]
  rw [apK g3] at c4
  by_cases hi0 : i = 0
  ·have := hstep ⟨g3, fun y hy => by omega⟩
   subst hi0
   simp at e1
   simp [r1, r17, r18, r19, hi, e1, l0, c4]
   exact ⟨k, by omega, 1, by omega, by omega, this⟩
  have hip : 0 < i := by omega
  obtain ⟨y, hy⟩ : ∃ c, l[i - 1]? = some c := ⟨l[i - 1]'(by omega), by simp⟩
  obtain ⟨id', o', e1', l0', _⟩ := aqG h hy
  have hw1 : IntKind.i64.wrap ((i : Int) - 1) = ((i - 1 : Nat) : Int) := by rw [wrap_i64 (by omega) (by omega)]; omega
  have c5 := i_byNorm (a := y) (b := x) (H := H)
  by_cases g4 : LtS (norm y) (norm x)
  ·have := hstep ⟨g3, fun z _ hz => by rw [hy] at hz; cases hz; exact g4⟩
   have g5 : ¬ (0 ≤ Lib.compareBytes (norm y) (norm x)) := by have := (aBo (norm y) (norm x)).1.2 g4; omega
   simp [r1, r17, r18, r19, hi, e1, l0, c4, e1', l0', hw, hw1, hip, c5, g5]
   exact ⟨k, by omega, i + 1, by omega, by omega, this⟩
  ·have g5 : 0 ≤ Lib.compareBytes (norm y) (norm x) := by have := mt (aBo (norm y) (norm x)).1.1 g4; omega
   have hn : ¬ aqk l := fun hd => g4 ((hd.1 i x hx).2 y hip hy)
   simp [r1, r17, r18, r19, hi, e1, l0, c4, e1', l0', hw, hw1, hip, c5, g5, hn]
theorem aET {H : List Ob} {v w : V} {e : PEntry} (h1 : aq2 H v e.dn) (h2 : aqO H w e.attrs) : callW C 65 [.agg [v, w]] H = some (.bool (dec (EntryOk e)), H) := by
 apply Ret.dec
 rw [aSP]
 have c1 := aJI h1
 have hb : e.attrs.length ≤ 9223372036854775807 := h2.bound
 by_cases g0 : e.dn.length = 0
 ·have hn : ¬ EntryOk e := fun h => by have := h.1; omega
  simp [avM, Tryz.f65, h1.len, g0, hn, h1.one, h2.one]
 have g0' : ¬ (e.dn.length : Int) = 0 := by omega
 by_cases g1 : DnOk e.dn
 rotate_left
 ·rw [apJ g1] at c1
  have hn : ¬ EntryOk e := fun h => g1 h.2.1
  simp [avM, Tryz.f65, h1.len, g0, c1, hn, h1.one, h2.one]
 rw [apK g1] at c1
 by_cases g2 : (e.attrs.length : Int) > 8
 ·have hn : ¬ EntryOk e := fun h => by have := h.2.2.2; omega
  simp [avM, Tryz.f65, h1.len, h2.len, g0, g2, c1, hn, h1.one, h2.one]
 simp [avM, Tryz.f65, h1.len, h2.len, g0, g2, c1, h1.one, h2.one]
 refine apT (fun k σ => ∃ (i n : Nat) (r : Nat → R), i + k = e.attrs.length ∧ σ = ⟨r, n, H⟩ ∧ r 1 = .box 0 [v, w] ∧ 1 ≤ n ∧ r 22 = .val w ∧ r 23 = .val (.int .i64 e.attrs.length) ∧ r 24 = .val (.int .i64 i) ∧ ∀ j x, j < i → e.attrs[j]? = some x → apV x.name ∧ aqR PAttr.name e.attrs j x ∧ aqk x.vals) ?_ e.attrs.length _ ⟨0, 1, _, by simp, rfl, by simp, by omega, by simp, by simp, by simp, by simp⟩
 rintro k σ ⟨i, n, r, hik, rfl, r1, hn1, r22, r23, r24, hall⟩
 cases k with
 | zero =>
  have hi : i = e.attrs.length := by omega
  subst hi
  have hx := atI (P := fun j (x : PAttr) => apV x.name ∧ aqR PAttr.name e.attrs j x ∧ aqk x.vals) hall
  have hv : EntryOk e := ⟨by omega, g1, hx, by omega⟩
  simp [r1, r22, r23, r24, hv]
 | succ k =>
  have hi : i < e.attrs.length := by omega
  obtain ⟨x, hx⟩ : ∃ c, e.attrs[i]? = some c := ⟨e.attrs[i], by simp [hi]⟩
  have hw : IntKind.i64.wrap ((i : Int) + 1) = ((i : Int) + 1) := wrap_i64 (by omega) (by omega)
  obtain ⟨id, o, w', e1, l0, l1, l2, hvs, _⟩ := ary h2 hx
  have c2 := aFT (n := x.name) hvs
  have hstep := fun h => asy (P := fun j (x : PAttr) => apV x.name ∧ aqR PAttr.name e.attrs j x ∧ aqk x.vals) hall hx h
  by_cases g3 : apV x.name ∧ aqk x.vals
  rotate_left
  ·rw [apJ g3] at c2
   have hn : ¬ EntryOk e := fun hd => g3 ⟨(hd.2.2.1 i x hx).1, (hd.2.2.1 i x hx).2.2⟩
   simp [r1, r22, r23, r24, hi, e1, l2, c2, hn, hvs.one, aiB]
  rw [apK g3] at c2
  by_cases hi0 : i = 0
  ·have := hstep ⟨g3.1, fun y hy => by omega, g3.2⟩
   subst hi0
   simp at e1
   simp [r1, r22, r23, r24, hi, e1, l2, c2, hvs.one, aiB]
   exact ⟨k, by omega, 1, by omega, n + 1, _, ⟨rfl, rfl⟩, by simp [r1], by omega, by simp [r22], by simp [r23], by simp, this⟩
  have hip : 0 < i := by omega
  obtain ⟨y, hy⟩ : ∃ c, e.attrs[i - 1]? = some c := ⟨e.attrs[i - 1]'(by omega), by simp⟩
  obtain ⟨id', o', _, e1', l0', _⟩ := ary h2 hy
  have hw1 : IntKind.i64.wrap ((i : Int) - 1) = ((i - 1 : Nat) : Int) := by rw [wrap_i64 (by omega) (by omega)]; omega
  by_cases g4 : LtS y.name x.name
  ·have := hstep ⟨g3.1, fun z _ hz => by rw [hy] at hz; cases hz; exact g4, g3.2⟩
   simp [r1, r22, r23, r24, hi, e1, l2, c2, e1', l0', hw, hw1, hip, atJ g4, hvs.one, aiB]
   exact ⟨k, by omega, i + 1, by omega, n + 1, _, ⟨rfl, rfl⟩, by simp [r1], by omega, by simp [r22], by simp [r23], by simp, this⟩
  ·have hn : ¬ EntryOk e := fun hd => g4 ((hd.2.2.1 i x hx).2.1 y hip hy)
   simp [r1, r22, r23, r24, hi, e1, l2, c2, e1', l0', hw, hw1, hip, at6 g4, hvs.one, aiB, hn]
def Own (H G : List Ob) (w : V) (l : List Str) : Prop := (w = .slc none 0 ∧ l = []) ∨ Gs H G w (l.map V.str)
theorem auS {H T : List Ob} {v : V} {l : List Str} (h : AStrs H v l) : ∃ p, v = .slc p l.length ∧ aqd (H ++ T) p l.length = some (l.map V.str) ∧ (p = none → l = []) ∧ ∀ id off, p = some (id, off) → asB H id := by
 rcases h.sl with ⟨rfl, hl⟩ | ⟨id, off, own, cells, rfl, h2, h3, h4⟩
 ·have : l = [] := by simpa using hl
  subst this
  exact ⟨none, rfl, rfl, fun _ => rfl, fun _ _ h => by cases h⟩
 ·rw [List.length_map] at h3 ⊢
  refine ⟨some (id, off), rfl, ?_, (fun h => by cases h), (fun id' off' h => by cases h; exact ⟨_, _, _, h2⟩)⟩
  by_cases h0 : l.length = 0
  ·have : l = [] := List.length_eq_zero_iff.1 h0
   subst this
   rfl
  ·simp only [aqd, aqf _ _ h2, if_neg h0]
   unfold aqW
   simp only [Sh.size_str, Nat.mul_one] at h3 h4
   rw [if_pos h3]
   congr 1
   apply List.ext_getElem?
   intro j
   by_cases hj : j < l.length
   ·rw [List.getElem?_take_of_lt hj, List.getElem?_drop, List.getElem?_map]
    obtain ⟨s, hs⟩ : ∃ s, l[j]? = some s := ⟨l[j], List.getElem?_eq_getElem hj⟩
    obtain ⟨t, e1, e2, _⟩ := ap1.1 (h4 j (.str s) (by rw [List.getElem?_map, hs]; rfl))
    cases e2
    rw [hs]
    have := aqh e1 (j := 0) rfl
    simpa using this
   ·rw [List.getElem?_eq_none (by simp; omega), List.getElem?_eq_none (by simp; omega)]
def FirstIs (p : Str → Bool) (l : List Str) (r : Int) : Prop := (∃ (k : Nat) (x : Str), l[k]? = some x ∧ p x = true ∧ (∀ j y, j < k → l[j]? = some y → p y = false) ∧ r = k) ∨ ((∀ (j : Nat) y, l[j]? = some y → p y = false) ∧ r = -1)
theorem FirstIs.mem {p : Str → Bool} {l : List Str} {r : Int} (h : FirstIs p l r) : 0 ≤ r ↔ ∃ x ∈ l, p x = true := by
 rcases h with ⟨k, x, h1, h2, _, rfl⟩ | ⟨h1, rfl⟩
 ·exact ⟨fun _ => ⟨x, List.mem_of_getElem? h1, h2⟩, fun _ => by omega⟩
 ·refine ⟨fun h => by omega, fun ⟨x, hx, hp⟩ => ?_⟩
  obtain ⟨j, hj, rfl⟩ := List.getElem_of_mem hx
  rw [h1 j _ (List.getElem?_eq_getElem hj)] at hp
  cases hp
theorem aBx {H : List Ob} {v : V} {l : List Str} {t : Str} (h : AStrs H v l) : callW C 142 [v, .str t] H = some (.bool (dec (t ∈ l)), H) := by
 have hi : ∃ r : Int, callW C 234 [v, .str t] H = some (.int .i64 r, H) ∧ (0 ≤ r ↔ t ∈ l) := by
  suffices hs : Ret C 234 [v, .str t] H fun q H' => (∃ r : Int, q = .int .i64 r ∧ (0 ≤ r ↔ t ∈ l)) ∧ H' = H by
   obtain ⟨q, H', hc, ⟨r, rfl, hr⟩, rfl⟩ := hs
   exact ⟨r, hc, hr⟩
  rw [aGC]
  have hb : l.length ≤ 9223372036854775807 := h.bound
  simp [azx, Tryz.f234, h.len]
  refine apT (fun k σ => ∃ (i : Nat) (r : Nat → R), i + k = l.length ∧ σ = ⟨r, 0, H⟩ ∧ r 0 = .val v ∧ r 1 = .val (.str t) ∧ r 7 = .val (.int .i64 l.length) ∧ r 8 = .val (.int .i64 i) ∧ ∀ j x, j < i → l[j]? = some x → x ≠ t) ?_ l.length _ ⟨0, _, by simp, rfl, by simp, by simp, by simp, by simp, by simp⟩
  rintro k σ ⟨i, r, hik, rfl, r0, r1, r7, r8, hall⟩
  cases k with
  | zero =>
   have hi : i = l.length := by omega
   subst hi
   have hx := atI (P := fun j (x : Str) => x ≠ t) hall
   have hn : t ∉ l := fun hm => by
    obtain ⟨j, hj, e⟩ := List.getElem_of_mem hm
    exact hx j _ (List.getElem?_eq_getElem hj) e
   simp [r0, r1, r7, r8, hn]
  | succ k =>
   have hi : i < l.length := by omega
   obtain ⟨x, hx⟩ : ∃ c, l[i]? = some c := ⟨l[i], by simp [hi]⟩
   have hw : IntKind.i64.wrap ((i : Int) + 1) = ((i : Int) + 1) := wrap_i64 (by omega) (by omega)
   obtain ⟨id, o, e1, l0, _⟩ := aqG h hx
   by_cases g1 : x = t
   ·have hm : t ∈ l := g1 ▸ List.mem_of_getElem? hx
    subst g1
    simp [r0, r1, r7, r8, hi, e1, l0, hm]
   ·have g1' : ¬ t = x := fun h => g1 h.symm
    simp [r0, r1, r7, r8, hi, e1, l0, g1', hw]
    exact ⟨k, by omega, i + 1, by omega, by omega, asy (P := fun j (x : Str) => x ≠ t) hall hx g1⟩
 obtain ⟨r, c1, hr⟩ := hi
 apply Ret.dec
 rw [aNp]
 by_cases g1 : 0 ≤ r
 ·simp [awu, Tryz.f142, c1, g1, hr.1 g1]
 ·simp [awu, Tryz.f142, c1, g1, mt hr.2 g1]


abbrev ato : LT := ⟨.str, 1, 16, [.str []]⟩
theorem aF2 {H : List Ob} {n : Nat} (hn : n ≤ 1000) : callW C 235 [.slc none 0, .int .i64 n] H = some (if n = 0 then (.slc none 0, H) else (.slc (some (H.length, 0)) 0, H ++ [.mk true 1 (apG ato n)])) := by
 have hw0 : IntKind.i64.wrap 0 = 0 := rfl
 have hwn : IntKind.i64.wrap (n : Int) = n := wrap_i64 (by omega) (by omega)
 have h1 : ¬ ((n : Int) < 0) := by omega
 by_cases h0 : n = 0
 ·subst h0
  rw [if_pos rfl]
  apply Ret.eq
  rw [aFP]
  simp [awq, Tryz.f235, hw0]
 ·rw [if_neg h0]
  have h2 : (0 : Int) < n := by omega
  have h2' : 0 < n := by omega
  have h3 : (n : Int) * 16 ≤ 1099511627776 := by omega
  suffices hs : Ret C 235 [.slc none 0, .int .i64 n] H fun q H' => q = .slc (some (H.length, 0)) 0 ∧ H' = H ++ [.mk true 1 (apG ato n)] by
   obtain ⟨q, H', hc, rfl, rfl⟩ := hs
   exact hc
  rw [aFP]
  simp [awq, Tryz.f235, hw0, hwn, h1, h2, h2', apR, au7, arV, ap0, h3, apX]
theorem aD1 {H : List Ob} {ds xs zs : List V} {m : Nat} {x : V} (hx : aqc ato (H ++ [.mk true 1 (ds ++ zs)]) x = some (xs, m)) (hm : xs.length = m) (hm0 : m ≠ 0) (hone : xs.all ap5 = true) (hz : m ≤ zs.length) :
  aql ato (H ++ [.mk true 1 (ds ++ zs)]) (.slc (some (H.length, 0)) ds.length) x = some (.slc (some (H.length, 0)) (ds.length + m), H ++ [.mk true 1 (ds ++ xs ++ zs.drop m)]) := by
 unfold aql
 rw [if_pos (by simp [arV]), hx]
 simp only [if_neg hm0, hone, if_true, get_last]
 have e1 : 0 + (ds.length + m) * 1 ≤ (ds ++ zs).length := by simp; omega
 rw [if_pos e1, arh]
 congr 4
 unfold setRange
 rw [Nat.zero_add, Nat.mul_one, List.take_left, hm, List.drop_append]
 simp
theorem azF {H : List Ob} {s x : V} {xs : List V} (hx : aqc ato H x = some (xs, 0)) (hs : ∃ p n, s = .slc (some p) n ∨ s = .slc none 0) : aql ato H s x = some (s, H) := by
 unfold aql
 rw [if_pos (by simp [arV]), hx]
 obtain ⟨p, n, rfl | rfl⟩ := hs <;> simp
theorem axm {n : Nat} : (apG ato n).length = n := by simp [apG]
def fl (ls : List (List Str)) (i : Nat) : List Str := (ls.take i).flatten
theorem awz {ls : List (List Str)} : fl ls 0 = [] := by simp [fl]
theorem ay4 {ls : List (List Str)} {i : Nat} {l : List Str} (h : ls[i]? = some l) : fl ls (i + 1) = fl ls i ++ l := by
 unfold fl
 rw [ars h, List.flatten_append]
 simp
theorem aD9 {ls : List (List Str)} {i : Nat} : (fl ls i).length ≤ (fl ls ls.length).length := by
 unfold fl
 have := congrArg List.length (congrArg List.flatten (List.take_append_drop i ls))
 rw [List.flatten_append, List.length_append] at this
 rw [List.take_length]
 omega
theorem aAf {H : List Ob} {id : Nat} {own : Bool} {ws : List V} {ls : List (List Str)} (h0 : H[id]? = some (.mk own 1 ws)) (hl : ws.length = ls.length) (hw : ∀ (i : Nat) w l, ws[i]? = some w → ls[i]? = some l → AStrs H w l)
  (hb : (fl ls ls.length).length ≤ 1000) (hb2 : ls.length ≤ 1000) : ∃ T w, callW C 143 [.slc (some (id, 0)) ls.length] H = some (w, H ++ T) ∧ Own H (H ++ T) w (fl ls ls.length) := by
 suffices hs : Ret C 143 [.slc (some (id, 0)) ls.length] H fun q H' => ∃ T, H' = H ++ T ∧ Own H (H ++ T) q (fl ls ls.length) by
  obtain ⟨q, H', hc, T, rfl, hr⟩ := hs
  exact ⟨T, q, hc, hr⟩
 rw [aMc]
 simp [azr, Tryz.f143]
 refine apT (fun k σ => ∃ (i : Nat) (r : Nat → R), i + k = ls.length ∧ σ = ⟨r, 0, H⟩ ∧ r 0 = .val (.slc (some (id, 0)) ls.length) ∧ r 3 = .val (.int .i64 ((fl ls i).length : Nat)) ∧ r 9 = .val (.slc (some (id, 0)) ls.length) ∧ r 10 = .val (.int .i64 ls.length) ∧ r 11 = .val (.int .i64 i)) ?_ ls.length _ ⟨0, _, by simp, rfl, by simp, by simp [awz], by simp, by simp, by simp⟩
 rintro k σ ⟨i, r, hik, rfl, r0, r3, r9, r10, r11⟩
 cases k with
 | succ k =>
  have hi : i < ls.length := by omega
  obtain ⟨w, hwi⟩ : ∃ w, ws[i]? = some w := ⟨ws[i]'(by omega), List.getElem?_eq_getElem _⟩
  obtain ⟨l, hli⟩ : ∃ l, ls[i]? = some l := ⟨ls[i], List.getElem?_eq_getElem hi⟩
  have hs := hw i w l hwi hli
  have ld := aqt h0 hwi
  have hf := ay4 hli
  have hle := aD9 (ls := ls) (i := i + 1)
  have hfl := congrArg List.length hf
  rw [List.length_append] at hfl
  have hw1 : IntKind.i64.wrap ((i : Int) + 1) = ((i : Int) + 1) := wrap_i64 (by omega) (by omega)
  have hw2 : IntKind.i64.wrap (((fl ls i).length : Nat) + (l.length : Int)) = (((fl ls (i + 1)).length : Nat) : Int) := by rw [wrap_i64 (by omega) (by omega)]; omega
  have hn : ¬ ((((fl ls (i + 1)).length : Nat) : Int) < 0) := by omega
  simp [r0, r3, r9, r10, r11, hi, ld, hs.len, hw1, hw2, hn]
  exact ⟨k, by omega, i + 1, by omega, rfl, by omega⟩
 | zero =>
 have hi : i = ls.length := by omega
 subst hi
 have hg := aF2 (H := H) (n := (fl ls ls.length).length) hb
 generalize hN : (fl ls ls.length).length = N at r3 hg hb
 by_cases hN0 : N = 0
 ·rw [if_pos hN0] at hg
  simp [r0, r3, r9, r10, r11, hg]
  refine apT (fun k σ => ∃ (i : Nat) (r : Nat → R), i + k = ls.length ∧ σ = ⟨r, 0, H⟩ ∧ r 6 = .val (.slc none 0) ∧ r 25 = .val (.slc (some (id, 0)) ls.length) ∧ r 26 = .val (.int .i64 ls.length) ∧ r 27 = .val (.int .i64 i)) ?_ ls.length _ ⟨0, _, by simp, rfl, by simp, by simp [r0], by simp, by simp⟩
  clear hik r0 r3 r9 r10 r11 r
  rintro k σ ⟨i, r, hik, rfl, r6, r25, r26, r27⟩
  cases k with
  | zero =>
   have hi : i = ls.length := by omega
   subst hi
   simp [r6, r25, r26, r27]
   exact .inl ⟨rfl, List.length_eq_zero_iff.1 (by omega)⟩
  | succ k =>
   have hi : i < ls.length := by omega
   obtain ⟨w, hwi⟩ : ∃ w, ws[i]? = some w := ⟨ws[i]'(by omega), List.getElem?_eq_getElem _⟩
   obtain ⟨l, hli⟩ : ∃ l, ls[i]? = some l := ⟨ls[i], List.getElem?_eq_getElem hi⟩
   have hs := hw i w l hwi hli
   have ld := aqt h0 hwi
   have hl0 : l.length = 0 := by
    have h1 := congrArg List.length (ay4 hli)
    have h2 := aD9 (ls := ls) (i := i + 1)
    rw [List.length_append] at h1
    omega
   obtain ⟨p, rfl, hc, _⟩ := auS (T := []) hs
   rw [hl0] at hc ld
   have ha := azF (s := .slc none 0) (H := H) (x := .slc p 0) (xs := []) (by simp [aqc, aqd]; cases p <;> simp) ⟨(0, 0), 0, .inr rfl⟩
   have hw1 : IntKind.i64.wrap ((i : Int) + 1) = ((i : Int) + 1) := wrap_i64 (by omega) (by omega)
   simp [r6, r25, r26, r27, hi, ld, apR, ha, hw1]
   exact ⟨k, by omega, i + 1, by omega, by omega⟩
 ·rw [if_neg hN0] at hg
  simp [r0, r3, r9, r10, r11, hg]
  refine apT (fun k σ => ∃ (i : Nat) (r : Nat → R) (zs : List V), i + k = ls.length ∧ σ = ⟨r, 0, H ++ [.mk true 1 ((fl ls i).map V.str ++ zs)]⟩ ∧ (fl ls i).length + zs.length = N ∧ r 6 = .val (.slc (some (H.length, 0)) (fl ls i).length) ∧ r 25 = .val (.slc (some (id, 0)) ls.length) ∧ r 26 = .val (.int .i64 ls.length) ∧ r 27 = .val (.int .i64 i)) ?_ ls.length _ ⟨0, _, apG ato N, by simp, by rw [awz]; rfl, by simp [axm, awz], by simp [awz], by simp [r0], by simp, by simp⟩
  clear hik r0 r3 r9 r10 r11 r
  rintro k σ ⟨i, r, zs, hik, rfl, hzs, r6, r25, r26, r27⟩
  cases k with
  | zero =>
   have hi : i = ls.length := by omega
   subst hi
   have hz0 : zs = [] := List.length_eq_zero_iff.1 (by omega)
   subst hz0
   rw [List.append_nil]
   have hgs : Gs H (H ++ [.mk true 1 ((fl ls ls.length).map V.str)]) (.slc (some (H.length, 0)) (fl ls ls.length).length) ((fl ls ls.length).map V.str) := ⟨_, H.length, rfl, Nat.le_refl _, get_last, by simp⟩
   simp [r6, r25, r26, r27]
   exact .inr hgs
  | succ k =>
   have hi : i < ls.length := by omega
   obtain ⟨w, hwi⟩ : ∃ w, ws[i]? = some w := ⟨ws[i]'(by omega), List.getElem?_eq_getElem _⟩
   obtain ⟨l, hli⟩ : ∃ l, ls[i]? = some l := ⟨ls[i], List.getElem?_eq_getElem hi⟩
   have hs := hw i w l hwi hli
   have hf := ay4 hli
   have hfl := congrArg List.length hf
   rw [List.length_append] at hfl
   have hle := aD9 (ls := ls) (i := i + 1)
   have ld := aqt (H := H ++ [.mk true 1 ((fl ls i).map V.str ++ zs)]) (aqf _ _ h0) hwi
   obtain ⟨p, rfl, hc, _⟩ := auS (T := [.mk true 1 ((fl ls i).map V.str ++ zs)]) hs
   have hw1 : IntKind.i64.wrap ((i : Int) + 1) = ((i : Int) + 1) := wrap_i64 (by omega) (by omega)
   have hnc : aqc ato (H ++ [.mk true 1 ((fl ls i).map V.str ++ zs)]) (.slc p l.length) = some (l.map V.str, l.length) := by
    simp only [aqc, Nat.mul_one, hc]
   by_cases hl0 : l.length = 0
   ·have hl1 : l = [] := List.length_eq_zero_iff.1 hl0
    subst hl1
    have ha := azF (s := .slc (some (H.length, 0)) (fl ls i).length) hnc ⟨_, _, .inl rfl⟩
    rw [List.append_nil] at hf
    rw [← hf] at ha ld r6 hzs ⊢
    simp at ld ha
    simp [r6, r25, r26, r27, hi, ld, apR, ha, hw1]
    exact ⟨k, by omega, i + 1, by omega, _, zs, ⟨rfl, rfl⟩, by omega, by simp [r6], by simp [r25], by simp [r26], by simp⟩
   ·have ha := aD1 (H := H) (ds := (fl ls i).map V.str) (zs := zs) hnc (by simp) hl0 (by simp) (by omega)
    rw [List.length_map] at ha
    rw [← List.map_append, ← hf] at ha
    simp [r6, r25, r26, r27, hi, ld, apR, ha, hw1]
    exact ⟨k, by omega, i + 1, by omega, _, zs.drop l.length, ⟨rfl, rfl⟩, by simp; omega, by simp; omega, by simp [r25], by simp [r26], by simp⟩
theorem axy : ∀ (l : List Str), strsOf (l.map V.str) = some l
 | [] => rfl
 | s :: l => by simp only [List.map_cons, strsOf, axy l]
def sorted (l : List Str) : List Str := l.mergeSort fun x y => decide (x ≤ y)
theorem auW {l : List Str} : (sorted l).length = l.length := List.length_mergeSort l
theorem sorted_perm {l : List Str} : (sorted l).Perm l := List.mergeSort_perm l _
theorem aC8 {G : List Ob} {id : Nat} {l : List Str} (h : G[id]? = some (.mk true 1 (l.map V.str))) (h0 : 0 < l.length) (hl : l.length ≤ 1048576) :
  callW C 311 [.slc (some (id, 0)) l.length] G = some (.tup [], G.set id (.mk true 1 ((sorted l).map V.str))) := by
 rw [asI (pr := ash) rfl]
 simp only [ash, if_neg (show ¬ l.length = 0 by omega), h]
 rw [if_pos ⟨trivial, by simp, hl⟩]
 rw [List.drop_zero, List.take_of_length_le (by simp), axy]
 simp only
 congr 4
 unfold setRange
 simp [sorted]
def Apart (l : List Str) : Prop := ∀ (i : Nat) x, l[i]? = some x → l[i + 1]? ≠ some x
theorem aAo {H G : List Ob} (h : ∀ q, q < H.length → G[q]? = H[q]?) (hl : H.length ≤ G.length) : ∃ T, G = H ++ T := by
 refine ⟨G.drop H.length, ?_⟩
 apply List.ext_getElem?
 intro q
 by_cases hq : q < H.length
 ·rw [h q hq, List.getElem?_append_left hq]
 ·rw [List.getElem?_append_right (by omega), List.getElem?_drop]
  congr 1
  omega
theorem aFg {H H' : List Ob} {r : V} (h : H'.length = H.length) : gcH H H' r = H' := by
 unfold gcH
 split
 ·rename_i hc
  obtain ⟨⟨T, rfl⟩, _⟩ := hc
  simp at h
  rw [h, List.append_nil]
 ·rfl
def CpI (cs l : List Str) (k n : Nat) : Prop := (∀ j, n ≤ j + 1 → cs[j]? = l[j]?) ∧ ∀ x, x ∈ cs.take k ↔ x ∈ l.take n
theorem CpI.init {l : List Str} {k : Nat} {x : Str} (hx : l[k]? = some x) (hy : l[k - 1]? = some x) (hk : 1 ≤ k) : CpI l l k (k + 1) :=
 ⟨fun _ _ => rfl, fun z => by
  rw [ars hx, List.mem_append, List.mem_singleton]
  have hm : x ∈ l.take k := List.mem_of_getElem? (i := k - 1) (by rw [List.getElem?_take_of_lt (by omega)]; exact hy)
  exact ⟨.inl, fun h => h.elim id fun e => e ▸ hm⟩⟩
theorem CpI.same {cs l : List Str} {k n : Nat} {a : Str} (h : CpI cs l k n) (ha : cs[n]? = some a) (hb : cs[n - 1]? = some a) (hn : 1 ≤ n) : CpI cs l k (n + 1) := by
 have ha' : l[n]? = some a := by rw [← h.1 n (by omega)]; exact ha
 have hb' : l[n - 1]? = some a := by rw [← h.1 (n - 1) (by omega)]; exact hb
 refine ⟨fun j hj => h.1 j (by omega), fun x => ?_⟩
 rw [h.2 x, ars ha', List.mem_append, List.mem_singleton]
 have hm : a ∈ l.take n := List.mem_of_getElem? (i := n - 1) (by rw [List.getElem?_take_of_lt (by omega)]; exact hb')
 exact ⟨.inl, fun h => h.elim id fun e => e ▸ hm⟩
theorem CpI.next {cs l : List Str} {k n : Nat} {a : Str} (h : CpI cs l k n) (ha : cs[n]? = some a) (hk : k + 1 ≤ n) : CpI (cs.set k a) l (k + 1) (n + 1) := by
 have ha' : l[n]? = some a := by rw [← h.1 n (by omega)]; exact ha
 have hkl : k < cs.length := by have := (List.getElem?_eq_some_iff.1 ha).1; omega
 refine ⟨fun j hj => by rw [List.getElem?_set_ne (by omega)]; exact h.1 j (by omega), fun x => ?_⟩
 have e1 : (cs.set k a).take (k + 1) = cs.take k ++ [a] := by
  rw [ars (List.getElem?_set_self hkl)]
  congr 1
  apply List.ext_getElem?
  intro j
  by_cases hj : j < k
  ·rw [List.getElem?_take_of_lt hj, List.getElem?_take_of_lt hj, List.getElem?_set_ne (by omega)]
  ·rw [List.getElem?_eq_none (by simp; omega), List.getElem?_eq_none (by simp; omega)]
 rw [e1, ars ha', List.mem_append, List.mem_append, h.2 x]
def Cp (G : List Ob) (id k : Nat) (l : List Str) : Prop := ∃ cs : List Str, G[id]? = some (.mk true 1 (cs.map V.str)) ∧ cs.length = l.length ∧ k ≤ cs.length ∧ ∀ x, x ∈ cs.take k ↔ x ∈ l
theorem Cp.all {G : List Ob} {id : Nat} {l : List Str} (h : G[id]? = some (.mk true 1 (l.map V.str))) : Cp G id l.length l := ⟨l, h, rfl, Nat.le_refl _, by simp⟩
theorem aAm {n : Nat} : apG ato n = (List.replicate n ([] : Str)).map V.str := by
 induction n with
 | zero => rfl
 | succ n ih => simp [apG, List.replicate_succ] at ih ⊢
theorem Cp.end {G : List Ob} {id k n : Nat} {cs l : List Str} (h : CpI cs l k n) (hn : n = l.length) (hc : cs.length = l.length) (hk : k ≤ l.length) (hid : id < G.length) : Cp (G.set id (.mk true 1 (setRange (cs.map V.str) k (apG ato (l.length - k))))) id k l := by
 refine ⟨cs.take k ++ List.replicate (l.length - k) [], ?_, by simp; omega, by simp; omega, fun x => ?_⟩
 ·rw [List.getElem?_set_self hid, aAm]
  congr 2
  unfold setRange
  rw [List.map_append, List.map_take, List.drop_of_length_le (by simp; omega), List.append_nil]
 ·rw [List.take_left' (by simp; omega), h.2 x, hn, List.take_length]
theorem aC7 {G0 : List Ob} {id : Nat} {l : List Str} (h : G0[id]? = some (.mk true 1 (l.map V.str))) (hl : l.length ≤ 1000) :
  ∃ G' k, callW C 312 [.slc (some (id, 0)) l.length] G0 = some (.slc (some (id, 0)) k, G') ∧ G'.length = G0.length ∧ (∀ q, q ≠ id → G'[q]? = G0[q]?) ∧ (k = l.length ↔ Apart l) ∧ Cp G' id k l := by
 suffices hs : Ret C 312 [.slc (some (id, 0)) l.length] G0 fun w G' => ∃ k, w = .slc (some (id, 0)) k ∧ G'.length = G0.length ∧ (∀ q, q ≠ id → G'[q]? = G0[q]?) ∧ (k = l.length ↔ Apart l) ∧ Cp G' id k l by
  obtain ⟨w, G', hc, k, rfl, h1, h2, h3⟩ := hs
  exact ⟨G', k, hc, h1, h2, h3⟩
 have hcp := Cp.all h
 rw [aEj]
 by_cases hl2 : (l.length : Int) < 2
 ·have ha : Apart l := fun i x _ hx => by
   have := (List.getElem?_eq_some_iff.1 hx).1
   omega
  simp [aux, Tryz.f312, hl2, ha, hcp]
 simp [aux, Tryz.f312, hl2]
 refine apT (fun m σ => ∃ (k : Nat) (r : Nat → R), k + m = l.length ∧ σ = ⟨r, 0, G0⟩ ∧ r 0 = .val (.slc (some (id, 0)) l.length) ∧ r 3 = .val (.int .i64 k) ∧ 1 ≤ k ∧ ∀ i x, i + 1 < k → l[i]? = some x → l[i + 1]? ≠ some x) ?_ (l.length - 1) _ ⟨1, _, by omega, rfl, by simp, by simp, by omega, fun i x h => by omega⟩
 rintro m σ ⟨k, r, hkm, rfl, r0, r3, hk1, hall⟩
 cases m with
 | zero =>
  have hk : k = l.length := by omega
  subst hk
  have ha : Apart l := fun i x hx hx' => hall i x (List.getElem?_eq_some_iff.1 hx').1 hx hx'
  simp [r0, r3, ha, hcp]
 | succ m =>
  have hk : k < l.length := by omega
  have hkI : (k : Int) < l.length := by omega
  obtain ⟨x, hx⟩ : ∃ c, l[k]? = some c := ⟨l[k], by simp [hk]⟩
  obtain ⟨y, hy⟩ : ∃ c, l[k - 1]? = some c := ⟨l[k - 1]'(by omega), by simp⟩
  have hw : IntKind.i64.wrap ((k : Int) + 1) = ((k : Int) + 1) := wrap_i64 (by omega) (by omega)
  have hw1 : IntKind.i64.wrap ((k : Int) - 1) = ((k - 1 : Nat) : Int) := by rw [wrap_i64 (by omega) (by omega)]; omega
  have hk' : ((k - 1 : Nat) : Int) < l.length := by omega
  have hk'' : k - 1 < l.length := by omega
  have ldx := aqt (o := k) (v := .str x) h (by simp [hx])
  have ldy := aqt (o := k - 1) (v := .str y) h (by simp [hy])
  by_cases hxy : x = y
  rotate_left
  ·simp [r0, r3, hk, hk'', ldx, ldy, hw, hw1, hxy, aiB]
   refine ⟨m, by omega, k + 1, by omega, by omega, by omega, fun i z hi hz => ?_⟩
   by_cases hik : i + 1 = k
   ·have : i = k - 1 := by omega
    subst this
    rw [hy] at hz
    cases hz
    rw [hik, hx]
    simpa using hxy
   ·exact hall i z (by omega) hz
  have hna : ¬ Apart l := fun ha => ha (k - 1) y hy (by rw [show k - 1 + 1 = k by omega, hx, hxy])
  have hst : apX G0 id 1 = true := by simp [apX, h]
  have hle : k ≤ l.length := by omega
  simp [r0, r3, hk, hk'', hle, ldx, ldy, hw1, hxy, hst, aiB]
  refine apT (fun m σ => ∃ (k2 k' : Nat) (r : Nat → R) (G : List Ob) (cs : List Str), k2 + m = l.length - k ∧ σ = ⟨r, 0, G⟩ ∧ r 0 = .val (.slc (some (id, 0)) l.length) ∧ r 3 = .val (.int .i64 k') ∧ r 4 = .val (.slc (some (id, k)) (l.length - k)) ∧ r 5 = .val (.int .i64 k2) ∧ 1 ≤ k2 ∧ k' + 1 ≤ k + k2 ∧
   G.length = G0.length ∧ (∀ q, q ≠ id → G[q]? = G0[q]?) ∧ G[id]? = some (.mk true 1 (cs.map V.str)) ∧ cs.length = l.length ∧ CpI cs l k' (k + k2)) ?_ (l.length - k - 1) _ ⟨1, k, _, G0, l, by omega, rfl, by simp [r0], by simp [r3], by simp, by simp, by omega, by omega, rfl, fun _ _ => rfl, h, rfl, CpI.init hx (hxy ▸ hy) hk1⟩
  clear r0 r3 r hst
  rintro m2 σ ⟨k2, k', r, G, cs, hkm2, rfl, r0, r3, r4, r5, hk2, hkk, hG1, hG2, hG3, hcs, hci⟩
  have hst : apX G id 1 = true := by simp [apX, hG3]
  have hid : id < G.length := (List.getElem?_eq_some_iff.1 hG3).1
  cases m2 with
  | zero =>
   have hk2' : ((l.length - k : Nat) : Int) = k2 := by omega
   have hk2'' : l.length - k = k2 := by omega
   have hlt : k' < l.length := by omega
   have hle' : k' ≤ l.length := by omega
   have hnz : ¬ (l.length - k' = 0) := by omega
   have hwa : ∀ r c, aqI ⟨r, c, G⟩ (.hp id k') (apG ato (l.length - k')) = some ⟨r, c, G.set id (.mk true 1 (setRange (cs.map V.str) k' (apG ato (l.length - k'))))⟩ := by
    intro r c
    simp only [aqI, hG3]
    rw [if_pos (by rw [axm, List.length_map]; omega)]
   have hst2 : ∀ o, apX (G.set id (.mk true 1 o)) id 1 = true := fun o => by simp [apX, hid]
   have hne : ¬ (k' = l.length) := by omega
   have hend := Cp.end (G := G) hci (by omega) hcs hle' hid
   have hgl : ∀ o w, gcH G0 (G.set id o) w = G.set id o := fun o w => aFg (by rw [List.length_set]; exact hG1)
   simp [r0, r3, r4, r5, hk2'', hle', hst, apR, hnz, hwa, hst2, hgl, -setRange]
   refine ⟨hG1, fun q hq => ?_, ⟨fun h => absurd h hne, fun h => absurd h hna⟩, hend⟩
   rw [List.getElem?_set_ne (Ne.symm hq)]
   exact hG2 q hq
  | succ m2 =>
   have hlt : k2 < l.length - k := by omega
   obtain ⟨a, ha⟩ : ∃ c, cs[k + k2]? = some c := ⟨cs[k + k2]'(by omega), by simp⟩
   obtain ⟨b, hb⟩ : ∃ c, cs[k + (k2 - 1)]? = some c := ⟨cs[k + (k2 - 1)]'(by omega), by simp⟩
   have ld1 := aqt (o := k + k2) (v := .str a) hG3 (by simp [ha])
   have ld2 := aqt (o := k + (k2 - 1)) (v := .str b) hG3 (by simp [hb])
   have hw2 : IntKind.i64.wrap ((k2 : Int) - 1) = ((k2 - 1 : Nat) : Int) := by rw [wrap_i64 (by omega) (by omega)]; omega
   have hw3 : IntKind.i64.wrap ((k2 : Int) + 1) = ((k2 : Int) + 1) := wrap_i64 (by omega) (by omega)
   have hw4 : IntKind.i64.wrap ((k' : Int) + 1) = ((k' : Int) + 1) := wrap_i64 (by omega) (by omega)
   have hlt2 : k2 - 1 < l.length - k := by omega
   have hlt3 : k' < l.length := by omega
   by_cases hab : a = b
   ·simp [r0, r3, r4, r5, hlt, hlt2, ld1, ld2, hw2, hw3, hab, aiB]
    exact ⟨m2, by omega, k2 + 1, by omega, k', _, G, ⟨rfl, rfl⟩, by simp [r0], by simp [r3], by simp [r4], by simp, by omega, by omega, hG1, hG2, cs, hG3, hcs, hci.same ha (by rw [show k + k2 - 1 = k + (k2 - 1) by omega, hab]; exact hb) (by omega)⟩
   ·have st := store1 (v := .str a) (o := k') hG3 (by simp; omega) rfl rfl
    simp [r0, r3, r4, r5, hlt, hlt2, hlt3, ld1, ld2, hw2, hw3, hw4, hab, aiB, st]
    exact ⟨m2, by omega, k2 + 1, by omega, k' + 1, _, _, ⟨rfl, rfl⟩, by simp [r0], by simp, by simp [r4], by simp, by omega, by omega, by simpa using hG1, fun q hq => by rw [List.getElem?_set_ne (Ne.symm hq)]; exact hG2 q hq, cs.set k' a, by rw [List.getElem?_set_self hid, List.map_set], by simpa using hcs, hci.next ha (by omega)⟩
theorem aAh {l : List Str} (h : l.Pairwise fun a b => a ≤ b) : Apart l ↔ l.Nodup := by
 constructor
 ·intro ha
  induction l with
  | nil => exact List.nodup_nil
  | cons x l ih =>
   rw [List.pairwise_cons] at h
   rw [List.nodup_cons]
   have ha' : Apart l := fun i y hy => ha (i + 1) y (by simpa using hy)
   refine ⟨fun hx => ?_, ih h.2 ha'⟩
   cases l with
   | nil => cases hx
   | cons y l =>
    have hxy : x ≠ y := fun he => ha 0 x rfl (by simp [he])
    have h1 : x ≤ y := h.1 y List.mem_cons_self
    rcases List.mem_cons.1 hx with rfl | hx
    ·exact hxy rfl
    ·have h2 : y ≤ x := (List.pairwise_cons.1 h.2).1 x hx
     exact hxy (List.le_antisymm h1 h2)
 ·intro hn i x h1 h2
  obtain ⟨hi, h1⟩ := List.getElem?_eq_some_iff.1 h1
  obtain ⟨hi2, h2⟩ := List.getElem?_eq_some_iff.1 h2
  exact List.pairwise_iff_getElem.1 hn i (i + 1) hi hi2 (by omega) (h1.trans h2.symm)
theorem az3 {l : List Str} : (sorted l).Pairwise fun a b => a ≤ b := by
 have := List.pairwise_mergeSort (le := fun x y : Str => decide (x ≤ y)) (fun a b c h1 h2 => by simp at h1 h2 ⊢; exact List.le_trans h1 h2) (fun a b => by simp; exact List.le_total a b) l
 exact this.imp fun h => by simpa using h
theorem aDU {H : List Ob} {v : V} {l : List Str} (h : AStrs H v l) : ∀ s ∈ l, s.length ≤ maxLen := fun s hs => by
 obtain ⟨j, hj, rfl⟩ := List.getElem_of_mem hs
 obtain ⟨_, _, _, _, h⟩ := aqG h (List.getElem?_eq_getElem hj)
 exact h
def aMr (b : Nat) (p : Option (Nat × Nat)) : Prop := ∀ q o, p = some (q, o) → b ≤ q
def Some1 (G : List Ob) (w : V) (l : List Str) : Prop := ∃ l', AStrs G w l' ∧ (∀ x, x ∈ l' ↔ x ∈ l) ∧ l'.length ≤ l.length
theorem Some1.nil {G : List Ob} : Some1 G (.slc none 0) [] := ⟨[], apM.2 ⟨_, _, rfl, rfl, by simp, .inl ⟨rfl, rfl⟩⟩, fun _ => Iff.rfl, Nat.le_refl _⟩
theorem Some1.none {G : List Ob} {id : Nat} {cs : List V} (h : G[id]? = some (.mk true 1 cs)) : Some1 G (.slc (some (id, 0)) 0) [] := ⟨[], apM.2 ⟨_, _, rfl, rfl, by simp, .inr ⟨id, 0, true, cs, rfl, h, by simp, fun i x hx => by simp at hx⟩⟩, fun _ => Iff.rfl, Nat.le_refl _⟩
theorem aDC {G : List Ob} {id k : Nat} {own : Bool} {cs : List Str} (h : G[id]? = some (.mk own 1 (cs.map V.str))) (hk : k ≤ cs.length) (hl : k ≤ maxLen) (hs : ∀ s ∈ cs.take k, s.length ≤ maxLen) : AStrs G (.slc (some (id, 0)) k) (cs.take k) := by
 refine apM.2 ⟨_, _, rfl, rfl, by simp; omega, .inr ⟨id, 0, own, cs.map V.str, by simp; omega, h, by simp; omega, fun i x hx => ?_⟩⟩
 rw [List.getElem?_map] at hx
 obtain ⟨s, hs', rfl⟩ := Option.map_eq_some_iff.1 hx
 have hi : i < (cs.take k).length := (List.getElem?_eq_some_iff.1 hs').1
 have hi2 : i < cs.length := by rw [List.length_take] at hi; omega
 have hc : cs[i]? = some s := by rw [List.length_take] at hi; rw [List.getElem?_take_of_lt (by omega)] at hs'; exact hs'
 refine ap1.2 ⟨s, ?_, rfl, hs s (List.mem_of_getElem? hs')⟩
 rw [Sh.size_str, Nat.zero_add, Nat.mul_one, List.drop_eq_getElem_cons (by simpa using hi2)]
 obtain ⟨_, rfl⟩ := List.getElem?_eq_some_iff.1 hc
 simp
theorem Some1.of {G : List Ob} {id k : Nat} {l : List Str} (h : Cp G id k (sorted l)) (hb : l.length ≤ 1000) (hm : ∀ s ∈ l, s.length ≤ maxLen) : Some1 G (.slc (some (id, 0)) k) l := by
 obtain ⟨cs, h1, h0, h2, h3⟩ := h
 rw [auW] at h0
 have h4 : ∀ x, x ∈ cs.take k ↔ x ∈ l := fun x => (h3 x).trans sorted_perm.mem_iff
 exact ⟨cs.take k, aDC h1 h2 (by unfold maxLen; omega) fun s hs => hm s ((h4 s).1 hs), h4, by simp; omega⟩
theorem azM {H : List Ob} {id : Nat} {own : Bool} {va : V} {l : List Str} (h0 : H[id]? = some (.mk own 1 [va])) (hw : AStrs H va l) (hb : l.length ≤ 1000) :
  ∃ T p n, callW C 236 [.slc (some (id, 0)) 1] H = some (.slc p n, H ++ T) ∧ (n = l.length ↔ l.Nodup) ∧ Some1 (H ++ T) (.slc p n) l ∧ aMr H.length p := by
 suffices hs : Ret C 236 [.slc (some (id, 0)) 1] H fun q H' => ∃ T p n, q = .slc p n ∧ H' = H ++ T ∧ (n = l.length ↔ l.Nodup) ∧ Some1 H' q l ∧ aMr H.length p by
  obtain ⟨q, H', hc, T, p, n, rfl, rfl, hr⟩ := hs
  exact ⟨T, p, n, hc, hr⟩
 have hmx := aDU hw
 rw [aLD]
 have hfl : fl [l] 1 = l := by simp [fl]
 obtain ⟨T, w, c1, hown⟩ := aAf (ls := [l]) h0 rfl (fun i w l' h1 h2 => by
  cases i with
  | zero => cases h1; cases h2; exact hw
  | succ i => simp at h1) (by simp only [List.length_singleton, hfl]; exact hb) (by simp)
 simp only [List.length_singleton, hfl] at c1 hown
 rcases hown with ⟨rfl, rfl⟩ | hgs
 ·have c2 : callW C 311 [.slc none 0] (H ++ T) = some (.tup [], H ++ T) := asI (pr := ash) rfl
  have c3 : callW C 312 [.slc none 0] (H ++ T) = some (.slc none 0, H ++ T) := by
   apply Ret.eq
   rw [aEj]
   simp [aux, Tryz.f312]
  simp [avk, Tryz.f236, c1, c2, c3]
  exact ⟨[], _, _, ⟨rfl, rfl⟩, by simp [gcH, awY, asC], rfl, Some1.nil, fun _ _ h => by cases h⟩
 ·obtain ⟨T', id', hT, h1, h2, rfl⟩ := hgs
  have hT' := List.append_cancel_left hT
  subst hT'
  rw [List.length_map] at c1
  have hid : id' < (H ++ T).length := (List.getElem?_eq_some_iff.1 h2).1
  by_cases hl0 : l.length = 0
  ·have : l = [] := List.length_eq_zero_iff.1 hl0
   subst this
   have c2 : callW C 311 [.slc (some (id', 0)) 0] (H ++ T) = some (.tup [], H ++ T) := asI (pr := ash) rfl
   have c3 : callW C 312 [.slc (some (id', 0)) 0] (H ++ T) = some (.slc (some (id', 0)) 0, H ++ T) := by
    apply Ret.eq
    rw [aEj]
    simp [aux, Tryz.f312]
   have hgc : gcH H (H ++ T) (.slc (some (id', 0)) 0) = H ++ T := Gs.gc ⟨T, id', rfl, h1, h2, rfl⟩
   simp at c1
   simp [avk, Tryz.f236, c1, c2, c3, hgc]
   exact ⟨_, _, _, ⟨rfl, rfl⟩, rfl, rfl, Some1.none (by simpa using h2), fun _ _ h => by cases h; exact h1⟩
  ·have c2 := aC8 h2 (by omega) (by omega)
   obtain ⟨G', k, c3, k1, k2, k3, k4⟩ := aC7 (l := sorted l) (G0 := (H ++ T).set id' (.mk true 1 ((sorted l).map V.str))) (id := id') (by rw [List.getElem?_set_self hid]) (by rw [auW]; exact hb)
   rw [auW] at c3 k3
   rw [List.length_set] at k1
   obtain ⟨T2, hT2⟩ : ∃ T2, G' = H ++ T2 := aAo (fun q hq => by
    rw [k2 q (by omega), List.getElem?_set_ne (by omega), List.getElem?_append_left hq]) (by rw [k1]; simp)
   subst hT2
   have hgc : ∀ n, gcH H (H ++ T2) (.slc (some (id', 0)) n) = H ++ T2 := fun n => by
    unfold gcH
    rw [if_neg]
    rintro ⟨_, own, es, cells, h⟩
    have := (List.getElem?_eq_some_iff.1 h).1
    omega
   have hnd : k = l.length ↔ l.Nodup := by
    rw [k3, aAh az3]
    exact sorted_perm.nodup_iff
   simp [avk, Tryz.f236, c1, c2, c3, hgc]
   exact ⟨T2, _, _, ⟨rfl, rfl⟩, rfl, hnd, Some1.of k4 hb hmx, fun _ _ h => by cases h; exact h1⟩
theorem Own.strs {H G : List Ob} {w : V} {l : List Str} (h : Own H G w l) (hl : l.length ≤ maxLen) (hs : ∀ s ∈ l, s.length ≤ maxLen) : AStrs G w l := by
 rcases h with ⟨rfl, rfl⟩ | h
 ·exact apM.2 ⟨_, _, rfl, rfl, by simp, .inl ⟨rfl, rfl⟩⟩
 ·exact (h.strs hl hs).1
theorem Own.one {H G : List Ob} {w : V} {l : List Str} (h : Own H G w l) : ap5 w = true ∧ cellsOf w = some [w] := by
 rcases h with ⟨rfl, rfl⟩ | h
 ·exact ⟨rfl, rfl⟩
 ·exact h.one
theorem arv : ∀ (a b : Str), LtS a b ↔ a < b
 | a, [] => by simp [LtS, Op.bytesLess]
 | [], b :: bs => by simp [LtS, Op.bytesLess]
 | a :: as', b :: bs => by
  have := arv as' bs
  unfold LtS at this ⊢
  simp [Op.bytesLess, List.cons_lt_cons_iff, this]
noncomputable def avb (a b : Str) : Int := if dec (LtS a b) = true then -1 else if dec (LtS b a) = true then 1 else 0
theorem aCv {a b : Str} : avb a b < 0 ↔ LtS a b := by
 unfold avb
 by_cases h : LtS a b
 ·rw [apK h]; simp [h]
 ·rw [apJ h]
  by_cases h' : LtS b a
  ·rw [apK h']; simp [h]
  ·rw [apJ h']; simp [h]
theorem ayY {a b : Str} : avb a b = 0 ↔ a = b := by
 unfold avb
 by_cases h : LtS a b
 ·rw [apK h]
  have : a ≠ b := fun e => by subst e; exact List.lt_irrefl _ ((arv a a).1 h)
  simp [this]
 ·rw [apJ h]
  by_cases h' : LtS b a
  ·rw [apK h']
   have : a ≠ b := fun e => by subst e; exact List.lt_irrefl _ ((arv a a).1 h')
   simp [this]
  ·rw [apJ h']
   have h1 : b ≤ a := fun hh => h ((arv a b).2 hh)
   have h2 : a ≤ b := fun hh => h' ((arv b a).2 hh)
   simp [List.le_antisymm h2 h1]
theorem aGw {a b : Str} {H : List Ob} : callW C 275 [.str a, .str b] H = some (.int .i64 (avb a b), H) := by
 have c0 : ∀ x : Str, callW C 333 [.str x] H = some (.bool false, H) := fun x => by
  apply Ret.eq
  rw [aHO]
  simp [ayF, Tryz.f333]
 apply Ret.eq
 rw [aIR]
 by_cases g1 : LtS a b
 ·have : avb a b = -1 := by unfold avb; rw [apK g1]; rfl
  simp [avc, Tryz.f275, c0, atJ g1, this]
 ·by_cases g2 : LtS b a
  ·have hne : a ≠ b := fun e => by subst e; exact g1 g2
   have : avb a b = 1 := by unfold avb; rw [apJ g1, apK g2]; rfl
   simp [avc, Tryz.f275, c0, at6 g1, hne, this]
  ·have : avb a b = 0 := by unfold avb; rw [apJ g1, apJ g2]; rfl
   have he := ayY.1 this
   simp [avc, Tryz.f275, c0, at6 g1, he, this]
   subst he
   simp [at6 g1, this]
theorem azT {n t : Str} {w : V} {H : List Ob} (ho : cellsOf w = some [w]) : callW C 358 [.agg [.str n, w], .str t] H = some (.int .i64 (avb n t), H) := by
 apply Ret.eq
 rw [aMB]
 simp [azd, Tryz.f358, aGw]
theorem avS {α : Type} {key : α → Str} : ∀ {l : List α}, (∀ (j : Nat) x, l[j]? = some x → aqR key l j x) → l.Pairwise fun a b => key a < key b
 | [], _ => .nil
 | [x], _ => by simp
 | x :: y :: l, h => by
  have h' : ∀ (j : Nat) z, (y :: l)[j]? = some z → aqR key (y :: l) j z := fun j z hz v hj hv => by
   refine h (j + 1) z (by simpa using hz) v (by omega) ?_
   rw [show j + 1 - 1 = (j - 1) + 1 by omega]
   simpa using hv
  have ih := avS h'
  have hxy : key x < key y := (arv _ _).1 (h 1 y rfl x (by omega) rfl)
  rw [List.pairwise_cons]
  refine ⟨fun z hz => ?_, ih⟩
  rcases List.mem_cons.1 hz with rfl | hz
  ·exact hxy
  ·exact List.lt_trans hxy ((List.pairwise_cons.1 ih).1 z hz)
theorem aEd {H : List Ob} {v : V} {l : List PAttr} {t : Str} (h : aqO H v l) (hl : l.length ≤ 1000) (hp : l.Pairwise fun a b => a.name < b.name) :
  ∃ (i : Nat) (ok : Bool), callW C 357 [v, .str t, .fn 358 [] []] H = some (.tup [.int .i64 i, .bool ok], H) ∧
   (ok = true → ∃ a, l[i]? = some a ∧ a.name = t) ∧ (ok = false → ∀ a ∈ l, a.name ≠ t) := by
 suffices hs : Ret C 357 [v, .str t, .fn 358 [] []] H fun q H' =>
   (∃ (i : Nat) (ok : Bool), q = .tup [.int .i64 i, .bool ok] ∧ (ok = true → ∃ a, l[i]? = some a ∧ a.name = t) ∧ (ok = false → ∀ a ∈ l, a.name ≠ t)) ∧ H' = H by
  obtain ⟨q, H', hc, ⟨i, ok, rfl, h1, h2⟩, rfl⟩ := hs
  exact ⟨i, ok, hc, h1, h2⟩
 rw [aIi]
 simp [azm, Tryz.f357, h.len]
 refine apT (fun k σ => ∃ (i j : Nat) (r : Nat → R), j - i = k ∧ i ≤ j ∧ j ≤ l.length ∧ σ = ⟨r, 0, H⟩ ∧ r 0 = .val v ∧ r 1 = .val (.str t) ∧ r 2 = .val (.fn 358 [] []) ∧ r 8 = .val (.int .i64 l.length) ∧ r 9 = .val (.int .i64 i) ∧ r 10 = .val (.int .i64 j) ∧
  (∀ q a, q < i → l[q]? = some a → LtS a.name t) ∧ (∀ q a, j ≤ q → l[q]? = some a → ¬ LtS a.name t)) ?_ l.length _ ⟨0, l.length, _, by omega, by omega, by omega, rfl, by simp, by simp, by simp, by simp, by simp, by simp, fun q a h => by omega, fun q a h1 h2 => by have := (List.getElem?_eq_some_iff.1 h2).1; omega⟩
 rintro k σ ⟨i, j, r, hk, hij, hjl, rfl, r0, r1, r2, r8, r9, r10, hlo, hhi⟩
 cases k with
 | succ k =>
  have hlt : (i : Int) < j := by omega
  have hlt' : i < j := by omega
  have hw1 : IntKind.i64.wrap ((i : Int) + j) = (i : Int) + j := wrap_i64 (by omega) (by omega)
  have hw2 : IntKind.u64.wrap ((i : Int) + j) = (i : Int) + j := by unfold IntKind.wrap; simp [IntKind.bits, IntKind.signed]; omega
  have hq : ((i : Int) + j).fdiv 2 = (((i + j) / 2 : Nat) : Int) := by rw [Int.fdiv_eq_ediv_of_nonneg _ (by omega)]; omega
  obtain ⟨m, hm⟩ : ∃ m, m = (i + j) / 2 := ⟨_, rfl⟩
  rw [← hm] at hq
  have hw3 : IntKind.i64.wrap (m : Int) = m := wrap_i64 (by omega) (by omega)
  have hw4 : IntKind.i64.wrap ((m : Int) + 1) = (m : Int) + 1 := wrap_i64 (by omega) (by omega)
  have hml : m < l.length := by omega
  obtain ⟨a, ha⟩ : ∃ a, l[m]? = some a := ⟨l[m], List.getElem?_eq_getElem hml⟩
  obtain ⟨id, o, w, e1, l0, l1, l2, hvs, _⟩ := ary h ha
  have c1 := azT (n := a.name) (t := t) (w := w) (H := H) hvs.one.2
  have hord : ∀ q b, l[q]? = some b → (q < m → b.name < a.name) ∧ (m < q → a.name < b.name) := fun q b hb => by
   obtain ⟨hq1, hb⟩ := List.getElem?_eq_some_iff.1 hb
   obtain ⟨_, ha⟩ := List.getElem?_eq_some_iff.1 ha
   have := List.pairwise_iff_getElem.1 hp
   exact ⟨fun hh => by have := this q m hq1 hml hh; rwa [hb, ha] at this, fun hh => by have := this m q hml hq1 hh; rwa [hb, ha] at this⟩
  by_cases g1 : LtS a.name t
  ·have g1' := aCv.2 g1
   simp [r0, r1, r2, r8, r9, r10, hlt, hlt', hw1, hw2, hq, hw3, hw4, e1, l2, c1, g1', att, IntKind.bits]
   refine ⟨j - (m + 1), by omega, m + 1, j, by omega, by omega, by omega, by omega, rfl, fun q b hq1 hb => ?_, hhi⟩
   by_cases hqm : q = m
   ·subst hqm; rw [ha] at hb; cases hb; exact g1
   ·exact (arv _ _).2 (List.lt_trans ((hord q b hb).1 (by omega)) ((arv _ _).1 g1))
  ·have g1' : ¬ avb a.name t < 0 := mt aCv.1 g1
   simp [r0, r1, r2, r8, r9, r10, hlt, hlt', hw1, hw2, hq, hw3, hw4, e1, l2, c1, g1', att, IntKind.bits]
   refine ⟨m - i, by omega, i, m, by omega, by omega, by omega, rfl, rfl, hlo, fun q b hq1 hb hlt2 => ?_⟩
   by_cases hqm : q = m
   ·subst hqm; rw [ha] at hb; cases hb; exact g1 hlt2
   ·exact g1 ((arv _ _).2 (List.lt_trans ((hord q b hb).2 (by omega)) ((arv _ _).1 hlt2)))
 | zero =>
  have hij' : i = j := by omega
  subst hij'
  by_cases hil : i < l.length
  ·have hilI : (i : Int) < l.length := by omega
   obtain ⟨a, ha⟩ : ∃ a, l[i]? = some a := ⟨l[i], List.getElem?_eq_getElem hil⟩
   obtain ⟨id, o, w, e1, l0, l1, l2, hvs, _⟩ := ary h ha
   have c1 := azT (n := a.name) (t := t) (w := w) (H := H) hvs.one.2
   by_cases g1 : a.name = t
   ·have g1' := ayY.2 g1
    simp [r0, r1, r2, r8, r9, r10, hil, e1, l2, c1, g1']
    exact ⟨i, rfl, a, ha, g1⟩
   ·have g1' : ¬ avb a.name t = 0 := mt ayY.1 g1
    simp [r0, r1, r2, r8, r9, r10, hil, e1, l2, c1, g1']
    refine ⟨⟨i, rfl⟩, fun b hb hbt => ?_⟩
    obtain ⟨q, hq1, rfl⟩ := List.getElem_of_mem hb
    have hqe := List.getElem?_eq_getElem hq1
    rcases Nat.lt_trichotomy q i with hh | hh | hh
    ·have := hlo q _ hh hqe
     rw [hbt] at this
     exact List.lt_irrefl _ ((arv _ _).1 this)
    ·subst hh; rw [ha] at hqe; cases hqe; exact g1 hbt
    ·have h1 := hhi i a (by omega) ha
     obtain ⟨_, ha'⟩ := List.getElem?_eq_some_iff.1 ha
     have h2 := List.pairwise_iff_getElem.1 hp i q hil hq1 hh
     rw [ha', hbt] at h2
     exact h1 ((arv _ _).2 h2)
  ·simp [r0, r1, r2, r8, r9, r10, hil]
   refine ⟨⟨i, rfl⟩, fun b hb hbt => ?_⟩
   obtain ⟨q, hq1, rfl⟩ := List.getElem_of_mem hb
   have := hlo q _ (by omega) (List.getElem?_eq_getElem hq1)
   rw [hbt] at this
   exact List.lt_irrefl _ ((arv _ _).1 this)
end Go.Proofs.Try1
end
