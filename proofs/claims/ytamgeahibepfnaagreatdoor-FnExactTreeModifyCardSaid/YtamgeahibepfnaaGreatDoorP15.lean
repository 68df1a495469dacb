/- Part 15 of the proof of a law: the interpreter, its soundness, and what functions of the program compute over it. Conditions: none but those that each theorem names. -/
import Derived.Test.YtamgeahibepfnaaGreatDoorP14
import Derived.Sort.AssemblyPlain
import Derived.Test.YtamgeahibepfnaaGreatDoorP13
import Derived.Test.YtamgeahibepfnaaGreatDoorP08
import Derived.Test.YtamgeahibepfnaaGreatDoorP11
import Derived.Test.YtamgeahibepfnaaGreatDoorP12
import Derived.Test.YtamgeahibepfnaaGreatDoorP10

set_option linter.all false
set_option maxRecDepth 20000
set_option maxHeartbeats 40000000
section
namespace Go.Proofs.Try1
open Go Go.Lite
section
variable {l : List PAttr} {n : Str} {vs : List Str} {i : Nat}
theorem Po (h1 : ∀ q a, q < i → l[q]? = some a → df a.name n) (h2 : ∀ q a, i ≤ q → l[q]? = some a → ¬ df a.name n) (hp : l.Pairwise fun a b => a.name < b.name) (hno : ¬ ∃ a, l[i]? = some a ∧ a.name = n) : bC l n vs = l.take i ++ (if vs = [] then [] else [⟨n, vs⟩]) ++ l.drop i := by
 unfold bC
 rw [Dp (i := i) (fun q x hq hx => au (h1 q x hq hx)) (fun q x hq hx => ak (h2 q x hq hx)), Du (i := i) (fun q x hq hx => ak (eG (h1 q x hq hx))) (fun q x hq hx => au ?_)]
 rcases EJ n x.name with h | h | h
 ·exact h
 ·rcases Nat.lt_or_ge i q with hlt | hge
  ·obtain ⟨hq1, hx'⟩ := List.getElem?_eq_some_iff.1 hx
   have h3 := List.pairwise_iff_getElem.1 hp i q (by omega) hq1 hlt
   rw [hx', ← h] at h3
   exact absurd ((bD _ _).2 h3) (h2 i _ (Nat.le_refl _) (List.getElem?_eq_getElem (by omega)))
  ·have : q = i := by omega
   subst this
   exact absurd ⟨x, hx, h.symm⟩ hno
 ·exact absurd h (h2 q x hq hx)
theorem KI (h1 : ∀ q a, q < i → l[q]? = some a → df a.name n) (hp : l.Pairwise fun a b => a.name < b.name) {a : PAttr} (ha : l[i]? = some a) (han : a.name = n) : bC l n vs = l.take i ++ (if vs = [] then [] else [⟨n, vs⟩]) ++ l.drop (i + 1) := by
 obtain ⟨hi, ha'⟩ := List.getElem?_eq_some_iff.1 ha
 have hgt : ∀ q x, i < q → l[q]? = some x → df n x.name := fun q x hq hx => by
  obtain ⟨hq1, hx'⟩ := List.getElem?_eq_some_iff.1 hx
  have h3 := List.pairwise_iff_getElem.1 hp i q hi hq1 hq
  rw [hx', ha', han] at h3
  exact (bD _ _).2 h3
 unfold bC
 rw [Dp (i := i) (fun q x hq hx => au (h1 q x hq hx)) (fun q x hq hx => ak ?_), Du (i := i + 1) (fun q x hq hx => ak ?_) (fun q x hq hx => au (hgt q x (by omega) hx))]
 ·rcases Nat.lt_or_ge q i with hlt | hge
  ·exact eG (h1 q x hlt hx)
  ·have : q = i := by omega
   subst this
   rw [ha] at hx
   cases hx
   rw [han]
   exact cZ n
 ·rcases Nat.lt_or_ge i q with hlt | hge
  ·exact eG (hgt q x hlt hx)
  ·have : q = i := by omega
   subst this
   rw [ha] at hx
   cases hx
   rw [han]
   exact cZ n
end
theorem QT {G G' : List Ob} {r : V} {q : Nat} (hq : q < G.length) (h : G'[q]? ≠ G[q]?) : fB G G' r = G' := by
 unfold fB
 rw [if_neg]
 rintro ⟨⟨T, rfl⟩, _⟩
 exact h (List.getElem?_append_left hq)
theorem Ro {G : List Ob} {ide : Nat} {vd va vv : V} {l : List PAttr} {n : Str} {vs : List Str} {F Fv : List Nat} (he : G[ide]? = some (.mk true 2 [vd, va])) (hA : AtF G (.slice shAttr) [va] (.lst (l.map PAttr.u)) F) (hn : F.Nodup) (hide : ide ∉ F) (hl : l.length ≤ 1000) (hp : l.Pairwise fun a b => a.name < b.name) (hnm : n.length ≤ maxLen)
  (hV : AtF G (.slice .str) [vv] (.lst (vs.map jl)) Fv) (hVn : Fv.Nodup) (hVF : ∀ q ∈ Fv, q ∉ F ∧ q ≠ ide) :
  ∃ G' va' F', callW C 292 [.ptr (some (ide, 0)), .str n, vv] G = some (.tup [], G') ∧ G'[ide]? = some (.mk true 2 [vd, va']) ∧ AtF G' (.slice shAttr) [va'] (.lst ((bC l n vs).map PAttr.u)) F' ∧ F'.Nodup ∧ ide ∉ F' ∧
   (∀ q ∈ F', q ∈ F ∨ q ∈ Fv ∨ G.length ≤ q) ∧ (∀ q, q < G.length → q ∉ F → q ≠ ide → G'[q]? = G[q]?) ∧ G.length ≤ G'.length ∧ ∀ r, fB G G' r = G' := by
 have ha : bK G va l := AtF.at _ hA
 have hvS : AStrs G vv vs := AtF.at _ hV
 have hoa := ha.one
 have hov := hvS.one
 have hidel : ide < G.length := (List.getElem?_eq_some_iff.1 he).1
 obtain ⟨i, ok, c1, hil, h1, h2, hok⟩ := MX (t := n) he ha hl hp
 have ld := aY (o := 1) (v := va) he rfl
 suffices hs : Ret C 292 [.ptr (some (ide, 0)), .str n, vv] G fun q G' => q = .tup [] ∧ ∃ va' F', G'[ide]? = some (.mk true 2 [vd, va']) ∧ AtF G' (.slice shAttr) [va'] (.lst ((bC l n vs).map PAttr.u)) F' ∧ F'.Nodup ∧ ide ∉ F' ∧
   (∀ q ∈ F', q ∈ F ∨ q ∈ Fv ∨ G.length ≤ q) ∧ (∀ q, q < G.length → q ∉ F → q ≠ ide → G'[q]? = G[q]?) ∧ G.length ≤ G'.length ∧ ∀ r, fB G G' r = G' by
  obtain ⟨q, G', hc, rfl, va', F', hr⟩ := hs
  exact ⟨G', va', F', hc, hr⟩
 rw [agc]
 have hz : vs ≠ [] → 0 < vs.length := fun h => List.length_pos_iff.2 h
 cases ok with
 | false =>
  have hno : ¬ ∃ a, l[i]? = some a ∧ a.name = n := fun h => by have := hok.2 h; cases this
  have hput := Po (vs := vs) h1 h2 hp hno
  by_cases g : vs = []
  ·subst g
   rw [if_pos rfl, List.append_nil, List.take_append_drop] at hput
   simp [rW, Tryz.f292, c1, hvS.len]
   exact ⟨va, he, F, by rw [hput]; exact hA, hn, hide, fun q hq => .inl hq⟩
  ·rw [if_neg g] at hput
   have hx : AtF G shAttr [.str n, vv] (⟨n, vs⟩ : PAttr).u Fv := by
    have := aC.2 ⟨[.str n], [vv], .str n, [.lst (vs.map jl)], [], Fv, rfl, rfl, rfl, dh.2 ⟨⟨n, rfl, rfl, hnm⟩, rfl⟩, aC.2 ⟨[vv], [], _, [], Fv, [], rfl, rfl, by simp, hV, dC.2 ⟨rfl, rfl, rfl⟩⟩⟩
    exact eQ.2 ⟨_, rfl, this⟩
   obtain ⟨v', G1, F1, p1, a1, n1, s1, fr1, len1, hv'⟩ := U7 hA hn hx hVn (fun q hq => (hVF q hq).1) hil (by omega) (by decide)
   have p2 : callW C 341 [va, .int .i64 i, .slc (some (G.length, 0)) 1] (G ++ [.mk true 2 [.str n, vv]]) = some (v', G1) := by
    rw [gV (show C.prim 341 = some (iQ 2) from rfl)]
    exact p1
   have he1 : G1[ide]? = some (.mk true 2 [vd, va]) := by rw [fr1 ide hide hidel]; exact he
   have hov' : aP v' = true ∧ cellsOf v' = some [v'] := by rw [hv']; exact ⟨rfl, rfl⟩
   have st := store1 (o := 1) (v := v') he1 (by simp) hov'.2 hov'.1
   have hide1 : ide ∉ F1 := fun hm => by
    rcases s1 ide hm with h | h | h
    ·exact hide h
    ·exact (hVF ide h).2 rfl
    ·omega
   have hG1l : ide < G1.length := by omega
   have hne : va ≠ v' := fun e => by
    rw [hv'] at e
    rcases ha.sub with ⟨h, _⟩ | ⟨id, off, own, cells, h, h3, _⟩
    ·rw [h] at e; cases e
    ·rw [h] at e
     have := (List.getElem?_eq_some_iff.1 h3).1
     simp at e
   have hgc : ∀ r, fB G (G1.set ide (.mk true 2 [vd, v'])) r = G1.set ide (.mk true 2 [vd, v']) := fun r => QT hidel (by
    rw [List.getElem?_set_self hG1l, he]
    intro e
    cases e
    exact hne rfl)
   simp at st
   simp [rW, Tryz.f292, c1, hvS.len, hz g, ld, hov, hoa, aJ, aH, ax, St.new, aW, ay, p2, st, hov', hgc]
   refine ⟨v', List.getElem?_set_self hG1l, F1, ?_, n1, hide1, fun q hq => ?_, fun q hq hqF hqe => ?_, by omega⟩
   ·rw [hput, List.append_assoc]
    exact AtF.kill a1 hide1
   ·rcases s1 q hq with h | h | h
    ·exact .inl h
    ·exact .inr (.inl h)
    ·exact .inr (.inr (by omega))
   ·rw [List.getElem?_set_ne (fun e => hqe e.symm)]
    exact fr1 q hqF hq
 | true =>
  obtain ⟨a, hai, han⟩ := hok.1 rfl
  have hput := KI (vs := vs) h1 hp hai han
  have hi : i < l.length := (List.getElem?_eq_some_iff.1 hai).1
  by_cases g : vs = []
  ·subst g
   rw [if_pos rfl, List.append_nil] at hput
   have hw : IntKind.i64.wrap ((i : Int) + 1) = (i : Int) + 1 := wrap_i64 (by omega) (by omega)
   obtain ⟨v', G1, F1, p1, a1, n1, s1, fr1, len1, hov'⟩ := WG hA hn hi (by omega)
   have he1 : G1[ide]? = some (.mk true 2 [vd, va]) := by rw [fr1 ide hide]; exact he
   have st := store1 (o := 1) (v := v') he1 (by simp) hov'.2 hov'.1
   have hide1 : ide ∉ F1 := fun hm => hide (s1 ide hm)
   have hG1l : ide < G1.length := by omega
   have hgc : ∀ r, fB G (G1.set ide (.mk true 2 [vd, v'])) r = G1.set ide (.mk true 2 [vd, v']) := fun r => Ak (by simp; exact len1)
   simp at st
   simp [rW, Tryz.f292, c1, hvS.len, ld, hov, hoa, p1, st, hov', hgc, hw]
   refine ⟨v', List.getElem?_set_self hG1l, F1, ?_, n1, hide1, fun q hq => .inl (s1 q hq), fun q hq hqF hqe => ?_, by omega⟩
   ·rw [hput]
    exact AtF.kill a1 hide1
   ·rw [List.getElem?_set_ne (fun e => hqe e.symm)]
    exact fr1 q hqF
  ·rw [if_neg g] at hput
   have hx : AtF G shAttr [.str n, vv] (⟨n, vs⟩ : PAttr).u Fv := by
    have := aC.2 ⟨[.str n], [vv], .str n, [.lst (vs.map jl)], [], Fv, rfl, rfl, rfl, dh.2 ⟨⟨n, rfl, rfl, hnm⟩, rfl⟩, aC.2 ⟨[vv], [], _, [], Fv, [], rfl, rfl, by simp, hV, dC.2 ⟨rfl, rfl, rfl⟩⟩⟩
    exact eQ.2 ⟨_, rfl, this⟩
   obtain ⟨id, off, cells, F1, hva, g2, g3, g4, a1, n1, s1⟩ := Bf hA hn hi hx hVn (fun q hq => (hVF q hq).1)
   have hsz : shAttr.size = 2 := rfl
   rw [hsz] at g2 g3 a1
   have hch : ∃ w0, (cells.drop (off + i * 2)).take 2 = [.str n, w0] := by
    rcases ha.sl with ⟨h, _⟩ | ⟨id', off', own', cells', h3, h4, h5, h6⟩
    ·rw [h] at hva; cases hva
    ·rw [hva, List.length_map] at h3
     cases h3
     rw [g2] at h4
     cases h4
     have := h6 i a.u (by rw [List.getElem?_map, hai]; rfl)
     obtain ⟨w0, hw0, _⟩ := FV.1 this
     rw [hsz, han] at hw0
     exact ⟨w0, hw0⟩
   obtain ⟨w0, hch⟩ := hch
   have hsc := C9 (c1 := [.str n]) (c2 := []) (v := w0) (w := vv) (o := off + i * 2) (n := 2) hch (by omega)
   simp only [List.length_cons, List.length_nil, List.append_nil, List.cons_append, List.nil_append] at hsc
   have hne : ide ≠ id := fun e => hide (by rw [e]; exact g4)
   have st := store1 (o := off + i * 2 + 1) (v := vv) g2 (by omega) hov.2 hov.1
   rw [show off + i * 2 + 1 = off + i * 2 + (0 + 1) by omega, hsc] at st
   simp only [Nat.zero_add] at st
   have hide1 : ide ∉ F1 := fun hm => (s1 ide hm).elim hide fun h => (hVF ide h).2 rfl
   have hgc : ∀ r, fB G (G.set id (.mk true 2 (setRange cells (off + i * 2) [.str n, vv]))) r = G.set id (.mk true 2 (setRange cells (off + i * 2) [.str n, vv])) := fun r => Ak (by simp)
   have hiI : (i : Int) < l.length := by omega
   have hz' := hz g
   have hvs0 : ¬ ((vs.length : Int) = 0) := by omega
   subst hva
   simp [-setRange, rW, Tryz.f292, c1, hvS.len, ld, hov, hoa, st, hgc, hz', hi, hvs0, g]
   refine ⟨_, by rw [List.getElem?_set_ne (fun e => hne e.symm)]; exact he, F1, ?_, n1, hide1, fun q hq => (s1 q hq).imp (fun h => h) .inl, fun q hq hqF hqe => ?_⟩
   ·rw [hput, List.append_assoc]
    have hset : l.set i ⟨n, vs⟩ = l.take i ++ ([⟨n, vs⟩] ++ l.drop (i + 1)) := by rw [List.set_eq_take_append_cons_drop, if_pos hi]; rfl
    rw [← hset]
    exact a1
   ·exact List.getElem?_set_ne fun e => hqF (by rw [← e]; exact g4)
end Go.Proofs.Try1
end
section
namespace Go.Lite
open Go
theorem MW : ∀ (a b : Str), (Lib.compareBytes a b < 0 ↔ df a b) ∧ (Lib.compareBytes a b = 0 ↔ a = b)
 | [], [] => by simp [Lib.compareBytes, df, Op.bytesLess]
 | [], _ :: _ => by simp [Lib.compareBytes, df, Op.bytesLess]
 | _ :: _, [] => by simp [Lib.compareBytes, df, Op.bytesLess]
 | a :: az, b :: bs => by
  have ih := MW az bs
  unfold df at ih ⊢
  simp only [Lib.compareBytes, Op.bytesLess]
  by_cases h1 : a < b
  ·have hne : a ≠ b := fun e => by subst e; exact absurd h1 (by simp)
   simp [h1, hne]
  ·by_cases h2 : b < a
   ·have hne : a ≠ b := fun e => by subst e; exact h1 h2
    simp [h1, h2, hne]
   ·have he : a = b := by
     have h3 : ¬ a.toNat < b.toNat := h1
     have h4 : ¬ b.toNat < a.toNat := h2
     exact UInt8.toNat_inj.1 (by omega)
    subst he
    simp [h1, ih.1, ih.2]
theorem S9 {a b : UInt8} {az bs : Str} : df (a :: az) (b :: bs) ↔ a < b ∨ (a = b ∧ df az bs) := by
 unfold df
 simp only [Op.bytesLess]
 by_cases h1 : a < b
 ·simp [h1]
 ·by_cases h2 : b < a
  ·have hne : a ≠ b := fun e => by subst e; exact h1 h2
   simp [h1, h2, hne]
  ·have he : a = b := by
    have h3 : ¬ a.toNat < b.toNat := h1
    have h4 : ¬ b.toNat < a.toNat := h2
    exact UInt8.toNat_inj.1 (by omega)
   subst he
   simp [h1]
theorem xQ : ∀ (a b : Str), df a b ↔ a < b
 | a, [] => by cases a <;> simp [df, Op.bytesLess]
 | [], b :: bs => by simp [df, Op.bytesLess]
 | a :: az, b :: bs => by rw [S9, List.cons_lt_cons_iff, xQ az bs]
theorem DC {a b c : Str} (h1 : df a b) (h2 : df b c) : df a c := (xQ _ _).2 (List.lt_trans ((xQ _ _).1 h1) ((xQ _ _).1 h2))
theorem VO {a b : Str} (h1 : df a b) : ¬ df b a := fun h => cZ _ (DC h1 h)
theorem JS {a b : Str} (h1 : ¬ df a b) (h2 : ¬ df b a) : a = b := List.le_antisymm (fun hh => h2 ((xQ _ _).2 hh)) (fun hh => h1 ((xQ _ _).2 hh))
theorem Qa {a b c : Str} (h1 : ¬ df a b) (h2 : ¬ df b c) : ¬ df a c := fun h => by
 by_cases h3 : df b a
 ·exact h2 (DC h3 h)
 ·have := JS h1 h3
  subst this
  exact h2 h
theorem qo {a b : Str} : oI a b = true ↔ df (norm a) (norm b) := by
 unfold oI yO
 rw [decide_eq_true_eq]
 exact (MW _ _).1
theorem pg {a b : Str} : oI a b = false ↔ ¬ df (norm a) (norm b) := by
 rw [← qo]; simp
theorem WB : Sort.SWO oI where
 irrefl x := pg.2 (cZ _)
 trans x y z h1 h2 := qo.2 (DC (qo.1 h1) (qo.1 h2))
 ntrans x y z h1 h2 := pg.2 (Qa (pg.1 h1) (pg.1 h2))
def tZ (l : List Str) : Prop := l.Pairwise fun a b => ¬ df (norm b) (norm a)
theorem oN (l : List Str) : (dZ l).Perm l ∧ tZ (dZ l) := by
 obtain ⟨⟨h1, _, h3⟩, h4⟩ := Sort.pdq_sorts oI WB l.toArray 0 l.length (Lib.bitLen l.length) true true (Nat.zero_le _) (by simp) (Or.inl rfl)
 have hz : (Sort.pdq oI l.toArray 0 l.length (Lib.bitLen l.length) true true).size = l.length := by rw [h1]; simp
 refine ⟨?_, ?_⟩
 ·rw [Array.extract_eq_self_of_le (by omega), Array.extract_eq_self_of_le (by simp)] at h3
  exact h3
 ·unfold tZ
  rw [List.pairwise_iff_getElem]
  intro i j hi hj hij
  unfold dZ at hi hj ⊢
  simp only [Array.length_toList] at hi hj
  have := h4 i j (Nat.zero_le _) hij (by omega)
  rw [getElem!_pos _ i (by omega), getElem!_pos _ j (by omega)] at this
  rw [pg] at this
  simpa using this
theorem lW (l : List Str) : (dZ l).length = l.length := (oN l).1.length_eq
theorem KX {l : List Str} (h : tZ l) (x : Str) : tZ (wX l x) := by
 unfold tZ wX at *
 have hd : ∀ y ∈ l.dropWhile (fun y => dec (df (norm y) (norm x))), ¬ df (norm y) (norm x) := by
  intro y hy
  induction l with
  | nil => simp at hy
  | cons a l ih =>
   rw [List.dropWhile_cons] at hy
   split at hy
   ·exact ih (List.pairwise_cons.1 h).2 hy
   ·rename_i hn
    have hn' : ¬ df (norm a) (norm x) := fun h2 => hn (au h2)
    rcases List.mem_cons.1 hy with rfl | hy
    ·exact hn'
    ·exact Qa ((List.pairwise_cons.1 h).1 y hy) hn'
 have ht : ∀ y ∈ l.takeWhile (fun y => dec (df (norm y) (norm x))), df (norm y) (norm x) := fun y hy => dS.1 (List.all_eq_true.1 (List.all_takeWhile (l := l) (p := fun y => dec (df (norm y) (norm x)))) y hy)
 have hl : l = l.takeWhile (fun y => dec (df (norm y) (norm x))) ++ l.dropWhile (fun y => dec (df (norm y) (norm x))) := List.takeWhile_append_dropWhile.symm
 rw [hl] at h
 obtain ⟨h1, h2, h3⟩ := List.pairwise_append.1 h
 refine List.pairwise_append.2 ⟨h1, List.pairwise_cons.2 ⟨hd, h2⟩, fun a ha b hb => ?_⟩
 rcases List.mem_cons.1 hb with rfl | hb
 ·exact VO (ht a ha)
 ·exact h3 a ha b hb
theorem ru (l : List Str) : tZ (dw l) := by
 have : ∀ (l a : List Str), tZ a → tZ (l.foldl wX a) := by
  intro l
  induction l with
  | nil => exact fun a h => h
  | cons x l ih => exact fun a h => ih _ (KX h x)
 exact this l [] List.Pairwise.nil
def Apart (l : List Str) : Prop := (l.map norm).Nodup
theorem Apart.inj {l : List Str} (h : Apart l) {a b : Str} (ha : a ∈ l) (hb : b ∈ l) (e : norm a = norm b) : a = b := by
 unfold Apart at h
 induction l with
 | nil => cases ha
 | cons x l ih =>
  rw [List.map_cons, List.nodup_cons] at h
  rcases List.mem_cons.1 ha with rfl | ha'
  ·rcases List.mem_cons.1 hb with rfl | hb'
   ·rfl
   ·exact absurd (List.mem_map.2 ⟨b, hb', e.symm⟩) h.1
  ·rcases List.mem_cons.1 hb with rfl | hb'
   ·exact absurd (List.mem_map.2 ⟨a, ha', e⟩) h.1
   ·exact ih h.2 ha' hb'
theorem Iw {l a b : List Str} (h : Apart l) (ha : a.Perm l) (hb : b.Perm l) (ra : tZ a) (rb : tZ b) : a = b :=
 List.Perm.eq_of_pairwise (le := fun a b => ¬ df (norm b) (norm a)) (fun x y hx hy h1 h2 => h.inj (ha.subset hx) (hb.subset hy) (JS h2 h1)) ra rb (ha.trans hb.symm)
theorem Jw {l : List Str} (h : Apart l) : dZ l = dw l := Iw h (oN l).1 (mW l) (oN l).2 (ru l)
theorem mi {l : List Str} : lC l ↔ (∀ x ∈ l, aN x) ∧ Apart l ∧ l.length ≤ 4 := by
 unfold lC Apart
 rw [List.Nodup, List.pairwise_iff_getElem]
 constructor
 ·rintro ⟨h1, h2⟩
  refine ⟨fun x hx => ?_, fun i j hi hj hij => ?_, h2⟩
  ·obtain ⟨j, hj, rfl⟩ := List.getElem_of_mem hx
   exact (h1 j _ (List.getElem?_eq_getElem hj)).1
  ·simp only [List.length_map] at hi hj
   simp only [List.getElem_map]
   exact (h1 j _ (List.getElem?_eq_getElem hj)).2 i _ hij (List.getElem?_eq_getElem hi)
 ·rintro ⟨h1, h2, h3⟩
  refine ⟨fun i x hx => ⟨h1 x (List.mem_of_getElem? hx), fun j y hji hy => ?_⟩, h3⟩
  obtain ⟨hi, rfl⟩ := List.getElem?_eq_some_iff.1 hx
  obtain ⟨hj, rfl⟩ := List.getElem?_eq_some_iff.1 hy
  have := h2 j i (by simpa using hj) (by simpa using hi) hji
  simpa using this
theorem yK {l : List Str} : (l = [] ∨ aZ (dZ l)) ↔ lC l := by
 rw [mi]
 obtain ⟨hp, hr⟩ := oN l
 constructor
 ·rintro (rfl | h)
  ·exact ⟨by simp, by simp [Apart], by simp⟩
  ·obtain ⟨h1, h2, h3⟩ := h
   refine ⟨fun x hx => ?_, ?_, by rw [← hp.length_eq]; exact h3⟩
   ·obtain ⟨j, hj, rfl⟩ := List.getElem_of_mem (hp.symm.subset hx)
    exact (h1 j _ (List.getElem?_eq_getElem hj)).1
   ·unfold Apart
    refine (hp.map norm).nodup_iff.1 ?_
    have hstep : ∀ i j (hi : i < (dZ l).length) (hj : j < (dZ l).length), i < j → df (norm (dZ l)[i]) (norm (dZ l)[j]) := by
     intro i j hi hj hij
     obtain ⟨d, hd⟩ : ∃ d, j = i + 1 + d := ⟨j - i - 1, by omega⟩
     subst hd
     induction d with
     | zero => exact (h1 (i + 1) _ (List.getElem?_eq_getElem hj)).2 _ (by omega) (by rw [show i + 1 - 1 = i by omega]; exact List.getElem?_eq_getElem hi)
     | succ d ih => exact DC (ih (by omega) (by omega)) ((h1 (i + 1 + (d + 1)) _ (List.getElem?_eq_getElem hj)).2 _ (by omega) (by rw [show i + 1 + (d + 1) - 1 = i + 1 + d by omega]; exact List.getElem?_eq_getElem (by omega)))
    rw [List.Nodup, List.pairwise_iff_getElem]
    intro i j hi hj hij e
    simp only [List.length_map] at hi hj
    simp only [List.getElem_map] at e
    have := hstep i j hi hj hij
    rw [e] at this
    exact cZ _ this
 ·rintro ⟨h1, h2, h3⟩
  by_cases hl : l = []
  ·exact .inl hl
  ·refine .inr ⟨fun j x hx => ⟨h1 x (hp.subset (List.mem_of_getElem? hx)), fun y hj hy => ?_⟩, ?_, by rw [hp.length_eq]; exact h3⟩
   ·obtain ⟨hj1, hx'⟩ := List.getElem?_eq_some_iff.1 hx
    obtain ⟨hj2, hy'⟩ := List.getElem?_eq_some_iff.1 hy
    have h4 := List.pairwise_iff_getElem.1 hr (j - 1) j hj2 hj1 (by omega)
    rw [hx', hy'] at h4
    refine Classical.byContradiction fun h5 => ?_
    have h6 := JS h5 h4
    have hnd : ((dZ l).map norm).Nodup := (hp.map norm).nodup_iff.2 h2
    rw [List.Nodup, List.pairwise_iff_getElem] at hnd
    have := hnd (j - 1) j (by simpa using hj2) (by simpa using hj1) (by omega)
    simp only [List.getElem_map, hx', hy'] at this
    exact this h6
   ·rw [hp.length_eq]
    exact List.length_pos_iff.2 hl
end Go.Lite
end
section
namespace Go.Proofs.Try1
open Go Go.Lite
theorem aeV : aQ [97] := ⟨by decide, by decide, fun i c h => by
 cases i with
 | zero => cases h; exact .inl ⟨by decide, by decide⟩
 | succ i => simp at h⟩
theorem I8 {H : List Ob} {v : V} {l : List Str} (h : AStrs H v l) (hl : l.length ≤ 1048576) :
  ∃ T w, callW C 302 [v] H = some (.tup [w, .bool (dec (lC l))], H ++ T) ∧ New H.length (H ++ T).length (H ++ T) (.slice .str) [w] (.lst ((dZ l).map jl)) := by
 suffices hs : Ret C 302 [v] H fun q H' => ∃ T w, q = .tup [w, .bool (dec (lC l))] ∧ H' = H ++ T ∧ New H.length (H ++ T).length (H ++ T) (.slice .str) [w] (.lst ((dZ l).map jl)) by
  obtain ⟨q, H', hc, T, w, rfl, rfl, hr⟩ := hs
  exact ⟨T, w, hc, hr⟩
 rw [afF]
 obtain ⟨T, w, c1, hw⟩ := uV h hl
 have hmax := h.max
 have hP : ∀ args H, callW C 291 args H = fO 238 args H := fun args H => by rw [gV (show C.prim 291 = some (fO 238) from rfl)]
 rcases hw with ⟨rfl, rfl⟩ | hG
 ·have c2 : callW C 291 [.slc none 0, .fn 238 [] []] (H ++ T) = some (.tup [], H ++ T) := by rw [hP]; rfl
  have hd : dec (lC []) = true := au (yK.1 (.inl rfl))
  have hn0 : dZ [] = [] := List.length_eq_zero_iff.1 (by rw [lW]; rfl)
  have hgc : fB H (H ++ T) (.tup [.slc none 0, .bool true]) = H := jA (by simp [eY])
  simp [wu, Tryz.f302, c1, c2, hgc, hd]
  rw [hn0]
  exact New.nil
 ·obtain ⟨T', id, hT, g1, g2, rfl⟩ := hG
  have hT' := List.append_cancel_left hT
  subst hT'
  rw [List.length_map] at c1
  have hid : id < (H ++ T).length := (List.getElem?_eq_some_iff.1 g2).1
  obtain ⟨K, hK⟩ : ∃ K, K = (H ++ T).set id (.mk true 1 ((dZ l).map V.str)) := ⟨_, rfl⟩
  obtain ⟨S, hS⟩ : ∃ S, K = H ++ S := ⟨_, by rw [hK, List.set_append_right _ _ g1]⟩
  have hKg : K[id]? = some (.mk true 1 ((dZ l).map V.str)) := by rw [hK]; exact List.getElem?_set_self hid
  have hlen := lW l
  have c2 : callW C 291 [.slc (some (id, 0)) l.length, .fn 238 [] []] (H ++ T) = some (.tup [], if l.length = 0 then H ++ T else K) := by
   rw [hP]
   by_cases h0 : l.length = 0
   ·simp [fO, h0]
   ·have hst : strsOf (((l.map V.str).drop 0).take l.length) = some l := by rw [List.drop_zero, List.take_of_length_le (by simp)]; exact pX l
    have hsr : setRange (l.map V.str) 0 ((dZ l).map V.str) = (dZ l).map V.str := by
     simp [setRange, hlen]
    simp only [fO, if_true, if_neg h0, g2]
    rw [if_pos ⟨trivial, by simp, hl⟩, hst]
    simp only [hsr, hK]
  have hnK : l ≠ [] → New H.length K.length K (.slice .str) [.slc (some (id, 0)) l.length] (.lst ((dZ l).map jl)) := fun _ => by
   have hgs : Gs H K (.slc (some (id, 0)) l.length) ((dZ l).map V.str) := ⟨S, id, hS, g1, hKg, by simp [hlen]⟩
   exact hgs.new (by rw [hlen]; unfold maxLen; omega) fun s hs => hmax s ((oN l).1.subset hs)
  by_cases g : l = []
  ·subst g
   have hn0 : dZ [] = [] := List.length_eq_zero_iff.1 (by rw [lW]; rfl)
   have hd : dec (lC []) = true := au (yK.1 (.inl rfl))
   have hgc : fB H (H ++ T) (.tup [.slc (some (id, 0)) 0, .bool true]) = H ++ T := kD fun h => by
    obtain ⟨⟨own, es, cells, h⟩, _⟩ := h
    have := (List.getElem?_eq_some_iff.1 h).1
    omega
   simp at c1 c2
   simp [wu, Tryz.f302, c1, c2, hd, hgc]
   rw [hn0]
   have hgs : Gs H (H ++ T) (.slc (some (id, 0)) 0) ([].map V.str) := ⟨T, id, rfl, g1, g2, rfl⟩
   simpa using hgs.new (l := []) (by simp) (by simp)
  ·have h0 : ¬ l.length = 0 := fun h => g (List.length_eq_zero_iff.1 h)
   rw [if_neg h0] at c2
   have hn := hnK g
   have hws : AStrs K (.slc (some (id, 0)) l.length) (dZ l) := hn.at
   have c3 := QB (n := [97]) hws
   have hd : dec (lC l) = dec (aQ [97] ∧ aZ (dZ l)) := Nv ⟨fun h => ⟨aeV, (yK.2 h).resolve_left g⟩, fun h => yK.1 (.inr h.2)⟩
   rw [← hd] at c3
   have hgc : ∀ b, fB H K (.tup [.slc (some (id, 0)) l.length, .bool b]) = K := fun b => kD fun h => by
    obtain ⟨⟨own, es, cells, h⟩, _⟩ := h
    have := (List.getElem?_eq_some_iff.1 h).1
    omega
   have h0' : ¬ (l.length : Int) = 0 := by omega
   simp [wu, Tryz.f302, c1, c2, c3, h0', g, aW, ay, aH, hgc]
   exact ⟨S, hS, by rw [← List.length_append, ← hS]; exact hn⟩
def kE (m : PMod) : Prop := (1 ≤ m.kind ∧ m.kind ≤ 3) ∧ aQ m.attr ∧ lC m.vals ∧ (0 < m.vals.length ∨ m.kind = 3)
theorem J8 {H : List Ob} {w : V} {m : PMod} (hw : AStrs H w m.vals) : callW C 216 [.agg [.int .i64 m.kind, .str m.attr, w]] H = some (.bool (dec (kE m)), H) := by
 apply Ret.dec
 rw [aay]
 have how := hw.one
 have c1 := amD (n := m.kind) (a := 1) (b := 3) (H := H)
 have c2 := xM (t := m.attr) (H := H)
 have c3 := ahB hw
 by_cases g1 : 1 ≤ m.kind ∧ m.kind ≤ 3
 rotate_left
 ·rw [ak g1] at c1
  simp [oh, Tryz.f216, how, c1]
  exact fun h => g1 h.1
 rw [au g1] at c1
 by_cases g2 : aQ m.attr
 rotate_left
 ·rw [ak g2] at c2
  simp [oh, Tryz.f216, how, c1, c2]
  exact fun h => g2 h.2.1
 rw [au g2] at c2
 by_cases g3 : lC m.vals
 rotate_left
 ·rw [ak g3] at c3
  simp [oh, Tryz.f216, how, c1, c2, c3]
  exact fun h => g3 h.2.2.1
 rw [au g3] at c3
 by_cases g4 : 0 < m.vals.length
 ·have hv : kE m := ⟨g1, g2, g3, .inl g4⟩
  have g4' : ¬ m.vals = [] := fun h => by rw [h] at g4; simp at g4
  simp [oh, Tryz.f216, how, c1, c2, c3, hw.len, g4, g4', hv]
 ·have g4' : m.vals = [] := List.length_eq_zero_iff.1 (by omega)
  have g4l : m.vals.length = 0 := by omega
  by_cases g5 : m.kind = 3
  ·have hv : kE m := ⟨g1, g2, g3, .inr g5⟩
   rw [g5] at c1
   simp [oh, Tryz.f216, how, c1, c2, c3, hw.len, g4, g4l, g4', g5, hv]
  ·have hv : ¬ kE m := fun h => h.2.2.2.elim g4 g5
   simp [oh, Tryz.f216, how, c1, c2, c3, hw.len, g4, g4l, g4', g5, hv]
theorem KQ {H : List Ob} {w : V} {m : PMod} (hw : AStrs H w m.vals) (hl : m.vals.length ≤ 1048576) : callW C 221 [.agg [.int .i64 m.kind, .str m.attr, w]] H = some (.bool (dec (kE m)), H) := by
 apply Ret.dec
 rw [ZX]
 have how := hw.one
 obtain ⟨T, y, c0, ny⟩ := I8 hw hl
 have hoy := New.one1 ny
 have c1 := Df (n := m.kind) (a := 1) (b := 3) (H := H ++ T)
 have c2 := AZ (t := m.attr) (H := H ++ T)
 have hgb : ∀ b, fB H (H ++ T) (.bool b) = H := fun b => lw
 by_cases g1 : 1 ≤ m.kind ∧ m.kind ≤ 3
 rotate_left
 ·rw [ak g1] at c1
  simp [lL, Tryz.f221, how, hoy, c0, c1, hgb]
  exact fun h => g1 h.1
 rw [au g1] at c1
 by_cases g2 : aQ m.attr
 rotate_left
 ·rw [ak g2] at c2
  simp [lL, Tryz.f221, how, hoy, c0, c1, c2, hgb]
  exact fun h => g2 h.2.1
 rw [au g2] at c2
 by_cases g3 : lC m.vals
 rotate_left
 ·rw [ak g3] at c0
  simp [lL, Tryz.f221, how, hoy, c0, c1, c2, hgb]
  exact fun h => g3 h.2.2.1
 rw [au g3] at c0
 by_cases g4 : 0 < m.vals.length
 ·have hv : kE m := ⟨g1, g2, g3, .inl g4⟩
  have g4' : ¬ m.vals = [] := fun h => by rw [h] at g4; simp at g4
  by_cases g5 : m.kind = 3
  ·rw [g5] at c1
   simp [lL, Tryz.f221, how, hoy, c0, c1, c2, hgb, hw.len, g4, g4', g5, hv]
  ·simp [lL, Tryz.f221, how, hoy, c0, c1, c2, hgb, hw.len, g4, g4', g5, hv]
 ·have g4' : m.vals = [] := List.length_eq_zero_iff.1 (by omega)
  have g4l : m.vals.length = 0 := by omega
  by_cases g5 : m.kind = 3
  ·have hv : kE m := ⟨g1, g2, g3, .inr g5⟩
   rw [g5] at c1
   simp [lL, Tryz.f221, how, hoy, c0, c1, c2, hgb, hw.len, g4, g4l, g4', g5, hv]
  ·have hv : ¬ kE m := fun h => h.2.2.2.elim g4 g5
   simp [lL, Tryz.f221, how, hoy, c0, c1, c2, hgb, hw.len, g4, g4l, g4', g5, hv]
def jC (l : List PMod) : Prop := ∀ (j : Nat) x, l[j]? = some x → kE x
theorem VN {H : List Ob} {v : V} {l : List PMod} (h : lq H v l) : callW C 119 [v] H = some (.bool (dec (jC l)), H) := by
 apply Ret.dec
 rw [X4]
 have hb : l.length ≤ 9223372036854775807 := h.bound
 simp [Gh, Tryz.f119]
 refine aA (fun k σ => ∃ (i : Nat) (r : Nat → R), i + k = l.length ∧ σ = ⟨r, 0, H⟩ ∧ r 0 = .val v ∧ r 3 = .val (.int .i64 i) ∧ ∀ j x, j < i → l[j]? = some x → kE x) ?_ l.length _ ⟨0, _, by simp, rfl, by simp, by simp, by simp⟩
 rintro k σ ⟨i, r, hik, rfl, r0, r3, hall⟩
 cases k with
 | zero =>
  have hi : i = l.length := by omega
  subst hi
  have hx : jC l := fD (P := fun j (x : PMod) => kE x) hall
  simp [r0, r3, h.len, hx]
 | succ k =>
  have hi : i < l.length := by omega
  obtain ⟨x, hx⟩ : ∃ c, l[i]? = some c := ⟨l[i], by simp [hi]⟩
  have hw : IntKind.i64.wrap ((i : Int) + 1) = ((i : Int) + 1) := wrap_i64 (by omega) (by omega)
  obtain ⟨id, o, w, e1, _, lm, _, _, a1⟩ := Jo h hx
  have lm := lm []
  rw [List.append_nil] at lm
  have ho := a1.one
  have c1 := J8 a1
  by_cases g1 : kE x
  ·rw [au g1] at c1
   simp [r0, r3, hi, h.len, e1, lm, ho, c1, hw]
   exact ⟨k, by omega, i + 1, by omega, by omega, di (P := fun j (x : PMod) => kE x) hall hx g1⟩
  ·rw [ak g1] at c1
   have hn : ¬ jC l := fun hd => g1 (hd i x hx)
   simp [r0, r3, hi, h.len, e1, lm, ho, c1, hn]
theorem FK {H : List Ob} {v : V} {l : List PMod} {g : Nat} {a b : List V} (h : lq H v l) (p : PMod → Bool) (hg : ∀ x ∈ l, ∀ w, AStrs H w x.vals → callW C g (a ++ ([.agg [.int .i64 x.kind, .str x.attr, w]] ++ b)) H = some (.bool (p x), H)) :
  ∃ r : Int, callW C 301 [v, .fn g a b] H = some (.int .i64 r, H) ∧ (0 ≤ r ↔ ∃ x ∈ l, p x = true) := by
 suffices hs : Ret C 301 [v, .fn g a b] H fun q H' => (∃ r : Int, q = .int .i64 r ∧ (0 ≤ r ↔ ∃ x ∈ l, p x = true)) ∧ H' = H by
  obtain ⟨q, H', hc, ⟨r, rfl, hr⟩, rfl⟩ := hs
  exact ⟨r, hc, hr⟩
 rw [aaR]
 have hb : l.length ≤ 9223372036854775807 := h.bound
 simp [Gg, Tryz.f301, h.len]
 refine aA (fun k σ => ∃ (i : Nat) (r : Nat → R), i + k = l.length ∧ σ = ⟨r, 0, H⟩ ∧ r 0 = .val v ∧ r 1 = .val (.fn g a b) ∧ r 7 = .val (.int .i64 l.length) ∧ r 8 = .val (.int .i64 i) ∧ ∀ j x, j < i → l[j]? = some x → p x = false) ?_ l.length _ ⟨0, _, by simp, rfl, by simp, by simp, by simp, by simp, by simp⟩
 rintro k σ ⟨i, r, hik, rfl, r0, r1, r7, r8, hall⟩
 cases k with
 | zero =>
  have hi : i = l.length := by omega
  subst hi
  have hx := fD (P := fun j (x : PMod) => p x = false) hall
  simp [r0, r1, r7, r8]
  intro x hm
  obtain ⟨j, hj, rfl⟩ := List.getElem_of_mem hm
  exact hx j _ (List.getElem?_eq_getElem hj)
 | succ k =>
  have hi : i < l.length := by omega
  obtain ⟨x, hx⟩ : ∃ c, l[i]? = some c := ⟨l[i], by simp [hi]⟩
  have hw : IntKind.i64.wrap ((i : Int) + 1) = ((i : Int) + 1) := wrap_i64 (by omega) (by omega)
  obtain ⟨id, o, w, e1, _, lm, _, _, a1⟩ := Jo h hx
  have lm := lm []
  rw [List.append_nil] at lm
  have c1 := hg x (List.mem_of_getElem? hx) w a1
  simp only [List.singleton_append] at c1
  have ho1 := a1.one
  cases hp : p x with
  | false =>
   rw [hp] at c1
   simp [r0, r1, r7, r8, hi, e1, lm, c1, hw, ho1]
   exact ⟨k, by omega, i + 1, by omega, by omega, di (P := fun j (x : PMod) => p x = false) hall hx hp⟩
  | true =>
   rw [hp] at c1
   simp [r0, r1, r7, r8, hi, e1, lm, c1, hw, ho1]
   exact ⟨x, List.mem_of_getElem? hx, hp⟩
theorem O0 {H : List Ob} {v : V} {l : List PMod} (h : lq H v l) (hl : ∀ m ∈ l, m.vals.length ≤ 1048576) : callW C 124 [v] H = some (.bool (dec (jC l)), H) := by
 have c0 : ∀ x ∈ l, ∀ w, AStrs H w x.vals → callW C 220 [.agg [.int .i64 x.kind, .str x.attr, w]] H = some (.bool (!dec (kE x)), H) := fun x hx w hw => by
  apply Ret.eq
  rw [ahZ]
  have how := hw.one
  have c1 := KQ hw (hl x hx)
  simp [Ez, Tryz.f220, how, c1]
 obtain ⟨r, c1, hr⟩ := FK (g := 220) (a := []) (b := []) h (fun x => !dec (kE x)) c0
 have c2 : callW C 219 [v, .fn 220 [] []] H = some (.bool (decide (0 ≤ r)), H) := by
  apply Ret.eq
  rw [ae8]
  simp [Fe, Tryz.f219, c1]
 apply Ret.dec
 rw [Xw]
 by_cases g : jC l
 ·have : ¬ 0 ≤ r := fun h0 => by
   obtain ⟨x, hx, hp⟩ := hr.1 h0
   obtain ⟨j, hj, rfl⟩ := List.getElem_of_mem hx
   rw [au (g j _ (List.getElem?_eq_getElem hj))] at hp
   cases hp
  simp [zh, Tryz.f124, c2, this, g]
 ·have : 0 ≤ r := by
   refine Classical.byContradiction fun h0 => g fun j x hx => ?_
   refine Classical.byContradiction fun hn => h0 (hr.2 ⟨x, List.mem_of_getElem? hx, by rw [ak hn]; rfl⟩)
  simp [zh, Tryz.f124, c2, this, g]
end Go.Proofs.Try1
end
section
namespace Go.Lite
open Go
variable {H T : List Ob}
mutual
theorem At.one_datum : ∀ (sh : Sh) {cs : List V} {u u' : U}, At H sh cs u → At H sh cs u' → u = u'
 | .int k, _, _, _, h, h' => by
  simp only [At] at h h'
  obtain ⟨n, rfl, rfl, _⟩ := h
  obtain ⟨n', e, rfl, _⟩ := h'
  cases e; rfl
 | .bool, _, _, _, h, h' => by
  simp only [At] at h h'
  obtain ⟨n, rfl, rfl⟩ := h
  obtain ⟨n', e, rfl⟩ := h'
  cases e; rfl
 | .str, _, _, _, h, h' => by
  simp only [At] at h h'
  obtain ⟨n, rfl, rfl, _⟩ := h
  obtain ⟨n', e, rfl, _⟩ := h'
  cases e; rfl
 | .slice e, _, _, _, h, h' => by
  simp only [At] at h h'
  obtain ⟨v, l, rfl, rfl, _, h⟩ := h
  obtain ⟨v', l', hv, rfl, _, h'⟩ := h'
  cases hv
  congr 1
  rcases h with ⟨rfl, rfl⟩ | ⟨id, off, own, cells, rfl, h2, h3, h4⟩
  ·rcases h' with ⟨_, rfl⟩ | ⟨id, off, own, cells, e, _⟩
   ·rfl
   ·cases e
  ·rcases h' with ⟨e, _⟩ | ⟨id', off', own', cells', e, g2, g3, g4⟩
   ·cases e
   ·simp only [V.slc.injEq, Option.some.injEq, Prod.mk.injEq] at e
    obtain ⟨⟨rfl, rfl⟩, hl⟩ := e
    rw [h2] at g2
    cases g2
    refine List.ext_getElem hl fun i h1 h5 => ?_
    exact At.one_datum e (h4 i _ (List.getElem?_eq_getElem h1)) (g4 i _ (List.getElem?_eq_getElem h5))
 | .st fs, _, _, _, h, h' => by
  simp only [At] at h h'
  obtain ⟨us, rfl, h⟩ := h
  obtain ⟨us', rfl, h'⟩ := h'
  rw [Ats.one_datum fs h h']
theorem Ats.one_datum : ∀ (fs : List Sh) {cs : List V} {us us' : List U}, Ats H fs cs us → Ats H fs cs us' → us = us'
 | [], _, _, _, h, h' => by simp only [Ats] at h h'; rw [h.2, h'.2]
 | f :: fs, _, _, _, h, h' => by
  simp only [Ats] at h h'
  obtain ⟨c1, c2, u, us, rfl, rfl, h1, h2⟩ := h
  obtain ⟨d1, d2, u', us', e, rfl, g1, g2⟩ := h'
  have hl : c1.length = d1.length := by rw [At.len f h1, At.len f g1]
  obtain ⟨rfl, rfl⟩ := List.append_inj e hl
  rw [At.one_datum f h1 g1, Ats.one_datum fs h2 g2]
end
theorem qp {p : Option (Nat × Nat)} {n : Nat} (h : eY H (.slc p n)) : eY (H ++ T) (.slc p n) := by
 cases p with
 | none => trivial
 | some q =>
  obtain ⟨id, off⟩ := q
  obtain ⟨own, es, cells, h⟩ := h
  exact ⟨own, es, cells, aS _ _ h⟩
theorem ASl.shape {α : Type} {sh : Sh} {f : α → U} {v : V} {l : List α} (h : ASl H sh f v l) : ∃ p, v = .slc p l.length := by
 rcases h.sub with ⟨rfl, rfl⟩ | ⟨id, off, own, cells, rfl, _⟩ <;> exact ⟨_, rfl⟩
theorem Cc {G G' : List Ob} {r : V} (h : ¬ Ext G G') : fB G G' r = G' := by
 unfold fB
 rw [if_neg fun hc => h hc.1]
end Go.Lite
end
section
namespace Go.Proofs.Try1
open Go Go.Lite
noncomputable def jR (e : PEntry) (n v : Str) : PEntryOut :=
 if ∃ x ∈ valsOf e.attrs n, norm x = norm v then lJ 7 else if 4 ≤ (valsOf e.attrs n).length ∨ (valsOf e.attrs n = [] ∧ 8 ≤ e.attrs.length) then lJ 9 else ⟨xy e n (dw (valsOf e.attrs n ++ [v])), 0⟩
theorem P7 {H : List Ob} {w : V} {l : List Str} {v : Str} (hw : AStrs H w l) (hl : l.length ≤ 1000) (hv : v.length ≤ maxLen) :
  ∃ p1 X1, bI ⟨.str, 1, 16, [.str []]⟩ (H ++ [.mk true 1 [], .dead]) (.slc (some (H.length, 0)) 0) w = some (p1, H ++ X1) ∧ kF [1] 0 [.mk true 1 [], .mk true 1 [.str v]] X1 = X1.set 1 (.mk true 1 [.str v]) ∧ 2 ≤ X1.length ∧ aP p1 = true ∧ cellsOf p1 = some [p1] ∧
   ∃ p2 X2, bI ⟨.str, 1, 16, [.str []]⟩ (H ++ X1.set 1 (.mk true 1 [.str v])) p1 (.slc (some (H.length + 1, 0)) 1) = some (p2, H ++ X2) ∧ X1.length ≤ X2.length ∧ AStrs (H ++ X2) p2 (l ++ [v]) := by
 obtain ⟨p, rfl, hc, hp, _⟩ := kP (T := [.mk true 1 [], .dead]) hw
 have hmx := hw.max
 have fin : ∀ (X : List Ob) (id : Nat), H.length ≤ id → (H ++ X)[id]? = some (.mk true 1 ((l ++ [v]).map V.str)) → AStrs (H ++ X) (.slc (some (id, 0)) (l.length + 1)) (l ++ [v]) := fun X id h1 h2 => by
  have hg : Gs H (H ++ X) (.slc (some (id, 0)) (l.length + 1)) ((l ++ [v]).map V.str) := ⟨X, id, rfl, h1, h2, by simp⟩
  refine (hg.strs (by simp [maxLen]; omega) fun s hs => ?_).1
  rcases List.mem_append.1 hs with h | h
  ·exact hmx s h
  ·rw [List.mem_singleton.1 h]; exact hv
 by_cases h0 : l.length = 0
 ·have hl0 : l = [] := List.length_eq_zero_iff.1 h0
  subst hl0
  refine ⟨.slc (some (H.length, 0)) 0, [.mk true 1 [], .dead], ?_, rfl, by simp, rfl, rfl, ?_⟩
  ·unfold bI
   simp [gW, aU, bH]
   cases p <;> simp
  ·have e : [Ob.mk true 1 [], .dead].set 1 (.mk true 1 [.str v]) = [.mk true 1 [], .mk true 1 [.str v]] := rfl
   rw [e]
   have hr : (H ++ [Ob.mk true 1 [], Ob.mk true 1 [.str v]])[H.length]? = some (.mk true 1 []) := by simp
   have hx : aU ⟨.str, 1, 16, [.str []]⟩ (H ++ [Ob.mk true 1 [], Ob.mk true 1 [.str v]]) (.slc (some (H.length + 1, 0)) 1) = some ([.str v], 1) := by
    simp [aU, bH, nI, eP]
   have := gJ (n := 0) (by rfl) (by decide) (by decide) (by decide) hr (by simp) hx (by decide) (by rfl) (by simp [aK])
   refine ⟨.slc (some (H.length + 2, 0)) 1, [.dead, .mk true 1 [.str v], .mk true 1 [.str v]], by rw [this]; simp, by simp, ?_⟩
   have := fin [.dead, .mk true 1 [.str v], .mk true 1 [.str v]] (H.length + 2) (by omega) (by rw [nI]; rfl)
   simpa using this
 ·have hm : aU ⟨.str, 1, 16, [.str []]⟩ (H ++ [Ob.mk true 1 [], .dead]) (.slc p l.length) = some (l.map V.str, l.length) := by
   simp [aU, hc]
  have hr : (H ++ [Ob.mk true 1 [], .dead])[H.length]? = some (.mk true 1 []) := by simp
  have ha := gJ (n := 0) (by rfl) (by decide) (by decide) (by decide) hr (by simp) hm h0 (by simp [aP]) (by unfold aK; omega)
  refine ⟨.slc (some (H.length + 2, 0)) l.length, [.dead, .dead, .mk true 1 (l.map V.str)], by rw [ha]; simp, rfl, by simp, rfl, rfl, ?_⟩
  have e : [Ob.dead, .dead, .mk true 1 (l.map V.str)].set 1 (.mk true 1 [.str v]) = [.dead, .mk true 1 [.str v], .mk true 1 (l.map V.str)] := rfl
  rw [e]
  have hr2 : (H ++ [Ob.dead, Ob.mk true 1 [.str v], .mk true 1 (l.map V.str)])[H.length + 2]? = some (.mk true 1 (l.map V.str)) := by rw [nI]; rfl
  have hx : aU ⟨.str, 1, 16, [.str []]⟩ (H ++ [Ob.dead, Ob.mk true 1 [.str v], .mk true 1 (l.map V.str)]) (.slc (some (H.length + 1, 0)) 1) = some ([.str v], 1) := by
   simp [aU, bH, nI, eP]
  have h2 := gJ (n := l.length) (by rfl) (by decide) (by decide) (by decide) hr2 (by simp) hx (by decide) (by rfl) (by unfold aK; omega)
  refine ⟨.slc (some (H.length + 3, 0)) (l.length + 1), [.dead, .mk true 1 [.str v], .dead, .mk true 1 ((l ++ [v]).map V.str)], by rw [h2]; simp [ut], by simp, ?_⟩
  have := fin [.dead, .mk true 1 [.str v], .dead, .mk true 1 ((l ++ [v]).map V.str)] (H.length + 3) (by omega) (by rw [nI]; rfl)
  simpa using this
theorem aeQ {H : List Ob} {vd va : V} {e : PEntry} {n v : Str} (hd : dK H vd e.dn) (ha : bK H va e.attrs) (hb : qQ e) (hp : e.attrs.Pairwise fun a b => a.name < b.name) (hn : n.length ≤ maxLen) (hv : v.length ≤ maxLen) (hvl : ∀ a ∈ e.attrs, a.vals.length ≤ 500) :
  ∃ q H', callW C 204 [.agg [vd, va], .str n, .str v] H = some (q, H') ∧ EOut H (jR e n v) q H' := by
 suffices hs : Ret C 204 [.agg [vd, va], .str n, .str v] H fun q H' => EOut H (jR e n v) q H' by
  obtain ⟨q, H', hc, hr⟩ := hs
  exact ⟨q, H', hc, hr⟩
 rw [ada]
 have hod := hd.one
 have hoa := ha.one
 obtain ⟨w, c1, hw⟩ := UH (t := n) ha hod.2 hod.1
 have hwl : (valsOf e.attrs n).length ≤ 500 := by
  unfold valsOf
  split
  ·rename_i a h; exact hvl a (List.mem_of_find?_eq_some h)
  ·simp
 have c2 := jJ (t := v) (H := H)
 obtain ⟨r, c3, hr⟩ := UI (n := norm v) hw
 have c4 := MI (H := H) (c := 7)
 have c5 := MI (H := H) (c := 9)
 rcases hr with ⟨k, x, h1, h2, h3, rfl⟩ | ⟨h1, rfl⟩
 ·have ho : jR e n v = lJ 7 := if_pos ⟨x, List.mem_of_getElem? h1, by simpa using h2⟩
  have hk : (0 : Int) ≤ k := by omega
  rw [ho]
  simp [qB, Tryz.f204, c1, c2, c3, c4, hk, hod, hoa]
  exact EOut.ill (by decide)
 have hno : ¬ ∃ x ∈ valsOf e.attrs n, norm x = norm v := by
  rintro ⟨x, hx, he⟩
  obtain ⟨j, hj, rfl⟩ := List.getElem_of_mem hx
  have := h1 j _ (List.getElem?_eq_getElem hj)
  simp [he] at this
 by_cases g : 4 ≤ (valsOf e.attrs n).length ∨ (valsOf e.attrs n = [] ∧ 8 ≤ e.attrs.length)
 ·have ho : jR e n v = lJ 9 := by unfold jR; rw [if_neg hno, if_pos g]
  rw [ho]
  by_cases g1 : 4 ≤ (valsOf e.attrs n).length
  ·have g1' : (4 : Int) ≤ (valsOf e.attrs n).length := by omega
   simp [qB, Tryz.f204, c1, c2, c3, c5, hod, hoa, hw.len, g1']
   exact EOut.ill (by decide)
  ·have g1' : ¬ (4 : Int) ≤ (valsOf e.attrs n).length := by omega
   obtain ⟨g2, g3⟩ := g.resolve_left g1
   have g2' : (valsOf e.attrs n).length = 0 := by rw [g2]; rfl
   have g3' : (8 : Int) ≤ e.attrs.length := by omega
   simp [qB, Tryz.f204, c1, c2, c3, c5, hod, hoa, hw.len, g1', g2, g3', ha.len]
   exact EOut.ill (by decide)
 have g1 : ¬ 4 ≤ (valsOf e.attrs n).length := fun h => g (.inl h)
 have g1' : ¬ (4 : Int) ≤ (valsOf e.attrs n).length := by omega
 have ho : jR e n v = ⟨xy e n (dw (valsOf e.attrs n ++ [v])), 0⟩ := by unfold jR; rw [if_neg hno, if_neg g]
 obtain ⟨p1, X1, a1, x0, x1, o1, o1', p2, X2, a2, x2, hv2⟩ := P7 (v := v) hw (by omega) hv
 obtain ⟨T, w1, w2, c6, hat, hnl⟩ := SQ (H := H ++ X2) hd.ext ha.ext hb hp hn hv2 (by simp; omega)
 obtain ⟨v1, v2, hcs, b1, b2⟩ := iw.1 hat
 cases hcs
 have ho1 := b1.one
 have ho2 := b2.one
 have hnl' : ¬ eY H w2 := fun h => hnl (by
  obtain ⟨p, rfl⟩ := b2.shape
  exact qp h)
 have hgc : fB H (H ++ X2 ++ T) (.agg [w1, w2, .int .i64 0]) = H ++ X2 ++ T := by
  rw [List.append_assoc]
  exact kD fun h => hnl' h.2.1
 rw [ho]
 have fin : EOut H ⟨xy e n (dw (valsOf e.attrs n ++ [v])), 0⟩ (.agg [w1, w2, .int .i64 0]) (H ++ X2 ++ T) := ⟨X2 ++ T, w1, w2, rfl, by simp, by rw [← List.append_assoc]; exact fU.2 ⟨_, _, rfl, b1, b2, show (Lit.int .i64 0).wf = true by decide⟩, by rw [← List.append_assoc]; exact hgc, fun _ => hnl', fun h => absurd rfl h⟩
 have hk1 : fP [1] H.length (H ++ [.mk true 1 [], .mk true 1 [.str v]]) = H ++ [.mk true 1 [], .dead] := by rw [Pi]; rfl
 have op2 : aP p2 = true ∧ cellsOf p2 = some [p2] := hv2.one
 simp only [List.append_assoc] at hgc fin c6
 by_cases g2 : valsOf e.attrs n = []
 ·have g3 : ¬ (8 : Int) ≤ e.attrs.length := fun h => g (.inr ⟨g2, by omega⟩)
  have g2' : ((valsOf e.attrs n).length : Int) = 0 := by rw [g2]; rfl
  simp [qB, Tryz.f204, c1, c2, c3, hod, hoa, hw.len, ha.len, g1', g2', g3, af, ai, List.lookup, List.replicate, aJ, aH, ax, ut, CJ, hk1, CB, BR, Dl, x0, a1, a2, o1, o1', op2, x1, x2, c6, ho1, ho2, aW, ay, hgc]
  exact fin
 ·have g2' : ¬ ((valsOf e.attrs n).length : Int) = 0 := fun h => g2 (List.length_eq_zero_iff.1 (by omega))
  simp [qB, Tryz.f204, c1, c2, c3, hod, hoa, hw.len, ha.len, g1', g2, g2', af, ai, List.lookup, List.replicate, aJ, aH, ax, ut, CJ, hk1, CB, BR, Dl, x0, a1, a2, o1, o1', op2, x1, x2, c6, ho1, ho2, aW, ay, hgc]
  exact fin
theorem O4 {G : List Ob} {ide : Nat} {vd va vv : V} {l : List PAttr} {n : Str} {vs : List Str} {F Fv : List Nat} (he : G[ide]? = some (.mk true 2 [vd, va])) (hA : AtF G (.slice shAttr) [va] (.lst (l.map PAttr.u)) F) (hn : F.Nodup) (hide : ide ∉ F) (hl : l.length ≤ 1000) (hp : l.Pairwise fun a b => a.name < b.name) (hnm : n.length ≤ maxLen)
  (hV : AtF G (.slice .str) [vv] (.lst (vs.map jl)) Fv) (hVn : Fv.Nodup) (hVF : ∀ q ∈ Fv, q ∉ F ∧ q ≠ ide) :
  ∃ code G', callW C 303 [.ptr (some (ide, 0)), .str n, vv] G = some (.int .i64 code, G') ∧ code = (if vs ≠ [] ∧ l.length = 8 ∧ bT PAttr.name l n = none then 9 else 0) ∧ (code ≠ 0 → G' = G) ∧ (code = 0 → ∃ va' F', G'[ide]? = some (.mk true 2 [vd, va']) ∧ AtF G' (.slice shAttr) [va'] (.lst ((bC l n vs).map PAttr.u)) F' ∧ F'.Nodup ∧ ide ∉ F' ∧
   (∀ q ∈ F', q ∈ F ∨ q ∈ Fv ∨ G.length ≤ q) ∧ (∀ q, q < G.length → q ∉ F → q ≠ ide → G'[q]? = G[q]?) ∧ G.length ≤ G'.length ∧ ∀ r, fB G G' r = G') := by
 suffices hs : Ret C 303 [.ptr (some (ide, 0)), .str n, vv] G fun q G' => ∃ code, q = .int .i64 code ∧ code = (if vs ≠ [] ∧ l.length = 8 ∧ bT PAttr.name l n = none then 9 else 0) ∧ (code ≠ 0 → G' = G) ∧ (code = 0 → ∃ va' F', G'[ide]? = some (.mk true 2 [vd, va']) ∧ AtF G' (.slice shAttr) [va'] (.lst ((bC l n vs).map PAttr.u)) F' ∧ F'.Nodup ∧ ide ∉ F' ∧
   (∀ q ∈ F', q ∈ F ∨ q ∈ Fv ∨ G.length ≤ q) ∧ (∀ q, q < G.length → q ∉ F → q ≠ ide → G'[q]? = G[q]?) ∧ G.length ≤ G'.length ∧ ∀ r, fB G G' r = G') by
  obtain ⟨q, G', hc, code, rfl, hr⟩ := hs
  exact ⟨code, G', hc, hr⟩
 rw [aad]
 have ha : bK G va l := AtF.at _ hA
 have hvS : AStrs G vv vs := AtF.at _ hV
 obtain ⟨i, ok, c1, hil, h1, h2, hok⟩ := MX (t := n) he ha hl hp
 have ld := aY (o := 1) (v := va) he rfl
 have hfo : ok = false ↔ bT PAttr.name l n = none := by
  cases ok with
  | true =>
   obtain ⟨a, ha1, ha2⟩ := hok.1 rfl
   rw [qI hp ha1 ha2]
   simp
  | false =>
   refine ⟨fun _ => uB fun a ha1 ha2 => ?_, fun _ => rfl⟩
   obtain ⟨q, hq, rfl⟩ := List.getElem_of_mem ha1
   have hqe := List.getElem?_eq_getElem hq
   rcases Nat.lt_trichotomy q i with hh | hh | hh
   ·exact cZ n (by have := h1 q _ hh hqe; rwa [ha2] at this)
   ·subst hh
    have := hok.2 ⟨_, hqe, ha2⟩
    cases this
   ·have h3 := List.pairwise_iff_getElem.1 hp i q (by omega) hq hh
    rw [ha2] at h3
    exact h2 i _ (Nat.le_refl _) (List.getElem?_eq_getElem (by omega)) ((bD _ _).2 h3)
 obtain ⟨G', va', F', c2, hrest⟩ := Ro he hA hn hide hl hp hnm hV hVn hVF
 have hgc := hrest.2.2.2.2.2.2.2
 by_cases g : vs ≠ [] ∧ l.length = 8 ∧ bT PAttr.name l n = none
 ·have hz : 0 < vs.length := List.length_pos_iff.2 g.1
  have hok0 := hfo.2 g.2.2
  subst hok0
  have h8 : (l.length : Int) = 8 := by omega
  rw [if_pos g]
  simp [sF, Tryz.f303, c1, hvS.len, ha.len, hz, ld, h8, kK]
 ·rw [if_neg g]
  have fin : ∃ va' F', G'[ide]? = some (.mk true 2 [vd, va']) ∧ AtF G' (.slice shAttr) [va'] (.lst ((bC l n vs).map PAttr.u)) F' ∧ F'.Nodup ∧ ide ∉ F' ∧ (∀ q ∈ F', q ∈ F ∨ q ∈ Fv ∨ G.length ≤ q) ∧ (∀ q, q < G.length → q ∉ F → q ≠ ide → G'[q]? = G[q]?) ∧ G.length ≤ G'.length ∧ ∀ r, fB G G' r = G' := ⟨va', F', hrest⟩
  by_cases gv : vs = []
  ·subst gv
   cases ok <;>
   ·simp [sF, Tryz.f303, c1, c2, hvS.len, ha.len, ld, hgc]
    simpa [hgc] using fin
  ·have hz : 0 < vs.length := List.length_pos_iff.2 gv
   cases ok with
   | true =>
    simp [sF, Tryz.f303, c1, c2, hvS.len, ha.len, hz, ld, hgc]
    simpa [hgc] using fin
   | false =>
    have h8 : ¬ (l.length : Int) = 8 := fun h => g ⟨gv, by omega, hfo.1 rfl⟩
    simp [sF, Tryz.f303, c1, c2, hvS.len, ha.len, hz, ld, h8, hgc]
    simpa [hgc] using fin

theorem Ij {l : List PAttr} {n : Str} {vs : List Str} (hp : l.Pairwise fun a b => a.name < b.name) (hv : vs ≠ []) (h : bC l n vs = l) : valsOf l n = vs := by
 have hm : (⟨n, vs⟩ : PAttr) ∈ l := by
  rw [← h]
  unfold bC
  simp [hv]
 obtain ⟨i, hi, he⟩ := List.getElem_of_mem hm
 have := qI (key := PAttr.name) (t := n) hp (List.getElem?_eq_getElem hi) (by rw [he])
 unfold valsOf
 rw [this, he]
theorem CP {l : List Str} {v : Str} (h : aZ l ∨ l = []) (hn : ¬ ∃ x ∈ l, norm x = norm v) : Go.Lite.Apart (l ++ [v]) := by
 unfold Go.Lite.Apart
 rw [List.map_append, List.nodup_append]
 refine ⟨?_, by simp, fun a ha b hb e => ?_⟩
 ·rcases h with h | rfl
  ·have := gB (key := norm) (fun j x hx => (h.1 j x hx).2)
   exact List.pairwise_map.2 (this.imp fun h e => by rw [e] at h; exact List.lt_irrefl _ h)
  ·simp
 ·obtain ⟨x, hx, rfl⟩ := List.mem_map.1 ha
  have : b = norm v := by simpa using hb
  exact hn ⟨x, hx, by rw [e, this]⟩
theorem VI {G : List Ob} {ide : Nat} {vd va : V} {l : List PAttr} {n v : Str} {F : List Nat} (he : G[ide]? = some (.mk true 2 [vd, va])) (hA : AtF G (.slice shAttr) [va] (.lst (l.map PAttr.u)) F) (hn : F.Nodup) (hide : ide ∉ F) (hl : l.length ≤ 8) (hp : l.Pairwise fun a b => a.name < b.name) (hnm : n.length ≤ maxLen)
  (hvm : v.length ≤ maxLen) (hvk : aN v) (hok : ∀ a ∈ l, aZ a.vals) :
  ∃ code G', callW C 212 [.ptr (some (ide, 0)), .str n, .str v] G = some (.int .i64 code, G') ∧
   code = (if ∃ x ∈ valsOf l n, norm x = norm v then 7 else if 4 ≤ (valsOf l n).length ∨ (valsOf l n = [] ∧ 8 ≤ l.length) then 9 else 0) ∧ (code ≠ 0 → G' = G) ∧
   (code = 0 → ∃ va' F', G'[ide]? = some (.mk true 2 [vd, va']) ∧ AtF G' (.slice shAttr) [va'] (.lst ((bC l n (dw (valsOf l n ++ [v]))).map PAttr.u)) F' ∧ F'.Nodup ∧ ide ∉ F' ∧
   (∀ q ∈ F', q ∈ F ∨ G.length ≤ q) ∧ (∀ q, q < G.length → q ∉ F → q ≠ ide → G'[q]? = G[q]?) ∧ G.length ≤ G'.length ∧ ¬ Ext G G') := by
 suffices hs : Ret C 212 [.ptr (some (ide, 0)), .str n, .str v] G fun q G' => ∃ code, q = .int .i64 code ∧
   code = (if ∃ x ∈ valsOf l n, norm x = norm v then 7 else if 4 ≤ (valsOf l n).length ∨ (valsOf l n = [] ∧ 8 ≤ l.length) then 9 else 0) ∧ (code ≠ 0 → G' = G) ∧
   (code = 0 → ∃ va' F', G'[ide]? = some (.mk true 2 [vd, va']) ∧ AtF G' (.slice shAttr) [va'] (.lst ((bC l n (dw (valsOf l n ++ [v]))).map PAttr.u)) F' ∧ F'.Nodup ∧ ide ∉ F' ∧
   (∀ q ∈ F', q ∈ F ∨ G.length ≤ q) ∧ (∀ q, q < G.length → q ∉ F → q ≠ ide → G'[q]? = G[q]?) ∧ G.length ≤ G'.length ∧ ¬ Ext G G') by
  obtain ⟨q, G', hc, code, rfl, hr⟩ := hs
  exact ⟨code, G', hc, hr⟩
 rw [ae7]
 have ha : bK G va l := AtF.at _ hA
 have hidel : ide < G.length := (List.getElem?_eq_some_iff.1 he).1
 have ld := aY (o := 1) (v := va) he rfl
 obtain ⟨w, c1, hw⟩ := qY (t := n) he ha (by omega) hp
 have c2 := jG (t := v) (H := G)
 have c3 := P5 (t := n) (n := norm v) he ha (by omega) hp
 have hvok : aZ (valsOf l n) ∨ valsOf l n = [] := by
  unfold valsOf
  split
  ·rename_i a h; exact .inl (hok a (List.mem_of_find?_eq_some h))
  ·exact .inr rfl
 have hvl : (valsOf l n).length ≤ 4 := by
  rcases hvok with h | h
  ·exact h.2.2
  ·rw [h]; simp
 by_cases g1 : ∃ x ∈ valsOf l n, norm x = norm v
 ·rw [au (show nV l n (norm v) from ⟨hvk.2.2, g1⟩)] at c3
  rw [if_pos g1]
  simp [qj, Tryz.f212, c1, c2, c3, kK]
 rw [ak (show ¬ nV l n (norm v) from fun h => g1 h.2)] at c3
 rw [if_neg g1]
 by_cases g2 : 4 ≤ (valsOf l n).length ∨ (valsOf l n = [] ∧ 8 ≤ l.length)
 ·rw [if_pos g2]
  by_cases g3 : 4 ≤ (valsOf l n).length
  ·have g3' : ((valsOf l n).length : Int) = 4 := by omega
   simp [qj, Tryz.f212, c1, c2, c3, hw.len, g3', kK]
  ·have g3' : ¬ ((valsOf l n).length : Int) = 4 := by omega
   obtain ⟨g4, g5⟩ := g2.resolve_left g3
   have g5' : (l.length : Int) = 8 := by omega
   have g4' : (valsOf l n).length = 0 := by rw [g4]; rfl
   simp [qj, Tryz.f212, c1, c2, c3, hw.len, g4, ld, ha.len, g5', kK]
 rw [if_neg g2]
 have g3' : ¬ ((valsOf l n).length : Int) = 4 := by omega
 obtain ⟨T1, y, c4, hy⟩ := uV hw (by omega)
 have hmx := hw.max
 have hgs : ∃ y2 G2, bI ⟨.str, 1, 16, [.str []]⟩ (G ++ T1 ++ [.mk true 1 [.str v]]) y (.slc (some ((G ++ T1).length, 0)) 1) = some (y2, G2) ∧ Gs G G2 y2 ((valsOf l n ++ [v]).map V.str) := by
  rcases hy with ⟨rfl, h0⟩ | hG
  ·rw [h0]
   refine ⟨_, _, og (m := 1) (by rfl) (by decide) (by decide) (by decide) (qi (c := [.str v]) (by simp)) (by decide) (by rfl) (by simp [aK]), ⟨T1 ++ [.mk true 1 [.str v]] ++ [.mk true 1 [.str v]], (G ++ T1 ++ [Ob.mk true 1 [.str v]]).length, by simp, by simp, by rw [get_last]; rfl, by simp⟩⟩
  ·obtain ⟨v', G', h1, h2⟩ := hG.push (x := .str v) (z := [.str []]) (d := .str) (b := 16) rfl (by simp [aK]; omega) (by decide) (by decide) rfl
   exact ⟨v', G', h1, by simpa using h2⟩
 obtain ⟨y2, G2, a1, hG2⟩ := hgs
 obtain ⟨T2, id, hT2, q1, q2, hy2⟩ := hG2
 have hyo : aP y = true ∧ cellsOf y = some [y] := by
  rcases hy with ⟨rfl, _⟩ | hG
  ·exact ⟨rfl, rfl⟩
  ·exact hG.one
 have hP : ∀ args H, callW C 291 args H = fO 238 args H := fun args H => by rw [gV (show C.prim 291 = some (fO 238) from rfl)]
 obtain ⟨L, hL⟩ : ∃ L, L = valsOf l n ++ [v] := ⟨_, rfl⟩
 rw [← hL] at q2 hy2
 have hLl : L.length = (valsOf l n).length + 1 := by rw [hL]; simp
 have hlen := lW L
 have hid : id < G2.length := (List.getElem?_eq_some_iff.1 q2).1
 obtain ⟨K, hK⟩ : ∃ K, K = G2.set id (.mk true 1 ((dZ L).map V.str)) := ⟨_, rfl⟩
 have hKg : K[id]? = some (.mk true 1 ((dZ L).map V.str)) := by rw [hK]; exact List.getElem?_set_self hid
 have c5 : callW C 291 [y2, .fn 238 [] []] G2 = some (.tup [], K) := by
  rw [hP, hy2]
  have h0 : ¬ (L.map V.str).length = 0 := by simp [hLl]
  have hst : strsOf (((L.map V.str).drop 0).take (L.map V.str).length) = some L := by rw [List.drop_zero, List.take_of_length_le (by simp)]; exact pX L
  have hsr : setRange (L.map V.str) 0 ((dZ L).map V.str) = (dZ L).map V.str := by
   simp [setRange, hlen]
  simp only [fO, if_true, if_neg h0, q2]
  rw [if_pos ⟨trivial, by simp, by simp; omega⟩, hst]
  simp only [hsr, hK]
 have hns : dZ L = dw L := Jw (by rw [hL]; exact CP hvok g1)
 have hKpre : ∃ S, K = G ++ S := ⟨_, by rw [hK, hT2, List.set_append_right _ _ q1]⟩
 obtain ⟨S, hS⟩ := hKpre
 have hKs : Gs G K y2 ((dw L).map V.str) := ⟨S, id, hS, q1, by rw [← hns]; exact hKg, by rw [hy2, ← hns]; simp [hlen]⟩
 obtain ⟨hKstr, id', hKF, hid'⟩ := hKs.strs (by have := jW L; unfold maxLen; omega) (fun s hs => by
  have := (mW L).subset hs
  rw [hL] at this
  rcases List.mem_append.1 this with h | h
  ·exact hmx s h
  ·rw [List.mem_singleton.1 h]; exact hvm)
 have heK : K[ide]? = some (.mk true 2 [vd, va]) := by rw [hS]; exact aS _ _ he
 have hAK : AtF K (.slice shAttr) [va] (.lst (l.map PAttr.u)) F := by rw [hS]; exact hA.ext
 have hFl : ∀ q ∈ F, q < G.length := AtF.mem _ hA
 have hsv : dw L ≠ [] := fun h => by have := jW L; rw [h] at this; simp at this; omega
 obtain ⟨G', va', F', c6, r1, r2, r3, r4, r5, r6, r7, r8⟩ := Ro (n := n) heK hAK hn hide (by omega) hp hnm hKF (by simp) (fun q hq => by
  obtain rfl := List.mem_singleton.1 hq
  exact ⟨fun h => by have := hFl q h; omega, fun e => by omega⟩)
 have hKlen : G.length ≤ K.length := by rw [hS]; simp
 have hext : ¬ Ext G G' := by
  rintro ⟨R, rfl⟩
  have e1 := r1
  rw [aS _ _ he] at e1
  cases e1
  have := At.one_datum _ (AtF.at _ r2) (ha.at.ext (T := R))
  simp only [U.lst.injEq] at this
  have hinj : (bC l n (dw L)) = l := by
   refine (List.map_inj_right (fun a b h => ?_)).1 this
   cases a; cases b
   simp only [PAttr.u, U.st.injEq, List.cons.injEq, U.str.injEq, U.lst.injEq, and_true] at h
   obtain ⟨rfl, h⟩ := h
   congr 1
   exact (List.map_inj_right (fun a b h => by cases h; rfl)).1 h
  have := Ij hp hsv hinj
  have h2 := congrArg List.length this
  rw [jW] at h2
  omega
 have hgc := Cc (r := .int .i64 0) hext
 have o2 : aP y2 = true ∧ cellsOf y2 = some [y2] := by rw [hy2]; exact ⟨rfl, rfl⟩
 have fin : ∃ va' F', G'[ide]? = some (.mk true 2 [vd, va']) ∧ AtF G' (.slice shAttr) [va'] (.lst ((bC l n (dw L)).map PAttr.u)) F' ∧ F'.Nodup ∧ ide ∉ F' ∧
   (∀ q ∈ F', q ∈ F ∨ G.length ≤ q) ∧ (∀ q, q < G.length → q ∉ F → q ≠ ide → G'[q]? = G[q]?) ∧ G.length ≤ G'.length ∧ ¬ Ext G G' :=
  ⟨va', F', r1, r2, r3, r4, fun q hq => by
   rcases r5 q hq with h | h | h
   ·exact .inl h
   ·exact .inr (by have := List.mem_singleton.1 h; omega)
   ·exact .inr (by omega), fun q h1 h2 h3 => by rw [r6 q (by omega) h2 h3, hS, List.getElem?_append_left h1], by omega, hext⟩
 rw [hL] at fin
 by_cases g4 : valsOf l n = []
 ·have g5 : ¬ (l.length : Int) = 8 := fun h => g2 (.inr ⟨g4, by omega⟩)
  simp only [List.append_assoc, List.length_append] at a1
  simp [-dP, qj, Tryz.f212, c1, c2, c3, hw.len, g4, ld, ha.len, g5, c4, hyo, o2, aJ, aH, ax, St.new, a1, c5, c6, hgc]
  simpa [g4] using fin
 ·have g5 : ¬ ((valsOf l n).length : Int) = 0 := fun h => g4 (List.length_eq_zero_iff.1 (by omega))
  simp only [List.append_assoc, List.length_append] at a1
  simp [-dP, qj, Tryz.f212, c1, c2, c3, hw.len, g3', g4, g5, ld, ha.len, c4, hyo, o2, aJ, aH, ax, St.new, a1, c5, c6, hgc]
  simpa using fin
theorem TOut.base {H : List Ob} {X : List Ob} {o : PTreeOut} {q : V} {H' : List Ob} (h : TOut (H ++ X) o q H') : TOut H o q (fB H H' q) := by
 obtain ⟨T, w1, w2, w3, rfl, rfl, h3⟩ := h
 rw [List.append_assoc] at h3 ⊢
 obtain ⟨T', h4, h5⟩ := (h3.wide (b' := H.length) (by simp) (Nat.le_refl _)).gcA
 exact ⟨T', w1, w2, w3, rfl, h4, h5⟩
theorem AL {G : List Ob} {w1 w2 : V} {t : PTree} {b e : Nat} (h : New b e G dL [w1, w2] t.u) : ∃ F1 F2, AtF G (.slice bz) [w1] (.lst (t.schema.map PClass.u)) F1 ∧ AtF G (.slice shEntry) [w2] (.lst (t.entries.map PEntry.u)) F2 ∧ F1.Nodup ∧ F2.Nodup ∧ (∀ q ∈ F1, q ∉ F2) ∧ (∀ q ∈ F1, b ≤ q) ∧ (∀ q ∈ F2, b ≤ q) := by
 obtain ⟨F, f1, f2, f3⟩ := h
 obtain ⟨us, hus, f4⟩ := eQ.1 f1
 cases hus
 obtain ⟨c1', c2', u1, us1, F1, F2, hcs, hu, rfl, f5, f6⟩ := aC.1 f4
 cases hu
 obtain ⟨c3', c4', u2, us2, F3, F4, rfl, hu, rfl, f7, f8⟩ := aC.1 f6
 cases hu
 obtain ⟨rfl, _, rfl⟩ := dC.1 f8
 obtain ⟨x1, _, rfl, _⟩ := aF.1 f5
 obtain ⟨x2, _, rfl, _⟩ := aF.1 f7
 simp only [List.append_nil, List.cons_append, List.nil_append, List.cons.injEq, and_true] at hcs
 obtain ⟨rfl, rfl⟩ := hcs
 rw [List.append_nil] at f2 f3
 obtain ⟨fa, fb, fc⟩ := List.nodup_append.1 f2
 exact ⟨F1, F3, f5, f7, fa, fb, fun q h1 h2 => fc q h1 q h2 rfl, fun q hq => (f3 q (List.mem_append_left _ hq)).1, fun q hq => (f3 q (List.mem_append_right _ hq)).1⟩
theorem CS {G : List Ob} {w1 w2 : V} {t : PTree} {b : Nat} {F1 F2 : List Nat} (h1 : AtF G (.slice bz) [w1] (.lst (t.schema.map PClass.u)) F1) (h2 : AtF G (.slice shEntry) [w2] (.lst (t.entries.map PEntry.u)) F2) (n1 : F1.Nodup) (n2 : F2.Nodup) (hd : ∀ q ∈ F1, q ∉ F2) (b1 : ∀ q ∈ F1, b ≤ q) (b2 : ∀ q ∈ F2, b ≤ q) : New b G.length G dL [w1, w2] t.u :=
 ⟨F1 ++ F2, eQ.2 ⟨_, rfl, aC.2 ⟨[w1], [w2], _, _, F1, F2, rfl, rfl, rfl, h1, aC.2 ⟨[w2], [], _, _, F2, [], rfl, rfl, by simp, h2, dC.2 ⟨rfl, rfl, rfl⟩⟩⟩⟩, List.nodup_append.2 ⟨n1, n2, fun x hx y hy e => hd x hx (e ▸ hy)⟩, fun q hq => by
  rcases List.mem_append.1 hq with hq | hq
  ·exact ⟨b1 q hq, AtF.mem _ h1 q hq⟩
  ·exact ⟨b2 q hq, AtF.mem _ h2 q hq⟩⟩
end Go.Proofs.Try1
end
section
namespace Go.Lite
open Go
section
variable {B G : List Ob} {sh : Sh} {cs xs : List V} {us : List U} {Fs : List (List Nat)} {v : V} {s n m : Nat}
end
end Go.Lite
end
section
namespace Go.Proofs.Try1
open Go Go.Lite



end Go.Proofs.Try1
end
section
namespace Go.Lite
open Go

end Go.Lite
end
section
namespace Go.Proofs.Try1
open Go Go.Lite
attribute [-simp] jd mg
attribute [local simp] jM mY jF jI jD iU
attribute [local simp low] jE
theorem yY {α : Type} {key : α → Str} {l : List α} (hp : l.Pairwise fun a b => key a < key b) {j : Nat} {x : α} (hx : l[j]? = some x) : cu key l j x := fun y h0 hy => by
 obtain ⟨h1, rfl⟩ := List.getElem?_eq_some_iff.1 hx
 obtain ⟨h2, rfl⟩ := List.getElem?_eq_some_iff.1 hy
 exact (bD _ _).2 (List.pairwise_iff_getElem.1 hp _ _ h2 h1 (by omega))
theorem AC {l : List Str} (hv : ∀ x ∈ l, aN x) (ha : Go.Lite.Apart l) (h1 : 1 ≤ l.length) (h4 : l.length ≤ 4) : aZ (dw l) := by
 have hperm := mW l
 have hap : ((dw l).map norm).Nodup := (hperm.map norm).nodup_iff.2 ha
 have h2 : (dw l).Pairwise fun a b => norm a ≠ norm b := List.pairwise_map.1 hap
 have hpw : (dw l).Pairwise fun a b => norm a < norm b := ((ru l).and h2).imp fun {a b} h => by
  rcases EJ (norm a) (norm b) with h3 | h3 | h3
  ·exact (bD _ _).1 h3
  ·exact absurd h3 h.2
  ·exact absurd h3 h.1
 refine ⟨fun j x hx => ⟨hv x (hperm.subset (List.mem_of_getElem? hx)), yY hpw hx⟩, by rw [jW]; exact h1, by rw [jW]; exact h4⟩
theorem zU {α : Type} {p q : α → Bool} (h : ∀ x, ¬ (p x = true ∧ q x = true)) : ∀ l : List α, (l.filter p).length + (l.filter q).length ≤ l.length ∧ ((∃ x ∈ l, p x = false ∧ q x = false) → (l.filter p).length + (l.filter q).length + 1 ≤ l.length)
 | [] => ⟨by simp, fun ⟨x, hx, _⟩ => by cases hx⟩
 | x :: l => by
  obtain ⟨h1, h2⟩ := zU h l
  have h3 := h x
  rw [List.filter_cons, List.filter_cons]
  cases hp : p x <;> cases hq : q x
  ·simp; exact ⟨by omega, by omega⟩
  ·simp only [Bool.false_eq_true, if_false, if_true, List.length_cons]
   refine ⟨by omega, fun ⟨y, hy, e1, e2⟩ => ?_⟩
   rcases List.mem_cons.1 hy with rfl | hy
   ·rw [hq] at e2; cases e2
   ·have := h2 ⟨y, hy, e1, e2⟩; omega
  ·simp only [Bool.false_eq_true, if_false, if_true, List.length_cons]
   refine ⟨by omega, fun ⟨y, hy, e1, e2⟩ => ?_⟩
   rcases List.mem_cons.1 hy with rfl | hy
   ·rw [hp] at e1; cases e1
   ·have := h2 ⟨y, hy, e1, e2⟩; omega
  ·exact absurd ⟨hp, hq⟩ h3
theorem H7 {l : List PAttr} {n : Str} {vs : List Str} (hl : l.length ≤ 8) (h : ¬ (valsOf l n = [] ∧ 8 ≤ l.length)) : (bC l n vs).length ≤ 8 := by
 obtain ⟨h1, h2⟩ := zU (p := fun a : PAttr => dec (df a.name n)) (q := fun a => dec (df n a.name)) (fun x hx => eG (dS.1 hx.1) (dS.1 hx.2)) l
 have hm : (if vs = [] then ([] : List PAttr) else [⟨n, vs⟩]).length ≤ 1 := by split <;> simp
 unfold bC
 rw [List.length_append, List.length_append]
 by_cases g : valsOf l n = []
 ·have : ¬ 8 ≤ l.length := fun h3 => h ⟨g, h3⟩
  omega
 ·have : ∃ x ∈ l, dec (df x.name n) = false ∧ dec (df n x.name) = false := by
   unfold valsOf at g
   cases hf : bT PAttr.name l n with
   | none => rw [hf] at g; exact absurd rfl g
   | some a =>
    have he : a.name = n := by have := List.find?_some hf; simpa using this
    subst he
    exact ⟨a, List.mem_of_find?_eq_some hf, ak (cZ _), ak (cZ _)⟩
  have := h2 this
  omega
theorem uD {l : List PAttr} {n : Str} {vs : List Str} (hl : fZ l) (hn : aQ n) (hv : aZ vs) (h : ¬ (valsOf l n = [] ∧ 8 ≤ l.length)) : fZ (bC l n vs) := by
 have hlen := H7 (vs := vs) hl.2 h
 have hp : l.Pairwise fun a b => a.name < b.name := gB (fun j x hx => (hl.1 j x hx).2.1)
 have hne : ¬ vs = [] := fun e => by have := hv.2.1; rw [e] at this; simp at this
 have hin : ∀ a ∈ l, aQ a.name ∧ aZ a.vals := fun a ha => by
  obtain ⟨j, hj, rfl⟩ := List.getElem_of_mem ha
  have := hl.1 j _ (List.getElem?_eq_getElem hj)
  exact ⟨this.1, this.2.2⟩
 have hpw : (bC l n vs).Pairwise fun a b => a.name < b.name := by
  unfold bC
  rw [if_neg hne, List.append_assoc]
  refine List.pairwise_append.2 ⟨hp.filter _, List.pairwise_append.2 ⟨by simp, hp.filter _, fun a ha b hb => ?_⟩, fun a ha b hb => ?_⟩
  ·rw [List.mem_singleton.1 ha]
   exact (bD _ _).1 (dS.1 (List.mem_filter.1 hb).2)
  ·have h1 := (bD _ _).1 (dS.1 (List.mem_filter.1 ha).2)
   rcases List.mem_append.1 hb with hb | hb
   ·rw [List.mem_singleton.1 hb]; exact h1
   ·exact List.lt_trans h1 ((bD _ _).1 (dS.1 (List.mem_filter.1 hb).2))
 refine ⟨fun j x hx => ?_, hlen⟩
 have hm := List.mem_of_getElem? hx
 have h2 := yY hpw hx
 unfold bC at hm
 rw [if_neg hne] at hm
 rcases List.mem_append.1 hm with hm | hm
 ·rcases List.mem_append.1 hm with hm | hm
  ·have := hin x (List.mem_filter.1 hm).1; exact ⟨this.1, h2, this.2⟩
  ·have e := List.mem_singleton.1 hm
   exact ⟨by rw [e]; exact hn, h2, by rw [e]; exact hv⟩
 ·have := hin x (List.mem_filter.1 hm).1; exact ⟨this.1, h2, this.2⟩
theorem Gq {l : List PAttr} (hl : fZ l) (n : Str) : aZ (valsOf l n) ∨ valsOf l n = [] := by
 unfold valsOf
 split
 ·rename_i a h
  obtain ⟨j, hj, rfl⟩ := List.getElem_of_mem (List.mem_of_find?_eq_some h)
  exact .inl (hl.1 j _ (List.getElem?_eq_getElem hj)).2.2
 ·exact .inr rfl
theorem PQ {e : PEntry} {n v : Str} (he : EntryOk e) (hn : aQ n) (hv : aN v) (h0 : (jR e n v).code = 0) : EntryOk (jR e n v).entry ∧ (jR e n v).entry.dn = e.dn := by
 unfold jR at h0 ⊢
 split at h0
 ·simp [lJ] at h0
 rename_i g1
 rw [if_neg g1]
 split at h0
 ·simp [lJ] at h0
 rename_i g2
 rw [if_neg g2]
 have hok := Gq he.2.2 n
 have hl : (valsOf e.attrs n).length < 4 := by
  rcases Nat.lt_or_ge (valsOf e.attrs n).length 4 with h | h
  ·exact h
  ·exact absurd (.inl h) g2
 refine ⟨⟨he.1, he.2.1, uD he.2.2 hn (AC (fun x hx => ?_) (CP hok g1) (by simp) (by simp; omega)) (fun h => g2 (.inr h))⟩, rfl⟩
 rcases List.mem_append.1 hx with hx | hx
 ·rcases hok with h | h
  ·obtain ⟨j, hj, rfl⟩ := List.getElem_of_mem hx
   exact (h.1 j _ (List.getElem?_eq_getElem hj)).1
  ·rw [h] at hx; cases hx
 ·rw [List.mem_singleton.1 hx]; exact hv
theorem DnOk.cons {r : PRdn} {p : List PRdn} (hr : DnOk [r]) (hp : DnOk p) (h6 : ¬ 6 ≤ p.length) : DnOk (r :: p) := by
 refine ⟨fun j x hx => ?_, by simp; omega⟩
 cases j with
 | zero => cases hx; exact hr.1 0 r rfl
 | succ j => exact hp.1 j x (by simpa using hx)
end Go.Proofs.Try1
end
section
namespace Go.Lite
open Go
theorem ASl.ofSl {H : List Ob} {α : Type} {sh : Sh} {f : α → U} {v : V} {l : List α} (h : Sl H sh.size (At H sh) v (l.map f)) (hb : l.length ≤ maxLen) : ASl H sh f v l := aj.2 ⟨v, _, rfl, rfl, by simpa using hb, h⟩
theorem ASl.cut {H : List Ob} {α : Type} {sh : Sh} {f : α → U} {v : V} {l : List α} (h : ASl H sh f v l) {i : Nat} (hi : i ≤ l.length) :
  ∃ s1 s2 : V, ASl H sh f s1 (l.take i) ∧ ASl H sh f s2 (l.drop i) ∧
   ((v = .slc none 0 ∧ s1 = .slc none 0 ∧ s2 = .slc none 0 ∧ i = 0 ∧ l = []) ∨ ∃ id off, v = .slc (some (id, off)) l.length ∧ s1 = .slc (some (id, off)) i ∧ s2 = .slc (some (id, off + i * sh.size)) (l.length - i) ∧ ∀ G, (∃ S, G = H ++ S) → bF G id sh.size = true) := by
 have hb := h.bound
 rcases h.sl with ⟨rfl, h1⟩ | ⟨id, off, own, cells, hv, h2, h3, h4⟩
 ·have h0 : l = [] := by simpa using h1
  subst h0
  have hi0 : i = 0 := by simpa using hi
  subst hi0
  exact ⟨.slc none 0, .slc none 0, h, h, .inl ⟨rfl, rfl, rfl, rfl, rfl⟩⟩
 ·rw [List.length_map] at hv h3
  have hget : ∀ j, (l.map f)[j]? = (l[j]?).map f := fun j => List.getElem?_map
  refine ⟨.slc (some (id, off)) i, .slc (some (id, off + i * sh.size)) (l.length - i), ASl.ofSl (.inr ⟨id, off, own, cells, ?_, h2, ?_, fun j x hx => ?_⟩) ?_, ASl.ofSl (.inr ⟨id, off + i * sh.size, own, cells, ?_, h2, ?_, fun j x hx => ?_⟩) ?_, .inr ⟨id, off, hv, rfl, rfl, ?_⟩⟩
  ·simp; omega
  ·rw [List.length_map, List.length_take, Nat.min_eq_left hi]
   exact Nat.le_trans (Nat.add_le_add_left (Nat.mul_le_mul_right _ hi) _) h3
  ·rw [List.getElem?_map] at hx
   obtain ⟨y, hy, rfl⟩ := Option.map_eq_some_iff.1 hx
   have hj : j < i := by have := (List.getElem?_eq_some_iff.1 hy).1; simp at this; omega
   rw [List.getElem?_take_of_lt hj] at hy
   exact h4 j _ (by rw [hget, hy]; rfl)
  ·simp; omega
  ·simp
  ·rw [List.length_map, List.length_drop, Nat.add_assoc, ← Nat.add_mul, show i + (l.length - i) = l.length by omega]
   exact h3
  ·rw [List.getElem?_map, List.getElem?_drop] at hx
   obtain ⟨y, hy, rfl⟩ := Option.map_eq_some_iff.1 hx
   rw [Nat.add_assoc, ← Nat.add_mul]
   exact h4 (i + j) _ (by rw [hget, hy]; rfl)
  ·simp; omega
  ·rintro G ⟨S, rfl⟩
   unfold bF
   rw [aS _ _ h2]
   simp
theorem AStrs.low {H T : List Ob} {w : V} {l : List Str} (h : AStrs (H ++ T) w l) (hl : eY H w) : AStrs H w l := by
 rcases h.sl with ⟨hw, h1⟩ | ⟨id, off, own, cells, hv, h2, h3, h4⟩
 ·exact ASl.ofSl (.inl ⟨hw, h1⟩) h.bound
 ·rw [hv] at hl
  simp only [eY] at hl
  obtain ⟨_, _, _, h0⟩ := hl
  have hid := (List.getElem?_eq_some_iff.1 h0).1
  rw [List.getElem?_append_left hid] at h2
  refine ASl.ofSl (.inr ⟨id, off, own, cells, hv, h2, h3, fun i x hx => ?_⟩) h.bound
  obtain ⟨s, e1, e2, e3⟩ := bn.1 (h4 i x hx)
  exact bn.2 ⟨s, e1, e2, e3⟩
theorem AStrs.gc {H X : List Ob} {w : V} {l : List Str} (h : AStrs (H ++ X) w l) : ∃ T, fB H (H ++ X) w = H ++ T ∧ AStrs (H ++ T) w l := by
 unfold fB
 split
 ·rename_i hc
  exact ⟨[], by simp, by simpa using h.low hc.2⟩
 ·exact ⟨X, rfl, h⟩
theorem AStrs.frame {G G' : List Ob} {w : V} {l : List Str} (h : AStrs G w l) (hf : ∀ q o n, w = .slc (some (q, o)) n → G'[q]? = G[q]?) : AStrs G' w l := by
 rcases h.sl with ⟨hw, h1⟩ | ⟨id, off, own, cells, hv, h2, h3, h4⟩
 ·exact ASl.ofSl (.inl ⟨hw, h1⟩) h.bound
 ·rw [← hf _ _ _ hv] at h2
  refine ASl.ofSl (.inr ⟨id, off, own, cells, hv, h2, h3, fun i x hx => ?_⟩) h.bound
  obtain ⟨s, e1, e2, e3⟩ := bn.1 (h4 i x hx)
  exact bn.2 ⟨s, e1, e2, e3⟩
theorem AStrs.lt {G : List Ob} {w : V} {l : List Str} (h : AStrs G w l) : ∀ q o n, w = .slc (some (q, o)) n → q < G.length := by
 rintro q o n rfl
 rcases h.sl with ⟨hw, h1⟩ | ⟨id, off, own, cells, hv, h2, h3, h4⟩
 ·cases hw
 ·cases hv
  exact (List.getElem?_eq_some_iff.1 h2).1
end Go.Lite
end
section
namespace Go.Proofs.Try1
open Go Go.Lite
noncomputable def iR (l : List Str) (v : Str) : List Str := l.filter fun x => !decide (norm x = norm v)
noncomputable def jH (e : PEntry) (n v : Str) : PEntryOut :=
 if ∃ x ∈ valsOf e.attrs n, norm x = norm v then ⟨xy e n (iR (valsOf e.attrs n) v), 0⟩ else lJ 6
theorem Py {H : List Ob} {s1 s2 : V} {l1 l2 : List Str} (h1 : AStrs H s1 l1) (h2 : AStrs H s2 l2) (hl : l1.length + l2.length ≤ 1000) :
  ∃ p1 X1, bI ⟨.str, 1, 16, [.str []]⟩ (H ++ [.mk true 1 []]) (.slc (some (H.length, 0)) 0) s1 = some (p1, H ++ X1) ∧ (aP p1 = true ∧ cellsOf p1 = some [p1]) ∧
   ∃ p2 X2, bI ⟨.str, 1, 16, [.str []]⟩ (H ++ X1) p1 s2 = some (p2, H ++ X2) ∧ AStrs (H ++ X2) p2 (l1 ++ l2) ∧ (aP p2 = true ∧ cellsOf p2 = some [p2]) := by
 obtain ⟨q1, rfl, hc1, _, _⟩ := kP (T := [.mk true 1 []]) h1
 have e1 : aU ⟨.str, 1, 16, [.str []]⟩ (H ++ [.mk true 1 []]) (.slc q1 l1.length) = some (l1.map V.str, (l1.map V.str).length) := by simp [aU, hc1]
 obtain ⟨p1, G1, a1, g1⟩ := (Gs.init (H := H)).many (d := .str) (b := 16) (z := [.str []]) e1 (by simp [aP]) (by simp [aK]; omega) (by decide) (by decide) rfl
 obtain ⟨X1, rfl⟩ := g1.ext
 obtain ⟨q2, rfl, hc2, _, _⟩ := kP (T := X1) h2
 have e2 : aU ⟨.str, 1, 16, [.str []]⟩ (H ++ X1) (.slc q2 l2.length) = some (l2.map V.str, (l2.map V.str).length) := by simp [aU, hc2]
 obtain ⟨p2, G2, a2, g2⟩ := g1.many (d := .str) (b := 16) (z := [.str []]) e2 (by simp [aP]) (by simp [aK]; omega) (by decide) (by decide) rfl
 obtain ⟨X2, rfl⟩ := g2.ext
 refine ⟨p1, X1, a1, g1.one, p2, X2, a2, ?_, g2.one⟩
 have g3 : Gs H (H ++ X2) p2 ((l1 ++ l2).map V.str) := by simpa using g2
 refine (g3.strs (by simp [maxLen]; omega) fun s hs => ?_).1
 rcases List.mem_append.1 hs with h | h
 ·exact h1.max s h
 ·exact h2.max s h
theorem Uc {l : List Str} {v : Str} {k : Nat} {x : Str} (h : Go.Lite.Apart l) (hx : l[k]? = some x) (he : norm x = norm v) : iR l v = l.take k ++ l.drop (k + 1) := by
 obtain ⟨hk, rfl⟩ := List.getElem?_eq_some_iff.1 hx
 have hne : ∀ (j : Nat) (y : Str), j ≠ k → l[j]? = some y → (!decide (norm y = norm v)) = true := fun j y hj hy => by
  obtain ⟨hj1, rfl⟩ := List.getElem?_eq_some_iff.1 hy
  have : ¬ norm l[j] = norm v := fun e => by
   have h1 := List.pairwise_iff_getElem.1 (List.pairwise_map.1 h)
   rcases Nat.lt_trichotomy j k with hh | hh | hh
   ·exact h1 j k hj1 hk hh (e.trans he.symm)
   ·exact hj hh
   ·exact h1 k j hk hj1 hh (he.trans e.symm)
  simp [this]
 unfold iR
 conv => lhs; rw [← List.take_append_drop k l, List.drop_eq_getElem_cons hk]
 rw [List.filter_append, List.filter_cons, if_neg (by simp [he])]
 congr 1
 ·rw [List.filter_eq_self]
  intro y hy
  obtain ⟨j, hj, rfl⟩ := List.getElem_of_mem hy
  have hj' : j < k := by simp at hj; omega
  rw [List.getElem_take]
  exact hne j _ (by omega) (List.getElem?_eq_getElem (by omega))
 ·rw [List.filter_eq_self]
  intro y hy
  obtain ⟨j, hj, rfl⟩ := List.getElem_of_mem hy
  have hj' : k + 1 + j < l.length := by simp at hj; omega
  rw [List.getElem_drop]
  exact hne (k + 1 + j) _ (by omega) (List.getElem?_eq_getElem hj')
theorem AU {l : List Str} (h : aZ l ∨ l = []) : Go.Lite.Apart l := by
 unfold Go.Lite.Apart
 rcases h with h | rfl
 ·have := gB (key := norm) (fun j x hx => (h.1 j x hx).2)
  exact List.pairwise_map.2 (this.imp fun h e => by rw [e] at h; exact List.lt_irrefl _ h)
 ·simp
theorem I4 {l : List Str} {v : Str} (h : aZ l ∨ l = []) : dw (iR l v) = iR l v := by
 have hs : (iR l v).Sublist l := List.filter_sublist
 have ha : Go.Lite.Apart (iR l v) := (AU h).sublist (hs.map norm)
 refine Iw ha (mW _) (.refl _) (ru _) ?_
 rcases h with h | rfl
 ·have := gB (key := norm) (fun j x hx => (h.1 j x hx).2)
  refine (this.sublist hs).imp fun {a b} h e => ?_
  exact List.lt_asymm h ((bD _ _).1 e)
 ·exact List.Pairwise.nil
theorem Ws {H : List Ob} {vd va : V} {e : PEntry} {n v : Str} (hd : dK H vd e.dn) (ha : bK H va e.attrs) (he : EntryOk e) (hn : n.length ≤ maxLen) (hv : v.length ≤ maxLen) :
  ∃ q H', callW C 299 [.agg [vd, va], .str n, .str v] H = some (q, H') ∧ EOut H (jH e n v) q H' := by
 suffices hs : Ret C 299 [.agg [vd, va], .str n, .str v] H fun q H' => EOut H (jH e n v) q H' by
  obtain ⟨q, H', hc, hr⟩ := hs
  exact ⟨q, H', hc, hr⟩
 rw [abm]
 have hod := hd.one
 have hoa := ha.one
 obtain ⟨w, c1, hw⟩ := UH (t := n) ha hod.2 hod.1
 have hvo := Gq he.2.2 n
 have hwl : (valsOf e.attrs n).length ≤ 4 := by
  rcases hvo with h | h
  ·exact h.2.2
  ·rw [h]; simp
 have c2 := jJ (t := v) (H := H)
 obtain ⟨r, c3, hr⟩ := UI (n := norm v) hw
 have c4 := MI (H := H) (c := 6)
 rcases hr with ⟨k, x, h1, h2, h3, rfl⟩ | ⟨h1, rfl⟩
 rotate_left
 ·have hno : ¬ ∃ x ∈ valsOf e.attrs n, norm x = norm v := by
   rintro ⟨x, hx, he⟩
   obtain ⟨j, hj, rfl⟩ := List.getElem_of_mem hx
   have := h1 j _ (List.getElem?_eq_getElem hj)
   simp [he] at this
  have ho : jH e n v = lJ 6 := if_neg hno
  rw [ho]
  simp [zf, Tryz.f299, c1, c2, c3, c4, hod, hoa]
  exact EOut.ill (by decide)
 have hxv : norm x = norm v := by simpa using h2
 have hkl : k < (valsOf e.attrs n).length := (List.getElem?_eq_some_iff.1 h1).1
 have ho : jH e n v = ⟨xy e n (iR (valsOf e.attrs n) v), 0⟩ := if_pos ⟨x, List.mem_of_getElem? h1, hxv⟩
 have hk : ¬ (k : Int) < 0 := by omega
 have hw1 : IntKind.i64.wrap ((k : Int) + 1) = (k : Int) + 1 := wrap_i64 (by omega) (by omega)
 have hap := AU hvo
 obtain ⟨s1, s1', a1, _, hc1⟩ := hw.cut (i := k) (by omega)
 obtain ⟨s2', s2, _, a2, hc2⟩ := hw.cut (i := k + 1) (by omega)
 rcases hc1 with ⟨_, _, _, _, h0⟩ | ⟨id, off, hv1, hs1, _, hst⟩
 ·rw [h0] at hkl; simp at hkl
 rcases hc2 with ⟨_, _, _, _, h0⟩ | ⟨id', off', hv2, _, hs2, _⟩
 ·rw [h0] at hkl; simp at hkl
 rw [hv1] at hv2
 cases hv2
 obtain ⟨p1, X1, b1, b2, p2, X2, b3, b4, b5⟩ := Py a1 a2 (by simp; omega)
 rw [← Uc hap h1 hxv] at b4
 obtain ⟨T, w1, w2, c6, hat, hnl⟩ := SQ (H := H ++ X2) hd.ext ha.ext (EntryOk.small he) (EntryOk.rise he) hn b4 (by have : (iR (valsOf e.attrs n) v).length ≤ _ := List.length_filter_le _ _; omega)
 rw [I4 hvo] at hat
 obtain ⟨v1, v2, hcs, d1, d2⟩ := iw.1 hat
 cases hcs
 have ho1 := d1.one
 have ho2 := d2.one
 have hnl' : ¬ eY H w2 := fun h => hnl (by
  obtain ⟨p, rfl⟩ := d2.shape
  exact qp h)
 have hgc : fB H (H ++ X2 ++ T) (.agg [w1, w2, .int .i64 0]) = H ++ X2 ++ T := by
  rw [List.append_assoc]
  exact kD fun h => hnl' h.2.1
 have fin : EOut H ⟨xy e n (iR (valsOf e.attrs n) v), 0⟩ (.agg [w1, w2, .int .i64 0]) (H ++ X2 ++ T) := ⟨X2 ++ T, w1, w2, rfl, by simp, by rw [← List.append_assoc]; exact fU.2 ⟨_, _, rfl, d1, d2, show (Lit.int .i64 0).wf = true by decide⟩, by rw [← List.append_assoc]; exact hgc, fun _ => hnl', fun h => absurd rfl h⟩
 have t0 := hst (H ++ [.mk true 1 []]) ⟨_, rfl⟩
 have t1 := hst (H ++ X1) ⟨_, rfl⟩
 rw [hv1] at hw c1 c3
 rw [hs1] at b1
 rw [hs2] at b3
 have hkl' : k + 1 ≤ (valsOf e.attrs n).length := hkl
 have hkeep : ∀ A B : List Ob, Keep H.length (H ++ A) (H ++ B) := fun A B => Ig (Nat.le_refl _)
 have hk1 : (0 : Int) ≤ (k : Int) + 1 := by omega
 have hkl'' : k ≤ (valsOf e.attrs n).length := by omega
 simp only [List.append_assoc] at hgc fin c6
 have t2 := hst H ⟨[], by simp⟩
 have hid := AStrs.lt hw id off _ rfl
 simp [Sh.size_str] at t0 t1 t2 b1 b3
 rw [ho]
 simp [zf, Tryz.f299, c1, c2, c3, hod, hoa, hk, hw1, hw.len, jQ, hkeep, hkl, hk1, hkl', hkl'', af, ai, List.lookup, List.replicate, aJ, aH, ax, St.new, t0, t1, t2, hid, b1, b2, b3, b5, c6, ho1, ho2, aW, ay, hgc]
 exact fin
theorem Oy {l : List PAttr} {n : Str} (h : bC l n [] = l) : valsOf l n = [] := by
 unfold valsOf
 split
 ·rename_i a hf
  have hm := List.mem_of_find?_eq_some hf
  have he : a.name = n := by have := List.find?_some hf; simpa using this
  rw [← h] at hm
  unfold bC at hm
  simp at hm
  rcases hm with ⟨_, hh⟩ | ⟨_, hh⟩
  ·exact absurd (dS.1 hh) (by rw [he]; exact cZ n)
  ·exact absurd (dS.1 hh) (by rw [he]; exact cZ n)
 ·rfl
theorem Px {l : List PAttr} {n : Str} {vs : List Str} (hp : l.Pairwise fun a b => a.name < b.name) (h : bC l n vs = l) : valsOf l n = vs := by
 by_cases hv : vs = []
 ·subst hv; exact Oy h
 ·exact Ij hp hv h
theorem Oh {G G' : List Ob} {ide : Nat} {vd va va' : V} {l : List PAttr} {n : Str} {vs : List Str} {F' : List Nat} (he : G[ide]? = some (.mk true 2 [vd, va])) (ha : bK G va l) (hp : l.Pairwise fun a b => a.name < b.name) (r1 : G'[ide]? = some (.mk true 2 [vd, va'])) (r2 : AtF G' (.slice shAttr) [va'] (.lst ((bC l n vs).map PAttr.u)) F') (hd : valsOf l n ≠ vs) : ¬ Ext G G' := by
 rintro ⟨R, rfl⟩
 have e1 := r1
 rw [aS _ _ he] at e1
 cases e1
 have := At.one_datum _ (AtF.at _ r2) (ha.at.ext (T := R))
 simp only [U.lst.injEq] at this
 have hinj : bC l n vs = l := by
  refine (List.map_inj_right (fun a b h => ?_)).1 this
  cases a; cases b
  simp only [PAttr.u, U.st.injEq, List.cons.injEq, U.str.injEq, U.lst.injEq, and_true] at h
  obtain ⟨rfl, h⟩ := h
  congr 1
  exact (List.map_inj_right (fun a b h => by cases h; rfl)).1 h
 exact hd (Px hp hinj)
theorem V9 {H : List Ob} {id : Nat} {own : Bool} {es : Nat} {v x : Str} (h : H[id]? = some (.mk own es [.str v])) : callW C 347 [.str x, .ptr (some (id, 0))] H = some (.bool (decide (norm x = norm v)), H) := by
 apply Ret.eq
 rw [aeq]
 have ld := aY (o := 0) (v := .str v) h rfl
 have c1 := jG (t := x) (H := H)
 have c2 := jG (t := v) (H := H)
 have hid := (List.getElem?_eq_some_iff.1 h).1
 simp [FO, Tryz.f347, hid, ld, c1, c2]
theorem WH {G : List Ob} {ide : Nat} {vd va : V} {l : List PAttr} {n v : Str} {F : List Nat} (he : G[ide]? = some (.mk true 2 [vd, va])) (hA : AtF G (.slice shAttr) [va] (.lst (l.map PAttr.u)) F) (hn : F.Nodup) (hide : ide ∉ F) (hl : l.length ≤ 8) (hp : l.Pairwise fun a b => a.name < b.name) (hnm : n.length ≤ maxLen)
  (hvm : v.length ≤ maxLen) (hvk : aN v) (hok : ∀ a ∈ l, aZ a.vals) :
  ∃ code G', callW C 304 [.ptr (some (ide, 0)), .str n, .str v] G = some (.int .i64 code, G') ∧
   code = (if ∃ x ∈ valsOf l n, norm x = norm v then 0 else 6) ∧ (code ≠ 0 → G' = G) ∧
   (code = 0 → ∃ va' F', G'[ide]? = some (.mk true 2 [vd, va']) ∧ AtF G' (.slice shAttr) [va'] (.lst ((bC l n (iR (valsOf l n) v)).map PAttr.u)) F' ∧ F'.Nodup ∧ ide ∉ F' ∧
   (∀ q ∈ F', q ∈ F ∨ G.length ≤ q) ∧ (∀ q, q < G.length → q ∉ F → q ≠ ide → G'[q]? = G[q]?) ∧ G.length ≤ G'.length ∧ ¬ Ext G G') := by
 suffices hs : Ret C 304 [.ptr (some (ide, 0)), .str n, .str v] G fun q G' => ∃ code, q = .int .i64 code ∧
   code = (if ∃ x ∈ valsOf l n, norm x = norm v then 0 else 6) ∧ (code ≠ 0 → G' = G) ∧
   (code = 0 → ∃ va' F', G'[ide]? = some (.mk true 2 [vd, va']) ∧ AtF G' (.slice shAttr) [va'] (.lst ((bC l n (iR (valsOf l n) v)).map PAttr.u)) F' ∧ F'.Nodup ∧ ide ∉ F' ∧
   (∀ q ∈ F', q ∈ F ∨ G.length ≤ q) ∧ (∀ q, q < G.length → q ∉ F → q ≠ ide → G'[q]? = G[q]?) ∧ G.length ≤ G'.length ∧ ¬ Ext G G') by
  obtain ⟨q, G', hc, code, rfl, hr⟩ := hs
  exact ⟨code, G', hc, hr⟩
 rw [afJ]
 have ha : bK G va l := AtF.at _ hA
 have hidel : ide < G.length := (List.getElem?_eq_some_iff.1 he).1
 obtain ⟨K, hK⟩ : ∃ K, K = G ++ [.mk true 1 [.str v]] := ⟨_, rfl⟩
 have hKl : K.length = G.length + 1 := by rw [hK]; simp
 have heK : K[ide]? = some (.mk true 2 [vd, va]) := by rw [hK]; exact aS _ _ he
 have haK : bK K va l := by rw [hK]; exact ha.ext
 have hKv : K[G.length]? = some (.mk true 1 [.str v]) := by rw [hK]; exact get_last
 have lv := aY (o := 0) (v := .str v) hKv rfl
 obtain ⟨w, c1, hw⟩ := qY (t := n) heK haK (by omega) hp
 have c2 := jG (t := v) (H := K)
 have c3 := P5 (t := n) (n := norm v) heK haK (by omega) hp
 have hvok : aZ (valsOf l n) ∨ valsOf l n = [] := by
  unfold valsOf
  split
  ·rename_i a h; exact .inl (hok a (List.mem_of_find?_eq_some h))
  ·exact .inr rfl
 have hvl : (valsOf l n).length ≤ 4 := by
  rcases hvok with h | h
  ·exact h.2.2
  ·rw [h]; simp
 by_cases g1 : ∃ x ∈ valsOf l n, norm x = norm v
 rotate_left
 ·rw [ak (show ¬ nV l n (norm v) from fun h => g1 h.2)] at c3
  have hgc : fB G K (.int .i64 6) = G := by rw [hK]; exact dP
  rw [if_neg g1]
  simp [-dP, zo, Tryz.f304, aV, ← hK, lv, c2, c3, hgc]
 rw [au (show nV l n (norm v) from ⟨hvk.2.2, g1⟩)] at c3
 rw [if_pos g1]
 have hmx := hw.max
 obtain ⟨T1, y, c4, hy⟩ := uV hw (by omega)
 rcases hy with ⟨_, h0⟩ | hG
 ·obtain ⟨x, hx, _⟩ := g1
  rw [h0] at hx; cases hx
 obtain ⟨T', id, hT, q1, q2, rfl⟩ := hG
 have hT' := List.append_cancel_left hT
 subst hT'
 rw [List.length_map] at c4
 obtain ⟨G2, k, cs, c5, k1, k2, k3, k4, k5, k6⟩ := Jj (g := 347) (a := []) (b := [.ptr (some (G.length, 0))]) (fun x => decide (norm x = norm v)) q2 (by omega) hmx (fun G' e1 e2 x => by
  refine V9 (own := true) (es := 1) ?_
  rw [e2 _ (by omega)]
  exact aS _ _ hKv)
 have hkm : k = (iR (valsOf l n) v).length := k5
 have hF2 := IM (l := iR (valsOf l n) v) k3 k5 k6 (by have : (iR (valsOf l n) v).length ≤ _ := List.length_filter_le _ _; unfold maxLen; omega) (fun s hs => hmx s (List.mem_filter.1 hs).1)
 have hfr : ∀ q, q < K.length → G2[q]? = K[q]? := fun q hq => by rw [k2 q (by omega), List.getElem?_append_left hq]
 have hFl : ∀ q ∈ F, q < G.length := AtF.mem _ hA
 have hG2l : K.length ≤ G2.length := by rw [k1]; simp
 have heG : G2[ide]? = some (.mk true 2 [vd, va]) := by rw [hfr ide (by omega)]; exact heK
 have hAG : AtF G2 (.slice shAttr) [va] (.lst (l.map PAttr.u)) F := AtF.frame _ (fun q hq => by have := hFl q hq; rw [hfr q (by omega), hK, List.getElem?_append_left this]) hA
 obtain ⟨G', va', F', c6, r1, r2, r3, r4, r5, r6, r7, r8⟩ := Ro (n := n) heG hAG hn hide (by omega) hp hnm hF2 (by simp) (fun q hq => by
  obtain rfl := List.mem_singleton.1 hq
  exact ⟨fun h => by have := hFl q h; omega, fun e => by omega⟩)
 have hdiff : valsOf l n ≠ iR (valsOf l n) v := fun e => by
  obtain ⟨x, hx, hxv⟩ := g1
  rw [e] at hx
  have := (List.mem_filter.1 hx).2
  simp [hxv] at this
 have hext := Oh he ha hp r1 r2 hdiff
 have hgc := Cc (r := .int .i64 0) hext
 have fin : ∃ va' F', G'[ide]? = some (.mk true 2 [vd, va']) ∧ AtF G' (.slice shAttr) [va'] (.lst ((bC l n (iR (valsOf l n) v)).map PAttr.u)) F' ∧ F'.Nodup ∧ ide ∉ F' ∧
   (∀ q ∈ F', q ∈ F ∨ G.length ≤ q) ∧ (∀ q, q < G.length → q ∉ F → q ≠ ide → G'[q]? = G[q]?) ∧ G.length ≤ G'.length ∧ ¬ Ext G G' :=
  ⟨va', F', r1, r2, r3, r4, fun q hq => by
   rcases r5 q hq with h | h | h
   ·exact .inl h
   ·exact .inr (by have := List.mem_singleton.1 h; omega)
   ·exact .inr (by omega), fun q h1 h2 h3 => by rw [r6 q (by omega) h2 h3, hfr q (by omega), hK, List.getElem?_append_left h1], by omega, hext⟩
 simp [-dP, zo, Tryz.f304, aV, ← hK, lv, c1, c2, c3, c4, c5, c6, hgc]
 simpa using fin
end Go.Proofs.Try1
end
