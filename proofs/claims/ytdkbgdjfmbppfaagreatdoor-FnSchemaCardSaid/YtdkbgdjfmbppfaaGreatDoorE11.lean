/- Part 11 of the proof of a law: the interpreter, its soundness, and what functions of the program compute over it. Conditions: none but those that each theorem names. -/
import Derived.Test.YtdkbgdjfmbppfaaGreatDoorE08
import Derived.Test.YtdkbgdjfmbppfaaGreatDoorE06
import Derived.Test.YtdkbgdjfmbppfaaGreatDoorE10
import Derived.Test.YtdkbgdjfmbppfaaGreatDoorE07
import Derived.Test.YtdkbgdjfmbppfaaGreatDoorE09

set_option linter.all false
set_option maxRecDepth 20000
set_option maxHeartbeats 40000000
section
namespace Go.Proofs.Try1
open Go Go.Lite
attribute [-simp] df eP
attribute [local simp] bZ dY bW cZ bY bJ
attribute [local simp low] cu
theorem fQ {H : List Ob} {i : Nat} {l : List Str} (h : H[i]? = some (.mk true 1 (l.map V.str))) (hl : l.length ≤ 1000) (hb : ∀ s ∈ l, s.length ≤ 100) : AStrs H (.slc (some (i, 0)) l.length) l := by
 have := (Gs.strs (H := []) (G := H) (v := .slc (some (i, 0)) (l.map V.str).length) (l := l) ⟨H, i, rfl, by simp, h, rfl⟩ (by unfold maxLen; omega) (fun s hs => by have := hb s hs; unfold maxLen; omega)).1
 simpa using this
theorem oJ {G : List Ob} : AStrs G (.slc none 0) [] := aC.2 ⟨_, _, rfl, rfl, by simp, .inl ⟨rfl, rfl⟩⟩
theorem sQ {H : List Ob} {i : Nat} {own : Bool} {cells : List V} {l : List PClass} (h : H[i]? = some (.mk own 4 cells)) (hl : l.length * 4 ≤ cells.length) (hb : l.length ≤ 1000) (hc : ∀ (j : Nat) c, l[j]? = some c → At H jX ((cells.drop (j * 4)).take 4) c.u) : aP H (.slc (some (i, 0)) l.length) l := by
 refine aC.2 ⟨_, _, rfl, rfl, by simp; unfold maxLen; omega, .inr ⟨i, 0, own, cells, by simp, h, by simp [Sh.size, Sh.sizes]; omega, fun j x hx => ?_⟩⟩
 rw [List.getElem?_map] at hx
 obtain ⟨y, hy, rfl⟩ := Option.map_eq_some_iff.1 hx
 rw [Nat.zero_add]
 exact hc j y hy
abbrev sV : Str := [99, 110]
abbrev jF : Str := [117, 105, 100]
abbrev jH : Str := [109, 97, 105, 108]
abbrev eF : Str := [112, 104, 111, 110, 101]
abbrev xG : Str := [111, 117]
abbrev dR : Str := [112, 101, 114, 115, 111, 110]
abbrev BR : Str := [117, 110, 105, 116]
def bz (n : Nat) (cells : List V) : List Ob := [.mk true 1 [.str sV, .str jF], .mk true 1 [.str jH, .str eF], .mk true 1 [.str jF], .mk true 1 [.str xG], .mk true 1 [.str eF], .mk true 4 cells]
def aF (n : Nat) : List V := [.str dR, .slc (some (n, 0)) 2, .slc (some (n + 1, 0)) 2, .slc (some (n + 2, 0)) 1, .str BR, .slc (some (n + 3, 0)) 1, .slc (some (n + 4, 0)) 1, .slc none 0]
theorem Hz {H : List Ob} : callW C 196 [] H = some (.slc (some (H.length + 5, 0)) 2, H ++ bz H.length (aF H.length)) := by
 suffices hs : Ret C 196 [] H fun q H' => q = .slc (some (H.length + 5, 0)) 2 ∧ H' = H ++ bz H.length (aF H.length) by
  obtain ⟨q, H', hc, rfl, rfl⟩ := hs
  exact hc
 rw [OZ]
 have hg : eU H (H ++ bz H.length (aF H.length)) (.slc (some (H.length + 5, 0)) 2) = H ++ bz H.length (aF H.length) := gJ (by
  rintro ⟨own, es, cells, h⟩
  have := (List.getElem?_eq_some_iff.1 h).1
  omega)
 simp [EJ, Tryz.f196, ax, ah, ay, St.new, aH, ak]
 exact hg
section
variable {K T : List Ob} {n : Nat} {cells : List V}
theorem iE (hn : K.length = n) : (K ++ (bz n cells ++ T))[n + 5]? = some (.mk true 4 cells) := by
 subst hn; rw [dw]; rfl
theorem mg (hn : K.length = n) : AStrs (K ++ (bz n cells ++ T)) (.slc (some (n, 0)) 2) [sV, jF] ∧ AStrs (K ++ (bz n cells ++ T)) (.slc (some (n + 1, 0)) 2) [jH, eF] ∧ AStrs (K ++ (bz n cells ++ T)) (.slc (some (n + 2, 0)) 1) [jF] ∧ AStrs (K ++ (bz n cells ++ T)) (.slc (some (n + 3, 0)) 1) [xG] ∧ AStrs (K ++ (bz n cells ++ T)) (.slc (some (n + 4, 0)) 1) [eF] := by
 subst hn
 refine ⟨fQ (l := [sV, jF]) ?_ (by decide) (by decide), fQ (l := [jH, eF]) ?_ (by decide) (by decide), fQ (l := [jF]) ?_ (by decide) (by decide), fQ (l := [xG]) ?_ (by decide) (by decide), fQ (l := [eF]) ?_ (by decide) (by decide)⟩
 ·have := dw (H := K) (S := bz K.length cells ++ T) (k := 0)
  rw [Nat.add_zero] at this
  rw [this]; rfl
 all_goals rw [dw]; rfl
theorem jJ {H : List Ob} {a b c : V} {nm : Str} {l1 l2 l3 : List Str} (hn : nm.length ≤ 100) (h1 : AStrs H a l1) (h2 : AStrs H b l2) (h3 : AStrs H c l3) : At H jX [.str nm, a, b, c] (PClass.u ⟨nm, l1, l2, l3⟩) := l7.2 ⟨a, b, c, rfl, by unfold maxLen; simp; omega, h1, h2, h3⟩
theorem nJ (hn : K.length = n) {o : Nat} {x : V} (ho : o < cells.length) (h1 : aJ x = true) (h2 : cellsOf x = some [x]) : ∀ T' : LT, T'.one → ∀ r c, storeAt T' ⟨r, c, K ++ (bz n cells ++ T)⟩ (.hp (n + 5) o) x = some ⟨r, c, K ++ (bz n (cells.set o x) ++ T)⟩ := fun T' hT r c => by
 rw [store1 (iE hn) ho h2 h1 T' hT r c]
 subst hn
 rw [iy]
 rfl
theorem qI {H : List Ob} {i : Nat} {own : Bool} {a b c d e f : V} {m1 m2 : Str} {l1 l2 l3 l4 l5 l6 : List Str} (h : H[i]? = some (.mk own 4 [.str m1, a, b, c, .str m2, d, e, f])) (g1 : m1.length ≤ 100) (g2 : m2.length ≤ 100) (h1 : AStrs H a l1) (h2 : AStrs H b l2) (h3 : AStrs H c l3) (h4 : AStrs H d l4) (h5 : AStrs H e l5) (h6 : AStrs H f l6) : aP H (.slc (some (i, 0)) 2) [⟨m1, l1, l2, l3⟩, ⟨m2, l4, l5, l6⟩] :=
 sQ (l := [⟨m1, l1, l2, l3⟩, ⟨m2, l4, l5, l6⟩]) h (by simp) (by simp) fun j x hx => by
  rcases j with _ | _ | j
  ·simp at hx; subst hx; exact jJ g1 h1 h2 h3
  ·simp at hx; subst hx; exact jJ g2 h4 h5 h6
  ·simp at hx
end
def OT (id : Nat) (v : V) (G : List Ob) (q : V) (K : List Ob) : Prop := Ev id G K ∧ SrcIn K id v ∧ (q = .slc none 0 ∨ ¬ dZ G q) ∧ ∃ l, aP K q l
theorem pW {id : Nat} {v : V} {G : List Ob} (hs : SrcIn G id v) : ∃ w K, callW C 104 [.ptr (some (id, 0))] G = some (w, K) ∧ OT id v G w K := by
 suffices hg : Ret C 104 [.ptr (some (id, 0))] G (OT id v G) by
  obtain ⟨q, G', hc, hr⟩ := hg
  exact ⟨q, G', hc, hr⟩
 rw [Pz]
 have hid := hs.lt
 obtain ⟨n, hn⟩ : ∃ n, n = G.length := ⟨_, rfl⟩
 have c0 := Hz (H := G)
 rw [← hn] at c0
 obtain ⟨_, K1, c1, l1, e1, s1, t, rfl⟩ := nN (S := bz n (aF n)) hs (most := 10) (by decide)
 have hK1 : K1.length = n := by rw [l1, hn]
 have nlw : ∀ {i k : Nat}, n ≤ i → ¬ dZ G (.slc (some (i, 0)) k) := fun h => by
  rintro ⟨own, es, cells, hx⟩
  have := (List.getElem?_eq_some_iff.1 hx).1
  omega
 have nl : ∀ {K : List Ob} {i k : Nat}, n ≤ i → eU G K (.slc (some (i, 0)) k) = K := fun h => gJ (nlw h)
 cases t with
 | false =>
  simp [mO, Tryz.f104, c0, c1, nl]
  obtain ⟨q1, q2, q3, q4, q5⟩ := mg (T := []) (cells := aF n) hK1
  have r5 := iE (T := []) (cells := aF n) hK1
  rw [List.append_nil] at q1 q2 q3 q4 q5 r5
  exact ⟨e1.trans .app, s1.app, .inr (nlw (by omega)), _, qI r5 (by decide) (by decide) q1 q2 q3 q4 q5 oJ⟩
 | true =>
  obtain ⟨_, K2, c2, l2, e2, s2, m, rfl, hm, _⟩ := LH (S := bz n (aF n)) s1 (most := 5) (by decide)
  have hK2 : K2.length = n := by rw [l2, hK1]
  have f2 := e1.trans e2
  have hPl : (bz n (aF n)).length = 6 := rfl
  have fin : ∀ {T : List Ob} {cells : List V}, Ev id G (K2 ++ (bz n cells ++ T)) ∧ SrcIn (K2 ++ (bz n cells ++ T)) id v := ⟨f2.trans .app, s2.app⟩
  have ix0 : ∀ (e s b : Nat) (z : List V) (ty : Nat → LT) (k : IntKind), (ty e).size = 4 → dE ⟨.slice e, s, b, z⟩ ty (.val (.slc (some (n + 5, 0)) 2)) (.int k 0) = some (.val (.ptr (some (n + 5, 0)))) := fun e s b z ty k hs => by simp [dE, hs]
  have ix1 : ∀ (e s b : Nat) (z : List V) (ty : Nat → LT) (k : IntKind), (ty e).size = 4 → dE ⟨.slice e, s, b, z⟩ ty (.val (.slc (some (n + 5, 0)) 2)) (.int k 1) = some (.val (.ptr (some (n + 5, 4)))) := fun e s b z ty k hs => by simp [dE, hs]
  have row6 : ∀ {cells : List V} {l : List Str}, (K2 ++ (bz n cells ++ [Ob.mk true 1 (l.map V.str)]))[n + 6]? = some (.mk true 1 (l.map V.str)) := fun {cells l} => by
   have := dw (H := K2) (S := bz n cells ++ [Ob.mk true 1 (l.map V.str)]) (k := 6)
   rw [hK2] at this
   rw [this]; rfl
  by_cases g0 : m = 0
  ·subst g0
   have st := nJ (T := [Ob.mk true 1 [.str [122, 101, 100]]]) (cells := aF n) (o := 3) (x := .slc (some (n + 6, 0)) 1) hK2 (by simp [aF]) rfl rfl
   obtain ⟨q1, q2, q3, q4, q5⟩ := mg (T := [Ob.mk true 1 [.str [122, 101, 100]]]) (cells := (aF n).set 3 (.slc (some (n + 6, 0)) 1)) hK2
   have r5 := iE (T := [Ob.mk true 1 [.str [122, 101, 100]]]) (cells := (aF n).set 3 (.slc (some (n + 6, 0)) 1)) hK2
   have q6 := fQ (l := [[122, 101, 100]]) (row6 (cells := (aF n).set 3 (.slc (some (n + 6, 0)) 1)) (l := [[122, 101, 100]])) (by decide) (by decide)
   simp [ae, af, List.lookup, c0, c1, c2, nl, hK2, hPl, ix0, ix1, ax, ah, ay, St.new, aH, ak, mO, Tryz.f104, st]
   exact ⟨fin.1, fin.2, .inr (nlw (by omega)), _, qI r5 (by decide) (by decide) q1 q2 q6 q4 q5 oJ⟩
  have g0' : ¬ (m : Int) = 0 := by omega
  by_cases g1 : m = 1
  ·subst g1
   have st := nJ (T := [Ob.mk true 1 [.str xG, .str eF]]) (cells := aF n) (o := 5) (x := .slc (some (n + 6, 0)) 2) hK2 (by simp [aF]) rfl rfl
   obtain ⟨q1, q2, q3, q4, q5⟩ := mg (T := [Ob.mk true 1 [.str xG, .str eF]]) (cells := (aF n).set 5 (.slc (some (n + 6, 0)) 2)) hK2
   have r5 := iE (T := [Ob.mk true 1 [.str xG, .str eF]]) (cells := (aF n).set 5 (.slc (some (n + 6, 0)) 2)) hK2
   have q6 := fQ (l := [xG, eF]) (row6 (cells := (aF n).set 5 (.slc (some (n + 6, 0)) 2)) (l := [xG, eF])) (by decide) (by decide)
   simp [ae, af, List.lookup, c0, c1, c2, nl, hK2, hPl, ix0, ix1, ax, ah, ay, St.new, aH, ak, mO, Tryz.f104, st, g0']
   exact ⟨fin.1, fin.2, .inr (nlw (by omega)), _, qI r5 (by decide) (by decide) q1 q2 q3 q6 q5 oJ⟩
  have g1' : ¬ (m : Int) = 1 := by omega
  by_cases g2 : m = 2
  ·subst g2
   have st := nJ (T := [Ob.mk true 1 [.str [99, 108, 97, 115, 115], .str jH]]) (cells := aF n) (o := 2) (x := .slc (some (n + 6, 0)) 2) hK2 (by simp [aF]) rfl rfl
   obtain ⟨q1, q2, q3, q4, q5⟩ := mg (T := [Ob.mk true 1 [.str [99, 108, 97, 115, 115], .str jH]]) (cells := (aF n).set 2 (.slc (some (n + 6, 0)) 2)) hK2
   have r5 := iE (T := [Ob.mk true 1 [.str [99, 108, 97, 115, 115], .str jH]]) (cells := (aF n).set 2 (.slc (some (n + 6, 0)) 2)) hK2
   have q6 := fQ (l := [[99, 108, 97, 115, 115], jH]) (row6 (cells := (aF n).set 2 (.slc (some (n + 6, 0)) 2)) (l := [[99, 108, 97, 115, 115], jH])) (by decide) (by decide)
   simp [ae, af, List.lookup, c0, c1, c2, nl, hK2, hPl, ix0, ix1, ax, ah, ay, St.new, aH, ak, mO, Tryz.f104, st, g0', g1']
   exact ⟨fin.1, fin.2, .inr (nlw (by omega)), _, qI r5 (by decide) (by decide) q1 q6 q3 q4 q5 oJ⟩
  have g2' : ¬ (m : Int) = 2 := by omega
  by_cases g3 : m = 3
  ·subst g3
   have cl4 : [V.str dR, .slc (some (n, 0)) 2, .slc (some (n + 1, 0)) 2, .slc (some (n + 2, 0)) 1].length = 4 := rfl
   have ld : ∀ T : LT, T.many 4 → ∀ r c, loadAt T ⟨r, c, K2 ++ bz n (aF n)⟩ (.hp (n + 5) 0) = some (.agg [.str dR, .slc (some (n, 0)) 2, .slc (some (n + 1, 0)) 2, .slc (some (n + 2, 0)) 1]) := pF (by have := iE (T := []) (cells := aF n) hK2; rwa [List.append_nil] at this) (by simp [aF]) (by decide) rfl
   have hG6 : (K2 ++ bz n (aF n)).length = n + 6 := by simp [hK2, hPl]
   have hnc := iQ (d := .struct [(0, 9), (1, 27), (2, 27), (3, 27)]) (by_ := 88) (z := [.str [], .slc none 0, .slc none 0, .slc none 0]) (G := K2 ++ bz n (aF n)) (es := 4) (c := [V.str dR, .slc (some (n, 0)) 2, .slc (some (n + 1, 0)) 2, .slc (some (n + 2, 0)) 1]) (by simp)
   rw [hG6, cl4] at hnc
   have r5 := iE (T := [Ob.mk true 4 [V.str dR, .slc (some (n, 0)) 2, .slc (some (n + 1, 0)) 2, .slc (some (n + 2, 0)) 1]]) (cells := aF n) hK2
   rw [← List.append_assoc] at r5
   have ap := dM (n := 2) (z := [.str [], .slc none 0, .slc none 0, .slc none 0]) rfl (by decide) (by decide) (by decide) r5 (by simp [aF]) hnc (by decide) rfl (by decide)
   rw [List.length_append, hG6] at ap
   simp at ap
   simp [ae, af, List.lookup, c0, c1, c2, nl, hK2, hPl, ix0, ix1, ax, ah, ay, St.new, aH, ak, mO, Tryz.f104, g0', g1', g2', ld, ap]
   rw [nl (by omega)]
   generalize hS : (bz n (aF n)).set 5 Ob.dead ++ [Ob.mk true 4 [V.str dR, V.slc (some (n, 0)) 2, V.slc (some (n + 1, 0)) 2, V.slc (some (n + 2, 0)) 1], Ob.mk true 4 (aF n ++ [V.str dR, V.slc (some (n, 0)) 2, V.slc (some (n + 1, 0)) 2, V.slc (some (n + 2, 0)) 1])] = S
   have at' : ∀ k, (K2 ++ S)[n + k]? = S[k]? := fun k => by rw [← hK2, dw]
   have q1 := fQ (H := K2 ++ S) (i := n) (l := [sV, jF]) (by have := at' 0; rw [Nat.add_zero] at this; rw [this, ← hS]; rfl) (by decide) (by decide)
   have q2 := fQ (H := K2 ++ S) (i := n + 1) (l := [jH, eF]) (by rw [at', ← hS]; rfl) (by decide) (by decide)
   have q3 := fQ (H := K2 ++ S) (i := n + 2) (l := [jF]) (by rw [at', ← hS]; rfl) (by decide) (by decide)
   have q4 := fQ (H := K2 ++ S) (i := n + 3) (l := [xG]) (by rw [at', ← hS]; rfl) (by decide) (by decide)
   have q5 := fQ (H := K2 ++ S) (i := n + 4) (l := [eF]) (by rw [at', ← hS]; rfl) (by decide) (by decide)
   refine ⟨f2.trans .app, s2.app, .inr (nlw (by omega)), _, sQ (l := [⟨dR, [sV, jF], [jH, eF], [jF]⟩, ⟨BR, [xG], [eF], []⟩, ⟨dR, [sV, jF], [jH, eF], [jF]⟩]) (own := true) (cells := aF n ++ [V.str dR, V.slc (some (n, 0)) 2, V.slc (some (n + 1, 0)) 2, V.slc (some (n + 2, 0)) 1]) (by rw [show n + 6 + 1 = n + 7 by omega, at', ← hS]; rfl) (by simp [aF]) (by simp) fun j x hx => ?_⟩
   rcases j with _ | _ | _ | j
   ·simp at hx; subst hx; exact jJ (by decide) q1 q2 q3
   ·simp at hx; subst hx; exact jJ (by decide) q4 q5 oJ
   ·simp at hx; subst hx; exact jJ (by decide) q1 q2 q3
   ·simp at hx
  have g3' : ¬ (m : Int) = 3 := by omega
  simp [ae, af, List.lookup, c0, c1, c2, nl, hK2, hPl, ix0, ix1, ax, ah, ay, St.new, aH, ak, mO, Tryz.f104, g0, g1, g2, g3, g0', g1', g2', g3']
  exact ⟨Ev.gc (f2.trans .app), hs.gc s2.app, .inl rfl, [], aC.2 ⟨_, _, rfl, rfl, by simp, .inl ⟨rfl, rfl⟩⟩⟩
section
variable {id : Nat} {v : V} {G K K' X : List Ob} {w1 w2 : V} {n : Nat}
theorem Ef (hE : Ev id G K) (hS : SrcIn K id v) {w : V} {p : Option (Nat × Nat)} {k : Nat} (hw : w = .slc p k) (h : dZ G w) : dZ K w := by
 subst hw
 cases p with
 | none => trivial
 | some p =>
  obtain ⟨own, es, cells, hx⟩ := h
  by_cases e : p.1 = id
  ·obtain ⟨⟨a, m, z, he⟩, _⟩ := hS.at
   exact ⟨true, 4, _, by rw [e]; exact he⟩
  ·exact ⟨own, es, cells, by rw [hE.2 _ e (List.getElem?_eq_some_iff.1 hx).1]; exact hx⟩
theorem EnQ.base (h : EnQ id v K K' w1 w2 n) (hE : Ev id G K) (hS : SrcIn K id v) : EnQ id v G K' w1 w2 n := by
 obtain ⟨h1, h2, e, h3, h4, h5⟩ := h
 refine ⟨hE.trans h1, h2, e, h3.wide hE.1, h4.imp (fun h => h) fun h hl => h ?_, h5⟩
 obtain ⟨p, hp⟩ := h3.1.shape
 exact Ef hE hS hp hl
theorem EZ {dn : List PRdn} {i j : Nat} {l : List PAttr} {cells : List V} (hE : Ev id G X) (hS : SrcIn X id v) (hi : X[i]? = some (.mk true 2 (fF dn))) (hj : X[j]? = some (.mk true 2 cells)) (hij : i ≠ j) (hbi : G.length ≤ i) (hbj : G.length ≤ j) (hdl : dn.length ≤ 10) (hdb : ∀ r ∈ dn, r.attr.length ≤ 100 ∧ r.value.length ≤ 100)
  (hcl : cells.length = l.length * 2) (hll : l.length ≤ n) (hlb : ∀ a ∈ l, a.vals.length ≤ 100 ∧ ∀ s ∈ a.vals, s.length ≤ 200)
  (hat : ∀ Y : List Ob, (∀ q, q ≠ j → Y[q]? = X[q]?) → ∀ (k : Nat) a, l[k]? = some a → At Y dK ((cells.drop (k * 2)).take 2) a.u) : EnQ id v G X (.slc (some (i, 0)) dn.length) (.slc (some (j, 0)) l.length) n := by
 have hd : ∀ Y : List Ob, Y[i]? = X[i]? → eu Y (.slc (some (i, 0)) dn.length) dn := fun Y hY => qm (b := G.length) ⟨i, hbi, rfl, by rw [hY]; exact hi, GU⟩ (by omega) hdb
 refine ⟨hE, hS, ⟨dn, l⟩, ⟨hd X rfl, .inr ⟨j, cells, hbj, rfl, hj, hcl, hd _ (by rw [List.getElem?_set_ne (fun e => hij e.symm)]), fun k a ha => hat _ (fun q hq => by rw [List.getElem?_set_ne (fun e => hq e.symm)]) k a ha⟩⟩, .inl (by simp), hdl, hll, hlb⟩
end
theorem yO {id : Nat} {v : V} {G : List Ob} (hs : SrcIn G id v) : ∃ w1 w2 G', callW C 105 [.ptr (some (id, 0))] G = some (.agg [w1, w2], G') ∧ EnQ id v G G' w1 w2 40 := by
 suffices hg : Ret C 105 [.ptr (some (id, 0))] G fun q G' => ∃ w1 w2, q = .agg [w1, w2] ∧ EnQ id v G G' w1 w2 40 by
  obtain ⟨q, G', hc, w1, w2, rfl, hr⟩ := hg
  exact ⟨w1, w2, G', hc, hr⟩
 rw [Oi]
 have hid := hs.lt
 obtain ⟨_, K1, c1, l1, e1, s1, nm, rfl, hnm, _⟩ := gq (S := []) hs [[97, 110, 110], [98, 111, 98], [99, 97, 116]] (by decide) (by decide) (by decide)
 have f1 := Ev.app.trans (e1.appS (S := [Ob.mk true 1 [.str [97, 110, 110], .str [98, 111, 98], .str [99, 97, 116]]]) l1)
 obtain ⟨HB, hHB⟩ : ∃ HB, HB = K1 ++ [Ob.mk true 1 [.str [97, 110, 110], .str [98, 111, 98], .str [99, 97, 116]]] := ⟨_, rfl⟩
 have sB : SrcIn HB id v := by rw [hHB]; exact s1.app
 have lB : HB.length = G.length + 1 := by rw [hHB]; simp [l1]
 have lB' : HB.length = K1.length + 1 := by rw [hHB]; simp
 rw [← hHB] at f1
 obtain ⟨_, K2, c2, l2, e2, s2, uid, rfl, hu⟩ := Eg (G := HB) (S := [Ob.mk true 2 (fF [⟨sV, nm⟩, ⟨xG, [120]⟩]), .mk true 1 [.str dR], .mk true 1 [.str nm], .mk true 1 [.str [49], .str [50], .str [51]]]) sB (w := .slc (some (HB.length + 3, 0)) 3) (l := [[49], [50], [51]]) (by
  have := ru (G := HB ++ [Ob.mk true 2 (fF [⟨sV, nm⟩, ⟨xG, [120]⟩]), .mk true 1 [.str dR], .mk true 1 [.str nm]]) (T := []) (l := [[49], [50], [51]]) (by decide) (by decide)
  simpa using this) (by decide) (by decide)
 have hul : uid.length ≤ 100 := by
  simp at hu
  rcases hu with rfl | rfl | rfl <;> simp
 have f2 := f1.trans e2
 obtain ⟨X, hX⟩ : ∃ X, X = K2 ++ [Ob.mk true 2 (fF [⟨sV, nm⟩, ⟨xG, [120]⟩]), .mk true 1 [.str dR], .mk true 1 [.str nm], .mk true 1 [.str [49], .str [50], .str [51]], .mk true 1 [.str uid], .mk true 2 [.str [99, 108, 97, 115, 115], .slc (some (HB.length + 1, 0)) 1, .str sV, .slc (some (HB.length + 2, 0)) 1, .str jF, .slc (some (HB.length + 4, 0)) 1]] := ⟨_, rfl⟩
 have hXg : ∀ k, X[HB.length + k]? = [Ob.mk true 2 (fF [⟨sV, nm⟩, ⟨xG, [120]⟩]), .mk true 1 [.str dR], .mk true 1 [.str nm], .mk true 1 [.str [49], .str [50], .str [51]], .mk true 1 [.str uid], .mk true 2 [.str [99, 108, 97, 115, 115], .slc (some (HB.length + 1, 0)) 1, .str sV, .slc (some (HB.length + 2, 0)) 1, .str jF, .slc (some (HB.length + 4, 0)) 1]][k]? := fun k => by rw [hX, ← l2, dw]
 have hqX : EnQ id v G X (.slc (some (HB.length, 0)) 2) (.slc (some (HB.length + 5, 0)) 3) 17 := by
  refine EZ (dn := [⟨sV, nm⟩, ⟨xG, [120]⟩]) (l := [⟨[99, 108, 97, 115, 115], [dR]⟩, ⟨sV, [nm]⟩, ⟨jF, [uid]⟩]) (by rw [hX]; exact f2.trans .app) (by rw [hX]; exact s2.app) (hXg 0) (hXg 5) (by omega) (by omega) (by omega) (by simp) ?_ rfl (by simp) ?_ fun Y hY k a ha => ?_
  ·intro r hr
   simp at hr
   rcases hr with rfl | rfl
   ·exact ⟨by simp, hnm⟩
   ·exact ⟨by decide, by decide⟩
  ·intro a ha
   simp at ha
   rcases ha with rfl | rfl | rfl
   ·exact ⟨by decide, by decide⟩
   ·exact ⟨by simp, by simp; omega⟩
   ·exact ⟨by simp, by simp; omega⟩
  ·have q1 := fQ (H := Y) (i := HB.length + 1) (l := [dR]) (by rw [hY _ (by omega), hXg]; rfl) (by decide) (by decide)
   have q2 := fQ (H := Y) (i := HB.length + 2) (l := [nm]) (by rw [hY _ (by omega), hXg]; rfl) (by simp) (by simpa using hnm)
   have q3 := fQ (H := Y) (i := HB.length + 4) (l := [uid]) (by rw [hY _ (by omega), hXg]; rfl) (by simp) (by simpa using hul)
   rcases k with _ | _ | _ | k
   ·simp at ha; subst ha; exact jv.2 ⟨_, rfl, by unfold maxLen; simp, q1⟩
   ·simp at ha; subst ha; exact jv.2 ⟨_, rfl, by unfold maxLen; simp, q2⟩
   ·simp at ha; subst ha; exact jv.2 ⟨_, rfl, by unfold maxLen; simp, q3⟩
   ·simp at ha
 have hqone := hqX.ones (by omega)
 obtain ⟨_, K3, c3, l3, e3, s3, t, rfl⟩ := nN (S := []) hqX.2.1 (most := 4) (by decide)
 have hq3 := hqX.to e3 s3 (m := 17) (by omega)
 simp [fF] at c2
 simp at c1 c3
 rw [hX] at c3
 simp [fF] at c3
 rw [hHB] at c2 c3 hqX hq3
 simp at c2 c3 hqX hq3
 cases t with
 | false =>
  obtain ⟨_, K4, c4, l4, e4, s4, n, rfl, hn, _⟩ := LH (S := []) hq3.2.1 (most := 3) (by decide)
  have hn3 : n < 3 := by have := hn (by decide); omega
  have hqS := hq3.to e4 s4 (m := 17) (by omega)
  simp at c4
  simp [zn, Tryz.f105, ay, ax, ah, St.new, aH, ak, c1, c2, c3, c4, lB', l2]
  refine aA (fun k σ => ∃ (r : Nat → R) (K : List Ob) (n : Nat) (w1 w2 : V), σ = ⟨r, n, K⟩ ∧ r 0 = .val (.ptr (some (id, 0))) ∧ r 2 = .box 0 [.slc none 0, .slc none 0] ∧ r 4 = .box 1 [w1, w2] ∧ r 5 = .val (.int .i64 k) ∧ k ≤ 3 ∧ EnQ id v G K w1 w2 17) ?_ n _ ⟨_, _, _, _, _, rfl, by simp, by simp, by simp, by simp, by omega, hqS⟩
  clear hqS
  rintro k σ ⟨r, K, n, w1, w2, rfl, r0, r2, r4, r5, hk3, hq⟩
  obtain ⟨hp1, hp2⟩ := hq.ones (by omega)
  cases k with
  | zero =>
   obtain ⟨_, K5, c5, l5, e5, s5, t, rfl⟩ := nN (S := []) hq.2.1 (most := 12) (by decide)
   simp at c5
   have hq5 := hq.to e5 s5 (m := 17) (by omega)
   cases t with
   | false =>
    simp [r0, r2, r4, r5, ae, af, List.lookup, c5, hp1, hp2, hq5.gc]
    exact ⟨_, _, ⟨rfl, rfl⟩, hq5.to .refl hq5.2.1 (by omega)⟩
   | true =>
    obtain ⟨u1, u2, K6, c6, hq6⟩ := yL hq5.2.1
    have hq7 := hq6.base hq5.1 hq5.2.1
    obtain ⟨hp3, hp4⟩ := hq7.ones (by omega)
    simp [r0, r2, r4, r5, ae, af, List.lookup, c5, c6, hp3, hp4, hq7.gc]
    exact ⟨_, _, ⟨rfl, rfl⟩, hq7⟩
  | succ k =>
   have hk0 : (0 : Int) < (k : Int) + 1 := by omega
   have hw1 : IntKind.i64.wrap ((k : Int) + 1 - 1) = k := by rw [wrap_i64 (by omega) (by omega)]; omega
   have hwk : IntKind.i64.wrap (k : Int) = k := by rw [wrap_i64 (by omega) (by omega)]
   obtain ⟨_, K5, c5, l5, e5, s5, nm, rfl, hnm, _⟩ := gq (S := []) hq.2.1 [jH, eF, sV] (by decide) (by decide) (by decide)
   obtain ⟨_, K6, c6, e6, s6, vl, rfl, hvl⟩ := rY (G := K5 ++ [Ob.mk true 1 [.str jH, .str eF, .str sV]]) s5.app
   have hE6 : Ev id K K6 := (Ev.app.trans (e5.appS (S := [Ob.mk true 1 [.str jH, .str eF, .str sV]]) l5)).trans e6
   have hq6 := hq.to hE6 s6 (m := 17) (by omega)
   obtain ⟨h1, h2, e, h3, h4, h5, h6, h7⟩ := hq6
   obtain ⟨q, H', c7, T, u1, u2, rfl, rfl, hat, hgc, hnl2, hill, hen4⟩ := mF h3.1 (h3.attrs (by unfold maxLen; omega)) (n := nm) (v := vl) (by unfold maxLen; omega) (by unfold maxLen; omega)
   obtain ⟨_, _, hcs, a1, a2, hwf⟩ := dD.1 hat
   cases hcs
   have ho1 := a1.one
   have ho2 := a2.one
   simp at c5
   by_cases g : (cO e nm vl).code = 0
   ·have hlen := jT g
    have hq7 : EnQ id v G (K6 ++ T) u1 u2 17 := ⟨h1.trans .app, h2.app, _, (hen4 g).wide h1.1, .inl fun h => hnl2 g (by rw [h]; trivial), by rw [hlen.1]; exact h5, hlen.2.1, hlen.2.2⟩
    by_cases g2 : e.dn.length = 2
    ·have g2' : (e.dn.length : Int) = 2 := by omega
     simp [r0, r2, r4, r5, ae, af, List.lookup, ax, ah, ay, St.new, c5, c6, c7, hk0, hw1, hwk, g, ho1, ho2, hp1, hp2, h3.1.len, g2, g2']
     exact ⟨k, by omega, _, _, ⟨rfl, rfl⟩, by simp [r0], by simp [r2], _, _, by simp, by simp, by omega, hq7⟩
    ·have g2' : ¬ (e.dn.length : Int) = 2 := by omega
     obtain ⟨_, K8, c8, l8, e8, s8, t, rfl⟩ := nN (S := []) (G := K6 ++ T) h2.app (most := 4) (by decide)
     simp at c8
     have hq8 := hq7.to e8 s8 (m := 17) (by omega)
     have hq9 : EnQ id v G K8 w1 w2 17 := ⟨hq8.1, s8, e, h3.ev h2.at s8.at (Ev.app.trans e8), h4, h5, h6, h7⟩
     cases t with
     | true =>
      simp [r0, r2, r4, r5, ae, af, List.lookup, ax, ah, ay, St.new, c5, c6, c7, c8, hk0, hw1, hwk, g, ho1, ho2, hp1, hp2, h3.1.len, g2, g2']
      exact ⟨k, by omega, _, _, ⟨rfl, rfl⟩, by simp [r0], by simp [r2], _, _, by simp, by simp, by omega, hq8⟩
     | false =>
      simp [r0, r2, r4, r5, ae, af, List.lookup, ax, ah, ay, St.new, c5, c6, c7, c8, hk0, hw1, hwk, g, ho1, ho2, hp1, hp2, h3.1.len, g2, g2']
      exact ⟨k, by omega, _, _, ⟨rfl, rfl⟩, by simp [r0], by simp [r2], _, _, by simp [r4], by simp, by omega, hq9⟩
   ·have hT := hill g
    obtain ⟨rfl, rfl, rfl⟩ := hT
    have hq7 : EnQ id v G K6 w1 w2 17 := ⟨h1, h2, e, h3, h4, h5, h6, h7⟩
    simp [r0, r2, r4, r5, ae, af, List.lookup, ax, ah, ay, St.new, c5, c6, c7, hk0, hw1, hwk, g, ho1, ho2, hp1, hp2]
    exact ⟨k, by omega, _, _, ⟨rfl, rfl⟩, by simp [r0], by simp [r2], _, _, by simp [r4], by simp, by omega, hq7⟩
 | true =>
  have lK3 : K3.length = X.length := l3
  obtain ⟨Y, hY⟩ : ∃ Y, Y = K3 ++ [Ob.mk true 2 (fF [⟨xG, [120]⟩]), .mk true 1 [.str [85, 110, 105, 116]], .mk true 1 [.str [88]], .mk true 2 [.str [99, 108, 97, 115, 115], .slc (some (K3.length + 1, 0)) 1, .str xG, .slc (some (K3.length + 2, 0)) 1]] := ⟨_, rfl⟩
  have hYg : ∀ k, Y[K3.length + k]? = [Ob.mk true 2 (fF [⟨xG, [120]⟩]), .mk true 1 [.str [85, 110, 105, 116]], .mk true 1 [.str [88]], .mk true 2 [.str [99, 108, 97, 115, 115], .slc (some (K3.length + 1, 0)) 1, .str xG, .slc (some (K3.length + 2, 0)) 1]][k]? := fun k => by rw [hY, dw]
  have hle3 : G.length ≤ K3.length := hq3.1.1
  have hqY : EnQ id v G Y (.slc (some (K3.length, 0)) 1) (.slc (some (K3.length + 3, 0)) 2) 17 := by
   refine EZ (dn := [⟨xG, [120]⟩]) (l := [⟨[99, 108, 97, 115, 115], [[85, 110, 105, 116]]⟩, ⟨xG, [[88]]⟩]) (by rw [hY]; exact hq3.1.trans .app) (by rw [hY]; exact hq3.2.1.app) (hYg 0) (hYg 3) (by omega) (by omega) (by omega) (by simp) (by decide) rfl (by simp) (by decide) fun Z hZ k a ha => ?_
   have q1 := fQ (H := Z) (i := K3.length + 1) (l := [[85, 110, 105, 116]]) (by rw [hZ _ (by omega), hYg]; rfl) (by decide) (by decide)
   have q2 := fQ (H := Z) (i := K3.length + 2) (l := [[88]]) (by rw [hZ _ (by omega), hYg]; rfl) (by decide) (by decide)
   rcases k with _ | _ | k
   ·simp at ha; subst ha; exact jv.2 ⟨_, rfl, by unfold maxLen; simp, q1⟩
   ·simp at ha; subst ha; exact jv.2 ⟨_, rfl, by unfold maxLen; simp, q2⟩
   ·simp at ha
  obtain ⟨_, K4, c4, l4, e4, s4, n, rfl, hn, _⟩ := LH (S := []) hqY.2.1 (most := 3) (by decide)
  have hn3 : n < 3 := by have := hn (by decide); omega
  have hqS := hqY.to e4 s4 (m := 17) (by omega)
  rw [hY] at c4
  simp [fF] at c4
  simp [zn, Tryz.f105, ay, ax, ah, St.new, aH, ak, c1, c2, c3, c4, lB', l2]
  refine aA (fun k σ => ∃ (r : Nat → R) (K : List Ob) (n : Nat) (w1 w2 : V), σ = ⟨r, n, K⟩ ∧ r 0 = .val (.ptr (some (id, 0))) ∧ r 2 = .box 0 [.slc none 0, .slc none 0] ∧ r 4 = .box 1 [w1, w2] ∧ r 5 = .val (.int .i64 k) ∧ k ≤ 3 ∧ EnQ id v G K w1 w2 17) ?_ n _ ⟨_, _, _, _, _, rfl, by simp, by simp, by simp, by simp, by omega, hqS⟩
  clear hqS
  rintro k σ ⟨r, K, n, w1, w2, rfl, r0, r2, r4, r5, hk3, hq⟩
  obtain ⟨hp1, hp2⟩ := hq.ones (by omega)
  cases k with
  | zero =>
   obtain ⟨_, K5, c5, l5, e5, s5, t, rfl⟩ := nN (S := []) hq.2.1 (most := 12) (by decide)
   simp at c5
   have hq5 := hq.to e5 s5 (m := 17) (by omega)
   cases t with
   | false =>
    simp [r0, r2, r4, r5, ae, af, List.lookup, c5, hp1, hp2, hq5.gc]
    exact ⟨_, _, ⟨rfl, rfl⟩, hq5.to .refl hq5.2.1 (by omega)⟩
   | true =>
    obtain ⟨u1, u2, K6, c6, hq6⟩ := yL hq5.2.1
    have hq7 := hq6.base hq5.1 hq5.2.1
    obtain ⟨hp3, hp4⟩ := hq7.ones (by omega)
    simp [r0, r2, r4, r5, ae, af, List.lookup, c5, c6, hp3, hp4, hq7.gc]
    exact ⟨_, _, ⟨rfl, rfl⟩, hq7⟩
  | succ k =>
   have hk0 : (0 : Int) < (k : Int) + 1 := by omega
   have hw1 : IntKind.i64.wrap ((k : Int) + 1 - 1) = k := by rw [wrap_i64 (by omega) (by omega)]; omega
   have hwk : IntKind.i64.wrap (k : Int) = k := by rw [wrap_i64 (by omega) (by omega)]
   obtain ⟨_, K5, c5, l5, e5, s5, nm, rfl, hnm, _⟩ := gq (S := []) hq.2.1 [jH, eF, sV] (by decide) (by decide) (by decide)
   obtain ⟨_, K6, c6, e6, s6, vl, rfl, hvl⟩ := rY (G := K5 ++ [Ob.mk true 1 [.str jH, .str eF, .str sV]]) s5.app
   have hE6 : Ev id K K6 := (Ev.app.trans (e5.appS (S := [Ob.mk true 1 [.str jH, .str eF, .str sV]]) l5)).trans e6
   have hq6 := hq.to hE6 s6 (m := 17) (by omega)
   obtain ⟨h1, h2, e, h3, h4, h5, h6, h7⟩ := hq6
   obtain ⟨q, H', c7, T, u1, u2, rfl, rfl, hat, hgc, hnl2, hill, hen4⟩ := mF h3.1 (h3.attrs (by unfold maxLen; omega)) (n := nm) (v := vl) (by unfold maxLen; omega) (by unfold maxLen; omega)
   obtain ⟨_, _, hcs, a1, a2, hwf⟩ := dD.1 hat
   cases hcs
   have ho1 := a1.one
   have ho2 := a2.one
   simp at c5
   by_cases g : (cO e nm vl).code = 0
   ·have hlen := jT g
    have hq7 : EnQ id v G (K6 ++ T) u1 u2 17 := ⟨h1.trans .app, h2.app, _, (hen4 g).wide h1.1, .inl fun h => hnl2 g (by rw [h]; trivial), by rw [hlen.1]; exact h5, hlen.2.1, hlen.2.2⟩
    by_cases g2 : e.dn.length = 2
    ·have g2' : (e.dn.length : Int) = 2 := by omega
     simp [r0, r2, r4, r5, ae, af, List.lookup, ax, ah, ay, St.new, c5, c6, c7, hk0, hw1, hwk, g, ho1, ho2, hp1, hp2, h3.1.len, g2, g2']
     exact ⟨k, by omega, _, _, ⟨rfl, rfl⟩, by simp [r0], by simp [r2], _, _, by simp, by simp, by omega, hq7⟩
    ·have g2' : ¬ (e.dn.length : Int) = 2 := by omega
     obtain ⟨_, K8, c8, l8, e8, s8, t, rfl⟩ := nN (S := []) (G := K6 ++ T) h2.app (most := 4) (by decide)
     simp at c8
     have hq8 := hq7.to e8 s8 (m := 17) (by omega)
     have hq9 : EnQ id v G K8 w1 w2 17 := ⟨hq8.1, s8, e, h3.ev h2.at s8.at (Ev.app.trans e8), h4, h5, h6, h7⟩
     cases t with
     | true =>
      simp [r0, r2, r4, r5, ae, af, List.lookup, ax, ah, ay, St.new, c5, c6, c7, c8, hk0, hw1, hwk, g, ho1, ho2, hp1, hp2, h3.1.len, g2, g2']
      exact ⟨k, by omega, _, _, ⟨rfl, rfl⟩, by simp [r0], by simp [r2], _, _, by simp, by simp, by omega, hq8⟩
     | false =>
      simp [r0, r2, r4, r5, ae, af, List.lookup, ax, ah, ay, St.new, c5, c6, c7, c8, hk0, hw1, hwk, g, ho1, ho2, hp1, hp2, h3.1.len, g2, g2']
      exact ⟨k, by omega, _, _, ⟨rfl, rfl⟩, by simp [r0], by simp [r2], _, _, by simp [r4], by simp, by omega, hq9⟩
   ·have hT := hill g
    obtain ⟨rfl, rfl, rfl⟩ := hT
    have hq7 : EnQ id v G K6 w1 w2 17 := ⟨h1, h2, e, h3, h4, h5, h6, h7⟩
    simp [r0, r2, r4, r5, ae, af, List.lookup, ax, ah, ay, St.new, c5, c6, c7, hk0, hw1, hwk, g, ho1, ho2, hp1, hp2]
    exact ⟨k, by omega, _, _, ⟨rfl, rfl⟩, by simp [r0], by simp [r2], _, _, by simp [r4], by simp, by omega, hq7⟩
theorem Ky : ∃ xr mw : Int → Int → Int, (∀ a b, iO .xor .u64 a b = some (.int .u64 (xr a b))) ∧ (∀ a b, iO .mul .u64 a b = some (.int .u64 (mw a b))) ∧ ∀ a b, 0 ≤ mw a b ∧ mw a b < 18446744073709551616 :=
 ⟨_, _, fun _ _ => rfl, fun _ _ => rfl, fun _ _ => wrap_u64 _⟩
theorem MB {k : IntKind} {a b : Int} : iO .lss k a b = some (.bool (decide (a < b))) := rfl
theorem L8 {k : IntKind} {a b : Int} : iO .add k a b = some (.int k (k.wrap (a + b))) := rfl
def iL (H : List Ob) (v : V) (m z : Int) : List Ob := H ++ [.mk true 4 [v, .int .i64 0, .int .u64 m, .int .i64 z]]
theorem FM {H : List Ob} {v : V} {m z : Int} : iL H v m z = bI (H ++ [.dead]) H.length v 0 m z := by
 unfold iL bI
 rw [List.set_append_right _ _ (Nat.le_refl _), Nat.sub_self]
 rfl
theorem vZ {H : List Ob} {v : V} {us : List U} (hv : At H (.slice (.int .u8)) [v] (.lst us)) : ∃ m z, callW C 76 [v] H = some (.ptr (some (H.length, 0)), iL H v m z) ∧ SrcIn (iL H v m z) H.length v := by
 suffices hg : Ret C 76 [v] H fun q H' => ∃ m z, q = .ptr (some (H.length, 0)) ∧ H' = iL H v m z ∧ SrcIn (iL H v m z) H.length v by
  obtain ⟨q, H', hc, m, z, rfl, rfl, hr⟩ := hg
  exact ⟨m, z, hc, hr⟩
 rw [Ur]
 have hA : ASl H (.int .u8) (fun u => u) v us := by unfold ASl; simpa using hv
 have hb := hA.bound
 unfold maxLen at hb
 have hone := hA.one
 have hok : ∀ {m z : Int}, 0 ≤ m → m < 18446744073709551616 → 0 ≤ z → z ≤ 12 → SrcIn (iL H v m z) H.length v := fun {m z} h1 h2 h3 h4 => ⟨H ++ [.dead], us.length, 0, m, z, FM, ⟨by simp, ⟨us, rfl, by rw [← FM]; exact At.ext hv⟩, by omega, by omega, h1, h2, h3, h4⟩⟩
 have hid : ∀ {m z : Int}, (iL H v m z)[H.length]? = some (.mk true 4 [v, .int .i64 0, .int .u64 m, .int .i64 z]) := get_last
 have lm : ∀ m z, ∀ T : LT, T.one → ∀ r c, loadAt T ⟨r, c, iL H v m z⟩ (.hp H.length 2) = some (.int .u64 m) := fun m z => bM hid rfl
 have lz : ∀ m z, ∀ T : LT, T.one → ∀ r c, loadAt T ⟨r, c, iL H v m z⟩ (.hp H.length 3) = some (.int .i64 z) := fun m z => bM hid rfl
 have sm : ∀ m z (m' : Int), ∀ T : LT, T.one → ∀ r c, storeAt T ⟨r, c, iL H v m z⟩ (.hp H.length 2) (.int .u64 m') = some ⟨r, c, iL H v m' z⟩ := fun m z m' T hT r c => by rw [store1 hid (by simp) rfl rfl T hT r c]; simp [iL]
 have sz : ∀ m z (z' : Int), ∀ T : LT, T.one → ∀ r c, storeAt T ⟨r, c, iL H v m z⟩ (.hp H.length 3) (.int .i64 z') = some ⟨r, c, iL H v m z'⟩ := fun m z z' T hT r c => by rw [store1 hid (by simp) rfl rfl T hT r c]; simp [iL]
 have hg : ∀ {m z : Int}, eU H (iL H v m z) (.ptr (some (H.length, 0))) = iL H v m z := fun {m z} => gJ (by
  rintro ⟨own, es, cells, h⟩
  have := (List.getElem?_eq_some_iff.1 h).1
  omega)
 simp [IB, Tryz.f76, hone, ax, ah, St.new, aH, ak, aV]
 refine aA (fun k σ => ∃ (i : Nat) (r : Nat → R) (m : Int), i + k = us.length ∧ σ = ⟨r, 0, iL H v m 0⟩ ∧ r 0 = .val v ∧ r 3 = .val (.ptr (some (H.length, 0))) ∧ r 4 = .val (.int .i64 i) ∧ 0 ≤ m ∧ m < 18446744073709551616) ?_ us.length _ ⟨0, _, 88172645463325252, by simp, by unfold iL; rfl, by simp, by simp, by simp, by omega, by omega⟩
 rintro k σ ⟨i, r, m, hik, rfl, r0, r3, r4, hm0, hm1⟩
 have hln := fun {e s b : Nat} {z : List V} => hA.len (e := e) (s := s) (b := b) (z := z)
 by_cases g : i < us.length ∧ i < 64
 ·obtain ⟨g1, g2⟩ := g
  have hw1 : IntKind.i64.wrap ((i : Int) + 1) = ((i : Int) + 1) := wrap_i64 (by omega) (by omega)
  cases k with
  | zero => omega
  | succ k =>
  obtain ⟨idb, o, own, cells, q1, q2, q3, q4⟩ := ASl.idx (H := iL H v m 0) (ASl.ext hA) (List.getElem?_eq_getElem g1) (by decide)
  obtain ⟨b, q4, _, q5⟩ := nY.1 q4
  have q1' : ∀ (e s b : Nat) (z : List V) (ty : Nat → LT) (k : IntKind), (ty e).size = 1 → dE ⟨.slice e, s, b, z⟩ ty (.val v) (.int k i) = some (.val (.ptr (some (idb, o)))) := q1
  have lb : ∀ T : LT, T.one → ∀ r c, loadAt T ⟨r, c, iL H v m 0⟩ (.hp idb o) = some (.int .u8 b) := bM q2 (by simpa using dH q4 (j := 0) rfl)
  have g2' : (i : Int) < 64 := by omega
  obtain ⟨xr, mw, hxr, hmw, hmi⟩ := Ky
  simp [-iO, MB, L8, hxr, hmw, r0, r3, r4, g1, g2, g2', hln, q1', lb, lm, sm, hw1, ae, af, List.lookup, lI]
  exact ⟨k, by omega, i + 1, by omega, _, _, ⟨rfl, rfl⟩, by simp [r0], by simp [r3], by simp, (hmi _ _).1, (hmi _ _).2⟩
 ·have e : ∃ t : Bool, t = false := ⟨_, rfl⟩
  by_cases g1 : i < us.length
  ·have hdv : IntKind.i64.wrap ((us.length : Int) / 20) = (us.length : Int) / 20 := wrap_i64 (by omega) (by omega)
   have g2 : ¬ (i : Int) < 64 := by omega
   have g2' : ¬ i < 64 := by omega
   simp [r0, r3, r4, g1, g2, g2', hln, lz, sz, hdv, hg, ae, af, List.lookup]
   by_cases g3 : (12 : Int) < (us.length : Int) / 20
   ·rw [if_pos g3]
    exact ⟨m, 12, rfl, hok hm0 hm1 (by decide) (by decide)⟩
   ·rw [if_neg g3]
    exact ⟨m, _, rfl, hok hm0 hm1 (by omega) (by omega)⟩
  ·have hdv : IntKind.i64.wrap ((us.length : Int) / 20) = (us.length : Int) / 20 := wrap_i64 (by omega) (by omega)
   simp [r0, r3, r4, g1, hln, lz, sz, hdv, hg, ae, af, List.lookup]
   by_cases g3 : (12 : Int) < (us.length : Int) / 20
   ·rw [if_pos g3]
    exact ⟨m, 12, rfl, hok hm0 hm1 (by decide) (by decide)⟩
   ·rw [if_neg g3]
    exact ⟨m, _, rfl, hok hm0 hm1 (by omega) (by omega)⟩
end Go.Proofs.Try1
end
section
namespace Go.Lite
open Go
def Nz (c c' : V) : Prop := c' = c ∨ ((∃ s, c = .str s) ∧ ∃ s', c' = .str s' ∧ s'.length ≤ maxLen)
def SimCs (cs cs' : List V) : Prop := cs'.length = cs.length ∧ ∀ (i : Nat) c c', cs[i]? = some c → cs'[i]? = some c' → Nz c c'
def SimH (G G' : List Ob) : Prop := ∀ (id : Nat) own es cells, G[id]? = some (.mk own es cells) → ∃ cells', G'[id]? = some (.mk own es cells') ∧ SimCs cells cells'
section
variable {G G' : List Ob} {cs cs' a b : List V} {u : U}
theorem SimCs.refl : SimCs cs cs := ⟨rfl, fun i c c' h h' => by rw [h] at h'; cases h'; exact .inl rfl⟩
theorem SimCs.one {c : V} (h : SimCs [c] cs') : ∃ c', cs' = [c'] ∧ Nz c c' := by
 obtain ⟨hl, hc⟩ := h
 obtain ⟨c', rfl⟩ := List.length_eq_one_iff.1 hl
 exact ⟨c', rfl, hc 0 c c' rfl rfl⟩
theorem SimCs.chunk (h : SimCs cs cs') (o n : Nat) : SimCs ((cs.drop o).take n) ((cs'.drop o).take n) := by
 refine ⟨by simp [h.1], fun i c c' h1 h2 => ?_⟩
 have hi : i < n := by
  have := (List.getElem?_eq_some_iff.1 h1).1
  simp at this; omega
 rw [List.getElem?_take_of_lt hi, List.getElem?_drop] at h1 h2
 exact h.2 _ c c' h1 h2
theorem SimCs.split (h : SimCs (a ++ b) cs') : ∃ a' b', cs' = a' ++ b' ∧ SimCs a a' ∧ SimCs b b' := by
 have hl : a.length ≤ cs'.length := by rw [h.1]; simp
 refine ⟨cs'.take a.length, cs'.drop a.length, (List.take_append_drop _ _).symm, ⟨by rw [List.length_take]; omega, fun i c c' h1 h2 => ?_⟩, ⟨by rw [List.length_drop, h.1]; simp, fun i c c' h1 h2 => ?_⟩⟩
 ·have hi := (List.getElem?_eq_some_iff.1 h1).1
  rw [List.getElem?_take_of_lt hi] at h2
  exact h.2 i c c' (by rw [List.getElem?_append_left hi]; exact h1) h2
 ·rw [List.getElem?_drop] at h2
  exact h.2 _ c c' (by rw [List.getElem?_append_right (by omega), Nat.add_sub_cancel_left]; exact h1) h2
mutual
theorem At.sim (hG : SimH G G') : ∀ (sh : Sh) {cs cs' : List V} {u : U}, At G sh cs u → SimCs cs cs' → ∃ u', At G' sh cs' u'
 | .int k, _, _, _, h, hs => by
  obtain ⟨n, rfl, rfl, hw⟩ := nY.1 h
  obtain ⟨c', rfl, rfl | ⟨⟨s, hc⟩, _⟩⟩ := hs.one
  ·exact ⟨_, nY.2 ⟨n, rfl, rfl, hw⟩⟩
  ·cases hc
 | .bool, _, _, _, h, hs => by
  obtain ⟨n, rfl, rfl⟩ := uF.1 h
  obtain ⟨c', rfl, rfl | ⟨⟨s, hc⟩, _⟩⟩ := hs.one
  ·exact ⟨_, uF.2 ⟨n, rfl, rfl⟩⟩
  ·cases hc
 | .str, _, _, _, h, hs => by
  obtain ⟨s, rfl, rfl, hl⟩ := ed.1 h
  obtain ⟨c', rfl, rfl | ⟨_, s', rfl, hl'⟩⟩ := hs.one
  ·exact ⟨_, ed.2 ⟨s, rfl, rfl, hl⟩⟩
  ·exact ⟨_, ed.2 ⟨s', rfl, rfl, hl'⟩⟩
 | .slice e, _, _, _, h, hs => by
  obtain ⟨v, l, rfl, rfl, hl, hsl⟩ := aC.1 h
  obtain ⟨c', rfl, hc | ⟨⟨s, hc⟩, _⟩⟩ := hs.one
  rotate_left
  ·subst hc
   rcases hsl with ⟨h, _⟩ | ⟨_, _, _, _, h, _⟩ <;> cases h
  subst hc
  rcases hsl with ⟨rfl, rfl⟩ | ⟨id, off, own, cells, rfl, h2, h3, h4⟩
  ·exact ⟨_, aC.2 ⟨_, [], rfl, rfl, by simp, .inl ⟨rfl, rfl⟩⟩⟩
  ·obtain ⟨cells', h5, h6⟩ := hG _ _ _ _ h2
   have hex : ∀ i : Nat, i < l.length → ∃ u', At G' e ((cells'.drop (off + i * e.size)).take e.size) u' := fun i hi =>
    At.sim hG e (h4 i _ (List.getElem?_eq_getElem hi)) (h6.chunk _ _)
   refine ⟨.lst ((List.range l.length).map fun i => if hi : i < l.length then (hex i hi).choose else .lst []), aC.2 ⟨_, _, rfl, rfl, by simpa using hl, .inr ⟨id, off, own, cells', by simp, h5, by rw [h6.1]; simpa using h3, fun i x hx => ?_⟩⟩⟩
   rw [List.getElem?_map] at hx
   obtain ⟨j, hj, rfl⟩ := Option.map_eq_some_iff.1 hx
   obtain ⟨hi, rfl⟩ := List.getElem?_eq_some_iff.1 hj
   simp at hi
   simp only [List.getElem_range, hi, dif_pos]
   exact (hex i hi).choose_spec
 | .st fs, _, _, _, h, hs => by
  obtain ⟨us, hu, h0⟩ := kS.1 h
  obtain ⟨us', h'⟩ := Ats.sim hG fs h0 hs
  exact ⟨_, kS.2 ⟨us', rfl, h'⟩⟩
theorem Ats.sim (hG : SimH G G') : ∀ (fs : List Sh) {cs cs' : List V} {us : List U}, Ats G fs cs us → SimCs cs cs' → ∃ us', Ats G' fs cs' us'
 | [], _, cs', _, h, hs => by
  obtain ⟨rfl, rfl⟩ := fV.1 h
  have : cs' = [] := List.length_eq_zero_iff.1 hs.1
  subst this
  exact ⟨_, fV.2 ⟨rfl, rfl⟩⟩
 | f :: fs, _, _, _, h, hs => by
  obtain ⟨c1, c2, u1, us1, rfl, rfl, h1, h2⟩ := bn.1 h
  obtain ⟨a', b', rfl, ha, hb⟩ := hs.split
  obtain ⟨u', h1'⟩ := At.sim hG f h1 ha
  obtain ⟨us', h2'⟩ := Ats.sim hG fs h2 hb
  exact ⟨_, bn.2 ⟨_, _, _, _, rfl, rfl, h1', h2'⟩⟩
end
theorem SimH.set {id o : Nat} {own : Bool} {es : Nat} {cells : List V} {s s' : Str} (h : G[id]? = some (.mk own es cells)) (hc : cells[o]? = some (.str s)) (hs : s'.length ≤ maxLen) : SimH G (G.set id (.mk own es (cells.set o (.str s')))) := fun q own' es' cells' hq => by
 have hid := (List.getElem?_eq_some_iff.1 h).1
 by_cases e : id = q
 ·subst e
  rw [h] at hq
  cases hq
  refine ⟨_, List.getElem?_set_self hid, by simp, fun i c c' h1 h2 => ?_⟩
  by_cases ho : o = i
  ·subst ho
   rw [List.getElem?_set_self (List.getElem?_eq_some_iff.1 hc).1] at h2
   rw [hc] at h1
   cases h1; cases h2
   exact .inr ⟨⟨_, rfl⟩, _, rfl, hs⟩
  ·rw [List.getElem?_set_ne ho] at h2
   rw [h1] at h2; cases h2; exact .inl rfl
 ·exact ⟨cells', by rw [List.getElem?_set_ne e]; exact hq, .refl⟩
end
end Go.Lite
end
section
namespace Go.Proofs.Try1
open Go Go.Lite
attribute [-simp] df eP
attribute [local simp] bZ dY bW cZ bY bJ
attribute [local simp low] cu
section
variable {H K K' : List Ob} {v w1 w2 : V} {m z : Int} {n : Nat}
theorem wo : (iL H v m z).length = H.length + 1 := by simp [iL]
theorem Iz (h : Ev H.length (iL H v m z) K) : ∃ T, K = H ++ T := by
 have hl : H.length ≤ K.length := by have := h.1; rw [wo] at this; omega
 refine ⟨K.drop H.length, ?_⟩
 apply List.ext_getElem?
 intro q
 by_cases hq : q < H.length
 ·rw [List.getElem?_append_left hq, h.2 q (by omega) (by rw [wo]; omega)]
  unfold iL
  rw [List.getElem?_append_left hq]
 ·rw [List.getElem?_append_right (by omega), List.getElem?_drop]
  congr 1
  omega
theorem EnQ.out (h : EnQ H.length v (iL H v m z) K w1 w2 n) (hn : n ≤ 1000) : ∃ T e, K = H ++ T ∧ eu K w1 e.dn ∧ bD K w2 e.attrs ∧ (pJ e ∧ ∀ a ∈ e.attrs, ∀ s ∈ a.vals, s.length ≤ 200) ∧ ¬ dZ H (.agg [w1, w2]) := by
 obtain ⟨h1, h2, e, h3, h4, h5, h6, h7⟩ := h
 obtain ⟨T, rfl⟩ := Iz h1
 refine ⟨T, e, rfl, h3.1, h3.attrs (by unfold maxLen; omega), ⟨⟨by omega, by omega, fun a ha => by have := (h7 a ha).1; omega⟩, fun a ha => (h7 a ha).2⟩, yz h3 (by rw [wo]; omega) (h4.imp id fun h hl => h ?_)⟩
 obtain ⟨p, rfl⟩ := h3.1.shape
 exact qL hl
end
theorem iC {id : Nat} {v : V} {K K' : List Ob} {w : V} {l : List PClass} (hS : SrcIn K id v) (hS' : SrcIn K' id v) (hE : Ev id K K') (h : aP K w l) : aP K' w l := At.ev (by decide) hS.at hS'.at hE h
def kE (H : List Ob) (q : V) (H' : List Ob) : Prop := ∃ (T : List Ob) (w w1 w2 : V) (l : List PClass) (e : PEntry), q = .tup [w, .agg [w1, w2]] ∧ H' = H ++ T ∧ aP (H ++ T) w l ∧ eu (H ++ T) w1 e.dn ∧ bD (H ++ T) w2 e.attrs
section
variable {H K : List Ob} {v w w1 w2 : V} {m z : Int} {n : Nat} {l : List PClass}
theorem jZ (hq : EnQ H.length v (iL H v m z) K w1 w2 n) (hn : n ≤ 1000) (hl : aP K w l) : eU H K (.tup [w, .agg [w1, w2]]) = K ∧ kE H (.tup [w, .agg [w1, w2]]) K := by
 obtain ⟨T, e, rfl, h1, h2, _, h4⟩ := hq.out hn
 exact ⟨gJ fun h => h4 h.2.1, T, w, w1, w2, l, e, rfl, rfl, hl, h1, h2⟩
end
theorem J5 {H : List Ob} {v : V} {us : List U} (hv : At H (.slice (.int .u8)) [v] (.lst us)) : ∃ q H', callW C 22 [v] H = some (q, H') ∧ kE H q H' := by
 suffices hg : Ret C 22 [v] H (kE H) by
  obtain ⟨q, G', hc, hr⟩ := hg
  exact ⟨q, G', hc, hr⟩
 rw [TQ]
 have hone : aJ v = true ∧ cellsOf v = some [v] := by
  have hA : ASl H (.int .u8) (fun u => u) v us := by unfold ASl; simpa using hv
  exact hA.one
 obtain ⟨m, z, c1, s1⟩ := vZ hv
 obtain ⟨w, K1, c2, e1, s2, _, l, hl⟩ := pW s1
 have ow := hl.one
 obtain ⟨w1, w2, K2, c3, hq0⟩ := yO s2
 have hq := hq0.base e1 s2
 obtain ⟨hp1, hp2⟩ := hq.ones (by omega)
 have hl2 := iC s2 hq0.2.1 hq0.1 hl
 obtain ⟨_, K3, c4, l4, e4, s4, t, rfl⟩ := nN (S := []) hq.2.1 (most := 4) (by decide)
 simp at c4
 have hq4 := hq.to e4 s4 (m := 40) (by omega)
 have hl4 := iC hq0.2.1 s4 e4 hl2
 cases t with
 | false =>
  obtain ⟨hgc, fin⟩ := jZ hq4 (by omega) hl4
  simp [y7, Tryz.f22, hone, c1, c2, c3, c4, ow, hp1, hp2, ax, ah, ay, St.new, aH, ak, ae, af, List.lookup, hgc]
  exact fin
 | true =>
  obtain ⟨_, K5, c5, l5, e5, s5, nm, rfl, hnm, _⟩ := gq (S := []) hq4.2.1 [jF, [111, 100, 100], [99, 108, 97, 115, 115]] (by decide) (by decide) (by decide)
  have hE6 : Ev H.length K3 (K5 ++ [Ob.mk true 1 [.str jF, .str [111, 100, 100], .str [99, 108, 97, 115, 115]]]) := Ev.app.trans (e5.appS (S := [Ob.mk true 1 [.str jF, .str [111, 100, 100], .str [99, 108, 97, 115, 115]]]) l5)
  have hq6 := hq4.to hE6 s5.app (m := 40) (by omega)
  have hl6 := iC s4 s5.app hE6 hl4
  simp at c5
  obtain ⟨h1, h2, e, h3, h4, h5, h6, h7⟩ := hq6
  obtain ⟨q, H', c7, T, u1, u2, rfl, rfl, hat, hgc7, hnl2, hill, hen4⟩ := mF h3.1 (h3.attrs (by unfold maxLen; omega)) (n := nm) (v := [57]) (by unfold maxLen; omega) (by unfold maxLen; simp)
  obtain ⟨_, _, hcs, a1, a2, hwf⟩ := dD.1 hat
  cases hcs
  have ho1 := a1.one
  have ho2 := a2.one
  by_cases g : (cO e nm [57]).code = 0
  ·have hlen := jT g
   have hq7 : EnQ H.length v (iL H v m z) (K5 ++ [Ob.mk true 1 [.str jF, .str [111, 100, 100], .str [99, 108, 97, 115, 115]]] ++ T) u1 u2 17 := ⟨h1.trans .app, h2.app, _, (hen4 g).wide h1.1, .inl fun h => hnl2 g (by rw [h]; trivial), by rw [hlen.1]; exact h5, hlen.2.1, hlen.2.2⟩
   obtain ⟨hgc, fin⟩ := jZ hq7 (by omega) hl6.ext
   simp at c7 hgc fin
   simp [y7, Tryz.f22, hone, c1, c2, c3, c4, c5, c7, g, ow, hp1, hp2, ho1, ho2, ax, ah, ay, St.new, aH, ak, ae, af, List.lookup, hgc]
   exact fin
  ·obtain ⟨rfl, rfl, rfl⟩ := hill g
   have hq7 : EnQ H.length v (iL H v m z) (K5 ++ [Ob.mk true 1 [.str jF, .str [111, 100, 100], .str [99, 108, 97, 115, 115]]]) w1 w2 40 := ⟨h1, h2, e, h3, h4, h5, h6, h7⟩
   obtain ⟨hgc, fin⟩ := jZ hq7 (by omega) hl6
   simp at c7
   simp [y7, Tryz.f22, hone, c1, c2, c3, c4, c5, c7, g, ow, hp1, hp2, ax, ah, ay, St.new, aH, ak, ae, af, List.lookup, hgc]
   exact fin
theorem Gj {H : List Ob} {v : V} {us : List U} (hv : At H (.slice (.int .u8)) [v] (.lst us)) : ∃ q H', callW C 24 [v] H = some (q, H') ∧ kE H q H' := by
 suffices hg : Ret C 24 [v] H (kE H) by
  obtain ⟨q, G', hc, hr⟩ := hg
  exact ⟨q, G', hc, hr⟩
 rw [TW]
 have hone : aJ v = true ∧ cellsOf v = some [v] := by
  have hA : ASl H (.int .u8) (fun u => u) v us := by unfold ASl; simpa using hv
  exact hA.one
 obtain ⟨m, z, c1, s1⟩ := vZ hv
 obtain ⟨w, K1, c2, e1, s2, _, l, hl⟩ := pW s1
 have ow := hl.one
 obtain ⟨w1, w2, K2, c3, hq0⟩ := yO s2
 have hq := hq0.base e1 s2
 obtain ⟨hp1, hp2⟩ := hq.ones (by omega)
 have hl2 := iC s2 hq0.2.1 hq0.1 hl
 obtain ⟨_, K3, c4, l4, e4, s4, t, rfl⟩ := nN (S := []) hq.2.1 (most := 2) (by decide)
 simp at c4
 have hq4 := hq.to e4 s4 (m := 40) (by omega)
 have hl4 := iC hq0.2.1 s4 e4 hl2
 obtain ⟨hgc, fin⟩ := jZ hq4 (by omega) hl4
 cases t with
 | false =>
  simp [zx, Tryz.f24, hone, c1, c2, c3, c4, ow, hp1, hp2, ax, ah, ay, St.new, aH, ak, ae, af, List.lookup, hgc]
  exact fin
 | true =>
  have hq5 := hq4
  obtain ⟨h1, h2, e, h3, h4, h5, h6, h7⟩ := hq5
  have c5 := qw h3.1 (h3.attrs (by unfold maxLen; omega))
  by_cases g : EntryOk e
  rotate_left
  ·rw [ai g] at c5
   simp [zx, Tryz.f24, hone, c1, c2, c3, c4, c5, ow, hp1, hp2, ax, ah, ay, St.new, aH, ak, ae, af, List.lookup, hgc]
   exact fin
  rw [aj g] at c5
  obtain ⟨_, K5, c6, l5, e5, s5, nm, rfl, hnm, _⟩ := gq (S := []) hq4.2.1 [jF, sV] (by decide) (by decide) (by decide)
  have hE6 : Ev H.length K3 (K5 ++ [Ob.mk true 1 [.str jF, .str sV]]) := Ev.app.trans (e5.appS (S := [Ob.mk true 1 [.str jF, .str sV]]) l5)
  have h36 := h3.ev h2.at (SrcIn.app (T := [Ob.mk true 1 [.str jF, .str sV]]) s5).at hE6
  have hl6 := iC s4 s5.app hE6 hl4
  simp at c6
  obtain ⟨T, u1, u2, c7, hat, hnl, hen⟩ := Jw (vv := .slc none 0) (vs := []) h36.1 (h36.attrs (by unfold maxLen; omega)) (EntryOk.small g) (EntryOk.rise g) (n := nm) (by unfold maxLen; omega) oJ (by simp)
  obtain ⟨_, _, hcs, a1, a2⟩ := jC.1 hat
  cases hcs
  have ho1 := a1.one
  have ho2 := a2.one
  obtain ⟨TF, hTF⟩ := Iz ((h1.trans hE6).trans (Ev.app (T := T)))
  have hnlH : ¬ dZ H (.tup [w, .agg [u1, u2]]) := fun h => hnl (by
   obtain ⟨p, rfl⟩ := a2.shape
   exact Ef ((((Ev.app (T := [Ob.mk true 4 [v, .int .i64 0, .int .u64 m, .int .i64 z]])).trans (h1.trans hE6)))) s5.app rfl h.2.1.2.1)
  have hgc2 := gJ (G := K5 ++ [Ob.mk true 1 [.str jF, .str sV]] ++ T) hnlH
  have fin2 : kE H (.tup [w, .agg [u1, u2]]) (K5 ++ [Ob.mk true 1 [.str jF, .str sV]] ++ T) := ⟨TF, w, u1, u2, l, _, rfl, hTF, by rw [← hTF]; exact hl6.ext, by rw [← hTF]; exact a1, by rw [← hTF]; exact a2⟩
  simp at c7 hgc2 fin2
  simp [zx, Tryz.f24, hone, c1, c2, c3, c4, c5, c6, c7, ow, hp1, hp2, ho1, ho2, ax, ah, ay, St.new, aH, ak, ae, af, List.lookup, hgc2]
  exact fin2
def yw (H : List Ob) (q : V) (H' : List Ob) : Prop := ∃ (T : List Ob) (w : V) (s : Str) (l : List PClass), q = .tup [w, .str s] ∧ H' = H ++ T ∧ aP (H ++ T) w l ∧ s.length ≤ 100
theorem Hq {H : List Ob} {v : V} {us : List U} (hv : At H (.slice (.int .u8)) [v] (.lst us)) : ∃ q H', callW C 25 [v] H = some (q, H') ∧ yw H q H' := by
 suffices hg : Ret C 25 [v] H (yw H) by
  obtain ⟨q, G', hc, hr⟩ := hg
  exact ⟨q, G', hc, hr⟩
 rw [TA]
 have hone : aJ v = true ∧ cellsOf v = some [v] := by
  have hA : ASl H (.int .u8) (fun u => u) v us := by unfold ASl; simpa using hv
  exact hA.one
 obtain ⟨m, z, c1, s1⟩ := vZ hv
 obtain ⟨w, K1, c2, e1, s2, hlow, l, hl⟩ := pW s1
 have ow := hl.one
 obtain ⟨_, K5, c5, l5, e5, s5, nm, rfl, hnm, _⟩ := gq (S := []) s2 [dR, BR, [110, 111, 110, 101]] (by decide) (by decide) (by decide)
 have hE6 : Ev H.length K1 (K5 ++ [Ob.mk true 1 [.str dR, .str BR, .str [110, 111, 110, 101]]]) := Ev.app.trans (e5.appS (S := [Ob.mk true 1 [.str dR, .str BR, .str [110, 111, 110, 101]]]) l5)
 have hl6 := iC s2 s5.app hE6 hl
 obtain ⟨TF, hTF⟩ := Iz (e1.trans hE6)
 simp at c5
 simp [JP, Tryz.f25, hone, c1, c2, c5, ow, ax, ah, ay, St.new, aH, ak, ae, af, List.lookup]
 rw [hTF] at hl6 ⊢
 rcases hlow with rfl | hlow
 ·have hl0 : l = [] := by
   obtain ⟨_, us, hw, hu, _, hs⟩ := aC.1 hl6
   cases hw
   injection hu with hu
   rcases hs with ⟨_, hs⟩ | ⟨_, _, _, _, hs, _⟩
   ·rw [← hu] at hs; simpa using hs
   ·cases hs
  subst hl0
  have hnil : ∀ X, aP X (.slc none 0) [] := fun X => aC.2 ⟨_, _, rfl, rfl, by simp, .inl ⟨rfl, rfl⟩⟩
  unfold eU
  split
  ·exact ⟨[], _, nm, [], rfl, by simp, hnil _, hnm⟩
  ·exact ⟨TF, _, nm, [], rfl, rfl, hnil _, hnm⟩
 ·rw [gJ fun h => hlow (by
   obtain ⟨p, rfl⟩ := hl6.shape
   exact Ef (Ev.app (T := [Ob.mk true 4 [v, .int .i64 0, .int .u64 m, .int .i64 z]])) s1 rfl h.1)]
  exact ⟨TF, w, nm, l, rfl, rfl, hl6, hnm⟩
end Go.Proofs.Try1
end
section
namespace Go.Lite
open Go
structure PNode where
 op : Int
 attr : Str
 value : Str
 many : Int
def PNode.u (n : PNode) : U := .st [.int n.op, .str n.attr, .str n.value, .int n.many]
abbrev PNode.cs (n : PNode) : List V := [.int .i64 n.op, .str n.attr, .str n.value, .int .i64 n.many]
section
variable {H : List Ob} {v : V}
theorem ASl.drop {α : Type} {sh : Sh} {f : α → U} {l : List α} (h : ASl H sh f v l) {k : Nat} (hk : k ≤ l.length) (h0 : 0 < l.length) :
  ∃ id off own cells, v = .slc (some (id, off)) l.length ∧ H[id]? = some (.mk own sh.size cells) ∧ ASl H sh f (.slc (some (id, off + k * sh.size)) (l.length - k)) (l.drop k) := by
 have hb := h.bound
 rcases h.sl with ⟨rfl, h1⟩ | ⟨id, off, own, cells, rfl, h2, h3, h4⟩
 ·have : l = [] := by simpa using h1
  subst this
  simp at h0
 ·rw [List.length_map] at h3 ⊢
  refine ⟨id, off, own, cells, rfl, h2, ?_⟩
  refine aC.2 ⟨_, _, rfl, rfl, by simp; omega, .inr ⟨id, off + k * sh.size, own, cells, by simp, h2, ?_, fun i x hx => ?_⟩⟩
  ·rw [List.length_map, List.length_drop, Nat.add_assoc, ← Nat.add_mul]
   rw [show k + (l.length - k) = l.length by omega]
   exact h3
  ·have := h4 (k + i) x (by rw [List.getElem?_map] at hx ⊢; rw [List.getElem?_drop] at hx; exact hx)
   rw [Nat.add_assoc, ← Nat.add_mul]
   exact this
end
theorem ASl.ofSl {H : List Ob} {α : Type} {sh : Sh} {f : α → U} {v : V} {l : List α} (h : Sl H sh.size (At H sh) v (l.map f)) (hb : l.length ≤ maxLen) : ASl H sh f v l := aC.2 ⟨v, _, rfl, rfl, by simpa using hb, h⟩
theorem ASl.cut {H : List Ob} {α : Type} {sh : Sh} {f : α → U} {v : V} {l : List α} (h : ASl H sh f v l) {i : Nat} (hi : i ≤ l.length) :
  ∃ s1 s2 : V, ASl H sh f s1 (l.take i) ∧ ASl H sh f s2 (l.drop i) ∧
   ((v = .slc none 0 ∧ s1 = .slc none 0 ∧ s2 = .slc none 0 ∧ i = 0 ∧ l = []) ∨ ∃ id off, v = .slc (some (id, off)) l.length ∧ s1 = .slc (some (id, off)) i ∧ s2 = .slc (some (id, off + i * sh.size)) (l.length - i) ∧ ∀ G, (∃ S, G = H ++ S) → aY G id sh.size = true) := by
 have hb := h.bound
 rcases h.sl with ⟨rfl, h1⟩ | ⟨id, off, own, cells, hv, h2, h3, h4⟩
 ·have h0 : l = [] := by simpa using h1
  subst h0
  have hi0 : i = 0 := by simpa using hi
  subst hi0
  exact ⟨.slc none 0, .slc none 0, h, h, .inl ⟨rfl, rfl, rfl, rfl, rfl⟩⟩
 ·rw [List.length_map] at hv h3
  have hget : ∀ j, (l.map f)[j]? = (l[j]?).map f := fun j => List.getElem?_map
  refine ⟨.slc (some (id, off)) i, .slc (some (id, off + i * sh.size)) (l.length - i), ASl.ofSl (.inr ⟨id, off, own, cells, ?_, h2, ?_, fun j x hx => ?_⟩) ?_, ASl.ofSl (.inr ⟨id, off + i * sh.size, own, cells, ?_, h2, ?_, fun j x hx => ?_⟩) ?_, .inr ⟨id, off, hv, rfl, rfl, ?_⟩⟩
  ·simp; omega
  ·rw [List.length_map, List.length_take, Nat.min_eq_left hi]
   exact Nat.le_trans (Nat.add_le_add_left (Nat.mul_le_mul_right _ hi) _) h3
  ·rw [List.getElem?_map] at hx
   obtain ⟨y, hy, rfl⟩ := Option.map_eq_some_iff.1 hx
   have hj : j < i := by have := (List.getElem?_eq_some_iff.1 hy).1; simp at this; omega
   rw [List.getElem?_take_of_lt hj] at hy
   exact h4 j _ (by rw [hget, hy]; rfl)
  ·simp; omega
  ·simp
  ·rw [List.length_map, List.length_drop, Nat.add_assoc, ← Nat.add_mul, show i + (l.length - i) = l.length by omega]
   exact h3
  ·rw [List.getElem?_map, List.getElem?_drop] at hx
   obtain ⟨y, hy, rfl⟩ := Option.map_eq_some_iff.1 hx
   rw [Nat.add_assoc, ← Nat.add_mul]
   exact h4 (i + j) _ (by rw [hget, hy]; rfl)
  ·simp; omega
  ·rintro G ⟨S, rfl⟩
   unfold aY
   rw [aW _ _ h2]
   simp
theorem AStrs.low {H T : List Ob} {w : V} {l : List Str} (h : AStrs (H ++ T) w l) (hl : dZ H w) : AStrs H w l := by
 rcases h.sl with ⟨hw, h1⟩ | ⟨id, off, own, cells, hv, h2, h3, h4⟩
 ·exact ASl.ofSl (.inl ⟨hw, h1⟩) h.bound
 ·rw [hv] at hl
  simp only [dZ] at hl
  obtain ⟨_, _, _, h0⟩ := hl
  have hid := (List.getElem?_eq_some_iff.1 h0).1
  rw [List.getElem?_append_left hid] at h2
  refine ASl.ofSl (.inr ⟨id, off, own, cells, hv, h2, h3, fun i x hx => ?_⟩) h.bound
  obtain ⟨s, e1, e2, e3⟩ := ed.1 (h4 i x hx)
  exact ed.2 ⟨s, e1, e2, e3⟩
theorem AStrs.gc {H X : List Ob} {w : V} {l : List Str} (h : AStrs (H ++ X) w l) : ∃ T, eU H (H ++ X) w = H ++ T ∧ AStrs (H ++ T) w l := by
 unfold eU
 split
 ·rename_i hc
  exact ⟨[], by simp, by simpa using h.low hc.2⟩
 ·exact ⟨X, rfl, h⟩
theorem AStrs.frame {G G' : List Ob} {w : V} {l : List Str} (h : AStrs G w l) (hf : ∀ q o n, w = .slc (some (q, o)) n → G'[q]? = G[q]?) : AStrs G' w l := by
 rcases h.sl with ⟨hw, h1⟩ | ⟨id, off, own, cells, hv, h2, h3, h4⟩
 ·exact ASl.ofSl (.inl ⟨hw, h1⟩) h.bound
 ·rw [← hf _ _ _ hv] at h2
  refine ASl.ofSl (.inr ⟨id, off, own, cells, hv, h2, h3, fun i x hx => ?_⟩) h.bound
  obtain ⟨s, e1, e2, e3⟩ := ed.1 (h4 i x hx)
  exact ed.2 ⟨s, e1, e2, e3⟩
theorem AStrs.lt {G : List Ob} {w : V} {l : List Str} (h : AStrs G w l) : ∀ q o n, w = .slc (some (q, o)) n → q < G.length := by
 rintro q o n rfl
 rcases h.sl with ⟨hw, h1⟩ | ⟨id, off, own, cells, hv, h2, h3, h4⟩
 ·cases hw
 ·cases hv
  exact (List.getElem?_eq_some_iff.1 h2).1
end Go.Lite
end
section
namespace Go.Proofs.Try1
open Go Go.Lite
attribute [-simp] df eP
attribute [local simp] bZ dY bW cZ bY bJ
attribute [local simp low] cu
theorem qG {H G : List Ob} {v : V} {l : List Str} (h : AStrs H v l) (hG : ∃ S, G = H ++ S) (d : LD) (b : Nat) (z : List V) : aI ⟨d, 1, b, z⟩ G v = some (l.map V.str, (l.map V.str).length) := by
 obtain ⟨S, rfl⟩ := hG
 obtain ⟨p, rfl, hc, _⟩ := kF (T := S) h
 simp only [aI, Nat.mul_one, hc, List.length_map]
theorem oN {l : List Str} : (l.map V.str).all aJ = true := by
 rw [List.all_eq_true]
 intro x hx
 obtain ⟨s, _, rfl⟩ := List.mem_map.1 hx
 rfl
end Go.Proofs.Try1
end
section
namespace Go.Lite
open Go
def At2 (H : List Ob) (id o : Nat) (x y : V) : Prop := ∃ own es cells, H[id]? = some (.mk own es cells) ∧ cells[o]? = some x ∧ cells[o + 1]? = some y
section
variable {H T : List Ob} {id o : Nat} {x y : V}
theorem At2.of {own : Bool} {es : Nat} (h : H[id]? = some (.mk own es [x, y])) : At2 H id 0 x y := ⟨_, _, _, h, rfl, rfl⟩
theorem At2.lt (h : At2 H id o x y) : id < H.length := by
 obtain ⟨_, _, _, h, _⟩ := h
 exact (List.getElem?_eq_some_iff.1 h).1
theorem At2.ext (h : At2 H id o x y) : At2 (H ++ T) id o x y := by
 obtain ⟨a, b, c, h, h2⟩ := h
 exact ⟨a, b, c, aW _ _ h, h2⟩
theorem At2.ld0 (h : At2 H id o x y) : ∀ T : LT, T.one → ∀ r c, loadAt T ⟨r, c, H⟩ (.hp id o) = some x := by
 obtain ⟨a, b, c, h, h2, _⟩ := h
 exact bM h h2
theorem At2.ld1 (h : At2 H id o x y) : ∀ T : LT, T.one → ∀ r c, loadAt T ⟨r, c, H⟩ (.hp id (o + 1)) = some y := by
 obtain ⟨a, b, c, h, _, h2⟩ := h
 exact bM h h2
theorem At2.there (h : At2 H id o x y) : kV H id := by
 obtain ⟨a, b, c, h, _⟩ := h
 exact ⟨a, b, c, h⟩
end
end Go.Lite
end
section
namespace Go.Proofs.Try1
open Go Go.Lite
theorem uS {α : Type} {key : α → Str} {l : List α} {t : Str} {i : Nat} {a : α} (hp : l.Pairwise fun a b => key a < key b) (h : l[i]? = some a) (hk : key a = t) : bi key l t = some a := by
 unfold bi
 rw [List.find?_eq_some_iff_getElem]
 obtain ⟨hi, h⟩ := List.getElem?_eq_some_iff.1 h
 refine ⟨by simp [hk], i, hi, h, fun j hj => ?_⟩
 have := List.pairwise_iff_getElem.1 hp j i (by omega) hi hj
 rw [h, hk] at this
 have hne : key l[j] ≠ t := fun e => by rw [e] at this; exact List.lt_irrefl _ this
 simp [hne]
theorem DK {α : Type} {key : α → Str} {l : List α} {t : Str} (h : ∀ a ∈ l, key a ≠ t) : bi key l t = none := by
 unfold bi
 rw [List.find?_eq_none]
 intro x hx
 simpa using h x hx
theorem J8 {H : List Ob} {ide eo : Nat} {vd va : V} {l : List PAttr} {t : Str} (he : At2 H ide eo vd va) (h : bD H va l) (hl : l.length ≤ 1000) (hp : l.Pairwise fun a b => a.name < b.name) :
  ∃ (i : Nat) (ok : Bool), callW C 183 [.ptr (some (ide, eo)), .str t] H = some (.tup [.int .i64 i, .bool ok], H) ∧
   (ok = true → ∃ a, l[i]? = some a ∧ a.name = t) ∧ (ok = false → ∀ a ∈ l, a.name ≠ t) := by
 obtain ⟨i, ok, c1, h1, h2⟩ := Jj (t := t) h hl hp
 refine ⟨i, ok, ?_, h1, h2⟩
 apply Ret.eq
 rw [Ov]
 have ld := he.ld1
 simp [FZ, Tryz.f183, ld, c1]
theorem Gp {H : List Ob} {ide eo : Nat} {vd va : V} {l : List PAttr} {t : Str} (he : At2 H ide eo vd va) (h : bD H va l) (hl : l.length ≤ 1000) (hp : l.Pairwise fun a b => a.name < b.name) :
  ∃ w, callW C 99 [.ptr (some (ide, eo)), .str t] H = some (w, H) ∧ AStrs H w (valsOf l t) := by
 obtain ⟨i, ok, c1, h1, h2⟩ := J8 (t := t) he h hl hp
 suffices hs : Ret C 99 [.ptr (some (ide, eo)), .str t] H fun q H' => AStrs H q (valsOf l t) ∧ H' = H by
  obtain ⟨q, H', hc, hr, rfl⟩ := hs
  exact ⟨q, hc, hr⟩
 rw [UD]
 have ld := he.ld1
 cases ok with
 | false =>
  have hv : valsOf l t = [] := by unfold valsOf; rw [DK (h2 rfl)]
  simp [CV, Tryz.f99, c1, hv]
  exact aC.2 ⟨_, _, rfl, rfl, by simp, .inl ⟨rfl, rfl⟩⟩
 | true =>
  obtain ⟨a, ha, hat⟩ := h1 rfl
  obtain ⟨id, o, w, e1, l0, l1, _, hw, _⟩ := fC h ha
  have hv : valsOf l t = a.vals := by unfold valsOf; rw [uS hp ha hat]
  simp [CV, Tryz.f99, c1, ld, e1, l1, hv]
  exact hw
theorem qA {H : List Ob} {ide : Nat} {own : Bool} {es : Nat} {vd va : V} {l : List PAttr} {t : Str} (he : H[ide]? = some (.mk own es [vd, va])) (h : bD H va l) (hl : l.length ≤ 1000) (hp : l.Pairwise fun a b => a.name < b.name) :
  ∃ w, callW C 99 [.ptr (some (ide, 0)), .str t] H = some (w, H) ∧ AStrs H w (valsOf l t) := Gp (.of he) h hl hp
theorem La {H : List Ob} {ide idp : Nat} {own own' : Bool} {es es' : Nat} {vd va : V} {l : List PAttr} {t : Str} (he : H[ide]? = some (.mk own es [vd, va])) (hq : H[idp]? = some (.mk own' es' [.ptr (some (ide, 0))])) (h : bD H va l) (hl : l.length ≤ 1000) (hp : l.Pairwise fun a b => a.name < b.name) :
  callW C 205 [.str t, .ptr (some (idp, 0))] H = some (.bool (decide (0 < (valsOf l t).length)), H) := by
 obtain ⟨w, c1, hw⟩ := qA (t := t) he h hl hp
 apply Ret.eq
 rw [OD]
 have ld := bM (o := 0) (v := .ptr (some (ide, 0))) hq rfl
 simp [FC, Tryz.f205, ld, c1, hw.len]
theorem Kv {H : List Ob} {idn : Nat} {own : Bool} {es : Nat} {n t : Str} {w1 w2 w3 : V} (hq : H[idn]? = some (.mk own es [.str t])) (h1 : cellsOf w1 = some [w1]) :
  callW C 207 [.agg [.str n, w1, w2, w3], .ptr (some (idn, 0))] H = some (.bool (decide (n = t)), H) := by
 apply Ret.eq
 rw [Nl]
 have ld := bM (o := 0) (v := .str t) hq rfl
 simp [FB, Tryz.f207, ld]
theorem Dn {H : List Ob} {idn : Nat} {own : Bool} {es : Nat} {v : V} {l : List PClass} {t : Str} (hq : H[idn]? = some (.mk own es [.str t])) (h : aP H v l) :
  ∃ r : Int, callW C 206 [v, .fn 207 [] [.ptr (some (idn, 0))]] H = some (.int .i64 r, H) ∧ FirstAt PClass.name l t r := by
 suffices hs : Ret C 206 [v, .fn 207 [] [.ptr (some (idn, 0))]] H fun q H' => (∃ r : Int, q = .int .i64 r ∧ FirstAt PClass.name l t r) ∧ H' = H by
  obtain ⟨q, H', hc, ⟨r, rfl, hr⟩, rfl⟩ := hs
  exact ⟨r, hc, hr⟩
 rw [PN]
 have hb : l.length ≤ 9223372036854775807 := h.bound
 simp [F8, Tryz.f206, h.len]
 refine aA (fun k σ => ∃ (i : Nat) (r : Nat → R), i + k = l.length ∧ σ = ⟨r, 0, H⟩ ∧ r 0 = .val v ∧ r 1 = .val (.fn 207 [] [.ptr (some (idn, 0))]) ∧ r 7 = .val (.int .i64 l.length) ∧ r 8 = .val (.int .i64 i) ∧ ∀ j x, j < i → l[j]? = some x → x.name ≠ t) ?_ l.length _ ⟨0, _, by simp, rfl, by simp, by simp, by simp, by simp, by simp⟩
 rintro k σ ⟨i, r, hik, rfl, r0, r1, r7, r8, hall⟩
 cases k with
 | zero =>
  have hi : i = l.length := by omega
  subst hi
  have hx := fH (P := fun j (x : PClass) => x.name ≠ t) hall
  simp [r0, r1, r7, r8]
  exact .inr ⟨hx, rfl⟩
 | succ k =>
  have hi : i < l.length := by omega
  obtain ⟨x, hx⟩ : ∃ c, l[i]? = some c := ⟨l[i], by simp [hi]⟩
  have hw : IntKind.i64.wrap ((i : Int) + 1) = ((i : Int) + 1) := wrap_i64 (by omega) (by omega)
  obtain ⟨id, o, w1, w2, w3, e1, l0, l4, q1, q2, q3, _⟩ := iH h hx
  have c1 := Kv (n := x.name) (w1 := w1) (w2 := w2) (w3 := w3) hq q1.one.2
  by_cases g1 : x.name = t
  ·rw [decide_eq_true g1] at c1
   simp [r0, r1, r7, r8, hi, e1, l4, c1]
   exact .inl ⟨i, x, hx, g1, hall, rfl⟩
  ·rw [decide_eq_false g1] at c1
   simp [r0, r1, r7, r8, hi, e1, l4, c1, hw]
   exact ⟨k, by omega, i + 1, by omega, by omega, dm (P := fun j (x : PClass) => x.name ≠ t) hall hx g1⟩
theorem nS {H T : List Ob} {w : V} {l : List Str} (h : AStrs (H ++ T) w l) (hl : dZ H w) : AStrs H w l := by
 obtain ⟨w', us, hw, hu, hb, hs⟩ := aC.1 h.at
 cases hw
 cases hu
 refine aC.2 ⟨_, _, rfl, rfl, hb, ?_⟩
 rcases hs with h | ⟨id, off, own, cells, rfl, h2, h3, h4⟩
 ·exact .inl h
 ·obtain ⟨_, _, _, h5⟩ := hl
  have hid := (List.getElem?_eq_some_iff.1 h5).1
  rw [List.getElem?_append_left hid] at h2
  refine .inr ⟨id, off, own, cells, rfl, h2, h3, fun i x hx => ?_⟩
  have := h4 i x hx
  rw [ed] at this ⊢
  exact this
theorem uV {H T : List Ob} {m : Option PClass} {cs : List V} {ok : Bool} (h : gX (H ++ T) m cs ok) : ∃ T', eU H (H ++ T) (.tup [.agg cs, .bool ok]) = H ++ T' ∧ gX (H ++ T') m cs ok := by
 by_cases hl : dZ H (.tup [.agg cs, .bool ok])
 ·refine ⟨[], by rw [kw hl, List.append_nil], ?_⟩
  rw [List.append_nil]
  rcases h with ⟨rfl, c, w1, w2, w3, h1, rfl, h2, h3, h4⟩ | h
  ·simp only [dZ, gK, and_true, true_and] at hl
   exact .inl ⟨rfl, c, w1, w2, w3, h1, rfl, nS h2 hl.1, nS h3 hl.2.1, nS h4 hl.2.2⟩
  ·exact .inr h
 ·refine ⟨T, ?_, h⟩
  unfold eU
  rw [if_neg fun h => hl h.2]
theorem wL {H : List Ob} {v : V} {l : List Str} (h : AStrs H v l) (hl : l.length ≤ 1048576) : ∃ T w, callW C 98 [v] H = some (w, H ++ T) ∧ Own H (H ++ T) w l ∧ AStrs (H ++ T) w l ∧ aJ w = true ∧ cellsOf w = some [w] := by
 obtain ⟨T, w, h1, h2⟩ := FO h hl
 exact ⟨T, w, h1, h2, h2.strs (by unfold maxLen; omega) (kR h), h2.one⟩
theorem xP {H : List Ob} {v : V} {l : List PClass} {t : Str} (h : aP H v l) (hb : ∀ c ∈ l, c.must.length ≤ 1000 ∧ c.may.length ≤ 1000 ∧ c.single.length ≤ 1000) :
  ∃ T cs ok, callW C 116 [v, .str t] H = some (.tup [.agg cs, .bool ok], H ++ T) ∧ gX (H ++ T) (bi PClass.name l t) cs ok := by
 suffices hs : Ret C 116 [v, .str t] H fun q H' => ∃ T cs ok, q = .tup [.agg cs, .bool ok] ∧ H' = H ++ T ∧ gX (H ++ T) (bi PClass.name l t) cs ok by
  obtain ⟨q, H', hc, T, cs, ok, rfl, rfl, hr⟩ := hs
  exact ⟨T, cs, ok, hc, hr⟩
 rw [N9]
 obtain ⟨r, c1, hr⟩ := Dn (H := H ++ [.mk true 1 [.str t]]) (idn := H.length) (t := t) get_last h.ext
 rcases hr.pos with ⟨k, a, h1, rfl, h2⟩ | ⟨rfl, h2⟩
 ·obtain ⟨id, o, w1, w2, w3, e1, l4, q1, q2, q3⟩ := qM h h1
  have l4 := l4 [.mk true 1 [.str t]]
  obtain ⟨b1, b2, b3⟩ := hb a (List.mem_of_getElem? h1)
  have hk : ¬ ((k : Int) < 0) := by omega
  obtain ⟨T1, x1, d1, _, s1, o1⟩ := wL (q1.ext (T := [.mk true 1 [.str t]])) (by omega)
  obtain ⟨T2, x2, d2, _, s2, o2⟩ := wL (q2.ext.ext (T := T1) (H := H ++ [.mk true 1 [.str t]])) (by omega)
  obtain ⟨T3, x3, d3, _, s3, o3⟩ := wL (q3.ext.ext.ext (T := T2) (H := H ++ [.mk true 1 [.str t]] ++ T1)) (by omega)
  have hres : gX (H ++ ([.mk true 1 [.str t]] ++ (T1 ++ (T2 ++ T3)))) (bi PClass.name l t) [.str a.name, x1, x2, x3] true := by
   refine .inl ⟨rfl, a, x1, x2, x3, h2, rfl, ?_, ?_, ?_⟩
   ·have := s1.ext (T := T2 ++ T3); simpa only [List.append_assoc] using this
   ·have := s2.ext (T := T3); simpa only [List.append_assoc] using this
   ·simpa only [List.append_assoc] using s3
  obtain ⟨T', hg, hres⟩ := uV hres
  simp only [List.append_assoc, List.cons_append, List.nil_append] at d1 d2 d3 hg
  simp [zL, Tryz.f116, c1, hk, e1, l4, d1, d2, d3, o1, o2, o3, q1.one, q2.one, q3.one, aV, aH, ax, ak, List.lookup, hg]
  exact hres
 ·have hres : gX (H ++ [.mk true 1 [.str t]]) (bi PClass.name l t) [.str [], .slc none 0, .slc none 0, .slc none 0] false := .inr ⟨rfl, h2, rfl⟩
  obtain ⟨T', hg, hres⟩ := uV hres
  simp [zL, Tryz.f116, c1, aV, aH, ax, ak, hg]
  exact hres
theorem Gi {H : List Ob} {ide : Nat} {own : Bool} {es : Nat} {vd va : V} {l : List PAttr} (he : H[ide]? = some (.mk own es [vd, va])) (h : bD H va l) (hl : l.length ≤ 1000) (hp : l.Pairwise fun a b => a.name < b.name) :
  ∃ w, callW C 99 [.ptr (some (ide, 0)), .str [99, 108, 97, 115, 115]] H = some (w, H) ∧ AStrs H w (valsOf l dN) := qA he h hl hp
theorem yh {H : List Ob} {ide : Nat} {own : Bool} {es : Nat} {vd va vl : V} {l : List PClass} {as' : List PAttr} (he : H[ide]? = some (.mk own es [vd, va])) (h : bD H va as') (hl : as'.length ≤ 1000) (hp : as'.Pairwise fun a b => a.name < b.name)
  (hc : aP H vl l) (hb : ∀ c ∈ l, c.must.length ≤ 1000 ∧ c.may.length ≤ 1000 ∧ c.single.length ≤ 1000) :
  ∃ T cs ok, callW C 112 [vl, .ptr (some (ide, 0))] H = some (.tup [.agg cs, .bool ok], H ++ T) ∧ gX (H ++ T) (dW l as') cs ok := by
 suffices hs : Ret C 112 [vl, .ptr (some (ide, 0))] H fun q H' => ∃ T cs ok, q = .tup [.agg cs, .bool ok] ∧ H' = H ++ T ∧ gX (H ++ T) (dW l as') cs ok by
  obtain ⟨q, H', hc, T, cs, ok, rfl, rfl, hr⟩ := hs
  exact ⟨T, cs, ok, hc, hr⟩
 rw [Nr]
 obtain ⟨w, c1, hw⟩ := Gi he h hl hp
 by_cases g1 : (valsOf as' dN).length = 1
 rotate_left
 ·have hm : dW l as' = none := by
   unfold dW
   split
   ·rename_i v hv; rw [hv] at g1; exact absurd rfl g1
   ·rfl
  have g1' : ¬ ((valsOf as' dN).length : Int) = 1 := by omega
  simp [zB, Tryz.f112, c1, hw.len, g1', aH, ax]
  exact .inr ⟨rfl, hm, rfl⟩
 obtain ⟨s, hs⟩ : ∃ s, valsOf as' dN = [s] := by
  match h : valsOf as' dN, g1 with
  | [s], _ => exact ⟨s, rfl⟩
 rw [hs] at hw
 obtain ⟨id, o, e1, l0, _⟩ := aU hw (i := 0) (s := s) rfl
 simp only [Int.ofNat_eq_natCast, Int.natCast_zero] at e1
 have c2 := nD (t := s) (H := H)
 obtain ⟨T, cs, ok, c3, hres⟩ := xP (t := norm s) hc hb
 have hm : dW l as' = bi PClass.name l (norm s) := by unfold dW; rw [hs]
 rw [← hm] at hres
 have hcs : cs.length = 4 ∧ cs.all aJ = true := by
  rcases hres with ⟨_, c, w1, w2, w3, _, rfl, h1, h2, h3⟩ | ⟨_, _, rfl⟩
  ·exact ⟨rfl, by simp [h1.one, h2.one, h3.one]⟩
  ·exact ⟨rfl, rfl⟩
 obtain ⟨T', hg, hres⟩ := uV hres
 obtain ⟨x1, x2, x3, x4, rfl⟩ : ∃ x1 x2 x3 x4, cs = [x1, x2, x3, x4] := by
  match cs, hcs.1 with
  | [x1, x2, x3, x4], _ => exact ⟨_, _, _, _, rfl⟩
 have hone := hcs.2
 simp at hone
 cases ok <;> simp [zB, Tryz.f112, c1, hw.len, e1, l0, c2, c3, hone, hg] <;> exact hres
theorem xA {cells xs : List V} {i : Nat} (h : i ≤ cells.length) : (setRange cells i xs).take i = cells.take i := by
 unfold setRange
 rw [List.append_assoc, List.take_append_of_le_length (by simp; omega), List.take_take, Nat.min_self]
theorem II {G : List Ob} {id : Nat} {l : List Str} (h : G[id]? = some (.mk true 1 (l.map V.str))) (hl : l.length ≤ 1000000) (hs : ∀ s ∈ l, s.length ≤ maxLen) : AStrs G (.slc (some (id, 0)) l.length) l := by
 have := (Gs.strs (H := []) (G := G) (v := .slc (some (id, 0)) (l.map V.str).length) (l := l) ⟨G, id, rfl, by simp, h, rfl⟩ (by unfold maxLen; omega) hs).1
 simpa using this
theorem IK {G0 : List Ob} {id : Nat} {l : List Str} {g : Nat} {a b : List V} (p : Str → Bool) (h : G0[id]? = some (.mk true 1 (l.map V.str))) (hl : l.length ≤ 1000) (hs : ∀ s ∈ l, s.length ≤ maxLen)
  (hg : ∀ G' : List Ob, G'.length = G0.length → (∀ q, q ≠ id → G'[q]? = G0[q]?) → ∀ x, callW C g (a ++ ([.str x] ++ b)) G' = some (.bool (p x), G')) :
  ∃ G' k cs, callW C 204 [.slc (some (id, 0)) l.length, .fn g a b] G0 = some (.slc (some (id, 0)) k, G') ∧ G'.length = G0.length ∧ (∀ q, q ≠ id → G'[q]? = G0[q]?) ∧
   G'[id]? = some (.mk true 1 cs) ∧ cs.length = l.length ∧ k = (l.filter fun x => !p x).length ∧ cs.take k = (l.filter fun x => !p x).map V.str := by
 suffices hs : Ret C 204 [.slc (some (id, 0)) l.length, .fn g a b] G0 fun w G' => ∃ k cs, w = .slc (some (id, 0)) k ∧ G'.length = G0.length ∧ (∀ q, q ≠ id → G'[q]? = G0[q]?) ∧
   G'[id]? = some (.mk true 1 cs) ∧ cs.length = l.length ∧ k = (l.filter fun x => !p x).length ∧ cs.take k = (l.filter fun x => !p x).map V.str by
  obtain ⟨w, G', hc, k, cs, rfl, h1⟩ := hs
  exact ⟨G', k, cs, hc, h1⟩
 rw [Lt]
 obtain ⟨r, c1, hr⟩ := nP (II h (by omega) hs) p (fun x _ => hg G0 rfl (fun _ _ => rfl) x)
 rcases hr with ⟨k0, x0, hx0, hp0, hlt0, rfl⟩ | ⟨hn, rfl⟩
 rotate_left
 ·have hf : (l.filter fun x => !p x) = l := by
   rw [List.filter_eq_self]
   intro x hx
   obtain ⟨j, hj, rfl⟩ := List.getElem_of_mem hx
   rw [hn j _ (List.getElem?_eq_getElem hj)]
   rfl
  rw [hf]
  simp [uN, Tryz.f204, c1]
  exact ⟨l.map V.str, h, by simp, by rw [List.take_of_length_le (by simp)]⟩
 have hk0 : k0 < l.length := (List.getElem?_eq_some_iff.1 hx0).1
 have hm1 : ¬ ((k0 : Int) = -1) := by omega
 have hw0 : IntKind.i64.wrap ((k0 : Int) + 1) = (k0 : Int) + 1 := wrap_i64 (by omega) (by omega)
 have hpre : (l.take (k0 + 1)).filter (fun x => !p x) = l.take k0 := by
  rw [bg hx0, List.filter_append]
  have : (l.take k0).filter (fun x => !p x) = l.take k0 := by
   rw [List.filter_eq_self]
   intro x hx
   obtain ⟨j, hj, rfl⟩ := List.getElem_of_mem hx
   simp at hj
   rw [List.getElem_take, hlt0 j _ (by omega) (List.getElem?_eq_getElem (by omega))]
   rfl
  rw [this]
  simp [hp0]
 simp [uN, Tryz.f204, c1, hm1, hw0]
 refine aA (fun m σ => ∃ (i j : Nat) (r : Nat → R) (G : List Ob) (cs : List Str), j + m = l.length ∧ σ = ⟨r, 0, G⟩ ∧ r 0 = .val (.slc (some (id, 0)) l.length) ∧ r 1 = .val (.fn g a b) ∧ r 5 = .val (.int .i64 i) ∧ r 6 = .val (.int .i64 j) ∧ i < j ∧ G.length = G0.length ∧ (∀ q, q ≠ id → G[q]? = G0[q]?) ∧
  G[id]? = some (.mk true 1 (cs.map V.str)) ∧ cs.length = l.length ∧ i = ((l.take j).filter fun x => !p x).length ∧ cs.take i = (l.take j).filter (fun x => !p x) ∧ cs.drop j = l.drop j) ?_ (l.length - (k0 + 1)) _
  ⟨k0, k0 + 1, _, G0, l, by omega, rfl, by simp, by simp, by simp, by simp, by omega, rfl, fun _ _ => rfl, h, rfl, by rw [hpre]; simp; omega, by rw [hpre], rfl⟩
 clear hm1 hw0
 rintro m σ ⟨i, j, r, G, cs, hjm, rfl, r0, r1, r5, r6, hij, hG1, hG2, hG3, hcs, hi, htk, hdr⟩
 have hid : id < G.length := (List.getElem?_eq_some_iff.1 hG3).1
 have hst : aY G id 1 = true := by simp [aY, hG3]
 cases m with
 | zero =>
  have hj : j = l.length := by omega
  subst hj
  rw [List.take_length] at hi htk
  have hil : i ≤ l.length := by omega
  have hnz : ¬ (l.length - i = 0) := by omega
  have hwa : ∀ r c, dB ⟨r, c, G⟩ (.hp id i) (ah iM (l.length - i)) = some ⟨r, c, G.set id (.mk true 1 (setRange (cs.map V.str) i (ah iM (l.length - i))))⟩ := by
   intro r c
   simp only [dB, hG3]
   rw [if_pos (by rw [kL, List.length_map]; omega)]
  have hst2 : ∀ o, aY (G.set id (.mk true 1 o)) id 1 = true := fun o => by simp [aY, hid]
  have hgl : ∀ o w, eU G0 (G.set id o) w = G.set id o := fun o w => zH (by rw [List.length_set]; exact hG1)
  simp [r0, r1, r5, r6, hil, hst, ay, hnz, hwa, hst2, hgl, -setRange]
  refine ⟨hG1, fun q hq => by rw [List.getElem?_set_ne (Ne.symm hq)]; exact hG2 q hq, setRange (cs.map V.str) i (ah iM (l.length - i)), by simp [hid, -setRange], by rw [mM (by rw [kL, List.length_map]; omega), List.length_map, hcs], hi, ?_⟩
  rw [xA (by rw [List.length_map]; omega), ← List.map_take, htk]
 | succ m =>
  have hj : j < l.length := by omega
  obtain ⟨x, hx⟩ : ∃ x, l[j]? = some x := ⟨l[j], List.getElem?_eq_getElem hj⟩
  have hxc : cs[j]? = some x := by
   have := congrArg (fun l => l[0]?) hdr
   simpa [hx] using this
  have ld := bM (o := j) (v := .str x) hG3 (by simp [hxc])
  have c2 := hg G hG1 hG2 x
  simp only [List.singleton_append] at c2
  have hw : IntKind.i64.wrap ((j : Int) + 1) = (j : Int) + 1 := wrap_i64 (by omega) (by omega)
  have hw2 : IntKind.i64.wrap ((i : Int) + 1) = (i : Int) + 1 := wrap_i64 (by omega) (by omega)
  have hil : i < l.length := by omega
  have hdr' : cs.drop (j + 1) = l.drop (j + 1) := by
   have := congrArg (List.drop 1) hdr
   simpa [List.drop_drop, Nat.add_comm] using this
  have hft := tu hx fun x => !p x
  cases hp : p x with
  | true =>
   rw [hp] at c2 hft
   simp at hft
   simp [r0, r1, r5, r6, hj, ld, c2, hw]
   exact ⟨m, by omega, i, j + 1, by omega, _, G, ⟨rfl, rfl⟩, by simp [r0], by simp [r1], by simp [r5], by simp, by omega, hG1, hG2, cs, hG3, hcs, by rw [hft]; exact hi, by rw [hft]; exact htk, hdr'⟩
  | false =>
   rw [hp] at c2 hft
   simp at hft
   have st := store1 (v := .str x) (o := i) hG3 (by simp; omega) rfl rfl
   simp [r0, r1, r5, r6, hj, hil, ld, c2, hw, hw2, st]
   refine ⟨m, by omega, i + 1, j + 1, by omega, _, _, ⟨rfl, rfl⟩, by simp [r0], by simp [r1], by simp, by simp, by omega, by simpa using hG1, fun q hq => by rw [List.getElem?_set_ne (Ne.symm hq)]; exact hG2 q hq, cs.set i x, by rw [List.getElem?_set_self hid, List.map_set], by simpa using hcs, ?_, ?_, ?_⟩
   ·rw [hft, List.length_append, ← hi]; rfl
   ·rw [hft, ← htk, List.take_add_one, List.getElem?_set_self (by omega), List.take_set, List.set_eq_of_length_le (by simp; omega)]
    rfl
   ·rw [List.drop_set_of_lt (by omega)]; exact hdr'
theorem Io {G : List Ob} {id k : Nat} {cs : List V} {l : List Str} (h : G[id]? = some (.mk true 1 cs)) (hk : k = l.length) (hc : cs.take k = l.map V.str) (hl : l.length ≤ maxLen) (hs : ∀ s ∈ l, s.length ≤ maxLen) : AtF G (.slice .str) [.slc (some (id, 0)) k] (.lst (l.map qg)) [id] := by
 have hlen : k ≤ cs.length := by
  have := congrArg List.length hc
  simp at this
  omega
 refine eG.2 ⟨_, _, rfl, rfl, by simpa using hl, .inr ⟨id, 0, cs, List.replicate l.length [], by simp [hk], h, by simp; omega, by simp, by simp, fun i x F hx hF => ?_⟩⟩
 rw [List.getElem?_map] at hx
 obtain ⟨s, hs', rfl⟩ := Option.map_eq_some_iff.1 hx
 have hi : i < l.length := (List.getElem?_eq_some_iff.1 hs').1
 rw [List.getElem?_replicate, if_pos hi] at hF
 cases hF
 refine qK.2 ⟨⟨s, ?_, rfl, hs s (List.mem_of_getElem? hs')⟩, rfl⟩
 have h1 : cs[i]? = some (.str s) := by
  have := congrArg (fun l => l[i]?) hc
  simp only [List.getElem?_take_of_lt (show i < k by omega), List.getElem?_map, hs'] at this
  exact this
 obtain ⟨hi2, h1⟩ := List.getElem?_eq_some_iff.1 h1
 rw [Sh.size_str, Nat.zero_add, Nat.mul_one, List.drop_eq_getElem_cons hi2, h1]
 rfl
def Back (H G : List Ob) (w : V) (l : List Str) : Prop := ∃ F, AtF G (.slice .str) [w] (.lst (l.map qg)) F ∧ F.Nodup ∧ ∀ q ∈ F, H.length ≤ q
theorem Back.nil {H G : List Ob} : Back H G (.slc none 0) [] := ⟨[], eG.2 ⟨_, _, rfl, rfl, by simp, .inl ⟨rfl, rfl, rfl⟩⟩, by simp, by simp⟩
theorem yE {H : List Ob} {ide : Nat} {own : Bool} {es : Nat} {vd va w1 w2 w3 : V} {c : PClass} {as' : List PAttr} (he : H[ide]? = some (.mk own es [vd, va])) (h : bD H va as') (hl : as'.length ≤ 1000) (hp : as'.Pairwise fun a b => a.name < b.name)
  (h1 : AStrs H w1 c.must) (o2 : aJ w2 = true ∧ cellsOf w2 = some [w2]) (o3 : aJ w3 = true ∧ cellsOf w3 = some [w3]) (hm : c.must.length ≤ 1000) :
  ∃ T w, callW C 113 [.agg [.str c.name, w1, w2, w3], .ptr (some (ide, 0))] H = some (w, H ++ T) ∧ Back H (H ++ T) w (c.must.filter fun t => !decide (0 < (valsOf as' t).length)) := by
 suffices hs : Ret C 113 [.agg [.str c.name, w1, w2, w3], .ptr (some (ide, 0))] H fun q H' => ∃ T, H' = H ++ T ∧ Back H (H ++ T) q (c.must.filter fun t => !decide (0 < (valsOf as' t).length)) by
  obtain ⟨q, H', hc, T, rfl, hr⟩ := hs
  exact ⟨T, q, hc, hr⟩
 rw [NI]
 have hide : ide < H.length := (List.getElem?_eq_some_iff.1 he).1
 obtain ⟨T, w, c1, hown⟩ := FO (h1.ext (T := [.mk true 1 [.ptr (some (ide, 0))]])) (by omega)
 rcases hown with ⟨rfl, hm0⟩ | ⟨T', id', hT, g1, g2, rfl⟩
 ·have c2 : callW C 204 [.slc none 0, .fn 205 [] [.ptr (some (H.length, 0))]] (H ++ [.mk true 1 [.ptr (some (ide, 0))]] ++ T) = some (.slc none 0, H ++ [.mk true 1 [.ptr (some (ide, 0))]] ++ T) := by
   obtain ⟨r, c3, hr⟩ := nP (H := H ++ [.mk true 1 [.ptr (some (ide, 0))]] ++ T) (v := .slc none 0) (l := []) (g := 205) (a := []) (b := [.ptr (some (H.length, 0))]) (aC.2 ⟨_, _, rfl, rfl, by simp, .inl ⟨rfl, rfl⟩⟩) (fun _ => false) (fun x hx => by cases hx)
   have hr1 : r = -1 := by
    rcases hr with ⟨k, x, hx, _⟩ | ⟨_, rfl⟩
    ·simp at hx
    ·rfl
   subst hr1
   simp only [List.append_assoc, List.cons_append, List.nil_append] at c3 ⊢
   apply Ret.eq
   rw [Lt]
   simp [uN, Tryz.f204, c3]
  simp only [List.append_assoc, List.cons_append, List.nil_append] at c1 c2
  have hgn : eU H (H ++ .mk true 1 [.ptr (some (ide, 0))] :: T) (.slc none 0) = H := kw trivial
  simp [zk, Tryz.f113, aV, c1, c2, h1.one, o2, o3, hm0, hgn]
  exact Back.nil
 ·have hT' := List.append_cancel_left hT
  subst hT'
  rw [List.length_map] at c1
  have hob : (H ++ [.mk true 1 [.ptr (some (ide, 0))]] ++ T)[H.length]? = some (.mk true 1 [.ptr (some (ide, 0))]) := by rw [List.append_assoc]; simp
  have hg1 : H.length + 1 ≤ id' := by simpa using g1
  obtain ⟨G', k, cs, c2, k1, k2, k3, k4, k5, k6⟩ := IK (g := 205) (a := []) (b := [.ptr (some (H.length, 0))]) (fun t => decide (0 < (valsOf as' t).length)) g2 hm (kR h1) (fun G' e1 e2 x => by
   have hup : ∀ (q : Nat) o, H[q]? = some o → G'[q]? = some o := fun q o hq => by
    have := (List.getElem?_eq_some_iff.1 hq).1
    rw [e2 q (by omega), List.append_assoc]
    exact aW _ _ hq
   exact La (hup _ _ he) (by rw [e2 _ (by omega)]; exact hob) (h.up hup) hl hp)
  obtain ⟨T2, rfl⟩ : ∃ T2, G' = H ++ T2 := nM (fun q hq => by
   rw [k2 q (by omega), List.append_assoc, List.getElem?_append_left hq]) (by rw [k1, List.append_assoc]; simp)
  have hgc : ∀ n, eU H (H ++ T2) (.slc (some (id', 0)) n) = H ++ T2 := fun n => by
   unfold eU
   rw [if_neg]
   rintro ⟨_, own, es, cells, h⟩
   have := (List.getElem?_eq_some_iff.1 h).1
   omega
  have hF := Io k3 k5 k6 (by have := List.length_filter_le (fun t => !decide (0 < (valsOf as' t).length)) c.must; unfold maxLen; omega) (fun s hs => kR h1 s (List.mem_filter.1 hs).1)
  simp only [List.append_assoc, List.cons_append, List.nil_append] at c1 c2
  simp [zk, Tryz.f113, aV, c1, c2, h1.one, o2, o3, hgc]
  exact ⟨_, by simpa using hF, by simp, by simp; omega⟩
theorem Fz {H : List Ob} {id o : Nat} {x : V} (h : ∀ T : LT, T.one → ∀ r c, loadAt T ⟨r, c, H⟩ (.hp id o) = some x) : id < H.length := by
 by_cases hi : id < H.length
 ·exact hi
 ·have h1 := h ⟨.str, 1, 16, [.str []]⟩ zN (fun _ => .val .undef) 0
  have h2 : H[id]? = none := List.getElem?_eq_none (by omega)
  simp [loadAt, cellsAt, h2] at h1
theorem JA {H : List Ob} {id : Nat} {own : Bool} {es : Nat} {t n : Str} (hq : H[id]? = some (.mk own es [.str n])) : callW C 195 [.str t, .ptr (some (id, 0))] H = some (.bool (dec (norm t = n)), H) := by
 apply Ret.dec
 rw [OG]
 have ld := bM (o := 0) (v := .str n) hq rfl
 have c1 := nD (t := t) (H := H)
 have hid : id < H.length := (List.getElem?_eq_some_iff.1 hq).1
 simp [EF, Tryz.f195, ld, c1, hid]
 exact (Classical.em _).symm
theorem PH {H : List Ob} {ide : Nat} {own : Bool} {es : Nat} {vd va : V} {l : List PAttr} {t n : Str} (he : H[ide]? = some (.mk own es [vd, va])) (h : bD H va l) (hl : l.length ≤ 1000) (hp : l.Pairwise fun a b => a.name < b.name) :
  callW C 103 [.ptr (some (ide, 0)), .str t, .str n] H = some (.bool (dec (oU l t n)), H) := by
 apply Ret.dec
 rw [Oj]
 have ld := bM (H := H ++ [.mk true 1 [.str n]]) (o := 0) (v := .str n) get_last rfl
 have hgb : ∀ X b, eU H (H ++ X) (.bool b) = H := fun X b => lW
 by_cases hn : n = []
 ·subst hn
  simp [Ai, Tryz.f103, aV, ld, oU, hgb]
 ·obtain ⟨w, c1, hw⟩ := qA (H := H ++ [.mk true 1 [.str n]]) (t := t) (aW _ _ he) h.ext hl hp
  have c2 := nZ hw (fun x => dec (norm x = n)) (g := 195) (a := []) (b := [.ptr (some (H.length, 0))]) (fun x _ => JA get_last)
  simp [Ai, Tryz.f103, aV, ld, hn, c1, c2, hgb, oU]
  have e : (∃ x, x ∈ valsOf l t ∧ dec (norm x = n) = true) ↔ ∃ v, v ∈ valsOf l t ∧ norm v = n := by simp only [dX]
  rw [FW e]
  by_cases hx : ∃ v, v ∈ valsOf l t ∧ norm v = n
  ·exact .inr ⟨aj hx, hx⟩
  ·exact .inl ⟨ai hx, fun x hx1 hx2 => hx ⟨x, hx1, hx2⟩⟩
end Go.Proofs.Try1
end
