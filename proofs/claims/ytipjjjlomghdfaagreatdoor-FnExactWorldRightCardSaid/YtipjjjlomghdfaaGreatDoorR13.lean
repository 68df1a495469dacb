/- Part 13 of the proof of a law: the interpreter, its soundness, and what functions of the program compute over it. Conditions: none but those that each theorem names. -/
import Derived.Test.YtipjjjlomghdfaaGreatDoorR12
import Derived.Test.YtipjjjlomghdfaaGreatDoorR10
import Derived.Test.YtipjjjlomghdfaaGreatDoorR09
import Derived.Test.YtipjjjlomghdfaaGreatDoorR05
import Derived.Test.YtipjjjlomghdfaaGreatDoorR08

set_option linter.all false
set_option maxRecDepth 20000
set_option maxHeartbeats 40000000
section
namespace Go.Proofs.Try1
open Go Go.Lite
attribute [-simp] WP_region WP_cond
attribute [local simp] WP_regionF WP_condF ThenW_some ThenW_none CondW_true CondW_false
attribute [local simp low] CondW_bool
def RdAns (H : List Ob) (t : Str) (q : V) (H' : List Ob) : Prop := ∃ T w dn, q = .tup [w, .bool (dec (ReadOk t))] ∧ H' = H ++ T ∧ New H.length (H ++ T).length (H ++ T) (.slice shRdn) [w] (.lst (dn.map PRdn.u)) ∧ (ReadOk t → dn = readS t)
theorem RdAns.of {H G : List Ob} {t : Str} {w : V} {l : List PRdn} {b : Bool} (h : LstF H G shRdn PRdn.u w l) (hl : l.length ≤ 10000000) (hb : b = dec (ReadOk t)) (hd : ReadOk t → l = readS t) : RdAns H t (.tup [w, .bool b]) (gcH H G (.tup [w, .bool b])) := by
 obtain ⟨T, hT⟩ := h.pre
 have n := h.new (by unfold maxLen; omega)
 rw [hT] at n ⊢
 obtain ⟨T', h3, h4⟩ := n.gc (v := .tup [w, .bool b]) (by simp [lowV, lowVs])
 exact ⟨T', w, l, by rw [hb], h3, h4, hd⟩
theorem akB {B G : List Ob} {v : V} {l : List PRdn} {x : PRdn} {z : List V} {d : LD} (h : LstF B G shRdn PRdn.u v l) (h1 : x.attr.length ≤ 10000000) (h2 : x.value.length ≤ 10000000) (hl : l.length ≤ 10000000) (hz : z.length = 2) :
  ∃ v' G', appendV ⟨d, 2, 32, z⟩ (G ++ [.mk true 2 [.str x.attr, .str x.value]]) v (.slc (some (G.length, 0)) 1) = some (v', G') ∧ LstF B G' shRdn PRdn.u v' (l ++ [x]) := by
 have hn : New G.length G.length (G ++ []) shRdn [.str x.attr, .str x.value] x.u := New.st (News.str (by unfold maxLen; omega) (News.str (by unfold maxLen; omega) News.nil))
 obtain ⟨v', G', h1, h2, _⟩ := h.push (T := []) (x := x) (e := G.length) (d := d) (by_ := 32) (z := z) (sz := 2) hn rfl hz (by decide) (by decide) (by decide) (by unfold maxMade; omega)
 rw [List.append_nil] at h1
 exact ⟨v', G', h1, h2⟩
theorem am4 {dn : List PRdn} {t : Str} (ht : t ≠ []) : aiL dn = t ↔ DnOk dn ∧ txt dn = t := by
 unfold aiL
 constructor
 ·intro h
  split at h
  ·rename_i g; exact ⟨dec_true.1 g, h⟩
  ·exact absurd h.symm ht
 ·rintro ⟨h1, h2⟩
  rw [dec_pos h1]
  exact h2
theorem auK {t : Str} {H : List Ob} (hl : t.length ≤ 2000000) : ∃ q H', callW C 106 [.str t] H = some (q, H') ∧ RdAns H t q H' := by
 suffices hs : Ret C 106 [.str t] H fun q H' => RdAns H t q H' by
  obtain ⟨q, H', hc, hr⟩ := hs
  exact ⟨q, H', hc, hr⟩
 rw [awT]
 obtain ⟨Y, hY⟩ : ∃ Y, Y = H ++ [.mk true 2 []] := ⟨_, rfl⟩
 have hL0 : LstF H Y shRdn PRdn.u (.slc (some (H.length, 0)) 0) [] := by rw [hY]; exact LstF.init (sh := shRdn)
 by_cases h0 : t = []
 ·subst h0
  have fin := RdAns.of hL0 (t := []) (b := true) (by simp) (by rw [dec_pos readOk_nil]) (fun _ => rfl)
  simp [amj, Tryz.f106, fillL, zerosL, St.new, elemT, ← hY, regionL_none, regionL_some, List.lookup]
  exact fin
 have h0e : List.isEmpty t = false := by simpa using h0
 obtain ⟨T1, wl, c1, hg⟩ := awi (t := t) (H := Y) hl
 have hcl := cut_len [] t
 have hcb := cut_bound [] t
 simp only [List.length_nil, Nat.zero_add] at hcb
 obtain ⟨K, hK⟩ : ∃ K, K = Y ++ T1 := ⟨_, rfl⟩
 rw [← hK] at c1 hg
 have hk := (hg.strs (by unfold maxLen; omega) (fun s hs => by have := hcb s hs; unfold maxLen; omega)).1
 have hko := hk.one
 have hL1 : LstF H K shRdn PRdn.u (.slc (some (H.length, 0)) 0) [] := by rw [hK]; exact hL0.ext
 generalize hcs : cutG [] t = cs at hk hcl hcb
 have hrs : readS t = cs.map rdnS := by unfold readS; rw [if_neg h0, hcs]
 simp [amj, Tryz.f106, h0, h0e, fillL, zerosL, St.new, elemT, ← hY, c1, hko, regionL_none, regionL_some, List.lookup]
 refine WP_loop (fun k σ => ∃ (i : Nat) (r : Nat → R) (G : List Ob) (w : V), i + k = cs.length ∧ σ = ⟨r, 0, G⟩ ∧ r 0 = .val (.str t) ∧ r 4 = .val w ∧ r 5 = .val wl ∧ r 6 = .val (.int .i64 i) ∧ LstF H G shRdn PRdn.u w ((cs.take i).map rdnS) ∧ AStrs G wl cs) ?_ cs.length _ ⟨0, _, K, .slc (some (H.length, 0)) 0, by simp, rfl, by simp, by simp, by simp, by simp, by simpa using hL1, hk⟩
 rintro k σ ⟨i, r, G, w, hik, rfl, r0, r4, r5, r6, hG, hkG⟩
 have hwo := hG.one
 cases k with
 | zero =>
  have hi : i = cs.length := by omega
  subst hi
  rw [List.take_length, ← hrs] at hG
  have hla := readS_len (t := t)
  have c3 := aq1 (hG.at (by unfold maxLen; omega))
  have hd := am4 (dn := readS t) h0
  by_cases gR : ReadOk t
  ·have he := hd.2 gR
   rw [he] at c3
   have fin := RdAns.of hG (t := t) (b := true) (by omega) (by rw [dec_pos gR]) (fun _ => rfl)
   simp [r0, r4, r5, r6, hkG.len, hwo, c3, regionL_none, regionL_some, List.lookup]
   exact fin
  ·have he : ¬ aiL (readS t) = t := fun h => gR (hd.1 h)
   have fin := RdAns.of hG (t := t) (b := false) (by omega) (by rw [dec_neg gR]) (fun _ => rfl)
   simp [r0, r4, r5, r6, hkG.len, hwo, c3, he, regionL_none, regionL_some, List.lookup]
   exact fin
 | succ k =>
  have hi : i < cs.length := by omega
  obtain ⟨x, hx⟩ : ∃ c, cs[i]? = some c := ⟨cs[i], by simp [hi]⟩
  have hw : IntKind.i64.wrap ((i : Int) + 1) = ((i : Int) + 1) := wrap_i64 (by omega) (by omega)
  have hxb := hcb x (List.mem_of_getElem? hx)
  have hxl := rdnS_len x
  obtain ⟨id, o, e1, l1, hid⟩ := strs_idx hkG hx
  have c4 := axU (t := x) (H := G) (by omega)
  obtain ⟨w', G', a3, hG'⟩ := akB (x := rdnS x) (d := .struct [(0, 9), (1, 9)]) (z := [.str [], .str []]) hG (by omega) (by omega) (by simp; omega) rfl
  have hkG' : AStrs G' wl cs := AStrs.apart (hG.ext (T := [.mk true 2 [.str (rdnS x).attr, .str (rdnS x).value]])) (by decide) hkG.ext (appendV_frame a3).1
  have hwo' := hG'.one
  simp [r0, r4, r5, r6, hi, hkG.len, hwo, hwo', e1, l1, hid, c4, a3, hw, fillL, zerosL, St.new, elemT, buildV, structPlace, regionL_none, regionL_some, List.lookup]
  exact ⟨k, by omega, i + 1, by omega, _, _, ⟨rfl, rfl⟩, by simp [r0], w', by simp, by simp [r5], by simp, by rw [← List.map_take, take_get hx, List.map_append]; exact hG', hkG'⟩
def RdI (H : List Ob) (t : Str) (k : Nat) (σ : St) : Prop := ∃ (i : Nat) (r : Nat → R) (G : List Ob) (w : V) (out : List PRdn) (now : PRdn) (iv : Bool), i + k = t.length ∧ σ = ⟨r, 1, G⟩ ∧ r 0 = .val (.str t) ∧ r 4 = .val w ∧ r 5 = .box 0 [.str now.attr, .str now.value] ∧ r 6 = .val (.bool iv) ∧ r 7 = .val (.int .i64 i) ∧
 LstF H G shRdn PRdn.u w out ∧ out.length ≤ i ∧ now.attr.length ≤ i ∧ now.value.length ≤ i ∧ readG out now iv (t.drop i) = readI t
theorem ard {t : Str} {H : List Ob} (hl : t.length ≤ 2000000) : ∃ q H', callW C 276 [.str t] H = some (q, H') ∧ RdAns H t q H' := by
 suffices hs : Ret C 276 [.str t] H fun q H' => RdAns H t q H' by
  obtain ⟨q, H', hc, hr⟩ := hs
  exact ⟨q, H', hc, hr⟩
 rw [awz]
 obtain ⟨Y, hY⟩ : ∃ Y, Y = H ++ [.mk true 2 []] := ⟨_, rfl⟩
 have hL0 : LstF H Y shRdn PRdn.u (.slc (some (H.length, 0)) 0) [] := by rw [hY]; exact LstF.init (sh := shRdn)
 by_cases h0 : t = []
 ·subst h0
  have fin := RdAns.of hL0 (t := []) (b := true) (by simp) (by rw [dec_pos readOk_nil]) (fun _ => rfl)
  simp [amJ, Tryz.f276, fillL, zerosL, St.new, elemT, ← hY, regionL_none, regionL_some, List.lookup]
  exact fin
 have h0e : List.isEmpty t = false := by simpa using h0
 have hrI : readG [] ⟨[], []⟩ false t = readI t := by unfold readI; rw [if_neg h0]
 simp [amJ, Tryz.f276, h0, h0e, fillL, zerosL, St.new, elemT, buildV, structPlace, setRange, ← hY, regionL_none, regionL_some, List.lookup]
 refine WP_loop (RdI H t) ?_ t.length _ ⟨0, _, Y, .slc (some (H.length, 0)) 0, [], ⟨[], []⟩, false, by simp, rfl, by simp, by simp, by simp, by simp, by simp, hL0, by simp, by simp, by simp, hrI⟩
 rintro k σ ⟨i, r, G, w, out, now, iv, hik, rfl, r0, r4, r5, r6, r7, hG, b1, b2, b3, hrd⟩
 have hwo := hG.one
 have hM : ∀ n, n ≤ 10000000 → n ≤ maxStr := fun n h => by unfold maxStr; omega
 cases k with
 | zero =>
  have hi : i = t.length := by omega
  subst hi
  rw [List.drop_length, readG_nil] at hrd
  obtain ⟨w', G', a3, hG'⟩ := akB (x := now) (d := .struct [(0, 9), (1, 9)]) (z := [.str [], .str []]) hG (by omega) (by omega) (by omega) rfl
  rw [hrd] at hG'
  have hla : (readI t).length ≤ 10000000 := by rw [← hrd]; simp; omega
  have hwo' := hG'.one
  have hat := hG'.at (by unfold maxLen; omega)
  have c3 := asl hat
  by_cases g1 : DnOk (readI t)
  ·rw [dec_pos g1] at c3
   have c4 := aqI hat g1
   by_cases g2 : txt (readI t) = t
   ·rw [g2] at c4
    have gR : ReadOk t := readOk_iff.2 ⟨g1, g2⟩
    have fin := RdAns.of hG' (t := t) (b := true) hla (by rw [dec_pos gR]) (fun h => read_same h)
    simp [r0, r4, r5, r6, r7, hwo, hwo', a3, c3, c4, fillL, zerosL, St.new, elemT, buildV, structPlace, setRange, regionL_none, regionL_some, List.lookup]
    exact fin
   ·have gR : ¬ ReadOk t := fun h => g2 (readOk_iff.1 h).2
    have fin := RdAns.of hG' (t := t) (b := false) hla (by rw [dec_neg gR]) (fun h => read_same h)
    simp [r0, r4, r5, r6, r7, hwo, hwo', a3, c3, c4, g2, fillL, zerosL, St.new, elemT, buildV, structPlace, setRange, regionL_none, regionL_some, List.lookup]
    exact fin
  ·rw [dec_neg g1] at c3
   have gR : ¬ ReadOk t := fun h => g1 (readOk_iff.1 h).1
   have fin := RdAns.of hG' (t := t) (b := false) hla (by rw [dec_neg gR]) (fun h => read_same h)
   simp [r0, r4, r5, r6, r7, hwo, hwo', a3, c3, fillL, zerosL, St.new, elemT, buildV, structPlace, setRange, regionL_none, regionL_some, List.lookup]
   exact fin
 | succ k =>
  have hi : i < t.length := by omega
  obtain ⟨c, hc⟩ : ∃ c, t[i]? = some c := ⟨t[i], by simp [hi]⟩
  have hc' : t[i] = c := (List.getElem?_eq_some_iff.1 hc).2
  have hw : IntKind.i64.wrap ((i : Int) + 1) = ((i : Int) + 1) := wrap_i64 (by omega) (by omega)
  rw [drop_cons hc] at hrd
  have hp1 := piece_one hc
  have hi0 : (0 : Int) ≤ (i : Int) + 1 := by omega
  have hi1 : i + 1 ≤ t.length := by omega
  have ht1 : ((i : Int) + 1).toNat = i + 1 := by omega
  have m1 := hM (now.attr.length + 1) (by omega)
  have m2 := hM (now.value.length + 1) (by omega)
  cases iv with
  | false =>
   by_cases g61 : c = 61
   ·rw [g61, readG_eq] at hrd
    have e61 : (c.toNat : Int) = 61 := by rw [g61]; rfl
    simp [r0, r4, r5, r6, r7, hi, hc', g61, e61, hw, fillL, zerosL, St.new, elemT, buildV, structPlace, setRange, regionL_none, regionL_some, List.lookup]
    exact ⟨k, by omega, i + 1, _, G, w, out, now, true, by omega, rfl, by simp [r0], by simp [r4], by simp [r5], by simp, by simp, hG, by omega, by omega, by omega, hrd⟩
   ·rw [readG_name g61] at hrd
    have e61 := aiC g61
    simp at e61
    simp [r0, r4, r5, r6, r7, hi, hc', g61, e61, hw, m1, slcCells, isByte, byteOfV, fillL, zerosL, St.new, elemT, buildV, structPlace, setRange, regionL_none, regionL_some, List.lookup]
    exact ⟨k, by omega, i + 1, _, _, w, out, ⟨now.attr ++ [c], now.value⟩, false, by omega, rfl, by simp [r0], by simp [r4], by simp, by simp [r6], by simp, hG.ext, by omega, by simp; omega, by simp; omega, hrd⟩
  | true =>
   by_cases g44 : c = 44
   ·rw [g44, read_comma] at hrd
    have e44 : (c.toNat : Int) = 44 := by rw [g44]; rfl
    obtain ⟨w', G', a3, hG'⟩ := akB (x := now) (d := .struct [(0, 9), (1, 9)]) (z := [.str [], .str []]) hG (by omega) (by omega) (by omega) rfl
    have hwo' := hG'.one
    simp [r0, r4, r5, r6, r7, hi, hc', g44, e44, hw, hwo, hwo', a3, fillL, zerosL, St.new, elemT, buildV, structPlace, setRange, regionL_none, regionL_some, List.lookup]
    exact ⟨k, by omega, i + 1, _, _, w', out ++ [now], ⟨[], []⟩, false, by omega, rfl, by simp [r0], by simp, by simp, by simp, by simp, hG', by simp; omega, by simp, by simp, hrd⟩
   have e44 := aiC g44
   simp at e44
   by_cases g92 : c = 92
   ·have e92 : (c.toNat : Int) = 92 := by rw [g92]; rfl
    by_cases g3 : i + 1 < t.length
    ·obtain ⟨d, hd⟩ : ∃ c, t[i + 1]? = some c := ⟨t[i + 1], by simp [g3]⟩
     have hd' : t[i + 1] = d := (List.getElem?_eq_some_iff.1 hd).2
     have g3' : (i : Int) + 1 < (t.length : Int) := by omega
     have hw2 : IntKind.i64.wrap ((i : Int) + 1 + 1) = ((i : Int) + 1 + 1) := wrap_i64 (by omega) (by omega)
     have hp2 := piece_one hd
     have hi2 : (0 : Int) ≤ (i : Int) + 1 + 1 := by omega
     have ht2 : ((i : Int) + 1 + 1).toNat = i + 1 + 1 := by omega
     have hi3 : i + 1 + 1 ≤ t.length := by omega
     rw [drop_cons hd, g92, readG_mark] at hrd
     simp [r0, r4, r5, r6, r7, hi, hc', g92, e92, g3, g3', hw, hw2, hp2, hi0, hi2, hi3, ht2, m2, fillL, zerosL, St.new, elemT, buildV, structPlace, setRange, regionL_none, regionL_some, List.lookup]
     exact ⟨k - 1, by omega, i + 2, _, _, w, out, ⟨now.attr, now.value ++ [d]⟩, true, by omega, rfl, by simp [r0], by simp [r4], by simp, by simp [r6], by simp; omega, hG, by omega, by simp; omega, by simp; omega, hrd⟩
    ·have g3' : ¬ (i : Int) + 1 < (t.length : Int) := by omega
     have ht0 : t.drop (i + 1) = [] := List.drop_of_length_le (by omega)
     rw [ht0, readG_one g44] at hrd
     simp [r0, r4, r5, r6, r7, hi, hc', g92, e92, g3, g3', hw, hp1, hi0, hi1, ht1, m2, fillL, zerosL, St.new, elemT, buildV, structPlace, setRange, regionL_none, regionL_some, List.lookup]
     exact ⟨k, by omega, i + 1, _, _, w, out, ⟨now.attr, now.value ++ [c]⟩, true, by omega, rfl, by simp [r0], by simp [r4], by simp [g92], by simp [r6], by simp, hG, by omega, by simp; omega, by simp; omega, by rw [ht0]; exact hrd⟩
   ·have e92 := aiC g92
    simp at e92
    rw [read_plain g44 g92] at hrd
    simp [r0, r4, r5, r6, r7, hi, hc', g44, e44, g92, e92, hw, hp1, hi0, hi1, ht1, m2, fillL, zerosL, St.new, elemT, buildV, structPlace, setRange, regionL_none, regionL_some, List.lookup]
    exact ⟨k, by omega, i + 1, _, _, w, out, ⟨now.attr, now.value ++ [c]⟩, true, by omega, rfl, by simp [r0], by simp [r4], by simp, by simp [r6], by simp, hG, by omega, by simp; omega, by simp; omega, hrd⟩
end Go.Proofs.Try1
end
section
namespace Go.Proofs.Try1
open Go Go.Lite
theorem alE {a b : Str} {H : List Ob} : callW C 362 [.str a, .str b] H = some (.int .i64 (Lib.compareBytes a b), H) :=
 callW_prim (pr := cmpPrim) rfl
theorem aiM {a b : Str} {H : List Ob} : callW C 353 [.str a, .str b] H = some (.int .i64 (Lib.compareBytes a b), H) := by
 apply Ret.eq
 rw [aqQ]
 simp [aje, Tryz.f353, alE]
theorem akv {a b : Str} {H : List Ob} : callW C 334 [.str a, .str b] H = some (.int .i64 (Lib.compareBytes a b), H) := by
 apply Ret.eq
 rw [aq8]
 simp [ajs, Tryz.f334, aiM]
theorem anp {a b : Str} {H : List Ob} : callW C 310 [.str a, .str b] H = some (.int .i64 (Lib.compareBytes (norm a) (norm b)), H) := by
 apply Ret.eq
 rw [ap9]
 have c1 := aiX (t := a) (H := H)
 have c2 := aiX (t := b) (H := H)
 simp [ajh, Tryz.f310, c1, c2, akv]
theorem anP : ∀ (a b : Str), (Lib.compareBytes a b < 0 ↔ LtS a b) ∧ (Lib.compareBytes a b = 0 ↔ a = b)
 | [], [] => by simp [Lib.compareBytes, LtS, Op.bytesLess]
 | [], _ :: _ => by simp [Lib.compareBytes, LtS, Op.bytesLess]
 | _ :: _, [] => by simp [Lib.compareBytes, LtS, Op.bytesLess]
 | a :: as', b :: bs => by
  obtain ⟨h1, h2⟩ := anP as' bs
  unfold LtS at h1 ⊢
  simp only [Lib.compareBytes, Op.bytesLess]
  by_cases g1 : a < b
  ·have : a ≠ b := fun h => by subst h; exact absurd g1 (by simp)
   simp [g1, this]
  ·by_cases g2 : b < a
   ·have : a ≠ b := fun h => by subst h; exact absurd g2 (by simp)
    simp [g1, g2, this]
   ·have : a = b := UInt8.toNat_inj.1 (by rw [UInt8.lt_iff_toNat_lt] at g1 g2; omega)
    subst this
    simp [h1, h2]
theorem auA {H : List Ob} {v : V} {l : List Str} (h : AStrs H v l) : callW C 309 [v] H = some (.int .i64 l.length, H) := by
 apply Ret.eq
 rw [ave]
 simp [aoD, Tryz.f309, h.len]
theorem apv {a b c : Int} {H : List Ob} : callW C 94 [.int .i64 a, .int .i64 b, .int .i64 c] H = some (.bool (decide (b ≤ a ∧ a ≤ c)), H) := by
 apply Ret.eq
 rw [awp]
 by_cases g1 : b ≤ a
 ·by_cases g2 : a ≤ c <;> simp [akA, Tryz.f94, g1, g2]
 ·simp [akA, Tryz.f94, g1]
theorem aun {H : List Ob} {n : Str} {v : V} {l : List Str} (h : AStrs H v l) : callW C 266 [.agg [.str n, v]] H = some (.bool (dec (NameOk n ∧ ValuesOk l)), H) := by
 apply Ret.dec
 rw [au2]
 have c1 := ajo (t := n) (H := H)
 have c2 := auA h
 have c3 := apv (a := l.length) (b := 1) (c := 4) (H := H)
 have hb : l.length ≤ 9223372036854775807 := h.bound
 by_cases g1 : NameOk n
 rotate_left
 ·rw [dec_neg g1] at c1
  simp [ak9, Tryz.f266, c1, g1, h.one]
 rw [dec_pos g1] at c1
 by_cases g2 : (1 : Int) ≤ l.length ∧ (l.length : Int) ≤ 4
 rotate_left
 ·rw [decide_eq_false g2] at c3
  have hn : ¬ ValuesOk l := fun h => g2 ⟨by have := h.2.1; omega, by have := h.2.2; omega⟩
  simp [ak9, Tryz.f266, c1, c2, c3, hn, h.one]
 rw [decide_eq_true g2] at c3
 simp [ak9, Tryz.f266, c1, c2, c3, h.one, h.len]
 refine WP_loop (fun k σ => ∃ (i : Nat) (r : Nat → R), i + k = l.length ∧ σ = ⟨r, 1, H⟩ ∧ r 1 = .box 0 [.str n, v] ∧ r 17 = .val v ∧ r 18 = .val (.int .i64 l.length) ∧ r 19 = .val (.int .i64 i) ∧ ∀ j x, j < i → l[j]? = some x → ValueOk x ∧ PrevLt norm l j x) ?_ l.length _ ⟨0, _, by simp, rfl, by simp, by simp, by simp, by simp, by simp⟩
 rintro k σ ⟨i, r, hik, rfl, r1, r17, r18, r19, hall⟩
 cases k with
 | zero =>
  have hi : i = l.length := by omega
  subst hi
  have hx := at_all (P := fun j (x : Str) => ValueOk x ∧ PrevLt norm l j x) hall
  have hv : ValuesOk l := ⟨hx, by omega, by omega⟩
  simp [r1, r17, r18, r19, g1, hv]
 | succ k =>
  have hi : i < l.length := by omega
  obtain ⟨x, hx⟩ : ∃ c, l[i]? = some c := ⟨l[i], by simp [hi]⟩
  have hw : IntKind.i64.wrap ((i : Int) + 1) = ((i : Int) + 1) := wrap_i64 (by omega) (by omega)
  obtain ⟨id, o, e1, l0, _⟩ := strs_idx h hx
  have c4 := akf (t := x) (H := H)
  have hstep := fun h => at_step (P := fun j (x : Str) => ValueOk x ∧ PrevLt norm l j x) hall hx h
  by_cases g3 : ValueOk x
  rotate_left
  ·rw [dec_neg g3] at c4
   have hn : ¬ ValuesOk l := fun hd => g3 (hd.1 i x hx).1
   simp [r1, r17, r18, r19, hi, e1, l0, c4, hn]
  rw [dec_pos g3] at c4
  by_cases hi0 : i = 0
  ·have := hstep ⟨g3, fun y hy => by omega⟩
   subst hi0
   simp at e1
   simp [r1, r17, r18, r19, hi, e1, l0, c4]
   exact ⟨k, by omega, 1, by omega, by omega, this⟩
  have hip : 0 < i := by omega
  obtain ⟨y, hy⟩ : ∃ c, l[i - 1]? = some c := ⟨l[i - 1]'(by omega), by simp⟩
  obtain ⟨id', o', e1', l0', _⟩ := strs_idx h hy
  have hw1 : IntKind.i64.wrap ((i : Int) - 1) = ((i - 1 : Nat) : Int) := by rw [wrap_i64 (by omega) (by omega)]; omega
  have c5 := anp (a := y) (b := x) (H := H)
  by_cases g4 : LtS (norm y) (norm x)
  ·have := hstep ⟨g3, fun z _ hz => by rw [hy] at hz; cases hz; exact g4⟩
   have g5 : ¬ (0 ≤ Lib.compareBytes (norm y) (norm x)) := by have := (anP (norm y) (norm x)).1.2 g4; omega
   simp [r1, r17, r18, r19, hi, e1, l0, c4, e1', l0', hw, hw1, hip, c5, g5]
   exact ⟨k, by omega, i + 1, by omega, by omega, this⟩
  ·have g5 : 0 ≤ Lib.compareBytes (norm y) (norm x) := by have := mt (anP (norm y) (norm x)).1.1 g4; omega
   have hn : ¬ ValuesOk l := fun hd => g4 ((hd.1 i x hx).2 y hip hy)
   simp [r1, r17, r18, r19, hi, e1, l0, c4, e1', l0', hw, hw1, hip, c5, g5, hn]
theorem ao9 {H : List Ob} {v : V} {l : List Str} (h : AStrs H v l) : callW C 203 [v] H = some (.bool (dec (NamesOk l)), H) := by
 apply Ret.dec
 rw [auY]
 have hb : l.length ≤ 9223372036854775807 := h.bound
 simp [ao2, Tryz.f203, h.len]
 refine WP_loop (fun k σ => ∃ (i : Nat) (r : Nat → R), i + k = l.length ∧ σ = ⟨r, 0, H⟩ ∧ r 0 = .val v ∧ r 5 = .val v ∧ r 6 = .val (.int .i64 l.length) ∧ r 7 = .val (.int .i64 i) ∧ ∀ j x, j < i → l[j]? = some x → NameOk x ∧ PrevLt (fun x => x) l j x) ?_ l.length _ ⟨0, _, by simp, rfl, by simp, by simp, by simp, by simp, by simp⟩
 rintro k σ ⟨i, r, hik, rfl, r0, r5, r6, r7, hall⟩
 cases k with
 | zero =>
  have hi : i = l.length := by omega
  subst hi
  have hx : NamesOk l := at_all (P := fun j (x : Str) => NameOk x ∧ PrevLt (fun x => x) l j x) hall
  simp [r0, r5, r6, r7, hx]
 | succ k =>
  have hi : i < l.length := by omega
  obtain ⟨x, hx⟩ : ∃ c, l[i]? = some c := ⟨l[i], by simp [hi]⟩
  have hw : IntKind.i64.wrap ((i : Int) + 1) = ((i : Int) + 1) := wrap_i64 (by omega) (by omega)
  obtain ⟨id, o, e1, l0, _⟩ := strs_idx h hx
  have c1 := ajo (t := x) (H := H)
  have hstep := fun h => at_step (P := fun j (x : Str) => NameOk x ∧ PrevLt (fun x => x) l j x) hall hx h
  by_cases g1 : NameOk x
  rotate_left
  ·rw [dec_neg g1] at c1
   have hn : ¬ NamesOk l := fun hd => g1 (hd i x hx).1
   simp [r0, r5, r6, r7, hi, e1, l0, c1, hn]
  rw [dec_pos g1] at c1
  by_cases hi0 : i = 0
  ·have := hstep ⟨g1, fun y hy => by omega⟩
   subst hi0
   simp at e1
   simp [r0, r5, r6, r7, hi, e1, l0, c1]
   exact ⟨k, by omega, 1, by omega, by omega, this⟩
  have hip : 0 < i := by omega
  obtain ⟨y, hy⟩ : ∃ c, l[i - 1]? = some c := ⟨l[i - 1]'(by omega), by simp⟩
  obtain ⟨id', o', e1', l0', _⟩ := strs_idx h hy
  have hw1 : IntKind.i64.wrap ((i : Int) - 1) = ((i - 1 : Nat) : Int) := by rw [wrap_i64 (by omega) (by omega)]; omega
  by_cases g2 : LtS y x
  ·have := hstep ⟨g1, fun z _ hz => by rw [hy] at hz; cases hz; exact g2⟩
   simp [r0, r5, r6, r7, hi, e1, l0, c1, e1', l0', hw, hw1, hip, aiv g2]
   exact ⟨k, by omega, i + 1, by omega, by omega, this⟩
  ·have hn : ¬ NamesOk l := fun hd => g2 ((hd i x hx).2 y hip hy)
   simp [r0, r5, r6, r7, hi, e1, l0, c1, e1', l0', hw, hw1, hip, aiB g2, hn]
theorem aoj {H : List Ob} {v w : V} {e : PEntry} (h1 : ARdns H v e.dn) (h2 : AAttrs H w e.attrs) : callW C 196 [.agg [v, w]] H = some (.bool (dec (EntryOk e)), H) := by
 apply Ret.dec
 rw [aw8]
 have c1 := asl h1
 have hb : e.attrs.length ≤ 9223372036854775807 := h2.bound
 by_cases g0 : e.dn.length = 0
 ·have hn : ¬ EntryOk e := fun h => by have := h.1; omega
  simp [akg, Tryz.f196, h1.len, g0, hn, h1.one, h2.one]
 have g0' : ¬ (e.dn.length : Int) = 0 := by omega
 by_cases g1 : DnOk e.dn
 rotate_left
 ·rw [dec_neg g1] at c1
  have hn : ¬ EntryOk e := fun h => g1 h.2.1
  simp [akg, Tryz.f196, h1.len, g0, c1, hn, h1.one, h2.one]
 rw [dec_pos g1] at c1
 by_cases g2 : (e.attrs.length : Int) > 8
 ·have hn : ¬ EntryOk e := fun h => by have := h.2.2.2; omega
  simp [akg, Tryz.f196, h1.len, h2.len, g0, g2, c1, hn, h1.one, h2.one]
 simp [akg, Tryz.f196, h1.len, h2.len, g0, g2, c1, h1.one, h2.one]
 refine WP_loop (fun k σ => ∃ (i n : Nat) (r : Nat → R), i + k = e.attrs.length ∧ σ = ⟨r, n, H⟩ ∧ r 1 = .box 0 [v, w] ∧ 1 ≤ n ∧ r 22 = .val w ∧ r 23 = .val (.int .i64 e.attrs.length) ∧ r 24 = .val (.int .i64 i) ∧ ∀ j x, j < i → e.attrs[j]? = some x → NameOk x.name ∧ PrevLt PAttr.name e.attrs j x ∧ ValuesOk x.vals) ?_ e.attrs.length _ ⟨0, 1, _, by simp, rfl, by simp, by omega, by simp, by simp, by simp, by simp⟩
 rintro k σ ⟨i, n, r, hik, rfl, r1, hn1, r22, r23, r24, hall⟩
 cases k with
 | zero =>
  have hi : i = e.attrs.length := by omega
  subst hi
  have hx := at_all (P := fun j (x : PAttr) => NameOk x.name ∧ PrevLt PAttr.name e.attrs j x ∧ ValuesOk x.vals) hall
  have hv : EntryOk e := ⟨by omega, g1, hx, by omega⟩
  simp [r1, r22, r23, r24, hv]
 | succ k =>
  have hi : i < e.attrs.length := by omega
  obtain ⟨x, hx⟩ : ∃ c, e.attrs[i]? = some c := ⟨e.attrs[i], by simp [hi]⟩
  have hw : IntKind.i64.wrap ((i : Int) + 1) = ((i : Int) + 1) := wrap_i64 (by omega) (by omega)
  obtain ⟨id, o, w', e1, l0, l1, l2, hvs, _⟩ := attrs_idx h2 hx
  have c2 := aun (n := x.name) hvs
  have hstep := fun h => at_step (P := fun j (x : PAttr) => NameOk x.name ∧ PrevLt PAttr.name e.attrs j x ∧ ValuesOk x.vals) hall hx h
  by_cases g3 : NameOk x.name ∧ ValuesOk x.vals
  rotate_left
  ·rw [dec_neg g3] at c2
   have hn : ¬ EntryOk e := fun hd => g3 ⟨(hd.2.2.1 i x hx).1, (hd.2.2.1 i x hx).2.2⟩
   simp [r1, r22, r23, r24, hi, e1, l2, c2, hn, hvs.one, regionL_none]
  rw [dec_pos g3] at c2
  by_cases hi0 : i = 0
  ·have := hstep ⟨g3.1, fun y hy => by omega, g3.2⟩
   subst hi0
   simp at e1
   simp [r1, r22, r23, r24, hi, e1, l2, c2, hvs.one, regionL_none]
   exact ⟨k, by omega, 1, by omega, n + 1, _, ⟨rfl, rfl⟩, by simp [r1], by omega, by simp [r22], by simp [r23], by simp, this⟩
  have hip : 0 < i := by omega
  obtain ⟨y, hy⟩ : ∃ c, e.attrs[i - 1]? = some c := ⟨e.attrs[i - 1]'(by omega), by simp⟩
  obtain ⟨id', o', _, e1', l0', _⟩ := attrs_idx h2 hy
  have hw1 : IntKind.i64.wrap ((i : Int) - 1) = ((i - 1 : Nat) : Int) := by rw [wrap_i64 (by omega) (by omega)]; omega
  by_cases g4 : LtS y.name x.name
  ·have := hstep ⟨g3.1, fun z _ hz => by rw [hy] at hz; cases hz; exact g4, g3.2⟩
   simp [r1, r22, r23, r24, hi, e1, l2, c2, e1', l0', hw, hw1, hip, aiv g4, hvs.one, regionL_none]
   exact ⟨k, by omega, i + 1, by omega, n + 1, _, ⟨rfl, rfl⟩, by simp [r1], by omega, by simp [r22], by simp [r23], by simp, this⟩
  ·have hn : ¬ EntryOk e := fun hd => g4 ((hd.2.2.1 i x hx).2.1 y hip hy)
   simp [r1, r22, r23, r24, hi, e1, l2, c2, e1', l0', hw, hw1, hip, aiB g4, hvs.one, regionL_none, hn]
def Own (H G : List Ob) (w : V) (l : List Str) : Prop := (w = .slc none 0 ∧ l = []) ∨ Gs H G w (l.map V.str)
theorem aju {H T : List Ob} {v : V} {l : List Str} (h : AStrs H v l) : ∃ p, v = .slc p l.length ∧ slcCells (H ++ T) p l.length = some (l.map V.str) ∧ (p = none → l = []) ∧ ∀ id off, p = some (id, off) → thereAt H id := by
 rcases h.sl with ⟨rfl, hl⟩ | ⟨id, off, own, cells, rfl, h2, h3, h4⟩
 ·have : l = [] := by simpa using hl
  subst this
  exact ⟨none, rfl, rfl, fun _ => rfl, fun _ _ h => by cases h⟩
 ·rw [List.length_map] at h3 ⊢
  refine ⟨some (id, off), rfl, ?_, (fun h => by cases h), (fun id' off' h => by cases h; exact ⟨_, _, _, h2⟩)⟩
  by_cases h0 : l.length = 0
  ·have : l = [] := List.length_eq_zero_iff.1 h0
   subst this
   rfl
  ·simp only [slcCells, up_append _ _ h2, if_neg h0]
   unfold rdCells
   simp only [Sh.size_str, Nat.mul_one] at h3 h4
   rw [if_pos h3]
   congr 1
   apply List.ext_getElem?
   intro j
   by_cases hj : j < l.length
   ·rw [List.getElem?_take_of_lt hj, List.getElem?_drop, List.getElem?_map]
    obtain ⟨s, hs⟩ : ∃ s, l[j]? = some s := ⟨l[j], List.getElem?_eq_getElem hj⟩
    obtain ⟨t, e1, e2, _⟩ := At_str.1 (h4 j (.str s) (by rw [List.getElem?_map, hs]; rfl))
    cases e2
    rw [hs]
    have := cells_get e1 (j := 0) rfl
    simpa using this
   ·rw [List.getElem?_eq_none (by simp; omega), List.getElem?_eq_none (by simp; omega)]
theorem aov {H : List Ob} {v : V} {l : List Str} (h : AStrs H v l) (hl : l.length ≤ 1048576) : ∃ T w, callW C 248 [v] H = some (w, H ++ T) ∧ Own H (H ++ T) w l := by
 suffices hs : Ret C 248 [v] H fun q H' => ∃ T, H' = H ++ T ∧ Own H (H ++ T) q l by
  obtain ⟨q, H', hc, T, rfl, hr⟩ := hs
  exact ⟨T, q, hc, hr⟩
 rw [aws]
 obtain ⟨p, rfl, hc, hp, ht⟩ := aju (T := [.mk true 1 []]) h
 cases p with
 | none =>
  have := hp rfl
  subst this
  simp [ald, Tryz.f248]
  exact .inl ⟨rfl, rfl⟩
 | some p =>
  by_cases h0 : l.length = 0
  ·have : l = [] := List.length_eq_zero_iff.1 h0
   subst this
   have ha : appendV ⟨.str, 1, 16, [.str []]⟩ (H ++ [.mk true 1 []]) (.slc (some (H.length, 0)) 0) (.slc (some p) 0) = some (.slc (some (H.length, 0)) 0, H ++ [.mk true 1 []]) := by
    unfold appendV
    rw [if_pos (by simp [growOk])]
    simp [newCells, slcCells]
   simp [ald, Tryz.f248, elemT, fillL, zerosL, St.new, ha]
   exact .inr Gs.init
  ·have hm : l.length * 16 ≤ maxMade := by unfold maxMade; omega
   have ha : appendV ⟨.str, 1, 16, [.str []]⟩ (H ++ [.mk true 1 []]) (.slc (some (H.length, 0)) 0) (.slc (some p) l.length) = some (.slc (some (H.length + 1, 0)) l.length, H ++ [.dead, .mk true 1 (l.map V.str)]) := by
    unfold appendV
    rw [if_pos (by simp [growOk])]
    simp only [newCells, Nat.mul_one, hc, if_neg h0]
    rw [if_pos (by simp)]
    simp [get_last, h0, hm]
   have hne : l ≠ [] := fun h => h0 (by rw [h]; rfl)
   have hgs : Gs H (H ++ [.dead, .mk true 1 (l.map V.str)]) (.slc (some (H.length + 1, 0)) l.length) (l.map V.str) :=
    ⟨_, H.length + 1, rfl, by omega, by rw [List.getElem?_append_right (by omega)]; simp, by simp⟩
   simp [ald, Tryz.f248, elemT, fillL, zerosL, St.new, ha, hgs.gc]
   exact .inr hgs
def FirstIs (p : Str → Bool) (l : List Str) (r : Int) : Prop := (∃ (k : Nat) (x : Str), l[k]? = some x ∧ p x = true ∧ (∀ j y, j < k → l[j]? = some y → p y = false) ∧ r = k) ∨ ((∀ (j : Nat) y, l[j]? = some y → p y = false) ∧ r = -1)
theorem ajw {H : List Ob} {v : V} {l : List Str} {g : Nat} {a b : List V} (h : AStrs H v l) (p : Str → Bool) (hg : ∀ x ∈ l, callW C g (a ++ ([.str x] ++ b)) H = some (.bool (p x), H)) :
  ∃ r : Int, callW C 308 [v, .fn g a b] H = some (.int .i64 r, H) ∧ FirstIs p l r := by
 suffices hs : Ret C 308 [v, .fn g a b] H fun q H' => (∃ r : Int, q = .int .i64 r ∧ FirstIs p l r) ∧ H' = H by
  obtain ⟨q, H', hc, ⟨r, rfl, hr⟩, rfl⟩ := hs
  exact ⟨r, hc, hr⟩
 rw [awq]
 have hb : l.length ≤ 9223372036854775807 := h.bound
 simp [api, Tryz.f308, h.len]
 refine WP_loop (fun k σ => ∃ (i : Nat) (r : Nat → R), i + k = l.length ∧ σ = ⟨r, 0, H⟩ ∧ r 0 = .val v ∧ r 1 = .val (.fn g a b) ∧ r 7 = .val (.int .i64 l.length) ∧ r 8 = .val (.int .i64 i) ∧ ∀ j x, j < i → l[j]? = some x → p x = false) ?_ l.length _ ⟨0, _, by simp, rfl, by simp, by simp, by simp, by simp, by simp⟩
 rintro k σ ⟨i, r, hik, rfl, r0, r1, r7, r8, hall⟩
 cases k with
 | zero =>
  have hi : i = l.length := by omega
  subst hi
  have hx := at_all (P := fun j (x : Str) => p x = false) hall
  simp [r0, r1, r7, r8]
  exact .inr ⟨hx, rfl⟩
 | succ k =>
  have hi : i < l.length := by omega
  obtain ⟨x, hx⟩ : ∃ c, l[i]? = some c := ⟨l[i], by simp [hi]⟩
  have hw : IntKind.i64.wrap ((i : Int) + 1) = ((i : Int) + 1) := wrap_i64 (by omega) (by omega)
  obtain ⟨id, o, e1, l0, _⟩ := strs_idx h hx
  have c1 := hg x (List.mem_of_getElem? hx)
  simp only [List.singleton_append] at c1
  cases hp : p x with
  | false =>
   rw [hp] at c1
   simp [r0, r1, r7, r8, hi, e1, l0, c1, hw]
   exact ⟨k, by omega, i + 1, by omega, by omega, at_step (P := fun j (x : Str) => p x = false) hall hx hp⟩
  | true =>
   rw [hp] at c1
   simp [r0, r1, r7, r8, hi, e1, l0, c1, hw]
   exact .inl ⟨i, x, hx, hp, hall, rfl⟩
theorem FirstIs.mem {p : Str → Bool} {l : List Str} {r : Int} (h : FirstIs p l r) : 0 ≤ r ↔ ∃ x ∈ l, p x = true := by
 rcases h with ⟨k, x, h1, h2, _, rfl⟩ | ⟨h1, rfl⟩
 ·exact ⟨fun _ => ⟨x, List.mem_of_getElem? h1, h2⟩, fun _ => by omega⟩
 ·refine ⟨fun h => by omega, fun ⟨x, hx, hp⟩ => ?_⟩
  obtain ⟨j, hj, rfl⟩ := List.getElem_of_mem hx
  rw [h1 j _ (List.getElem?_eq_getElem hj)] at hp
  cases hp
theorem ajz {H : List Ob} {v : V} {l : List Str} {g : Nat} {a b : List V} (h : AStrs H v l) (p : Str → Bool) (hg : ∀ x ∈ l, callW C g (a ++ ([.str x] ++ b)) H = some (.bool (p x), H)) :
  callW C 264 [v, .fn g a b] H = some (.bool (dec (∃ x ∈ l, p x = true)), H) := by
 obtain ⟨r, c1, hr⟩ := ajw h p hg
 apply Ret.dec
 rw [axx]
 by_cases g1 : 0 ≤ r
 ·have := hr.mem.1 g1
  simp [amd, Tryz.f264, c1, g1]
  exact this
 ·have := mt hr.mem.2 g1
  simp [amd, Tryz.f264, c1, g1]
  intro x hx
  cases hp : p x with
  | false => rfl
  | true => exact absurd ⟨x, hx, hp⟩ this
theorem aiI {H : List Ob} {v : V} {l : List Str} {t : Str} (h : AStrs H v l) : callW C 146 [v, .str t] H = some (.bool (dec (t ∈ l)), H) := by
 have hi : ∃ r : Int, callW C 233 [v, .str t] H = some (.int .i64 r, H) ∧ (0 ≤ r ↔ t ∈ l) := by
  suffices hs : Ret C 233 [v, .str t] H fun q H' => (∃ r : Int, q = .int .i64 r ∧ (0 ≤ r ↔ t ∈ l)) ∧ H' = H by
   obtain ⟨q, H', hc, ⟨r, rfl, hr⟩, rfl⟩ := hs
   exact ⟨r, hc, hr⟩
  rw [avw]
  have hb : l.length ≤ 9223372036854775807 := h.bound
  simp [aof, Tryz.f233, h.len]
  refine WP_loop (fun k σ => ∃ (i : Nat) (r : Nat → R), i + k = l.length ∧ σ = ⟨r, 0, H⟩ ∧ r 0 = .val v ∧ r 1 = .val (.str t) ∧ r 7 = .val (.int .i64 l.length) ∧ r 8 = .val (.int .i64 i) ∧ ∀ j x, j < i → l[j]? = some x → x ≠ t) ?_ l.length _ ⟨0, _, by simp, rfl, by simp, by simp, by simp, by simp, by simp⟩
  rintro k σ ⟨i, r, hik, rfl, r0, r1, r7, r8, hall⟩
  cases k with
  | zero =>
   have hi : i = l.length := by omega
   subst hi
   have hx := at_all (P := fun j (x : Str) => x ≠ t) hall
   have hn : t ∉ l := fun hm => by
    obtain ⟨j, hj, e⟩ := List.getElem_of_mem hm
    exact hx j _ (List.getElem?_eq_getElem hj) e
   simp [r0, r1, r7, r8, hn]
  | succ k =>
   have hi : i < l.length := by omega
   obtain ⟨x, hx⟩ : ∃ c, l[i]? = some c := ⟨l[i], by simp [hi]⟩
   have hw : IntKind.i64.wrap ((i : Int) + 1) = ((i : Int) + 1) := wrap_i64 (by omega) (by omega)
   obtain ⟨id, o, e1, l0, _⟩ := strs_idx h hx
   by_cases g1 : x = t
   ·have hm : t ∈ l := g1 ▸ List.mem_of_getElem? hx
    subst g1
    simp [r0, r1, r7, r8, hi, e1, l0, hm]
   ·have g1' : ¬ t = x := fun h => g1 h.symm
    simp [r0, r1, r7, r8, hi, e1, l0, g1', hw]
    exact ⟨k, by omega, i + 1, by omega, by omega, at_step (P := fun j (x : Str) => x ≠ t) hall hx g1⟩
 obtain ⟨r, c1, hr⟩ := hi
 apply Ret.dec
 rw [axy]
 by_cases g1 : 0 ≤ r
 ·simp [ame, Tryz.f146, c1, g1, hr.1 g1]
 ·simp [ame, Tryz.f146, c1, g1, mt hr.2 g1]
theorem arL {H : List Ob} {id : Nat} {own : Bool} {es : Nat} {va : V} {l : List Str} {t : Str} (h0 : H[id]? = some (.mk own es [va])) (h : AStrs H va l) : callW C 265 [.str t, .ptr (some (id, 0))] H = some (.bool (!dec (t ∈ l)), H) := by
 apply Ret.eq
 rw [avy]
 have ld := load1 (o := 0) (v := va) h0 rfl
 have c1 := aiI (t := t) h
 simp [aoo, Tryz.f265, ld, c1]
theorem aBf {H : List Ob} {v : V} {l : List Str} {n : Str} (h : AStrs H v l) : ∃ r : Int, callW C 262 [v, .str n] H = some (.int .i64 r, H) ∧ FirstIs (fun x => decide (norm x = n)) l r := by
 suffices hs : Ret C 262 [v, .str n] H fun q H' => (∃ r : Int, q = .int .i64 r ∧ FirstIs (fun x => decide (norm x = n)) l r) ∧ H' = H by
  obtain ⟨q, H', hc, ⟨r, rfl, hr⟩, rfl⟩ := hs
  exact ⟨r, hc, hr⟩
 rw [awL]
 have hb : l.length ≤ 9223372036854775807 := h.bound
 simp [apk, Tryz.f262]
 refine WP_loop (fun k σ => ∃ (i : Nat) (r : Nat → R), i + k = l.length ∧ σ = ⟨r, 0, H⟩ ∧ r 0 = .val v ∧ r 1 = .val (.str n) ∧ r 5 = .val (.int .i64 i) ∧ ∀ j x, j < i → l[j]? = some x → norm x ≠ n) ?_ l.length _ ⟨0, _, by simp, rfl, by simp, by simp, by simp, by simp⟩
 rintro k σ ⟨i, r, hik, rfl, r0, r1, r5, hall⟩
 cases k with
 | zero =>
  have hi : i = l.length := by omega
  subst hi
  have hx := at_all (P := fun j (x : Str) => norm x ≠ n) hall
  simp [r0, r1, r5, h.len]
  exact .inr ⟨fun j x hj => by simpa using hx j x hj, rfl⟩
 | succ k =>
  have hi : i < l.length := by omega
  obtain ⟨x, hx⟩ : ∃ c, l[i]? = some c := ⟨l[i], by simp [hi]⟩
  have hw : IntKind.i64.wrap ((i : Int) + 1) = ((i : Int) + 1) := wrap_i64 (by omega) (by omega)
  obtain ⟨id, o, e1, l0, _⟩ := strs_idx h hx
  have c1 := ajn (t := x) (H := H)
  by_cases g1 : norm x = n
  ·simp [r0, r1, r5, hi, h.len, e1, l0, c1, g1]
   exact .inl ⟨i, x, hx, by simpa using g1, fun j y hj hy => by simpa using hall j y hj hy, rfl⟩
  ·simp [r0, r1, r5, hi, h.len, e1, l0, c1, g1, hw]
   exact ⟨k, by omega, i + 1, by omega, by omega, at_step (P := fun j (x : Str) => norm x ≠ n) hall hx g1⟩
theorem amO {H : List Ob} {id o : Nat} {x : V} (h : ∀ T : LT, T.one → ∀ r c, loadAt T ⟨r, c, H⟩ (.hp id o) = some x) : id < H.length := by
 by_cases hi : id < H.length
 ·exact hi
 ·have h1 := h ⟨.str, 1, 16, [.str []]⟩ one_str (fun _ => .val .undef) 0
  have h2 : H[id]? = none := List.getElem?_eq_none (by omega)
  simp [loadAt, cellsAt, h2] at h1
theorem anU {H : List Ob} {v : V} {l : List PRdn} (h : ARdns H v l) (hd : DnOk l) : callW C 103 [v] H = some (.str (keyD l), H) := by
 apply Ret.eq
 rw [au4]
 have hb := hd.2
 have hw0 : IntKind.i64.wrap ((l.length : Int) - 1) = (l.length : Int) - 1 := wrap_i64 (by omega) (by omega)
 simp [aoY, Tryz.f103, h.len, hw0]
 refine WP_loop (fun m σ => ∃ (r : Nat → R), m ≤ l.length ∧ σ = ⟨r, 0, H⟩ ∧ r 0 = .val v ∧ r 3 = .val (.str (kacc l m)) ∧ r 4 = .val (.int .i64 ((m : Int) - 1))) ?_ l.length _ ⟨_, by omega, rfl, by simp, by simp [kacc_end], by simp⟩
 rintro m σ ⟨r, hm, rfl, r0, r3, r4⟩
 cases m with
 | zero =>
  simp at r4
  simp [r0, r3, r4, kacc_zero]
 | succ m =>
  have hi : m < l.length := by omega
  obtain ⟨x, hx⟩ : ∃ c, l[m]? = some c := ⟨l[m], by simp [hi]⟩
  have r4' : r 4 = .val (.int .i64 m) := by rw [r4]; congr 2; omega
  have hw : IntKind.i64.wrap ((m : Int) - 1) = (m : Int) - 1 := wrap_i64 (by omega) (by omega)
  obtain ⟨id, o, e1, l0, l1, _, _⟩ := rdns_idx h hx
  have c1 := ajn (t := x.value) (H := H)
  have k1 := kacc_len hd (m + 1)
  have k2 := (hd.1 m x hx).1.2.1
  have k3 := norm_len (t := x.value)
  have kst := kacc_step hx
  have b1 : (kacc l (m + 1)).length + 1 ≤ maxStr := by unfold maxStr; omega
  have b2 : (kacc l (m + 1)).length + (x.attr.length + 1) ≤ maxStr := by unfold maxStr; omega
  have b3 : (kacc l (m + 1)).length + (x.attr.length + 1 + 1) ≤ maxStr := by unfold maxStr; omega
  have b4 : (kacc l (m + 1)).length + (x.attr.length + ((norm x.value).length + 1) + 1) ≤ maxStr := by unfold maxStr; omega
  have hid := amO l0
  have b5 : (kacc l (m + 1)).length + 1 + x.attr.length ≤ maxStr := by unfold maxStr; omega
  have b6 : (kacc l (m + 1)).length + (x.attr.length + 1) + 1 ≤ maxStr := by unfold maxStr; omega
  have b7 : (kacc l (m + 1)).length + (x.attr.length + 1 + 1) + (norm x.value).length ≤ maxStr := by unfold maxStr; omega
  simp [r0, r3, r4', e1, l0, l1, c1, hw, strBin, b1, b2, b3, b4, b5, b6, b7, hid]
  exact ⟨m, by omega, by omega, by rw [kst]; simp [keyStep], rfl⟩
abbrev aiN : LT := ⟨.str, 1, 16, [.str []]⟩
theorem auj {H : List Ob} {n : Nat} (hn : n ≤ 1000) : callW C 234 [.slc none 0, .int .i64 n] H = some (if n = 0 then (.slc none 0, H) else (.slc (some (H.length, 0)) 0, H ++ [.mk true 1 (zerosL aiN n)])) := by
 have hw0 : IntKind.i64.wrap 0 = 0 := rfl
 have hwn : IntKind.i64.wrap (n : Int) = n := wrap_i64 (by omega) (by omega)
 have h1 : ¬ ((n : Int) < 0) := by omega
 by_cases h0 : n = 0
 ·subst h0
  rw [if_pos rfl]
  apply Ret.eq
  rw [as3]
  simp [amk, Tryz.f234, hw0]
 ·rw [if_neg h0]
  have h2 : (0 : Int) < n := by omega
  have h2' : 0 < n := by omega
  have h3 : (n : Int) * 16 ≤ 1099511627776 := by omega
  suffices hs : Ret C 234 [.slc none 0, .int .i64 n] H fun q H' => q = .slc (some (H.length, 0)) 0 ∧ H' = H ++ [.mk true 1 (zerosL aiN n)] by
   obtain ⟨q, H', hc, rfl, rfl⟩ := hs
   exact hc
  rw [as3]
  simp [amk, Tryz.f234, hw0, hwn, h1, h2, h2', elemT, appendZ, growOk, maxMade, h3, strideIs]
theorem aqL {H : List Ob} {ds xs zs : List V} {m : Nat} {x : V} (hx : newCells aiN (H ++ [.mk true 1 (ds ++ zs)]) x = some (xs, m)) (hm : xs.length = m) (hm0 : m ≠ 0) (hone : xs.all isOne = true) (hz : m ≤ zs.length) :
  appendV aiN (H ++ [.mk true 1 (ds ++ zs)]) (.slc (some (H.length, 0)) ds.length) x = some (.slc (some (H.length, 0)) (ds.length + m), H ++ [.mk true 1 (ds ++ xs ++ zs.drop m)]) := by
 unfold appendV
 rw [if_pos (by simp [growOk]), hx]
 simp only [if_neg hm0, hone, if_true, get_last]
 have e1 : 0 + (ds.length + m) * 1 ≤ (ds ++ zs).length := by simp; omega
 rw [if_pos e1, set_last]
 congr 4
 unfold setRange
 rw [Nat.zero_add, Nat.mul_one, List.take_left, hm, List.drop_append]
 simp
theorem ane {H : List Ob} {s x : V} {xs : List V} (hx : newCells aiN H x = some (xs, 0)) (hs : ∃ p n, s = .slc (some p) n ∨ s = .slc none 0) : appendV aiN H s x = some (s, H) := by
 unfold appendV
 rw [if_pos (by simp [growOk]), hx]
 obtain ⟨p, n, rfl | rfl⟩ := hs <;> simp
theorem aji {n : Nat} : (zerosL aiN n).length = n := by simp [zerosL]
def fl (ls : List (List Str)) (i : Nat) : List Str := (ls.take i).flatten
theorem akZ {ls : List (List Str)} : fl ls 0 = [] := by simp [fl]
theorem amy {ls : List (List Str)} {i : Nat} {l : List Str} (h : ls[i]? = some l) : fl ls (i + 1) = fl ls i ++ l := by
 unfold fl
 rw [take_get h, List.flatten_append]
 simp
theorem arG {ls : List (List Str)} {i : Nat} : (fl ls i).length ≤ (fl ls ls.length).length := by
 unfold fl
 have := congrArg List.length (congrArg List.flatten (List.take_append_drop i ls))
 rw [List.flatten_append, List.length_append] at this
 rw [List.take_length]
 omega
theorem alN {H : List Ob} {id : Nat} {own : Bool} {ws : List V} {ls : List (List Str)} (h0 : H[id]? = some (.mk own 1 ws)) (hl : ws.length = ls.length) (hw : ∀ (i : Nat) w l, ws[i]? = some w → ls[i]? = some l → AStrs H w l)
  (hb : (fl ls ls.length).length ≤ 1000) (hb2 : ls.length ≤ 1000) : ∃ T w, callW C 147 [.slc (some (id, 0)) ls.length] H = some (w, H ++ T) ∧ Own H (H ++ T) w (fl ls ls.length) := by
 suffices hs : Ret C 147 [.slc (some (id, 0)) ls.length] H fun q H' => ∃ T, H' = H ++ T ∧ Own H (H ++ T) q (fl ls ls.length) by
  obtain ⟨q, H', hc, T, rfl, hr⟩ := hs
  exact ⟨T, q, hc, hr⟩
 rw [av7]
 simp [apd, Tryz.f147]
 refine WP_loop (fun k σ => ∃ (i : Nat) (r : Nat → R), i + k = ls.length ∧ σ = ⟨r, 0, H⟩ ∧ r 0 = .val (.slc (some (id, 0)) ls.length) ∧ r 3 = .val (.int .i64 ((fl ls i).length : Nat)) ∧ r 9 = .val (.slc (some (id, 0)) ls.length) ∧ r 10 = .val (.int .i64 ls.length) ∧ r 11 = .val (.int .i64 i)) ?_ ls.length _ ⟨0, _, by simp, rfl, by simp, by simp [akZ], by simp, by simp, by simp⟩
 rintro k σ ⟨i, r, hik, rfl, r0, r3, r9, r10, r11⟩
 cases k with
 | succ k =>
  have hi : i < ls.length := by omega
  obtain ⟨w, hwi⟩ : ∃ w, ws[i]? = some w := ⟨ws[i]'(by omega), List.getElem?_eq_getElem _⟩
  obtain ⟨l, hli⟩ : ∃ l, ls[i]? = some l := ⟨ls[i], List.getElem?_eq_getElem hi⟩
  have hs := hw i w l hwi hli
  have ld := load1 h0 hwi
  have hf := amy hli
  have hle := arG (ls := ls) (i := i + 1)
  have hfl := congrArg List.length hf
  rw [List.length_append] at hfl
  have hw1 : IntKind.i64.wrap ((i : Int) + 1) = ((i : Int) + 1) := wrap_i64 (by omega) (by omega)
  have hw2 : IntKind.i64.wrap (((fl ls i).length : Nat) + (l.length : Int)) = (((fl ls (i + 1)).length : Nat) : Int) := by rw [wrap_i64 (by omega) (by omega)]; omega
  have hn : ¬ ((((fl ls (i + 1)).length : Nat) : Int) < 0) := by omega
  simp [r0, r3, r9, r10, r11, hi, ld, hs.len, hw1, hw2, hn]
  exact ⟨k, by omega, i + 1, by omega, rfl, by omega⟩
 | zero =>
 have hi : i = ls.length := by omega
 subst hi
 have hg := auj (H := H) (n := (fl ls ls.length).length) hb
 generalize hN : (fl ls ls.length).length = N at r3 hg hb
 by_cases hN0 : N = 0
 ·rw [if_pos hN0] at hg
  simp [r0, r3, r9, r10, r11, hg]
  refine WP_loop (fun k σ => ∃ (i : Nat) (r : Nat → R), i + k = ls.length ∧ σ = ⟨r, 0, H⟩ ∧ r 6 = .val (.slc none 0) ∧ r 25 = .val (.slc (some (id, 0)) ls.length) ∧ r 26 = .val (.int .i64 ls.length) ∧ r 27 = .val (.int .i64 i)) ?_ ls.length _ ⟨0, _, by simp, rfl, by simp, by simp [r0], by simp, by simp⟩
  clear hik r0 r3 r9 r10 r11 r
  rintro k σ ⟨i, r, hik, rfl, r6, r25, r26, r27⟩
  cases k with
  | zero =>
   have hi : i = ls.length := by omega
   subst hi
   simp [r6, r25, r26, r27]
   exact .inl ⟨rfl, List.length_eq_zero_iff.1 (by omega)⟩
  | succ k =>
   have hi : i < ls.length := by omega
   obtain ⟨w, hwi⟩ : ∃ w, ws[i]? = some w := ⟨ws[i]'(by omega), List.getElem?_eq_getElem _⟩
   obtain ⟨l, hli⟩ : ∃ l, ls[i]? = some l := ⟨ls[i], List.getElem?_eq_getElem hi⟩
   have hs := hw i w l hwi hli
   have ld := load1 h0 hwi
   have hl0 : l.length = 0 := by
    have h1 := congrArg List.length (amy hli)
    have h2 := arG (ls := ls) (i := i + 1)
    rw [List.length_append] at h1
    omega
   obtain ⟨p, rfl, hc, _⟩ := aju (T := []) hs
   rw [hl0] at hc ld
   have ha := ane (s := .slc none 0) (H := H) (x := .slc p 0) (xs := []) (by simp [newCells, slcCells]; cases p <;> simp) ⟨(0, 0), 0, .inr rfl⟩
   have hw1 : IntKind.i64.wrap ((i : Int) + 1) = ((i : Int) + 1) := wrap_i64 (by omega) (by omega)
   simp [r6, r25, r26, r27, hi, ld, elemT, ha, hw1]
   exact ⟨k, by omega, i + 1, by omega, by omega⟩
 ·rw [if_neg hN0] at hg
  simp [r0, r3, r9, r10, r11, hg]
  refine WP_loop (fun k σ => ∃ (i : Nat) (r : Nat → R) (zs : List V), i + k = ls.length ∧ σ = ⟨r, 0, H ++ [.mk true 1 ((fl ls i).map V.str ++ zs)]⟩ ∧ (fl ls i).length + zs.length = N ∧ r 6 = .val (.slc (some (H.length, 0)) (fl ls i).length) ∧ r 25 = .val (.slc (some (id, 0)) ls.length) ∧ r 26 = .val (.int .i64 ls.length) ∧ r 27 = .val (.int .i64 i)) ?_ ls.length _ ⟨0, _, zerosL aiN N, by simp, by rw [akZ]; rfl, by simp [aji, akZ], by simp [akZ], by simp [r0], by simp, by simp⟩
  clear hik r0 r3 r9 r10 r11 r
  rintro k σ ⟨i, r, zs, hik, rfl, hzs, r6, r25, r26, r27⟩
  cases k with
  | zero =>
   have hi : i = ls.length := by omega
   subst hi
   have hz0 : zs = [] := List.length_eq_zero_iff.1 (by omega)
   subst hz0
   rw [List.append_nil]
   have hgs : Gs H (H ++ [.mk true 1 ((fl ls ls.length).map V.str)]) (.slc (some (H.length, 0)) (fl ls ls.length).length) ((fl ls ls.length).map V.str) := ⟨_, H.length, rfl, Nat.le_refl _, get_last, by simp⟩
   simp [r6, r25, r26, r27]
   exact .inr hgs
  | succ k =>
   have hi : i < ls.length := by omega
   obtain ⟨w, hwi⟩ : ∃ w, ws[i]? = some w := ⟨ws[i]'(by omega), List.getElem?_eq_getElem _⟩
   obtain ⟨l, hli⟩ : ∃ l, ls[i]? = some l := ⟨ls[i], List.getElem?_eq_getElem hi⟩
   have hs := hw i w l hwi hli
   have hf := amy hli
   have hfl := congrArg List.length hf
   rw [List.length_append] at hfl
   have hle := arG (ls := ls) (i := i + 1)
   have ld := load1 (H := H ++ [.mk true 1 ((fl ls i).map V.str ++ zs)]) (up_append _ _ h0) hwi
   obtain ⟨p, rfl, hc, _⟩ := aju (T := [.mk true 1 ((fl ls i).map V.str ++ zs)]) hs
   have hw1 : IntKind.i64.wrap ((i : Int) + 1) = ((i : Int) + 1) := wrap_i64 (by omega) (by omega)
   have hnc : newCells aiN (H ++ [.mk true 1 ((fl ls i).map V.str ++ zs)]) (.slc p l.length) = some (l.map V.str, l.length) := by
    simp only [newCells, Nat.mul_one, hc]
   by_cases hl0 : l.length = 0
   ·have hl1 : l = [] := List.length_eq_zero_iff.1 hl0
    subst hl1
    have ha := ane (s := .slc (some (H.length, 0)) (fl ls i).length) hnc ⟨_, _, .inl rfl⟩
    rw [List.append_nil] at hf
    rw [← hf] at ha ld r6 hzs ⊢
    simp at ld ha
    simp [r6, r25, r26, r27, hi, ld, elemT, ha, hw1]
    exact ⟨k, by omega, i + 1, by omega, _, zs, ⟨rfl, rfl⟩, by omega, by simp [r6], by simp [r25], by simp [r26], by simp⟩
   ·have ha := aqL (H := H) (ds := (fl ls i).map V.str) (zs := zs) hnc (by simp) hl0 (by simp) (by omega)
    rw [List.length_map] at ha
    rw [← List.map_append, ← hf] at ha
    simp [r6, r25, r26, r27, hi, ld, elemT, ha, hw1]
    exact ⟨k, by omega, i + 1, by omega, _, zs.drop l.length, ⟨rfl, rfl⟩, by simp; omega, by simp; omega, by simp [r25], by simp [r26], by simp⟩
theorem alI : ∀ (l : List Str), strsOf (l.map V.str) = some l
 | [] => rfl
 | s :: l => by simp only [List.map_cons, strsOf, alI l]
def sorted (l : List Str) : List Str := l.mergeSort fun x y => decide (x ≤ y)
theorem aj2 {l : List Str} : (sorted l).length = l.length := List.length_mergeSort l
theorem sorted_perm {l : List Str} : (sorted l).Perm l := List.mergeSort_perm l _
theorem apD {G : List Ob} {id : Nat} {l : List Str} (h : G[id]? = some (.mk true 1 (l.map V.str))) (h0 : 0 < l.length) (hl : l.length ≤ 1048576) :
  callW C 296 [.slc (some (id, 0)) l.length] G = some (.tup [], G.set id (.mk true 1 ((sorted l).map V.str))) := by
 rw [callW_prim (pr := sortPrim) rfl]
 simp only [sortPrim, if_neg (show ¬ l.length = 0 by omega), h]
 rw [if_pos ⟨trivial, by simp, hl⟩]
 rw [List.drop_zero, List.take_of_length_le (by simp), alI]
 simp only
 congr 4
 unfold setRange
 simp [sorted]
def Apart (l : List Str) : Prop := ∀ (i : Nat) x, l[i]? = some x → l[i + 1]? ≠ some x
theorem akJ {H G : List Ob} (h : ∀ q, q < H.length → G[q]? = H[q]?) (hl : H.length ≤ G.length) : ∃ T, G = H ++ T := by
 refine ⟨G.drop H.length, ?_⟩
 apply List.ext_getElem?
 intro q
 by_cases hq : q < H.length
 ·rw [h q hq, List.getElem?_append_left hq]
 ·rw [List.getElem?_append_right (by omega), List.getElem?_drop]
  congr 1
  omega
theorem aps {H H' : List Ob} {r : V} (h : H'.length = H.length) : gcH H H' r = H' := by
 unfold gcH
 split
 ·rename_i hc
  obtain ⟨⟨T, rfl⟩, _⟩ := hc
  simp at h
  rw [h, List.append_nil]
 ·rfl
def CpI (cs l : List Str) (k n : Nat) : Prop := (∀ j, n ≤ j + 1 → cs[j]? = l[j]?) ∧ ∀ x, x ∈ cs.take k ↔ x ∈ l.take n
theorem CpI.init {l : List Str} {k : Nat} {x : Str} (hx : l[k]? = some x) (hy : l[k - 1]? = some x) (hk : 1 ≤ k) : CpI l l k (k + 1) :=
 ⟨fun _ _ => rfl, fun z => by
  rw [take_get hx, List.mem_append, List.mem_singleton]
  have hm : x ∈ l.take k := List.mem_of_getElem? (i := k - 1) (by rw [List.getElem?_take_of_lt (by omega)]; exact hy)
  exact ⟨.inl, fun h => h.elim id fun e => e ▸ hm⟩⟩
theorem CpI.same {cs l : List Str} {k n : Nat} {a : Str} (h : CpI cs l k n) (ha : cs[n]? = some a) (hb : cs[n - 1]? = some a) (hn : 1 ≤ n) : CpI cs l k (n + 1) := by
 have ha' : l[n]? = some a := by rw [← h.1 n (by omega)]; exact ha
 have hb' : l[n - 1]? = some a := by rw [← h.1 (n - 1) (by omega)]; exact hb
 refine ⟨fun j hj => h.1 j (by omega), fun x => ?_⟩
 rw [h.2 x, take_get ha', List.mem_append, List.mem_singleton]
 have hm : a ∈ l.take n := List.mem_of_getElem? (i := n - 1) (by rw [List.getElem?_take_of_lt (by omega)]; exact hb')
 exact ⟨.inl, fun h => h.elim id fun e => e ▸ hm⟩
theorem CpI.next {cs l : List Str} {k n : Nat} {a : Str} (h : CpI cs l k n) (ha : cs[n]? = some a) (hk : k + 1 ≤ n) : CpI (cs.set k a) l (k + 1) (n + 1) := by
 have ha' : l[n]? = some a := by rw [← h.1 n (by omega)]; exact ha
 have hkl : k < cs.length := by have := (List.getElem?_eq_some_iff.1 ha).1; omega
 refine ⟨fun j hj => by rw [List.getElem?_set_ne (by omega)]; exact h.1 j (by omega), fun x => ?_⟩
 have e1 : (cs.set k a).take (k + 1) = cs.take k ++ [a] := by
  rw [take_get (List.getElem?_set_self hkl)]
  congr 1
  apply List.ext_getElem?
  intro j
  by_cases hj : j < k
  ·rw [List.getElem?_take_of_lt hj, List.getElem?_take_of_lt hj, List.getElem?_set_ne (by omega)]
  ·rw [List.getElem?_eq_none (by simp; omega), List.getElem?_eq_none (by simp; omega)]
 rw [e1, take_get ha', List.mem_append, List.mem_append, h.2 x]
def Cp (G : List Ob) (id k : Nat) (l : List Str) : Prop := ∃ cs : List Str, G[id]? = some (.mk true 1 (cs.map V.str)) ∧ cs.length = l.length ∧ k ≤ cs.length ∧ ∀ x, x ∈ cs.take k ↔ x ∈ l
theorem Cp.all {G : List Ob} {id : Nat} {l : List Str} (h : G[id]? = some (.mk true 1 (l.map V.str))) : Cp G id l.length l := ⟨l, h, rfl, Nat.le_refl _, by simp⟩
theorem anh {n : Nat} : zerosL aiN n = (List.replicate n ([] : Str)).map V.str := by
 induction n with
 | zero => rfl
 | succ n ih => simp [zerosL, List.replicate_succ] at ih ⊢
theorem Cp.end {G : List Ob} {id k n : Nat} {cs l : List Str} (h : CpI cs l k n) (hn : n = l.length) (hc : cs.length = l.length) (hk : k ≤ l.length) (hid : id < G.length) : Cp (G.set id (.mk true 1 (setRange (cs.map V.str) k (zerosL aiN (l.length - k))))) id k l := by
 refine ⟨cs.take k ++ List.replicate (l.length - k) [], ?_, by simp; omega, by simp; omega, fun x => ?_⟩
 ·rw [List.getElem?_set_self hid, anh]
  congr 2
  unfold setRange
  rw [List.map_append, List.map_take, List.drop_of_length_le (by simp; omega), List.append_nil]
 ·rw [List.take_left' (by simp; omega), h.2 x, hn, List.take_length]
theorem apE {G0 : List Ob} {id : Nat} {l : List Str} (h : G0[id]? = some (.mk true 1 (l.map V.str))) (hl : l.length ≤ 1000) :
  ∃ G' k, callW C 297 [.slc (some (id, 0)) l.length] G0 = some (.slc (some (id, 0)) k, G') ∧ G'.length = G0.length ∧ (∀ q, q ≠ id → G'[q]? = G0[q]?) ∧ (k = l.length ↔ Apart l) ∧ Cp G' id k l := by
 suffices hs : Ret C 297 [.slc (some (id, 0)) l.length] G0 fun w G' => ∃ k, w = .slc (some (id, 0)) k ∧ G'.length = G0.length ∧ (∀ q, q ≠ id → G'[q]? = G0[q]?) ∧ (k = l.length ↔ Apart l) ∧ Cp G' id k l by
  obtain ⟨w, G', hc, k, rfl, h1, h2, h3⟩ := hs
  exact ⟨G', k, hc, h1, h2, h3⟩
 have hcp := Cp.all h
 rw [aqv]
 by_cases hl2 : (l.length : Int) < 2
 ·have ha : Apart l := fun i x _ hx => by
   have := (List.getElem?_eq_some_iff.1 hx).1
   omega
  simp [aj7, Tryz.f297, hl2, ha, hcp]
 simp [aj7, Tryz.f297, hl2]
 refine WP_loop (fun m σ => ∃ (k : Nat) (r : Nat → R), k + m = l.length ∧ σ = ⟨r, 0, G0⟩ ∧ r 0 = .val (.slc (some (id, 0)) l.length) ∧ r 3 = .val (.int .i64 k) ∧ 1 ≤ k ∧ ∀ i x, i + 1 < k → l[i]? = some x → l[i + 1]? ≠ some x) ?_ (l.length - 1) _ ⟨1, _, by omega, rfl, by simp, by simp, by omega, fun i x h => by omega⟩
 rintro m σ ⟨k, r, hkm, rfl, r0, r3, hk1, hall⟩
 cases m with
 | zero =>
  have hk : k = l.length := by omega
  subst hk
  have ha : Apart l := fun i x hx hx' => hall i x (List.getElem?_eq_some_iff.1 hx').1 hx hx'
  simp [r0, r3, ha, hcp]
 | succ m =>
  have hk : k < l.length := by omega
  have hkI : (k : Int) < l.length := by omega
  obtain ⟨x, hx⟩ : ∃ c, l[k]? = some c := ⟨l[k], by simp [hk]⟩
  obtain ⟨y, hy⟩ : ∃ c, l[k - 1]? = some c := ⟨l[k - 1]'(by omega), by simp⟩
  have hw : IntKind.i64.wrap ((k : Int) + 1) = ((k : Int) + 1) := wrap_i64 (by omega) (by omega)
  have hw1 : IntKind.i64.wrap ((k : Int) - 1) = ((k - 1 : Nat) : Int) := by rw [wrap_i64 (by omega) (by omega)]; omega
  have hk' : ((k - 1 : Nat) : Int) < l.length := by omega
  have hk'' : k - 1 < l.length := by omega
  have ldx := load1 (o := k) (v := .str x) h (by simp [hx])
  have ldy := load1 (o := k - 1) (v := .str y) h (by simp [hy])
  by_cases hxy : x = y
  rotate_left
  ·simp [r0, r3, hk, hk'', ldx, ldy, hw, hw1, hxy, regionL_none]
   refine ⟨m, by omega, k + 1, by omega, by omega, by omega, fun i z hi hz => ?_⟩
   by_cases hik : i + 1 = k
   ·have : i = k - 1 := by omega
    subst this
    rw [hy] at hz
    cases hz
    rw [hik, hx]
    simpa using hxy
   ·exact hall i z (by omega) hz
  have hna : ¬ Apart l := fun ha => ha (k - 1) y hy (by rw [show k - 1 + 1 = k by omega, hx, hxy])
  have hst : strideIs G0 id 1 = true := by simp [strideIs, h]
  have hle : k ≤ l.length := by omega
  simp [r0, r3, hk, hk'', hle, ldx, ldy, hw1, hxy, hst, regionL_none]
  refine WP_loop (fun m σ => ∃ (k2 k' : Nat) (r : Nat → R) (G : List Ob) (cs : List Str), k2 + m = l.length - k ∧ σ = ⟨r, 0, G⟩ ∧ r 0 = .val (.slc (some (id, 0)) l.length) ∧ r 3 = .val (.int .i64 k') ∧ r 4 = .val (.slc (some (id, k)) (l.length - k)) ∧ r 5 = .val (.int .i64 k2) ∧ 1 ≤ k2 ∧ k' + 1 ≤ k + k2 ∧
   G.length = G0.length ∧ (∀ q, q ≠ id → G[q]? = G0[q]?) ∧ G[id]? = some (.mk true 1 (cs.map V.str)) ∧ cs.length = l.length ∧ CpI cs l k' (k + k2)) ?_ (l.length - k - 1) _ ⟨1, k, _, G0, l, by omega, rfl, by simp [r0], by simp [r3], by simp, by simp, by omega, by omega, rfl, fun _ _ => rfl, h, rfl, CpI.init hx (hxy ▸ hy) hk1⟩
  clear r0 r3 r hst
  rintro m2 σ ⟨k2, k', r, G, cs, hkm2, rfl, r0, r3, r4, r5, hk2, hkk, hG1, hG2, hG3, hcs, hci⟩
  have hst : strideIs G id 1 = true := by simp [strideIs, hG3]
  have hid : id < G.length := (List.getElem?_eq_some_iff.1 hG3).1
  cases m2 with
  | zero =>
   have hk2' : ((l.length - k : Nat) : Int) = k2 := by omega
   have hk2'' : l.length - k = k2 := by omega
   have hlt : k' < l.length := by omega
   have hle' : k' ≤ l.length := by omega
   have hnz : ¬ (l.length - k' = 0) := by omega
   have hwa : ∀ r c, writeAt ⟨r, c, G⟩ (.hp id k') (zerosL aiN (l.length - k')) = some ⟨r, c, G.set id (.mk true 1 (setRange (cs.map V.str) k' (zerosL aiN (l.length - k'))))⟩ := by
    intro r c
    simp only [writeAt, hG3]
    rw [if_pos (by rw [aji, List.length_map]; omega)]
   have hst2 : ∀ o, strideIs (G.set id (.mk true 1 o)) id 1 = true := fun o => by simp [strideIs, hid]
   have hne : ¬ (k' = l.length) := by omega
   have hend := Cp.end (G := G) hci (by omega) hcs hle' hid
   have hgl : ∀ o w, gcH G0 (G.set id o) w = G.set id o := fun o w => aps (by rw [List.length_set]; exact hG1)
   simp [r0, r3, r4, r5, hk2'', hle', hst, elemT, hnz, hwa, hst2, hgl, -setRange]
   refine ⟨hG1, fun q hq => ?_, ⟨fun h => absurd h hne, fun h => absurd h hna⟩, hend⟩
   rw [List.getElem?_set_ne (Ne.symm hq)]
   exact hG2 q hq
  | succ m2 =>
   have hlt : k2 < l.length - k := by omega
   obtain ⟨a, ha⟩ : ∃ c, cs[k + k2]? = some c := ⟨cs[k + k2]'(by omega), by simp⟩
   obtain ⟨b, hb⟩ : ∃ c, cs[k + (k2 - 1)]? = some c := ⟨cs[k + (k2 - 1)]'(by omega), by simp⟩
   have ld1 := load1 (o := k + k2) (v := .str a) hG3 (by simp [ha])
   have ld2 := load1 (o := k + (k2 - 1)) (v := .str b) hG3 (by simp [hb])
   have hw2 : IntKind.i64.wrap ((k2 : Int) - 1) = ((k2 - 1 : Nat) : Int) := by rw [wrap_i64 (by omega) (by omega)]; omega
   have hw3 : IntKind.i64.wrap ((k2 : Int) + 1) = ((k2 : Int) + 1) := wrap_i64 (by omega) (by omega)
   have hw4 : IntKind.i64.wrap ((k' : Int) + 1) = ((k' : Int) + 1) := wrap_i64 (by omega) (by omega)
   have hlt2 : k2 - 1 < l.length - k := by omega
   have hlt3 : k' < l.length := by omega
   by_cases hab : a = b
   ·simp [r0, r3, r4, r5, hlt, hlt2, ld1, ld2, hw2, hw3, hab, regionL_none]
    exact ⟨m2, by omega, k2 + 1, by omega, k', _, G, ⟨rfl, rfl⟩, by simp [r0], by simp [r3], by simp [r4], by simp, by omega, by omega, hG1, hG2, cs, hG3, hcs, hci.same ha (by rw [show k + k2 - 1 = k + (k2 - 1) by omega, hab]; exact hb) (by omega)⟩
   ·have st := store1 (v := .str a) (o := k') hG3 (by simp; omega) rfl rfl
    simp [r0, r3, r4, r5, hlt, hlt2, hlt3, ld1, ld2, hw2, hw3, hw4, hab, regionL_none, st]
    exact ⟨m2, by omega, k2 + 1, by omega, k' + 1, _, _, ⟨rfl, rfl⟩, by simp [r0], by simp, by simp [r4], by simp, by omega, by omega, by simpa using hG1, fun q hq => by rw [List.getElem?_set_ne (Ne.symm hq)]; exact hG2 q hq, cs.set k' a, by rw [List.getElem?_set_self hid, List.map_set], by simpa using hcs, hci.next ha (by omega)⟩
theorem anb {l : List Str} (h : l.Pairwise fun a b => a ≤ b) : Apart l ↔ l.Nodup := by
 constructor
 ·intro ha
  induction l with
  | nil => exact List.nodup_nil
  | cons x l ih =>
   rw [List.pairwise_cons] at h
   rw [List.nodup_cons]
   have ha' : Apart l := fun i y hy => ha (i + 1) y (by simpa using hy)
   refine ⟨fun hx => ?_, ih h.2 ha'⟩
   cases l with
   | nil => cases hx
   | cons y l =>
    have hxy : x ≠ y := fun he => ha 0 x rfl (by simp [he])
    have h1 : x ≤ y := h.1 y List.mem_cons_self
    rcases List.mem_cons.1 hx with rfl | hx
    ·exact hxy rfl
    ·have h2 : y ≤ x := (List.pairwise_cons.1 h.2).1 x hx
     exact hxy (List.le_antisymm h1 h2)
 ·intro hn i x h1 h2
  obtain ⟨hi, h1⟩ := List.getElem?_eq_some_iff.1 h1
  obtain ⟨hi2, h2⟩ := List.getElem?_eq_some_iff.1 h2
  exact List.pairwise_iff_getElem.1 hn i (i + 1) hi hi2 (by omega) (h1.trans h2.symm)
theorem ank {l : List Str} : (sorted l).Pairwise fun a b => a ≤ b := by
 have := List.pairwise_mergeSort (le := fun x y : Str => decide (x ≤ y)) (fun a b c h1 h2 => by simp at h1 h2 ⊢; exact List.le_trans h1 h2) (fun a b => by simp; exact List.le_total a b) l
 exact this.imp fun h => by simpa using h
theorem ajc {H : List Ob} {v : V} {l : List Str} (h : AStrs H v l) : ∀ s ∈ l, s.length ≤ maxLen := fun s hs => by
 obtain ⟨j, hj, rfl⟩ := List.getElem_of_mem hs
 obtain ⟨_, _, _, _, h⟩ := strs_idx h (List.getElem?_eq_getElem hj)
 exact h
def auW (b : Nat) (p : Option (Nat × Nat)) : Prop := ∀ q o, p = some (q, o) → b ≤ q
def Some1 (G : List Ob) (w : V) (l : List Str) : Prop := ∃ l', AStrs G w l' ∧ (∀ x, x ∈ l' ↔ x ∈ l) ∧ l'.length ≤ l.length
theorem Some1.nil {G : List Ob} : Some1 G (.slc none 0) [] := ⟨[], At_slice.2 ⟨_, _, rfl, rfl, by simp, .inl ⟨rfl, rfl⟩⟩, fun _ => Iff.rfl, Nat.le_refl _⟩
theorem Some1.none {G : List Ob} {id : Nat} {cs : List V} (h : G[id]? = some (.mk true 1 cs)) : Some1 G (.slc (some (id, 0)) 0) [] := ⟨[], At_slice.2 ⟨_, _, rfl, rfl, by simp, .inr ⟨id, 0, true, cs, rfl, h, by simp, fun i x hx => by simp at hx⟩⟩, fun _ => Iff.rfl, Nat.le_refl _⟩
theorem aqk {G : List Ob} {id k : Nat} {own : Bool} {cs : List Str} (h : G[id]? = some (.mk own 1 (cs.map V.str))) (hk : k ≤ cs.length) (hl : k ≤ maxLen) (hs : ∀ s ∈ cs.take k, s.length ≤ maxLen) : AStrs G (.slc (some (id, 0)) k) (cs.take k) := by
 refine At_slice.2 ⟨_, _, rfl, rfl, by simp; omega, .inr ⟨id, 0, own, cs.map V.str, by simp; omega, h, by simp; omega, fun i x hx => ?_⟩⟩
 rw [List.getElem?_map] at hx
 obtain ⟨s, hs', rfl⟩ := Option.map_eq_some_iff.1 hx
 have hi : i < (cs.take k).length := (List.getElem?_eq_some_iff.1 hs').1
 have hi2 : i < cs.length := by rw [List.length_take] at hi; omega
 have hc : cs[i]? = some s := by rw [List.length_take] at hi; rw [List.getElem?_take_of_lt (by omega)] at hs'; exact hs'
 refine At_str.2 ⟨s, ?_, rfl, hs s (List.mem_of_getElem? hs')⟩
 rw [Sh.size_str, Nat.zero_add, Nat.mul_one, List.drop_eq_getElem_cons (by simpa using hi2)]
 obtain ⟨_, rfl⟩ := List.getElem?_eq_some_iff.1 hc
 simp
theorem Some1.of {G : List Ob} {id k : Nat} {l : List Str} (h : Cp G id k (sorted l)) (hb : l.length ≤ 1000) (hm : ∀ s ∈ l, s.length ≤ maxLen) : Some1 G (.slc (some (id, 0)) k) l := by
 obtain ⟨cs, h1, h0, h2, h3⟩ := h
 rw [aj2] at h0
 have h4 : ∀ x, x ∈ cs.take k ↔ x ∈ l := fun x => (h3 x).trans sorted_perm.mem_iff
 exact ⟨cs.take k, aqk h1 h2 (by unfold maxLen; omega) fun s hs => hm s ((h4 s).1 hs), h4, by simp; omega⟩
theorem alL {H : List Ob} {id : Nat} {own : Bool} {va : V} {l : List Str} (h0 : H[id]? = some (.mk own 1 [va])) (hw : AStrs H va l) (hb : l.length ≤ 1000) :
  ∃ T p n, callW C 235 [.slc (some (id, 0)) 1] H = some (.slc p n, H ++ T) ∧ (n = l.length ↔ l.Nodup) ∧ Some1 (H ++ T) (.slc p n) l ∧ auW H.length p := by
 suffices hs : Ret C 235 [.slc (some (id, 0)) 1] H fun q H' => ∃ T p n, q = .slc p n ∧ H' = H ++ T ∧ (n = l.length ↔ l.Nodup) ∧ Some1 H' q l ∧ auW H.length p by
  obtain ⟨q, H', hc, T, p, n, rfl, rfl, hr⟩ := hs
  exact ⟨T, p, n, hc, hr⟩
 have hmx := ajc hw
 rw [awJ]
 have hfl : fl [l] 1 = l := by simp [fl]
 obtain ⟨T, w, c1, hown⟩ := alN (ls := [l]) h0 rfl (fun i w l' h1 h2 => by
  cases i with
  | zero => cases h1; cases h2; exact hw
  | succ i => simp at h1) (by simp only [List.length_singleton, hfl]; exact hb) (by simp)
 simp only [List.length_singleton, hfl] at c1 hown
 rcases hown with ⟨rfl, rfl⟩ | hgs
 ·have c2 : callW C 296 [.slc none 0] (H ++ T) = some (.tup [], H ++ T) := callW_prim (pr := sortPrim) rfl
  have c3 : callW C 297 [.slc none 0] (H ++ T) = some (.slc none 0, H ++ T) := by
   apply Ret.eq
   rw [aqv]
   simp [aj7, Tryz.f297]
  simp [akW, Tryz.f235, c1, c2, c3]
  exact ⟨[], _, _, ⟨rfl, rfl⟩, by simp [gcH, ext_append, lowV], rfl, Some1.nil, fun _ _ h => by cases h⟩
 ·obtain ⟨T', id', hT, h1, h2, rfl⟩ := hgs
  have hT' := List.append_cancel_left hT
  subst hT'
  rw [List.length_map] at c1
  have hid : id' < (H ++ T).length := (List.getElem?_eq_some_iff.1 h2).1
  by_cases hl0 : l.length = 0
  ·have : l = [] := List.length_eq_zero_iff.1 hl0
   subst this
   have c2 : callW C 296 [.slc (some (id', 0)) 0] (H ++ T) = some (.tup [], H ++ T) := callW_prim (pr := sortPrim) rfl
   have c3 : callW C 297 [.slc (some (id', 0)) 0] (H ++ T) = some (.slc (some (id', 0)) 0, H ++ T) := by
    apply Ret.eq
    rw [aqv]
    simp [aj7, Tryz.f297]
   have hgc : gcH H (H ++ T) (.slc (some (id', 0)) 0) = H ++ T := Gs.gc ⟨T, id', rfl, h1, h2, rfl⟩
   simp at c1
   simp [akW, Tryz.f235, c1, c2, c3, hgc]
   exact ⟨_, _, _, ⟨rfl, rfl⟩, rfl, rfl, Some1.none (by simpa using h2), fun _ _ h => by cases h; exact h1⟩
  ·have c2 := apD h2 (by omega) (by omega)
   obtain ⟨G', k, c3, k1, k2, k3, k4⟩ := apE (l := sorted l) (G0 := (H ++ T).set id' (.mk true 1 ((sorted l).map V.str))) (id := id') (by rw [List.getElem?_set_self hid]) (by rw [aj2]; exact hb)
   rw [aj2] at c3 k3
   rw [List.length_set] at k1
   obtain ⟨T2, hT2⟩ : ∃ T2, G' = H ++ T2 := akJ (fun q hq => by
    rw [k2 q (by omega), List.getElem?_set_ne (by omega), List.getElem?_append_left hq]) (by rw [k1]; simp)
   subst hT2
   have hgc : ∀ n, gcH H (H ++ T2) (.slc (some (id', 0)) n) = H ++ T2 := fun n => by
    unfold gcH
    rw [if_neg]
    rintro ⟨_, own, es, cells, h⟩
    have := (List.getElem?_eq_some_iff.1 h).1
    omega
   have hnd : k = l.length ↔ l.Nodup := by
    rw [k3, anb ank]
    exact sorted_perm.nodup_iff
   simp [akW, Tryz.f235, c1, c2, c3, hgc]
   exact ⟨T2, _, _, ⟨rfl, rfl⟩, rfl, hnd, Some1.of k4 hb hmx, fun _ _ h => by cases h; exact h1⟩
theorem asG {H : List Ob} {id : Nat} {own : Bool} {va : V} {l : List Str} (h0 : H[id]? = some (.mk own 1 [va])) (hw : AStrs H va l) (hb : l.length ≤ 1000) :
  ∃ T p n, callW C 235 [.slc (some (id, 0)) 1] H = some (.slc p n, H ++ T) ∧ (n = l.length ↔ l.Nodup) := by
 obtain ⟨T, p, n, h1, h2, _⟩ := alL h0 hw hb
 exact ⟨T, p, n, h1, h2⟩
theorem Own.strs {H G : List Ob} {w : V} {l : List Str} (h : Own H G w l) (hl : l.length ≤ maxLen) (hs : ∀ s ∈ l, s.length ≤ maxLen) : AStrs G w l := by
 rcases h with ⟨rfl, rfl⟩ | h
 ·exact At_slice.2 ⟨_, _, rfl, rfl, by simp, .inl ⟨rfl, rfl⟩⟩
 ·exact (h.strs hl hs).1
theorem ajK {H X Y : List Ob} : Keep H.length (H ++ X) (H ++ Y) := fun id hid => by rw [List.getElem?_append_left hid, List.getElem?_append_left hid]
theorem aj8 {H Y : List Ob} : Keep H.length H (H ++ Y) := fun id hid => by rw [List.getElem?_append_left hid]
theorem Own.one {H G : List Ob} {w : V} {l : List Str} (h : Own H G w l) : isOne w = true ∧ cellsOf w = some [w] := by
 rcases h with ⟨rfl, rfl⟩ | h
 ·exact ⟨rfl, rfl⟩
 ·exact h.one
theorem ah5 : ∀ (a b : Str), LtS a b ↔ a < b
 | a, [] => by simp [LtS, Op.bytesLess]
 | [], b :: bs => by simp [LtS, Op.bytesLess]
 | a :: as', b :: bs => by
  have := ah5 as' bs
  unfold LtS at this ⊢
  simp [Op.bytesLess, List.cons_lt_cons_iff, this]
theorem aln : ∀ {l : List Str}, NamesOk l → l.Pairwise fun a b => a < b
 | [], _ => .nil
 | [x], _ => by simp
 | x :: y :: l, h => by
  have h' : NamesOk (y :: l) := fun j z hz => by
   obtain ⟨h1, h2⟩ := h (j + 1) z (by simpa using hz)
   refine ⟨h1, fun v hj hv => h2 v (by omega) ?_⟩
   rw [show j + 1 - 1 = (j - 1) + 1 by omega]
   simpa using hv
  have ih := aln h'
  have hxy : x < y := (ah5 x y).1 ((h 1 y rfl).2 x (by omega) rfl)
  rw [List.pairwise_cons]
  refine ⟨fun z hz => ?_, ih⟩
  rcases List.mem_cons.1 hz with rfl | hz
  ·exact hxy
  ·exact List.lt_trans hxy ((List.pairwise_cons.1 ih).1 z hz)
theorem akH {l : List Str} (h : NamesOk l) : l.Nodup := (aln h).imp fun h e => by subst e; exact List.lt_irrefl _ h
theorem ar8 {H : List Ob} {w1 w2 w3 : V} {c : PClass} (h1 : AStrs H w1 c.must) (h2 : AStrs H w2 c.may) (h3 : AStrs H w3 c.single) : callW C 194 [.agg [.str c.name, w1, w2, w3]] H = some (.bool (dec (ClassOk c)), H) := by
 apply Ret.dec
 rw [awo]
 simp [anT, Tryz.f194, h1.one, h2.one, h3.one, elemT, fillL, zerosL, St.new]
 refine WP_loop (fun k σ => ∃ (i : Nat) (r : Nat → R), i + k = 3 ∧ σ = ⟨r, 1, H ++ [.mk true 1 [w1, w2, w3]]⟩ ∧ r 1 = .box 0 [.str c.name, w1, w2, w3] ∧ r 12 = .val (.slc (some (H.length, 0)) 3) ∧ r 13 = .val (.int .i64 3) ∧ r 14 = .val (.int .i64 i) ∧ ∀ j l, j < i → [c.must, c.may, c.single][j]? = some l → l.length ≤ 10 ∧ NamesOk l) ?_ 3 _ ⟨0, _, by simp, rfl, by simp, by simp, by simp, by simp, by simp⟩
 rintro k σ ⟨i, r, hik, rfl, r1, r12, r13, r14, hall⟩
 cases k with
 | succ k =>
  have hi : i < 3 := by omega
  have hiI : (i : Int) < 3 := by omega
  obtain ⟨l, w, hli, hwi, hs, hcl⟩ : ∃ l w, [c.must, c.may, c.single][i]? = some l ∧ [w1, w2, w3][i]? = some w ∧ AStrs H w l ∧ (ClassOk c → l.length ≤ 10 ∧ NamesOk l) := by
   match i, hi with
   | 0, _ => exact ⟨_, _, rfl, rfl, h1, fun h => ⟨h.l1, h.n1⟩⟩
   | 1, _ => exact ⟨_, _, rfl, rfl, h2, fun h => ⟨h.l2, h.n2⟩⟩
   | 2, _ => exact ⟨_, _, rfl, rfl, h3, fun h => ⟨h.l3, h.n3⟩⟩
  have ld := load1 (H := H ++ [.mk true 1 [w1, w2, w3]]) (o := i) get_last hwi
  have hw : IntKind.i64.wrap ((i : Int) + 1) = ((i : Int) + 1) := wrap_i64 (by omega) (by omega)
  have c1 := ao9 (hs.ext (T := [.mk true 1 [w1, w2, w3]]))
  by_cases g1 : (l.length : Int) > 10
  ·have hn : ¬ ClassOk c := fun h => by have := (hcl h).1; omega
   simp [r1, r12, r13, r14, hiI, hi, ld, (hs.ext (T := [.mk true 1 [w1, w2, w3]])).len, g1, hn]
  by_cases g2 : NamesOk l
  ·rw [dec_pos g2] at c1
   simp [r1, r12, r13, r14, hiI, hi, ld, (hs.ext (T := [.mk true 1 [w1, w2, w3]])).len, g1, c1, hw]
   exact ⟨k, by omega, i + 1, by omega, by omega, at_step (P := fun j (l : List Str) => l.length ≤ 10 ∧ NamesOk l) hall hli ⟨by omega, g2⟩⟩
  ·rw [dec_neg g2] at c1
   have hn : ¬ ClassOk c := fun h => g2 (hcl h).2
   simp [r1, r12, r13, r14, hiI, hi, ld, (hs.ext (T := [.mk true 1 [w1, w2, w3]])).len, g1, c1, hn]
 | zero =>
 have hi : i = 3 := by omega
 subst hi
 obtain ⟨m1, m2⟩ := hall 0 c.must (by omega) rfl
 obtain ⟨m3, m4⟩ := hall 1 c.may (by omega) rfl
 obtain ⟨m5, m6⟩ := hall 2 c.single (by omega) rfl
 have hfl : fl [c.must, c.may] 2 = c.must ++ c.may := by simp [fl]
 obtain ⟨T, w, c1, hown⟩ := alN (H := H ++ [.mk true 1 [w1, w2, w3]] ++ [.mk true 1 [w1, w2]]) (id := H.length + 1) (ls := [c.must, c.may]) (ws := [w1, w2]) (own := true) (by rw [List.getElem?_append_right (by simp)]; simp) rfl (fun i v l g1 g2 => by
  match i with
  | 0 => cases g1; cases g2; exact h1.ext.ext
  | 1 => cases g1; cases g2; exact h2.ext.ext
  | i + 2 => simp at g1) (by simp only [List.length_cons, List.length_nil, Nat.reduceAdd, hfl, List.length_append]; omega) (by simp)
 simp only [List.length_cons, List.length_nil, Nat.reduceAdd, hfl, List.append_assoc, List.cons_append, List.nil_append] at c1 hown
 have how := hown.one
 have st := store1 (H := H ++ .mk true 1 [w1, w2, w3] :: .mk true 1 [w1, w2] :: (T ++ [.mk true 1 [.slc none 0]])) (id := H.length + (T.length + 1 + 1)) (es := 1) (cells := [.slc none 0]) (v := w) (o := 0) (by rw [List.getElem?_append_right (by omega)]; simp) (by simp) how.2 how.1
 have hmem : (H ++ Ob.mk true 1 [w1, w2, w3] :: Ob.mk true 1 [w1, w2] :: (T ++ [Ob.mk true 1 [V.slc none 0]])).length = H.length + (T.length + 1 + 1) + 1 := by simp; omega
 have hold : ∀ (q : Nat) o, (H ++ Ob.mk true 1 [w1, w2, w3] :: Ob.mk true 1 [w1, w2] :: T)[q]? = some o → ((H ++ Ob.mk true 1 [w1, w2, w3] :: Ob.mk true 1 [w1, w2] :: (T ++ [Ob.mk true 1 [V.slc none 0]])).set (H.length + (T.length + 1 + 1)) (Ob.mk true 1 ([V.slc none 0].set 0 w)))[q]? = some o := fun q o hq => by
  have hql := (List.getElem?_eq_some_iff.1 hq).1
  simp at hql
  rw [List.getElem?_set_ne (by omega), show H ++ Ob.mk true 1 [w1, w2, w3] :: Ob.mk true 1 [w1, w2] :: (T ++ [Ob.mk true 1 [V.slc none 0]]) = (H ++ Ob.mk true 1 [w1, w2, w3] :: Ob.mk true 1 [w1, w2] :: T) ++ [Ob.mk true 1 [V.slc none 0]] by simp]
  exact up_append _ _ hq
 have hobj : ((H ++ Ob.mk true 1 [w1, w2, w3] :: Ob.mk true 1 [w1, w2] :: (T ++ [Ob.mk true 1 [V.slc none 0]])).set (H.length + (T.length + 1 + 1)) (Ob.mk true 1 ([V.slc none 0].set 0 w)))[H.length + (T.length + 1 + 1)]? = some (Ob.mk true 1 [w]) := by
  rw [List.getElem?_set_self (by omega)]
  rfl
 obtain ⟨H3, hH3⟩ : ∃ H3, H3 = (H ++ Ob.mk true 1 [w1, w2, w3] :: Ob.mk true 1 [w1, w2] :: (T ++ [Ob.mk true 1 [V.slc none 0]])).set (H.length + (T.length + 1 + 1)) (Ob.mk true 1 ([V.slc none 0].set 0 w)) := ⟨_, rfl⟩
 rw [← hH3] at st hobj hold
 obtain ⟨T3, hT3⟩ : ∃ T3, H3 = H ++ T3 := by
  refine ⟨(Ob.mk true 1 [w1, w2, w3] :: Ob.mk true 1 [w1, w2] :: (T ++ [Ob.mk true 1 [V.slc none 0]])).set (T.length + 1 + 1) (Ob.mk true 1 ([V.slc none 0].set 0 w)), ?_⟩
  rw [hH3, List.set_append_right _ _ (by omega), Nat.add_sub_cancel_left]
 simp [r1, r12, r13, r14, h1.one, h2.one, h3.one, elemT, fillL, zerosL, St.new, c1, strideOf, st, -regionL_some]
 generalize H.length + (T.length + 1 + 1) = id5 at hobj
 have hall3 : AStrs H3 w (c.must ++ c.may) := (hown.strs (by rw [List.length_append]; unfold maxLen; omega) (fun s hs => by
  rcases List.mem_append.1 hs with hs | hs
  ·exact ajc h1 s hs
  ·exact ajc h2 s hs)).up hold
 have hid5 : id5 < H3.length := (List.getElem?_eq_some_iff.1 hobj).1
 have h33 : AStrs H3 w3 c.single := by rw [hT3]; exact h3.ext
 have hgc1 : ∀ b, gcH H H3 (.bool b) = H := fun b => by rw [hT3]; exact gcH_bool
 have hgc2 : ∀ b X, gcH H (H3 ++ X) (.bool b) = H := fun b X => by rw [hT3, List.append_assoc]; exact gcH_bool
 clear hH3 hold hT3 st c1 hown hmem
 have ld := load1 (o := 0) hobj rfl
 have c2 := ajo (t := c.name) (H := H3)
 have hok : ClassOk c ↔ NameOk c.name ∧ (c.must ++ c.may).Nodup ∧ classT ∉ c.must ++ c.may ∧ ∀ t ∈ c.single, t ∈ c.must ++ c.may := by
  constructor
  ·intro h
   refine ⟨h.name, ?_, ?_, ?_⟩
   ·rw [List.nodup_append]
    exact ⟨akH h.n1, akH h.n2, fun a ha b hb hab => h.apart a ha (hab ▸ hb)⟩
   ·rw [List.mem_append]; exact fun h' => h'.elim h.noMust h.noMay
   ·intro t ht; rw [List.mem_append]; exact (h.known t ht).symm
  ·rintro ⟨k1, k2, k3, k4⟩
   rw [List.nodup_append] at k2
   rw [List.mem_append] at k3
   exact ⟨k1, m1, m3, m5, m2, m4, m6, fun t ht ht' => k2.2.2 t ht t ht' rfl, fun t ht => (List.mem_append.1 (k4 t ht)).symm, fun h => k3 (.inl h), fun h => k3 (.inr h)⟩
 by_cases g1 : NameOk c.name
 rotate_left
 ·rw [dec_neg g1] at c2
  have hn : ¬ ClassOk c := fun h => g1 h.name
  simp [r1, hid5, c2, hn, hgc1, hgc2, List.lookup]
 rw [dec_pos g1] at c2
 obtain ⟨T4, p, n, c3, hn⟩ := asG (H := H3 ++ [Ob.mk true 1 [w]]) (id := H3.length) get_last hall3.ext (by rw [List.length_append]; omega)
 simp only [List.append_assoc, List.cons_append, List.nil_append] at c3
 have hln := fun {e s b : Nat} {z : List V} => hall3.len (e := e) (s := s) (b := b) (z := z)
 by_cases g2 : (n : Int) = (c.must ++ c.may).length
 rotate_left
 ·have hno : ¬ ClassOk c := fun h => g2 (by have := hn.2 (hok.1 h).2.1; omega)
  simp only [List.length_append, Int.natCast_add] at g2 hln
  simp [r1, hid5, c2, c3, ld, hln, g2, elemT, fillL, zerosL, St.new, ajK, aj8, hall3.one, hno, hgc1, hgc2, List.lookup]
 have c4 : callW C 146 [w, .str [99, 108, 97, 115, 115]] (H3 ++ Ob.mk true 1 [w] :: T4) = some (.bool (dec (classT ∈ c.must ++ c.may)), H3 ++ Ob.mk true 1 [w] :: T4) := aiI hall3.ext
 have ld2 := load1 (H := H3 ++ Ob.mk true 1 [w] :: T4) (o := 0) (v := w) (up_append _ _ hobj) rfl
 have g2' : (c.must ++ c.may).Nodup := hn.1 (by omega)
 by_cases g3 : classT ∈ c.must ++ c.may
 ·rw [dec_pos g3] at c4
  have hno : ¬ ClassOk c := fun h => (hok.1 h).2.2.1 g3
  simp only [List.length_append, Int.natCast_add] at g2 hln
  simp [r1, hid5, c2, c3, c4, ld, ld2, hln, g2, elemT, fillL, zerosL, St.new, ajK, aj8, hall3.one, hno, hgc1, hgc2, List.lookup]
 rw [dec_neg g3] at c4
 have c5 := ajz (H := H3 ++ Ob.mk true 1 [w] :: T4) (g := 265) (a := []) (b := [.ptr (some (id5, 0))]) h33.ext (fun x => !dec (x ∈ c.must ++ c.may)) (fun x _ => arL (up_append _ _ hobj) hall3.ext)
 by_cases g4 : ∃ x ∈ c.single, (!dec (x ∈ c.must ++ c.may)) = true
 ·rw [dec_pos g4] at c5
  have hno : ¬ ClassOk c := fun h => by
   obtain ⟨x, hx, hd⟩ := g4
   rw [dec_pos ((hok.1 h).2.2.2 x hx)] at hd
   cases hd
  simp only [List.length_append, Int.natCast_add] at g2 hln
  simp [r1, hid5, c2, c3, c4, c5, ld, ld2, hln, g2, elemT, fillL, zerosL, St.new, ajK, aj8, hall3.one, hno, hgc1, hgc2, List.lookup, h3.one]
 ·rw [dec_neg g4] at c5
  have hyes : ClassOk c := hok.2 ⟨g1, g2', g3, fun t ht => Classical.byContradiction fun h => g4 ⟨t, ht, by rw [dec_neg h]; rfl⟩⟩
  simp only [List.length_append, Int.natCast_add] at g2 hln
  simp [r1, hid5, c2, c3, c4, c5, ld, ld2, hln, g2, elemT, fillL, zerosL, St.new, ajK, aj8, hall3.one, hyes, hgc1, hgc2, List.lookup, h3.one]
theorem amW {H : List Ob} {v : V} {l : List PClass} (h : AClasses H v l) : callW C 110 [v] H = some (.bool (dec (SchemaOk l)), H) := by
 apply Ret.dec
 rw [avv]
 have hb : l.length ≤ 9223372036854775807 := h.bound
 by_cases g0 : (l.length : Int) > 6
 ·have hn : ¬ SchemaOk l := fun h => by have := h.2; omega
  simp [ams, Tryz.f110, h.len, g0, hn]
 simp [ams, Tryz.f110, h.len, g0]
 refine WP_loop (fun k σ => ∃ (i n : Nat) (r : Nat → R), i + k = l.length ∧ σ = ⟨r, n, H⟩ ∧ r 0 = .val v ∧ r 8 = .val v ∧ r 9 = .val (.int .i64 l.length) ∧ r 10 = .val (.int .i64 i) ∧ ∀ j x, j < i → l[j]? = some x → ClassOk x ∧ PrevLt PClass.name l j x) ?_ l.length _ ⟨0, 0, _, by simp, rfl, by simp, by simp, by simp, by simp, by simp⟩
 rintro k σ ⟨i, n, r, hik, rfl, r0, r8, r9, r10, hall⟩
 cases k with
 | zero =>
  have hi : i = l.length := by omega
  subst hi
  have hx := at_all (P := fun j (x : PClass) => ClassOk x ∧ PrevLt PClass.name l j x) hall
  have hv : SchemaOk l := ⟨hx, by omega⟩
  simp [r0, r8, r9, r10, hv]
 | succ k =>
  have hi : i < l.length := by omega
  obtain ⟨x, hx⟩ : ∃ c, l[i]? = some c := ⟨l[i], by simp [hi]⟩
  have hw : IntKind.i64.wrap ((i : Int) + 1) = ((i : Int) + 1) := wrap_i64 (by omega) (by omega)
  obtain ⟨id, o, w1, w2, w3, e1, l0, l4, q1, q2, q3, _⟩ := classes_idx h hx
  have c1 := ar8 q1 q2 q3
  have hstep := fun h => at_step (P := fun j (x : PClass) => ClassOk x ∧ PrevLt PClass.name l j x) hall hx h
  by_cases g1 : ClassOk x
  rotate_left
  ·rw [dec_neg g1] at c1
   have hn : ¬ SchemaOk l := fun hd => g1 (hd.1 i x hx).1
   simp [r0, r8, r9, r10, hi, e1, l4, c1, hn, regionL_none, q1.one, q2.one, q3.one]
  rw [dec_pos g1] at c1
  by_cases hi0 : i = 0
  ·have := hstep ⟨g1, fun y hy => by omega⟩
   subst hi0
   simp at e1
   simp [r0, r8, r9, r10, hi, e1, l4, c1, regionL_none, q1.one, q2.one, q3.one]
   exact ⟨k, by omega, 1, by omega, n + 1, _, ⟨rfl, rfl⟩, by simp [r0], by simp [r8], by simp [r9], by simp, this⟩
  have hip : 0 < i := by omega
  obtain ⟨y, hy⟩ : ∃ c, l[i - 1]? = some c := ⟨l[i - 1]'(by omega), by simp⟩
  obtain ⟨id', o', _, _, _, e1', l0', _⟩ := classes_idx h hy
  have hw1 : IntKind.i64.wrap ((i : Int) - 1) = ((i - 1 : Nat) : Int) := by rw [wrap_i64 (by omega) (by omega)]; omega
  by_cases g2 : LtS y.name x.name
  ·have := hstep ⟨g1, fun z _ hz => by rw [hy] at hz; cases hz; exact g2⟩
   simp [r0, r8, r9, r10, hi, e1, l0, l4, c1, e1', l0', hw, hw1, hip, aiv g2, regionL_none, q1.one, q2.one, q3.one]
   exact ⟨k, by omega, i + 1, by omega, n + 1, _, ⟨rfl, rfl⟩, by simp [r0], by simp [r8], by simp [r9], by simp, this⟩
  ·have hn : ¬ SchemaOk l := fun hd => g2 ((hd.1 i x hx).2 y hip hy)
   simp [r0, r8, r9, r10, hi, e1, l0, l4, c1, e1', l0', hw, hw1, hip, aiB g2, regionL_none, q1.one, q2.one, q3.one, hn]
noncomputable def ajC (a b : Str) : Int := if dec (LtS a b) = true then -1 else if dec (LtS b a) = true then 1 else 0
theorem ak4 {a b : Str} : ajC a b < 0 ↔ LtS a b := by
 unfold ajC
 by_cases h : LtS a b
 ·rw [dec_pos h]; simp [h]
 ·rw [dec_neg h]
  by_cases h' : LtS b a
  ·rw [dec_pos h']; simp [h]
  ·rw [dec_neg h']; simp [h]
theorem akl {a b : Str} : ajC a b = 0 ↔ a = b := by
 unfold ajC
 by_cases h : LtS a b
 ·rw [dec_pos h]
  have : a ≠ b := fun e => by subst e; exact List.lt_irrefl _ ((ah5 a a).1 h)
  simp [this]
 ·rw [dec_neg h]
  by_cases h' : LtS b a
  ·rw [dec_pos h']
   have : a ≠ b := fun e => by subst e; exact List.lt_irrefl _ ((ah5 a a).1 h')
   simp [this]
  ·rw [dec_neg h']
   have h1 : b ≤ a := fun hh => h ((ah5 a b).2 hh)
   have h2 : a ≤ b := fun hh => h' ((ah5 b a).2 hh)
   simp [List.le_antisymm h2 h1]
theorem as2 {a b : Str} {H : List Ob} : callW C 275 [.str a, .str b] H = some (.int .i64 (ajC a b), H) := by
 have c0 : ∀ x : Str, callW C 316 [.str x] H = some (.bool false, H) := fun x => by
  apply Ret.eq
  rw [au5]
  simp [aph, Tryz.f316]
 apply Ret.eq
 rw [awr]
 by_cases g1 : LtS a b
 ·have : ajC a b = -1 := by unfold ajC; rw [dec_pos g1]; rfl
  simp [akR, Tryz.f275, c0, aiv g1, this]
 ·by_cases g2 : LtS b a
  ·have hne : a ≠ b := fun e => by subst e; exact g1 g2
   have : ajC a b = 1 := by unfold ajC; rw [dec_neg g1, dec_pos g2]; rfl
   simp [akR, Tryz.f275, c0, aiB g1, hne, this]
  ·have : ajC a b = 0 := by unfold ajC; rw [dec_neg g1, dec_neg g2]; rfl
   have he := akl.1 this
   simp [akR, Tryz.f275, c0, aiB g1, he, this]
   subst he
   simp [aiB g1, this]
theorem amV {n t : Str} {w : V} {H : List Ob} (ho : cellsOf w = some [w]) : callW C 355 [.agg [.str n, w], .str t] H = some (.int .i64 (ajC n t), H) := by
 apply Ret.eq
 rw [au8]
 simp [aol, Tryz.f355, as2]
theorem akz {α : Type} {key : α → Str} : ∀ {l : List α}, (∀ (j : Nat) x, l[j]? = some x → PrevLt key l j x) → l.Pairwise fun a b => key a < key b
 | [], _ => .nil
 | [x], _ => by simp
 | x :: y :: l, h => by
  have h' : ∀ (j : Nat) z, (y :: l)[j]? = some z → PrevLt key (y :: l) j z := fun j z hz v hj hv => by
   refine h (j + 1) z (by simpa using hz) v (by omega) ?_
   rw [show j + 1 - 1 = (j - 1) + 1 by omega]
   simpa using hv
  have ih := akz h'
  have hxy : key x < key y := (ah5 _ _).1 (h 1 y rfl x (by omega) rfl)
  rw [List.pairwise_cons]
  refine ⟨fun z hz => ?_, ih⟩
  rcases List.mem_cons.1 hz with rfl | hz
  ·exact hxy
  ·exact List.lt_trans hxy ((List.pairwise_cons.1 ih).1 z hz)
theorem aqm {H : List Ob} {v : V} {l : List PAttr} {t : Str} (h : AAttrs H v l) (hl : l.length ≤ 1000) (hp : l.Pairwise fun a b => a.name < b.name) :
  ∃ (i : Nat) (ok : Bool), callW C 354 [v, .str t, .fn 355 [] []] H = some (.tup [.int .i64 i, .bool ok], H) ∧
   (ok = true → ∃ a, l[i]? = some a ∧ a.name = t) ∧ (ok = false → ∀ a ∈ l, a.name ≠ t) := by
 suffices hs : Ret C 354 [v, .str t, .fn 355 [] []] H fun q H' =>
   (∃ (i : Nat) (ok : Bool), q = .tup [.int .i64 i, .bool ok] ∧ (ok = true → ∃ a, l[i]? = some a ∧ a.name = t) ∧ (ok = false → ∀ a ∈ l, a.name ≠ t)) ∧ H' = H by
  obtain ⟨q, H', hc, ⟨i, ok, rfl, h1, h2⟩, rfl⟩ := hs
  exact ⟨i, ok, hc, h1, h2⟩
 rw [axF]
 simp [aoJ, Tryz.f354, h.len]
 refine WP_loop (fun k σ => ∃ (i j : Nat) (r : Nat → R), j - i = k ∧ i ≤ j ∧ j ≤ l.length ∧ σ = ⟨r, 0, H⟩ ∧ r 0 = .val v ∧ r 1 = .val (.str t) ∧ r 2 = .val (.fn 355 [] []) ∧ r 8 = .val (.int .i64 l.length) ∧ r 9 = .val (.int .i64 i) ∧ r 10 = .val (.int .i64 j) ∧
  (∀ q a, q < i → l[q]? = some a → LtS a.name t) ∧ (∀ q a, j ≤ q → l[q]? = some a → ¬ LtS a.name t)) ?_ l.length _ ⟨0, l.length, _, by omega, by omega, by omega, rfl, by simp, by simp, by simp, by simp, by simp, by simp, fun q a h => by omega, fun q a h1 h2 => by have := (List.getElem?_eq_some_iff.1 h2).1; omega⟩
 rintro k σ ⟨i, j, r, hk, hij, hjl, rfl, r0, r1, r2, r8, r9, r10, hlo, hhi⟩
 cases k with
 | succ k =>
  have hlt : (i : Int) < j := by omega
  have hlt' : i < j := by omega
  have hw1 : IntKind.i64.wrap ((i : Int) + j) = (i : Int) + j := wrap_i64 (by omega) (by omega)
  have hw2 : IntKind.u64.wrap ((i : Int) + j) = (i : Int) + j := by unfold IntKind.wrap; simp [IntKind.bits, IntKind.signed]; omega
  have hq : ((i : Int) + j).fdiv 2 = (((i + j) / 2 : Nat) : Int) := by rw [Int.fdiv_eq_ediv_of_nonneg _ (by omega)]; omega
  obtain ⟨m, hm⟩ : ∃ m, m = (i + j) / 2 := ⟨_, rfl⟩
  rw [← hm] at hq
  have hw3 : IntKind.i64.wrap (m : Int) = m := wrap_i64 (by omega) (by omega)
  have hw4 : IntKind.i64.wrap ((m : Int) + 1) = (m : Int) + 1 := wrap_i64 (by omega) (by omega)
  have hml : m < l.length := by omega
  obtain ⟨a, ha⟩ : ∃ a, l[m]? = some a := ⟨l[m], List.getElem?_eq_getElem hml⟩
  obtain ⟨id, o, w, e1, l0, l1, l2, hvs, _⟩ := attrs_idx h ha
  have c1 := amV (n := a.name) (t := t) (w := w) (H := H) hvs.one.2
  have hord : ∀ q b, l[q]? = some b → (q < m → b.name < a.name) ∧ (m < q → a.name < b.name) := fun q b hb => by
   obtain ⟨hq1, hb⟩ := List.getElem?_eq_some_iff.1 hb
   obtain ⟨_, ha⟩ := List.getElem?_eq_some_iff.1 ha
   have := List.pairwise_iff_getElem.1 hp
   exact ⟨fun hh => by have := this q m hq1 hml hh; rwa [hb, ha] at this, fun hh => by have := this m q hml hq1 hh; rwa [hb, ha] at this⟩
  by_cases g1 : LtS a.name t
  ·have g1' := ak4.2 g1
   simp [r0, r1, r2, r8, r9, r10, hlt, hlt', hw1, hw2, hq, hw3, hw4, e1, l2, c1, g1', intShift, IntKind.bits]
   refine ⟨j - (m + 1), by omega, m + 1, j, by omega, by omega, by omega, by omega, rfl, fun q b hq1 hb => ?_, hhi⟩
   by_cases hqm : q = m
   ·subst hqm; rw [ha] at hb; cases hb; exact g1
   ·exact (ah5 _ _).2 (List.lt_trans ((hord q b hb).1 (by omega)) ((ah5 _ _).1 g1))
  ·have g1' : ¬ ajC a.name t < 0 := mt ak4.1 g1
   simp [r0, r1, r2, r8, r9, r10, hlt, hlt', hw1, hw2, hq, hw3, hw4, e1, l2, c1, g1', intShift, IntKind.bits]
   refine ⟨m - i, by omega, i, m, by omega, by omega, by omega, rfl, rfl, hlo, fun q b hq1 hb hlt2 => ?_⟩
   by_cases hqm : q = m
   ·subst hqm; rw [ha] at hb; cases hb; exact g1 hlt2
   ·exact g1 ((ah5 _ _).2 (List.lt_trans ((hord q b hb).2 (by omega)) ((ah5 _ _).1 hlt2)))
 | zero =>
  have hij' : i = j := by omega
  subst hij'
  by_cases hil : i < l.length
  ·have hilI : (i : Int) < l.length := by omega
   obtain ⟨a, ha⟩ : ∃ a, l[i]? = some a := ⟨l[i], List.getElem?_eq_getElem hil⟩
   obtain ⟨id, o, w, e1, l0, l1, l2, hvs, _⟩ := attrs_idx h ha
   have c1 := amV (n := a.name) (t := t) (w := w) (H := H) hvs.one.2
   by_cases g1 : a.name = t
   ·have g1' := akl.2 g1
    simp [r0, r1, r2, r8, r9, r10, hil, e1, l2, c1, g1']
    exact ⟨i, rfl, a, ha, g1⟩
   ·have g1' : ¬ ajC a.name t = 0 := mt akl.1 g1
    simp [r0, r1, r2, r8, r9, r10, hil, e1, l2, c1, g1']
    refine ⟨⟨i, rfl⟩, fun b hb hbt => ?_⟩
    obtain ⟨q, hq1, rfl⟩ := List.getElem_of_mem hb
    have hqe := List.getElem?_eq_getElem hq1
    rcases Nat.lt_trichotomy q i with hh | hh | hh
    ·have := hlo q _ hh hqe
     rw [hbt] at this
     exact List.lt_irrefl _ ((ah5 _ _).1 this)
    ·subst hh; rw [ha] at hqe; cases hqe; exact g1 hbt
    ·have h1 := hhi i a (by omega) ha
     obtain ⟨_, ha'⟩ := List.getElem?_eq_some_iff.1 ha
     have h2 := List.pairwise_iff_getElem.1 hp i q hil hq1 hh
     rw [ha', hbt] at h2
     exact h1 ((ah5 _ _).2 h2)
  ·simp [r0, r1, r2, r8, r9, r10, hil]
   refine ⟨⟨i, rfl⟩, fun b hb hbt => ?_⟩
   obtain ⟨q, hq1, rfl⟩ := List.getElem_of_mem hb
   have := hlo q _ (by omega) (List.getElem?_eq_getElem hq1)
   rw [hbt] at this
   exact List.lt_irrefl _ ((ah5 _ _).1 this)
end Go.Proofs.Try1
end
section
namespace Go.Lite
open Go
def At2 (H : List Ob) (id o : Nat) (x y : V) : Prop := ∃ own es cells, H[id]? = some (.mk own es cells) ∧ cells[o]? = some x ∧ cells[o + 1]? = some y
section
variable {H T : List Ob} {id o : Nat} {x y : V}
theorem At2.of {own : Bool} {es : Nat} (h : H[id]? = some (.mk own es [x, y])) : At2 H id 0 x y := ⟨_, _, _, h, rfl, rfl⟩
theorem At2.lt (h : At2 H id o x y) : id < H.length := by
 obtain ⟨_, _, _, h, _⟩ := h
 exact (List.getElem?_eq_some_iff.1 h).1
theorem At2.ext (h : At2 H id o x y) : At2 (H ++ T) id o x y := by
 obtain ⟨a, b, c, h, h2⟩ := h
 exact ⟨a, b, c, up_append _ _ h, h2⟩
theorem At2.ld0 (h : At2 H id o x y) : ∀ T : LT, T.one → ∀ r c, loadAt T ⟨r, c, H⟩ (.hp id o) = some x := by
 obtain ⟨a, b, c, h, h2, _⟩ := h
 exact load1 h h2
theorem At2.ld1 (h : At2 H id o x y) : ∀ T : LT, T.one → ∀ r c, loadAt T ⟨r, c, H⟩ (.hp id (o + 1)) = some y := by
 obtain ⟨a, b, c, h, _, h2⟩ := h
 exact load1 h h2
theorem At2.there (h : At2 H id o x y) : thereAt H id := by
 obtain ⟨a, b, c, h, _⟩ := h
 exact ⟨a, b, c, h⟩
end
end Go.Lite
end
