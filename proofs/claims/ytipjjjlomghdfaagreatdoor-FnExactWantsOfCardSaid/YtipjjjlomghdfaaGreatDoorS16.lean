/- Part 16 of the proof of a law: the interpreter, its soundness, and what functions of the program compute over it. Conditions: none but those that each theorem names. -/
import Derived.Test.YtipjjjlomghdfaaGreatDoorS15
import Derived.Test.YtipjjjlomghdfaaGreatDoorS14
import Derived.Test.YtipjjjlomghdfaaGreatDoorS09
import Derived.Test.YtipjjjlomghdfaaGreatDoorS10
import Derived.Test.YtipjjjlomghdfaaGreatDoorS13
import Derived.Test.YtipjjjlomghdfaaGreatDoorS08

set_option linter.all false
set_option maxRecDepth 20000
set_option maxHeartbeats 40000000
section
namespace Go.Proofs.Try1
open Go Go.Lite
attribute [-simp] WP_region WP_cond
attribute [local simp] WP_regionF WP_condF ThenW_some ThenW_none CondW_true CondW_false
attribute [local simp low] CondW_bool
def Gp (a b : Str) (fa fb : Bool) (i j1 j2 : Nat) (m : Nat) (Lc : List V) (pos : Nat) (fine : Bool) : Prop :=
 (m = 0 ∧ Lc = [.str [], .str []] ∧ pos = i + 1 ∧ fine = true) ∨ (m = 1 ∧ Lc = [.str a, .str []] ∧ pos = j1 ∧ fine = fa) ∨ (m = 2 ∧ Lc = [.str a, .str b] ∧ pos = j2 ∧ fine = (fa && fb))
theorem dR {t : Str} : decide ((t.length : Int) ≤ 40) = dK t := by
 unfold dK
 by_cases h : t.length ≤ 40
 ·have : (t.length : Int) ≤ 40 := by omega
  simp [h, this]
 ·have : ¬ (t.length : Int) ≤ 40 := by omega
  simp [h, this]
def PT (G : List Ob) (id off n ide eo : Nat) (p : PPart) (a b : Str) (fa fb : Bool) (i j1 j2 : Nat) (k : Nat) (σ : St) : Prop :=
 ∃ (m : Nat) (r : Nat → R) (Lc : List V) (pos : Nat) (fine : Bool), m + k = p.many ∧ σ = ⟨r, 1, G ++ [.mk true 1 Lc]⟩ ∧ r 1 = .val (.ptr (some (ide, eo))) ∧ r 7 = .box 0 p.cs ∧ r 8 = .val (qY id off n pos) ∧ r 9 = .val (.bool fine) ∧ r 10 = .val (.slc (some (G.length, 0)) 2) ∧ r 23 = .val (.int .i64 p.many) ∧ r 24 = .val (.int .i64 m) ∧ Gp a b fa fb i j1 j2 m Lc pos fine
theorem oN {G : List Ob} {id off n ide eo : Nat} {vd va : V} {e : PEntry} {f : List PPart} {p : PPart} {i j1 j2 : Nat} {a b : Str} {fa fb : Bool} (hx : AParts G (qY id off n i) (f.drop i)) (hst : ∀ T, strideIs (G ++ T) id 3 = true) (hn : n = f.length) (hp : f[i]? = some p) (hok : PartOk p) (heE : At2 G ide eo vd va) (ha : AAttrs G va e.attrs) (he : EntryOk e)
  (hla : a.length ≤ 1280) (hlb : b.length ≤ 1280)
  (hc1 : 1 ≤ p.many → ∀ T, callW C 302 [qY id off n (i + 1), .ptr (some (ide, eo))] (G ++ T) = some (.tup [.str a, qY id off n j1, .bool fa], G ++ T))
  (hc2 : p.many = 2 → ∀ T, callW C 302 [qY id off n j1, .ptr (some (ide, eo))] (G ++ T) = some (.tup [.str b, qY id off n j2, .bool fb], G ++ T)) (t : Str) (jE : Nat) (fE : Bool)
  (hres : (p.many = 0 → jE = i + 1 ∧ fE = dK t ∧ (p.op = 1 → t = p.text) ∧ (p.op = 2 → t = fD e p.text)) ∧ (p.many = 1 → jE = j1 ∧ t = nI p a ∧ fE = (fa && dK t)) ∧ (p.many = 2 → jE = j2 ∧ t = eP p a b ∧ fE = ((fa && fb) && dK t))) :
  callW C 302 [qY id off n i, .ptr (some (ide, eo))] G = some (.tup [.str t, qY id off n jE, .bool fE], G) := by
 apply Ret.eq
 rw [Jm]
 have hil : i < f.length := (List.getElem?_eq_some_iff.1 hp).1
 have hp0 : (f.drop i)[0]? = some p := by rw [List.getElem?_drop]; simpa using hp
 obtain ⟨idp, op, hidp, e1', lm⟩ := qC hx hp0
 have e1 : ∀ (e s b : Nat) (z : List V) (ty : Nat → LT) (k : IntKind), (ty e).size = 3 → indexR ⟨.slice e, s, b, z⟩ ty (.val (.slc (some (id, off + i * 3)) (n - i))) (.int k 0) = some (.val (.ptr (some (idp, op)))) := e1'
 have lp : ∀ T : LT, T.many 3 → ∀ r c', loadAt T ⟨r, c', G⟩ (.hp idp op) = some (.agg p.cs) := fun T hT r c' => by have := lm [] T hT r c'; rwa [List.append_nil] at this
 have hs0 : strideIs G id 3 = true := by have := hst []; rwa [List.append_nil] at this
 have hmi := ik (n := p.op) (H := G ++ [.mk true 1 [.str [], .str []]])
 have hop := hok.1
 have hop2 := hok.2.1
 have hmany : aP p.op = (p.many : Int) := by
  unfold aP PPart.many
  by_cases h1 : p.op = 1 ∨ p.op = 2
  ·rw [if_pos h1, if_neg (by omega), if_neg (by omega)]; rfl
  rw [if_neg h1]
  by_cases h3 : p.op = 3 ∨ p.op = 4 ∨ p.op = 7
  ·rw [if_pos h3, if_pos h3]; rfl
  rw [if_neg h3, if_neg h3]
  rw [if_pos (by omega), if_pos (by omega)]; rfl
 rw [hmany] at hmi
 have hsl1 : (1 : Nat) ≤ n - i := by omega
 have hpos : off + i * 3 + 3 = off + (i + 1) * 3 := by omega
 have hlen : n - i - 1 = n - (i + 1) := by omega
 simp [uK, Tryz.f302, hidp, e1, lp, hs0, hsl1, hpos, hlen, hmi, strideOf, fillL, zerosL, St.new, buildV, structPlace, elemT, setRange, regionL_none, regionL_some, List.lookup]
 refine WP_loop (PT G id off n ide eo p a b fa fb i j1 j2) ?_ p.many _ ⟨0, _, [.str [], .str []], i + 1, true, by simp, rfl, by simp, by simp, by simp, by simp, by simp, by simp, by simp, .inl ⟨rfl, rfl, rfl, rfl⟩⟩
 rintro k σ ⟨m, r, Lc, pos, fine, hmk, rfl, r1, r7, r8, r9, r10, r23, r24, hops⟩
 have hG : (G ++ [Ob.mk true 1 Lc])[G.length]? = some (.mk true 1 Lc) := get_last
 cases k with
 | succ k =>
  have hm : m < p.many := by omega
  have hm2 : p.many ≤ 2 := by unfold PPart.many; split <;> (try split) <;> omega
  have hw : IntKind.i64.wrap ((m : Int) + 1) = (m : Int) + 1 := wrap_i64 (by omega) (by omega)
  rcases hops with ⟨rfl, rfl, rfl, rfl⟩ | ⟨rfl, rfl, rfl, rfl⟩ | ⟨rfl, _⟩
  ·have c1 := hc1 (by omega) [.mk true 1 [.str [], .str []]]
   have st := store1 (o := 0) (v := .str a) hG (by simp) rfl rfl
   simp [set_last] at st
   simp [r1, r7, r8, r9, r10, r23, r24, hm, c1, st, hw, fillL, zerosL, St.new, buildV, structPlace, elemT, regionL_none, regionL_some, List.lookup]
   exact ⟨k, by omega, 1, _, [.str a, .str []], j1, fa, by omega, rfl, by simp [r1], by simp [r7], by simp, by simp, by simp [r10], by simp [r23], by simp, .inr (.inl ⟨rfl, rfl, rfl, rfl⟩)⟩
  ·have c2 := hc2 (by omega) [.mk true 1 [.str a, .str []]]
   have st := store1 (o := 1) (v := .str b) hG (by simp) rfl rfl
   simp [set_last] at st
   have hmI : (1 : Int) < (p.many : Int) := by omega
   cases fine <;> simp [r1, r7, r8, r9, r10, r23, r24, hm, hmI, c2, st, hw, fillL, zerosL, St.new, buildV, structPlace, elemT, regionL_none, regionL_some, List.lookup]
   ·exact ⟨k, by omega, 2, _, [.str a, .str b], j2, false, by omega, rfl, by simp [r1], by simp [r7], by simp, by simp, by simp [r10], by simp [r23], by simp; decide, .inr (.inr ⟨rfl, rfl, rfl, rfl⟩)⟩
   ·exact ⟨k, by omega, 2, _, [.str a, .str b], j2, fb, by omega, rfl, by simp [r1], by simp [r7], by simp, by simp, by simp [r10], by simp [r23], by simp; decide, .inr (.inr ⟨rfl, rfl, rfl, rfl⟩)⟩
  ·omega
 | zero =>
  obtain rfl : m = p.many := by omega
  have hid : id < G.length := by
   have := hst []
   unfold strideIs at this
   cases h0 : (G ++ [])[id]? with
   | none => rw [h0] at this; cases this
   | some o => have := (List.getElem?_eq_some_iff.1 h0).1; simpa using this
  have hsj := hst [.mk true 1 Lc]
  have hgc : ∀ (X : List V) u (w : Nat) bb, thereAt G id → gcH G (G ++ [.mk true 1 X]) (.tup [.str u, qY id off n w, .bool bb]) = G := fun X u w bb ht => gcH_low (by simp [lowV, lowVs]; exact ht)
  have hth : thereAt G id := by
   have := hst []
   rw [List.append_nil] at this
   unfold strideIs at this
   cases h0 : G[id]? with
   | none => rw [h0] at this; cases this
   | some o => cases o with
    | mk own es cells => exact ⟨_, _, _, h0⟩
    | dead => rw [h0] at this; cases this
  have hlt := dG (t := t)
  rcases hops with ⟨hm0, rfl, rfl, rfl⟩ | ⟨hm1, rfl, rfl, rfl⟩ | ⟨hm2, rfl, rfl, rfl⟩
  ·obtain ⟨rfl, rfl, ht1, ht2⟩ := hres.1 hm0
   have hop12 : p.op = 1 ∨ p.op = 2 := by
    unfold PPart.many at hm0
    split at hm0
    ·cases hm0
    split at hm0
    ·cases hm0
    omega
   rcases hop12 with o1 | o2
   ·have ht := ht1 o1
    subst ht
    have hfd := dR (t := p.text)
    simp [r1, r7, r8, r9, r10, r23, r24, hm0, o1, hfd, hgc _ _ _ _ hth, fillL, zerosL, St.new, buildV, structPlace, elemT, regionL_none, regionL_some, List.lookup]
   ·have ht := ht2 o2
    have hfd := dR (t := t)
    have heL : At2 (G ++ [Ob.mk true 1 [.str [], .str []]]) ide eo vd va := heE.ext
    obtain ⟨w, c3, hwv⟩ := mg (t := p.text) heL ha.ext (by have := he.2.2.2; omega) (EntryOk.rise he)
    cases hv1 : valsOf e.attrs p.text with
    | nil =>
     rw [hv1] at hwv
     have hat : t = [] := by rw [ht]; unfold fD; rw [hv1]; rfl
     subst hat
     have hfn : dK [] = true := rfl
     simp [r1, r7, r8, r9, r10, r23, r24, hm0, o2, hfd, hfn, c3, hwv.len, hgc _ _ _ _ hth, fillL, zerosL, St.new, buildV, structPlace, elemT, regionL_none, regionL_some, List.lookup]
    | cons s0 l0 =>
     rw [hv1] at hwv
     have hat : t = s0 := by rw [ht]; unfold fD; rw [hv1]; rfl
     subst hat
     obtain ⟨ids, os, e5', l5, _⟩ := strs_idx hwv (i := 0) (s := t) rfl
     have e5 : ∀ (e s b : Nat) (z : List V) (ty : Nat → LT) (k : IntKind), (ty e).size = 1 → indexR ⟨.slice e, s, b, z⟩ ty (.val w) (.int k 0) = some (.val (.ptr (some (ids, os)))) := e5'
     simp [r1, r7, r8, r9, r10, r23, r24, hm0, o2, hfd, c3, hwv.len, e5, l5, hgc _ _ _ _ hth, fillL, zerosL, St.new, buildV, structPlace, elemT, regionL_none, regionL_some, List.lookup]
  ·obtain ⟨rfl, rfl, rfl⟩ := hres.2.1 hm1
   have hfd := dR (t := nI p a)
   have la := load1 (o := 0) (v := .str a) hG rfl
   have hop3 : p.op = 3 ∨ p.op = 4 ∨ p.op = 7 := by
    have h1 := hm1
    unfold PPart.many at h1
    split at h1
    ·assumption
    ·split at h1 <;> cases h1
   rcases hop3 with o3 | o4 | o7
   ·have hu : nI p a = a.map (aI false) := by unfold nI; rw [if_pos o3]
    rw [hu] at hfd ⊢
    rw [List.length_map] at hfd
    have c3 := Bq (t := a) (H := G ++ [.mk true 1 [.str a, .str []]]) (by omega)
    cases fine <;> simp [r1, r7, r8, r9, r10, r23, r24, hm1, o3, hfd, la, c3, hgc _ _ _ _ hth, fillL, zerosL, St.new, buildV, structPlace, elemT, regionL_none, regionL_some, List.lookup]
   ·have hu : nI p a = a.map (aI true) := by unfold nI; rw [if_neg (by omega), if_pos o4]
    rw [hu] at hfd ⊢
    rw [List.length_map] at hfd
    have c3 := Be (t := a) (H := G ++ [.mk true 1 [.str a, .str []]]) (by omega)
    cases fine <;> simp [r1, r7, r8, r9, r10, r23, r24, hm1, o4, hfd, la, c3, hgc _ _ _ _ hth, fillL, zerosL, St.new, buildV, structPlace, elemT, regionL_none, regionL_some, List.lookup]
   ·have hu : nI p a = a.take p.n.toNat := by unfold nI; rw [if_neg (by omega), if_neg (by omega)]
    rw [hu] at hfd ⊢
    rw [List.length_take] at hfd
    have hn0 : 0 ≤ p.n := hok.2.2.2.1
    have hmn : (0 : Int) ≤ min (a.length : Int) p.n := by omega
    have hmt : (min (a.length : Int) p.n).toNat ≤ a.length := by omega
    have htk : a.take (min (a.length : Int) p.n).toNat = a.take p.n.toNat := by
     by_cases hh : p.n ≤ (a.length : Int)
     ·rw [show min (a.length : Int) p.n = p.n by omega]
     ·rw [show min (a.length : Int) p.n = (a.length : Int) by omega, Int.toNat_natCast, List.take_length, List.take_of_length_le (by omega)]
    have hmv : minV [.int .i64 (a.length : Int), .int .i64 p.n] = some (.int .i64 (min (a.length : Int) p.n)) := by
     simp [minV]
     split <;> omega
    cases fine <;> simp [r1, r7, r8, r9, r10, r23, r24, hm1, o7, hfd, la, hmv, hmn, hmt, htk, hgc _ _ _ _ hth, fillL, zerosL, St.new, buildV, structPlace, elemT, regionL_none, regionL_some, List.lookup]
  ·obtain ⟨rfl, rfl, rfl⟩ := hres.2.2 hm2
   have hfd := dR (t := eP p a b)
   have la := load1 (o := 0) (v := .str a) hG rfl
   have lb := load1 (o := 1) (v := .str b) hG rfl
   have hop5 : p.op = 5 ∨ p.op = 6 := by
    have h1 := hm2
    unfold PPart.many at h1
    split at h1
    ·cases h1
    split at h1
    ·assumption
    ·cases h1
   generalize (fa && fb) = fab at r9 ⊢
   rcases hop5 with o5 | o6
   ·have hu : eP p a b = a ++ b := by unfold eP; rw [if_pos o5]
    rw [hu] at hfd ⊢
    rw [List.length_append, Int.natCast_add] at hfd
    have hms : a.length + b.length ≤ maxStr := by unfold maxStr; omega
    cases fab <;> simp [r1, r7, r8, r9, r10, r23, r24, hm2, o5, hfd, la, lb, hms, hgc _ _ _ _ hth, fillL, zerosL, St.new, buildV, structPlace, elemT, regionL_none, regionL_some, List.lookup]
   ·by_cases ga : a = []
    ·have hu : eP p a b = b := by unfold eP; rw [if_neg (by omega), if_pos ga]
     rw [hu] at hfd ⊢
     subst ga
     cases fab <;> simp [r1, r7, r8, r9, r10, r23, r24, hm2, o6, hfd, la, lb, hgc _ _ _ _ hth, fillL, zerosL, St.new, buildV, structPlace, elemT, regionL_none, regionL_some, List.lookup]
    ·have hu : eP p a b = a := by unfold eP; rw [if_neg (by omega), if_neg ga]
     rw [hu] at hfd ⊢
     have gae : List.isEmpty a = false := by simpa using ga
     cases fab <;> simp [r1, r7, r8, r9, r10, r23, r24, hm2, o6, hfd, la, lb, ga, gae, hgc _ _ _ _ hth, fillL, zerosL, St.new, buildV, structPlace, elemT, regionL_none, regionL_some, List.lookup]
theorem EK {H : List Ob} {id off ide eo : Nat} {vd va : V} {e : PEntry} {f : List PPart} (hx : ∀ i, i ≤ f.length → AParts H (qY id off f.length i) (f.drop i)) (hst : ∀ G, (∃ S, G = H ++ S) → strideIs G id 3 = true) (heE : At2 H ide eo vd va) (ha : AAttrs H va e.attrs) (he : EntryOk e) :
  ∀ d i q t b, xdep f d i = some q → iY f e d i = some (t, b, q.1) → d ≤ 5 → ∀ G, (∃ S, G = H ++ S) → callW C 302 [qY id off f.length i, .ptr (some (ide, eo))] G = some (.tup [.str t, qY id off f.length q.1, .bool b], G) := by
 intro d
 induction d with
 | zero => intro i q t b h; cases h
 | succ d ih =>
  intro i q t b hq hv hd5 G ⟨S, hG⟩
  unfold xdep at hq
  unfold iY at hv
  cases hn : f[i]? with
  | none => rw [hn] at hq; cases hq
  | some p =>
   rw [hn] at hq hv
   simp only at hq hv
   split at hq
   case isFalse => cases hq
   rename_i hok
   have hok := dec_true.1 hok
   have hil : i < f.length := (List.getElem?_eq_some_iff.1 hn).1
   have hxG : AParts G (qY id off f.length i) (f.drop i) := by rw [hG]; exact (hx i (by omega)).ext
   have hsG : ∀ T, strideIs (G ++ T) id 3 = true := fun T => hst _ ⟨S ++ T, by rw [hG, List.append_assoc]⟩
   have heG : At2 G ide eo vd va := by rw [hG]; exact heE.ext
   have haG : AAttrs G va e.attrs := by rw [hG]; exact ha.ext
   have hext : ∀ T, ∃ S', G ++ T = H ++ S' := fun T => ⟨S ++ T, by rw [hG, List.append_assoc]⟩
   have hp5 : 40 * 2 ^ d ≤ 1280 := by
    have : 2 ^ d ≤ 2 ^ 5 := Nat.pow_le_pow_right (by decide) (by omega)
    omega
   have h1 := hok.1
   have h2 := hok.2.1
   have hm012 : p.many = 0 ∨ p.many = 1 ∨ p.many = 2 := by unfold PPart.many; split <;> (try split) <;> omega
   have hop12 : p.many = 0 ↔ (p.op = 1 ∨ p.op = 2) := by
    unfold PPart.many
    split
    ·constructor <;> intro <;> omega
    split
    ·constructor <;> intro <;> omega
    constructor <;> intro <;> omega
   rcases hm012 with m0 | m1 | m2
   ·rw [m0] at hq
    cases hq
    refine oN (a := []) (b := []) (fa := true) (fb := true) (j1 := 0) (j2 := 0) hxG hsG rfl hn hok heG haG he (by simp) (by simp) (fun h => by omega) (fun h => by omega) t (i + 1) b ⟨fun _ => ?_, fun h => by omega, fun h => by omega⟩
    by_cases o1 : p.op = 1
    ·rw [if_pos o1] at hv
     cases hv
     exact ⟨rfl, rfl, fun _ => rfl, fun h => by omega⟩
    ·have o2 : p.op = 2 := (hop12.1 m0).resolve_left o1
     rw [if_neg o1, if_pos o2] at hv
     cases hv
     exact ⟨rfl, rfl, fun h => by omega, fun _ => rfl⟩
   ·have hn12 : ¬ (p.op = 1 ∨ p.op = 2) := fun h => by have := hop12.2 h; omega
    rw [if_neg (fun h => hn12 (.inl h)), if_neg (fun h => hn12 (.inr h))] at hv
    rw [m1] at hq
    simp only [frep] at hq
    cases k1 : xdep f d (i + 1) with
    | none => rw [k1] at hq; cases hq
    | some q1 =>
    rw [k1] at hq
    obtain ⟨a, fa, v1, v2⟩ := bK he d (i + 1) q1 k1
    rw [v1] at hv
    simp only [m1, if_true] at hv
    cases hq
    cases hv
    exact oN (b := []) (fb := true) (j2 := 0) hxG hsG rfl hn hok heG haG he (by omega) (by simp) (fun _ T => ih (i + 1) q1 a fa k1 v1 (by omega) _ (hext T)) (fun h => by omega) _ _ _ ⟨fun h => by omega, fun _ => ⟨rfl, rfl, rfl⟩, fun h => by omega⟩
   ·have hn12 : ¬ (p.op = 1 ∨ p.op = 2) := fun h => by have := hop12.2 h; omega
    rw [if_neg (fun h => hn12 (.inl h)), if_neg (fun h => hn12 (.inr h))] at hv
    rw [m2] at hq
    simp only [frep] at hq
    cases k1 : xdep f d (i + 1) with
    | none => rw [k1] at hq; cases hq
    | some q1 =>
    rw [k1] at hq
    simp only at hq
    cases k2 : xdep f d q1.1 with
    | none => rw [k2] at hq; cases hq
    | some q2 =>
    rw [k2] at hq
    obtain ⟨a, fa, v1, v2⟩ := bK he d (i + 1) q1 k1
    obtain ⟨b', fb, v3, v4⟩ := bK he d q1.1 q2 k2
    rw [v1] at hv
    simp only [m2, show ¬ (2 = 1) by decide, if_false, v3] at hv
    cases hq
    cases hv
    exact oN hxG hsG rfl hn hok heG haG he (by omega) (by omega) (fun _ T => ih (i + 1) q1 a fa k1 v1 (by omega) _ (hext T)) (fun _ T => ih q1.1 q2 b' fb k2 v3 (by omega) _ (hext T)) _ _ _ ⟨fun h => by omega, fun h => by omega, fun _ => ⟨rfl, rfl, rfl⟩⟩
theorem fZ {H : List Ob} {v : V} {ide eo : Nat} {vd va : V} {e : PEntry} {f : List PPart} {t : Str} {b : Bool} (hx : AParts H v f) (heE : At2 H ide eo vd va) (ha : AAttrs H va e.attrs) (he : EntryOk e) (hf : ExprOk f) (hv : iY f e 5 0 = some (t, b, f.length)) :
  callW C 238 [v, .ptr (some (ide, eo))] H = some (.tup [.str (if b = true then t else []), .int .i64 (if b = true then 0 else 8)], H) := by
 obtain ⟨_, x, hdp⟩ := hf
 have h0 : 0 < f.length := (xdep_some _ _ _ hdp).1
 obtain ⟨id, off, rfl, hs, hst⟩ := qV hx h0
 have c1 := EK hs hst heE ha he 5 0 (f.length, x) t b hdp hv (by decide) H ⟨[], by simp⟩
 apply Ret.eq
 rw [Gq]
 cases b <;> simp [rP, Tryz.f238, c1]
theorem dJ {H G : List Ob} {v : V} {l : List Str} (h : AStrs H v l) (hG : ∃ S, G = H ++ S) (d : LD) (b : Nat) (z : List V) : newCells ⟨d, 1, b, z⟩ G v = some (l.map V.str, (l.map V.str).length) := by
 obtain ⟨S, rfl⟩ := hG
 obtain ⟨p, rfl, hc, _⟩ := ed (T := S) h
 simp only [newCells, Nat.mul_one, hc, List.length_map]
theorem bT {l : List Str} : (l.map V.str).all isOne = true := by
 rw [List.all_eq_true]
 intro x hx
 obtain ⟨s, _, rfl⟩ := List.mem_map.1 hx
 rfl
theorem lI {H : List Ob} {v : V} {l : List Str} {t : Str} (h : AStrs H v l) (ht : t.length ≤ maxLen) (hl : l.length ≤ 1000000) :
  ∃ T w l', callW C 221 [v, .str t] H = some (w, H ++ T) ∧ AStrs (H ++ T) w l' ∧ (∀ x, x ∈ l' ↔ x = t ∨ x ∈ l) ∧ l'.length ≤ l.length + 1 := by
 suffices hs : Ret C 221 [v, .str t] H fun w H' => ∃ T l', H' = H ++ T ∧ AStrs (H ++ T) w l' ∧ (∀ x, x ∈ l' ↔ x = t ∨ x ∈ l) ∧ l'.length ≤ l.length + 1 by
  obtain ⟨q, H', hc, T, l', rfl, hr⟩ := hs
  exact ⟨T, q, l', hc, hr⟩
 rw [FT]
 have hone := h.one
 have hmx := h.max
 simp [vM, Tryz.f221, hone]
 refine WP.mono (Q := fun ex σ' => ∃ (i : Nat) (r : Nat → R), ex = .exit 0 ∧ σ' = ⟨r, 0, H⟩ ∧ r 0 = .val v ∧ r 1 = .val (.str t) ∧ r 5 = .val (.int .i64 i) ∧ i ≤ l.length) ?_ ?_
 ·refine WP_loop (fun k σ => ∃ (i : Nat) (r : Nat → R), i + k = l.length ∧ σ = ⟨r, 0, H⟩ ∧ r 0 = .val v ∧ r 1 = .val (.str t) ∧ r 5 = .val (.int .i64 i)) ?_ l.length _ ⟨0, _, by simp, rfl, by simp, by simp, by simp⟩
  rintro k σ ⟨i, r, hik, rfl, r0, r1, r5⟩
  cases k with
  | zero =>
   have hi : i = l.length := by omega
   subst hi
   simp [r0, r1, r5, h.len, regionL_none, regionL_some, List.lookup]
   exact ⟨l.length, rfl, Nat.le_refl _⟩
  | succ k =>
   have hi : i < l.length := by omega
   obtain ⟨x, hx⟩ : ∃ c, l[i]? = some c := ⟨l[i], by simp [hi]⟩
   have hw : IntKind.i64.wrap ((i : Int) + 1) = ((i : Int) + 1) := wrap_i64 (by omega) (by omega)
   obtain ⟨id, o, e1, l0, _⟩ := strs_idx h hx
   by_cases g : LtS x t
   ·simp [r0, r1, r5, hi, h.len, e1, l0, aT g, hw, regionL_none, regionL_some, List.lookup]
    exact ⟨k, by omega, i + 1, by omega, by omega⟩
   ·simp [r0, r1, r5, hi, h.len, e1, l0, bi g, hw, regionL_none, regionL_some, List.lookup]
    exact ⟨i, rfl, by omega⟩
 ·rintro ex σ' ⟨i, r, rfl, rfl, r0, r1, r5, hil⟩
  by_cases gs : ∃ x, l[i]? = some x ∧ x = t
  ·obtain ⟨x, hx, rfl⟩ := gs
   have hi := (List.getElem?_eq_some_iff.1 hx).1
   obtain ⟨id, o, e1, l0, _⟩ := strs_idx h hx
   simp [r0, r1, r5, hi, h.len, e1, l0, hone, regionL_none, regionL_some, List.lookup]
   exact ⟨l, h, fun y => ⟨.inr, fun hh => hh.elim (fun e => e ▸ List.mem_of_getElem? hx) fun z => z⟩, by omega⟩
  obtain ⟨s1, s2, a1, a2, hcase⟩ := h.cut hil
  have n1 := dJ a1 (G := H ++ [.mk true 1 []]) ⟨_, rfl⟩
  have R0 : Gs H (H ++ [.mk true 1 []]) (.slc (some (H.length, 0)) 0) (([] : List Str).map V.str) := Gs.init
  obtain ⟨x1, G1, p1, g1⟩ := R0.many (d := .str) (b := 16) (z := [.str []]) (n1 _ _ _) bT (by simp; unfold maxMade; omega) (by decide) (by decide) rfl
  obtain ⟨x2, G2, p2, g2⟩ := g1.push (x := .str t) (d := .str) (b := 16) (z := [.str []]) rfl (by simp; unfold maxMade; omega) (by decide) (by decide) rfl
  have n2 := dJ a2 g2.ext
  obtain ⟨x3, G3, p3, g3⟩ := g2.many (d := .str) (b := 16) (z := [.str []]) (n2 _ _ _) bT (by simp; unfold maxMade; omega) (by decide) (by decide) rfl
  have hl3 : l.take i ++ [t] ++ l.drop i = l.take i ++ t :: l.drop i := by simp
  have g3' : Gs H G3 x3 ((l.take i ++ t :: l.drop i).map V.str) := by simpa using g3
  have hmem : ∀ y, y ∈ l.take i ++ t :: l.drop i ↔ y = t ∨ y ∈ l := fun y => by
   conv => rhs; rw [← List.take_append_drop i l]
   simp only [List.mem_append, List.mem_cons]
   constructor
   ·rintro (h | h | h)
    ·exact .inr (.inl h)
    ·exact .inl h
    ·exact .inr (.inr h)
   ·rintro (h | h | h)
    ·exact .inr (.inl h)
    ·exact .inl h
    ·exact .inr (.inr h)
  have hat := (g3'.strs (by simp; unfold maxLen; omega) (fun s hs => ((hmem s).1 hs).elim (fun e => e ▸ ht) (hmx s))).1
  obtain ⟨T, rfl⟩ := g3'.ext
  have hgc := g3'.gc
  have o1 := g1.one
  have o2 := g2.one
  have o3 := g3'.one
  obtain ⟨S2, hS2⟩ := g2.ext
  have fin : ∃ l', AStrs (H ++ T) x3 l' ∧ (∀ x, x ∈ l' ↔ x = t ∨ x ∈ l) ∧ l'.length ≤ l.length + 1 := ⟨_, hat, hmem, by simp; omega⟩
  have hng : ¬ (∃ x, l[i]? = some x ∧ x = t) := gs
  have hoA : isOne s1 = true ∧ cellsOf s1 = some [s1] := a1.one
  have hoB : isOne s2 = true ∧ cellsOf s2 = some [s2] := a2.one
  by_cases gi : i < l.length
  ·obtain ⟨x, hx⟩ : ∃ c, l[i]? = some c := ⟨l[i], by simp [gi]⟩
   obtain ⟨id, o, e1, l0, _⟩ := strs_idx h hx
   have hxt : ¬ x = t := fun e => gs ⟨x, hx, e⟩
   rcases hcase with ⟨_, _, _, _, h0⟩ | ⟨ids, off, hv, hs1, hs2, hst⟩
   ·rw [h0] at gi; simp at gi
   have t1 := hst (H ++ [.mk true 1 []]) ⟨_, rfl⟩
   have t2 := hst G2 ⟨S2, hS2⟩
   rw [hv] at r0 h e1
   rw [hs1] at p1
   rw [hs2] at p3
   simp [Sh.size_str] at t1 t2 p1 p2 p3
   simp [r0, r1, r5, gi, hil, h.len, e1, l0, hxt, St.new, elemT, fillL, zerosL, t1, t2, p1, p2, p3, o1, o2, o3, hgc, regionL_none, regionL_some, List.lookup]
   exact fin
  ·have hin : i = l.length := by omega
   rcases hcase with ⟨hv, hs1, hs2, hi0, h0⟩ | ⟨ids, off, hv, hs1, hs2, hst⟩
   ·rw [hv] at r0 h
    rw [hs1] at p1
    rw [hs2] at p3
    subst h0
    have hlen := fun {e s b : Nat} {z : List V} => h.len (e := e) (s := s) (b := b) (z := z)
    simp at p1 p2 p3 hlen
    simp [r0, r1, r5, hi0, hlen, St.new, elemT, fillL, zerosL, p1, p2, p3, o1, o2, o3, hgc, regionL_none, regionL_some, List.lookup]
    simpa using fin
   ·have t1 := hst (H ++ [.mk true 1 []]) ⟨_, rfl⟩
    have t2 := hst G2 ⟨S2, hS2⟩
    rw [hv] at r0 h
    rw [hs1] at p1
    rw [hs2] at p3
    have hlen := fun {e s b : Nat} {z : List V} => h.len (e := e) (s := s) (b := b) (z := z)
    simp [Sh.size_str] at t1 t2 p1 p2 p3 hlen
    simp [r0, r1, r5, gi, hil, hlen, St.new, elemT, fillL, zerosL, t1, t2, p1, p2, p3, o1, o2, o3, hgc, regionL_none, regionL_some, List.lookup]
    exact fin
def jd : Str := [99, 108, 97, 115, 115]
def af (l : List PClass) : List Str := jd :: l.flatMap fun c => c.must ++ c.may
theorem zD {G : List Ob} {t : Str} (ht : t.length ≤ maxLen) : AStrs (G ++ [.mk true 1 [.str t]]) (.slc (some (G.length, 0)) 1) [t] := by
 have := qw (G := G ++ [.mk true 1 [.str t]]) (id := G.length) (own := true) (cs := [t]) (k := 1) (by rw [get_last]; rfl) (by simp) (by unfold maxLen; omega) (by simp; exact ht)
 simpa using this
theorem bQ {H : List Ob} {v : V} {xs : List PClass} (h : AClasses H v xs) {i : Nat} {x : PClass} (hx : xs[i]? = some x) : ∃ id o w1 w2 w3,
  (∀ (e s b : Nat) (z : List V) (ty : Nat → LT) (k : IntKind), (ty e).size = 4 → indexR ⟨.slice e, s, b, z⟩ ty (.val v) (.int k i) = some (.val (.ptr (some (id, o))))) ∧
  (∀ G, (∃ S, G = H ++ S) → (∀ T : LT, T.one → ∀ r c, loadAt T ⟨r, c, G⟩ (.hp id (o + 1)) = some w1) ∧ (∀ T : LT, T.one → ∀ r c, loadAt T ⟨r, c, G⟩ (.hp id (o + 2)) = some w2) ∧
  (∀ T : LT, T.many 4 → ∀ r c, loadAt T ⟨r, c, G⟩ (.hp id o) = some (.agg [.str x.name, w1, w2, w3]))) ∧ AStrs H w1 x.must ∧ AStrs H w2 x.may ∧ AStrs H w3 x.single ∧ id < H.length := by
 obtain ⟨id, o, own, cells, e1, e2, e3, e4⟩ := ASl.idx h hx (by decide)
 obtain ⟨w1, w2, w3, e4, e7, e8, e9, e5⟩ := class_at.1 e4
 refine ⟨id, o, w1, w2, w3, e1, ?_, e8, e9, e5, (List.getElem?_eq_some_iff.1 e2).1⟩
 rintro G ⟨S, rfl⟩
 have e2' := up_append (T := S) _ _ e2
 exact ⟨load1 e2' (by simpa using cells_get e4 (j := 1) rfl), load1 e2' (by simpa using cells_get e4 (j := 2) rfl), loadN e2' e3 (by decide) e4⟩
theorem qO {H : List Ob} {v : V} {l : List PClass} (h : AClasses H v l) (hb : ∀ c ∈ l, c.must.length ≤ 10 ∧ c.may.length ≤ 10) (hl : l.length ≤ 6) :
  ∃ T w l', callW C 135 [v] H = some (w, H ++ T) ∧ AStrs (H ++ T) w l' ∧ (∀ x, x ∈ l' ↔ x ∈ af l) := by
 suffices hs : Ret C 135 [v] H fun w H' => ∃ T l', H' = H ++ T ∧ AStrs (H ++ T) w l' ∧ (∀ x, x ∈ l' ↔ x ∈ af l) by
  obtain ⟨q, H', hc, T, l', rfl, hr⟩ := hs
  exact ⟨T, q, l', hc, hr⟩
 rw [F7]
 have hone := h.one
 simp [uT, Tryz.f135, St.new, elemT, fillL, zerosL]
 have hinit : AStrs (H ++ [.mk true 1 [.str jd]]) (.slc (some (H.length, 0)) 1) [jd] := zD (by decide)
 refine WP_loop (fun k σ => ∃ (i : Nat) (r : Nat → R) (T : List Ob) (w : V) (ks : List Str), i + k = l.length ∧ σ = ⟨r, 0, H ++ T⟩ ∧ r 0 = .val v ∧ r 3 = .val w ∧ r 4 = .val (.int .i64 i) ∧ AStrs (H ++ T) w ks ∧ (∀ x, x ∈ ks ↔ x ∈ af (l.take i)) ∧ ks.length ≤ 1 + 20 * i) ?_ l.length _ ⟨0, _, _, _, [jd], by simp, rfl, by simp, by simp, by simp, hinit, by simp [af], by simp⟩
 rintro k σ ⟨i, r, T, w, ks, hik, rfl, r0, r3, r4, hw, hmem, hlen⟩
 have hlT : AClasses (H ++ T) v l := h.ext
 have hwo := hw.one
 cases k with
 | zero =>
  have hi : i = l.length := by omega
  subst hi
  rw [List.take_length] at hmem
  obtain ⟨T', hg, hw'⟩ := hw.gc
  simp [r0, r3, r4, hlT.len, hwo, hg, regionL_none, regionL_some, List.lookup]
  exact ⟨ks, hw', hmem⟩
 | succ k =>
  have hi : i < l.length := by omega
  obtain ⟨c, hc⟩ : ∃ c, l[i]? = some c := ⟨l[i], by simp [hi]⟩
  have hcb := hb c (List.mem_of_getElem? hc)
  have hw1 : IntKind.i64.wrap ((i : Int) + 1) = ((i : Int) + 1) := wrap_i64 (by omega) (by omega)
  have hstep : ∀ m, m ∈ af (l.take (i + 1)) ↔ m ∈ af (l.take i) ∨ m ∈ c.must ∨ m ∈ c.may := fun m => by
   unfold af
   rw [take_get hc, List.flatMap_append]
   simp [or_assoc]
  simp [r0, r3, r4, hi, hlT.len, regionL_none, regionL_some, List.lookup]
  refine WP.mono (Q := fun ex σ' => ∃ (r : Nat → R) (T : List Ob) (w : V) (ks : List Str), ex = .exit 2 ∧ σ' = ⟨r, 0, H ++ T⟩ ∧ r 0 = .val v ∧ r 3 = .val w ∧ r 4 = .val (.int .i64 i) ∧ AStrs (H ++ T) w ks ∧ (∀ x, x ∈ ks ↔ x ∈ af (l.take i) ∨ x ∈ c.must) ∧ ks.length ≤ 11 + 20 * i) ?_ ?_
  ·refine WP_loop (fun k σ => ∃ (j : Nat) (r : Nat → R) (T : List Ob) (w : V) (ks : List Str), j + k = c.must.length ∧ σ = ⟨r, 0, H ++ T⟩ ∧ r 0 = .val v ∧ r 3 = .val w ∧ r 4 = .val (.int .i64 i) ∧ r 5 = .val (.int .i64 j) ∧ AStrs (H ++ T) w ks ∧ (∀ x, x ∈ ks ↔ x ∈ af (l.take i) ∨ x ∈ c.must.take j) ∧ ks.length ≤ 1 + 20 * i + j) ?_ c.must.length _ ⟨0, _, T, w, ks, by simp, rfl, by simp [r0], by simp [r3], by simp [r4], by simp, hw, by simp [hmem], by omega⟩
   clear hw hmem hlen hwo hlT r0 r3 r4 ks w T r
   rintro k σ ⟨j, r, T, w, ks, hjk, rfl, r0, r3, r4, r5, hw, hmem, hlen⟩
   have hlT : AClasses (H ++ T) v l := h.ext
   have hwo := hw.one
   obtain ⟨id, o, w1, w2, w3, e1, ll, q1, q2, q3, _⟩ := bQ h hc
   obtain ⟨l1, l2, _⟩ := ll (H ++ T) ⟨_, rfl⟩
   cases k with
   | zero =>
    have hj : j = c.must.length := by omega
    subst hj
    rw [List.take_length] at hmem
    simp [r0, r3, r4, r5, hi, e1, l1, q1.len, regionL_none, regionL_some, List.lookup]
    exact ⟨_, T, ⟨rfl, rfl⟩, by simp [r0], w, by simp [r3], by simp [r4], ks, hw, hmem, by omega⟩
   | succ k =>
    have hj : j < c.must.length := by omega
    obtain ⟨x, hx⟩ : ∃ x, c.must[j]? = some x := ⟨c.must[j], by simp [hj]⟩
    have hw2 : IntKind.i64.wrap ((j : Int) + 1) = ((j : Int) + 1) := wrap_i64 (by omega) (by omega)
    obtain ⟨id2, o2, f1, f0, hxl⟩ := strs_idx (q1.ext (T := T)) hx
    obtain ⟨T2, w', ks', c1, hw', hm', hl'⟩ := lI hw hxl (by omega)
    have hwo' := hw'.one
    simp [r0, r3, r4, r5, hi, hj, e1, l1, f1, f0, q1.len, c1, hw2, hwo', regionL_none, regionL_some, List.lookup]
    refine ⟨k, by omega, j + 1, by omega, _, T ++ T2, ⟨rfl, by simp⟩, by simp [r0], w', by simp, by simp [r4], by simp, ks', by simpa using hw', fun y => ?_, by omega⟩
    rw [hm' y, hmem y, take_get hx, List.mem_append, List.mem_singleton]
    constructor
    ·rintro (h | h | h)
     ·exact .inr (.inr h)
     ·exact .inl h
     ·exact .inr (.inl h)
    ·rintro (h | h | h)
     ·exact .inr (.inl h)
     ·exact .inr (.inr h)
     ·exact .inl h
  ·clear hw hmem hlen hwo hlT r0 r3 r4 ks w T r
   rintro ex σ' ⟨r, T, w, ks, rfl, rfl, r0, r3, r4, hw, hmem, hlen⟩
   simp [r0, r3, r4, regionL_none, regionL_some, List.lookup]
   refine WP.mono (Q := fun ex σ' => ∃ (r : Nat → R) (T : List Ob) (w : V) (ks : List Str), ex = .exit 4 ∧ σ' = ⟨r, 0, H ++ T⟩ ∧ r 0 = .val v ∧ r 3 = .val w ∧ r 4 = .val (.int .i64 i) ∧ AStrs (H ++ T) w ks ∧ (∀ x, x ∈ ks ↔ (x ∈ af (l.take i) ∨ x ∈ c.must) ∨ x ∈ c.may) ∧ ks.length ≤ 21 + 20 * i) ?_ ?_
   ·refine WP_loop (fun k σ => ∃ (j : Nat) (r : Nat → R) (T : List Ob) (w : V) (ks : List Str), j + k = c.may.length ∧ σ = ⟨r, 0, H ++ T⟩ ∧ r 0 = .val v ∧ r 3 = .val w ∧ r 4 = .val (.int .i64 i) ∧ r 6 = .val (.int .i64 j) ∧ AStrs (H ++ T) w ks ∧ (∀ x, x ∈ ks ↔ (x ∈ af (l.take i) ∨ x ∈ c.must) ∨ x ∈ c.may.take j) ∧ ks.length ≤ 11 + 20 * i + j) ?_ c.may.length _ ⟨0, _, T, w, ks, by simp, rfl, by simp [r0], by simp [r3], by simp [r4], by simp, hw, by simp [hmem], by omega⟩
    clear hw hmem hlen r0 r3 r4 ks w T r
    rintro k σ ⟨j, r, T, w, ks, hjk, rfl, r0, r3, r4, r6, hw, hmem, hlen⟩
    have hlT : AClasses (H ++ T) v l := h.ext
    have hwo := hw.one
    obtain ⟨id, o, w1, w2, w3, e1, ll, q1, q2, q3, _⟩ := bQ h hc
    obtain ⟨l1, l2, _⟩ := ll (H ++ T) ⟨_, rfl⟩
    cases k with
    | zero =>
     have hj : j = c.may.length := by omega
     subst hj
     rw [List.take_length] at hmem
     simp [r0, r3, r4, r6, hi, e1, l2, q2.len, regionL_none, regionL_some, List.lookup]
     exact ⟨_, T, ⟨rfl, rfl⟩, by simp [r0], w, by simp [r3], by simp [r4], ks, hw, hmem, by omega⟩
    | succ k =>
     have hj : j < c.may.length := by omega
     obtain ⟨x, hx⟩ : ∃ x, c.may[j]? = some x := ⟨c.may[j], by simp [hj]⟩
     have hw2 : IntKind.i64.wrap ((j : Int) + 1) = ((j : Int) + 1) := wrap_i64 (by omega) (by omega)
     obtain ⟨id2, o2, f1, f0, hxl⟩ := strs_idx (q2.ext (T := T)) hx
     obtain ⟨T2, w', ks', c1, hw', hm', hl'⟩ := lI hw hxl (by omega)
     have hwo' := hw'.one
     simp [r0, r3, r4, r6, hi, hj, e1, l2, f1, f0, q2.len, c1, hw2, hwo', regionL_none, regionL_some, List.lookup]
     refine ⟨k, by omega, j + 1, by omega, _, T ++ T2, ⟨rfl, by simp⟩, by simp [r0], w', by simp, by simp [r4], by simp, ks', by simpa using hw', fun y => ?_, by omega⟩
     rw [hm' y, hmem y, take_get hx, List.mem_append, List.mem_singleton]
     constructor
     ·rintro (h | h | h)
      ·exact .inr (.inr h)
      ·exact .inl h
      ·exact .inr (.inl h)
     ·rintro (h | h | h)
      ·exact .inr (.inl h)
      ·exact .inr (.inr h)
      ·exact .inl h
   ·clear hw hmem hlen r0 r3 r4 ks w T r
    rintro ex σ' ⟨r, T, w, ks, rfl, rfl, r0, r3, r4, hw, hmem, hlen⟩
    simp [r0, r3, r4, hw1, regionL_none, regionL_some, List.lookup]
    exact ⟨k, by omega, i + 1, by omega, _, T, ⟨rfl, rfl⟩, by simp [r0], w, by simp [r3], by simp, ks, hw, fun x => by rw [hmem x, hstep x, or_assoc], by omega⟩
def Qp (b : Nat) (w : V) : Prop := ∀ q o n, w = .slc (some (q, o)) n → b ≤ q
theorem Au {H : List Ob} {v : V} {l : List PClass} (h : AClasses H v l) (hb : ∀ c ∈ l, c.must.length ≤ 10 ∧ c.may.length ≤ 10) (hl : l.length ≤ 6) :
  ∃ T w l', callW C 150 [v] H = some (w, H ++ T) ∧ AStrs (H ++ T) w l' ∧ (∀ x, x ∈ l' ↔ x ∈ af l) ∧ (∀ q o n, w = .slc (some (q, o)) n → H.length ≤ q) := by
 suffices hs : Ret C 150 [v] H fun w H' => ∃ T l', H' = H ++ T ∧ AStrs (H ++ T) w l' ∧ (∀ x, x ∈ l' ↔ x ∈ af l) ∧ Qp H.length w by
  obtain ⟨q, H', hc, T, l', rfl, hr⟩ := hs
  exact ⟨T, q, l', hc, hr⟩
 rw [GM]
 have hone := h.one
 simp [ug, Tryz.f150, St.new, elemT, fillL, zerosL, h.len, hone]
 have g0 : Gs H (H ++ [.mk true 1 [.str jd]]) (.slc (some (H.length, 0)) 1) ([jd].map V.str) := ⟨_, H.length, rfl, Nat.le_refl _, get_last, rfl⟩
 have hlen : ∀ i, (af (l.take i)).length ≤ 1 + 20 * i := fun i => by
  induction i with
  | zero => simp [af]
  | succ i ih =>
   by_cases hi : i < l.length
   ·have hc : l[i]? = some l[i] := by simp [hi]
    have := hb _ (List.mem_of_getElem? hc)
    have e : af (l.take (i + 1)) = af (l.take i) ++ (l[i].must ++ l[i].may) := by unfold af; rw [take_get hc, List.flatMap_append]; simp
    rw [e, List.length_append, List.length_append]
    omega
   ·rw [List.take_of_length_le (by omega)] at ih ⊢
    omega
 have hms : ∀ i, ∀ s ∈ af (l.take i), s.length ≤ maxLen := fun i s hs => by
  rcases List.mem_cons.1 hs with rfl | hs
  ·decide
  ·obtain ⟨c, hc, hs⟩ := List.mem_flatMap.1 hs
   obtain ⟨j, hj, rfl⟩ := List.getElem_of_mem (List.mem_of_mem_take hc)
   obtain ⟨_, _, _, _, _, _, _, q1, q2, _⟩ := bQ h (List.getElem?_eq_getElem hj)
   rcases List.mem_append.1 hs with hs | hs
   ·exact q1.max s hs
   ·exact q2.max s hs
 refine WP_loop (fun k σ => ∃ (i n : Nat) (r : Nat → R) (G : List Ob) (w : V), i + k = l.length ∧ σ = ⟨r, n, G⟩ ∧ r 3 = .val w ∧ r 7 = .val v ∧ r 8 = .val (.int .i64 l.length) ∧ r 9 = .val (.int .i64 i) ∧ Gs H G w ((af (l.take i)).map V.str)) ?_ l.length _ ⟨0, _, _, _, .slc (some (H.length, 0)) 1, by simp, rfl, by simp, by simp, by simp, by simp, by rw [List.take_zero]; exact g0⟩
 rintro k σ ⟨i, n, r, G, w, hik, rfl, r3, r7, r8, r9, hG⟩
 obtain ⟨S, hS⟩ := hG.ext
 have hlG : AClasses G v l := by rw [hS]; exact h.ext
 have hwo := hG.one
 cases k with
 | zero =>
  have hi : i = l.length := by omega
  subst hi
  have hle := hlen l.length
  have hm := hms l.length
  rw [List.take_length] at hG hle hm
  have hw := (hG.strs (by unfold maxLen; omega) hm).1
  obtain ⟨T, p, m, c1, _, ⟨l', hl', hmem, _⟩, hnp⟩ := iI (H := G ++ [.mk true 1 [w]]) (id := G.length) (own := true) (va := w) (l := af l) get_last hw.ext (by omega)
  simp only [hS, List.append_assoc] at hl'
  obtain ⟨T', hg, hat⟩ := hl'.gc
  simp only [List.append_assoc] at c1
  rw [← List.append_assoc, ← hS] at hg
  simp [r3, r7, r8, r9, hwo, St.new, elemT, fillL, zerosL, c1, hg, regionL_none, regionL_some, List.lookup]
  exact ⟨T', by simpa using hg, l', hat, hmem, fun q o n h => by cases h; have := hnp _ _ rfl; rw [hS] at this; simp at this; omega⟩
 | succ k =>
  have hi : i < l.length := by omega
  obtain ⟨c, hc⟩ : ∃ c, l[i]? = some c := ⟨l[i], by simp [hi]⟩
  have hcb := hb c (List.mem_of_getElem? hc)
  have hle := hlen i
  have hw1 : IntKind.i64.wrap ((i : Int) + 1) = ((i : Int) + 1) := wrap_i64 (by omega) (by omega)
  obtain ⟨id, o, w1, w2, w3, e1, ll, q1, q2, q3, hid⟩ := bQ h hc
  obtain ⟨l1, l2, l4⟩ := ll G ⟨_, hS⟩
  have n1 := dJ q1 (G := G) ⟨_, hS⟩
  obtain ⟨x1, G1, p1, g1⟩ := hG.many (d := .str) (b := 16) (z := [.str []]) (n1 _ _ _) bT (by simp; unfold maxMade; omega) (by decide) (by decide) rfl
  have n2 := dJ q2 g1.ext
  obtain ⟨x2, G2, p2, g2⟩ := g1.many (d := .str) (b := 16) (z := [.str []]) (n2 _ _ _) bT (by simp; unfold maxMade; omega) (by decide) (by decide) rfl
  have o1 := g1.one
  have o2 := g2.one
  have s1 := q1.one
  have s2 := q2.one
  have s3 := q3.one
  simp [r3, r7, r8, r9, hi, e1, l1, l2, l4, hwo, o1, o2, s1, s2, s3, St.new, elemT, fillL, zerosL, p1, p2, hw1, regionL_none, regionL_some, List.lookup]
  exact ⟨k, by omega, i + 1, by omega, _, _, _, ⟨rfl, rfl, rfl⟩, x2, by simp, by simp [r7], by simp [r8], by simp, by rw [show af (l.take (i + 1)) = af (l.take i) ++ c.must ++ c.may by unfold af; rw [take_get hc, List.flatMap_append]; simp]; simpa using g2⟩
theorem oU {f : List PPart} (hl : f.length ≤ 100) : ∀ (d : Nat) (v : V) (i : Nat) (H : List Ob), d ≤ 100 → i ≤ f.length → f.length - i ≤ d → AParts H v (f.drop i) →
  callW C 232 [v] H = some (ag i (xdep f d i), H) := by
 intro d
 induction d with
 | zero =>
  intro v i H hd hi hfi h
  suffices hs : Ret C 232 [v] H fun q H' => q = ag i (xdep f 0 i) ∧ H' = H by
   obtain ⟨q, H', hc, rfl, rfl⟩ := hs
   exact hc
  rw [Dc]
  have he : f.drop i = [] := by simp; omega
  rw [he] at h
  simp [iT, Tryz.f232, h.len, ag, xdep]
 | succ d ih0 =>
 intro v i H hdb hi0 hfi h
 suffices hs : Ret C 232 [v] H fun q H' => q = ag i (xdep f (d + 1) i) ∧ H' = H by
  obtain ⟨q, H', hc, rfl, rfl⟩ := hs
  exact hc
 rw [Dc]
 rcases Nat.lt_or_ge i f.length with hi | g
 rotate_left
 ·have he : f.drop i = [] := by simp; omega
  rw [he] at h
  simp [iT, Tryz.f232, h.len, ag, xdep, List.getElem?_eq_none g]
 obtain ⟨x, hx⟩ : ∃ c, f[i]? = some c := ⟨f[i], by simp [hi]⟩
 have ih : ∀ (w : V) (j : Nat) (G : List Ob), i < j → j ≤ f.length → AParts G w (f.drop j) → callW C 232 [w] G = some (ag j (xdep f d j), G) := fun w j G h1 h2 h3 => ih0 w j G (by omega) h2 (by omega) h3
 obtain ⟨fs, hfs⟩ : ∃ fs, fs = f.drop i := ⟨_, rfl⟩
 have hfl : fs.length = f.length - i := by rw [hfs]; simp
 have hn0 : ¬ fs = [] := by intro h; rw [h] at hfl; simp at hfl; omega
 have hn0' : ¬ (fs.length : Int) = 0 := by omega
 have hx0 : fs[0]? = some x := by rw [hfs, List.getElem?_drop]; exact hx
 rw [← hfs] at h
 obtain ⟨id, o, e1, l0, l1, _, _, w4⟩ := parts_idx h hx0
 have e1' := fun (e s b : Nat) (z : List V) (ty : Nat → LT) => e1 e s b z ty .i64
 have l1' := l1 []
 have l0' := l0 []
 simp only [List.append_nil, Int.natCast_zero] at l1' e1' l0'
 have l0'' : ∀ T : LT, T.one → ∀ r c, loadAt T ⟨r, c, H⟩ (.hp id o) = some (.int .i64 x.op) := fun T hT r c => (l0' T hT r c).1
 have c1 := zi (p := x) (H := H)
 by_cases hok : PartOk x
 rotate_left
 ·rw [dec_neg hok] at c1
  simp [iT, Tryz.f232, h.len, hn0, hn0', e1', l1', c1, ag, xdep, hx, dec_neg hok]
 rw [dec_pos hok] at c1
 have c5 := ik (n := x.op) (H := H)
 rw [tJ hok] at c5
 have hmb : x.many ≤ 2 := by unfold PPart.many; split <;> (try split) <;> omega
 have hgoal : ag i (xdep f (d + 1) i) = ag i ((frep (xdep f d) x.many (i + 1, 0)).map fun p => (p.1, p.2 + 1)) := by
  show ag i (match f[i]? with
   | none => none
   | some n => if dec (PartOk n) = true then (frep (xdep f d) n.many (i + 1, 0)).map fun p => (p.1, p.2 + 1) else none) = _
  rw [hx]
  simp only [dec_pos hok, if_true]
 rw [hgoal]
 obtain ⟨mm, hmm⟩ : ∃ mm, mm = x.many := ⟨_, rfl⟩
 rw [← hmm] at hmb c5 ⊢
 simp [iT, Tryz.f232, h.len, hn0, hn0', e1', l1', l0'', c1, c5]
 refine WP_loop (fun k σ => ∃ (p : Nat × Nat) (r : Nat → R), σ = ⟨r, 0, H⟩ ∧ r 0 = .val v ∧ r 4 = .val (.int .i64 ((p.1 - i : Nat) : Int)) ∧ r 5 = .val (.int .i64 (p.2 : Int)) ∧ r 22 = .val (.int .i64 (mm : Int)) ∧ k ≤ mm ∧ r 23 = .val (.int .i64 ((mm - k : Nat) : Int)) ∧ i < p.1 ∧ p.1 ≤ f.length ∧ p.2 ≤ d ∧ frep (xdep f d) k p = frep (xdep f d) mm (i + 1, 0)) ?_ mm _ ⟨(i + 1, 0), _, rfl, by simp, by simp, by simp, by simp, Nat.le_refl _, by simp, by simp, by simp; omega, by simp, rfl⟩
 rintro k σ ⟨p, r, rfl, r0, r5, r6, r50, hkm, r51, hip, hpl, hpd, hp⟩
 cases k with
 | zero =>
  have e1 : ¬ ((mm - 0 : Nat) : Int) < mm := by omega
  simp only [frep] at hp
  have hw : IntKind.i64.wrap ((p.2 : Int) + 1) = ((p.2 + 1 : Nat) : Int) := by rw [wrap_i64 (by omega) (by omega)]; omega
  simp [r0, r5, r6, r50, r51, ← hp, ag, hw]
 | succ k =>
  have e1 : ((mm - (k + 1) : Nat) : Int) < mm := by omega
  have hw1 : IntKind.i64.wrap (((mm - (k + 1) : Nat) : Int) + 1) = ((mm - k : Nat) : Int) := by rw [wrap_i64 (by omega) (by omega)]; omega
  obtain ⟨ids, off, own, cells, hv, hcell, hd⟩ := h.drop (k := p.1 - i) (by omega) (by omega)
  have hdj : fs.drop (p.1 - i) = f.drop p.1 := by rw [hfs, List.drop_drop]; congr 1; omega
  rw [hdj] at hd
  have hst : strideIs H ids 3 = true := by simp [strideIs, hcell]
  have hsz : shPart.size = 3 := rfl
  rw [hsz] at hd
  have c2 := ih _ p.1 H hip hpl hd
  have hle : p.1 - i ≤ fs.length := by omega
  cases hsub : xdep f d p.1 with
  | none =>
   rw [hsub] at c2
   simp only [frep, hsub] at hp
   simp only [ag] at c2
   simp [r0, r5, r6, r50, r51, e1, hv, hst, hle, c2, ← hp, ag]
  | some q =>
   rw [hsub] at c2
   simp only [frep, hsub] at hp
   simp only [ag] at c2
   have hq := xdep_some _ _ _ hsub
   have e2 : ¬ ((q.1 - p.1 : Nat) : Int) = 0 := by omega
   have e2' : ¬ (q.1 - p.1 : Nat) = 0 := by omega
   have hw2 : IntKind.i64.wrap (((p.1 - i : Nat) : Int) + ((q.1 - p.1 : Nat) : Int)) = ((q.1 - i : Nat) : Int) := by rw [wrap_i64 (by omega) (by omega)]; omega
   have hmx : maxV [.int .i64 (p.2 : Int), .int .i64 (q.2 : Int)] = some (.int .i64 ((max p.2 q.2 : Nat) : Int)) := by
    simp [maxV]
    omega
   simp [r0, r5, r6, r50, r51, e1, hv, hst, hle, c2, e2, e2', hw1, hw2, hmx]
   exact ⟨k, by omega, q.1, rfl, max p.2 q.2, rfl, by omega, rfl, by omega, by omega, by omega, hp⟩
theorem gm {v : V} {f : List PPart} {H : List Ob} (h : AParts H v f) : callW C 145 [v] H = some (.bool (dec (ExprOk f)), H) := by
 apply Ret.dec
 rw [I4]
 by_cases g : f.length ≤ 12
 rotate_left
 ·have g' : (12 : Int) < f.length := by omega
  simp [gK, Tryz.f145, h.len, g']
  exact fun h => g h.1
 have g' : ¬ (12 : Int) < f.length := by omega
 have c1 := oU (f := f) (by omega) 12 v 0 H (by omega) (by omega) (by omega) h
 rw [expr_ok]
 cases hf : xdep f 12 0 with
 | none =>
  rw [hf] at c1
  simp only [ag] at c1
  simp [gK, Tryz.f145, h.len, g', c1]
 | some q =>
  rw [hf] at c1
  simp only [ag, Nat.sub_zero] at c1
  have hq := xdep_some _ _ _ hf
  have h0 : 0 < q.1 := by omega
  by_cases e : q.1 = f.length
  ·have h1 : 0 < f.length := by omega
   by_cases e5 : q.2 ≤ 5
   ·have e5' : (q.2 : Int) ≤ 5 := by omega
    simp [gK, Tryz.f145, h.len, g', c1, e, h1, e5']
    exact ⟨g, q.2, by rw [← e], e5⟩
   ·have e5' : ¬ (q.2 : Int) ≤ 5 := by omega
    simp [gK, Tryz.f145, h.len, g', c1, e, h1, e5']
    intro _ x hx
    rw [hx] at e5
    exact Nat.lt_of_not_le e5
  ·have e' : ¬ (q.1 : Int) = f.length := by omega
   simp [gK, Tryz.f145, h.len, g', c1, e, e', h0]
   intro _ x hx
   rw [hx] at e
   exact absurd rfl e
def aA (x : List PPart) : List Str := x.flatMap fun p => if p.op = 2 then [p.text] else []
theorem jl {x : List PPart} {i : Nat} {p : PPart} (h : x[i]? = some p) : aA (x.take (i + 1)) = aA (x.take i) ++ if p.op = 2 then [p.text] else [] := by
 unfold aA
 rw [take_get h, List.flatMap_append]
 simp
theorem qM {x : List PPart} : (aA x).length ≤ x.length := by
 induction x with
 | nil => simp [aA]
 | cons p x ih =>
  unfold aA at ih ⊢
  rw [List.flatMap_cons, List.length_append, List.length_cons]
  have h1 : (if p.op = 2 then [p.text] else []).length ≤ 1 := by split <;> simp
  omega
theorem kT {H : List Ob} {v : V} {x : List PPart} (h : AParts H v x) (hl : x.length ≤ 12) :
  ∃ T w l', callW C 134 [v] H = some (w, H ++ T) ∧ AStrs (H ++ T) w l' ∧ (∀ y, y ∈ l' ↔ y ∈ aA x) := by
 suffices hs : Ret C 134 [v] H fun w H' => ∃ T l', H' = H ++ T ∧ AStrs (H ++ T) w l' ∧ (∀ y, y ∈ l' ↔ y ∈ aA x) by
  obtain ⟨q, H', hc, T, l', rfl, hr⟩ := hs
  exact ⟨T, q, l', hc, hr⟩
 rw [IL]
 have hone := h.one
 simp [vP, Tryz.f134, St.new, elemT, fillL, zerosL]
 have hinit : AStrs (H ++ [.mk true 1 []]) (.slc (some (H.length, 0)) 0) [] := (Gs.strs (l := []) Gs.init (by simp) (by simp)).1
 refine WP_loop (fun k σ => ∃ (i : Nat) (r : Nat → R) (T : List Ob) (w : V) (ks : List Str), i + k = x.length ∧ σ = ⟨r, 0, H ++ T⟩ ∧ r 0 = .val v ∧ r 3 = .val w ∧ r 4 = .val (.int .i64 i) ∧ AStrs (H ++ T) w ks ∧ (∀ y, y ∈ ks ↔ y ∈ aA (x.take i)) ∧ ks.length ≤ i) ?_ x.length _ ⟨0, _, _, _, [], by simp, rfl, by simp, by simp, by simp, hinit, by simp [aA], by simp⟩
 rintro k σ ⟨i, r, T, w, ks, hik, rfl, r0, r3, r4, hw, hmem, hlen⟩
 have hwo := hw.one
 cases k with
 | zero =>
  have hi : i = x.length := by omega
  subst hi
  rw [List.take_length] at hmem
  obtain ⟨T', hg, hw'⟩ := hw.gc
  simp [r0, r3, r4, h.len, hwo, hg, regionL_none, regionL_some, List.lookup]
  exact ⟨ks, hw', hmem⟩
 | succ k =>
  have hi : i < x.length := by omega
  obtain ⟨p, hp⟩ : ∃ p, x[i]? = some p := ⟨x[i], by simp [hi]⟩
  have hw1 : IntKind.i64.wrap ((i : Int) + 1) = ((i : Int) + 1) := wrap_i64 (by omega) (by omega)
  obtain ⟨id, o, e1, l0, _, ht, _⟩ := parts_idx h hp
  have l0' := l0 T
  have hstep := jl hp
  by_cases g : p.op = 2
  ·obtain ⟨T2, w', ks', c1, hw', hm', hl'⟩ := lI hw ht (by omega)
   have hwo' := hw'.one
   simp [r0, r3, r4, hi, h.len, e1, l0', g, c1, hw1, hwo', regionL_none, regionL_some, List.lookup]
   refine ⟨k, by omega, i + 1, by omega, _, T ++ T2, ⟨rfl, by simp⟩, by simp [r0], w', by simp, by simp, ks', by simpa using hw', fun y => ?_, by omega⟩
   rw [hm' y, hmem y, hstep, if_pos g, List.mem_append, List.mem_singleton, or_comm]
  ·simp [r0, r3, r4, hi, h.len, e1, l0', g, hw1, regionL_none, regionL_some, List.lookup]
   refine ⟨k, by omega, i + 1, by omega, _, T, ⟨rfl, rfl⟩, by simp [r0], w, by simp [r3], by simp, ks, hw, fun y => ?_, by omega⟩
   rw [hmem y, hstep, if_neg g, List.append_nil]
theorem jo {H : List Ob} {v : V} {x : List PPart} (h : AParts H v x) (hl : x.length ≤ 12) :
  ∃ T w l', callW C 149 [v] H = some (w, H ++ T) ∧ AStrs (H ++ T) w l' ∧ (∀ y, y ∈ l' ↔ y ∈ aA x) ∧ l'.length ≤ 12 := by
 suffices hs : Ret C 149 [v] H fun w H' => ∃ T l', H' = H ++ T ∧ AStrs (H ++ T) w l' ∧ (∀ y, y ∈ l' ↔ y ∈ aA x) ∧ l'.length ≤ 12 by
  obtain ⟨q, H', hc, T, l', rfl, hr⟩ := hs
  exact ⟨T, q, l', hc, hr⟩
 rw [Gw]
 have hone := h.one
 simp [uY, Tryz.f149, St.new, elemT, fillL, zerosL, h.len, hone]
 refine WP_loop (fun k σ => ∃ (i n : Nat) (r : Nat → R) (G : List Ob) (w : V), i + k = x.length ∧ σ = ⟨r, n, G⟩ ∧ r 3 = .val w ∧ r 7 = .val v ∧ r 8 = .val (.int .i64 x.length) ∧ r 9 = .val (.int .i64 i) ∧ Gs H G w ((aA (x.take i)).map V.str) ∧ ∀ s ∈ aA (x.take i), s.length ≤ maxLen) ?_ x.length _ ⟨0, _, _, _, .slc (some (H.length, 0)) 0, by simp, rfl, by simp, by simp, by simp, by simp, by simpa [aA] using Gs.init, by simp [aA]⟩
 rintro k σ ⟨i, n, r, G, w, hik, rfl, r3, r7, r8, r9, hG, hms⟩
 obtain ⟨S, hS⟩ := hG.ext
 have hwo := hG.one
 have hle := qM (x := x.take i)
 rw [List.length_take] at hle
 cases k with
 | zero =>
  have hi : i = x.length := by omega
  subst hi
  rw [List.take_length] at hG hle hms
  have hw := (hG.strs (by unfold maxLen; omega) hms).1
  obtain ⟨T, p, m, c1, _, ⟨l', hl', hmem, hll⟩, _⟩ := iI (H := G ++ [.mk true 1 [w]]) (id := G.length) (own := true) (va := w) (l := aA x) get_last hw.ext (by omega)
  simp only [hS, List.append_assoc] at hl'
  obtain ⟨T', hg, hat⟩ := hl'.gc
  simp only [List.append_assoc] at c1
  rw [← List.append_assoc, ← hS] at hg
  simp [r3, r7, r8, r9, hwo, St.new, elemT, fillL, zerosL, c1, hg, regionL_none, regionL_some, List.lookup]
  exact ⟨T', by simpa using hg, l', hat, hmem, by omega⟩
 | succ k =>
  have hi : i < x.length := by omega
  obtain ⟨p, hp⟩ : ∃ p, x[i]? = some p := ⟨x[i], by simp [hi]⟩
  have hw1 : IntKind.i64.wrap ((i : Int) + 1) = ((i : Int) + 1) := wrap_i64 (by omega) (by omega)
  obtain ⟨id, o, e1, l0, l3, ht, _⟩ := parts_idx h hp
  have l3' := l3 S
  rw [← hS] at l3'
  have hstep := jl hp
  by_cases g : p.op = 2
  ·rw [if_pos g] at hstep
   obtain ⟨x2, G2, p2, g2⟩ := hG.push (x := .str p.text) (d := .str) (b := 16) (z := [.str []]) rfl (by simp; unfold maxMade; omega) (by decide) (by decide) rfl
   have o2 := g2.one
   simp [r3, r7, r8, r9, hi, e1, l3', hwo, o2, g, St.new, elemT, fillL, zerosL, p2, hw1, regionL_none, regionL_some, List.lookup]
   refine ⟨k, by omega, i + 1, by omega, _, _, _, ⟨rfl, rfl, rfl⟩, x2, by simp, by simp [r7], by simp [r8], by simp, by rw [hstep]; simpa using g2, fun s hs => ?_⟩
   rw [hstep] at hs
   rcases List.mem_append.1 hs with hs | hs
   ·exact hms s hs
   ·rw [List.mem_singleton.1 hs]; exact ht
  ·rw [if_neg g, List.append_nil] at hstep
   simp [r3, r7, r8, r9, hi, e1, l3', hwo, g, St.new, elemT, fillL, zerosL, hw1, regionL_none, regionL_some, List.lookup]
   exact ⟨k, by omega, i + 1, by omega, _, _, _, ⟨rfl, rfl, rfl⟩, w, by simp [r3], by simp [r7], by simp [r8], by simp, by rw [hstep]; exact hG, by rw [hstep]; exact hms⟩
noncomputable def aG (f : List PNode) : List Str := f.flatMap fun n => if dec n.Inner = true then [] else [n.attr]
theorem jf {f : List PNode} {i : Nat} {n : PNode} (h : f[i]? = some n) : aG (f.take (i + 1)) = aG (f.take i) ++ if dec n.Inner = true then [] else [n.attr] := by
 unfold aG
 rw [take_get h, List.flatMap_append]
 simp
theorem qJ {f : List PNode} : (aG f).length ≤ f.length := by
 induction f with
 | nil => simp [aG]
 | cons n f ih =>
  unfold aG at ih ⊢
  rw [List.flatMap_cons, List.length_append, List.length_cons]
  have h1 : (if dec n.Inner = true then [] else [n.attr]).length ≤ 1 := by split <;> simp
  omega
theorem pU {f : List PNode} {g : Nat → Option (Nat × Nat)} (hg : ∀ i q, g i = some q → i < q.1 ∧ ∀ j n, i ≤ j → j < q.1 → f[j]? = some n → NodeOk n) : ∀ k p q, frep g k p = some q → p.1 ≤ q.1 ∧ ∀ j n, p.1 ≤ j → j < q.1 → f[j]? = some n → NodeOk n
 | 0, p, q, h => by cases h; exact ⟨Nat.le_refl _, fun j n h1 h2 => by omega⟩
 | k + 1, p, q, h => by
  unfold frep at h
  cases hq : g p.1 with
  | none => rw [hq] at h; cases h
  | some r =>
   rw [hq] at h
   obtain ⟨e1, e2⟩ := hg _ _ hq
   obtain ⟨f1, f2⟩ := pU hg k _ q h
   simp only at f1 f2
   refine ⟨by omega, fun j n h1 h2 h3 => ?_⟩
   by_cases hj : j < r.1
   ·exact e2 j n h1 hj h3
   ·exact f2 j n (by omega) h2 h3
theorem pJ {f : List PNode} : ∀ d i q, fdep f d i = some q → i < q.1 ∧ ∀ j n, i ≤ j → j < q.1 → f[j]? = some n → NodeOk n
 | 0, i, q, h => by cases h
 | d + 1, i, q, h => by
  unfold fdep at h
  cases hn : f[i]? with
  | none => rw [hn] at h; cases h
  | some x =>
   rw [hn] at h
   simp only at h
   split at h
   ·rename_i hok
    cases hr : frep (fdep f d) x.many.toNat (i + 1, 0) with
    | none => rw [hr] at h; cases h
    | some r =>
     rw [hr] at h
     cases h
     obtain ⟨e1, e2⟩ := pU (f := f) (fun i q h => pJ d i q h) _ _ _ hr
     simp only at e1 e2
     refine ⟨by simp only; omega, fun j n h1 h2 h3 => ?_⟩
     by_cases hj : j = i
     ·subst hj
      rw [hn] at h3
      cases h3
      exact dec_true.1 hok
     ·exact e2 j n (by omega) h2 h3
   ·cases h
theorem FilterOk.nodes {f : List PNode} (h : FilterOk f) : ∀ n ∈ f, NodeOk n := fun n hn => by
 obtain ⟨_, x, hx⟩ := h
 obtain ⟨j, hj, rfl⟩ := List.getElem_of_mem hn
 exact (pJ _ _ _ hx).2 j _ (Nat.zero_le _) hj (List.getElem?_eq_getElem hj)
theorem A8 {n : PNode} (h : NodeOk n) : 3 < n.op ↔ ¬ n.Inner := by
 unfold PNode.Inner
 rcases h with ⟨a, _⟩ | ⟨a, _⟩ | ⟨a, _⟩
 ·unfold PNode.Inner at a; omega
 ·omega
 ·omega
theorem lS {H : List Ob} {v : V} {f : List PNode} (h : ANodes H v f) (hok : FilterOk f) :
  ∃ T w l', callW C 148 [v] H = some (w, H ++ T) ∧ AStrs (H ++ T) w l' ∧ (∀ y, y ∈ l' ↔ y ∈ aG f) ∧ l'.length ≤ 20 := by
 suffices hs : Ret C 148 [v] H fun w H' => ∃ T l', H' = H ++ T ∧ AStrs (H ++ T) w l' ∧ (∀ y, y ∈ l' ↔ y ∈ aG f) ∧ l'.length ≤ 20 by
  obtain ⟨q, H', hc, T, l', rfl, hr⟩ := hs
  exact ⟨T, q, l', hc, hr⟩
 rw [Kt]
 have hone := h.one
 have hl := hok.1
 simp [uM, Tryz.f148, St.new, elemT, fillL, zerosL, h.len, hone]
 refine WP_loop (fun k σ => ∃ (i n : Nat) (r : Nat → R) (G : List Ob) (w : V), i + k = f.length ∧ σ = ⟨r, n, G⟩ ∧ r 3 = .val w ∧ r 7 = .val v ∧ r 8 = .val (.int .i64 f.length) ∧ r 9 = .val (.int .i64 i) ∧ Gs H G w ((aG (f.take i)).map V.str) ∧ ∀ s ∈ aG (f.take i), s.length ≤ maxLen) ?_ f.length _ ⟨0, _, _, _, .slc (some (H.length, 0)) 0, by simp, rfl, by simp, by simp, by simp, by simp, by simpa [aG] using Gs.init, by simp [aG]⟩
 rintro k σ ⟨i, n, r, G, w, hik, rfl, r3, r7, r8, r9, hG, hms⟩
 obtain ⟨S, hS⟩ := hG.ext
 have hwo := hG.one
 have hle := qJ (f := f.take i)
 rw [List.length_take] at hle
 cases k with
 | zero =>
  have hi : i = f.length := by omega
  subst hi
  rw [List.take_length] at hG hle hms
  have hw := (hG.strs (by unfold maxLen; omega) hms).1
  obtain ⟨T, p, m, c1, _, ⟨l', hl', hmem, hll⟩, _⟩ := iI (H := G ++ [.mk true 1 [w]]) (id := G.length) (own := true) (va := w) (l := aG f) get_last hw.ext (by omega)
  simp only [hS, List.append_assoc] at hl'
  obtain ⟨T', hg, hat⟩ := hl'.gc
  simp only [List.append_assoc] at c1
  rw [← List.append_assoc, ← hS] at hg
  simp [r3, r7, r8, r9, hwo, St.new, elemT, fillL, zerosL, c1, hg, regionL_none, regionL_some, List.lookup]
  exact ⟨T', by simpa using hg, l', hat, hmem, by omega⟩
 | succ k =>
  have hi : i < f.length := by omega
  obtain ⟨p, hp⟩ : ∃ p, f[i]? = some p := ⟨f[i], by simp [hi]⟩
  have hw1 : IntKind.i64.wrap ((i : Int) + 1) = ((i : Int) + 1) := wrap_i64 (by omega) (by omega)
  obtain ⟨id, o, e1, l0, l3, ht, _⟩ := nodes_idx h hp
  have l3' := l3 S
  rw [← hS] at l3'
  have hstep := jf hp
  have hgt := A8 (FilterOk.nodes hok p (List.mem_of_getElem? hp))
  by_cases g : p.Inner
  ·have g' : ¬ 3 < p.op := fun hh => hgt.1 hh g
   rw [dec_pos g, if_pos rfl, List.append_nil] at hstep
   simp [r3, r7, r8, r9, hi, e1, l3', hwo, g', St.new, elemT, fillL, zerosL, hw1, regionL_none, regionL_some, List.lookup]
   exact ⟨k, by omega, i + 1, by omega, _, _, _, ⟨rfl, rfl, rfl⟩, w, by simp [r3], by simp [r7], by simp [r8], by simp, by rw [hstep]; exact hG, by rw [hstep]; exact hms⟩
  ·have g' : 3 < p.op := hgt.2 g
   rw [dec_neg g] at hstep
   simp only [Bool.false_eq_true, if_false] at hstep
   obtain ⟨x2, G2, p2, g2⟩ := hG.push (x := .str p.attr) (d := .str) (b := 16) (z := [.str []]) rfl (by simp; unfold maxMade; omega) (by decide) (by decide) rfl
   have o2 := g2.one
   simp [r3, r7, r8, r9, hi, e1, l3', hwo, o2, g', St.new, elemT, fillL, zerosL, p2, hw1, regionL_none, regionL_some, List.lookup]
   refine ⟨k, by omega, i + 1, by omega, _, _, _, ⟨rfl, rfl, rfl⟩, x2, by simp, by simp [r7], by simp [r8], by simp, by rw [hstep]; simpa using g2, fun s hs => ?_⟩
   rw [hstep] at hs
   rcases List.mem_append.1 hs with hs | hs
   ·exact hms s hs
   ·rw [List.mem_singleton.1 hs]; exact ht
theorem lL {H : List Ob} {v : V} {f : List PNode} (h : ANodes H v f) (hok : FilterOk f) :
  ∃ T w l', callW C 133 [v] H = some (w, H ++ T) ∧ AStrs (H ++ T) w l' ∧ (∀ y, y ∈ l' ↔ y ∈ aG f) := by
 suffices hs : Ret C 133 [v] H fun w H' => ∃ T l', H' = H ++ T ∧ AStrs (H ++ T) w l' ∧ (∀ y, y ∈ l' ↔ y ∈ aG f) by
  obtain ⟨q, H', hc, T, l', rfl, hr⟩ := hs
  exact ⟨T, q, l', hc, hr⟩
 rw [IV]
 have hone := h.one
 have hl := hok.1
 have hl4 : ¬ (400 : Int) < f.length := by omega
 have c0 := gV (h.ext (T := [.mk true 1 []]))
 rw [dec_pos hok] at c0
 simp [uq, Tryz.f133, St.new, elemT, fillL, zerosL, h.len, hone, hl4, c0]
 have hinit : AStrs (H ++ [.mk true 1 []]) (.slc (some (H.length, 0)) 0) [] := (Gs.strs (l := []) Gs.init (by simp) (by simp)).1
 refine WP_loop (fun k σ => ∃ (i : Nat) (r : Nat → R) (T : List Ob) (w : V) (ks : List Str), i + k = f.length ∧ σ = ⟨r, 0, H ++ T⟩ ∧ r 0 = .val v ∧ r 3 = .val w ∧ r 4 = .val (.int .i64 i) ∧ AStrs (H ++ T) w ks ∧ (∀ y, y ∈ ks ↔ y ∈ aG (f.take i)) ∧ ks.length ≤ i) ?_ f.length _ ⟨0, _, _, _, [], by simp, rfl, by simp, by simp, by simp, hinit, by simp [aG], by simp⟩
 rintro k σ ⟨i, r, T, w, ks, hik, rfl, r0, r3, r4, hw, hmem, hlen⟩
 have hwo := hw.one
 have hfT : ANodes (H ++ T) v f := h.ext
 cases k with
 | zero =>
  have hi : i = f.length := by omega
  subst hi
  rw [List.take_length] at hmem
  obtain ⟨T', hg, hw'⟩ := hw.gc
  simp [r0, r3, r4, h.len, hwo, hg, regionL_none, regionL_some, List.lookup]
  exact ⟨ks, hw', hmem⟩
 | succ k =>
  have hi : i < f.length := by omega
  obtain ⟨p, hp⟩ : ∃ p, f[i]? = some p := ⟨f[i], by simp [hi]⟩
  have hw1 : IntKind.i64.wrap ((i : Int) + 1) = ((i : Int) + 1) := wrap_i64 (by omega) (by omega)
  obtain ⟨id, o, e1, l0, l3, ht, _⟩ := nodes_idx h hp
  have hidn : id < H.length := by
   obtain ⟨id2, o2, ow2, cl2, f1, f2, _, _⟩ := ASl.idx h hp (by decide)
   have t1 := e1 0 0 0 [] (fun _ => ⟨.str, 4, 0, []⟩) .i64 rfl
   have t2 := f1 0 0 0 [] (fun _ => ⟨.str, 4, 0, []⟩) .i64 rfl
   rw [t1] at t2
   cases t2
   exact (List.getElem?_eq_some_iff.1 f2).1
  have l0' := l0 T
  have l3' := l3 T
  have cI := uJ (n := p) (H := H ++ T)
  have hstep := jf hp
  by_cases g : p.Inner
  ·rw [dec_pos g] at cI
   rw [dec_pos g, if_pos rfl, List.append_nil] at hstep
   simp [r0, r3, r4, hi, h.len, e1, l3', cI, hw1, regionL_none, regionL_some, List.lookup]
   exact ⟨k, by omega, i + 1, by omega, _, T, ⟨rfl, rfl⟩, by simp [r0], w, by simp [r3], by simp, ks, hw, by rw [hstep]; exact hmem, by omega⟩
  rw [dec_neg g] at cI hstep
  simp only [Bool.false_eq_true, if_false] at hstep
  simp [r0, r3, r4, hi, h.len, e1, l3', cI, regionL_none, regionL_some, List.lookup]
  have hmx := hw.max
  refine WP.mono (Q := fun ex σ' => ∃ (m : Nat) (r : Nat → R), ex = .exit 2 ∧ σ' = ⟨r, 0, H ++ T⟩ ∧ r 0 = .val v ∧ r 3 = .val w ∧ r 4 = .val (.int .i64 i) ∧ r 5 = .val (.int .i64 m) ∧ m ≤ ks.length) ?_ ?_
  ·refine WP_loop (fun k σ => ∃ (m : Nat) (r : Nat → R), m + k = ks.length ∧ σ = ⟨r, 0, H ++ T⟩ ∧ r 0 = .val v ∧ r 3 = .val w ∧ r 4 = .val (.int .i64 i) ∧ r 5 = .val (.int .i64 m)) ?_ ks.length _ ⟨0, _, by simp, rfl, by simp [r0], by simp [r3], by simp [r4], by simp⟩
   clear r0 r3 r4 r
   rintro k σ ⟨m, r, hmk, rfl, r0, r3, r4, r5⟩
   cases k with
   | zero =>
    have hm : m = ks.length := by omega
    subst hm
    simp [r0, r3, r4, r5, hw.len, regionL_none, regionL_some, List.lookup]
    exact ⟨ks.length, rfl, Nat.le_refl _⟩
   | succ k =>
    have hm : m < ks.length := by omega
    obtain ⟨x, hx⟩ : ∃ c, ks[m]? = some c := ⟨ks[m], by simp [hm]⟩
    have hw2 : IntKind.i64.wrap ((m : Int) + 1) = ((m : Int) + 1) := wrap_i64 (by omega) (by omega)
    obtain ⟨id2, o2, f1, f0, _⟩ := strs_idx hw hx
    by_cases g : LtS x p.attr
    ·simp [r0, r3, r4, r5, hi, hm, hw.len, e1, l0', f1, f0, aT g, hw2, regionL_none, regionL_some, List.lookup]
     exact ⟨k, by omega, m + 1, by omega, by omega⟩
    ·simp [r0, r3, r4, r5, hi, hm, hw.len, e1, l0', f1, f0, bi g, hw2, regionL_none, regionL_some, List.lookup]
     exact ⟨m, rfl, by omega⟩
  ·clear r0 r3 r4 r
   rintro ex σ' ⟨m, r, rfl, rfl, r0, r3, r4, r5, hml⟩
   by_cases gs : ∃ x, ks[m]? = some x ∧ x = p.attr
   ·obtain ⟨x, hx, hxp⟩ := gs
    have hm := (List.getElem?_eq_some_iff.1 hx).1
    obtain ⟨id2, o2, f1, f0, _⟩ := strs_idx hw hx
    simp [r0, r3, r4, r5, hi, hm, hw.len, e1, l0', f1, f0, hxp, hw1, regionL_none, regionL_some, List.lookup]
    refine ⟨k, by omega, i + 1, by omega, _, T, ⟨rfl, rfl⟩, by simp [r0], w, by simp [r3], by simp, ks, hw, fun y => ?_, by omega⟩
    rw [hstep, List.mem_append, List.mem_singleton, ← hmem y]
    exact ⟨.inl, fun hh => hh.elim (fun z => z) fun e => by rw [e, ← hxp]; exact List.mem_of_getElem? hx⟩
   obtain ⟨s1, s2, a1, a2, hcase⟩ := hw.cut hml
   have n1 := dJ a1 (G := H ++ T ++ [.mk true 1 []]) ⟨_, rfl⟩
   have R0 : Gs (H ++ T) (H ++ T ++ [.mk true 1 []]) (.slc (some ((H ++ T).length, 0)) 0) (([] : List Str).map V.str) := Gs.init
   obtain ⟨x1, G1, p1, g1⟩ := R0.many (d := .str) (b := 16) (z := [.str []]) (n1 _ _ _) bT (by simp; unfold maxMade; omega) (by decide) (by decide) rfl
   obtain ⟨x2, G2, p2, g2⟩ := g1.push (x := .str p.attr) (d := .str) (b := 16) (z := [.str []]) rfl (by simp; unfold maxMade; omega) (by decide) (by decide) rfl
   have n2 := dJ a2 g2.ext
   obtain ⟨x3, G3, p3, g3⟩ := g2.many (d := .str) (b := 16) (z := [.str []]) (n2 _ _ _) bT (by simp; unfold maxMade; omega) (by decide) (by decide) rfl
   have g3' : Gs (H ++ T) G3 x3 ((ks.take m ++ p.attr :: ks.drop m).map V.str) := by simpa using g3
   have hmem2 : ∀ y, y ∈ ks.take m ++ p.attr :: ks.drop m ↔ y ∈ aG (f.take (i + 1)) := fun y => by
    rw [hstep, List.mem_append (s := aG _), List.mem_singleton, ← hmem y]
    conv => rhs; rw [← List.take_append_drop m ks]
    simp only [List.mem_append, List.mem_cons]
    constructor
    ·rintro (h | h | h)
     ·exact .inl (.inl h)
     ·exact .inr h
     ·exact .inl (.inr h)
    ·rintro ((h | h) | h)
     ·exact .inl h
     ·exact .inr (.inr h)
     ·exact .inr (.inl h)
   have hat := (g3'.strs (by simp; unfold maxLen; omega) (fun s hs => by
    rcases List.mem_append.1 hs with hs | hs
    ·exact hmx s (List.mem_of_mem_take hs)
    ·rcases List.mem_cons.1 hs with rfl | hs
     ·exact ht
     ·exact hmx s (List.mem_of_mem_drop hs))).1
   obtain ⟨S1, hS1⟩ := g1.ext
   obtain ⟨S2, hS2⟩ := g2.ext
   obtain ⟨S3, hS3⟩ := g3'.ext
   have l1a : ∀ T : LT, T.one → ∀ r c, loadAt T ⟨r, c, G1⟩ (.hp id (o + 1)) = some (.str p.attr) := fun TT hT r c => by
    rw [hS1, List.append_assoc]; exact (l0 _ TT hT r c).2.1
   have o1 := g1.one
   have o2 := g2.one
   have o3 := g3'.one
   have hoA : isOne s1 = true ∧ cellsOf s1 = some [s1] := a1.one
   have hoB : isOne s2 = true ∧ cellsOf s2 = some [s2] := a2.one
   have fin : ∃ (T' : List Ob), G3 = H ++ T' ∧ AStrs (H ++ T') x3 (ks.take m ++ p.attr :: ks.drop m) := ⟨T ++ S3, by rw [hS3, List.append_assoc], by rw [← List.append_assoc, ← hS3]; exact hat⟩
   obtain ⟨T', hT', hat'⟩ := fin
   have hfin : (ks.take m ++ p.attr :: ks.drop m).length ≤ i + 1 := by simp; omega
   by_cases gi : m < ks.length
   ·obtain ⟨x, hx⟩ : ∃ c, ks[m]? = some c := ⟨ks[m], by simp [gi]⟩
    obtain ⟨id2, o2', f1, f0, _⟩ := strs_idx hw hx
    have hxt : ¬ x = p.attr := fun e => gs ⟨x, hx, e⟩
    rcases hcase with ⟨_, _, _, _, h0⟩ | ⟨ids, off, hv, hs1, hs2, hst⟩
    ·rw [h0] at gi; simp at gi
    have t1 := hst (H ++ T ++ [.mk true 1 []]) ⟨_, rfl⟩
    have t2 := hst G2 ⟨S2, hS2⟩
    rw [hv] at r3 f1
    have hwl := fun {e s b : Nat} {z : List V} => hw.len (e := e) (s := s) (b := b) (z := z)
    rw [hv] at hwl
    rw [hs1] at p1
    rw [hs2] at p3
    simp [Sh.size_str] at t1 t2 p1 p2 p3 hwl
    simp [r0, r3, r4, r5, hi, gi, hml, hwl, e1, l0', l1a, f1, f0, hxt, St.new, elemT, fillL, zerosL, t1, t2, p1, p2, p3, o1, o2, o3, hw1, regionL_none, regionL_some, List.lookup]
    exact ⟨k, by omega, i + 1, by omega, _, T', ⟨rfl, hT'⟩, by simp [r0], x3, by simp, by simp, _, hat', hmem2, hfin⟩
   ·have hin : m = ks.length := by omega
    rcases hcase with ⟨hv, hs1, hs2, hi0, h0⟩ | ⟨ids, off, hv, hs1, hs2, hst⟩
    ·rw [hv] at r3
     have hwl := fun {e s b : Nat} {z : List V} => hw.len (e := e) (s := s) (b := b) (z := z)
     rw [hv] at hwl
     rw [hs1] at p1
     rw [hs2] at p3
     subst h0
     simp at p1 p2 p3 hwl
     simp [r0, r3, r4, r5, hi, hi0, hwl, e1, l0', l1a, St.new, elemT, fillL, zerosL, p1, p2, p3, o1, o2, o3, hw1, regionL_none, regionL_some, List.lookup]
     exact ⟨k, by omega, i + 1, by omega, _, T', ⟨rfl, hT'⟩, by simp [r0], x3, by simp, by simp, _, hat', hmem2, hfin⟩
    ·have t1 := hst (H ++ T ++ [.mk true 1 []]) ⟨_, rfl⟩
     have t2 := hst G2 ⟨S2, hS2⟩
     rw [hv] at r3
     have hwl := fun {e s b : Nat} {z : List V} => hw.len (e := e) (s := s) (b := b) (z := z)
     rw [hv] at hwl
     rw [hs1] at p1
     rw [hs2] at p3
     simp [Sh.size_str] at t1 t2 p1 p2 p3 hwl
     simp [r0, r3, r4, r5, hi, gi, hml, hwl, e1, l0', l1a, St.new, elemT, fillL, zerosL, t1, t2, p1, p2, p3, o1, o2, o3, hw1, regionL_none, regionL_some, List.lookup]
     exact ⟨k, by omega, i + 1, by omega, _, T', ⟨rfl, hT'⟩, by simp [r0], x3, by simp, by simp, _, hat', hmem2, hfin⟩
def ax : Str := [112, 104, 111, 110, 101]
def ai (f : PFlow) : Prop := DnOk f.base ∧ FilterOk f.filter ∧ ExprOk f.login ∧ ExprOk f.mail ∧ ExprOk f.phone ∧ (f.back = true → ax ∉ aG f.filter ∧ ax ∉ aA f.login ∧ ax ∉ aA f.mail)
theorem qB {H : List Ob} {vb vf vl vm vp : V} {f : PFlow} (h1 : ARdns H vb f.base) (h2 : ANodes H vf f.filter) (h3 : AParts H vl f.login) (h4 : AParts H vm f.mail) (h5 : AParts H vp f.phone) :
  callW C 58 [.agg [vb, vf, vl, vm, vp, .bool f.back]] H = some (.bool (dec (ai f)), H) := by
 apply Ret.dec
 rw [QR]
 have o1 := h1.one
 have o2 := h2.one
 have o3 := h3.one
 have o4 := h4.one
 have o5 := h5.one
 have c1 := Bd h1
 have c2 := gV h2
 have c3 := fM h3
 have c4 := fM h4
 have c5 := fM h5
 by_cases g1 : DnOk f.base
 rotate_left
 ·have hn : ¬ ai f := fun h => g1 h.1
  rw [dec_neg g1] at c1
  simp [bY, Tryz.f58, o1, o2, o3, o4, o5, c1, c2, c3, c4, c5, hn, fillL, zerosL, regionL_none, regionL_some, List.lookup]
 rw [dec_pos g1] at c1
 by_cases g2 : FilterOk f.filter
 rotate_left
 ·have hn : ¬ ai f := fun h => g2 h.2.1
  rw [dec_neg g2] at c2
  simp [bY, Tryz.f58, o1, o2, o3, o4, o5, c1, c2, c3, c4, c5, hn, fillL, zerosL, regionL_none, regionL_some, List.lookup]
 rw [dec_pos g2] at c2
 by_cases g3 : ExprOk f.login
 rotate_left
 ·have hn : ¬ ai f := fun h => g3 h.2.2.1
  rw [dec_neg g3] at c3
  simp [bY, Tryz.f58, o1, o2, o3, o4, o5, c1, c2, c3, c4, c5, hn, fillL, zerosL, regionL_none, regionL_some, List.lookup]
 rw [dec_pos g3] at c3
 by_cases g4 : ExprOk f.mail
 rotate_left
 ·have hn : ¬ ai f := fun h => g4 h.2.2.2.1
  rw [dec_neg g4] at c4
  simp [bY, Tryz.f58, o1, o2, o3, o4, o5, c1, c2, c3, c4, c5, hn, fillL, zerosL, regionL_none, regionL_some, List.lookup]
 rw [dec_pos g4] at c4
 by_cases g5 : ExprOk f.phone
 rotate_left
 ·have hn : ¬ ai f := fun h => g5 h.2.2.2.2.1
  rw [dec_neg g5] at c5
  simp [bY, Tryz.f58, o1, o2, o3, o4, o5, c1, c2, c3, c4, c5, hn, fillL, zerosL, regionL_none, regionL_some, List.lookup]
 rw [dec_pos g5] at c5
 cases gb : f.back with
 | false =>
  have hy : ai f := ⟨g1, g2, g3, g4, g5, fun h => by rw [gb] at h; cases h⟩
  simp [bY, Tryz.f58, o1, o2, o3, o4, o5, c1, c2, c3, c4, c5, hy, fillL, zerosL, regionL_none, regionL_some, List.lookup]
 | true =>
 obtain ⟨T1, w1, l1, d1, a1, m1⟩ := lL h2 g2
 obtain ⟨K1, hK1⟩ : ∃ K, K = H ++ T1 := ⟨_, rfl⟩
 rw [← hK1] at d1 a1
 have e1 := fQ (t := ax) a1
 have o6 := a1.one
 obtain ⟨T2, w2, l2, d2, a2, m2⟩ := kT (H := K1) (by rw [hK1]; exact h3.ext) g3.1
 obtain ⟨K2, hK2⟩ : ∃ K, K = K1 ++ T2 := ⟨_, rfl⟩
 rw [← hK2] at d2 a2
 have e2 := fQ (t := ax) a2
 have o7 := a2.one
 obtain ⟨T3, w3, l3, d3, a3, m3⟩ := kT (H := K2) (by rw [hK2, hK1]; exact h4.ext.ext) g4.1
 obtain ⟨K3, hK3⟩ : ∃ K, K = K2 ++ T3 := ⟨_, rfl⟩
 rw [← hK3] at d3 a3
 have e3 := fQ (t := ax) a3
 have o8 := a3.one
 have b1 : ∀ t, gcH H K1 (.bool t) = H := fun t => by rw [hK1, gcH_bool]
 have b2 : ∀ t, gcH H K2 (.bool t) = H := fun t => by rw [hK2, hK1, List.append_assoc, gcH_bool]
 have b3 : ∀ t, gcH H K3 (.bool t) = H := fun t => by rw [hK3, hK2, hK1, List.append_assoc, List.append_assoc, gcH_bool]
 by_cases q1 : ax ∈ aG f.filter
 ·have hn : ¬ ai f := fun h => (h.2.2.2.2.2 gb).1 q1
  rw [dec_pos ((m1 _).2 q1)] at e1
  simp only [ax] at e1
  simp [bY, Tryz.f58, o1, o2, o3, o4, o5, c1, c2, c3, c4, c5, d1, e1, o6, b1, hn, fillL, zerosL, regionL_none, regionL_some, List.lookup]
 rw [dec_neg (fun h => q1 ((m1 _).1 h))] at e1
 simp only [ax] at e1
 by_cases q2 : ax ∈ aA f.login
 ·have hn : ¬ ai f := fun h => (h.2.2.2.2.2 gb).2.1 q2
  rw [dec_pos ((m2 _).2 q2)] at e2
  simp only [ax] at e2
  simp [bY, Tryz.f58, o1, o2, o3, o4, o5, c1, c2, c3, c4, c5, d1, e1, d2, e2, o6, o7, b2, hn, fillL, zerosL, regionL_none, regionL_some, List.lookup]
 rw [dec_neg (fun h => q2 ((m2 _).1 h))] at e2
 simp only [ax] at e2
 by_cases q3 : ax ∈ aA f.mail
 ·have hn : ¬ ai f := fun h => (h.2.2.2.2.2 gb).2.2 q3
  rw [dec_pos ((m3 _).2 q3)] at e3
  simp only [ax] at e3
  simp [bY, Tryz.f58, o1, o2, o3, o4, o5, c1, c2, c3, c4, c5, d1, e1, d2, e2, d3, e3, o6, o7, o8, b3, hn, fillL, zerosL, regionL_none, regionL_some, List.lookup]
 ·have hy : ai f := ⟨g1, g2, g3, g4, g5, fun _ => ⟨q1, q2, q3⟩⟩
  rw [dec_neg (fun h => q3 ((m3 _).1 h))] at e3
  simp only [ax] at e3
  simp [bY, Tryz.f58, o1, o2, o3, o4, o5, c1, c2, c3, c4, c5, d1, e1, d2, e2, d3, e3, o6, o7, o8, b3, hy, fillL, zerosL, regionL_none, regionL_some, List.lookup]
theorem qc {H : List Ob} {vb vf vl vm vp : V} {f : PFlow} (h1 : ARdns H vb f.base) (h2 : ANodes H vf f.filter) (h3 : AParts H vl f.login) (h4 : AParts H vm f.mail) (h5 : AParts H vp f.phone) :
  callW C 65 [.agg [vb, vf, vl, vm, vp, .bool f.back]] H = some (.bool (dec (ai f)), H) := by
 apply Ret.dec
 rw [QF]
 have o1 := h1.one
 have o2 := h2.one
 have o3 := h3.one
 have o4 := h4.one
 have o5 := h5.one
 have c1 := Jt h1
 have c2 := lT h2
 have c3 := gm h3
 have c4 := gm h4
 have c5 := gm h5
 by_cases g1 : DnOk f.base
 rotate_left
 ·have hn : ¬ ai f := fun h => g1 h.1
  rw [dec_neg g1] at c1
  simp [dW, Tryz.f65, o1, o2, o3, o4, o5, c1, c2, c3, c4, c5, hn, fillL, zerosL, regionL_none, regionL_some, List.lookup]
 rw [dec_pos g1] at c1
 by_cases g2 : FilterOk f.filter
 rotate_left
 ·have hn : ¬ ai f := fun h => g2 h.2.1
  rw [dec_neg g2] at c2
  simp [dW, Tryz.f65, o1, o2, o3, o4, o5, c1, c2, c3, c4, c5, hn, fillL, zerosL, regionL_none, regionL_some, List.lookup]
 rw [dec_pos g2] at c2
 by_cases g3 : ExprOk f.login
 rotate_left
 ·have hn : ¬ ai f := fun h => g3 h.2.2.1
  rw [dec_neg g3] at c3
  simp [dW, Tryz.f65, o1, o2, o3, o4, o5, c1, c2, c3, c4, c5, hn, fillL, zerosL, regionL_none, regionL_some, List.lookup]
 rw [dec_pos g3] at c3
 by_cases g4 : ExprOk f.mail
 rotate_left
 ·have hn : ¬ ai f := fun h => g4 h.2.2.2.1
  rw [dec_neg g4] at c4
  simp [dW, Tryz.f65, o1, o2, o3, o4, o5, c1, c2, c3, c4, c5, hn, fillL, zerosL, regionL_none, regionL_some, List.lookup]
 rw [dec_pos g4] at c4
 by_cases g5 : ExprOk f.phone
 rotate_left
 ·have hn : ¬ ai f := fun h => g5 h.2.2.2.2.1
  rw [dec_neg g5] at c5
  simp [dW, Tryz.f65, o1, o2, o3, o4, o5, c1, c2, c3, c4, c5, hn, fillL, zerosL, regionL_none, regionL_some, List.lookup]
 rw [dec_pos g5] at c5
 cases gb : f.back with
 | false =>
  have hy : ai f := ⟨g1, g2, g3, g4, g5, fun h => by rw [gb] at h; cases h⟩
  simp [dW, Tryz.f65, o1, o2, o3, o4, o5, c1, c2, c3, c4, c5, hy, fillL, zerosL, regionL_none, regionL_some, List.lookup]
 | true =>
 obtain ⟨T1, w1, l1, d1, a1, m1, z1⟩ := lS h2 g2
 obtain ⟨K1, hK1⟩ : ∃ K, K = H ++ T1 := ⟨_, rfl⟩
 rw [← hK1] at d1 a1
 have o6 := a1.one
 obtain ⟨T2, w2, l2, d2, a2, m2, z2⟩ := jo (H := K1) (by rw [hK1]; exact h3.ext) g3.1
 obtain ⟨K2, hK2⟩ : ∃ K, K = K1 ++ T2 := ⟨_, rfl⟩
 rw [← hK2] at d2 a2
 have o7 := a2.one
 obtain ⟨T3, w3, l3, d3, a3, m3, z3⟩ := jo (H := K2) (by rw [hK2, hK1]; exact h4.ext.ext) g4.1
 obtain ⟨K3, hK3⟩ : ∃ K, K = K2 ++ T3 := ⟨_, rfl⟩
 rw [← hK3] at d3 a3
 have o8 := a3.one
 have hfl : fl [l1, l2, l3] 3 = l1 ++ l2 ++ l3 := by simp [fl]
 have a1' : AStrs (K3 ++ [.mk true 1 [w1, w2, w3]]) w1 l1 := by rw [hK3, hK2]; exact a1.ext.ext.ext
 have a2' : AStrs (K3 ++ [.mk true 1 [w1, w2, w3]]) w2 l2 := by rw [hK3]; exact a2.ext.ext
 have a3' : AStrs (K3 ++ [.mk true 1 [w1, w2, w3]]) w3 l3 := a3.ext
 have hlen : (l1 ++ l2 ++ l3).length ≤ 44 := by simp; omega
 obtain ⟨T4, w, d4, hown⟩ := kJ (H := K3 ++ [.mk true 1 [w1, w2, w3]]) (id := K3.length) (own := true) (ws := [w1, w2, w3]) (ls := [l1, l2, l3]) get_last rfl (fun i w l hw hl => by
  match i with
  | 0 => cases hw; cases hl; exact a1'
  | 1 => cases hw; cases hl; exact a2'
  | 2 => cases hw; cases hl; exact a3'
  | i + 3 => simp at hw) (by simp only [List.length_cons, List.length_nil]; rw [hfl]; omega) (by simp)
 simp only [List.length_cons, List.length_nil] at hown d4
 rw [hfl] at hown
 have a4 := Own.strs hown (by unfold maxLen; omega) (fun s hs => by
  rcases List.mem_append.1 hs with hs | hs
  ·rcases List.mem_append.1 hs with hs | hs
   ·exact a1.max s hs
   ·exact a2.max s hs
  ·exact a3.max s hs)
 have e4 := aY (t := ax) a4
 have o9 := a4.one
 have b4 : ∀ t X, gcH H (K3 ++ X) (.bool t) = H := fun t X => by rw [hK3, hK2, hK1, List.append_assoc, List.append_assoc, List.append_assoc, gcH_bool]
 have hiff : ax ∈ l1 ++ l2 ++ l3 ↔ ¬ (ax ∉ aG f.filter ∧ ax ∉ aA f.login ∧ ax ∉ aA f.mail) := by
  rw [List.mem_append, List.mem_append, m1, m2, m3]
  by_cases q1 : ax ∈ aG f.filter <;> by_cases q2 : ax ∈ aA f.login <;> by_cases q3 : ax ∈ aA f.mail <;> simp [q1, q2, q3]
 simp only [List.append_assoc, List.cons_append, List.nil_append, Nat.zero_add, Nat.reduceAdd] at d4 e4
 by_cases q : ax ∈ l1 ++ l2 ++ l3
 ·have hn : ¬ ai f := fun h => hiff.1 q (h.2.2.2.2.2 gb)
  simp only [List.append_assoc] at q
  rw [dec_pos q] at e4
  simp only [ax] at e4
  simp [dW, Tryz.f65, o1, o2, o3, o4, o5, c1, c2, c3, c4, c5, d1, d2, d3, d4, e4, o6, o7, o8, o9, b4, hn, St.new, elemT, fillL, zerosL, regionL_none, regionL_some, List.lookup]
 ·have hy : ai f := ⟨g1, g2, g3, g4, g5, fun _ => Classical.byContradiction fun hh => q (hiff.2 hh)⟩
  simp only [List.append_assoc] at q
  rw [dec_neg q] at e4
  simp only [ax] at e4
  simp [dW, Tryz.f65, o1, o2, o3, o4, o5, c1, c2, c3, c4, c5, d1, d2, d3, d4, e4, o6, o7, o8, o9, b4, hy, St.new, elemT, fillL, zerosL, regionL_none, regionL_some, List.lookup]
def aF (t : Str) : Prop := t = [] ∨ ValueOk t
noncomputable def bJ (f : List PPart) (e : PEntry) : Str × Bool := match iY f e 5 0 with
 | some (t, b, _) => (t, b)
 | none => ([], false)
noncomputable def dA (f : PFlow) (e : PEntry) : PWant :=
 if ¬ ((bJ f.login e).2 = true ∧ (bJ f.mail e).2 = true ∧ (bJ f.phone e).2 = true) then ⟨txt e.dn, [], [], [], 8⟩
 else if dec (NameOk (bJ f.login e).1 ∧ aF (bJ f.mail e).1 ∧ aF (bJ f.phone e).1) = true then ⟨txt e.dn, (bJ f.login e).1, (bJ f.mail e).1, (bJ f.phone e).1, 0⟩ else ⟨txt e.dn, [], [], [], 1⟩
theorem gQ {f : List PPart} {e : PEntry} (he : EntryOk e) (hf : ExprOk f) : iY f e 5 0 = some ((bJ f e).1, (bJ f e).2, f.length) := by
 obtain ⟨t, b, h1, _⟩ := zt he hf
 unfold bJ
 rw [h1]
theorem Dl {t : Str} {H : List Ob} : callW C 226 [.str t] H = some (.bool (dec (aF t)), H) := by
 apply Ret.dec
 rw [Gm]
 have c1 := iO (t := t) (H := H)
 by_cases g : t = []
 ·subst g
  simp [jA, Tryz.f226, aF]
 ·have ge : List.isEmpty t = false := by simpa using g
  by_cases g2 : ValueOk t
  ·rw [dec_pos g2] at c1
   simp [jA, Tryz.f226, g, ge, c1, aF, g2]
  ·rw [dec_neg g2] at c1
   simp [jA, Tryz.f226, g, ge, c1, aF, g2]
theorem Dz {t : Str} {H : List Ob} : callW C 240 [.str t] H = some (.bool (dec (aF t)), H) := by
 apply Ret.dec
 rw [Jd]
 have c1 := iF (t := t) (H := H)
 by_cases g : t = []
 ·subst g
  simp [jL, Tryz.f240, aF]
 ·have ge : List.isEmpty t = false := by simpa using g
  by_cases g2 : ValueOk t
  ·rw [dec_pos g2] at c1
   simp [jL, Tryz.f240, g, ge, c1, aF, g2]
  ·rw [dec_neg g2] at c1
   simp [jL, Tryz.f240, g, ge, c1, aF, g2]
theorem ET {H : List Ob} {vb vf vl vm vp vd va : V} {f : PFlow} {e : PEntry} (h1 : ARdns H vb f.base) (h2 : ANodes H vf f.filter) (h3 : AParts H vl f.login) (h4 : AParts H vm f.mail) (h5 : AParts H vp f.phone) (hd : ARdns H vd e.dn) (ha : AAttrs H va e.attrs) (gf : ai f) (he : EntryOk e) :
  callW C 137 [.agg [vb, vf, vl, vm, vp, .bool f.back], .agg [vd, va]] H = some (.agg (dA f e).cs, H) := by
 apply Ret.eq
 rw [H6]
 have o1 := h1.one
 have o2 := h2.one
 have o3 := h3.one
 have o4 := h4.one
 have o5 := h5.one
 have od := hd.one
 have oa := ha.one
 have c0 := EJ hd he.2.1
 have c1 := ou h3 hd ha he gf.2.2.1 (gQ he gf.2.2.1)
 have c2 := ou h4 hd ha he gf.2.2.2.1 (gQ he gf.2.2.2.1)
 have c3 := ou h5 hd ha he gf.2.2.2.2.1 (gQ he gf.2.2.2.2.1)
 have c4 := gp (t := (bJ f.login e).1) (H := H)
 have c5 := Dl (t := (bJ f.mail e).1) (H := H)
 have c6 := Dl (t := (bJ f.phone e).1) (H := H)
 unfold dA
 generalize (bJ f.login e) = x1 at c1 c4 ⊢
 generalize (bJ f.mail e) = x2 at c2 c5 ⊢
 generalize (bJ f.phone e) = x3 at c3 c6 ⊢
 obtain ⟨t1, b1⟩ := x1
 obtain ⟨t2, b2⟩ := x2
 obtain ⟨t3, b3⟩ := x3
 simp only at c1 c2 c3 c4 c5 c6 ⊢
 cases b1 with
 | false => simp [dh, Tryz.f137, o1, o2, o3, o4, o5, od, oa, c0, c1, c2, c3, fillL, zerosL, buildV, structPlace, elemT, setRange, regionL_none, regionL_some, List.lookup]
 | true =>
 cases b2 with
 | false => simp [dh, Tryz.f137, o1, o2, o3, o4, o5, od, oa, c0, c1, c2, c3, fillL, zerosL, buildV, structPlace, elemT, setRange, regionL_none, regionL_some, List.lookup]
 | true =>
 cases b3 with
 | false => simp [dh, Tryz.f137, o1, o2, o3, o4, o5, od, oa, c0, c1, c2, c3, fillL, zerosL, buildV, structPlace, elemT, setRange, regionL_none, regionL_some, List.lookup]
 | true =>
 by_cases g1 : NameOk t1
 rotate_left
 ·rw [dec_neg g1] at c4
  simp [dh, Tryz.f137, o1, o2, o3, o4, o5, od, oa, c0, c1, c2, c3, c4, dec_neg (P := NameOk t1 ∧ aF t2 ∧ aF t3) (fun h => g1 h.1), fillL, zerosL, buildV, structPlace, elemT, setRange, regionL_none, regionL_some, List.lookup]
 rw [dec_pos g1] at c4
 by_cases g2 : aF t2
 rotate_left
 ·rw [dec_neg g2] at c5
  simp [dh, Tryz.f137, o1, o2, o3, o4, o5, od, oa, c0, c1, c2, c3, c4, c5, dec_neg (P := NameOk t1 ∧ aF t2 ∧ aF t3) (fun h => g2 h.2.1), fillL, zerosL, buildV, structPlace, elemT, setRange, regionL_none, regionL_some, List.lookup]
 rw [dec_pos g2] at c5
 by_cases g3 : aF t3
 rotate_left
 ·rw [dec_neg g3] at c6
  simp [dh, Tryz.f137, o1, o2, o3, o4, o5, od, oa, c0, c1, c2, c3, c4, c5, c6, dec_neg (P := NameOk t1 ∧ aF t2 ∧ aF t3) (fun h => g3 h.2.2), fillL, zerosL, buildV, structPlace, elemT, setRange, regionL_none, regionL_some, List.lookup]
 rw [dec_pos g3] at c6
 simp [dh, Tryz.f137, o1, o2, o3, o4, o5, od, oa, c0, c1, c2, c3, c4, c5, c6, dec_pos (P := NameOk t1 ∧ aF t2 ∧ aF t3) ⟨g1, g2, g3⟩, fillL, zerosL, buildV, structPlace, elemT, setRange, regionL_none, regionL_some, List.lookup]
theorem Es {H : List Ob} {ide eo : Nat} {vb vf vl vm vp vd va : V} {f : PFlow} {e : PEntry} (h1 : ARdns H vb f.base) (h2 : ANodes H vf f.filter) (h3 : AParts H vl f.login) (h4 : AParts H vm f.mail) (h5 : AParts H vp f.phone) (heE : At2 H ide eo vd va) (hd : ARdns H vd e.dn) (ha : AAttrs H va e.attrs) (gf : ai f) (he : EntryOk e) :
  callW C 152 [.agg [vb, vf, vl, vm, vp, .bool f.back], .ptr (some (ide, eo))] H = some (.agg (dA f e).cs, H) := by
 apply Ret.eq
 rw [Hy]
 have o1 := h1.one
 have o2 := h2.one
 have o3 := h3.one
 have o4 := h4.one
 have o5 := h5.one
 have hidl := heE.lt
 have od := hd.one
 have ld := heE.ld0
 have c0 := xu hd he.2.1
 have c1 := fZ h3 heE ha he gf.2.2.1 (gQ he gf.2.2.1)
 have c2 := fZ h4 heE ha he gf.2.2.2.1 (gQ he gf.2.2.2.1)
 have c3 := fZ h5 heE ha he gf.2.2.2.2.1 (gQ he gf.2.2.2.2.1)
 have c4 := ig (t := (bJ f.login e).1) (H := H)
 have c5 := Dz (t := (bJ f.mail e).1) (H := H)
 have c6 := Dz (t := (bJ f.phone e).1) (H := H)
 unfold dA
 generalize (bJ f.login e) = x1 at c1 c4 ⊢
 generalize (bJ f.mail e) = x2 at c2 c5 ⊢
 generalize (bJ f.phone e) = x3 at c3 c6 ⊢
 obtain ⟨t1, b1⟩ := x1
 obtain ⟨t2, b2⟩ := x2
 obtain ⟨t3, b3⟩ := x3
 simp only at c1 c2 c3 c4 c5 c6 ⊢
 cases b1 with
 | false =>
  simp at c1
  cases b2 <;> cases b3 <;> simp at c2 c3 <;> simp [dm, Tryz.f152, o1, o2, o3, o4, o5, hidl, od, ld, c0, c1, c2, c3, fillL, zerosL, St.new, buildV, structPlace, elemT, setRange, regionL_none, regionL_some, List.lookup]
 | true =>
 simp at c1
 cases b2 with
 | false =>
  simp at c2
  cases b3 <;> simp at c3 <;> simp [dm, Tryz.f152, o1, o2, o3, o4, o5, hidl, od, ld, c0, c1, c2, c3, fillL, zerosL, St.new, buildV, structPlace, elemT, setRange, regionL_none, regionL_some, List.lookup]
 | true =>
 simp at c2
 cases b3 with
 | false =>
  simp at c3
  simp [dm, Tryz.f152, o1, o2, o3, o4, o5, hidl, od, ld, c0, c1, c2, c3, fillL, zerosL, St.new, buildV, structPlace, elemT, setRange, regionL_none, regionL_some, List.lookup]
 | true =>
 simp at c3
 by_cases g1 : NameOk t1
 rotate_left
 ·rw [dec_neg g1] at c4
  simp [dm, Tryz.f152, o1, o2, o3, o4, o5, hidl, od, ld, c0, c1, c2, c3, c4, dec_neg (P := NameOk t1 ∧ aF t2 ∧ aF t3) (fun h => g1 h.1), fillL, zerosL, St.new, buildV, structPlace, elemT, setRange, regionL_none, regionL_some, List.lookup]
 rw [dec_pos g1] at c4
 by_cases g2 : aF t2
 rotate_left
 ·rw [dec_neg g2] at c5
  simp [dm, Tryz.f152, o1, o2, o3, o4, o5, hidl, od, ld, c0, c1, c2, c3, c4, c5, dec_neg (P := NameOk t1 ∧ aF t2 ∧ aF t3) (fun h => g2 h.2.1), fillL, zerosL, St.new, buildV, structPlace, elemT, setRange, regionL_none, regionL_some, List.lookup]
 rw [dec_pos g2] at c5
 by_cases g3 : aF t3
 rotate_left
 ·rw [dec_neg g3] at c6
  simp [dm, Tryz.f152, o1, o2, o3, o4, o5, hidl, od, ld, c0, c1, c2, c3, c4, c5, c6, dec_neg (P := NameOk t1 ∧ aF t2 ∧ aF t3) (fun h => g3 h.2.2), fillL, zerosL, St.new, buildV, structPlace, elemT, setRange, regionL_none, regionL_some, List.lookup]
 rw [dec_pos g3] at c6
 simp [dm, Tryz.f152, o1, o2, o3, o4, o5, hidl, od, ld, c0, c1, c2, c3, c4, c5, c6, dec_pos (P := NameOk t1 ∧ aF t2 ∧ aF t3) ⟨g1, g2, g3⟩, fillL, zerosL, St.new, buildV, structPlace, elemT, setRange, regionL_none, regionL_some, List.lookup]
def fK (f : PFlow) (e : PEntry) (known : List Str) : Prop := bW f.filter e.attrs known ∧ iH e.dn f.base
theorem ER {H : List Ob} {vb vf vl vm vp vd va vk : V} {f : PFlow} {e : PEntry} {known : List Str} (h1 : ARdns H vb f.base) (h2 : ANodes H vf f.filter) (h3 : AParts H vl f.login) (h4 : AParts H vm f.mail) (h5 : AParts H vp f.phone)
  (hd : ARdns H vd e.dn) (ha : AAttrs H va e.attrs) (hk : AStrs H vk known) (hf : ai f) (he : EntryOk e) :
  callW C 136 [.agg [vb, vf, vl, vm, vp, .bool f.back], .agg [vd, va], vk] H = some (.bool (dec (fK f e known)), H) := by
 apply Ret.dec
 rw [Ib]
 have o1 := h1.one
 have o2 := h2.one
 have o3 := h3.one
 have o4 := h4.one
 have o5 := h5.one
 have od := hd.one
 have oa := ha.one
 obtain ⟨q, hq, hs⟩ := sG hf.2.1 e.attrs known
 have c1 := zh h2 (by have := hf.2.1.1; omega) ha hk hd.one.2 hd.one.1 5 0 q hq
 have c2 := Bi hd h1 he.2.1 hf.1 he.1
 simp only [Int.natCast_zero] at c1
 by_cases g1 : bW f.filter e.attrs known
 ·have e1 := hs.2 g1
  by_cases g2 : iH e.dn f.base
  ·rw [dec_pos g2] at c2
   have hy : fK f e known := ⟨g1, g2⟩
   simp [jI, Tryz.f136, o1, o2, o3, o4, o5, od, oa, c1, c2, e1, hy, fillL, zerosL, regionL_none, regionL_some, List.lookup]
  ·rw [dec_neg g2] at c2
   have hn : ¬ fK f e known := fun h => g2 h.2
   simp [jI, Tryz.f136, o1, o2, o3, o4, o5, od, oa, c1, c2, e1, hn, fillL, zerosL, regionL_none, regionL_some, List.lookup]
 ·have e1 : ¬ q.1 = 1 := fun h => g1 (hs.1 h)
  have hn : ¬ fK f e known := fun h => g1 h.1
  simp [jI, Tryz.f136, o1, o2, o3, o4, o5, od, oa, c1, e1, hn, fillL, zerosL, regionL_none, regionL_some, List.lookup]
theorem zg {H : List Ob} {vb vf vl vm vp vd va vk : V} {f : PFlow} {e : PEntry} {known : List Str} {ide eo : Nat} (hp : At2 H ide eo vd va) (h1 : ARdns H vb f.base) (h2 : ANodes H vf f.filter) (h3 : AParts H vl f.login) (h4 : AParts H vm f.mail) (h5 : AParts H vp f.phone)
  (hd : ARdns H vd e.dn) (ha : AAttrs H va e.attrs) (hk : AStrs H vk known) (hf : ai f) (he : EntryOk e) :
  callW C 151 [.agg [vb, vf, vl, vm, vp, .bool f.back], .ptr (some (ide, eo)), vk] H = some (.bool (dec (fK f e known)), H) := by
 apply Ret.dec
 rw [JL]
 have o1 := h1.one
 have o2 := h2.one
 have o3 := h3.one
 have o4 := h4.one
 have o5 := h5.one
 have ld := hp.ld0
 have hide : ide < H.length := hp.lt
 obtain ⟨q, hq, hs⟩ := sG hf.2.1 e.attrs known
 have c1 := xC (f := f.filter) (by have := hf.2.1.1; omega) (by have := he.2.2.2; omega) (EntryOk.rise he) 5 0 vf H q hq (by simpa using h2) hp ha hk
 have c2 := wU hd h1 he.2.1 hf.1 he.1
 by_cases g2 : iH e.dn f.base
 rotate_left
 ·rw [dec_neg g2] at c2
  have hn : ¬ fK f e known := fun h => g2 h.2
  simp [jM, Tryz.f151, o1, o2, o3, o4, o5, ld, hide, c2, hn, fillL, zerosL, regionL_none, regionL_some, List.lookup]
 rw [dec_pos g2] at c2
 by_cases g1 : bW f.filter e.attrs known
 ·have e1 := hs.2 g1
  have hy : fK f e known := ⟨g1, g2⟩
  simp [jM, Tryz.f151, o1, o2, o3, o4, o5, ld, hide, c1, c2, e1, hy, fillL, zerosL, regionL_none, regionL_some, List.lookup]
 ·have e1 : ¬ q.1 = 1 := fun h => g1 (hs.1 h)
  have hn : ¬ fK f e known := fun h => g1 h.1
  simp [jM, Tryz.f151, o1, o2, o3, o4, o5, ld, hide, c1, c2, e1, hn, fillL, zerosL, regionL_none, regionL_some, List.lookup]
theorem TreeOk.small2 {t : PTree} (h : TreeOk t) : (∀ c ∈ t.schema, c.must.length ≤ 10 ∧ c.may.length ≤ 10) ∧ t.schema.length ≤ 6 := by
 refine ⟨fun c hc => ?_, h.1.2⟩
 obtain ⟨j, hj, rfl⟩ := List.getElem_of_mem hc
 have hc := (h.1.1 j _ (List.getElem?_eq_getElem hj)).1
 exact ⟨hc.l1, hc.l2⟩
end Go.Proofs.Try1
end
