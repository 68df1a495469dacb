/- Part 10 of the proof of a law: the interpreter, its soundness, and what functions of the program compute over it. Conditions: none but those that each theorem names. -/
import Derived.Test.YtipjjjlomghdfaaGreatDoorU09
import Derived.Test.YtipjjjlomghdfaaGreatDoorU06
import Derived.Test.YtipjjjlomghdfaaGreatDoorU07

set_option linter.all false
set_option maxRecDepth 20000
set_option maxHeartbeats 40000000
section
namespace Go.Lite
open Go
inductive Esc : Str → Str → Prop
 | nil : Esc [] []
 | mark (c : UInt8) {w v : Str} : Esc w v → Esc (92 :: c :: w) (c :: v)
 | plain (c : UInt8) {w v : Str} : c ≠ 44 → c ≠ 92 → Esc w v → Esc (c :: w) (c :: v)
theorem Esc.snoc {w v : Str} (h : Esc w v) (c : UInt8) (m : Bool) (hc : m = false → c ≠ 44 ∧ c ≠ 92) : Esc (w ++ if m = true then [92, c] else [c]) (v ++ [c]) := by
 induction h with
 | nil => cases m with
  | true => exact .mark c .nil
  | false => exact .plain c (hc rfl).1 (hc rfl).2 .nil
 | mark d h ih => exact .mark d ih
 | plain d h1 h2 h ih => exact .plain d h1 h2 ih
theorem esc_take (t : Str) : ∀ n, n ≤ t.length → Esc (escN t n) (t.take n)
 | 0, _ => by simpa [escN] using Esc.nil
 | n + 1, h => by
  have hn : n < t.length := by omega
  have e : t[n]? = some t[n] := List.getElem?_eq_getElem hn
  have := (esc_take t n (by omega)).snoc t[n] (oddAt t n t[n]) (fun hm => by
   unfold oddAt oddC at hm
   constructor
   ·intro hh; rw [hh] at hm; simp at hm
   ·intro hh; rw [hh] at hm; simp at hm)
  have e1 : escN t (n + 1) = escN t n ++ if oddAt t n t[n] = true then [92, t[n]] else [t[n]] := by
   show escN t n ++ escB t n = _
   unfold escB
   rw [e]
  rw [e1, List.take_add_one, e]
  exact this
theorem esc_esc (t : Str) : Esc (esc t) t := by
 have := esc_take t t.length (Nat.le_refl _)
 rwa [List.take_length] at this
def cutG : Str → Str → List Str
 | b, [] => [b]
 | b, [c] => if c = 44 then [b, []] else [b ++ [c]]
 | b, c :: d :: t => if c = 92 then cutG (b ++ [c, d]) t else if c = 44 then b :: cutG [] (d :: t) else cutG (b ++ [c]) (d :: t)
def bare : Str → Str
 | [] => []
 | [c] => [c]
 | c :: d :: t => if c = 92 then d :: bare t else c :: bare (d :: t)
theorem bare_esc {w v : Str} (h : Esc w v) : bare w = v := by
 induction h with
 | nil => rfl
 | mark c h ih => simp [bare, ih]
 | plain c h1 h2 h ih =>
  rename_i w v
  cases w with
  | nil => cases h; rfl
  | cons d w => simp only [bare, if_neg h2, ih]
theorem cut_step {b t : Str} {c : UInt8} (h1 : c ≠ 44) (h2 : c ≠ 92) : cutG b (c :: t) = cutG (b ++ [c]) t := by
 cases t with
 | nil => simp [cutG, h1]
 | cons d t => simp [cutG, h1, h2]
theorem cut_comma {b t : Str} : cutG b (44 :: t) = b :: cutG [] t := by
 cases t with
 | nil => simp [cutG]
 | cons d t => simp [cutG]
theorem cut_esc {w v : Str} (h : Esc w v) : ∀ (b rest : Str), cutG b (w ++ rest) = cutG (b ++ w) rest := by
 induction h with
 | nil => intro b rest; simp
 | mark c h ih => intro b rest; simp only [List.cons_append, cutG, if_true]; rw [ih]; simp
 | plain c h1 h2 h ih => intro b rest; rw [List.cons_append, cut_step h1 h2, ih]; simp
theorem cut_name : ∀ (n : Str), (∀ c ∈ n, c ≠ 44 ∧ c ≠ 92) → ∀ (b rest : Str), cutG b (n ++ rest) = cutG (b ++ n) rest
 | [], _, b, rest => by simp
 | c :: n, h, b, rest => by
  rw [List.cons_append, cut_step (h c (by simp)).1 (h c (by simp)).2, cut_name n (fun d hd => h d (by simp [hd]))]
  simp
def pieceT (r : PRdn) : Str := r.attr ++ [61] ++ esc r.value
def txtL : List PRdn → Str
 | [] => []
 | [r] => pieceT r
 | r :: s :: p => pieceT r ++ [44] ++ txtL (s :: p)
theorem name_bytes {n : Str} (h : NameOk n) : ∀ c ∈ n, c ≠ 44 ∧ c ≠ 92 ∧ c ≠ 61 := fun c hc => by
 obtain ⟨i, hi, rfl⟩ := List.getElem_of_mem hc
 have := h.2.2 i _ (List.getElem?_eq_getElem hi)
 refine ⟨fun e => ?_, fun e => ?_, fun e => ?_⟩ <;> (rw [e] at this; simp [LowB, DigB] at this)
theorem cut_piece {r : PRdn} (hn : NameOk r.attr) (rest : Str) : cutG [] (pieceT r ++ rest) = cutG (pieceT r) rest := by
 unfold pieceT
 rw [List.append_assoc, List.append_assoc, cut_name _ (fun c hc => ⟨(name_bytes hn c hc).1, (name_bytes hn c hc).2.1⟩), List.singleton_append, cut_step (by decide) (by decide), cut_esc (esc_esc _)]
 simp
theorem cut_txtL : ∀ (p : List PRdn), (∀ r ∈ p, NameOk r.attr) → p ≠ [] → cutG [] (txtL p) = p.map pieceT
 | [], _, h => absurd rfl h
 | [r], hn, _ => by
  have := cut_piece (hn r (by simp)) []
  rw [List.append_nil] at this
  simp only [txtL, this, cutG, List.map_cons, List.map_nil]
 | r :: s :: p, hn, _ => by
  simp only [txtL]
  rw [List.append_assoc, cut_piece (hn r (by simp)), List.singleton_append, cut_comma, cut_txtL (s :: p) (fun x hx => hn x (List.mem_cons_of_mem _ hx)) (by simp)]
  rfl
def splitEq : Str → Option (Str × Str)
 | [] => none
 | c :: t => if c = 61 then some ([], t) else (splitEq t).map fun q => (c :: q.1, q.2)
def rdnS (t : Str) : PRdn := match splitEq t with
 | none => ⟨[], []⟩
 | some q => ⟨q.1, bare q.2⟩
theorem split_name : ∀ (n w : Str), (∀ c ∈ n, c ≠ 61) → splitEq (n ++ 61 :: w) = some (n, w)
 | [], w, _ => by simp [splitEq]
 | c :: n, w, h => by
  rw [List.cons_append]
  unfold splitEq
  rw [if_neg (h c (by simp)), split_name n w (fun d hd => h d (by simp [hd]))]
  rfl
theorem rdn_piece {r : PRdn} (hn : NameOk r.attr) : rdnS (pieceT r) = r := by
 unfold rdnS pieceT
 rw [List.append_assoc, List.singleton_append, split_name _ _ (fun c hc => (name_bytes hn c hc).2.2)]
 simp only [bare_esc (esc_esc _)]
def readS (t : Str) : List PRdn := if t = [] then [] else (cutG [] t).map rdnS
theorem txtL_snoc : ∀ (p : List PRdn) (r : PRdn), txtL (p ++ [r]) = (if p = [] then pieceT r else txtL p ++ [44] ++ pieceT r)
 | [], r => by simp [txtL]
 | [a], r => by simp [txtL]
 | a :: b :: p, r => by
  have ih := txtL_snoc (b :: p) r
  simp only [List.cons_append, txtL, if_neg (List.cons_ne_nil _ _)] at ih ⊢
  rw [ih]
  simp
theorem txtN_txtL (dn : List PRdn) : ∀ n, n ≤ dn.length → txtN dn n = txtL (dn.take n)
 | 0, _ => by simp [txtN, txtL]
 | n + 1, h => by
  have hn : n < dn.length := by omega
  have e : dn[n]? = some dn[n] := List.getElem?_eq_getElem hn
  show txtN dn n ++ txtB dn n = _
  rw [txtN_txtL dn n (by omega), List.take_add_one, e]
  simp only [Option.toList_some]
  rw [txtL_snoc]
  unfold txtB
  rw [e]
  by_cases h0 : n = 0
  ·subst h0; simp [txtL, pieceT]
  ·have h1 : ¬ dn.take n = [] := fun hh => by
    have := congrArg List.length hh
    rw [List.length_take, List.length_nil] at this
    omega
   rw [if_neg h1]
   have h2 : 0 < n := by omega
   simp [h2, pieceT]
theorem txt_txtL (dn : List PRdn) : txt dn = txtL dn := by
 have := txtN_txtL dn dn.length (Nat.le_refl _)
 rwa [List.take_length] at this
theorem txtL_ne {dn : List PRdn} (h : dn ≠ []) : txtL dn ≠ [] := by
 match dn, h with
 | [r], _ => simp [txtL, pieceT]
 | r :: s :: p, _ => simp [txtL, pieceT]
theorem readS_txt {dn : List PRdn} (hn : ∀ r ∈ dn, NameOk r.attr) : readS (txt dn) = dn := by
 rw [txt_txtL]
 unfold readS
 by_cases h : dn = []
 ·subst h; rfl
 ·rw [if_neg (txtL_ne h), cut_txtL dn hn h, List.map_map]
  conv => rhs; rw [← List.map_id dn]
  exact List.map_congr_left fun r hr => rdn_piece (hn r hr)
def readG : List PRdn → PRdn → Bool → Str → List PRdn
 | out, now, _, [] => out ++ [now]
 | out, now, false, c :: t => if c = 61 then readG out now true t else readG out ⟨now.attr ++ [c], now.value⟩ false t
 | out, now, true, [c] => if c = 44 then out ++ [now] ++ [⟨[], []⟩] else out ++ [⟨now.attr, now.value ++ [c]⟩]
 | out, now, true, c :: d :: t => if c = 44 then readG (out ++ [now]) ⟨[], []⟩ false (d :: t) else if c = 92 then readG out ⟨now.attr, now.value ++ [d]⟩ true t else readG out ⟨now.attr, now.value ++ [c]⟩ true (d :: t)
def readI (t : Str) : List PRdn := if t = [] then [] else readG [] ⟨[], []⟩ false t
theorem read_name : ∀ (n : Str), (∀ c ∈ n, c ≠ 61) → ∀ out now rest, readG out now false (n ++ rest) = readG out ⟨now.attr ++ n, now.value⟩ false rest
 | [], _, out, now, rest => by simp
 | c :: n, h, out, now, rest => by
  rw [List.cons_append]
  conv => lhs; unfold readG
  rw [if_neg (h c (by simp)), read_name n (fun d hd => h d (by simp [hd]))]
  simp
theorem read_plain {c : UInt8} (h1 : c ≠ 44) (h2 : c ≠ 92) (out now t) : readG out now true (c :: t) = readG out ⟨now.attr, now.value ++ [c]⟩ true t := by
 cases t with
 | nil => simp [readG, h1]
 | cons d t => simp [readG, h1, h2]
theorem read_comma (out now t) : readG out now true (44 :: t) = readG (out ++ [now]) ⟨[], []⟩ false t := by
 cases t with
 | nil => simp [readG]
 | cons d t => simp [readG]
theorem read_esc {w v : Str} (h : Esc w v) : ∀ out now rest, readG out now true (w ++ rest) = readG out ⟨now.attr, now.value ++ v⟩ true rest := by
 induction h with
 | nil => intro out now rest; simp
 | mark c h ih =>
  intro out now rest
  simp only [List.cons_append]
  conv => lhs; unfold readG
  rw [if_neg (by decide), if_pos rfl, ih]
  simp
 | plain c h1 h2 h ih =>
  intro out now rest
  rw [List.cons_append, read_plain h1 h2, ih]
  simp
theorem read_piece {r : PRdn} (hn : NameOk r.attr) (out rest) : readG out ⟨[], []⟩ false (pieceT r ++ rest) = readG out r true rest := by
 unfold pieceT
 rw [List.append_assoc, List.append_assoc, read_name _ (fun c hc => (name_bytes hn c hc).2.2), List.singleton_append]
 conv => lhs; unfold readG
 rw [if_pos rfl, read_esc (esc_esc _)]
 simp
theorem read_txtL : ∀ (p : List PRdn), (∀ r ∈ p, NameOk r.attr) → p ≠ [] → ∀ out, readG out ⟨[], []⟩ false (txtL p) = out ++ p
 | [], _, h, _ => absurd rfl h
 | [r], hn, _, out => by
  have := read_piece (hn r (by simp)) out []
  rw [List.append_nil] at this
  simp only [txtL, this, readG]
 | r :: s :: p, hn, _, out => by
  simp only [txtL]
  rw [List.append_assoc, read_piece (hn r (by simp)), List.singleton_append, read_comma, read_txtL (s :: p) (fun x hx => hn x (List.mem_cons_of_mem _ hx)) (by simp)]
  simp
theorem readI_txt {dn : List PRdn} (hn : ∀ r ∈ dn, NameOk r.attr) : readI (txt dn) = dn := by
 rw [txt_txtL]
 unfold readI
 by_cases h : dn = []
 ·subst h; rfl
 ·rw [if_neg (txtL_ne h), read_txtL dn hn h]
  simp
theorem read_both {t : Str} : (DnOk (readS t) ∧ txt (readS t) = t) ↔ (DnOk (readI t) ∧ txt (readI t) = t) := by
 constructor
 ·rintro ⟨h1, h2⟩
  have : readI t = readS t := by
   conv => lhs; rw [← h2]
   exact readI_txt fun r hr => by
    obtain ⟨j, hj, rfl⟩ := List.getElem_of_mem hr
    exact (h1.1 j _ (List.getElem?_eq_getElem hj)).1
  rw [this]; exact ⟨h1, h2⟩
 ·rintro ⟨h1, h2⟩
  have : readS t = readI t := by
   conv => lhs; rw [← h2]
   exact readS_txt fun r hr => by
    obtain ⟨j, hj, rfl⟩ := List.getElem_of_mem hr
    exact (h1.1 j _ (List.getElem?_eq_getElem hj)).1
  rw [this]; exact ⟨h1, h2⟩
theorem read_same {t : Str} (h : DnOk (readS t) ∧ txt (readS t) = t) : readI t = readS t := by
 conv => lhs; rw [← h.2]
 exact readI_txt fun r hr => by
  obtain ⟨j, hj, rfl⟩ := List.getElem_of_mem hr
  exact (h.1.1 j _ (List.getElem?_eq_getElem hj)).1
theorem cut_len (b t : Str) : (cutG b t).length ≤ t.length + 1 := by
 induction b, t using cutG.induct with
 | case1 b => simp [cutG]
 | case2 b => simp [cutG]
 | case3 b c h => simp [cutG, h]
 | case4 b d t ih => rw [cutG, if_pos rfl]; simp at ih ⊢; omega
 | case5 b d t h ih => rw [cutG, if_neg h, if_pos rfl]; simp at ih ⊢; omega
 | case6 b c d t h1 h2 ih => rw [cutG, if_neg h1, if_neg h2]; simp at ih ⊢; omega
theorem cut_bound (b t : Str) : ∀ s ∈ cutG b t, s.length ≤ b.length + t.length := by
 induction b, t using cutG.induct with
 | case1 b => intro s hs; simp [cutG] at hs; subst hs; simp
 | case2 b => intro s hs; simp [cutG] at hs; rcases hs with rfl | rfl <;> simp
 | case3 b c h => intro s hs; simp [cutG, h] at hs; subst hs; simp
 | case4 b d t ih => intro s hs; rw [cutG, if_pos rfl] at hs; have := ih s hs; simp at this ⊢; omega
 | case5 b d t h ih =>
  intro s hs
  rw [cutG, if_neg h, if_pos rfl] at hs
  rcases List.mem_cons.1 hs with rfl | hs
  ·simp
  ·have := ih s hs; simp at this ⊢; omega
 | case6 b c d t h1 h2 ih => intro s hs; rw [cutG, if_neg h1, if_neg h2] at hs; have := ih s hs; simp at this ⊢; omega
theorem bare_len (w : Str) : (bare w).length ≤ w.length := by
 induction w using bare.induct with
 | case1 => simp [bare]
 | case2 c => simp [bare]
 | case3 d t ih => rw [bare, if_pos rfl]; simp; omega
 | case4 c d t h ih => rw [bare, if_neg h]; simp at ih ⊢; omega
theorem splitEq_len : ∀ (t : Str) q, splitEq t = some q → q.1.length ≤ t.length ∧ q.2.length ≤ t.length
 | [], q, h => by cases h
 | c :: t, q, h => by
  unfold splitEq at h
  split at h
  ·cases h; simp
  ·cases hs : splitEq t with
   | none => rw [hs] at h; cases h
   | some p =>
    rw [hs] at h
    cases h
    have := splitEq_len t p hs
    simp
    omega
theorem rdnS_len (t : Str) : (rdnS t).attr.length ≤ t.length ∧ (rdnS t).value.length ≤ t.length := by
 unfold rdnS
 cases h : splitEq t with
 | none => simp
 | some q =>
  have h1 := splitEq_len t q h
  have h2 := bare_len q.2
  simp
  omega
theorem readS_len {t : Str} : (readS t).length ≤ t.length + 1 := by
 unfold readS
 split
 ·simp
 ·have := cut_len [] t
  simp
  exact this
def ReadOk (t : Str) : Prop := DnOk (readS t) ∧ txt (readS t) = t
def ReadOkI (t : Str) : Prop := DnOk (readI t) ∧ txt (readI t) = t
theorem readOk_iff {t : Str} : ReadOk t ↔ ReadOkI t := read_both
theorem readOk_nil : ReadOk [] := by
 have e : readS [] = [] := rfl
 exact ⟨by rw [e]; exact ⟨fun i r h => by simp at h, by simp⟩, by rw [e]; rfl⟩
theorem readG_eq {out : List PRdn} {now : PRdn} {t : Str} : readG out now false (61 :: t) = readG out now true t := by
 conv => lhs; unfold readG
 rw [if_pos rfl]
theorem readG_name {out : List PRdn} {now : PRdn} {c : UInt8} {t : Str} (h : c ≠ 61) : readG out now false (c :: t) = readG out ⟨now.attr ++ [c], now.value⟩ false t := by
 conv => lhs; unfold readG
 rw [if_neg h]
theorem readG_mark {out : List PRdn} {now : PRdn} {d : UInt8} {t : Str} : readG out now true (92 :: d :: t) = readG out ⟨now.attr, now.value ++ [d]⟩ true t := by
 conv => lhs; unfold readG
 rw [if_neg (by decide), if_pos rfl]
theorem readG_one {out : List PRdn} {now : PRdn} {c : UInt8} (h : c ≠ 44) : readG out now true [c] = readG out ⟨now.attr, now.value ++ [c]⟩ true [] := by
 conv => lhs; unfold readG
 rw [if_neg h]
 rfl
theorem readG_nil {out : List PRdn} {now : PRdn} {b : Bool} : readG out now b [] = out ++ [now] := by
 unfold readG
 cases b <;> rfl
theorem drop_cons {t : Str} {i : Nat} {c : UInt8} (h : t[i]? = some c) : t.drop i = c :: t.drop (i + 1) := by
 obtain ⟨hi, rfl⟩ := List.getElem?_eq_some_iff.1 h
 exact List.drop_eq_getElem_cons hi
theorem piece_one {t : Str} {i : Nat} {c : UInt8} (h : t[i]? = some c) : (t.take (i + 1)).drop i = [c] := by
 obtain ⟨hi, rfl⟩ := List.getElem?_eq_some_iff.1 h
 rw [List.take_add_one, List.getElem?_eq_getElem hi, Option.toList_some, List.drop_append_of_le_length (by simp; omega), List.drop_of_length_le (by simp; omega), List.nil_append]
section
variable {H : List Ob} {fs gs : List Sh} {cs : List V} {u : U} {us : List U}
theorem At_un : At H (.st fs) cs (.st us) ↔ Ats H fs cs us := by
 rw [At_st]
 exact ⟨fun ⟨_, h1, h2⟩ => by cases h1; exact h2, fun h => ⟨_, rfl, h⟩⟩
theorem Ats_str {s : Str} : Ats H (.str :: fs) cs (.str s :: us) ↔ ∃ c, cs = .str s :: c ∧ s.length ≤ maxLen ∧ Ats H fs c us := by
 rw [Ats_cons]
 constructor
 ·rintro ⟨c1, c2, u1, us1, rfl, hu, h1, h2⟩
  cases hu
  obtain ⟨_, rfl, hs, hl⟩ := At_str.1 h1
  cases hs
  exact ⟨c2, rfl, hl, h2⟩
 ·rintro ⟨c, rfl, hl, h⟩
  exact ⟨[_], c, _, _, rfl, rfl, At_str.2 ⟨_, rfl, rfl, hl⟩, h⟩
theorem Ats_int {k : IntKind} {n : Int} : Ats H (.int k :: fs) cs (.int n :: us) ↔ ∃ c, cs = .int k n :: c ∧ (Lit.int k n).wf = true ∧ Ats H fs c us := by
 rw [Ats_cons]
 constructor
 ·rintro ⟨c1, c2, u1, us1, rfl, hu, h1, h2⟩
  cases hu
  obtain ⟨_, rfl, hs, hl⟩ := At_int.1 h1
  cases hs
  exact ⟨c2, rfl, hl, h2⟩
 ·rintro ⟨c, rfl, hl, h⟩
  exact ⟨[_], c, _, _, rfl, rfl, At_int.2 ⟨_, rfl, rfl, hl⟩, h⟩
theorem Ats_bool {b : Bool} : Ats H (.bool :: fs) cs (.bool b :: us) ↔ ∃ c, cs = .bool b :: c ∧ Ats H fs c us := by
 rw [Ats_cons]
 constructor
 ·rintro ⟨c1, c2, u1, us1, rfl, hu, h1, h2⟩
  cases hu
  obtain ⟨_, rfl, hs⟩ := At_bool.1 h1
  cases hs
  exact ⟨c2, rfl, h2⟩
 ·rintro ⟨c, rfl, h⟩
  exact ⟨[_], c, _, _, rfl, rfl, At_bool.2 ⟨_, rfl, rfl⟩, h⟩
theorem Ats_slc {e : Sh} : Ats H (.slice e :: fs) cs (u :: us) ↔ ∃ v c, cs = v :: c ∧ At H (.slice e) [v] u ∧ Ats H fs c us := by
 rw [Ats_cons]
 constructor
 ·rintro ⟨c1, c2, u1, us1, rfl, hu, h1, h2⟩
  cases hu
  obtain ⟨v, _, rfl, _⟩ := At_slice.1 h1
  exact ⟨v, c2, rfl, h1, h2⟩
 ·rintro ⟨v, c, rfl, h1, h2⟩
  exact ⟨[v], c, _, _, rfl, rfl, h1, h2⟩
theorem Ats_sub : Ats H (.st gs :: fs) cs (u :: us) ↔ ∃ c1 c, cs = c1 ++ c ∧ At H (.st gs) c1 u ∧ Ats H fs c us := by
 rw [Ats_cons]
 constructor
 ·rintro ⟨c1, c2, u1, us1, rfl, hu, h1, h2⟩
  cases hu
  exact ⟨c1, c2, rfl, h1, h2⟩
 ·rintro ⟨c1, c, rfl, h1, h2⟩
  exact ⟨c1, c, _, _, rfl, rfl, h1, h2⟩
theorem Ats_end : Ats H [] cs [] ↔ cs = [] := by rw [Ats_nil]; simp
theorem Ats_strT (h : Ats H (.str :: fs) cs us) : ∃ s us' c, us = .str s :: us' ∧ Ats H fs c us' := by
 obtain ⟨c1, c2, u1, us1, rfl, rfl, h1, h2⟩ := Ats_cons.1 h
 obtain ⟨s, rfl, rfl, hl⟩ := At_str.1 h1
 exact ⟨s, us1, c2, rfl, h2⟩
theorem Ats_intT {k : IntKind} (h : Ats H (.int k :: fs) cs us) : ∃ n us' c, us = .int n :: us' ∧ Ats H fs c us' := by
 obtain ⟨c1, c2, u1, us1, rfl, rfl, h1, h2⟩ := Ats_cons.1 h
 obtain ⟨s, rfl, rfl, hl⟩ := At_int.1 h1
 exact ⟨s, us1, c2, rfl, h2⟩
theorem Ats_boolT (h : Ats H (.bool :: fs) cs us) : ∃ b us' c, us = .bool b :: us' ∧ Ats H fs c us' := by
 obtain ⟨c1, c2, u1, us1, rfl, rfl, h1, h2⟩ := Ats_cons.1 h
 obtain ⟨s, rfl, rfl⟩ := At_bool.1 h1
 exact ⟨s, us1, c2, rfl, h2⟩
theorem Ats_slcT {α : Type} {f : α → U} {e : Sh} (hf : ∀ cs u, At H e cs u → ∃ x : α, u = f x) (h : Ats H (.slice e :: fs) cs us) : ∃ (l : List α) (us' : List U) (c : List V), us = .lst (l.map f) :: us' ∧ Ats H fs c us' := by
 obtain ⟨c1, c2, u1, us1, rfl, rfl, h1, h2⟩ := Ats_cons.1 h
 obtain ⟨v, l, rfl, rfl, _⟩ := ASl.typed hf h1
 exact ⟨l, us1, c2, rfl, h2⟩
theorem Ats_subT {α : Type} {f : α → U} {e : Sh} (hf : ∀ cs u, At H e cs u → ∃ x : α, u = f x) (h : Ats H (e :: fs) cs us) : ∃ (x : α) (us' : List U) (c : List V), us = f x :: us' ∧ Ats H fs c us' := by
 obtain ⟨c1, c2, u1, us1, rfl, rfl, h1, h2⟩ := Ats_cons.1 h
 obtain ⟨x, rfl⟩ := hf _ _ h1
 exact ⟨x, us1, c2, rfl, h2⟩
theorem str_typed {cs : List V} {u : U} (h : At H .str cs u) : ∃ x : Str, u = strU x := by obtain ⟨s, _, rfl, _⟩ := At_str.1 h; exact ⟨s, rfl⟩
end
abbrev shRule : Sh := .st [.str, .slice shRdn, .slice .str, .int .i64, .bool]
abbrev shChange : Sh := .st [.int .i64, .int .i64, .str, shEntry]
abbrev shChanges : Sh := .st [.int .i64, .slice shChange]
abbrev shServer : Sh := .st [shTree, .slice shRule, shChanges, .str]
abbrev shRow : Sh := .st [.int .i64, .str, .str, .str, .bool, .int .i64, .bool]
structure PRule where
 who : Str
 base : List PRdn
 attrs : List Str
 right : Int
 allow : Bool
def PRule.u (r : PRule) : U := .st [.str r.who, .lst (r.base.map PRdn.u), .lst (r.attrs.map strU), .int r.right, .bool r.allow]
structure PChange where
 number : Int
 kind : Int
 dn : Str
 entry : PEntry
def PChange.u (x : PChange) : U := .st [.int x.number, .int x.kind, .str x.dn, x.entry.u]
structure PServer where
 tree : PTree
 acl : List PRule
 next : Int
 list : List PChange
 who : Str
def PServer.u (s : PServer) : U := .st [s.tree.u, .lst (s.acl.map PRule.u), .st [.int s.next, .lst (s.list.map PChange.u)], .str s.who]
structure PRow where
 id : Int
 login : Str
 mail : Str
 phone : Str
 on : Bool
 usn : Int
 gone : Bool
abbrev PRow.cs (r : PRow) : List V := [.int .i64 r.id, .str r.login, .str r.mail, .str r.phone, .bool r.on, .int .i64 r.usn, .bool r.gone]
def PRow.u (r : PRow) : U := .st [.int r.id, .str r.login, .str r.mail, .str r.phone, .bool r.on, .int r.usn, .bool r.gone]
structure PTable where
 next : Int
 usn : Int
 rows : List PRow
def PTable.u (t : PTable) : U := .st [.int t.next, .int t.usn, .lst (t.rows.map PRow.u)]
structure PWorld where
 server : PServer
 table : PTable
 flow : PFlow
 mark : Int
 usn : Int
def PWorld.u (w : PWorld) : U := .st [w.server.u, w.table.u, w.flow.u, .int w.mark, .int w.usn]
abbrev ARules (H : List Ob) (v : V) (l : List PRule) : Prop := ASl H shRule PRule.u v l
abbrev AChanges (H : List Ob) (v : V) (l : List PChange) : Prop := ASl H shChange PChange.u v l
abbrev ARows (H : List Ob) (v : V) (l : List PRow) : Prop := ASl H shRow PRow.u v l
section
variable {H : List Ob} {cs : List V} {u : U} {v : V}
theorem rule_at {x : PRule} : At H shRule cs x.u ↔ ∃ w1 w2, cs = [.str x.who, w1, w2, .int .i64 x.right, .bool x.allow] ∧ x.who.length ≤ maxLen ∧ ARdns H w1 x.base ∧ AStrs H w2 x.attrs ∧ (Lit.int .i64 x.right).wf = true := by
 unfold PRule.u
 rw [At_un]
 constructor
 ·intro h
  replace h := Ats_str.1 h
  obtain ⟨_, rfl, a1, h⟩ := h
  replace h := Ats_slc.1 h
  obtain ⟨w1, _, rfl, a2, h⟩ := h
  replace h := Ats_slc.1 h
  obtain ⟨w2, _, rfl, a3, h⟩ := h
  replace h := Ats_int.1 h
  obtain ⟨_, rfl, a4, h⟩ := h
  replace h := Ats_bool.1 h
  obtain ⟨_, rfl, h⟩ := h
  cases Ats_end.1 h
  exact ⟨w1, w2, rfl, a1, a2, a3, a4⟩
 ·rintro ⟨w1, w2, rfl, a1, a2, a3, a4⟩
  exact Ats_str.2 ⟨_, rfl, a1, Ats_slc.2 ⟨_, _, rfl, a2, Ats_slc.2 ⟨_, _, rfl, a3, Ats_int.2 ⟨_, rfl, a4, Ats_bool.2 ⟨_, rfl, Ats_end.2 rfl⟩⟩⟩⟩⟩
theorem rule_typed (h : At H shRule cs u) : ∃ x : PRule, u = x.u := by
 replace h := At_st.1 h
 obtain ⟨us, rfl, h⟩ := h
 replace h := Ats_strT h
 obtain ⟨s, us, _, rfl, h⟩ := h
 replace h := Ats_slcT (fun _ _ => rdn_typed) h
 obtain ⟨l1, us, _, rfl, h⟩ := h
 replace h := Ats_slcT (fun _ _ => str_typed) h
 obtain ⟨l2, us, _, rfl, h⟩ := h
 replace h := Ats_intT h
 obtain ⟨n, us, _, rfl, h⟩ := h
 replace h := Ats_boolT h
 obtain ⟨b, us, _, rfl, h⟩ := h
 obtain ⟨_, rfl⟩ := Ats_nil.1 h
 exact ⟨⟨s, l1, l2, n, b⟩, rfl⟩
theorem change_at {x : PChange} : At H shChange cs x.u ↔ ∃ w1 w2, cs = [.int .i64 x.number, .int .i64 x.kind, .str x.dn, w1, w2] ∧ (Lit.int .i64 x.number).wf = true ∧ (Lit.int .i64 x.kind).wf = true ∧ x.dn.length ≤ maxLen ∧ ARdns H w1 x.entry.dn ∧ AAttrs H w2 x.entry.attrs := by
 unfold PChange.u
 rw [At_un]
 constructor
 ·intro h
  replace h := Ats_int.1 h
  obtain ⟨_, rfl, a1, h⟩ := h
  replace h := Ats_int.1 h
  obtain ⟨_, rfl, a2, h⟩ := h
  replace h := Ats_str.1 h
  obtain ⟨_, rfl, a3, h⟩ := h
  replace h := Ats_sub.1 h
  obtain ⟨c1, _, rfl, a4, h⟩ := h
  cases Ats_end.1 h
  obtain ⟨w1, w2, rfl, a4, a5⟩ := entry_at.1 a4
  exact ⟨w1, w2, rfl, a1, a2, a3, a4, a5⟩
 ·rintro ⟨w1, w2, rfl, a1, a2, a3, a4, a5⟩
  exact Ats_int.2 ⟨_, rfl, a1, Ats_int.2 ⟨_, rfl, a2, Ats_str.2 ⟨_, rfl, a3, Ats_sub.2 ⟨[w1, w2], [], rfl, entry_at.2 ⟨_, _, rfl, a4, a5⟩, Ats_end.2 rfl⟩⟩⟩⟩
theorem change_typed (h : At H shChange cs u) : ∃ x : PChange, u = x.u := by
 replace h := At_st.1 h
 obtain ⟨us, rfl, h⟩ := h
 replace h := Ats_intT h
 obtain ⟨n, us, _, rfl, h⟩ := h
 replace h := Ats_intT h
 obtain ⟨k, us, _, rfl, h⟩ := h
 replace h := Ats_strT h
 obtain ⟨s, us, _, rfl, h⟩ := h
 replace h := Ats_subT (fun _ _ => entry_typed) h
 obtain ⟨e, us, _, rfl, h⟩ := h
 obtain ⟨_, rfl⟩ := Ats_nil.1 h
 exact ⟨⟨n, k, s, e⟩, rfl⟩
theorem server_at {x : PServer} : At H shServer cs x.u ↔ ∃ vs ve va vl, cs = [vs, ve, va, .int .i64 x.next, vl, .str x.who] ∧ AClasses H vs x.tree.schema ∧ AEntries H ve x.tree.entries ∧ ARules H va x.acl ∧ (Lit.int .i64 x.next).wf = true ∧ AChanges H vl x.list ∧ x.who.length ≤ maxLen := by
 unfold PServer.u
 rw [At_un]
 constructor
 ·intro h
  replace h := Ats_sub.1 h
  obtain ⟨c1, _, rfl, a1, h⟩ := h
  replace h := Ats_slc.1 h
  obtain ⟨va, _, rfl, a3, h⟩ := h
  replace h := Ats_sub.1 h
  obtain ⟨c2, _, rfl, a4, h⟩ := h
  replace h := Ats_str.1 h
  obtain ⟨_, rfl, a6, h⟩ := h
  cases Ats_end.1 h
  obtain ⟨vs, ve, rfl, a1, a2⟩ := tree_at.1 a1
  obtain ⟨_, rfl, a7, h4⟩ := Ats_int.1 (At_un.1 a4)
  replace h4 := Ats_slc.1 h4
  obtain ⟨vl, _, rfl, a5, h4⟩ := h4
  cases Ats_end.1 h4
  exact ⟨vs, ve, va, vl, rfl, a1, a2, a3, a7, a5, a6⟩
 ·rintro ⟨vs, ve, va, vl, rfl, a1, a2, a3, a4, a5, a6⟩
  exact Ats_sub.2 ⟨[vs, ve], _, rfl, tree_at.2 ⟨_, _, rfl, a1, a2⟩, Ats_slc.2 ⟨_, _, rfl, a3, Ats_sub.2 ⟨[.int .i64 x.next, vl], _, rfl, At_un.2 (Ats_int.2 ⟨_, rfl, a4, Ats_slc.2 ⟨_, _, rfl, a5, Ats_end.2 rfl⟩⟩), Ats_str.2 ⟨_, rfl, a6, Ats_end.2 rfl⟩⟩⟩⟩
theorem server_typed (h : At H shServer cs u) : ∃ x : PServer, u = x.u := by
 replace h := At_st.1 h
 obtain ⟨us, rfl, h⟩ := h
 replace h := Ats_subT (fun _ _ => tree_typed) h
 obtain ⟨t, us, _, rfl, h⟩ := h
 replace h := Ats_slcT (fun _ _ => rule_typed) h
 obtain ⟨a, us, _, rfl, h⟩ := h
 replace h := Ats_cons.1 h
 obtain ⟨c1, c2, u1, us1, rfl, rfl, h1, h⟩ := h
 replace h1 := At_st.1 h1
 obtain ⟨us2, rfl, h1⟩ := h1
 replace h1 := Ats_intT h1
 obtain ⟨n, us2, _, rfl, h1⟩ := h1
 replace h1 := Ats_slcT (fun _ _ => change_typed) h1
 obtain ⟨l, us2, _, rfl, h1⟩ := h1
 obtain ⟨_, rfl⟩ := Ats_nil.1 h1
 replace h := Ats_strT h
 obtain ⟨s, us, _, rfl, h⟩ := h
 obtain ⟨_, rfl⟩ := Ats_nil.1 h
 exact ⟨⟨t, a, n, l, s⟩, rfl⟩
theorem rules_idx {xs : List PRule} (h : ARules H v xs) {i : Nat} {x : PRule} (hx : xs[i]? = some x) : ∃ id o w1 w2, id < H.length ∧
  (∀ (e s b : Nat) (z : List V) (ty : Nat → LT) (k : IntKind), (ty e).size = 5 → indexR ⟨.slice e, s, b, z⟩ ty (.val v) (.int k i) = some (.val (.ptr (some (id, o))))) ∧
  (∀ T : LT, T.many 5 → ∀ r c, loadAt T ⟨r, c, H⟩ (.hp id o) = some (.agg [.str x.who, w1, w2, .int .i64 x.right, .bool x.allow])) ∧ ARdns H w1 x.base ∧ AStrs H w2 x.attrs := by
 obtain ⟨id, o, own, cells, e1, e2, e3, e4⟩ := ASl.idx h hx (by decide)
 obtain ⟨w1, w2, e4, _, e5, e6, _⟩ := rule_at.1 e4
 exact ⟨id, o, w1, w2, (List.getElem?_eq_some_iff.1 e2).1, e1, loadN e2 e3 (by decide) e4, e5, e6⟩
theorem changes_idx {xs : List PChange} (h : AChanges H v xs) {i : Nat} {x : PChange} (hx : xs[i]? = some x) : ∃ id o w1 w2, id < H.length ∧
  (∀ (e s b : Nat) (z : List V) (ty : Nat → LT) (k : IntKind), (ty e).size = 5 → indexR ⟨.slice e, s, b, z⟩ ty (.val v) (.int k i) = some (.val (.ptr (some (id, o))))) ∧
  (∀ T : LT, T.many 5 → ∀ r c, loadAt T ⟨r, c, H⟩ (.hp id o) = some (.agg [.int .i64 x.number, .int .i64 x.kind, .str x.dn, w1, w2])) ∧ ARdns H w1 x.entry.dn ∧ AAttrs H w2 x.entry.attrs ∧ (Lit.int .i64 x.number).wf = true := by
 obtain ⟨id, o, own, cells, e1, e2, e3, e4⟩ := ASl.idx h hx (by decide)
 obtain ⟨w1, w2, e4, e7, _, _, e5, e6⟩ := change_at.1 e4
 exact ⟨id, o, w1, w2, (List.getElem?_eq_some_iff.1 e2).1, e1, loadN e2 e3 (by decide) e4, e5, e6, e7⟩
end
def RuleOk (r : PRule) : Prop := (r.who = [42] ∨ NameOk r.who) ∧ DnOk r.base ∧ r.attrs.length ≤ 8 ∧ NamesOk r.attrs ∧ 1 ≤ r.right ∧ r.right ≤ 4
def AclOk (l : List PRule) : Prop := (∀ r ∈ l, RuleOk r) ∧ l.length ≤ 10
def ZeroE (e : PEntry) : Prop := e.dn = [] ∧ e.attrs = []
def KindOk (k : Int) (e : PEntry) : Prop := (1 ≤ k ∧ k ≤ 4) ∧ (k = 2 → ZeroE e) ∧ (k ≠ 2 → EntryOk e)
def ChangeOk (x : PChange) : Prop := ReadOk x.dn ∧ readS x.dn ≠ [] ∧ KindOk x.kind x.entry
def ChangesOk (n : Int) (l : List PChange) : Prop := (1 ≤ n ∧ n ≤ 1000000) ∧ l.length ≤ 40 ∧ (l.length : Int) < n ∧ ∀ (i : Nat) (x : PChange), l[i]? = some x → ChangeOk x ∧ x.number = n - l.length + i
def ServerOk (s : PServer) : Prop := TreeOk s.tree ∧ AclOk s.acl ∧ ChangesOk s.next s.list ∧ NameOk s.who
theorem CB (k : Nat) : decide ((k : Int).tmod 3 = 0) = (k % 3 == 0) := by
 rw [Int.tmod_eq_emod_of_nonneg (by omega), Bool.eq_iff_iff]
 simp
 omega
abbrev af : Sh := .st [.int .i64, .int .i64, .str, .slice shRdn, .slice shAttr]
def aH : U → U
 | .st [a, b, c, .st [d, e]] => .st [a, b, c, d, e]
 | u => u
def isC (u : U) : Prop := ∃ a b c d e, u = .st [a, b, c, .st [d, e]]
theorem mF {H : List Ob} {cs : List V} {u : U} {F : List Nat} (hu : isC u) : AtF H shChange cs u F ↔ AtF H af cs (aH u) F := by
 obtain ⟨a, b, c, d, e, rfl⟩ := hu
 constructor
 ·intro h
  obtain ⟨us, hu, h⟩ := AtF_st.1 h
  cases hu
  obtain ⟨c1, r1, _, _, F1, R1, rfl, hu, rfl, a1, h⟩ := AtsF_cons.1 h
  cases hu
  obtain ⟨c2, r2, _, _, F2, R2, rfl, hu, rfl, a2, h⟩ := AtsF_cons.1 h
  cases hu
  obtain ⟨c3, r3, _, _, F3, R3, rfl, hu, rfl, a3, h⟩ := AtsF_cons.1 h
  cases hu
  obtain ⟨c4, r4, _, _, F4, R4, rfl, hu, rfl, a4, h⟩ := AtsF_cons.1 h
  cases hu
  obtain ⟨rfl, _, rfl⟩ := AtsF_nil.1 h
  obtain ⟨us, hu, a4⟩ := AtF_st.1 a4
  cases hu
  refine AtF_st.2 ⟨_, rfl, AtsF_cons.2 ⟨c1, _, _, _, F1, _, rfl, rfl, rfl, a1, AtsF_cons.2 ⟨c2, _, _, _, F2, _, rfl, rfl, rfl, a2, AtsF_cons.2 ⟨c3, _, _, _, F3, _, rfl, rfl, rfl, a3, ?_⟩⟩⟩⟩
  rw [List.append_nil, List.append_nil]
  exact a4
 ·intro h
  obtain ⟨us, hu, h⟩ := AtF_st.1 h
  cases hu
  obtain ⟨c1, r1, _, _, F1, R1, rfl, hu, rfl, a1, h⟩ := AtsF_cons.1 h
  cases hu
  obtain ⟨c2, r2, _, _, F2, R2, rfl, hu, rfl, a2, h⟩ := AtsF_cons.1 h
  cases hu
  obtain ⟨c3, r3, _, _, F3, R3, rfl, hu, rfl, a3, h⟩ := AtsF_cons.1 h
  cases hu
  exact AtF_st.2 ⟨_, rfl, AtsF_cons.2 ⟨c1, _, _, _, F1, _, rfl, rfl, rfl, a1, AtsF_cons.2 ⟨c2, _, _, _, F2, _, rfl, rfl, rfl, a2, AtsF_cons.2 ⟨c3, _, _, _, F3, _, rfl, rfl, rfl, a3, AtsF_cons.2 ⟨r3, [], _, [], R3, [], (List.append_nil _).symm, rfl, (List.append_nil _).symm, AtF_st.2 ⟨_, rfl, h⟩, AtsF_nil.2 ⟨rfl, rfl, rfl⟩⟩⟩⟩⟩⟩
theorem xX {H : List Ob} {cs : List V} {u : U} (h : At H shChange cs u) : isC u := by
 obtain ⟨x, rfl⟩ := change_typed h
 exact ⟨_, _, _, _, _, rfl⟩
theorem qZ {H : List Ob} {cs : List V} {us : List U} {F : List Nat} (hu : ∀ u ∈ us, isC u) : AtF H (.slice shChange) cs (.lst us) F ↔ AtF H (.slice af) cs (.lst (us.map aH)) F := by
 constructor
 ·intro h
  obtain ⟨v, l, rfl, hl, hb, hs⟩ := AtF_slice.1 h
  cases hl
  refine AtF_slice.2 ⟨v, _, rfl, rfl, by simpa using hb, ?_⟩
  rcases hs with ⟨rfl, rfl, rfl⟩ | ⟨id, off, cells, Ks, rfl, k1, k2, k3, rfl, k5⟩
  ·exact .inl ⟨rfl, rfl, rfl⟩
  ·refine .inr ⟨id, off, cells, Ks, by simp, k1, by simpa using k2, by simpa using k3, rfl, fun i x K hx hK => ?_⟩
   rw [List.getElem?_map] at hx
   obtain ⟨y, hy, rfl⟩ := Option.map_eq_some_iff.1 hx
   exact (mF (hu y (List.mem_of_getElem? hy))).1 (k5 i y K hy hK)
 ·intro h
  obtain ⟨v, l, rfl, hl, hb, hs⟩ := AtF_slice.1 h
  cases hl
  refine AtF_slice.2 ⟨v, _, rfl, rfl, by simpa using hb, ?_⟩
  rcases hs with ⟨rfl, h0, rfl⟩ | ⟨id, off, cells, Ks, rfl, k1, k2, k3, rfl, k5⟩
  ·exact .inl ⟨rfl, List.map_eq_nil_iff.1 h0, rfl⟩
  ·refine .inr ⟨id, off, cells, Ks, by simp, k1, by simpa using k2, by simpa using k3, rfl, fun i x K hx hK => ?_⟩
   exact (mF (hu x (List.mem_of_getElem? hx))).2 (k5 i (aH x) K (by rw [List.getElem?_map, hx]; rfl) hK)
theorem zZ {H : List Ob} {cs : List V} {u : U} (h : At H shChange cs u) : At H af cs (aH u) := by
 obtain ⟨a, b, c, d, e, rfl⟩ := xX h
 obtain ⟨us, hu, h⟩ := At_st.1 h
 cases hu
 obtain ⟨c1, r1, _, _, rfl, hu, a1, h⟩ := Ats_cons.1 h
 cases hu
 obtain ⟨c2, r2, _, _, rfl, hu, a2, h⟩ := Ats_cons.1 h
 cases hu
 obtain ⟨c3, r3, _, _, rfl, hu, a3, h⟩ := Ats_cons.1 h
 cases hu
 obtain ⟨c4, r4, _, _, rfl, hu, a4, h⟩ := Ats_cons.1 h
 cases hu
 obtain ⟨rfl, _⟩ := Ats_nil.1 h
 obtain ⟨us, hu, a4⟩ := At_st.1 a4
 cases hu
 refine At_st.2 ⟨_, rfl, Ats_cons.2 ⟨c1, _, _, _, rfl, rfl, a1, Ats_cons.2 ⟨c2, _, _, _, rfl, rfl, a2, Ats_cons.2 ⟨c3, _, _, _, rfl, rfl, a3, ?_⟩⟩⟩⟩
 rw [List.append_nil]
 exact a4
theorem mr {H : List Ob} {cs : List V} {us : List U} (h : At H (.slice shChange) cs (.lst us)) : At H (.slice af) cs (.lst (us.map aH)) ∧ ∀ u ∈ us, isC u := by
 obtain ⟨v, l, rfl, hl, hb, hs⟩ := At_slice.1 h
 cases hl
 rcases hs with ⟨rfl, rfl⟩ | ⟨id, off, own, cells, rfl, k1, k2, k3⟩
 ·exact ⟨At_slice.2 ⟨_, _, rfl, rfl, by simp, .inl ⟨rfl, rfl⟩⟩, fun u hu => by simp at hu⟩
 ·refine ⟨At_slice.2 ⟨_, _, rfl, rfl, by simpa using hb, .inr ⟨id, off, own, cells, by simp, k1, by simpa using k2, fun i x hx => ?_⟩⟩, fun u hu => ?_⟩
  ·rw [List.getElem?_map] at hx
   obtain ⟨y, hy, rfl⟩ := Option.map_eq_some_iff.1 hx
   exact zZ (k3 i y hy)
  ·obtain ⟨i, hi⟩ := List.mem_iff_getElem?.1 hu
   exact xX (k3 i u hi)
theorem DV {u : U} {k : Nat} (h : isC (mkP u k)) : isC u := by
 obtain ⟨a, b, c, d, e, h⟩ := h
 obtain ⟨m, rfl, hm⟩ := mkP_st h
 obtain ⟨u1, m1, rfl, _, hm⟩ := mkPs_cons hm.symm
 obtain ⟨u2, m2, rfl, _, hm⟩ := mkPs_cons hm.symm
 obtain ⟨u3, m3, rfl, _, hm⟩ := mkPs_cons hm.symm
 obtain ⟨u4, m4, rfl, h4, hm⟩ := mkPs_cons hm.symm
 obtain ⟨n, rfl, hn⟩ := mkP_st h4.symm
 obtain ⟨u5, n1, rfl, _, hn⟩ := mkPs_cons hn.symm
 obtain ⟨u6, n2, rfl, _, hn⟩ := mkPs_cons hn.symm
 have e1 := mkPs_nil hn.symm
 have e2 := mkPs_nil hm.symm
 subst e1 e2
 exact ⟨_, _, _, _, _, rfl⟩
theorem rG : ∀ {us : List U} {k : Nat}, (∀ u ∈ mkPs us k, isC u) → ∀ u ∈ us, isC u
 | [], _, _, u, hu => by simp at hu
 | x :: us, k, h, u, hu => by
  have h : ∀ u ∈ mkP x k :: mkPs us (k + cntP x), isC u := h
  rcases List.mem_cons.1 hu with rfl | hu
  ·exact DV (k := k) (h _ (by simp))
  ·exact rG (k := k + cntP x) (fun y hy => h y (by simp [hy])) u hu
theorem mW {u : U} (h : isC u) : cntP (aH u) = cntP u := by
 obtain ⟨a, b, c, d, e, rfl⟩ := h
 simp only [aH, cntP_st, cntPs_cons, cntPs_nil]
 omega
theorem AU {u : U} {k : Nat} (h : isC u) : mkP (aH u) k = aH (mkP u k) ∧ isC (mkP u k) := by
 obtain ⟨a, b, c, d, e, rfl⟩ := h
 refine ⟨?_, ⟨mkP a k, _, _, _, _, rfl⟩⟩
 rfl
theorem gm : ∀ {us : List U}, (∀ u ∈ us, isC u) → cntPs (us.map aH) = cntPs us
 | [], _ => rfl
 | u :: us, h => by
  rw [List.map_cons, cntPs_cons, cntPs_cons, mW (h u (by simp)), gm fun x hx => h x (by simp [hx])]
theorem jg : ∀ {us : List U} {k : Nat}, (∀ u ∈ us, isC u) → mkPs (us.map aH) k = (mkPs us k).map aH ∧ ∀ u ∈ mkPs us k, isC u
 | [], _, _ => ⟨rfl, fun u hu => by simp [mkPs] at hu⟩
 | u :: us, k, h => by
  have h0 := AU (k := k) (h u (by simp))
  have h1 := jg (us := us) (k := k + cntP u) fun x hx => h x (by simp [hx])
  have hc := mW (h u (by simp))
  constructor
  ·rw [List.map_cons]
   show mkP (aH u) k :: mkPs (us.map aH) (k + cntP (aH u)) = (mkP u k :: mkPs us (k + cntP u)).map aH
   rw [hc, h0.1, h1.1, List.map_cons]
  ·intro x hx
   have hx : x ∈ mkP u k :: mkPs us (k + cntP u) := hx
   rcases List.mem_cons.1 hx with rfl | hx
   ·exact h0.2
   ·exact h1.2 x hx
theorem oQ {α : Type} {l : List α} (h : l.length = 10) : ∃ a0 a1 a2 a3 a4 a5 a6 a7 a8 a9, l = [a0, a1, a2, a3, a4, a5, a6, a7, a8, a9] := by
 rcases l with _ | ⟨a0, _ | ⟨a1, _ | ⟨a2, _ | ⟨a3, _ | ⟨a4, _ | ⟨a5, _ | ⟨a6, _ | ⟨a7, _ | ⟨a8, _ | ⟨a9, _ | ⟨a10, l⟩⟩⟩⟩⟩⟩⟩⟩⟩⟩⟩ <;> simp at h
 exact ⟨_, _, _, _, _, _, _, _, _, _, rfl⟩
end Go.Lite
end
section
namespace Go.Proofs.Try1
open Go Go.Lite
theorem xA : eU 84 (.slice shRule) := by
 intro H cs u F k h hn hk
 obtain ⟨v, l, rfl, rfl, hlen, hv⟩ := AtF_slice.1 h
 have hv := (AtF_slice.2 ⟨v, l, rfl, rfl, hlen, hv⟩).at
 obtain ⟨_, _, hx1, hx2, _, hv⟩ := At_slice.1 hv
 cases hx1; cases hx2
 apply Ret.mark
 rw [Pj]
 simp only [cntV] at hk
 have hl64 : l.length ≤ 9223372036854775807 := hlen
 simp [wG, Tryz.f84, valC, -setRange]
 refine WP_loop (fun m σ => ∃ (i : Nat) (r : Nat → R) (G : List Ob), i + m = l.length ∧ σ = ⟨r, 0, G⟩ ∧ r 0 = .val v ∧ r 1 = .val (.int .i64 ((k + cntPs (l.take i) : Nat) : Int)) ∧ r 5 = .val (.int .i64 i) ∧ G.length = H.length ∧ (∀ q, q ∉ F → G[q]? = H[q]?) ∧ AtF G (.slice shRule) [v] (.lst (mkPs (l.take i) k ++ l.drop i)) F) ?_ l.length _ ⟨0, _, H, by simp, rfl, by simp, by simp [cntPs], by simp, rfl, fun _ _ => rfl, by simpa [mkPs] using h⟩
 rintro m σ ⟨i, r, G, him, rfl, r0, r1, r5, g1, g2, g3⟩
 cases m with
 | zero =>
  have hi : i = l.length := by omega
  subst hi
  simp at g3
  simp [r0, r1, r5, hv.len, aK g1, cntV, mkV]
  exact ⟨g1, g2, g3⟩
 | succ m =>
  have hi : i < l.length := by omega
  obtain ⟨x, hx⟩ : ∃ x, l[i]? = some x := ⟨l[i], by simp [hi]⟩
  have hx0 : (mkPs (l.take i) k ++ l.drop i)[i]? = some x := by rw [mk_get hi, hx]
  have hmk := mk_set (k := k) hx
  have hcnt := cntPs_take hx
  have hle := cntPs_take_le (l := l) (i := i + 1)
  have hL : (mkPs (l.take i) k ++ l.drop i).length = l.length := by simp [mkPs_len]; omega
  obtain ⟨L, hLd⟩ : ∃ L, L = mkPs (l.take i) k ++ l.drop i := ⟨_, rfl⟩
  rw [← hLd] at hx0 hmk hL g3
  clear hLd
  obtain ⟨id, off, cells, K, e0, e1, e2, e3, e4, e5, e6, e7, e8⟩ := AtF.elem g3 hn hx0
  clear e1 e2 e4 e5 e7 e8
  rw [hL] at e0
  subst e0
  generalize List.take (shRule).size (List.drop (off + i * (shRule).size) cells) = cc at e3
  replace e3 := AtF_st.1 e3
  obtain ⟨us, rfl, e3⟩ := e3
  replace e3 := AtsF_cons.1 e3
  obtain ⟨c0, d0, u0, rr0, F0, E0, rfl, rfl, rfl, h0, e3⟩ := e3
  replace e3 := AtsF_cons.1 e3
  obtain ⟨c1, d1, u1, rr1, F1, E1, rfl, rfl, rfl, h1, e3⟩ := e3
  replace e3 := AtsF_cons.1 e3
  obtain ⟨c2, d2, u2, rr2, F2, E2, rfl, rfl, rfl, h2, e3⟩ := e3
  replace e3 := AtsF_cons.1 e3
  obtain ⟨c3, d3, u3, rr3, F3, E3, rfl, rfl, rfl, h3, e3⟩ := e3
  replace e3 := AtsF_cons.1 e3
  obtain ⟨c4, d4, u4, rr4, F4, E4, rfl, rfl, rfl, h4, e3⟩ := e3
  replace e3 := AtsF_nil.1 e3
  obtain ⟨rfl, rfl, rfl⟩ := e3
  replace h0 := AtF_str.1 h0
  obtain ⟨⟨s0, rfl, rfl, w0⟩, rfl⟩ := h0
  have k1 := h1
  replace h1 := AtF_slice.1 h1
  obtain ⟨v1, l1, rfl, rfl, w1, hv1⟩ := h1
  have o1 := (At_slice.1 (AtF.at _ k1))
  obtain ⟨_, _, x1, x2, _, o1⟩ := o1
  cases x1
  cases x2
  have o1 := o1.one
  have k2 := h2
  replace h2 := AtF_slice.1 h2
  obtain ⟨v2, l2, rfl, rfl, w2, hv2⟩ := h2
  have o2 := (At_slice.1 (AtF.at _ k2))
  obtain ⟨_, _, x1, x2, _, o2⟩ := o2
  cases x1
  cases x2
  have o2 := o2.one
  replace h3 := AtF_int.1 h3
  obtain ⟨⟨n3, rfl, rfl, w3⟩, rfl⟩ := h3
  replace h4 := AtF_bool.1 h4
  obtain ⟨⟨b4, rfl, rfl⟩, rfl⟩ := h4
  simp only [cntP, cntPs_cons, cntPs_nil, Nat.add_zero] at hcnt
  obtain ⟨kk, hkk⟩ : ∃ kk, kk = k + cntPs (l.take i) := ⟨_, rfl⟩
  rw [← hkk] at r1
  obtain ⟨id0, off0, cells0, w0, K0, ev0, eg0, ei0, ek0, ew0, ea0, en0, es0, er0, et0⟩ := AtF.field [] g3 hn (i := i) (us1 := []) (u := (.str s0)) (us2 := [(.lst l1), (.lst l2), (.int n3), (.bool b4)]) hx0 rfl rfl
  simp only [V.slc.injEq, Option.some.injEq, Prod.mk.injEq] at ev0
  obtain ⟨⟨rfl, rfl⟩, _⟩ := ev0
  simp only [shRule, Sh.size_st, Sh.sizes_cons, Sh.sizes_nil, Sh.size_str, Sh.size_slice, Sh.size_int, Sh.size_bool, List.cons_append, List.nil_append, Nat.reduceAdd, Nat.add_zero] at eg0 ew0 et0 er0
  obtain ⟨_, rfl⟩ := AtF_str.1 ea0
  have q0 := au (H := G) (k := kk) (by omega)
  have st0 := store1 (v := (.str (markStr kk))) eg0 (List.getElem?_eq_some_iff.1 ew0).1 rfl rfl
  have A0 := et0 (.str (markStr kk)) (.str (markStr kk)) (AtF_str.2 ⟨⟨_, rfl, rfl, dm (by omega)⟩, rfl⟩)
  obtain ⟨G0, hG0⟩ : ∃ G', G' = G.set id (.mk true 5 (cells0.set (off + i * 5) (.str (markStr kk)))) := ⟨_, rfl⟩
  rw [← hG0] at st0 A0
  have ln0 : G0.length = H.length := by rw [hG0, List.length_set]; exact g1
  have fr0 : ∀ q, q ∉ F → G0[q]? = H[q]? := fun q hq => by rw [hG0, List.getElem?_set_ne (by rintro rfl; exact hq e6)]; exact g2 q hq
  clear hG0
  obtain ⟨kk0, hkk0⟩ : ∃ n, n = kk + 1 := ⟨_, rfl⟩
  have hw0 : IntKind.i64.wrap ((kk : Int) + 1) = (kk0 : Int) := by rw [wrap_i64 (by omega) (by omega)]; omega
  have hx0_ : (L.set i (.st [(.str (markStr kk)), (.lst l1), (.lst l2), (.int n3), (.bool b4)]))[i]? = some (.st [(.str (markStr kk)), (.lst l1), (.lst l2), (.int n3), (.bool b4)]) := List.getElem?_set_self (by omega)
  obtain ⟨id1, off1, cells1, w1, K1, ev1, eg1, ei1, ek1, ew1, ea1, en1, es1, er1, et1⟩ := AtF.field [.str] A0 hn (i := i) (us1 := [(.str (markStr kk))]) (u := (.lst l1)) (us2 := [(.lst l2), (.int n3), (.bool b4)]) hx0_ rfl rfl
  simp only [V.slc.injEq, Option.some.injEq, Prod.mk.injEq] at ev1
  obtain ⟨⟨rfl, rfl⟩, _⟩ := ev1
  simp only [shRule, Sh.size_st, Sh.sizes_cons, Sh.sizes_nil, Sh.size_str, Sh.size_slice, Sh.size_int, Sh.size_bool, List.cons_append, List.nil_append, Nat.reduceAdd, Nat.add_zero] at eg1 ew1 et1 er1
  obtain ⟨G1, q1, ln1, fr1, ma1⟩ := lF G0 [w1] _ K1 kk0 ea1 en1 (by simp only [cntPV, cntP]; omega)
  simp only [valC, List.headD_cons] at q1
  have ld1 := load1 eg1 ew1
  have A1 := er1 G1 (.lst (mkPs l1 kk0)) (fun q _ hq => fr1 q hq) ma1
  have ln1 : G1.length = H.length := by rw [ln1]; first | exact g1 | exact ln0
  have fr1 : ∀ q, q ∉ F → G1[q]? = H[q]? := fun q hq => by rw [fr1 q fun h => hq (es1 q h)]; first | exact g2 q hq | exact fr0 q hq
  obtain ⟨kk1, hkk1⟩ : ∃ n, n = kk0 + cntP (.lst l1) := ⟨_, rfl⟩
  rw [cntPV, ← hkk1] at q1
  simp only [cntP] at hkk1
  rw [List.set_set] at A1
  have hx1_ : (L.set i (.st [(.str (markStr kk)), (.lst (mkPs l1 kk0)), (.lst l2), (.int n3), (.bool b4)]))[i]? = some (.st [(.str (markStr kk)), (.lst (mkPs l1 kk0)), (.lst l2), (.int n3), (.bool b4)]) := List.getElem?_set_self (by omega)
  obtain ⟨id2, off2, cells2, w2, K2, ev2, eg2, ei2, ek2, ew2, ea2, en2, es2, er2, et2⟩ := AtF.field [.str, (.slice shRdn)] A1 hn (i := i) (us1 := [(.str (markStr kk)), (.lst (mkPs l1 kk0))]) (u := (.lst l2)) (us2 := [(.int n3), (.bool b4)]) hx1_ rfl rfl
  simp only [V.slc.injEq, Option.some.injEq, Prod.mk.injEq] at ev2
  obtain ⟨⟨rfl, rfl⟩, _⟩ := ev2
  simp only [shRule, Sh.size_st, Sh.sizes_cons, Sh.sizes_nil, Sh.size_str, Sh.size_slice, Sh.size_int, Sh.size_bool, List.cons_append, List.nil_append, Nat.reduceAdd, Nat.add_zero] at eg2 ew2 et2 er2
  obtain ⟨G2, q2, ln2, fr2, ma2⟩ := bG G1 [w2] _ K2 kk1 ea2 en2 (by simp only [cntPV, cntP]; omega)
  simp only [valC, List.headD_cons] at q2
  have ld2 := load1 eg2 ew2
  have A2 := er2 G2 (.lst (mkPs l2 kk1)) (fun q _ hq => fr2 q hq) ma2
  have ln2 : G2.length = H.length := by rw [ln2]; first | exact g1 | exact ln1
  have fr2 : ∀ q, q ∉ F → G2[q]? = H[q]? := fun q hq => by rw [fr2 q fun h => hq (es2 q h)]; first | exact g2 q hq | exact fr1 q hq
  obtain ⟨kk2, hkk2⟩ : ∃ n, n = kk1 + cntP (.lst l2) := ⟨_, rfl⟩
  rw [cntPV, ← hkk2] at q2
  simp only [cntP] at hkk2
  rw [List.set_set] at A2
  have hx2_ : (L.set i (.st [(.str (markStr kk)), (.lst (mkPs l1 kk0)), (.lst (mkPs l2 kk1)), (.int n3), (.bool b4)]))[i]? = some (.st [(.str (markStr kk)), (.lst (mkPs l1 kk0)), (.lst (mkPs l2 kk1)), (.int n3), (.bool b4)]) := List.getElem?_set_self (by omega)
  obtain ⟨id3, off3, cells3, w3, K3, ev3, eg3, ei3, ek3, ew3, ea3, en3, es3, er3, et3⟩ := AtF.field [.str, (.slice shRdn), (.slice .str)] A2 hn (i := i) (us1 := [(.str (markStr kk)), (.lst (mkPs l1 kk0)), (.lst (mkPs l2 kk1))]) (u := (.int n3)) (us2 := [(.bool b4)]) hx2_ rfl rfl
  simp only [V.slc.injEq, Option.some.injEq, Prod.mk.injEq] at ev3
  obtain ⟨⟨rfl, rfl⟩, _⟩ := ev3
  simp only [shRule, Sh.size_st, Sh.sizes_cons, Sh.sizes_nil, Sh.size_str, Sh.size_slice, Sh.size_int, Sh.size_bool, List.cons_append, List.nil_append, Nat.reduceAdd, Nat.add_zero] at eg3 ew3 et3 er3
  obtain ⟨_, rfl⟩ := AtF_int.1 ea3
  have st3 := store1 (v := (.int .i64 kk2)) eg3 (List.getElem?_eq_some_iff.1 ew3).1 rfl rfl
  have A3 := et3 (.int .i64 kk2) (.int kk2) (AtF_int.2 ⟨⟨_, rfl, rfl, wf_nat (by omega)⟩, rfl⟩)
  obtain ⟨G3, hG3⟩ : ∃ G', G' = G2.set id (.mk true 5 (cells3.set (off + i * 5 + 3) (.int .i64 kk2))) := ⟨_, rfl⟩
  rw [← hG3] at st3 A3
  have ln3 : G3.length = H.length := by rw [hG3, List.length_set]; exact ln2
  have fr3 : ∀ q, q ∉ F → G3[q]? = H[q]? := fun q hq => by rw [hG3, List.getElem?_set_ne (by rintro rfl; exact hq e6)]; exact fr2 q hq
  clear hG3
  obtain ⟨kk3, hkk3⟩ : ∃ n, n = kk2 + 1 := ⟨_, rfl⟩
  have hw3 : IntKind.i64.wrap ((kk2 : Int) + 1) = (kk3 : Int) := by rw [wrap_i64 (by omega) (by omega)]; omega
  rw [List.set_set] at A3
  have hx3_ : (L.set i (.st [(.str (markStr kk)), (.lst (mkPs l1 kk0)), (.lst (mkPs l2 kk1)), (.int kk2), (.bool b4)]))[i]? = some (.st [(.str (markStr kk)), (.lst (mkPs l1 kk0)), (.lst (mkPs l2 kk1)), (.int kk2), (.bool b4)]) := List.getElem?_set_self (by omega)
  obtain ⟨id4, off4, cells4, w4, K4, ev4, eg4, ei4, ek4, ew4, ea4, en4, es4, er4, et4⟩ := AtF.field [.str, (.slice shRdn), (.slice .str), (.int .i64)] A3 hn (i := i) (us1 := [(.str (markStr kk)), (.lst (mkPs l1 kk0)), (.lst (mkPs l2 kk1)), (.int kk2)]) (u := (.bool b4)) (us2 := []) hx3_ rfl rfl
  simp only [V.slc.injEq, Option.some.injEq, Prod.mk.injEq] at ev4
  obtain ⟨⟨rfl, rfl⟩, _⟩ := ev4
  simp only [shRule, Sh.size_st, Sh.sizes_cons, Sh.sizes_nil, Sh.size_str, Sh.size_slice, Sh.size_int, Sh.size_bool, List.cons_append, List.nil_append, Nat.reduceAdd, Nat.add_zero] at eg4 ew4 et4 er4
  obtain ⟨_, rfl⟩ := AtF_bool.1 ea4
  have st4 := store1 (v := (.bool (kk3 % 3 == 0))) eg4 (List.getElem?_eq_some_iff.1 ew4).1 rfl rfl
  have A4 := et4 (.bool (kk3 % 3 == 0)) (.bool (kk3 % 3 == 0)) (AtF_bool.2 ⟨⟨_, rfl, rfl⟩, rfl⟩)
  obtain ⟨G4, hG4⟩ : ∃ G', G' = G3.set id (.mk true 5 (cells4.set (off + i * 5 + 4) (.bool (kk3 % 3 == 0)))) := ⟨_, rfl⟩
  rw [← hG4] at st4 A4
  have ln4 : G4.length = H.length := by rw [hG4, List.length_set]; exact ln3
  have fr4 : ∀ q, q ∉ F → G4[q]? = H[q]? := fun q hq => by rw [hG4, List.getElem?_set_ne (by rintro rfl; exact hq e6)]; exact fr3 q hq
  clear hG4
  obtain ⟨kk4, hkk4⟩ : ∃ n, n = kk3 + 1 := ⟨_, rfl⟩
  have hw4 : IntKind.i64.wrap ((kk3 : Int) + 1) = (kk4 : Int) := by rw [wrap_i64 (by omega) (by omega)]; omega
  rw [List.set_set] at A4
  have hx4_ : (L.set i (.st [(.str (markStr kk)), (.lst (mkPs l1 kk0)), (.lst (mkPs l2 kk1)), (.int kk2), (.bool (kk3 % 3 == 0))]))[i]? = some (.st [(.str (markStr kk)), (.lst (mkPs l1 kk0)), (.lst (mkPs l2 kk1)), (.int kk2), (.bool (kk3 % 3 == 0))]) := List.getElem?_set_self (by omega)
  have hks : k + cntPs (l.take (i + 1)) = kk4 := by omega
  rw [show L.set i (.st [(.str (markStr kk)), (.lst (mkPs l1 kk0)), (.lst (mkPs l2 kk1)), (.int kk2), (.bool (kk3 % 3 == 0))]) = _ from (by simp only [hkk0, hkk1, hkk2, hkk3, hkk4, hkk]; exact hmk)] at A4
  have hw : IntKind.i64.wrap ((i : Int) + 1) = ((i : Int) + 1) := wrap_i64 (by omega) (by omega)
  have hix : i + 1 ≤ l.length := hi
  simp [r0, r1, r5, hi, hw, q0, st0, hw0, q1, ld1, q2, ld2, st3, hw3, st4, hw4, CB, -setRange]
  exact ⟨m, by omega, i + 1, by omega, _, _, ⟨rfl, rfl⟩, by simp [r0], by simp; omega, by simp, ln4, fr4, A4⟩
theorem ou : aU 171 (.slice shRule) := by
 intro H cs u k h hk
 obtain ⟨v, l', rfl, hu, hlen, hv⟩ := At_slice.1 h
 obtain ⟨l, rfl, rfl⟩ := mkV_lst hu
 apply Ret.eq
 rw [Ir]
 simp only [cntV] at hk ⊢
 have hl64 : (mkPs l k).length ≤ 9223372036854775807 := hlen
 rw [mkPs_len] at hl64
 have hvl := fun {e s b : Nat} {z : List V} => hv.len (e := e) (s := s) (b := b) (z := z)
 simp only [mkPs_len] at hvl
 simp [uN, Tryz.f171, valC]
 refine WP_loop (fun m σ => ∃ (i kk : Nat) (r : Nat → R), i + m = l.length ∧ kk = k + cntPs (l.take i) ∧ σ = ⟨r, 0, H⟩ ∧ r 0 = .val v ∧ r 1 = .val (.int .i64 kk) ∧ r 5 = .val (.int .i64 i)) ?_ l.length _ ⟨0, k, _, by simp, by simp [cntPs], rfl, by simp, by simp, by simp⟩
 rintro m σ ⟨i, kk, r, him, hkk, rfl, r0, r1, r5⟩
 cases m with
 | zero =>
  have hi : i = l.length := by omega
  subst hi
  rw [List.take_length] at hkk
  simp [r0, r1, r5, hvl, hkk]
 | succ m =>
  have hi : i < l.length := by omega
  obtain ⟨x, hx⟩ : ∃ x, l[i]? = some x := ⟨l[i], by simp [hi]⟩
  obtain ⟨eid, o, own, cells, e1, e2, e3, e0⟩ := hv.idx (mkPs_get hx) (by decide)
  rw [← hkk] at e0
  have hcnt := cntPs_take hx
  have hle := cntPs_take_le (l := l) (i := i + 1)
  have hid : eid < H.length := (List.getElem?_eq_some_iff.1 e2).1
  have hw : IntKind.i64.wrap ((i : Int) + 1) = ((i : Int) + 1) := wrap_i64 (by omega) (by omega)
  obtain ⟨us0, hu0, E0⟩ := At_st.1 e0
  obtain ⟨us0, rfl, rfl⟩ := mkP_st hu0
  obtain ⟨c0, d0, u0, rr0, hc0, hu, h0, E1⟩ := Ats_cons.1 E0
  obtain ⟨u0, us0, rfl, rfl, rfl⟩ := mkPs_cons hu
  obtain ⟨s0, rfl, hs, _⟩ := At_str.1 h0
  obtain ⟨⟨t0, rfl⟩, rfl⟩ := mkP_str hs
  obtain ⟨kk1, hkk1⟩ : ∃ n, n = kk + cntP (.str t0) := ⟨_, rfl⟩
  rw [← hkk1] at E1
  obtain ⟨c1, d1, u1, rr1, rfl, hu, h1, E2⟩ := Ats_cons.1 E1
  obtain ⟨u1, us0, rfl, rfl, rfl⟩ := mkPs_cons hu
  have k1 := h1
  obtain ⟨v1, l1, rfl, hs, _, _⟩ := At_slice.1 h1
  obtain ⟨m1, rfl, rfl⟩ := mkP_lst hs
  obtain ⟨kk2, hkk2⟩ : ∃ n, n = kk1 + cntP (.lst m1) := ⟨_, rfl⟩
  rw [← hkk2] at E2
  obtain ⟨c2, d2, u2, rr2, rfl, hu, h2, E3⟩ := Ats_cons.1 E2
  obtain ⟨u2, us0, rfl, rfl, rfl⟩ := mkPs_cons hu
  have k2 := h2
  obtain ⟨v2, l2, rfl, hs, _, _⟩ := At_slice.1 h2
  obtain ⟨m2, rfl, rfl⟩ := mkP_lst hs
  obtain ⟨kk3, hkk3⟩ : ∃ n, n = kk2 + cntP (.lst m2) := ⟨_, rfl⟩
  rw [← hkk3] at E3
  obtain ⟨c3, d3, u3, rr3, rfl, hu, h3, E4⟩ := Ats_cons.1 E3
  obtain ⟨u3, us0, rfl, rfl, rfl⟩ := mkPs_cons hu
  obtain ⟨s3, rfl, hs, _⟩ := At_int.1 h3
  obtain ⟨⟨t3, rfl⟩, rfl⟩ := mkP_int hs
  obtain ⟨kk4, hkk4⟩ : ∃ n, n = kk3 + cntP (.int t3) := ⟨_, rfl⟩
  rw [← hkk4] at E4
  obtain ⟨c4, d4, u4, rr4, rfl, hu, h4, E5⟩ := Ats_cons.1 E4
  obtain ⟨u4, us0, rfl, rfl, rfl⟩ := mkPs_cons hu
  obtain ⟨s4, rfl, hs⟩ := At_bool.1 h4
  obtain ⟨⟨t4, rfl⟩, rfl⟩ := mkP_bool hs
  obtain ⟨kk5, hkk5⟩ : ∃ n, n = kk4 + cntP (.bool t4) := ⟨_, rfl⟩
  rw [← hkk5] at E5
  obtain ⟨rfl, hun⟩ := Ats_nil.1 E5
  obtain rfl := mkPs_nil hun
  simp only [List.cons_append, List.nil_append, List.append_nil] at hc0
  simp only [cntP_st, cntPs_cons, cntPs_nil, cntP_str, cntP_int, cntP_bool, Nat.add_zero] at hcnt hkk1 hkk2 hkk3 hkk4 hkk5
  have ld0 := load1 e2 (by simpa using cells_get hc0 (j := 0) rfl)
  have hm0 := au (H := H) (k := kk) (by omega)
  have hw0 : IntKind.i64.wrap ((kk : Int) + 1) = (kk1 : Int) := by rw [wrap_i64 (by omega) (by omega)]; omega
  have ld1 := load1 e2 (by simpa using cells_get hc0 (j := 1) rfl)
  have q1 := fQ H [v1] (.lst m1) kk1 k1 (by rw [cntPV]; omega)
  rw [cntPV, ← hkk2] at q1
  simp only [valC, List.headD_cons] at q1
  have p1 : ¬ ((kk2 : Int) < 0) := by omega
  have ld2 := load1 e2 (by simpa using cells_get hc0 (j := 2) rfl)
  have q2 := aT H [v2] (.lst m2) kk2 k2 (by rw [cntPV]; omega)
  rw [cntPV, ← hkk3] at q2
  simp only [valC, List.headD_cons] at q2
  have p2 : ¬ ((kk3 : Int) < 0) := by omega
  have ld3 := load1 e2 (by simpa using cells_get hc0 (j := 3) rfl)
  have hw3 : IntKind.i64.wrap ((kk3 : Int) + 1) = (kk4 : Int) := by rw [wrap_i64 (by omega) (by omega)]; omega
  have ld4 := load1 e2 (by simpa using cells_get hc0 (j := 4) rfl)
  have hw4 : IntKind.i64.wrap ((kk4 : Int) + 1) = (kk5 : Int) := by rw [wrap_i64 (by omega) (by omega)]; omega
  rw [show (shRule).size = 5 from rfl] at e1
  simp [r0, r1, r5, hi, hvl, e1, hid, hw, ld0, hm0, hw0, ld1, q1, p1, ld2, q2, p2, ld3, hw3, ld4, CB, hw4]
  exact ⟨m, by omega, i + 1, by omega, by omega, by omega⟩
theorem mP : eU 169 (.slice af) := by
 intro H cs u F k h hn hk
 obtain ⟨v, l, rfl, rfl, hlen, hv⟩ := AtF_slice.1 h
 have hv := (AtF_slice.2 ⟨v, l, rfl, rfl, hlen, hv⟩).at
 obtain ⟨_, _, hx1, hx2, _, hv⟩ := At_slice.1 hv
 cases hx1; cases hx2
 apply Ret.mark
 rw [EF]
 simp only [cntV] at hk
 have hl64 : l.length ≤ 9223372036854775807 := hlen
 simp [qH, Tryz.f169, valC, -setRange]
 refine WP_loop (fun m σ => ∃ (i : Nat) (r : Nat → R) (G : List Ob), i + m = l.length ∧ σ = ⟨r, 0, G⟩ ∧ r 0 = .val v ∧ r 1 = .val (.int .i64 ((k + cntPs (l.take i) : Nat) : Int)) ∧ r 5 = .val (.int .i64 i) ∧ G.length = H.length ∧ (∀ q, q ∉ F → G[q]? = H[q]?) ∧ AtF G (.slice af) [v] (.lst (mkPs (l.take i) k ++ l.drop i)) F) ?_ l.length _ ⟨0, _, H, by simp, rfl, by simp, by simp [cntPs], by simp, rfl, fun _ _ => rfl, by simpa [mkPs] using h⟩
 rintro m σ ⟨i, r, G, him, rfl, r0, r1, r5, g1, g2, g3⟩
 cases m with
 | zero =>
  have hi : i = l.length := by omega
  subst hi
  simp at g3
  simp [r0, r1, r5, hv.len, aK g1, cntV, mkV]
  exact ⟨g1, g2, g3⟩
 | succ m =>
  have hi : i < l.length := by omega
  obtain ⟨x, hx⟩ : ∃ x, l[i]? = some x := ⟨l[i], by simp [hi]⟩
  have hx0 : (mkPs (l.take i) k ++ l.drop i)[i]? = some x := by rw [mk_get hi, hx]
  have hmk := mk_set (k := k) hx
  have hcnt := cntPs_take hx
  have hle := cntPs_take_le (l := l) (i := i + 1)
  have hL : (mkPs (l.take i) k ++ l.drop i).length = l.length := by simp [mkPs_len]; omega
  obtain ⟨L, hLd⟩ : ∃ L, L = mkPs (l.take i) k ++ l.drop i := ⟨_, rfl⟩
  rw [← hLd] at hx0 hmk hL g3
  clear hLd
  obtain ⟨id, off, cells, K, e0, e1, e2, e3, e4, e5, e6, e7, e8⟩ := AtF.elem g3 hn hx0
  clear e1 e2 e4 e5 e7 e8
  rw [hL] at e0
  subst e0
  generalize List.take (af).size (List.drop (off + i * (af).size) cells) = cc at e3
  replace e3 := AtF_st.1 e3
  obtain ⟨us, rfl, e3⟩ := e3
  replace e3 := AtsF_cons.1 e3
  obtain ⟨c0, d0, u0, rr0, F0, E0, rfl, rfl, rfl, h0, e3⟩ := e3
  replace e3 := AtsF_cons.1 e3
  obtain ⟨c1, d1, u1, rr1, F1, E1, rfl, rfl, rfl, h1, e3⟩ := e3
  replace e3 := AtsF_cons.1 e3
  obtain ⟨c2, d2, u2, rr2, F2, E2, rfl, rfl, rfl, h2, e3⟩ := e3
  replace e3 := AtsF_cons.1 e3
  obtain ⟨c3, d3, u3, rr3, F3, E3, rfl, rfl, rfl, h3, e3⟩ := e3
  replace e3 := AtsF_cons.1 e3
  obtain ⟨c4, d4, u4, rr4, F4, E4, rfl, rfl, rfl, h4, e3⟩ := e3
  replace e3 := AtsF_nil.1 e3
  obtain ⟨rfl, rfl, rfl⟩ := e3
  replace h0 := AtF_int.1 h0
  obtain ⟨⟨n0, rfl, rfl, w0⟩, rfl⟩ := h0
  replace h1 := AtF_int.1 h1
  obtain ⟨⟨n1, rfl, rfl, w1⟩, rfl⟩ := h1
  replace h2 := AtF_str.1 h2
  obtain ⟨⟨s2, rfl, rfl, w2⟩, rfl⟩ := h2
  have k3 := h3
  replace h3 := AtF_slice.1 h3
  obtain ⟨v3, l3, rfl, rfl, w3, hv3⟩ := h3
  have o3 := (At_slice.1 (AtF.at _ k3))
  obtain ⟨_, _, x1, x2, _, o3⟩ := o3
  cases x1
  cases x2
  have o3 := o3.one
  have k4 := h4
  replace h4 := AtF_slice.1 h4
  obtain ⟨v4, l4, rfl, rfl, w4, hv4⟩ := h4
  have o4 := (At_slice.1 (AtF.at _ k4))
  obtain ⟨_, _, x1, x2, _, o4⟩ := o4
  cases x1
  cases x2
  have o4 := o4.one
  simp only [cntP, cntPs_cons, cntPs_nil, Nat.add_zero] at hcnt
  obtain ⟨kk, hkk⟩ : ∃ kk, kk = k + cntPs (l.take i) := ⟨_, rfl⟩
  rw [← hkk] at r1
  obtain ⟨id0, off0, cells0, w0, K0, ev0, eg0, ei0, ek0, ew0, ea0, en0, es0, er0, et0⟩ := AtF.field [] g3 hn (i := i) (us1 := []) (u := (.int n0)) (us2 := [(.int n1), (.str s2), (.lst l3), (.lst l4)]) hx0 rfl rfl
  simp only [V.slc.injEq, Option.some.injEq, Prod.mk.injEq] at ev0
  obtain ⟨⟨rfl, rfl⟩, _⟩ := ev0
  simp only [af, Sh.size_st, Sh.sizes_cons, Sh.sizes_nil, Sh.size_str, Sh.size_slice, Sh.size_int, Sh.size_bool, List.cons_append, List.nil_append, Nat.reduceAdd, Nat.add_zero] at eg0 ew0 et0 er0
  obtain ⟨_, rfl⟩ := AtF_int.1 ea0
  have st0 := store1 (v := (.int .i64 kk)) eg0 (List.getElem?_eq_some_iff.1 ew0).1 rfl rfl
  have A0 := et0 (.int .i64 kk) (.int kk) (AtF_int.2 ⟨⟨_, rfl, rfl, wf_nat (by omega)⟩, rfl⟩)
  obtain ⟨G0, hG0⟩ : ∃ G', G' = G.set id (.mk true 5 (cells0.set (off + i * 5) (.int .i64 kk))) := ⟨_, rfl⟩
  rw [← hG0] at st0 A0
  have ln0 : G0.length = H.length := by rw [hG0, List.length_set]; exact g1
  have fr0 : ∀ q, q ∉ F → G0[q]? = H[q]? := fun q hq => by rw [hG0, List.getElem?_set_ne (by rintro rfl; exact hq e6)]; exact g2 q hq
  clear hG0
  obtain ⟨kk0, hkk0⟩ : ∃ n, n = kk + 1 := ⟨_, rfl⟩
  have hw0 : IntKind.i64.wrap ((kk : Int) + 1) = (kk0 : Int) := by rw [wrap_i64 (by omega) (by omega)]; omega
  have hx0_ : (L.set i (.st [(.int kk), (.int n1), (.str s2), (.lst l3), (.lst l4)]))[i]? = some (.st [(.int kk), (.int n1), (.str s2), (.lst l3), (.lst l4)]) := List.getElem?_set_self (by omega)
  obtain ⟨id1, off1, cells1, w1, K1, ev1, eg1, ei1, ek1, ew1, ea1, en1, es1, er1, et1⟩ := AtF.field [(.int .i64)] A0 hn (i := i) (us1 := [(.int kk)]) (u := (.int n1)) (us2 := [(.str s2), (.lst l3), (.lst l4)]) hx0_ rfl rfl
  simp only [V.slc.injEq, Option.some.injEq, Prod.mk.injEq] at ev1
  obtain ⟨⟨rfl, rfl⟩, _⟩ := ev1
  simp only [af, Sh.size_st, Sh.sizes_cons, Sh.sizes_nil, Sh.size_str, Sh.size_slice, Sh.size_int, Sh.size_bool, List.cons_append, List.nil_append, Nat.reduceAdd, Nat.add_zero] at eg1 ew1 et1 er1
  obtain ⟨_, rfl⟩ := AtF_int.1 ea1
  have st1 := store1 (v := (.int .i64 kk0)) eg1 (List.getElem?_eq_some_iff.1 ew1).1 rfl rfl
  have A1 := et1 (.int .i64 kk0) (.int kk0) (AtF_int.2 ⟨⟨_, rfl, rfl, wf_nat (by omega)⟩, rfl⟩)
  obtain ⟨G1, hG1⟩ : ∃ G', G' = G0.set id (.mk true 5 (cells1.set (off + i * 5 + 1) (.int .i64 kk0))) := ⟨_, rfl⟩
  rw [← hG1] at st1 A1
  have ln1 : G1.length = H.length := by rw [hG1, List.length_set]; exact ln0
  have fr1 : ∀ q, q ∉ F → G1[q]? = H[q]? := fun q hq => by rw [hG1, List.getElem?_set_ne (by rintro rfl; exact hq e6)]; exact fr0 q hq
  clear hG1
  obtain ⟨kk1, hkk1⟩ : ∃ n, n = kk0 + 1 := ⟨_, rfl⟩
  have hw1 : IntKind.i64.wrap ((kk0 : Int) + 1) = (kk1 : Int) := by rw [wrap_i64 (by omega) (by omega)]; omega
  rw [List.set_set] at A1
  have hx1_ : (L.set i (.st [(.int kk), (.int kk0), (.str s2), (.lst l3), (.lst l4)]))[i]? = some (.st [(.int kk), (.int kk0), (.str s2), (.lst l3), (.lst l4)]) := List.getElem?_set_self (by omega)
  obtain ⟨id2, off2, cells2, w2, K2, ev2, eg2, ei2, ek2, ew2, ea2, en2, es2, er2, et2⟩ := AtF.field [(.int .i64), (.int .i64)] A1 hn (i := i) (us1 := [(.int kk), (.int kk0)]) (u := (.str s2)) (us2 := [(.lst l3), (.lst l4)]) hx1_ rfl rfl
  simp only [V.slc.injEq, Option.some.injEq, Prod.mk.injEq] at ev2
  obtain ⟨⟨rfl, rfl⟩, _⟩ := ev2
  simp only [af, Sh.size_st, Sh.sizes_cons, Sh.sizes_nil, Sh.size_str, Sh.size_slice, Sh.size_int, Sh.size_bool, List.cons_append, List.nil_append, Nat.reduceAdd, Nat.add_zero] at eg2 ew2 et2 er2
  obtain ⟨_, rfl⟩ := AtF_str.1 ea2
  have q2 := au (H := G1) (k := kk1) (by omega)
  have st2 := store1 (v := (.str (markStr kk1))) eg2 (List.getElem?_eq_some_iff.1 ew2).1 rfl rfl
  have A2 := et2 (.str (markStr kk1)) (.str (markStr kk1)) (AtF_str.2 ⟨⟨_, rfl, rfl, dm (by omega)⟩, rfl⟩)
  obtain ⟨G2, hG2⟩ : ∃ G', G' = G1.set id (.mk true 5 (cells2.set (off + i * 5 + 2) (.str (markStr kk1)))) := ⟨_, rfl⟩
  rw [← hG2] at st2 A2
  have ln2 : G2.length = H.length := by rw [hG2, List.length_set]; exact ln1
  have fr2 : ∀ q, q ∉ F → G2[q]? = H[q]? := fun q hq => by rw [hG2, List.getElem?_set_ne (by rintro rfl; exact hq e6)]; exact fr1 q hq
  clear hG2
  obtain ⟨kk2, hkk2⟩ : ∃ n, n = kk1 + 1 := ⟨_, rfl⟩
  have hw2 : IntKind.i64.wrap ((kk1 : Int) + 1) = (kk2 : Int) := by rw [wrap_i64 (by omega) (by omega)]; omega
  rw [List.set_set] at A2
  have hx2_ : (L.set i (.st [(.int kk), (.int kk0), (.str (markStr kk1)), (.lst l3), (.lst l4)]))[i]? = some (.st [(.int kk), (.int kk0), (.str (markStr kk1)), (.lst l3), (.lst l4)]) := List.getElem?_set_self (by omega)
  obtain ⟨id3, off3, cells3, w3, K3, ev3, eg3, ei3, ek3, ew3, ea3, en3, es3, er3, et3⟩ := AtF.field [(.int .i64), (.int .i64), .str] A2 hn (i := i) (us1 := [(.int kk), (.int kk0), (.str (markStr kk1))]) (u := (.lst l3)) (us2 := [(.lst l4)]) hx2_ rfl rfl
  simp only [V.slc.injEq, Option.some.injEq, Prod.mk.injEq] at ev3
  obtain ⟨⟨rfl, rfl⟩, _⟩ := ev3
  simp only [af, Sh.size_st, Sh.sizes_cons, Sh.sizes_nil, Sh.size_str, Sh.size_slice, Sh.size_int, Sh.size_bool, List.cons_append, List.nil_append, Nat.reduceAdd, Nat.add_zero] at eg3 ew3 et3 er3
  obtain ⟨G3, q3, ln3, fr3, ma3⟩ := lF G2 [w3] _ K3 kk2 ea3 en3 (by simp only [cntPV, cntP]; omega)
  simp only [valC, List.headD_cons] at q3
  have ld3 := load1 eg3 ew3
  have A3 := er3 G3 (.lst (mkPs l3 kk2)) (fun q _ hq => fr3 q hq) ma3
  have ln3 : G3.length = H.length := by rw [ln3]; first | exact g1 | exact ln2
  have fr3 : ∀ q, q ∉ F → G3[q]? = H[q]? := fun q hq => by rw [fr3 q fun h => hq (es3 q h)]; first | exact g2 q hq | exact fr2 q hq
  obtain ⟨kk3, hkk3⟩ : ∃ n, n = kk2 + cntP (.lst l3) := ⟨_, rfl⟩
  rw [cntPV, ← hkk3] at q3
  simp only [cntP] at hkk3
  rw [List.set_set] at A3
  have hx3_ : (L.set i (.st [(.int kk), (.int kk0), (.str (markStr kk1)), (.lst (mkPs l3 kk2)), (.lst l4)]))[i]? = some (.st [(.int kk), (.int kk0), (.str (markStr kk1)), (.lst (mkPs l3 kk2)), (.lst l4)]) := List.getElem?_set_self (by omega)
  obtain ⟨id4, off4, cells4, w4, K4, ev4, eg4, ei4, ek4, ew4, ea4, en4, es4, er4, et4⟩ := AtF.field [(.int .i64), (.int .i64), .str, (.slice shRdn)] A3 hn (i := i) (us1 := [(.int kk), (.int kk0), (.str (markStr kk1)), (.lst (mkPs l3 kk2))]) (u := (.lst l4)) (us2 := []) hx3_ rfl rfl
  simp only [V.slc.injEq, Option.some.injEq, Prod.mk.injEq] at ev4
  obtain ⟨⟨rfl, rfl⟩, _⟩ := ev4
  simp only [af, Sh.size_st, Sh.sizes_cons, Sh.sizes_nil, Sh.size_str, Sh.size_slice, Sh.size_int, Sh.size_bool, List.cons_append, List.nil_append, Nat.reduceAdd, Nat.add_zero] at eg4 ew4 et4 er4
  obtain ⟨G4, q4, ln4, fr4, ma4⟩ := nU G3 [w4] _ K4 kk3 ea4 en4 (by simp only [cntPV, cntP]; omega)
  simp only [valC, List.headD_cons] at q4
  have ld4 := load1 eg4 ew4
  have A4 := er4 G4 (.lst (mkPs l4 kk3)) (fun q _ hq => fr4 q hq) ma4
  have ln4 : G4.length = H.length := by rw [ln4]; first | exact g1 | exact ln3
  have fr4 : ∀ q, q ∉ F → G4[q]? = H[q]? := fun q hq => by rw [fr4 q fun h => hq (es4 q h)]; first | exact g2 q hq | exact fr3 q hq
  obtain ⟨kk4, hkk4⟩ : ∃ n, n = kk3 + cntP (.lst l4) := ⟨_, rfl⟩
  rw [cntPV, ← hkk4] at q4
  simp only [cntP] at hkk4
  rw [List.set_set] at A4
  have hx4_ : (L.set i (.st [(.int kk), (.int kk0), (.str (markStr kk1)), (.lst (mkPs l3 kk2)), (.lst (mkPs l4 kk3))]))[i]? = some (.st [(.int kk), (.int kk0), (.str (markStr kk1)), (.lst (mkPs l3 kk2)), (.lst (mkPs l4 kk3))]) := List.getElem?_set_self (by omega)
  have hks : k + cntPs (l.take (i + 1)) = kk4 := by omega
  rw [show L.set i (.st [(.int kk), (.int kk0), (.str (markStr kk1)), (.lst (mkPs l3 kk2)), (.lst (mkPs l4 kk3))]) = _ from (by simp only [hkk0, hkk1, hkk2, hkk3, hkk4, hkk]; exact hmk)] at A4
  have hw : IntKind.i64.wrap ((i : Int) + 1) = ((i : Int) + 1) := wrap_i64 (by omega) (by omega)
  have hix : i + 1 ≤ l.length := hi
  simp [r0, r1, r5, hi, hw, st0, hw0, st1, hw1, q2, st2, hw2, q3, ld3, q4, ld4, -setRange]
  exact ⟨m, by omega, i + 1, by omega, _, _, ⟨rfl, rfl⟩, by simp [r0], by simp; omega, by simp, ln4, fr4, A4⟩
theorem jE : aU 254 (.slice af) := by
 intro H cs u k h hk
 obtain ⟨v, l', rfl, hu, hlen, hv⟩ := At_slice.1 h
 obtain ⟨l, rfl, rfl⟩ := mkV_lst hu
 apply Ret.eq
 rw [IR]
 simp only [cntV] at hk ⊢
 have hl64 : (mkPs l k).length ≤ 9223372036854775807 := hlen
 rw [mkPs_len] at hl64
 have hvl := fun {e s b : Nat} {z : List V} => hv.len (e := e) (s := s) (b := b) (z := z)
 simp only [mkPs_len] at hvl
 simp [uB, Tryz.f254, valC]
 refine WP_loop (fun m σ => ∃ (i kk : Nat) (r : Nat → R), i + m = l.length ∧ kk = k + cntPs (l.take i) ∧ σ = ⟨r, 0, H⟩ ∧ r 0 = .val v ∧ r 1 = .val (.int .i64 kk) ∧ r 5 = .val (.int .i64 i)) ?_ l.length _ ⟨0, k, _, by simp, by simp [cntPs], rfl, by simp, by simp, by simp⟩
 rintro m σ ⟨i, kk, r, him, hkk, rfl, r0, r1, r5⟩
 cases m with
 | zero =>
  have hi : i = l.length := by omega
  subst hi
  rw [List.take_length] at hkk
  simp [r0, r1, r5, hvl, hkk]
 | succ m =>
  have hi : i < l.length := by omega
  obtain ⟨x, hx⟩ : ∃ x, l[i]? = some x := ⟨l[i], by simp [hi]⟩
  obtain ⟨eid, o, own, cells, e1, e2, e3, e0⟩ := hv.idx (mkPs_get hx) (by decide)
  rw [← hkk] at e0
  have hcnt := cntPs_take hx
  have hle := cntPs_take_le (l := l) (i := i + 1)
  have hid : eid < H.length := (List.getElem?_eq_some_iff.1 e2).1
  have hw : IntKind.i64.wrap ((i : Int) + 1) = ((i : Int) + 1) := wrap_i64 (by omega) (by omega)
  obtain ⟨us0, hu0, E0⟩ := At_st.1 e0
  obtain ⟨us0, rfl, rfl⟩ := mkP_st hu0
  obtain ⟨c0, d0, u0, rr0, hc0, hu, h0, E1⟩ := Ats_cons.1 E0
  obtain ⟨u0, us0, rfl, rfl, rfl⟩ := mkPs_cons hu
  obtain ⟨s0, rfl, hs, _⟩ := At_int.1 h0
  obtain ⟨⟨t0, rfl⟩, rfl⟩ := mkP_int hs
  obtain ⟨kk1, hkk1⟩ : ∃ n, n = kk + cntP (.int t0) := ⟨_, rfl⟩
  rw [← hkk1] at E1
  obtain ⟨c1, d1, u1, rr1, rfl, hu, h1, E2⟩ := Ats_cons.1 E1
  obtain ⟨u1, us0, rfl, rfl, rfl⟩ := mkPs_cons hu
  obtain ⟨s1, rfl, hs, _⟩ := At_int.1 h1
  obtain ⟨⟨t1, rfl⟩, rfl⟩ := mkP_int hs
  obtain ⟨kk2, hkk2⟩ : ∃ n, n = kk1 + cntP (.int t1) := ⟨_, rfl⟩
  rw [← hkk2] at E2
  obtain ⟨c2, d2, u2, rr2, rfl, hu, h2, E3⟩ := Ats_cons.1 E2
  obtain ⟨u2, us0, rfl, rfl, rfl⟩ := mkPs_cons hu
  obtain ⟨s2, rfl, hs, _⟩ := At_str.1 h2
  obtain ⟨⟨t2, rfl⟩, rfl⟩ := mkP_str hs
  obtain ⟨kk3, hkk3⟩ : ∃ n, n = kk2 + cntP (.str t2) := ⟨_, rfl⟩
  rw [← hkk3] at E3
  obtain ⟨c3, d3, u3, rr3, rfl, hu, h3, E4⟩ := Ats_cons.1 E3
  obtain ⟨u3, us0, rfl, rfl, rfl⟩ := mkPs_cons hu
  have k3 := h3
  obtain ⟨v3, l3, rfl, hs, _, _⟩ := At_slice.1 h3
  obtain ⟨m3, rfl, rfl⟩ := mkP_lst hs
  obtain ⟨kk4, hkk4⟩ : ∃ n, n = kk3 + cntP (.lst m3) := ⟨_, rfl⟩
  rw [← hkk4] at E4
  obtain ⟨c4, d4, u4, rr4, rfl, hu, h4, E5⟩ := Ats_cons.1 E4
  obtain ⟨u4, us0, rfl, rfl, rfl⟩ := mkPs_cons hu
  have k4 := h4
  obtain ⟨v4, l4, rfl, hs, _, _⟩ := At_slice.1 h4
  obtain ⟨m4, rfl, rfl⟩ := mkP_lst hs
  obtain ⟨kk5, hkk5⟩ : ∃ n, n = kk4 + cntP (.lst m4) := ⟨_, rfl⟩
  rw [← hkk5] at E5
  obtain ⟨rfl, hun⟩ := Ats_nil.1 E5
  obtain rfl := mkPs_nil hun
  simp only [List.cons_append, List.nil_append, List.append_nil] at hc0
  simp only [cntP_st, cntPs_cons, cntPs_nil, cntP_str, cntP_int, cntP_bool, Nat.add_zero] at hcnt hkk1 hkk2 hkk3 hkk4 hkk5
  have ld0 := load1 e2 (by simpa using cells_get hc0 (j := 0) rfl)
  have hw0 : IntKind.i64.wrap ((kk : Int) + 1) = (kk1 : Int) := by rw [wrap_i64 (by omega) (by omega)]; omega
  have ld1 := load1 e2 (by simpa using cells_get hc0 (j := 1) rfl)
  have hw1 : IntKind.i64.wrap ((kk1 : Int) + 1) = (kk2 : Int) := by rw [wrap_i64 (by omega) (by omega)]; omega
  have ld2 := load1 e2 (by simpa using cells_get hc0 (j := 2) rfl)
  have hm2 := au (H := H) (k := kk2) (by omega)
  have hw2 : IntKind.i64.wrap ((kk2 : Int) + 1) = (kk3 : Int) := by rw [wrap_i64 (by omega) (by omega)]; omega
  have ld3 := load1 e2 (by simpa using cells_get hc0 (j := 3) rfl)
  have q3 := fQ H [v3] (.lst m3) kk3 k3 (by rw [cntPV]; omega)
  rw [cntPV, ← hkk4] at q3
  simp only [valC, List.headD_cons] at q3
  have p3 : ¬ ((kk4 : Int) < 0) := by omega
  have ld4 := load1 e2 (by simpa using cells_get hc0 (j := 4) rfl)
  have q4 := jk H [v4] (.lst m4) kk4 k4 (by rw [cntPV]; omega)
  rw [cntPV, ← hkk5] at q4
  simp only [valC, List.headD_cons] at q4
  have p4 : ¬ ((kk5 : Int) < 0) := by omega
  rw [show (af).size = 5 from rfl] at e1
  simp [r0, r1, r5, hi, hvl, e1, hid, hw, ld0, hw0, ld1, hw1, ld2, hm2, hw2, ld3, q3, p3, ld4, q4, p4]
  exact ⟨m, by omega, i + 1, by omega, by omega, by omega⟩
theorem lW {t : Str} {H : List Ob} (ht : t.length ≤ 1000) : callW C 263 [.str t] H = some (.bool (dec (Plain t)), H) := by
 apply Ret.dec
 rw [xq]
 simp [bY, Tryz.f263]
 refine WP_loop (fun k σ => ∃ (i : Nat) (r : Nat → R), i + k = t.length ∧ σ = ⟨r, 0, H⟩ ∧ r 0 = .val (.str t) ∧ r 3 = .val (.int .i64 i) ∧ ∀ j, j < i → ∀ c, t[j]? = some c → PlainB c) ?_ t.length _ ⟨0, _, by simp, rfl, by simp, by simp, by simp⟩
 rintro k σ ⟨i, r, hik, rfl, r0, r3, hall⟩
 cases k with
 | zero =>
  have hi : i = t.length := by omega
  subst hi
  simp [r0, r3]
  intro j c hc
  exact hall j (List.getElem?_eq_some_iff.1 hc).1 c hc
 | succ k =>
  have hi : i < t.length := by omega
  obtain ⟨c, hc⟩ : ∃ c, t[i]? = some c := ⟨t[i], by simp [hi]⟩
  have hc' : t[i] = c := (List.getElem?_eq_some_iff.1 hc).2
  have hw : IntKind.i64.wrap ((i : Int) + 1) = ((i : Int) + 1) := wrap_i64 (by omega) (by omega)
  by_cases h1 : (c.toNat : Int) < 32
  ·simp [r0, r3, hi, hc', h1]
   intro hp
   have := (hp i c hc).1
   omega
  ·by_cases h2 : (c.toNat : Int) > 126
   ·simp [r0, r3, hi, hc', h1, h2]
    intro hp
    have := (hp i c hc).2
    omega
   ·simp [r0, r3, hi, hc', h1, h2, hw]
    exact ⟨k, by omega, i + 1, by omega, by omega, all_step (P := fun _ c => PlainB c) hall hc ⟨by omega, by omega⟩⟩
theorem lu {t : Str} {H : List Ob} (ht : t.length ≤ 1000) : callW C 271 [.str t] H = some (.bool (dec (Plain t)), H) := by
 apply Ret.dec
 rw [yL]
 simp [bZ, Tryz.f271]
 refine WP_loop (fun k σ => ∃ (i : Nat) (r : Nat → R), i + k = t.length ∧ σ = ⟨r, 0, H⟩ ∧ r 0 = .val (.str t) ∧ r 5 = .val (.int .i64 t.length) ∧ r 6 = .val (.int .i64 i) ∧ ∀ j, j < i → ∀ c, t[j]? = some c → PlainB c) ?_ t.length _ ⟨0, _, by simp, rfl, by simp, by simp, by simp, by simp⟩
 rintro k σ ⟨i, r, hik, rfl, r0, r5, r6, hall⟩
 cases k with
 | zero =>
  have hi : i = t.length := by omega
  subst hi
  simp [r0, r5, r6]
  intro j c hc
  exact hall j (List.getElem?_eq_some_iff.1 hc).1 c hc
 | succ k =>
  have hi : i < t.length := by omega
  obtain ⟨c, hc⟩ : ∃ c, t[i]? = some c := ⟨t[i], by simp [hi]⟩
  have hc' : t[i] = c := (List.getElem?_eq_some_iff.1 hc).2
  have hw : IntKind.i64.wrap ((i : Int) + 1) = ((i : Int) + 1) := wrap_i64 (by omega) (by omega)
  by_cases h1 : (c.toNat : Int) < 32
  ·simp [r0, r5, r6, hi, hc', h1]
   intro hp
   have := (hp i c hc).1
   omega
  ·by_cases h2 : (c.toNat : Int) > 126
   ·simp [r0, r5, r6, hi, hc', h1, h2]
    intro hp
    have := (hp i c hc).2
    omega
   ·simp [r0, r5, r6, hi, hc', h1, h2, hw]
    exact ⟨k, by omega, i + 1, by omega, by omega, all_step (P := fun _ c => PlainB c) hall hc ⟨by omega, by omega⟩⟩
theorem dZ {t : Str} {H : List Ob} : callW C 44 [.str t] H = some (.bool (dec (NameOk t)), H) := by
 apply Ret.dec
 rw [Di]
 by_cases g1 : (t.length : Int) < 1
 ·have g2 : ¬ NameOk t := fun h => by have := h.1; omega
  simp [bH, Tryz.f44, g1, g2]
 by_cases g2 : (t.length : Int) > 20
 ·have g3 : ¬ NameOk t := fun h => by have := h.2.1; omega
  simp [bH, Tryz.f44, g1, g2, g3]
 simp [bH, Tryz.f44, g1, g2]
 refine WP_loop (fun k σ => ∃ (i : Nat) (r : Nat → R), i + k = t.length ∧ σ = ⟨r, 0, H⟩ ∧ r 0 = .val (.str t) ∧ r 3 = .val (.int .i64 i) ∧ ∀ j, j < i → ∀ c, t[j]? = some c → LowB c ∨ (0 < j ∧ (DigB c ∨ c.toNat = 95))) ?_ t.length _ ⟨0, _, by simp, rfl, by simp, by simp, by simp⟩
 rintro k σ ⟨i, r, hik, rfl, r0, r3, hall⟩
 cases k with
 | zero =>
  have hi : i = t.length := by omega
  subst hi
  have hok : NameOk t := ⟨by omega, by omega, fun j c hc => hall j (List.getElem?_eq_some_iff.1 hc).1 c hc⟩
  simp [r0, r3, hok]
 | succ k =>
  have hi : i < t.length := by omega
  obtain ⟨c, hc⟩ : ∃ c, t[i]? = some c := ⟨t[i], by simp [hi]⟩
  have hc' : t[i] = c := (List.getElem?_eq_some_iff.1 hc).2
  have hw : IntKind.i64.wrap ((i : Int) + 1) = ((i : Int) + 1) := wrap_i64 (by omega) (by omega)
  have hgo : LowB c ∨ (0 < i ∧ (DigB c ∨ c.toNat = 95)) → ∃ k', k' < k + 1 ∧ ∃ i', i' + k' = t.length ∧ (i : Int) + 1 = i' ∧ ∀ j, j < i' → ∀ c, t[j]? = some c → LowB c ∨ (0 < j ∧ (DigB c ∨ c.toNat = 95)) := fun h =>
   ⟨k, by omega, i + 1, by omega, by omega, all_step (P := fun j c => LowB c ∨ (0 < j ∧ (DigB c ∨ c.toNat = 95))) hall hc h⟩
  by_cases h1 : LowB c
  ·have h1a : (c.toNat : Int) ≥ 97 := by have := h1.1; omega
   have h1b : (c.toNat : Int) ≤ 122 := by have := h1.2; omega
   simp [r0, r3, hi, hc', h1a, h1b, hw]
   exact hgo (.inl h1)
  have hl : (¬ (c.toNat : Int) ≥ 97) ∨ ((c.toNat : Int) ≥ 97 ∧ ¬ (c.toNat : Int) ≤ 122) := by unfold LowB at h1; omega
  have hno : ¬ (0 < i ∧ (DigB c ∨ c.toNat = 95)) → ¬ NameOk t := fun h hk => (hk.2.2 i c hc).elim h1 h
  by_cases h2 : i = 0
  ·have hno := hno (by omega)
   subst h2
   rcases hl with hl | ⟨hl, hl2⟩
   ·simp [r0, r3, hi, hc', hl, hno]
   ·simp [r0, r3, hi, hc', hl, hl2, hno]
  have h2' : ¬ (i : Int) = 0 := by omega
  by_cases h3 : DigB c
  ·have h3a : (c.toNat : Int) ≥ 48 := by have := h3.1; omega
   have h3b : (c.toNat : Int) ≤ 57 := by have := h3.2; omega
   have h3c : ¬ (c.toNat : Int) ≥ 97 := by omega
   simp [r0, r3, hi, hc', h2, h3a, h3b, h3c, hw]
   exact hgo (.inr ⟨by omega, .inl h3⟩)
  have hd : (¬ (c.toNat : Int) ≥ 48) ∨ ((c.toNat : Int) ≥ 48 ∧ ¬ (c.toNat : Int) ≤ 57) := by unfold DigB at h3; omega
  by_cases h4 : c.toNat = 95
  ·have := hgo (.inr ⟨by omega, .inr h4⟩)
   simp [r0, r3, hi, hc', h2, h4, hw]
   exact this
  ·have h4' : ¬ (c.toNat : Int) = 95 := by omega
   have hno := hno (fun h => h.2.elim h3 h4)
   rcases hl with hl | ⟨hl, hl2⟩ <;> rcases hd with hd | ⟨hd, hd2⟩
   ·simp [r0, r3, hi, hc', h2, h4', hl, hd, hno]
   ·simp [r0, r3, hi, hc', h2, h4', hl, hd, hd2, hno]
   ·simp [r0, r3, hi, hc', h2, h4', hl, hl2, hd, hno]
   ·simp [r0, r3, hi, hc', h2, h4', hl, hl2, hd, hd2, hno]
def setB (l : Str) : List V := (List.range 256).map fun i => V.bool (l.any fun c => c.toNat == i)
theorem aj {l : Str} : (setB l).length = 256 := by simp [setB]
theorem dN {l : Str} {i : Nat} (h : i < 256) : (setB l)[i]? = some (.bool (l.any fun c => c.toNat == i)) := by
 unfold setB
 rw [List.getElem?_map, List.getElem?_range h]
 rfl
theorem vV {l : Str} {c : UInt8} : (setB l)[c.toNat]? = some (.bool (decide (c ∈ l))) := by
 rw [dN c.toNat_lt]
 congr 2
 rw [Bool.eq_iff_iff]
 simp only [List.any_eq_true, decide_eq_true_eq, beq_iff_eq]
 constructor
 ·rintro ⟨d, hd, he⟩
  rw [← UInt8.toNat_inj.1 he]
  exact hd
 ·intro h
  exact ⟨c, h, rfl⟩
theorem vP : setB [] = List.replicate 256 (.bool false) := by
 apply List.ext_getElem?
 intro i
 by_cases h : i < 256
 ·rw [dN h, List.getElem?_replicate, if_pos h]
  rfl
 ·rw [List.getElem?_eq_none (by rw [aj]; omega), List.getElem?_eq_none (by rw [List.length_replicate]; omega)]
theorem setOf_snoc {l : Str} {c : UInt8} : (setB l).set c.toNat (.bool true) = setB (l ++ [c]) := by
 apply List.ext_getElem?
 intro i
 have hc := c.toNat_lt
 by_cases h : i < 256
 ·rw [dN h]
  by_cases hi : i = c.toNat
  ·subst hi
   rw [List.getElem?_set_self (by rw [aj]; omega)]
   simp
  ·rw [List.getElem?_set_ne (by omega), dN h]
   congr 2
   have : (c.toNat == i) = false := by simp; omega
   simp [this]
 ·rw [List.getElem?_eq_none (by simp [aj]; omega), List.getElem?_eq_none (by rw [aj]; omega)]
theorem EO {t : Str} {H : List Ob} (ht : ∀ c ∈ t, c.toNat < 128) (hl : t.length ≤ 1000) : callW C 209 [.str t] H = some (.tup [.agg (setB t), .bool true], H) := by
 apply Ret.eq
 rw [Jh]
 simp [qR, Tryz.f209, -List.reduceReplicate]
 refine WP_loop (fun k σ => ∃ (i : Nat) (r : Nat → R), i + k = t.length ∧ σ = ⟨r, 1, H⟩ ∧ r 0 = .val (.str t) ∧ r 2 = .box 0 (setB (t.take i)) ∧ r 4 = .val (.int .i64 i)) ?_ t.length _ ⟨0, _, by simp, rfl, by simp, by simp [vP, -List.reduceReplicate], by simp⟩
 rintro k σ ⟨i, r, hik, rfl, r0, r2, r4⟩
 cases k with
 | zero =>
  have hi : i = t.length := by omega
  subst hi
  rw [List.take_length] at r2
  have htk : (setB t).take 256 = setB t := List.take_of_length_le (by rw [aj]; omega)
  have hdr : (setB t).drop 256 = [] := List.drop_of_length_le (by rw [aj]; omega)
  have hall : ∀ x ∈ setB t, isOne x = true := fun x hx => by
   simp only [setB, List.mem_map] at hx
   obtain ⟨_, _, rfl⟩ := hx
   rfl
  simp [r0, r2, r4, aj, htk, hdr, if_pos hall, -List.reduceReplicate]
 | succ k =>
  have hi : i < t.length := by omega
  obtain ⟨c, hc⟩ : ∃ c, t[i]? = some c := ⟨t[i], by simp [hi]⟩
  have hc' : t[i] = c := (List.getElem?_eq_some_iff.1 hc).2
  have hw : IntKind.i64.wrap ((i : Int) + 1) = ((i : Int) + 1) := wrap_i64 (by omega) (by omega)
  have h128 : c.toNat < 128 := ht c (List.mem_of_getElem? hc)
  have h1 : ¬ (c.toNat : Int) ≥ 128 := by omega
  have h2 : (c.toNat : Int) < 256 := by omega
  have h3 : c.toNat < 256 := by omega
  have hs : setRange (setB (t.take i)) c.toNat [.bool true] = setB (t.take (i + 1)) := by rw [setRange_one (by rw [aj]; omega), setOf_snoc, take_get hc]
  have h4 : c.toNat + 1 ≤ 256 := by omega
  simp [r0, r2, r4, hi, hc', h1, h2, h3, h4, hw, aj, hs, indexR, -setRange, -List.reduceReplicate]
  exact ⟨k, by omega, i + 1, by omega, rfl, by omega⟩
theorem yh {l : Str} {H : List Ob} {id : Nat} {own : Bool} {c : UInt8} (h : H[id]? = some (.mk own 1 (setB l))) : callW C 278 [.ptr (some (id, 0)), .int .u8 c.toNat] H = some (.bool (decide (c ∈ l)), H) := by
 apply Ret.eq
 rw [Ez]
 have h2 : (c.toNat : Int) < 256 := by have := c.toNat_lt; omega
 have ld := load1 (o := c.toNat) h vV
 simp [tX, Tryz.f278, indexR, h2, ld, -List.reduceReplicate]
def kset : Str := [97, 98, 99, 100, 101, 102, 103, 104, 105, 106, 107, 108, 109, 110, 111, 112, 113, 114, 115, 116, 117, 118, 119, 120, 121, 122, 48, 49, 50, 51, 52, 53, 54, 55, 56, 57, 95]
theorem jw {c : UInt8} : c ∈ kset ↔ LowB c ∨ DigB c ∨ c.toNat = 95 := by
 unfold kset LowB DigB
 simp only [List.mem_cons, List.not_mem_nil, or_false, ← UInt8.toNat_inj]
 have h := c.toNat_lt
 simp only [UInt8.toNat_ofNat, Nat.reducePow, Nat.reduceMod]
 omega
def bJ (t : Str) : Prop := ∀ c ∈ t, c ∈ kset
theorem ES {t : Str} {H : List Ob} {id : Nat} {own : Bool} (h : H[id]? = some (.mk own 1 (setB kset))) (hl : t.length ≤ 1000) : ∃ s, callW C 211 [.str t, .ptr (some (id, 0))] H = some (.str s, H) ∧ (bJ s ↔ bJ t) ∧ (s = [] ∨ ¬ bJ s) ∧ s.length ≤ 1000 := by
 suffices hs : Ret C 211 [.str t, .ptr (some (id, 0))] H fun q H' => (∃ s, q = .str s ∧ (bJ s ↔ bJ t) ∧ (s = [] ∨ ¬ bJ s) ∧ s.length ≤ 1000) ∧ H' = H by
  obtain ⟨q, H', hc, ⟨s, rfl, hr⟩, rfl⟩ := hs
  exact ⟨s, hc, hr⟩
 rw [IK]
 simp [ut, Tryz.f211, -List.reduceReplicate]
 refine WP_loop (fun k σ => ∃ (s : Str) (r : Nat → R), s.length = k ∧ σ = ⟨r, 0, H⟩ ∧ r 0 = .val (.str s) ∧ r 1 = .val (.ptr (some (id, 0))) ∧ (bJ s ↔ bJ t) ∧ s.length ≤ 1000) ?_ t.length _ ⟨t, _, rfl, rfl, by simp, by simp, Iff.rfl, hl⟩
 rintro k σ ⟨s, r, hk, rfl, r0, r1, hall, hs⟩
 cases k with
 | zero =>
  have hs0 : s = [] := List.length_eq_zero_iff.1 hk
  subst hs0
  simp [r0, r1]
  exact hall
 | succ k =>
  have hp : (0 : Int) < (s.length : Int) := by omega
  have hne : s ≠ [] := by rintro rfl; simp at hk
  obtain ⟨d, hd⟩ : ∃ d, s.getLast hne = d := ⟨_, rfl⟩
  have hd' : s[s.length - 1]? = some d := by rw [← List.getLast?_eq_getElem?, List.getLast?_eq_some_getLast hne, hd]
  have hd2 : s[s.length - 1]'(by omega) = d := (List.getElem?_eq_some_iff.1 hd').2
  have hw1 : IntKind.i64.wrap ((s.length : Int) - 1) = (s.length : Int) - 1 := wrap_i64 (by omega) (by omega)
  have h3 : (1 : Int) ≤ (s.length : Int) := by omega
  have h4 : ((s.length : Int) - 1).toNat = s.length - 1 := by omega
  have h5 : s.length - 1 < s.length := by omega
  have c1 := yh (c := d) h
  have hdrop : s = s.take (s.length - 1) ++ [d] := by
   have := take_get hd'
   rw [show s.length - 1 + 1 = s.length by omega, List.take_length] at this
   exact this
  by_cases hm : d ∈ kset
  ·have h6 : s.length - 1 ≤ s.length := by omega
   simp [r0, r1, hp, hne, hw1, h3, h4, h5, h6, hd2, hd', c1, hm, -List.reduceReplicate]
   refine ⟨by omega, k, by omega, _, by simp; omega, rfl, ?_, by simp; omega⟩
   rw [← hall]
   constructor
   ·intro hA c hc
    rw [hdrop] at hc
    rcases List.mem_append.1 hc with hc | hc
    ·exact hA c hc
    ·simp at hc; rw [hc]; exact hm
   ·intro hA c hc
    exact hA c (List.mem_of_mem_take hc)
  ·have hn : ¬ bJ s := fun hA => hm (hA d (List.mem_of_getElem? hd'))
   simp [r0, r1, hp, hne, hw1, h3, h4, h5, hd2, hd', c1, hm, -List.reduceReplicate]
   exact ⟨by omega, hall, hn, hs⟩
theorem Eh {t : Str} {H : List Ob} {id : Nat} {own : Bool} (h : H[id]? = some (.mk own 1 (setB kset))) (hl : t.length ≤ 1000) : ∃ s, callW C 210 [.str t, .ptr (some (id, 0))] H = some (.str s, H) ∧ (bJ s ↔ bJ t) ∧ (s = [] ∨ ¬ bJ s) := by
 suffices hs : Ret C 210 [.str t, .ptr (some (id, 0))] H fun q H' => (∃ s, q = .str s ∧ (bJ s ↔ bJ t) ∧ (s = [] ∨ ¬ bJ s)) ∧ H' = H by
  obtain ⟨q, H', hc, ⟨s, rfl, hr⟩, rfl⟩ := hs
  exact ⟨s, hc, hr⟩
 rw [I5]
 simp [sJ, Tryz.f210, -List.reduceReplicate]
 refine WP_loop (fun k σ => ∃ (s : Str) (r : Nat → R), s.length = k ∧ σ = ⟨r, 0, H⟩ ∧ r 0 = .val (.str s) ∧ r 1 = .val (.ptr (some (id, 0))) ∧ (bJ s ↔ bJ t)) ?_ t.length _ ⟨t, _, rfl, rfl, by simp, by simp, Iff.rfl⟩
 rintro k σ ⟨s, r, hk, rfl, r0, r1, hall⟩
 cases k with
 | zero =>
  have hs0 : s = [] := List.length_eq_zero_iff.1 hk
  subst hs0
  simp [r0, r1]
  exact hall
 | succ k =>
  match s, hk with
  | d :: s, hk =>
  have hk' : s.length = k := by simpa using hk
  have c1 := yh (c := d) h
  have hp : (0 : Int) < (s.length : Int) + 1 := by omega
  by_cases hm : d ∈ kset
  ·simp [r0, r1, hp, c1, hm, -List.reduceReplicate]
   refine ⟨k, by omega, s, hk', rfl, ?_⟩
   rw [← hall]
   constructor
   ·intro hA c hc
    rcases List.mem_cons.1 hc with rfl | hc
    ·exact hm
    ·exact hA c hc
   ·intro hA c hc
    exact hA c (List.mem_cons_of_mem _ hc)
  ·have hn : ¬ bJ (d :: s) := fun hA => hm (hA d List.mem_cons_self)
   simp [r0, r1, hp, c1, hm, -List.reduceReplicate]
   exact ⟨hall, hn⟩
theorem eH {c : UInt8} (h1 : 65 ≤ c.toNat) (h2 : c.toNat ≤ 90) : IntKind.u8.wrap ((c.toNat : Int) + 32) = ((lowC c).toNat : Int) := by
 have : lowC c = c + 32 := by unfold lowC; rw [if_pos ⟨h1, h2⟩]
 rw [this]
 unfold IntKind.wrap
 simp [IntKind.bits, IntKind.signed, UInt8.toNat_add]
theorem bT {c : UInt8} (h1 : 65 ≤ c.toNat) (h2 : c.toNat ≤ 90) : (lowC c).toNat = c.toNat + 32 := by
 have : lowC c = c + 32 := by unfold lowC; rw [if_pos ⟨h1, h2⟩]
 rw [this, UInt8.toNat_add]
 have : c.toNat + 32 < 256 := by omega
 simp
 omega
theorem fB {c : UInt8} (h : ¬ (65 ≤ c.toNat ∧ c.toNat ≤ 90)) : lowC c = c := by unfold lowC; rw [if_neg h]
theorem bI {c : UInt8} : c = 32 ↔ c.toNat = 32 := ⟨fun h => by rw [h]; rfl, fun h => UInt8.toNat_inj.1 h⟩
theorem bD {t : Str} {i : Nat} {c : UInt8} (h : t[i]? = some c) (f : Str → UInt8 → Str) (b : Str) : (t.take (i + 1)).foldl f b = f ((t.take i).foldl f b) c := by
 rw [take_get h, List.foldl_append]
 rfl
theorem ae {b : Str} {d : UInt8} (h : b.getLast? = some d) : endSp b = true ↔ d = 32 := by
 unfold endSp
 rw [h]
 simp
theorem aV {b : Str} (h : b ≠ []) : ∃ d, b.getLast? = some d := ⟨b.getLast h, List.getLast?_eq_some_getLast h⟩
theorem bW {t : Str} {H : List Ob} : callW C 186 [.str t] H = some (.str (norm t), H) := by
 apply Ret.eq
 rw [yI]
 by_cases g1 : (t.length : Int) > 100
 ·have : norm t = [] := by unfold norm; rw [if_neg (by omega)]
  simp [aS, Tryz.f186, g1, this]
 have hp := lW (t := t) (H := H) (by omega)
 by_cases g2 : Plain t
 rotate_left
 ·rw [dec_neg g2] at hp
  have : norm t = [] := by unfold norm; rw [dec_neg g2]; simp
  simp [aS, Tryz.f186, g1, hp, this]
 rw [dec_pos g2] at hp
 have hn : norm t = nfin (t.foldl nstep []) := by unfold norm; rw [if_pos ⟨by omega, dec_pos g2⟩]
 have hbz : ∀ i, ((t.take i).foldl nstep []).length ≤ 100 := fun i => by
  have := foldl_len (t.take i) []
  simp at this
  omega
 simp [aS, Tryz.f186, g1, hp, elemT, fillL, zerosL, St.new]
 refine WP_loop (fun k σ => ∃ (i : Nat) (r : Nat → R) (G : List Ob) (v : V), i + k = t.length ∧ σ = ⟨r, 0, G⟩ ∧ r 0 = .val (.str t) ∧ r 3 = .val v ∧ r 4 = .val (.int .i64 i) ∧ Bs H G v ((t.take i).foldl nstep [])) ?_ t.length _ ⟨0, _, _, _, by simp, rfl, by simp, by simp, by simp, Bs.init⟩
 rintro k σ ⟨i, r, G, v, hik, rfl, r0, r3, r4, hB⟩
 have hbl := hbz i
 generalize hb : (t.take i).foldl nstep [] = b at hB hbl
 have hw1 : IntKind.i64.wrap ((b.length : Int) - 1) = (b.length : Int) - 1 := wrap_i64 (by omega) (by omega)
 cases k with
 | zero =>
  have hi : i = t.length := by omega
  subst hi
  rw [List.take_length] at hb
  rw [hb] at hn
  obtain ⟨TT, rfl⟩ := hB.ext
  by_cases hb0 : b = []
  ·subst hb0
   obtain ⟨id, rfl, hst, hsl⟩ := hB.cut (n := 0) (Nat.le_refl _)
   simp [r0, r3, r4, hsl, isByte, bys_mapM, hn, nfin, endSp]
  ·obtain ⟨d, hd⟩ := aV hb0
   have hb1 : 0 < b.length := List.length_pos_iff.2 hb0
   have hb2 : 0 < (b.length : Int) := by omega
   have hb3 : (1 : Int) ≤ (b.length : Int) := by omega
   have hb5 : (b.length : Int) - 1 < (b.length : Int) := by omega
   have hb4 : ((b.length : Int) - 1).toNat = b.length - 1 := by omega
   obtain ⟨id, rfl, hld⟩ := hB.last hd
   by_cases hd32 : d = 32
   ·obtain ⟨_, hv, hst, hsl⟩ := hB.cut (n := b.length - 1) (by omega)
    cases hv
    have he : nfin b = b.take (b.length - 1) := by unfold nfin; rw [if_pos ((ae hd).2 hd32), List.dropLast_eq_take]
    have hd' : (d.toNat : Int) = 32 := by rw [hd32]; rfl
    simp [r0, r3, r4, hb0, hb1, hb2, hb3, hb4, hb5, hw1, hld, hd', hst, hsl, isByte, bys_mapM, hn, he]
   ·obtain ⟨_, hv, hst, hsl⟩ := hB.cut (n := b.length) (Nat.le_refl _)
    cases hv
    have he : nfin b = b := by unfold nfin; rw [if_neg (fun h => hd32 ((ae hd).1 h))]
    have hd' : ¬ (d.toNat : Int) = 32 := by have := mt bI.2 hd32; omega
    rw [List.take_length] at hsl
    simp [r0, r3, r4, hb0, hb1, hb2, hb3, hb4, hb5, hw1, hld, hd', hst, hsl, isByte, bys_mapM, hn, he]
 | succ k =>
  have hi : i < t.length := by omega
  obtain ⟨c, hc⟩ : ∃ c, t[i]? = some c := ⟨t[i], by simp [hi]⟩
  have hc' : t[i] = c := (List.getElem?_eq_some_iff.1 hc).2
  have hw : IntKind.i64.wrap ((i : Int) + 1) = ((i : Int) + 1) := wrap_i64 (by omega) (by omega)
  have hfs := bD hc nstep []
  rw [hb] at hfs
  have hgo : ∀ G' v', Bs H G' v' (nstep b c) → ∃ k', k' < k + 1 ∧ ∃ i', i' + k' = t.length ∧ (i : Int) + 1 = i' ∧ Bs H G' v' ((t.take i').foldl nstep []) := fun G' v' h =>
   ⟨k, by omega, i + 1, by omega, by omega, by rw [hfs]; exact h⟩
  by_cases hup : 65 ≤ c.toNat ∧ c.toNat ≤ 90
  ·have hu1 : (c.toNat : Int) ≥ 65 := by omega
   have hu2 : (c.toNat : Int) ≤ 90 := by omega
   have hlw := eH hup.1 hup.2
   have hl32 : ¬ ((lowC c).toNat : Int) = 32 := by rw [bT hup.1 hup.2]; omega
   have hns : nstep b c = b ++ [lowC c] := by unfold nstep; rw [if_neg (fun h => hl32 (by rw [bI.1 h.1]; rfl))]
   obtain ⟨v', G', ha, hB'⟩ := hB.push (by omega) (c := lowC c) (d := .int .u8) (z := [.int .u8 0]) rfl
   rw [← hns] at hB'
   simp [r0, r3, r4, hi, hc', hu1, hu2, hlw, hl32, elemT, fillL, zerosL, St.new, badArg, ha, hw]
   obtain ⟨k', q1, i', q2, q3, q4⟩ := hgo G' v' hB'
   exact ⟨k', q1, i', q2, _, _, ⟨rfl, rfl⟩, by simp [r0], _, by simp [r3], by simp [q3], q4⟩
  have hlc := fB hup
  have hu : (¬ (c.toNat : Int) ≥ 65) ∨ ((c.toNat : Int) ≥ 65 ∧ ¬ (c.toNat : Int) ≤ 90) := by omega
  by_cases h32 : c = 32
  ·have h32' : (c.toNat : Int) = 32 := by rw [h32]; rfl
   have hu1 : ¬ (c.toNat : Int) ≥ 65 := by omega
   by_cases hb0 : b = []
   ·have hns : nstep b c = b := by unfold nstep; rw [if_pos ⟨by rw [hlc, h32], .inl hb0⟩]
    rw [hns] at hgo
    have hbl0 : b.length = 0 := by rw [hb0]; rfl
    have := hgo G v hB
    simp [r0, r3, r4, hi, hc', h32', hB.len, hbl0, hw]
    obtain ⟨k', q1, i', q2, q3, q4⟩ := this
    exact ⟨k', q1, i', q2, _, _, ⟨rfl, rfl⟩, by simp [r0], _, by simp [r3], by simp [q3], q4⟩
   ·obtain ⟨d, hd⟩ := aV hb0
    have hb1 : 0 < b.length := List.length_pos_iff.2 hb0
    have hb3 : (1 : Int) ≤ (b.length : Int) := by omega
    have hb5 : (b.length : Int) - 1 < (b.length : Int) := by omega
    have hb4 : ((b.length : Int) - 1).toNat = b.length - 1 := by omega
    obtain ⟨id, hv, hld⟩ := hB.last hd
    have hB0 := hB
    subst hv
    by_cases hd32 : d = 32
    ·have hns : nstep b c = b := by unfold nstep; rw [if_pos ⟨by rw [hlc, h32], .inr ((ae hd).2 hd32)⟩]
     rw [hns] at hgo
     have hd' : (d.toNat : Int) = 32 := by rw [hd32]; rfl
     have := hgo G _ hB
     simp [r0, r3, r4, hi, hc', h32', hb0, hb1, hb3, hb4, hb5, hw1, hld, hd', hw]
     obtain ⟨k', q1, i', q2, q3, q4⟩ := this
     exact ⟨k', q1, i', q2, _, _, ⟨rfl, rfl⟩, by simp [r0], _, by simp [r3], by simp [q3], q4⟩
    ·have hns : nstep b c = b ++ [c] := by unfold nstep; rw [if_neg (fun h => h.2.elim hb0 (fun h => hd32 ((ae hd).1 h))), hlc]
     have hd' : ¬ (d.toNat : Int) = 32 := by have := mt bI.2 hd32; omega
     obtain ⟨v', G', ha, hB'⟩ := hB.push (by omega) (c := c) (d := .int .u8) (z := [.int .u8 0]) rfl
     rw [← hns] at hB'
     rw [h32'] at ha
     simp [r0, r3, r4, hi, hc', h32', hb0, hb1, hb3, hb4, hb5, hw1, hld, hd', elemT, fillL, zerosL, St.new, badArg, ha, hw]
     obtain ⟨k', q1, i', q2, q3, q4⟩ := hgo G' v' hB'
     exact ⟨k', q1, i', q2, _, _, ⟨rfl, rfl⟩, by simp [r0], _, by simp [r3], by simp [q3], q4⟩
  ·have h32' : ¬ (c.toNat : Int) = 32 := by have := mt bI.2 h32; omega
   have hns : nstep b c = b ++ [c] := by unfold nstep; rw [if_neg (fun h => h32 (hlc ▸ h.1)), hlc]
   obtain ⟨v', G', ha, hB'⟩ := hB.push (by omega) (c := c) (d := .int .u8) (z := [.int .u8 0]) rfl
   rw [← hns] at hB'
   have := hgo G' v' hB'
   rcases hu with hu | ⟨hu, hu2⟩
   ·simp [r0, r3, r4, hi, hc', hu, h32', elemT, fillL, zerosL, St.new, badArg, ha, hw]
    obtain ⟨k', q1, i', q2, q3, q4⟩ := this
    exact ⟨k', q1, i', q2, _, _, ⟨rfl, rfl⟩, by simp [r0], _, by simp [r3], by simp [q3], q4⟩
   ·simp [r0, r3, r4, hi, hc', hu, hu2, h32', elemT, fillL, zerosL, St.new, badArg, ha, hw]
    obtain ⟨k', q1, i', q2, q3, q4⟩ := this
    exact ⟨k', q1, i', q2, _, _, ⟨rfl, rfl⟩, by simp [r0], _, by simp [r3], by simp [q3], q4⟩
end Go.Proofs.Try1
end
