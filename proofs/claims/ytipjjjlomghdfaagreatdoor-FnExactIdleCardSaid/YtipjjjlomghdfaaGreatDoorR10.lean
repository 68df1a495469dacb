/- Part 10 of the proof of a law: the interpreter, its soundness, and what functions of the program compute over it. Conditions: none but those that each theorem names. -/
import Derived.Test.YtipjjjlomghdfaaGreatDoorR08
import Derived.Test.YtipjjjlomghdfaaGreatDoorR09
import Derived.Test.YtipjjjlomghdfaaGreatDoorR05
import Derived.Test.YtipjjjlomghdfaaGreatDoorR07
import Derived.Lib.Bytealg

set_option linter.all false
set_option maxRecDepth 20000
set_option maxHeartbeats 40000000
section
namespace Go.Lite
open Go
def Le (G G' : List Ob) : Prop := ∃ S, G' = G ++ S
def Up (G G' : List Ob) : Prop := ∀ (q : Nat) o, G[q]? = some o → G'[q]? = some o
section
variable {A B D G G' : List Ob} {sh : Sh} {cs : List V} {u : U} {F : List Nat} {b e : Nat}
theorem Le.refl : Le A A := ⟨[], by simp⟩
theorem Le.app {T : List Ob} : Le A (A ++ T) := ⟨T, rfl⟩
theorem Le.trans (h : Le A B) (k : Le B D) : Le A D := by
 obtain ⟨S, rfl⟩ := h
 obtain ⟨T, rfl⟩ := k
 exact ⟨S ++ T, by rw [List.append_assoc]⟩
theorem Le.len (h : Le A B) : A.length ≤ B.length := by obtain ⟨S, rfl⟩ := h; simp
theorem Le.up (h : Le A B) : Up A B := by obtain ⟨S, rfl⟩ := h; exact up_append
theorem Up.refl : Up A A := fun _ _ h => h
theorem Up.trans (h : Up A B) (k : Up B D) : Up A D := fun q o hq => k q o (h q o hq)
theorem At.Up (h : At A sh cs u) (k : Up A B) : At B sh cs u := At.up k sh h
theorem At.Le (h : At A sh cs u) (k : Le A B) : At B sh cs u := At.up k.up sh h
theorem New.Le (h : New b e A sh cs u) (k : Le A B) : New b e B sh cs u := by obtain ⟨S, rfl⟩ := k; exact h.ext
theorem Up.frame (h : ∀ q, q < A.length → B[q]? = A[q]?) : Up A B := fun q o hq => by
 rw [h q (List.getElem?_eq_some_iff.1 hq).1]; exact hq
theorem isOne_cells {v : V} (h : isOne v = true) : cellsOf v = some [v] := by cases v <;> first | rfl | simp [isOne] at h
theorem ones_all (h : At A sh cs u) : ∀ x ∈ cs, isOne x = true ∧ cellsOf x = some [x] := fun x hx => by
 have := List.all_eq_true.1 (At.ones _ h) x hx
 exact ⟨this, isOne_cells this⟩
theorem list6 {α : Type} {l : List α} (h : l.length = 6) : ∃ a b c d e f, l = [a, b, c, d, e, f] := by
 match l, h with
 | [a, b, c, d, e, f], _ => exact ⟨a, b, c, d, e, f, rfl⟩
end
theorem Sl.each {H : List Ob} {n : Nat} {R : List V → U → Prop} {v : V} {l : List U} (h : Sl H n R v l) : ∀ u ∈ l, ∃ cs, R cs u := by
 intro u hu
 rcases h with ⟨_, rfl⟩ | ⟨id, off, own, cells, _, _, _, h4⟩
 ·cases hu
 ·obtain ⟨i, hi, rfl⟩ := List.getElem_of_mem hu
  exact ⟨_, h4 i _ (List.getElem?_eq_getElem hi)⟩
end Go.Lite
end
section
namespace Go.Proofs.Try1
open Go Go.Lite
section
variable {f k b e : Nat} {sh : Sh} {H : List Ob} {cs ds : List V} {u : U}
theorem toN (hf : aiH f sh) (h : At H sh cs u) (hw : wt u ≤ 1048576) : ∃ G cs', callW C f [valC sh cs] H = some (valC sh cs', G) ∧ Le H G ∧ New H.length G.length G sh cs' u := by
 obtain ⟨S, cs', F, c1, a1, n1, g1⟩ := hf H cs u h hw
 exact ⟨_, cs', c1, ⟨S, rfl⟩, F, a1, n1, fun q hq => ⟨g1 q hq, AtF.mem _ a1 q hq⟩⟩
theorem eqN (hf : aiG f sh) (h : At H sh cs u) (h' : At H sh ds u) : callW C f [valC sh cs, valC sh ds] H = some (.bool true, H) := by
 obtain ⟨t, ht, c⟩ := hf H cs ds u u h h'
 obtain rfl := ht.2 rfl
 exact c
end
end Go.Proofs.Try1
end
section
namespace Go.Lite
open Go
def ThenW (Q : Ex → St → Prop) : Option St → Prop
 | some σ => Q .norm σ
 | none => False
theorem ThenW_some {Q : Ex → St → Prop} {σ : St} : ThenW Q (some σ) ↔ Q .norm σ := Iff.rfl
theorem ThenW_none {Q : Ex → St → Prop} : ThenW Q none ↔ False := Iff.rfl
theorem WP_regionF {C : Ctx} {f id : Nat} {ops : Array Oper} {draw : Bool} {σ : St} {Q : Ex → St → Prop} : WP C f (.region id ops draw) σ Q ↔ ThenW Q (regionL C (callW C) f id ops draw σ) := by
 rw [WP_region]
 cases regionL C (callW C) f id ops draw σ with
 | none => simp [ThenW]
 | some σ1 => exact ⟨fun ⟨_, h, hq⟩ => by cases h; exact hq, fun h => ⟨σ1, rfl, h⟩⟩
def CondW (C : Ctx) (f : Nat) (a b : Code) (σ : St) (Q : Ex → St → Prop) (o : Option V) : Prop := ∃ t, o = some (.bool t) ∧ if t = true then WP C f a σ Q else WP C f b σ Q
theorem WP_condF {C : Ctx} {f : Nat} {c : Operand} {a b : Code} {σ : St} {Q : Ex → St → Prop} : WP C f (.cond c a b) σ Q ↔ CondW C f a b σ Q (ev σ c) := WP_cond
theorem CondW_true {C : Ctx} {f : Nat} {a b : Code} {σ : St} {Q : Ex → St → Prop} : CondW C f a b σ Q (some (.bool true)) ↔ WP C f a σ Q := by simp [CondW]
theorem CondW_false {C : Ctx} {f : Nat} {a b : Code} {σ : St} {Q : Ex → St → Prop} : CondW C f a b σ Q (some (.bool false)) ↔ WP C f b σ Q := by simp [CondW]
theorem CondW_bool {C : Ctx} {f : Nat} {a b : Code} {σ : St} {Q : Ex → St → Prop} {t : Bool} : CondW C f a b σ Q (some (.bool t)) ↔ if t = true then WP C f a σ Q else WP C f b σ Q := by simp [CondW]
section
variable {σ : St} {C : Ctx}
end
def oddC (c : UInt8) : Bool := c == 44 || c == 43 || c == 34 || c == 92 || c == 60 || c == 62 || c == 59 || c == 61
def oddAt (t : Str) (i : Nat) (c : UInt8) : Bool := oddC c || (c == 35 && i == 0) || (c == 32 && (i == 0 || i + 1 == t.length))
def escB (t : Str) (i : Nat) : Str := match t[i]? with
 | some c => if oddAt t i c = true then [92, c] else [c]
 | none => []
def escN (t : Str) : Nat → Str
 | 0 => []
 | n + 1 => escN t n ++ escB t n
def esc (t : Str) : Str := escN t t.length
def txtB (dn : List PRdn) (i : Nat) : Str := match dn[i]? with
 | some r => (if 0 < i then [44] else []) ++ r.attr ++ [61] ++ esc r.value
 | none => []
def txtN (dn : List PRdn) : Nat → Str
 | 0 => []
 | n + 1 => txtN dn n ++ txtB dn n
def txt (dn : List PRdn) : Str := txtN dn dn.length
theorem escB_len (t : Str) (i : Nat) : (escB t i).length ≤ 2 := by
 unfold escB
 split
 ·split <;> simp
 ·simp
theorem escN_len (t : Str) : ∀ n, (escN t n).length ≤ 2 * n
 | 0 => by simp [escN]
 | n + 1 => by
  have := escN_len t n
  have := escB_len t n
  simp only [escN, List.length_append]
  omega
theorem esc_len (t : Str) : (esc t).length ≤ 2 * t.length := escN_len t _
theorem txtB_len {dn : List PRdn} (hd : DnOk dn) (i : Nat) : (txtB dn i).length ≤ 102 := by
 unfold txtB
 split
 ·rename_i r hr
  have h1 := (hd.1 i r hr).1.2.1
  have h2 := (hd.1 i r hr).2.2.1
  have h3 := esc_len r.value
  simp only [List.length_append, List.length_cons, List.length_nil]
  split <;> simp <;> omega
 ·simp
theorem txtN_len {dn : List PRdn} (hd : DnOk dn) : ∀ n, (txtN dn n).length ≤ 102 * n
 | 0 => by simp [txtN]
 | n + 1 => by
  have := txtN_len hd n
  have := txtB_len hd n
  simp only [txtN, List.length_append]
  omega
theorem txt_len {dn : List PRdn} (hd : DnOk dn) : (txt dn).length ≤ 612 := by
 have := txtN_len hd dn.length
 have := hd.2
 unfold txt
 omega
theorem indexByte_nn : ∀ (l : List UInt8) (c : UInt8), 0 ≤ Lib.indexByte l c ↔ c ∈ l
 | [], c => by simp [Lib.indexByte]
 | b :: l, c => by
  unfold Lib.indexByte
  have ih := indexByte_nn l c
  have lo : -1 ≤ Lib.indexByte l c := by
   clear ih
   induction l with
   | nil => simp [Lib.indexByte]
   | cons x l ih => unfold Lib.indexByte; split <;> (try split) <;> omega
  by_cases h : b = c
  ·subst h; simp
  ·have hb : (b == c) = false := by simpa using h
   simp only [hb, Bool.false_eq_true, if_false, List.mem_cons]
   by_cases h1 : Lib.indexByte l c = -1
   ·simp only [h1, beq_self_eq_true, if_true]
    have : ¬ c ∈ l := fun hm => by have := ih.2 hm; omega
    simp [this, Ne.symm h]
   ·have h1' : (Lib.indexByte l c == -1) = false := by simpa using h1
    simp only [h1', Bool.false_eq_true, if_false]
    have : c ∈ l := ih.1 (by omega)
    simp [this]
    omega
inductive Esc : Str → Str → Prop
 | nil : Esc [] []
 | mark (c : UInt8) {w v : Str} : Esc w v → Esc (92 :: c :: w) (c :: v)
 | plain (c : UInt8) {w v : Str} : c ≠ 44 → c ≠ 92 → Esc w v → Esc (c :: w) (c :: v)
theorem Esc.snoc {w v : Str} (h : Esc w v) (c : UInt8) (m : Bool) (hc : m = false → c ≠ 44 ∧ c ≠ 92) : Esc (w ++ if m = true then [92, c] else [c]) (v ++ [c]) := by
 induction h with
 | nil => cases m with
  | true => exact .mark c .nil
  | false => exact .plain c (hc rfl).1 (hc rfl).2 .nil
 | mark d h ih => exact .mark d ih
 | plain d h1 h2 h ih => exact .plain d h1 h2 ih
theorem esc_take (t : Str) : ∀ n, n ≤ t.length → Esc (escN t n) (t.take n)
 | 0, _ => by simpa [escN] using Esc.nil
 | n + 1, h => by
  have hn : n < t.length := by omega
  have e : t[n]? = some t[n] := List.getElem?_eq_getElem hn
  have := (esc_take t n (by omega)).snoc t[n] (oddAt t n t[n]) (fun hm => by
   unfold oddAt oddC at hm
   constructor
   ·intro hh; rw [hh] at hm; simp at hm
   ·intro hh; rw [hh] at hm; simp at hm)
  have e1 : escN t (n + 1) = escN t n ++ if oddAt t n t[n] = true then [92, t[n]] else [t[n]] := by
   show escN t n ++ escB t n = _
   unfold escB
   rw [e]
  rw [e1, List.take_add_one, e]
  exact this
theorem esc_esc (t : Str) : Esc (esc t) t := by
 have := esc_take t t.length (Nat.le_refl _)
 rwa [List.take_length] at this
def cutG : Str → Str → List Str
 | b, [] => [b]
 | b, [c] => if c = 44 then [b, []] else [b ++ [c]]
 | b, c :: d :: t => if c = 92 then cutG (b ++ [c, d]) t else if c = 44 then b :: cutG [] (d :: t) else cutG (b ++ [c]) (d :: t)
def bare : Str → Str
 | [] => []
 | [c] => [c]
 | c :: d :: t => if c = 92 then d :: bare t else c :: bare (d :: t)
theorem bare_esc {w v : Str} (h : Esc w v) : bare w = v := by
 induction h with
 | nil => rfl
 | mark c h ih => simp [bare, ih]
 | plain c h1 h2 h ih =>
  rename_i w v
  cases w with
  | nil => cases h; rfl
  | cons d w => simp only [bare, if_neg h2, ih]
theorem cut_step {b t : Str} {c : UInt8} (h1 : c ≠ 44) (h2 : c ≠ 92) : cutG b (c :: t) = cutG (b ++ [c]) t := by
 cases t with
 | nil => simp [cutG, h1]
 | cons d t => simp [cutG, h1, h2]
theorem cut_comma {b t : Str} : cutG b (44 :: t) = b :: cutG [] t := by
 cases t with
 | nil => simp [cutG]
 | cons d t => simp [cutG]
theorem cut_esc {w v : Str} (h : Esc w v) : ∀ (b rest : Str), cutG b (w ++ rest) = cutG (b ++ w) rest := by
 induction h with
 | nil => intro b rest; simp
 | mark c h ih => intro b rest; simp only [List.cons_append, cutG, if_true]; rw [ih]; simp
 | plain c h1 h2 h ih => intro b rest; rw [List.cons_append, cut_step h1 h2, ih]; simp
theorem cut_name : ∀ (n : Str), (∀ c ∈ n, c ≠ 44 ∧ c ≠ 92) → ∀ (b rest : Str), cutG b (n ++ rest) = cutG (b ++ n) rest
 | [], _, b, rest => by simp
 | c :: n, h, b, rest => by
  rw [List.cons_append, cut_step (h c (by simp)).1 (h c (by simp)).2, cut_name n (fun d hd => h d (by simp [hd]))]
  simp
def pieceT (r : PRdn) : Str := r.attr ++ [61] ++ esc r.value
def txtL : List PRdn → Str
 | [] => []
 | [r] => pieceT r
 | r :: s :: p => pieceT r ++ [44] ++ txtL (s :: p)
theorem name_bytes {n : Str} (h : NameOk n) : ∀ c ∈ n, c ≠ 44 ∧ c ≠ 92 ∧ c ≠ 61 := fun c hc => by
 obtain ⟨i, hi, rfl⟩ := List.getElem_of_mem hc
 have := h.2.2 i _ (List.getElem?_eq_getElem hi)
 refine ⟨fun e => ?_, fun e => ?_, fun e => ?_⟩ <;> (rw [e] at this; simp [LowB, DigB] at this)
theorem cut_piece {r : PRdn} (hn : NameOk r.attr) (rest : Str) : cutG [] (pieceT r ++ rest) = cutG (pieceT r) rest := by
 unfold pieceT
 rw [List.append_assoc, List.append_assoc, cut_name _ (fun c hc => ⟨(name_bytes hn c hc).1, (name_bytes hn c hc).2.1⟩), List.singleton_append, cut_step (by decide) (by decide), cut_esc (esc_esc _)]
 simp
theorem cut_txtL : ∀ (p : List PRdn), (∀ r ∈ p, NameOk r.attr) → p ≠ [] → cutG [] (txtL p) = p.map pieceT
 | [], _, h => absurd rfl h
 | [r], hn, _ => by
  have := cut_piece (hn r (by simp)) []
  rw [List.append_nil] at this
  simp only [txtL, this, cutG, List.map_cons, List.map_nil]
 | r :: s :: p, hn, _ => by
  simp only [txtL]
  rw [List.append_assoc, cut_piece (hn r (by simp)), List.singleton_append, cut_comma, cut_txtL (s :: p) (fun x hx => hn x (List.mem_cons_of_mem _ hx)) (by simp)]
  rfl
def splitEq : Str → Option (Str × Str)
 | [] => none
 | c :: t => if c = 61 then some ([], t) else (splitEq t).map fun q => (c :: q.1, q.2)
def rdnS (t : Str) : PRdn := match splitEq t with
 | none => ⟨[], []⟩
 | some q => ⟨q.1, bare q.2⟩
theorem split_name : ∀ (n w : Str), (∀ c ∈ n, c ≠ 61) → splitEq (n ++ 61 :: w) = some (n, w)
 | [], w, _ => by simp [splitEq]
 | c :: n, w, h => by
  rw [List.cons_append]
  unfold splitEq
  rw [if_neg (h c (by simp)), split_name n w (fun d hd => h d (by simp [hd]))]
  rfl
theorem rdn_piece {r : PRdn} (hn : NameOk r.attr) : rdnS (pieceT r) = r := by
 unfold rdnS pieceT
 rw [List.append_assoc, List.singleton_append, split_name _ _ (fun c hc => (name_bytes hn c hc).2.2)]
 simp only [bare_esc (esc_esc _)]
def readS (t : Str) : List PRdn := if t = [] then [] else (cutG [] t).map rdnS
theorem txtL_snoc : ∀ (p : List PRdn) (r : PRdn), txtL (p ++ [r]) = (if p = [] then pieceT r else txtL p ++ [44] ++ pieceT r)
 | [], r => by simp [txtL]
 | [a], r => by simp [txtL]
 | a :: b :: p, r => by
  have ih := txtL_snoc (b :: p) r
  simp only [List.cons_append, txtL, if_neg (List.cons_ne_nil _ _)] at ih ⊢
  rw [ih]
  simp
theorem txtN_txtL (dn : List PRdn) : ∀ n, n ≤ dn.length → txtN dn n = txtL (dn.take n)
 | 0, _ => by simp [txtN, txtL]
 | n + 1, h => by
  have hn : n < dn.length := by omega
  have e : dn[n]? = some dn[n] := List.getElem?_eq_getElem hn
  show txtN dn n ++ txtB dn n = _
  rw [txtN_txtL dn n (by omega), List.take_add_one, e]
  simp only [Option.toList_some]
  rw [txtL_snoc]
  unfold txtB
  rw [e]
  by_cases h0 : n = 0
  ·subst h0; simp [txtL, pieceT]
  ·have h1 : ¬ dn.take n = [] := fun hh => by
    have := congrArg List.length hh
    rw [List.length_take, List.length_nil] at this
    omega
   rw [if_neg h1]
   have h2 : 0 < n := by omega
   simp [h2, pieceT]
theorem txt_txtL (dn : List PRdn) : txt dn = txtL dn := by
 have := txtN_txtL dn dn.length (Nat.le_refl _)
 rwa [List.take_length] at this
theorem txtL_ne {dn : List PRdn} (h : dn ≠ []) : txtL dn ≠ [] := by
 match dn, h with
 | [r], _ => simp [txtL, pieceT]
 | r :: s :: p, _ => simp [txtL, pieceT]
theorem readS_txt {dn : List PRdn} (hn : ∀ r ∈ dn, NameOk r.attr) : readS (txt dn) = dn := by
 rw [txt_txtL]
 unfold readS
 by_cases h : dn = []
 ·subst h; rfl
 ·rw [if_neg (txtL_ne h), cut_txtL dn hn h, List.map_map]
  conv => rhs; rw [← List.map_id dn]
  exact List.map_congr_left fun r hr => rdn_piece (hn r hr)
def readG : List PRdn → PRdn → Bool → Str → List PRdn
 | out, now, _, [] => out ++ [now]
 | out, now, false, c :: t => if c = 61 then readG out now true t else readG out ⟨now.attr ++ [c], now.value⟩ false t
 | out, now, true, [c] => if c = 44 then out ++ [now] ++ [⟨[], []⟩] else out ++ [⟨now.attr, now.value ++ [c]⟩]
 | out, now, true, c :: d :: t => if c = 44 then readG (out ++ [now]) ⟨[], []⟩ false (d :: t) else if c = 92 then readG out ⟨now.attr, now.value ++ [d]⟩ true t else readG out ⟨now.attr, now.value ++ [c]⟩ true (d :: t)
def readI (t : Str) : List PRdn := if t = [] then [] else readG [] ⟨[], []⟩ false t
theorem read_name : ∀ (n : Str), (∀ c ∈ n, c ≠ 61) → ∀ out now rest, readG out now false (n ++ rest) = readG out ⟨now.attr ++ n, now.value⟩ false rest
 | [], _, out, now, rest => by simp
 | c :: n, h, out, now, rest => by
  rw [List.cons_append]
  conv => lhs; unfold readG
  rw [if_neg (h c (by simp)), read_name n (fun d hd => h d (by simp [hd]))]
  simp
theorem read_plain {c : UInt8} (h1 : c ≠ 44) (h2 : c ≠ 92) (out now t) : readG out now true (c :: t) = readG out ⟨now.attr, now.value ++ [c]⟩ true t := by
 cases t with
 | nil => simp [readG, h1]
 | cons d t => simp [readG, h1, h2]
theorem read_comma (out now t) : readG out now true (44 :: t) = readG (out ++ [now]) ⟨[], []⟩ false t := by
 cases t with
 | nil => simp [readG]
 | cons d t => simp [readG]
theorem read_esc {w v : Str} (h : Esc w v) : ∀ out now rest, readG out now true (w ++ rest) = readG out ⟨now.attr, now.value ++ v⟩ true rest := by
 induction h with
 | nil => intro out now rest; simp
 | mark c h ih =>
  intro out now rest
  simp only [List.cons_append]
  conv => lhs; unfold readG
  rw [if_neg (by decide), if_pos rfl, ih]
  simp
 | plain c h1 h2 h ih =>
  intro out now rest
  rw [List.cons_append, read_plain h1 h2, ih]
  simp
theorem read_piece {r : PRdn} (hn : NameOk r.attr) (out rest) : readG out ⟨[], []⟩ false (pieceT r ++ rest) = readG out r true rest := by
 unfold pieceT
 rw [List.append_assoc, List.append_assoc, read_name _ (fun c hc => (name_bytes hn c hc).2.2), List.singleton_append]
 conv => lhs; unfold readG
 rw [if_pos rfl, read_esc (esc_esc _)]
 simp
theorem read_txtL : ∀ (p : List PRdn), (∀ r ∈ p, NameOk r.attr) → p ≠ [] → ∀ out, readG out ⟨[], []⟩ false (txtL p) = out ++ p
 | [], _, h, _ => absurd rfl h
 | [r], hn, _, out => by
  have := read_piece (hn r (by simp)) out []
  rw [List.append_nil] at this
  simp only [txtL, this, readG]
 | r :: s :: p, hn, _, out => by
  simp only [txtL]
  rw [List.append_assoc, read_piece (hn r (by simp)), List.singleton_append, read_comma, read_txtL (s :: p) (fun x hx => hn x (List.mem_cons_of_mem _ hx)) (by simp)]
  simp
theorem readI_txt {dn : List PRdn} (hn : ∀ r ∈ dn, NameOk r.attr) : readI (txt dn) = dn := by
 rw [txt_txtL]
 unfold readI
 by_cases h : dn = []
 ·subst h; rfl
 ·rw [if_neg (txtL_ne h), read_txtL dn hn h]
  simp
theorem read_both {t : Str} : (DnOk (readS t) ∧ txt (readS t) = t) ↔ (DnOk (readI t) ∧ txt (readI t) = t) := by
 constructor
 ·rintro ⟨h1, h2⟩
  have : readI t = readS t := by
   conv => lhs; rw [← h2]
   exact readI_txt fun r hr => by
    obtain ⟨j, hj, rfl⟩ := List.getElem_of_mem hr
    exact (h1.1 j _ (List.getElem?_eq_getElem hj)).1
  rw [this]; exact ⟨h1, h2⟩
 ·rintro ⟨h1, h2⟩
  have : readS t = readI t := by
   conv => lhs; rw [← h2]
   exact readS_txt fun r hr => by
    obtain ⟨j, hj, rfl⟩ := List.getElem_of_mem hr
    exact (h1.1 j _ (List.getElem?_eq_getElem hj)).1
  rw [this]; exact ⟨h1, h2⟩
theorem read_same {t : Str} (h : DnOk (readS t) ∧ txt (readS t) = t) : readI t = readS t := by
 conv => lhs; rw [← h.2]
 exact readI_txt fun r hr => by
  obtain ⟨j, hj, rfl⟩ := List.getElem_of_mem hr
  exact (h.1.1 j _ (List.getElem?_eq_getElem hj)).1
theorem cut_len (b t : Str) : (cutG b t).length ≤ t.length + 1 := by
 induction b, t using cutG.induct with
 | case1 b => simp [cutG]
 | case2 b => simp [cutG]
 | case3 b c h => simp [cutG, h]
 | case4 b d t ih => rw [cutG, if_pos rfl]; simp at ih ⊢; omega
 | case5 b d t h ih => rw [cutG, if_neg h, if_pos rfl]; simp at ih ⊢; omega
 | case6 b c d t h1 h2 ih => rw [cutG, if_neg h1, if_neg h2]; simp at ih ⊢; omega
theorem cut_bound (b t : Str) : ∀ s ∈ cutG b t, s.length ≤ b.length + t.length := by
 induction b, t using cutG.induct with
 | case1 b => intro s hs; simp [cutG] at hs; subst hs; simp
 | case2 b => intro s hs; simp [cutG] at hs; rcases hs with rfl | rfl <;> simp
 | case3 b c h => intro s hs; simp [cutG, h] at hs; subst hs; simp
 | case4 b d t ih => intro s hs; rw [cutG, if_pos rfl] at hs; have := ih s hs; simp at this ⊢; omega
 | case5 b d t h ih =>
  intro s hs
  rw [cutG, if_neg h, if_pos rfl] at hs
  rcases List.mem_cons.1 hs with rfl | hs
  ·simp
  ·have := ih s hs; simp at this ⊢; omega
 | case6 b c d t h1 h2 ih => intro s hs; rw [cutG, if_neg h1, if_neg h2] at hs; have := ih s hs; simp at this ⊢; omega
theorem bare_len (w : Str) : (bare w).length ≤ w.length := by
 induction w using bare.induct with
 | case1 => simp [bare]
 | case2 c => simp [bare]
 | case3 d t ih => rw [bare, if_pos rfl]; simp; omega
 | case4 c d t h ih => rw [bare, if_neg h]; simp at ih ⊢; omega
theorem splitEq_len : ∀ (t : Str) q, splitEq t = some q → q.1.length ≤ t.length ∧ q.2.length ≤ t.length
 | [], q, h => by cases h
 | c :: t, q, h => by
  unfold splitEq at h
  split at h
  ·cases h; simp
  ·cases hs : splitEq t with
   | none => rw [hs] at h; cases h
   | some p =>
    rw [hs] at h
    cases h
    have := splitEq_len t p hs
    simp
    omega
theorem rdnS_len (t : Str) : (rdnS t).attr.length ≤ t.length ∧ (rdnS t).value.length ≤ t.length := by
 unfold rdnS
 cases h : splitEq t with
 | none => simp
 | some q =>
  have h1 := splitEq_len t q h
  have h2 := bare_len q.2
  simp
  omega
theorem readS_len {t : Str} : (readS t).length ≤ t.length + 1 := by
 unfold readS
 split
 ·simp
 ·have := cut_len [] t
  simp
  exact this
def ReadOk (t : Str) : Prop := DnOk (readS t) ∧ txt (readS t) = t
def ReadOkI (t : Str) : Prop := DnOk (readI t) ∧ txt (readI t) = t
theorem readOk_iff {t : Str} : ReadOk t ↔ ReadOkI t := read_both
theorem readOk_nil : ReadOk [] := by
 have e : readS [] = [] := rfl
 exact ⟨by rw [e]; exact ⟨fun i r h => by simp at h, by simp⟩, by rw [e]; rfl⟩
theorem readG_eq {out : List PRdn} {now : PRdn} {t : Str} : readG out now false (61 :: t) = readG out now true t := by
 conv => lhs; unfold readG
 rw [if_pos rfl]
theorem readG_name {out : List PRdn} {now : PRdn} {c : UInt8} {t : Str} (h : c ≠ 61) : readG out now false (c :: t) = readG out ⟨now.attr ++ [c], now.value⟩ false t := by
 conv => lhs; unfold readG
 rw [if_neg h]
theorem readG_mark {out : List PRdn} {now : PRdn} {d : UInt8} {t : Str} : readG out now true (92 :: d :: t) = readG out ⟨now.attr, now.value ++ [d]⟩ true t := by
 conv => lhs; unfold readG
 rw [if_neg (by decide), if_pos rfl]
theorem readG_one {out : List PRdn} {now : PRdn} {c : UInt8} (h : c ≠ 44) : readG out now true [c] = readG out ⟨now.attr, now.value ++ [c]⟩ true [] := by
 conv => lhs; unfold readG
 rw [if_neg h]
 rfl
theorem readG_nil {out : List PRdn} {now : PRdn} {b : Bool} : readG out now b [] = out ++ [now] := by
 unfold readG
 cases b <;> rfl
theorem drop_cons {t : Str} {i : Nat} {c : UInt8} (h : t[i]? = some c) : t.drop i = c :: t.drop (i + 1) := by
 obtain ⟨hi, rfl⟩ := List.getElem?_eq_some_iff.1 h
 exact List.drop_eq_getElem_cons hi
theorem piece_one {t : Str} {i : Nat} {c : UInt8} (h : t[i]? = some c) : (t.take (i + 1)).drop i = [c] := by
 obtain ⟨hi, rfl⟩ := List.getElem?_eq_some_iff.1 h
 rw [List.take_add_one, List.getElem?_eq_getElem hi, Option.toList_some, List.drop_append_of_le_length (by simp; omega), List.drop_of_length_le (by simp; omega), List.nil_append]
section
variable {H : List Ob} {fs gs : List Sh} {cs : List V} {u : U} {us : List U}
theorem At_un : At H (.st fs) cs (.st us) ↔ Ats H fs cs us := by
 rw [At_st]
 exact ⟨fun ⟨_, h1, h2⟩ => by cases h1; exact h2, fun h => ⟨_, rfl, h⟩⟩
theorem Ats_str {s : Str} : Ats H (.str :: fs) cs (.str s :: us) ↔ ∃ c, cs = .str s :: c ∧ s.length ≤ maxLen ∧ Ats H fs c us := by
 rw [Ats_cons]
 constructor
 ·rintro ⟨c1, c2, u1, us1, rfl, hu, h1, h2⟩
  cases hu
  obtain ⟨_, rfl, hs, hl⟩ := At_str.1 h1
  cases hs
  exact ⟨c2, rfl, hl, h2⟩
 ·rintro ⟨c, rfl, hl, h⟩
  exact ⟨[_], c, _, _, rfl, rfl, At_str.2 ⟨_, rfl, rfl, hl⟩, h⟩
theorem Ats_int {k : IntKind} {n : Int} : Ats H (.int k :: fs) cs (.int n :: us) ↔ ∃ c, cs = .int k n :: c ∧ (Lit.int k n).wf = true ∧ Ats H fs c us := by
 rw [Ats_cons]
 constructor
 ·rintro ⟨c1, c2, u1, us1, rfl, hu, h1, h2⟩
  cases hu
  obtain ⟨_, rfl, hs, hl⟩ := At_int.1 h1
  cases hs
  exact ⟨c2, rfl, hl, h2⟩
 ·rintro ⟨c, rfl, hl, h⟩
  exact ⟨[_], c, _, _, rfl, rfl, At_int.2 ⟨_, rfl, rfl, hl⟩, h⟩
theorem Ats_bool {b : Bool} : Ats H (.bool :: fs) cs (.bool b :: us) ↔ ∃ c, cs = .bool b :: c ∧ Ats H fs c us := by
 rw [Ats_cons]
 constructor
 ·rintro ⟨c1, c2, u1, us1, rfl, hu, h1, h2⟩
  cases hu
  obtain ⟨_, rfl, hs⟩ := At_bool.1 h1
  cases hs
  exact ⟨c2, rfl, h2⟩
 ·rintro ⟨c, rfl, h⟩
  exact ⟨[_], c, _, _, rfl, rfl, At_bool.2 ⟨_, rfl, rfl⟩, h⟩
theorem Ats_slc {e : Sh} : Ats H (.slice e :: fs) cs (u :: us) ↔ ∃ v c, cs = v :: c ∧ At H (.slice e) [v] u ∧ Ats H fs c us := by
 rw [Ats_cons]
 constructor
 ·rintro ⟨c1, c2, u1, us1, rfl, hu, h1, h2⟩
  cases hu
  obtain ⟨v, _, rfl, _⟩ := At_slice.1 h1
  exact ⟨v, c2, rfl, h1, h2⟩
 ·rintro ⟨v, c, rfl, h1, h2⟩
  exact ⟨[v], c, _, _, rfl, rfl, h1, h2⟩
theorem Ats_sub : Ats H (.st gs :: fs) cs (u :: us) ↔ ∃ c1 c, cs = c1 ++ c ∧ At H (.st gs) c1 u ∧ Ats H fs c us := by
 rw [Ats_cons]
 constructor
 ·rintro ⟨c1, c2, u1, us1, rfl, hu, h1, h2⟩
  cases hu
  exact ⟨c1, c2, rfl, h1, h2⟩
 ·rintro ⟨c1, c, rfl, h1, h2⟩
  exact ⟨c1, c, _, _, rfl, rfl, h1, h2⟩
theorem Ats_end : Ats H [] cs [] ↔ cs = [] := by rw [Ats_nil]; simp
theorem Ats_strT (h : Ats H (.str :: fs) cs us) : ∃ s us' c, us = .str s :: us' ∧ Ats H fs c us' := by
 obtain ⟨c1, c2, u1, us1, rfl, rfl, h1, h2⟩ := Ats_cons.1 h
 obtain ⟨s, rfl, rfl, hl⟩ := At_str.1 h1
 exact ⟨s, us1, c2, rfl, h2⟩
theorem Ats_intT {k : IntKind} (h : Ats H (.int k :: fs) cs us) : ∃ n us' c, us = .int n :: us' ∧ Ats H fs c us' := by
 obtain ⟨c1, c2, u1, us1, rfl, rfl, h1, h2⟩ := Ats_cons.1 h
 obtain ⟨s, rfl, rfl, hl⟩ := At_int.1 h1
 exact ⟨s, us1, c2, rfl, h2⟩
theorem Ats_boolT (h : Ats H (.bool :: fs) cs us) : ∃ b us' c, us = .bool b :: us' ∧ Ats H fs c us' := by
 obtain ⟨c1, c2, u1, us1, rfl, rfl, h1, h2⟩ := Ats_cons.1 h
 obtain ⟨s, rfl, rfl⟩ := At_bool.1 h1
 exact ⟨s, us1, c2, rfl, h2⟩
theorem Ats_slcT {α : Type} {f : α → U} {e : Sh} (hf : ∀ cs u, At H e cs u → ∃ x : α, u = f x) (h : Ats H (.slice e :: fs) cs us) : ∃ (l : List α) (us' : List U) (c : List V), us = .lst (l.map f) :: us' ∧ Ats H fs c us' := by
 obtain ⟨c1, c2, u1, us1, rfl, rfl, h1, h2⟩ := Ats_cons.1 h
 obtain ⟨v, l, rfl, rfl, _⟩ := ASl.typed hf h1
 exact ⟨l, us1, c2, rfl, h2⟩
theorem Ats_subT {α : Type} {f : α → U} {e : Sh} (hf : ∀ cs u, At H e cs u → ∃ x : α, u = f x) (h : Ats H (e :: fs) cs us) : ∃ (x : α) (us' : List U) (c : List V), us = f x :: us' ∧ Ats H fs c us' := by
 obtain ⟨c1, c2, u1, us1, rfl, rfl, h1, h2⟩ := Ats_cons.1 h
 obtain ⟨x, rfl⟩ := hf _ _ h1
 exact ⟨x, us1, c2, rfl, h2⟩
theorem str_typed {cs : List V} {u : U} (h : At H .str cs u) : ∃ x : Str, u = strU x := by obtain ⟨s, _, rfl, _⟩ := At_str.1 h; exact ⟨s, rfl⟩
end
abbrev shRule : Sh := .st [.str, .slice shRdn, .slice .str, .int .i64, .bool]
abbrev shChange : Sh := .st [.int .i64, .int .i64, .str, shEntry]
abbrev shChanges : Sh := .st [.int .i64, .slice shChange]
abbrev shServer : Sh := .st [shTree, .slice shRule, shChanges, .str]
abbrev shRow : Sh := .st [.int .i64, .str, .str, .str, .bool, .int .i64, .bool]
abbrev shTable : Sh := .st [.int .i64, .int .i64, .slice shRow]
abbrev shWorld : Sh := .st [shServer, shTable, shFlow, .int .i64, .int .i64]
structure PRule where
 who : Str
 base : List PRdn
 attrs : List Str
 right : Int
 allow : Bool
def PRule.u (r : PRule) : U := .st [.str r.who, .lst (r.base.map PRdn.u), .lst (r.attrs.map strU), .int r.right, .bool r.allow]
structure PChange where
 number : Int
 kind : Int
 dn : Str
 entry : PEntry
def PChange.u (x : PChange) : U := .st [.int x.number, .int x.kind, .str x.dn, x.entry.u]
structure PServer where
 tree : PTree
 acl : List PRule
 next : Int
 list : List PChange
 who : Str
def PServer.u (s : PServer) : U := .st [s.tree.u, .lst (s.acl.map PRule.u), .st [.int s.next, .lst (s.list.map PChange.u)], .str s.who]
structure PRow where
 id : Int
 login : Str
 mail : Str
 phone : Str
 on : Bool
 usn : Int
 gone : Bool
abbrev PRow.cs (r : PRow) : List V := [.int .i64 r.id, .str r.login, .str r.mail, .str r.phone, .bool r.on, .int .i64 r.usn, .bool r.gone]
def PRow.u (r : PRow) : U := .st [.int r.id, .str r.login, .str r.mail, .str r.phone, .bool r.on, .int r.usn, .bool r.gone]
structure PTable where
 next : Int
 usn : Int
 rows : List PRow
def PTable.u (t : PTable) : U := .st [.int t.next, .int t.usn, .lst (t.rows.map PRow.u)]
structure PWorld where
 server : PServer
 table : PTable
 flow : PFlow
 mark : Int
 usn : Int
def PWorld.u (w : PWorld) : U := .st [w.server.u, w.table.u, w.flow.u, .int w.mark, .int w.usn]
abbrev ARules (H : List Ob) (v : V) (l : List PRule) : Prop := ASl H shRule PRule.u v l
abbrev AChanges (H : List Ob) (v : V) (l : List PChange) : Prop := ASl H shChange PChange.u v l
abbrev ARows (H : List Ob) (v : V) (l : List PRow) : Prop := ASl H shRow PRow.u v l
section
variable {H : List Ob} {cs : List V} {u : U} {v : V}
theorem rule_at {x : PRule} : At H shRule cs x.u ↔ ∃ w1 w2, cs = [.str x.who, w1, w2, .int .i64 x.right, .bool x.allow] ∧ x.who.length ≤ maxLen ∧ ARdns H w1 x.base ∧ AStrs H w2 x.attrs ∧ (Lit.int .i64 x.right).wf = true := by
 unfold PRule.u
 rw [At_un]
 constructor
 ·intro h
  replace h := Ats_str.1 h
  obtain ⟨_, rfl, a1, h⟩ := h
  replace h := Ats_slc.1 h
  obtain ⟨w1, _, rfl, a2, h⟩ := h
  replace h := Ats_slc.1 h
  obtain ⟨w2, _, rfl, a3, h⟩ := h
  replace h := Ats_int.1 h
  obtain ⟨_, rfl, a4, h⟩ := h
  replace h := Ats_bool.1 h
  obtain ⟨_, rfl, h⟩ := h
  cases Ats_end.1 h
  exact ⟨w1, w2, rfl, a1, a2, a3, a4⟩
 ·rintro ⟨w1, w2, rfl, a1, a2, a3, a4⟩
  exact Ats_str.2 ⟨_, rfl, a1, Ats_slc.2 ⟨_, _, rfl, a2, Ats_slc.2 ⟨_, _, rfl, a3, Ats_int.2 ⟨_, rfl, a4, Ats_bool.2 ⟨_, rfl, Ats_end.2 rfl⟩⟩⟩⟩⟩
theorem rule_typed (h : At H shRule cs u) : ∃ x : PRule, u = x.u := by
 replace h := At_st.1 h
 obtain ⟨us, rfl, h⟩ := h
 replace h := Ats_strT h
 obtain ⟨s, us, _, rfl, h⟩ := h
 replace h := Ats_slcT (fun _ _ => rdn_typed) h
 obtain ⟨l1, us, _, rfl, h⟩ := h
 replace h := Ats_slcT (fun _ _ => str_typed) h
 obtain ⟨l2, us, _, rfl, h⟩ := h
 replace h := Ats_intT h
 obtain ⟨n, us, _, rfl, h⟩ := h
 replace h := Ats_boolT h
 obtain ⟨b, us, _, rfl, h⟩ := h
 obtain ⟨_, rfl⟩ := Ats_nil.1 h
 exact ⟨⟨s, l1, l2, n, b⟩, rfl⟩
theorem change_at {x : PChange} : At H shChange cs x.u ↔ ∃ w1 w2, cs = [.int .i64 x.number, .int .i64 x.kind, .str x.dn, w1, w2] ∧ (Lit.int .i64 x.number).wf = true ∧ (Lit.int .i64 x.kind).wf = true ∧ x.dn.length ≤ maxLen ∧ ARdns H w1 x.entry.dn ∧ AAttrs H w2 x.entry.attrs := by
 unfold PChange.u
 rw [At_un]
 constructor
 ·intro h
  replace h := Ats_int.1 h
  obtain ⟨_, rfl, a1, h⟩ := h
  replace h := Ats_int.1 h
  obtain ⟨_, rfl, a2, h⟩ := h
  replace h := Ats_str.1 h
  obtain ⟨_, rfl, a3, h⟩ := h
  replace h := Ats_sub.1 h
  obtain ⟨c1, _, rfl, a4, h⟩ := h
  cases Ats_end.1 h
  obtain ⟨w1, w2, rfl, a4, a5⟩ := entry_at.1 a4
  exact ⟨w1, w2, rfl, a1, a2, a3, a4, a5⟩
 ·rintro ⟨w1, w2, rfl, a1, a2, a3, a4, a5⟩
  exact Ats_int.2 ⟨_, rfl, a1, Ats_int.2 ⟨_, rfl, a2, Ats_str.2 ⟨_, rfl, a3, Ats_sub.2 ⟨[w1, w2], [], rfl, entry_at.2 ⟨_, _, rfl, a4, a5⟩, Ats_end.2 rfl⟩⟩⟩⟩
theorem change_typed (h : At H shChange cs u) : ∃ x : PChange, u = x.u := by
 replace h := At_st.1 h
 obtain ⟨us, rfl, h⟩ := h
 replace h := Ats_intT h
 obtain ⟨n, us, _, rfl, h⟩ := h
 replace h := Ats_intT h
 obtain ⟨k, us, _, rfl, h⟩ := h
 replace h := Ats_strT h
 obtain ⟨s, us, _, rfl, h⟩ := h
 replace h := Ats_subT (fun _ _ => entry_typed) h
 obtain ⟨e, us, _, rfl, h⟩ := h
 obtain ⟨_, rfl⟩ := Ats_nil.1 h
 exact ⟨⟨n, k, s, e⟩, rfl⟩
theorem row_at {x : PRow} : At H shRow cs x.u ↔ cs = x.cs ∧ (Lit.int .i64 x.id).wf = true ∧ x.login.length ≤ maxLen ∧ x.mail.length ≤ maxLen ∧ x.phone.length ≤ maxLen ∧ (Lit.int .i64 x.usn).wf = true := by
 unfold PRow.u
 rw [At_un]
 constructor
 ·intro h
  replace h := Ats_int.1 h
  obtain ⟨_, rfl, a1, h⟩ := h
  replace h := Ats_str.1 h
  obtain ⟨_, rfl, a2, h⟩ := h
  replace h := Ats_str.1 h
  obtain ⟨_, rfl, a3, h⟩ := h
  replace h := Ats_str.1 h
  obtain ⟨_, rfl, a4, h⟩ := h
  replace h := Ats_bool.1 h
  obtain ⟨_, rfl, h⟩ := h
  replace h := Ats_int.1 h
  obtain ⟨_, rfl, a5, h⟩ := h
  replace h := Ats_bool.1 h
  obtain ⟨_, rfl, h⟩ := h
  cases Ats_end.1 h
  exact ⟨rfl, a1, a2, a3, a4, a5⟩
 ·rintro ⟨rfl, a1, a2, a3, a4, a5⟩
  exact Ats_int.2 ⟨_, rfl, a1, Ats_str.2 ⟨_, rfl, a2, Ats_str.2 ⟨_, rfl, a3, Ats_str.2 ⟨_, rfl, a4, Ats_bool.2 ⟨_, rfl, Ats_int.2 ⟨_, rfl, a5, Ats_bool.2 ⟨_, rfl, Ats_end.2 rfl⟩⟩⟩⟩⟩⟩⟩
theorem row_typed (h : At H shRow cs u) : ∃ x : PRow, u = x.u := by
 replace h := At_st.1 h
 obtain ⟨us, rfl, h⟩ := h
 replace h := Ats_intT h
 obtain ⟨a1, us, _, rfl, h⟩ := h
 replace h := Ats_strT h
 obtain ⟨a2, us, _, rfl, h⟩ := h
 replace h := Ats_strT h
 obtain ⟨a3, us, _, rfl, h⟩ := h
 replace h := Ats_strT h
 obtain ⟨a4, us, _, rfl, h⟩ := h
 replace h := Ats_boolT h
 obtain ⟨a5, us, _, rfl, h⟩ := h
 replace h := Ats_intT h
 obtain ⟨a6, us, _, rfl, h⟩ := h
 replace h := Ats_boolT h
 obtain ⟨a7, us, _, rfl, h⟩ := h
 obtain ⟨_, rfl⟩ := Ats_nil.1 h
 exact ⟨⟨a1, a2, a3, a4, a5, a6, a7⟩, rfl⟩
theorem table_at {x : PTable} : At H shTable cs x.u ↔ ∃ w, cs = [.int .i64 x.next, .int .i64 x.usn, w] ∧ (Lit.int .i64 x.next).wf = true ∧ (Lit.int .i64 x.usn).wf = true ∧ ARows H w x.rows := by
 unfold PTable.u
 rw [At_un]
 constructor
 ·intro h
  replace h := Ats_int.1 h
  obtain ⟨_, rfl, a1, h⟩ := h
  replace h := Ats_int.1 h
  obtain ⟨_, rfl, a2, h⟩ := h
  replace h := Ats_slc.1 h
  obtain ⟨w, _, rfl, a3, h⟩ := h
  cases Ats_end.1 h
  exact ⟨w, rfl, a1, a2, a3⟩
 ·rintro ⟨w, rfl, a1, a2, a3⟩
  exact Ats_int.2 ⟨_, rfl, a1, Ats_int.2 ⟨_, rfl, a2, Ats_slc.2 ⟨_, _, rfl, a3, Ats_end.2 rfl⟩⟩⟩
theorem table_typed (h : At H shTable cs u) : ∃ x : PTable, u = x.u := by
 replace h := At_st.1 h
 obtain ⟨us, rfl, h⟩ := h
 replace h := Ats_intT h
 obtain ⟨a1, us, _, rfl, h⟩ := h
 replace h := Ats_intT h
 obtain ⟨a2, us, _, rfl, h⟩ := h
 replace h := Ats_slcT (fun _ _ => row_typed) h
 obtain ⟨l, us, _, rfl, h⟩ := h
 obtain ⟨_, rfl⟩ := Ats_nil.1 h
 exact ⟨⟨a1, a2, l⟩, rfl⟩
theorem server_at {x : PServer} : At H shServer cs x.u ↔ ∃ vs ve va vl, cs = [vs, ve, va, .int .i64 x.next, vl, .str x.who] ∧ AClasses H vs x.tree.schema ∧ AEntries H ve x.tree.entries ∧ ARules H va x.acl ∧ (Lit.int .i64 x.next).wf = true ∧ AChanges H vl x.list ∧ x.who.length ≤ maxLen := by
 unfold PServer.u
 rw [At_un]
 constructor
 ·intro h
  replace h := Ats_sub.1 h
  obtain ⟨c1, _, rfl, a1, h⟩ := h
  replace h := Ats_slc.1 h
  obtain ⟨va, _, rfl, a3, h⟩ := h
  replace h := Ats_sub.1 h
  obtain ⟨c2, _, rfl, a4, h⟩ := h
  replace h := Ats_str.1 h
  obtain ⟨_, rfl, a6, h⟩ := h
  cases Ats_end.1 h
  obtain ⟨vs, ve, rfl, a1, a2⟩ := tree_at.1 a1
  obtain ⟨_, rfl, a7, h4⟩ := Ats_int.1 (At_un.1 a4)
  replace h4 := Ats_slc.1 h4
  obtain ⟨vl, _, rfl, a5, h4⟩ := h4
  cases Ats_end.1 h4
  exact ⟨vs, ve, va, vl, rfl, a1, a2, a3, a7, a5, a6⟩
 ·rintro ⟨vs, ve, va, vl, rfl, a1, a2, a3, a4, a5, a6⟩
  exact Ats_sub.2 ⟨[vs, ve], _, rfl, tree_at.2 ⟨_, _, rfl, a1, a2⟩, Ats_slc.2 ⟨_, _, rfl, a3, Ats_sub.2 ⟨[.int .i64 x.next, vl], _, rfl, At_un.2 (Ats_int.2 ⟨_, rfl, a4, Ats_slc.2 ⟨_, _, rfl, a5, Ats_end.2 rfl⟩⟩), Ats_str.2 ⟨_, rfl, a6, Ats_end.2 rfl⟩⟩⟩⟩
theorem server_typed (h : At H shServer cs u) : ∃ x : PServer, u = x.u := by
 replace h := At_st.1 h
 obtain ⟨us, rfl, h⟩ := h
 replace h := Ats_subT (fun _ _ => tree_typed) h
 obtain ⟨t, us, _, rfl, h⟩ := h
 replace h := Ats_slcT (fun _ _ => rule_typed) h
 obtain ⟨a, us, _, rfl, h⟩ := h
 replace h := Ats_cons.1 h
 obtain ⟨c1, c2, u1, us1, rfl, rfl, h1, h⟩ := h
 replace h1 := At_st.1 h1
 obtain ⟨us2, rfl, h1⟩ := h1
 replace h1 := Ats_intT h1
 obtain ⟨n, us2, _, rfl, h1⟩ := h1
 replace h1 := Ats_slcT (fun _ _ => change_typed) h1
 obtain ⟨l, us2, _, rfl, h1⟩ := h1
 obtain ⟨_, rfl⟩ := Ats_nil.1 h1
 replace h := Ats_strT h
 obtain ⟨s, us, _, rfl, h⟩ := h
 obtain ⟨_, rfl⟩ := Ats_nil.1 h
 exact ⟨⟨t, a, n, l, s⟩, rfl⟩
theorem world_at {x : PWorld} : At H shWorld cs x.u ↔ ∃ c1 c2 c3, cs = c1 ++ (c2 ++ (c3 ++ [.int .i64 x.mark, .int .i64 x.usn])) ∧ At H shServer c1 x.server.u ∧ At H shTable c2 x.table.u ∧ At H shFlow c3 x.flow.u ∧ (Lit.int .i64 x.mark).wf = true ∧ (Lit.int .i64 x.usn).wf = true := by
 unfold PWorld.u
 rw [At_un]
 constructor
 ·intro h
  replace h := Ats_sub.1 h
  obtain ⟨c1, _, rfl, a1, h⟩ := h
  replace h := Ats_sub.1 h
  obtain ⟨c2, _, rfl, a2, h⟩ := h
  replace h := Ats_sub.1 h
  obtain ⟨c3, _, rfl, a3, h⟩ := h
  replace h := Ats_int.1 h
  obtain ⟨_, rfl, a4, h⟩ := h
  replace h := Ats_int.1 h
  obtain ⟨_, rfl, a5, h⟩ := h
  cases Ats_end.1 h
  exact ⟨c1, c2, c3, rfl, a1, a2, a3, a4, a5⟩
 ·rintro ⟨c1, c2, c3, rfl, a1, a2, a3, a4, a5⟩
  exact Ats_sub.2 ⟨_, _, rfl, a1, Ats_sub.2 ⟨_, _, rfl, a2, Ats_sub.2 ⟨_, _, rfl, a3, Ats_int.2 ⟨_, rfl, a4, Ats_int.2 ⟨_, rfl, a5, Ats_end.2 rfl⟩⟩⟩⟩⟩
theorem world_typed (h : At H shWorld cs u) : ∃ x : PWorld, u = x.u := by
 replace h := At_st.1 h
 obtain ⟨us, rfl, h⟩ := h
 replace h := Ats_subT (fun _ _ => server_typed) h
 obtain ⟨s, us, _, rfl, h⟩ := h
 replace h := Ats_subT (fun _ _ => table_typed) h
 obtain ⟨t, us, _, rfl, h⟩ := h
 replace h := Ats_subT (fun _ _ => flow_typed) h
 obtain ⟨f, us, _, rfl, h⟩ := h
 replace h := Ats_intT h
 obtain ⟨m, us, _, rfl, h⟩ := h
 replace h := Ats_intT h
 obtain ⟨n, us, _, rfl, h⟩ := h
 obtain ⟨_, rfl⟩ := Ats_nil.1 h
 exact ⟨⟨s, t, f, m, n⟩, rfl⟩
theorem rules_idx {xs : List PRule} (h : ARules H v xs) {i : Nat} {x : PRule} (hx : xs[i]? = some x) : ∃ id o w1 w2, id < H.length ∧
  (∀ (e s b : Nat) (z : List V) (ty : Nat → LT) (k : IntKind), (ty e).size = 5 → indexR ⟨.slice e, s, b, z⟩ ty (.val v) (.int k i) = some (.val (.ptr (some (id, o))))) ∧
  (∀ T : LT, T.many 5 → ∀ r c, loadAt T ⟨r, c, H⟩ (.hp id o) = some (.agg [.str x.who, w1, w2, .int .i64 x.right, .bool x.allow])) ∧ ARdns H w1 x.base ∧ AStrs H w2 x.attrs := by
 obtain ⟨id, o, own, cells, e1, e2, e3, e4⟩ := ASl.idx h hx (by decide)
 obtain ⟨w1, w2, e4, _, e5, e6, _⟩ := rule_at.1 e4
 exact ⟨id, o, w1, w2, (List.getElem?_eq_some_iff.1 e2).1, e1, loadN e2 e3 (by decide) e4, e5, e6⟩
theorem changes_idx {xs : List PChange} (h : AChanges H v xs) {i : Nat} {x : PChange} (hx : xs[i]? = some x) : ∃ id o w1 w2, id < H.length ∧
  (∀ (e s b : Nat) (z : List V) (ty : Nat → LT) (k : IntKind), (ty e).size = 5 → indexR ⟨.slice e, s, b, z⟩ ty (.val v) (.int k i) = some (.val (.ptr (some (id, o))))) ∧
  (∀ T : LT, T.many 5 → ∀ r c, loadAt T ⟨r, c, H⟩ (.hp id o) = some (.agg [.int .i64 x.number, .int .i64 x.kind, .str x.dn, w1, w2])) ∧ ARdns H w1 x.entry.dn ∧ AAttrs H w2 x.entry.attrs ∧ (Lit.int .i64 x.number).wf = true := by
 obtain ⟨id, o, own, cells, e1, e2, e3, e4⟩ := ASl.idx h hx (by decide)
 obtain ⟨w1, w2, e4, e7, _, _, e5, e6⟩ := change_at.1 e4
 exact ⟨id, o, w1, w2, (List.getElem?_eq_some_iff.1 e2).1, e1, loadN e2 e3 (by decide) e4, e5, e6, e7⟩
theorem rows_idx {xs : List PRow} (h : ARows H v xs) {i : Nat} {x : PRow} (hx : xs[i]? = some x) : ∃ id o, id < H.length ∧
  (∀ (e s b : Nat) (z : List V) (ty : Nat → LT) (k : IntKind), (ty e).size = 7 → indexR ⟨.slice e, s, b, z⟩ ty (.val v) (.int k i) = some (.val (.ptr (some (id, o))))) ∧
  (∀ T : LT, T.many 7 → ∀ r c, loadAt T ⟨r, c, H⟩ (.hp id o) = some (.agg x.cs)) ∧
  (∀ T : LT, T.one → ∀ r c, ∀ j w, x.cs[j]? = some w → loadAt T ⟨r, c, H⟩ (.hp id (o + j)) = some w) := by
 obtain ⟨id, o, own, cells, e1, e2, e3, e4⟩ := ASl.idx h hx (by decide)
 obtain ⟨e4, _⟩ := row_at.1 e4
 exact ⟨id, o, (List.getElem?_eq_some_iff.1 e2).1, e1, loadN e2 e3 (by decide) e4, fun T hT r c j w hw => load1 e2 (cells_get e4 hw) T hT r c⟩
end
def RuleOk (r : PRule) : Prop := (r.who = [42] ∨ NameOk r.who) ∧ DnOk r.base ∧ r.attrs.length ≤ 8 ∧ NamesOk r.attrs ∧ 1 ≤ r.right ∧ r.right ≤ 4
def AclOk (l : List PRule) : Prop := (∀ r ∈ l, RuleOk r) ∧ l.length ≤ 10
def ZeroE (e : PEntry) : Prop := e.dn = [] ∧ e.attrs = []
def KindOk (k : Int) (e : PEntry) : Prop := (1 ≤ k ∧ k ≤ 4) ∧ (k = 2 → ZeroE e) ∧ (k ≠ 2 → EntryOk e)
def ChangeOk (x : PChange) : Prop := ReadOk x.dn ∧ readS x.dn ≠ [] ∧ KindOk x.kind x.entry
def ChangesOk (n : Int) (l : List PChange) : Prop := (1 ≤ n ∧ n ≤ 1000000) ∧ l.length ≤ 40 ∧ (l.length : Int) < n ∧ ∀ (i : Nat) (x : PChange), l[i]? = some x → ChangeOk x ∧ x.number = n - l.length + i
def ServerOk (s : PServer) : Prop := TreeOk s.tree ∧ AclOk s.acl ∧ ChangesOk s.next s.list ∧ NameOk s.who
theorem list17 {α : Type} {l : List α} (h : l.length = 17) : ∃ a0 a1 a2 a3 a4 a5 a6 a7 a8 a9 a10 a11 a12 a13 a14 a15 a16, l = [a0, a1, a2, a3, a4, a5, a6, a7, a8, a9, a10, a11, a12, a13, a14, a15, a16] := by
 match l, h with
 | [a0, a1, a2, a3, a4, a5, a6, a7, a8, a9, a10, a11, a12, a13, a14, a15, a16], _ => exact ⟨a0, a1, a2, a3, a4, a5, a6, a7, a8, a9, a10, a11, a12, a13, a14, a15, a16, rfl⟩
end Go.Lite
end
section
namespace Go.Proofs.Try1
open Go Go.Lite
theorem ar7 : aiG 122 shRule := by
 intro H cs ds u w h h'
 replace h := At_st.1 h
 obtain ⟨usa, rfl, h⟩ := h
 replace h := Ats_cons.1 h
 obtain ⟨ca0, da0, ua0, rra0, rfl, rfl, ha0, h⟩ := h
 replace h := Ats_cons.1 h
 obtain ⟨ca1, da1, ua1, rra1, rfl, rfl, ha1, h⟩ := h
 replace h := Ats_cons.1 h
 obtain ⟨ca2, da2, ua2, rra2, rfl, rfl, ha2, h⟩ := h
 replace h := Ats_cons.1 h
 obtain ⟨ca3, da3, ua3, rra3, rfl, rfl, ha3, h⟩ := h
 replace h := Ats_cons.1 h
 obtain ⟨ca4, da4, ua4, rra4, rfl, rfl, ha4, h⟩ := h
 replace h := Ats_nil.1 h
 obtain ⟨rfl, rfl⟩ := h
 replace ha0 := At_str.1 ha0
 obtain ⟨sa0, rfl, rfl, wa0⟩ := ha0
 have ka1 := ha1
 replace ha1 := At_slice.1 ha1
 obtain ⟨va1, la1, rfl, rfl, wa1, hva1⟩ := ha1
 have oa1 := hva1.one
 have ka2 := ha2
 replace ha2 := At_slice.1 ha2
 obtain ⟨va2, la2, rfl, rfl, wa2, hva2⟩ := ha2
 have oa2 := hva2.one
 replace ha3 := At_int.1 ha3
 obtain ⟨na3, rfl, rfl, wa3⟩ := ha3
 replace ha4 := At_bool.1 ha4
 obtain ⟨ba4, rfl, rfl⟩ := ha4
 replace h' := At_st.1 h'
 obtain ⟨usb, rfl, h'⟩ := h'
 replace h' := Ats_cons.1 h'
 obtain ⟨cb0, db0, ub0, rrb0, rfl, rfl, hb0, h'⟩ := h'
 replace h' := Ats_cons.1 h'
 obtain ⟨cb1, db1, ub1, rrb1, rfl, rfl, hb1, h'⟩ := h'
 replace h' := Ats_cons.1 h'
 obtain ⟨cb2, db2, ub2, rrb2, rfl, rfl, hb2, h'⟩ := h'
 replace h' := Ats_cons.1 h'
 obtain ⟨cb3, db3, ub3, rrb3, rfl, rfl, hb3, h'⟩ := h'
 replace h' := Ats_cons.1 h'
 obtain ⟨cb4, db4, ub4, rrb4, rfl, rfl, hb4, h'⟩ := h'
 replace h' := Ats_nil.1 h'
 obtain ⟨rfl, rfl⟩ := h'
 replace hb0 := At_str.1 hb0
 obtain ⟨sb0, rfl, rfl, wb0⟩ := hb0
 have kb1 := hb1
 replace hb1 := At_slice.1 hb1
 obtain ⟨vb1, lb1, rfl, rfl, wb1, hvb1⟩ := hb1
 have ob1 := hvb1.one
 have kb2 := hb2
 replace hb2 := At_slice.1 hb2
 obtain ⟨vb2, lb2, rfl, rfl, wb2, hvb2⟩ := hb2
 have ob2 := hvb2.one
 replace hb3 := At_int.1 hb3
 obtain ⟨nb3, rfl, rfl, wb3⟩ := hb3
 replace hb4 := At_bool.1 hb4
 obtain ⟨bb4, rfl, rfl⟩ := hb4
 by_cases e0 : sa0 = sb0
 rotate_left
 ·refine ⟨false, by simp [e0], ?_⟩
  apply Ret.eq
  rw [alT]
  simp [ajm, Tryz.f122, valC, e0, oa1, oa2, ob1, ob2]
 subst e0
 obtain ⟨t1, e1, q1⟩ := amE H _ _ _ _ ka1 kb1
 simp only [valC, List.headD_cons, List.append_nil, List.cons_append, List.nil_append] at q1
 cases t1 with
 | false =>
  have e1 : ¬ (.lst la1) = (U.lst lb1) := fun h => by simpa using e1.2 h
  refine ⟨false, by simp only [U.st.injEq, List.cons.injEq, e1, and_false, false_and, Bool.false_eq_true], ?_⟩
  apply Ret.eq
  rw [alT]
  simp [ajm, Tryz.f122, valC, q1, oa1, oa2, ob1, ob2]
 | true =>
 have e1 := e1.1 rfl
 obtain ⟨t2, e2, q2⟩ := ai1 H _ _ _ _ ka2 kb2
 simp only [valC, List.headD_cons, List.append_nil, List.cons_append, List.nil_append] at q2
 cases t2 with
 | false =>
  have e2 : ¬ (.lst la2) = (U.lst lb2) := fun h => by simpa using e2.2 h
  refine ⟨false, by simp only [U.st.injEq, List.cons.injEq, e2, and_false, false_and, Bool.false_eq_true], ?_⟩
  apply Ret.eq
  rw [alT]
  simp [ajm, Tryz.f122, valC, q1, q2, oa1, oa2, ob1, ob2]
 | true =>
 have e2 := e2.1 rfl
 by_cases e3 : na3 = nb3
 rotate_left
 ·refine ⟨false, by simp [e3], ?_⟩
  apply Ret.eq
  rw [alT]
  simp [ajm, Tryz.f122, valC, q1, q2, e3, oa1, oa2, ob1, ob2]
 subst e3
 by_cases e4 : ba4 = bb4
 rotate_left
 ·refine ⟨false, by simp [e4], ?_⟩
  apply Ret.eq
  rw [alT]
  simp [ajm, Tryz.f122, valC, q1, q2, e4, oa1, oa2, ob1, ob2]
 subst e4
 refine ⟨true, by simp only [e1, e2], ?_⟩
 apply Ret.eq
 rw [alT]
 simp [ajm, Tryz.f122, valC, q1, q2, oa1, oa2, ob1, ob2]
theorem ap8 : aiG 51 (.slice shRule) :=
 akd (f := 51) (g := 122) (tS := 38) (tE := 162) (F := Tryz.f51) (op_ren (c := aq5) (by kernel_rfl) aBG) rfl arU awZ (by rw [ao7]; rfl) (by rw [ao7]; rfl) (by rw [ao7]; decide) ar7
theorem apu : aiG 215 shChange := by
 intro H cs ds u w h h'
 replace h := At_st.1 h
 obtain ⟨usa, rfl, h⟩ := h
 replace h := Ats_cons.1 h
 obtain ⟨ca0, da0, ua0, rra0, rfl, rfl, ha0, h⟩ := h
 replace h := Ats_cons.1 h
 obtain ⟨ca1, da1, ua1, rra1, rfl, rfl, ha1, h⟩ := h
 replace h := Ats_cons.1 h
 obtain ⟨ca2, da2, ua2, rra2, rfl, rfl, ha2, h⟩ := h
 replace h := Ats_cons.1 h
 obtain ⟨ca3, da3, ua3, rra3, rfl, rfl, ha3, h⟩ := h
 replace h := Ats_nil.1 h
 obtain ⟨rfl, rfl⟩ := h
 replace ha0 := At_int.1 ha0
 obtain ⟨na0, rfl, rfl, wa0⟩ := ha0
 replace ha1 := At_int.1 ha1
 obtain ⟨na1, rfl, rfl, wa1⟩ := ha1
 replace ha2 := At_str.1 ha2
 obtain ⟨sa2, rfl, rfl, wa2⟩ := ha2
 have ka3 := ha3
 replace ha3 := At_st.1 ha3
 obtain ⟨usa3_, rfl, ha3⟩ := ha3
 replace ha3 := Ats_cons.1 ha3
 obtain ⟨ca3_0, da3_0, ua3_0, rra3_0, rfl, rfl, ha3_0, ha3⟩ := ha3
 replace ha3 := Ats_cons.1 ha3
 obtain ⟨ca3_1, da3_1, ua3_1, rra3_1, rfl, rfl, ha3_1, ha3⟩ := ha3
 replace ha3 := Ats_nil.1 ha3
 obtain ⟨rfl, rfl⟩ := ha3
 have ka3_0 := ha3_0
 replace ha3_0 := At_slice.1 ha3_0
 obtain ⟨va3_0, la3_0, rfl, rfl, wa3_0, hva3_0⟩ := ha3_0
 have oa3_0 := hva3_0.one
 have ka3_1 := ha3_1
 replace ha3_1 := At_slice.1 ha3_1
 obtain ⟨va3_1, la3_1, rfl, rfl, wa3_1, hva3_1⟩ := ha3_1
 have oa3_1 := hva3_1.one
 replace h' := At_st.1 h'
 obtain ⟨usb, rfl, h'⟩ := h'
 replace h' := Ats_cons.1 h'
 obtain ⟨cb0, db0, ub0, rrb0, rfl, rfl, hb0, h'⟩ := h'
 replace h' := Ats_cons.1 h'
 obtain ⟨cb1, db1, ub1, rrb1, rfl, rfl, hb1, h'⟩ := h'
 replace h' := Ats_cons.1 h'
 obtain ⟨cb2, db2, ub2, rrb2, rfl, rfl, hb2, h'⟩ := h'
 replace h' := Ats_cons.1 h'
 obtain ⟨cb3, db3, ub3, rrb3, rfl, rfl, hb3, h'⟩ := h'
 replace h' := Ats_nil.1 h'
 obtain ⟨rfl, rfl⟩ := h'
 replace hb0 := At_int.1 hb0
 obtain ⟨nb0, rfl, rfl, wb0⟩ := hb0
 replace hb1 := At_int.1 hb1
 obtain ⟨nb1, rfl, rfl, wb1⟩ := hb1
 replace hb2 := At_str.1 hb2
 obtain ⟨sb2, rfl, rfl, wb2⟩ := hb2
 have kb3 := hb3
 replace hb3 := At_st.1 hb3
 obtain ⟨usb3_, rfl, hb3⟩ := hb3
 replace hb3 := Ats_cons.1 hb3
 obtain ⟨cb3_0, db3_0, ub3_0, rrb3_0, rfl, rfl, hb3_0, hb3⟩ := hb3
 replace hb3 := Ats_cons.1 hb3
 obtain ⟨cb3_1, db3_1, ub3_1, rrb3_1, rfl, rfl, hb3_1, hb3⟩ := hb3
 replace hb3 := Ats_nil.1 hb3
 obtain ⟨rfl, rfl⟩ := hb3
 have kb3_0 := hb3_0
 replace hb3_0 := At_slice.1 hb3_0
 obtain ⟨vb3_0, lb3_0, rfl, rfl, wb3_0, hvb3_0⟩ := hb3_0
 have ob3_0 := hvb3_0.one
 have kb3_1 := hb3_1
 replace hb3_1 := At_slice.1 hb3_1
 obtain ⟨vb3_1, lb3_1, rfl, rfl, wb3_1, hvb3_1⟩ := hb3_1
 have ob3_1 := hvb3_1.one
 by_cases e0 : na0 = nb0
 rotate_left
 ·refine ⟨false, by simp [e0], ?_⟩
  apply Ret.eq
  rw [amT]
  simp [ajO, Tryz.f215, valC, e0, oa3_0, oa3_1, ob3_0, ob3_1]
 subst e0
 by_cases e1 : na1 = nb1
 rotate_left
 ·refine ⟨false, by simp [e1], ?_⟩
  apply Ret.eq
  rw [amT]
  simp [ajO, Tryz.f215, valC, e1, oa3_0, oa3_1, ob3_0, ob3_1]
 subst e1
 by_cases e2 : sa2 = sb2
 rotate_left
 ·refine ⟨false, by simp [e2], ?_⟩
  apply Ret.eq
  rw [amT]
  simp [ajO, Tryz.f215, valC, e2, oa3_0, oa3_1, ob3_0, ob3_1]
 subst e2
 obtain ⟨t3, e3, q3⟩ := anq H _ _ _ _ ka3 kb3
 simp only [valC, List.headD_cons, List.append_nil, List.cons_append, List.nil_append] at q3
 cases t3 with
 | false =>
  have e3 : ¬ (.st [(.lst la3_0), (.lst la3_1)]) = (U.st [(U.lst lb3_0), (U.lst lb3_1)]) := fun h => by simpa using e3.2 h
  refine ⟨false, by simp only [U.st.injEq, List.cons.injEq, e3, and_false, false_and, Bool.false_eq_true], ?_⟩
  apply Ret.eq
  rw [amT]
  simp [ajO, Tryz.f215, valC, q3, oa3_0, oa3_1, ob3_0, ob3_1]
 | true =>
 have e3 := e3.1 rfl
 refine ⟨true, by simp only [e3], ?_⟩
 apply Ret.eq
 rw [amT]
 simp [ajO, Tryz.f215, valC, q3, oa3_0, oa3_1, ob3_0, ob3_1]
theorem anK : aiG 123 (.slice shChange) :=
 akd (f := 123) (g := 215) (tS := 39) (tE := 164) (F := Tryz.f123) (op_ren (c := ao5) (by kernel_rfl) axf) rfl aqE avM (by rw [apa]; rfl) (by rw [apa]; rfl) (by rw [apa]; decide) apu
theorem anF : aiG 52 shChanges := by
 intro H cs ds u w h h'
 replace h := At_st.1 h
 obtain ⟨usa, rfl, h⟩ := h
 replace h := Ats_cons.1 h
 obtain ⟨ca0, da0, ua0, rra0, rfl, rfl, ha0, h⟩ := h
 replace h := Ats_cons.1 h
 obtain ⟨ca1, da1, ua1, rra1, rfl, rfl, ha1, h⟩ := h
 replace h := Ats_nil.1 h
 obtain ⟨rfl, rfl⟩ := h
 replace ha0 := At_int.1 ha0
 obtain ⟨na0, rfl, rfl, wa0⟩ := ha0
 have ka1 := ha1
 replace ha1 := At_slice.1 ha1
 obtain ⟨va1, la1, rfl, rfl, wa1, hva1⟩ := ha1
 have oa1 := hva1.one
 replace h' := At_st.1 h'
 obtain ⟨usb, rfl, h'⟩ := h'
 replace h' := Ats_cons.1 h'
 obtain ⟨cb0, db0, ub0, rrb0, rfl, rfl, hb0, h'⟩ := h'
 replace h' := Ats_cons.1 h'
 obtain ⟨cb1, db1, ub1, rrb1, rfl, rfl, hb1, h'⟩ := h'
 replace h' := Ats_nil.1 h'
 obtain ⟨rfl, rfl⟩ := h'
 replace hb0 := At_int.1 hb0
 obtain ⟨nb0, rfl, rfl, wb0⟩ := hb0
 have kb1 := hb1
 replace hb1 := At_slice.1 hb1
 obtain ⟨vb1, lb1, rfl, rfl, wb1, hvb1⟩ := hb1
 have ob1 := hvb1.one
 by_cases e0 : na0 = nb0
 rotate_left
 ·refine ⟨false, by simp [e0], ?_⟩
  apply Ret.eq
  rw [auy]
  simp [amw, Tryz.f52, valC, e0, oa1, ob1]
 subst e0
 obtain ⟨t1, e1, q1⟩ := anK H _ _ _ _ ka1 kb1
 simp only [valC, List.headD_cons, List.append_nil, List.cons_append, List.nil_append] at q1
 cases t1 with
 | false =>
  have e1 : ¬ (.lst la1) = (U.lst lb1) := fun h => by simpa using e1.2 h
  refine ⟨false, by simp only [U.st.injEq, List.cons.injEq, e1, and_false, false_and, Bool.false_eq_true], ?_⟩
  apply Ret.eq
  rw [auy]
  simp [amw, Tryz.f52, valC, q1, oa1, ob1]
 | true =>
 have e1 := e1.1 rfl
 refine ⟨true, by simp only [e1], ?_⟩
 apply Ret.eq
 rw [auy]
 simp [amw, Tryz.f52, valC, q1, oa1, ob1]
theorem al8 : aiG 12 shServer := by
 intro H cs ds u w h h'
 replace h := At_st.1 h
 obtain ⟨usa, rfl, h⟩ := h
 replace h := Ats_cons.1 h
 obtain ⟨ca0, da0, ua0, rra0, rfl, rfl, ha0, h⟩ := h
 replace h := Ats_cons.1 h
 obtain ⟨ca1, da1, ua1, rra1, rfl, rfl, ha1, h⟩ := h
 replace h := Ats_cons.1 h
 obtain ⟨ca2, da2, ua2, rra2, rfl, rfl, ha2, h⟩ := h
 replace h := Ats_cons.1 h
 obtain ⟨ca3, da3, ua3, rra3, rfl, rfl, ha3, h⟩ := h
 replace h := Ats_nil.1 h
 obtain ⟨rfl, rfl⟩ := h
 have ka0 := ha0
 replace ha0 := At_st.1 ha0
 obtain ⟨usa0_, rfl, ha0⟩ := ha0
 replace ha0 := Ats_cons.1 ha0
 obtain ⟨ca0_0, da0_0, ua0_0, rra0_0, rfl, rfl, ha0_0, ha0⟩ := ha0
 replace ha0 := Ats_cons.1 ha0
 obtain ⟨ca0_1, da0_1, ua0_1, rra0_1, rfl, rfl, ha0_1, ha0⟩ := ha0
 replace ha0 := Ats_nil.1 ha0
 obtain ⟨rfl, rfl⟩ := ha0
 have ka0_0 := ha0_0
 replace ha0_0 := At_slice.1 ha0_0
 obtain ⟨va0_0, la0_0, rfl, rfl, wa0_0, hva0_0⟩ := ha0_0
 have oa0_0 := hva0_0.one
 have ka0_1 := ha0_1
 replace ha0_1 := At_slice.1 ha0_1
 obtain ⟨va0_1, la0_1, rfl, rfl, wa0_1, hva0_1⟩ := ha0_1
 have oa0_1 := hva0_1.one
 have ka1 := ha1
 replace ha1 := At_slice.1 ha1
 obtain ⟨va1, la1, rfl, rfl, wa1, hva1⟩ := ha1
 have oa1 := hva1.one
 have ka2 := ha2
 replace ha2 := At_st.1 ha2
 obtain ⟨usa2_, rfl, ha2⟩ := ha2
 replace ha2 := Ats_cons.1 ha2
 obtain ⟨ca2_0, da2_0, ua2_0, rra2_0, rfl, rfl, ha2_0, ha2⟩ := ha2
 replace ha2 := Ats_cons.1 ha2
 obtain ⟨ca2_1, da2_1, ua2_1, rra2_1, rfl, rfl, ha2_1, ha2⟩ := ha2
 replace ha2 := Ats_nil.1 ha2
 obtain ⟨rfl, rfl⟩ := ha2
 replace ha2_0 := At_int.1 ha2_0
 obtain ⟨na2_0, rfl, rfl, wa2_0⟩ := ha2_0
 have ka2_1 := ha2_1
 replace ha2_1 := At_slice.1 ha2_1
 obtain ⟨va2_1, la2_1, rfl, rfl, wa2_1, hva2_1⟩ := ha2_1
 have oa2_1 := hva2_1.one
 replace ha3 := At_str.1 ha3
 obtain ⟨sa3, rfl, rfl, wa3⟩ := ha3
 replace h' := At_st.1 h'
 obtain ⟨usb, rfl, h'⟩ := h'
 replace h' := Ats_cons.1 h'
 obtain ⟨cb0, db0, ub0, rrb0, rfl, rfl, hb0, h'⟩ := h'
 replace h' := Ats_cons.1 h'
 obtain ⟨cb1, db1, ub1, rrb1, rfl, rfl, hb1, h'⟩ := h'
 replace h' := Ats_cons.1 h'
 obtain ⟨cb2, db2, ub2, rrb2, rfl, rfl, hb2, h'⟩ := h'
 replace h' := Ats_cons.1 h'
 obtain ⟨cb3, db3, ub3, rrb3, rfl, rfl, hb3, h'⟩ := h'
 replace h' := Ats_nil.1 h'
 obtain ⟨rfl, rfl⟩ := h'
 have kb0 := hb0
 replace hb0 := At_st.1 hb0
 obtain ⟨usb0_, rfl, hb0⟩ := hb0
 replace hb0 := Ats_cons.1 hb0
 obtain ⟨cb0_0, db0_0, ub0_0, rrb0_0, rfl, rfl, hb0_0, hb0⟩ := hb0
 replace hb0 := Ats_cons.1 hb0
 obtain ⟨cb0_1, db0_1, ub0_1, rrb0_1, rfl, rfl, hb0_1, hb0⟩ := hb0
 replace hb0 := Ats_nil.1 hb0
 obtain ⟨rfl, rfl⟩ := hb0
 have kb0_0 := hb0_0
 replace hb0_0 := At_slice.1 hb0_0
 obtain ⟨vb0_0, lb0_0, rfl, rfl, wb0_0, hvb0_0⟩ := hb0_0
 have ob0_0 := hvb0_0.one
 have kb0_1 := hb0_1
 replace hb0_1 := At_slice.1 hb0_1
 obtain ⟨vb0_1, lb0_1, rfl, rfl, wb0_1, hvb0_1⟩ := hb0_1
 have ob0_1 := hvb0_1.one
 have kb1 := hb1
 replace hb1 := At_slice.1 hb1
 obtain ⟨vb1, lb1, rfl, rfl, wb1, hvb1⟩ := hb1
 have ob1 := hvb1.one
 have kb2 := hb2
 replace hb2 := At_st.1 hb2
 obtain ⟨usb2_, rfl, hb2⟩ := hb2
 replace hb2 := Ats_cons.1 hb2
 obtain ⟨cb2_0, db2_0, ub2_0, rrb2_0, rfl, rfl, hb2_0, hb2⟩ := hb2
 replace hb2 := Ats_cons.1 hb2
 obtain ⟨cb2_1, db2_1, ub2_1, rrb2_1, rfl, rfl, hb2_1, hb2⟩ := hb2
 replace hb2 := Ats_nil.1 hb2
 obtain ⟨rfl, rfl⟩ := hb2
 replace hb2_0 := At_int.1 hb2_0
 obtain ⟨nb2_0, rfl, rfl, wb2_0⟩ := hb2_0
 have kb2_1 := hb2_1
 replace hb2_1 := At_slice.1 hb2_1
 obtain ⟨vb2_1, lb2_1, rfl, rfl, wb2_1, hvb2_1⟩ := hb2_1
 have ob2_1 := hvb2_1.one
 replace hb3 := At_str.1 hb3
 obtain ⟨sb3, rfl, rfl, wb3⟩ := hb3
 obtain ⟨t0, e0, q0⟩ := asY H _ _ _ _ ka0 kb0
 simp only [valC, List.headD_cons, List.append_nil, List.cons_append, List.nil_append] at q0
 cases t0 with
 | false =>
  have e0 : ¬ (.st [(.lst la0_0), (.lst la0_1)]) = (U.st [(U.lst lb0_0), (U.lst lb0_1)]) := fun h => by simpa using e0.2 h
  refine ⟨false, by simp only [U.st.injEq, List.cons.injEq, e0, and_false, false_and, Bool.false_eq_true], ?_⟩
  apply Ret.eq
  rw [apZ]
  simp [aky, Tryz.f12, valC, q0, oa0_0, oa0_1, oa1, oa2_1, ob0_0, ob0_1, ob1, ob2_1]
 | true =>
 have e0 := e0.1 rfl
 obtain ⟨t1, e1, q1⟩ := ap8 H _ _ _ _ ka1 kb1
 simp only [valC, List.headD_cons, List.append_nil, List.cons_append, List.nil_append] at q1
 cases t1 with
 | false =>
  have e1 : ¬ (.lst la1) = (U.lst lb1) := fun h => by simpa using e1.2 h
  refine ⟨false, by simp only [U.st.injEq, List.cons.injEq, e1, and_false, false_and, Bool.false_eq_true], ?_⟩
  apply Ret.eq
  rw [apZ]
  simp [aky, Tryz.f12, valC, q0, q1, oa0_0, oa0_1, oa1, oa2_1, ob0_0, ob0_1, ob1, ob2_1]
 | true =>
 have e1 := e1.1 rfl
 obtain ⟨t2, e2, q2⟩ := anF H _ _ _ _ ka2 kb2
 simp only [valC, List.headD_cons, List.append_nil, List.cons_append, List.nil_append] at q2
 cases t2 with
 | false =>
  have e2 : ¬ (.st [(.int na2_0), (.lst la2_1)]) = (U.st [(.int nb2_0), (U.lst lb2_1)]) := fun h => by simpa using e2.2 h
  refine ⟨false, by simp only [U.st.injEq, List.cons.injEq, e2, and_false, false_and, Bool.false_eq_true], ?_⟩
  apply Ret.eq
  rw [apZ]
  simp [aky, Tryz.f12, valC, q0, q1, q2, oa0_0, oa0_1, oa1, oa2_1, ob0_0, ob0_1, ob1, ob2_1]
 | true =>
 have e2 := e2.1 rfl
 by_cases e3 : sa3 = sb3
 rotate_left
 ·refine ⟨false, by simp [e3], ?_⟩
  apply Ret.eq
  rw [apZ]
  simp [aky, Tryz.f12, valC, q0, q1, q2, e3, oa0_0, oa0_1, oa1, oa2_1, ob0_0, ob0_1, ob1, ob2_1]
 subst e3
 refine ⟨true, by simp only [e0, e1, e2], ?_⟩
 apply Ret.eq
 rw [apZ]
 simp [aky, Tryz.f12, valC, q0, q1, q2, oa0_0, oa0_1, oa1, oa2_1, ob0_0, ob0_1, ob1, ob2_1]
theorem auv : aiG 258 shRow := by
 intro H cs ds u w h h'
 replace h := At_st.1 h
 obtain ⟨usa, rfl, h⟩ := h
 replace h := Ats_cons.1 h
 obtain ⟨ca0, da0, ua0, rra0, rfl, rfl, ha0, h⟩ := h
 replace h := Ats_cons.1 h
 obtain ⟨ca1, da1, ua1, rra1, rfl, rfl, ha1, h⟩ := h
 replace h := Ats_cons.1 h
 obtain ⟨ca2, da2, ua2, rra2, rfl, rfl, ha2, h⟩ := h
 replace h := Ats_cons.1 h
 obtain ⟨ca3, da3, ua3, rra3, rfl, rfl, ha3, h⟩ := h
 replace h := Ats_cons.1 h
 obtain ⟨ca4, da4, ua4, rra4, rfl, rfl, ha4, h⟩ := h
 replace h := Ats_cons.1 h
 obtain ⟨ca5, da5, ua5, rra5, rfl, rfl, ha5, h⟩ := h
 replace h := Ats_cons.1 h
 obtain ⟨ca6, da6, ua6, rra6, rfl, rfl, ha6, h⟩ := h
 replace h := Ats_nil.1 h
 obtain ⟨rfl, rfl⟩ := h
 replace ha0 := At_int.1 ha0
 obtain ⟨na0, rfl, rfl, wa0⟩ := ha0
 replace ha1 := At_str.1 ha1
 obtain ⟨sa1, rfl, rfl, wa1⟩ := ha1
 replace ha2 := At_str.1 ha2
 obtain ⟨sa2, rfl, rfl, wa2⟩ := ha2
 replace ha3 := At_str.1 ha3
 obtain ⟨sa3, rfl, rfl, wa3⟩ := ha3
 replace ha4 := At_bool.1 ha4
 obtain ⟨ba4, rfl, rfl⟩ := ha4
 replace ha5 := At_int.1 ha5
 obtain ⟨na5, rfl, rfl, wa5⟩ := ha5
 replace ha6 := At_bool.1 ha6
 obtain ⟨ba6, rfl, rfl⟩ := ha6
 replace h' := At_st.1 h'
 obtain ⟨usb, rfl, h'⟩ := h'
 replace h' := Ats_cons.1 h'
 obtain ⟨cb0, db0, ub0, rrb0, rfl, rfl, hb0, h'⟩ := h'
 replace h' := Ats_cons.1 h'
 obtain ⟨cb1, db1, ub1, rrb1, rfl, rfl, hb1, h'⟩ := h'
 replace h' := Ats_cons.1 h'
 obtain ⟨cb2, db2, ub2, rrb2, rfl, rfl, hb2, h'⟩ := h'
 replace h' := Ats_cons.1 h'
 obtain ⟨cb3, db3, ub3, rrb3, rfl, rfl, hb3, h'⟩ := h'
 replace h' := Ats_cons.1 h'
 obtain ⟨cb4, db4, ub4, rrb4, rfl, rfl, hb4, h'⟩ := h'
 replace h' := Ats_cons.1 h'
 obtain ⟨cb5, db5, ub5, rrb5, rfl, rfl, hb5, h'⟩ := h'
 replace h' := Ats_cons.1 h'
 obtain ⟨cb6, db6, ub6, rrb6, rfl, rfl, hb6, h'⟩ := h'
 replace h' := Ats_nil.1 h'
 obtain ⟨rfl, rfl⟩ := h'
 replace hb0 := At_int.1 hb0
 obtain ⟨nb0, rfl, rfl, wb0⟩ := hb0
 replace hb1 := At_str.1 hb1
 obtain ⟨sb1, rfl, rfl, wb1⟩ := hb1
 replace hb2 := At_str.1 hb2
 obtain ⟨sb2, rfl, rfl, wb2⟩ := hb2
 replace hb3 := At_str.1 hb3
 obtain ⟨sb3, rfl, rfl, wb3⟩ := hb3
 replace hb4 := At_bool.1 hb4
 obtain ⟨bb4, rfl, rfl⟩ := hb4
 replace hb5 := At_int.1 hb5
 obtain ⟨nb5, rfl, rfl, wb5⟩ := hb5
 replace hb6 := At_bool.1 hb6
 obtain ⟨bb6, rfl, rfl⟩ := hb6
 by_cases e0 : na0 = nb0
 rotate_left
 ·refine ⟨false, by simp [e0], ?_⟩
  apply Ret.eq
  rw [akF]
  simp [aiS, Tryz.f258, valC, e0]
 subst e0
 by_cases e1 : sa1 = sb1
 rotate_left
 ·refine ⟨false, by simp [e1], ?_⟩
  apply Ret.eq
  rw [akF]
  simp [aiS, Tryz.f258, valC, e1]
 subst e1
 by_cases e2 : sa2 = sb2
 rotate_left
 ·refine ⟨false, by simp [e2], ?_⟩
  apply Ret.eq
  rw [akF]
  simp [aiS, Tryz.f258, valC, e2]
 subst e2
 by_cases e3 : sa3 = sb3
 rotate_left
 ·refine ⟨false, by simp [e3], ?_⟩
  apply Ret.eq
  rw [akF]
  simp [aiS, Tryz.f258, valC, e3]
 subst e3
 by_cases e4 : ba4 = bb4
 rotate_left
 ·refine ⟨false, by simp [e4], ?_⟩
  apply Ret.eq
  rw [akF]
  simp [aiS, Tryz.f258, valC, e4]
 subst e4
 by_cases e5 : na5 = nb5
 rotate_left
 ·refine ⟨false, by simp [e5], ?_⟩
  apply Ret.eq
  rw [akF]
  simp [aiS, Tryz.f258, valC, e5]
 subst e5
 by_cases e6 : ba6 = bb6
 rotate_left
 ·refine ⟨false, by simp [e6], ?_⟩
  apply Ret.eq
  rw [akF]
  simp [aiS, Tryz.f258, valC, e6]
 subst e6
 refine ⟨true, by simp only [], ?_⟩
 apply Ret.eq
 rw [akF]
 simp [aiS, Tryz.f258, valC]
theorem asH : aiG 178 (.slice shRow) :=
 akd (f := 178) (g := 258) (tS := 86) (tE := 233) (F := Tryz.f178) (op_ren (c := an4) (by kernel_rfl) avn) rfl ap3 axW (by rw [ao0]; rfl) (by rw [ao0]; rfl) (by rw [ao0]; decide) auv
theorem aqx : aiG 95 shTable := by
 intro H cs ds u w h h'
 replace h := At_st.1 h
 obtain ⟨usa, rfl, h⟩ := h
 replace h := Ats_cons.1 h
 obtain ⟨ca0, da0, ua0, rra0, rfl, rfl, ha0, h⟩ := h
 replace h := Ats_cons.1 h
 obtain ⟨ca1, da1, ua1, rra1, rfl, rfl, ha1, h⟩ := h
 replace h := Ats_cons.1 h
 obtain ⟨ca2, da2, ua2, rra2, rfl, rfl, ha2, h⟩ := h
 replace h := Ats_nil.1 h
 obtain ⟨rfl, rfl⟩ := h
 replace ha0 := At_int.1 ha0
 obtain ⟨na0, rfl, rfl, wa0⟩ := ha0
 replace ha1 := At_int.1 ha1
 obtain ⟨na1, rfl, rfl, wa1⟩ := ha1
 have ka2 := ha2
 replace ha2 := At_slice.1 ha2
 obtain ⟨va2, la2, rfl, rfl, wa2, hva2⟩ := ha2
 have oa2 := hva2.one
 replace h' := At_st.1 h'
 obtain ⟨usb, rfl, h'⟩ := h'
 replace h' := Ats_cons.1 h'
 obtain ⟨cb0, db0, ub0, rrb0, rfl, rfl, hb0, h'⟩ := h'
 replace h' := Ats_cons.1 h'
 obtain ⟨cb1, db1, ub1, rrb1, rfl, rfl, hb1, h'⟩ := h'
 replace h' := Ats_cons.1 h'
 obtain ⟨cb2, db2, ub2, rrb2, rfl, rfl, hb2, h'⟩ := h'
 replace h' := Ats_nil.1 h'
 obtain ⟨rfl, rfl⟩ := h'
 replace hb0 := At_int.1 hb0
 obtain ⟨nb0, rfl, rfl, wb0⟩ := hb0
 replace hb1 := At_int.1 hb1
 obtain ⟨nb1, rfl, rfl, wb1⟩ := hb1
 have kb2 := hb2
 replace hb2 := At_slice.1 hb2
 obtain ⟨vb2, lb2, rfl, rfl, wb2, hvb2⟩ := hb2
 have ob2 := hvb2.one
 by_cases e0 : na0 = nb0
 rotate_left
 ·refine ⟨false, by simp [e0], ?_⟩
  apply Ret.eq
  rw [asy]
  simp [alG, Tryz.f95, valC, e0, oa2, ob2]
 subst e0
 by_cases e1 : na1 = nb1
 rotate_left
 ·refine ⟨false, by simp [e1], ?_⟩
  apply Ret.eq
  rw [asy]
  simp [alG, Tryz.f95, valC, e1, oa2, ob2]
 subst e1
 obtain ⟨t2, e2, q2⟩ := asH H _ _ _ _ ka2 kb2
 simp only [valC, List.headD_cons, List.append_nil, List.cons_append, List.nil_append] at q2
 cases t2 with
 | false =>
  have e2 : ¬ (.lst la2) = (U.lst lb2) := fun h => by simpa using e2.2 h
  refine ⟨false, by simp only [U.st.injEq, List.cons.injEq, e2, and_false, false_and, Bool.false_eq_true], ?_⟩
  apply Ret.eq
  rw [asy]
  simp [alG, Tryz.f95, valC, q2, oa2, ob2]
 | true =>
 have e2 := e2.1 rfl
 refine ⟨true, by simp only [e2], ?_⟩
 apply Ret.eq
 rw [asy]
 simp [alG, Tryz.f95, valC, q2, oa2, ob2]
theorem amZ : aiG 36 shWorld := by
 intro H cs ds u w h h'
 replace h := At_st.1 h
 obtain ⟨usa, rfl, h⟩ := h
 replace h := Ats_cons.1 h
 obtain ⟨ca0, da0, ua0, rra0, rfl, rfl, ha0, h⟩ := h
 replace h := Ats_cons.1 h
 obtain ⟨ca1, da1, ua1, rra1, rfl, rfl, ha1, h⟩ := h
 replace h := Ats_cons.1 h
 obtain ⟨ca2, da2, ua2, rra2, rfl, rfl, ha2, h⟩ := h
 replace h := Ats_cons.1 h
 obtain ⟨ca3, da3, ua3, rra3, rfl, rfl, ha3, h⟩ := h
 replace h := Ats_cons.1 h
 obtain ⟨ca4, da4, ua4, rra4, rfl, rfl, ha4, h⟩ := h
 replace h := Ats_nil.1 h
 obtain ⟨rfl, rfl⟩ := h
 have ka0 := ha0
 replace ha0 := At_st.1 ha0
 obtain ⟨usa0_, rfl, ha0⟩ := ha0
 replace ha0 := Ats_cons.1 ha0
 obtain ⟨ca0_0, da0_0, ua0_0, rra0_0, rfl, rfl, ha0_0, ha0⟩ := ha0
 replace ha0 := Ats_cons.1 ha0
 obtain ⟨ca0_1, da0_1, ua0_1, rra0_1, rfl, rfl, ha0_1, ha0⟩ := ha0
 replace ha0 := Ats_cons.1 ha0
 obtain ⟨ca0_2, da0_2, ua0_2, rra0_2, rfl, rfl, ha0_2, ha0⟩ := ha0
 replace ha0 := Ats_cons.1 ha0
 obtain ⟨ca0_3, da0_3, ua0_3, rra0_3, rfl, rfl, ha0_3, ha0⟩ := ha0
 replace ha0 := Ats_nil.1 ha0
 obtain ⟨rfl, rfl⟩ := ha0
 have ka0_0 := ha0_0
 replace ha0_0 := At_st.1 ha0_0
 obtain ⟨usa0_0_, rfl, ha0_0⟩ := ha0_0
 replace ha0_0 := Ats_cons.1 ha0_0
 obtain ⟨ca0_0_0, da0_0_0, ua0_0_0, rra0_0_0, rfl, rfl, ha0_0_0, ha0_0⟩ := ha0_0
 replace ha0_0 := Ats_cons.1 ha0_0
 obtain ⟨ca0_0_1, da0_0_1, ua0_0_1, rra0_0_1, rfl, rfl, ha0_0_1, ha0_0⟩ := ha0_0
 replace ha0_0 := Ats_nil.1 ha0_0
 obtain ⟨rfl, rfl⟩ := ha0_0
 have ka0_0_0 := ha0_0_0
 replace ha0_0_0 := At_slice.1 ha0_0_0
 obtain ⟨va0_0_0, la0_0_0, rfl, rfl, wa0_0_0, hva0_0_0⟩ := ha0_0_0
 have oa0_0_0 := hva0_0_0.one
 have ka0_0_1 := ha0_0_1
 replace ha0_0_1 := At_slice.1 ha0_0_1
 obtain ⟨va0_0_1, la0_0_1, rfl, rfl, wa0_0_1, hva0_0_1⟩ := ha0_0_1
 have oa0_0_1 := hva0_0_1.one
 have ka0_1 := ha0_1
 replace ha0_1 := At_slice.1 ha0_1
 obtain ⟨va0_1, la0_1, rfl, rfl, wa0_1, hva0_1⟩ := ha0_1
 have oa0_1 := hva0_1.one
 have ka0_2 := ha0_2
 replace ha0_2 := At_st.1 ha0_2
 obtain ⟨usa0_2_, rfl, ha0_2⟩ := ha0_2
 replace ha0_2 := Ats_cons.1 ha0_2
 obtain ⟨ca0_2_0, da0_2_0, ua0_2_0, rra0_2_0, rfl, rfl, ha0_2_0, ha0_2⟩ := ha0_2
 replace ha0_2 := Ats_cons.1 ha0_2
 obtain ⟨ca0_2_1, da0_2_1, ua0_2_1, rra0_2_1, rfl, rfl, ha0_2_1, ha0_2⟩ := ha0_2
 replace ha0_2 := Ats_nil.1 ha0_2
 obtain ⟨rfl, rfl⟩ := ha0_2
 replace ha0_2_0 := At_int.1 ha0_2_0
 obtain ⟨na0_2_0, rfl, rfl, wa0_2_0⟩ := ha0_2_0
 have ka0_2_1 := ha0_2_1
 replace ha0_2_1 := At_slice.1 ha0_2_1
 obtain ⟨va0_2_1, la0_2_1, rfl, rfl, wa0_2_1, hva0_2_1⟩ := ha0_2_1
 have oa0_2_1 := hva0_2_1.one
 replace ha0_3 := At_str.1 ha0_3
 obtain ⟨sa0_3, rfl, rfl, wa0_3⟩ := ha0_3
 have ka1 := ha1
 replace ha1 := At_st.1 ha1
 obtain ⟨usa1_, rfl, ha1⟩ := ha1
 replace ha1 := Ats_cons.1 ha1
 obtain ⟨ca1_0, da1_0, ua1_0, rra1_0, rfl, rfl, ha1_0, ha1⟩ := ha1
 replace ha1 := Ats_cons.1 ha1
 obtain ⟨ca1_1, da1_1, ua1_1, rra1_1, rfl, rfl, ha1_1, ha1⟩ := ha1
 replace ha1 := Ats_cons.1 ha1
 obtain ⟨ca1_2, da1_2, ua1_2, rra1_2, rfl, rfl, ha1_2, ha1⟩ := ha1
 replace ha1 := Ats_nil.1 ha1
 obtain ⟨rfl, rfl⟩ := ha1
 replace ha1_0 := At_int.1 ha1_0
 obtain ⟨na1_0, rfl, rfl, wa1_0⟩ := ha1_0
 replace ha1_1 := At_int.1 ha1_1
 obtain ⟨na1_1, rfl, rfl, wa1_1⟩ := ha1_1
 have ka1_2 := ha1_2
 replace ha1_2 := At_slice.1 ha1_2
 obtain ⟨va1_2, la1_2, rfl, rfl, wa1_2, hva1_2⟩ := ha1_2
 have oa1_2 := hva1_2.one
 have ka2 := ha2
 replace ha2 := At_st.1 ha2
 obtain ⟨usa2_, rfl, ha2⟩ := ha2
 replace ha2 := Ats_cons.1 ha2
 obtain ⟨ca2_0, da2_0, ua2_0, rra2_0, rfl, rfl, ha2_0, ha2⟩ := ha2
 replace ha2 := Ats_cons.1 ha2
 obtain ⟨ca2_1, da2_1, ua2_1, rra2_1, rfl, rfl, ha2_1, ha2⟩ := ha2
 replace ha2 := Ats_cons.1 ha2
 obtain ⟨ca2_2, da2_2, ua2_2, rra2_2, rfl, rfl, ha2_2, ha2⟩ := ha2
 replace ha2 := Ats_cons.1 ha2
 obtain ⟨ca2_3, da2_3, ua2_3, rra2_3, rfl, rfl, ha2_3, ha2⟩ := ha2
 replace ha2 := Ats_cons.1 ha2
 obtain ⟨ca2_4, da2_4, ua2_4, rra2_4, rfl, rfl, ha2_4, ha2⟩ := ha2
 replace ha2 := Ats_cons.1 ha2
 obtain ⟨ca2_5, da2_5, ua2_5, rra2_5, rfl, rfl, ha2_5, ha2⟩ := ha2
 replace ha2 := Ats_nil.1 ha2
 obtain ⟨rfl, rfl⟩ := ha2
 have ka2_0 := ha2_0
 replace ha2_0 := At_slice.1 ha2_0
 obtain ⟨va2_0, la2_0, rfl, rfl, wa2_0, hva2_0⟩ := ha2_0
 have oa2_0 := hva2_0.one
 have ka2_1 := ha2_1
 replace ha2_1 := At_slice.1 ha2_1
 obtain ⟨va2_1, la2_1, rfl, rfl, wa2_1, hva2_1⟩ := ha2_1
 have oa2_1 := hva2_1.one
 have ka2_2 := ha2_2
 replace ha2_2 := At_slice.1 ha2_2
 obtain ⟨va2_2, la2_2, rfl, rfl, wa2_2, hva2_2⟩ := ha2_2
 have oa2_2 := hva2_2.one
 have ka2_3 := ha2_3
 replace ha2_3 := At_slice.1 ha2_3
 obtain ⟨va2_3, la2_3, rfl, rfl, wa2_3, hva2_3⟩ := ha2_3
 have oa2_3 := hva2_3.one
 have ka2_4 := ha2_4
 replace ha2_4 := At_slice.1 ha2_4
 obtain ⟨va2_4, la2_4, rfl, rfl, wa2_4, hva2_4⟩ := ha2_4
 have oa2_4 := hva2_4.one
 replace ha2_5 := At_bool.1 ha2_5
 obtain ⟨ba2_5, rfl, rfl⟩ := ha2_5
 replace ha3 := At_int.1 ha3
 obtain ⟨na3, rfl, rfl, wa3⟩ := ha3
 replace ha4 := At_int.1 ha4
 obtain ⟨na4, rfl, rfl, wa4⟩ := ha4
 replace h' := At_st.1 h'
 obtain ⟨usb, rfl, h'⟩ := h'
 replace h' := Ats_cons.1 h'
 obtain ⟨cb0, db0, ub0, rrb0, rfl, rfl, hb0, h'⟩ := h'
 replace h' := Ats_cons.1 h'
 obtain ⟨cb1, db1, ub1, rrb1, rfl, rfl, hb1, h'⟩ := h'
 replace h' := Ats_cons.1 h'
 obtain ⟨cb2, db2, ub2, rrb2, rfl, rfl, hb2, h'⟩ := h'
 replace h' := Ats_cons.1 h'
 obtain ⟨cb3, db3, ub3, rrb3, rfl, rfl, hb3, h'⟩ := h'
 replace h' := Ats_cons.1 h'
 obtain ⟨cb4, db4, ub4, rrb4, rfl, rfl, hb4, h'⟩ := h'
 replace h' := Ats_nil.1 h'
 obtain ⟨rfl, rfl⟩ := h'
 have kb0 := hb0
 replace hb0 := At_st.1 hb0
 obtain ⟨usb0_, rfl, hb0⟩ := hb0
 replace hb0 := Ats_cons.1 hb0
 obtain ⟨cb0_0, db0_0, ub0_0, rrb0_0, rfl, rfl, hb0_0, hb0⟩ := hb0
 replace hb0 := Ats_cons.1 hb0
 obtain ⟨cb0_1, db0_1, ub0_1, rrb0_1, rfl, rfl, hb0_1, hb0⟩ := hb0
 replace hb0 := Ats_cons.1 hb0
 obtain ⟨cb0_2, db0_2, ub0_2, rrb0_2, rfl, rfl, hb0_2, hb0⟩ := hb0
 replace hb0 := Ats_cons.1 hb0
 obtain ⟨cb0_3, db0_3, ub0_3, rrb0_3, rfl, rfl, hb0_3, hb0⟩ := hb0
 replace hb0 := Ats_nil.1 hb0
 obtain ⟨rfl, rfl⟩ := hb0
 have kb0_0 := hb0_0
 replace hb0_0 := At_st.1 hb0_0
 obtain ⟨usb0_0_, rfl, hb0_0⟩ := hb0_0
 replace hb0_0 := Ats_cons.1 hb0_0
 obtain ⟨cb0_0_0, db0_0_0, ub0_0_0, rrb0_0_0, rfl, rfl, hb0_0_0, hb0_0⟩ := hb0_0
 replace hb0_0 := Ats_cons.1 hb0_0
 obtain ⟨cb0_0_1, db0_0_1, ub0_0_1, rrb0_0_1, rfl, rfl, hb0_0_1, hb0_0⟩ := hb0_0
 replace hb0_0 := Ats_nil.1 hb0_0
 obtain ⟨rfl, rfl⟩ := hb0_0
 have kb0_0_0 := hb0_0_0
 replace hb0_0_0 := At_slice.1 hb0_0_0
 obtain ⟨vb0_0_0, lb0_0_0, rfl, rfl, wb0_0_0, hvb0_0_0⟩ := hb0_0_0
 have ob0_0_0 := hvb0_0_0.one
 have kb0_0_1 := hb0_0_1
 replace hb0_0_1 := At_slice.1 hb0_0_1
 obtain ⟨vb0_0_1, lb0_0_1, rfl, rfl, wb0_0_1, hvb0_0_1⟩ := hb0_0_1
 have ob0_0_1 := hvb0_0_1.one
 have kb0_1 := hb0_1
 replace hb0_1 := At_slice.1 hb0_1
 obtain ⟨vb0_1, lb0_1, rfl, rfl, wb0_1, hvb0_1⟩ := hb0_1
 have ob0_1 := hvb0_1.one
 have kb0_2 := hb0_2
 replace hb0_2 := At_st.1 hb0_2
 obtain ⟨usb0_2_, rfl, hb0_2⟩ := hb0_2
 replace hb0_2 := Ats_cons.1 hb0_2
 obtain ⟨cb0_2_0, db0_2_0, ub0_2_0, rrb0_2_0, rfl, rfl, hb0_2_0, hb0_2⟩ := hb0_2
 replace hb0_2 := Ats_cons.1 hb0_2
 obtain ⟨cb0_2_1, db0_2_1, ub0_2_1, rrb0_2_1, rfl, rfl, hb0_2_1, hb0_2⟩ := hb0_2
 replace hb0_2 := Ats_nil.1 hb0_2
 obtain ⟨rfl, rfl⟩ := hb0_2
 replace hb0_2_0 := At_int.1 hb0_2_0
 obtain ⟨nb0_2_0, rfl, rfl, wb0_2_0⟩ := hb0_2_0
 have kb0_2_1 := hb0_2_1
 replace hb0_2_1 := At_slice.1 hb0_2_1
 obtain ⟨vb0_2_1, lb0_2_1, rfl, rfl, wb0_2_1, hvb0_2_1⟩ := hb0_2_1
 have ob0_2_1 := hvb0_2_1.one
 replace hb0_3 := At_str.1 hb0_3
 obtain ⟨sb0_3, rfl, rfl, wb0_3⟩ := hb0_3
 have kb1 := hb1
 replace hb1 := At_st.1 hb1
 obtain ⟨usb1_, rfl, hb1⟩ := hb1
 replace hb1 := Ats_cons.1 hb1
 obtain ⟨cb1_0, db1_0, ub1_0, rrb1_0, rfl, rfl, hb1_0, hb1⟩ := hb1
 replace hb1 := Ats_cons.1 hb1
 obtain ⟨cb1_1, db1_1, ub1_1, rrb1_1, rfl, rfl, hb1_1, hb1⟩ := hb1
 replace hb1 := Ats_cons.1 hb1
 obtain ⟨cb1_2, db1_2, ub1_2, rrb1_2, rfl, rfl, hb1_2, hb1⟩ := hb1
 replace hb1 := Ats_nil.1 hb1
 obtain ⟨rfl, rfl⟩ := hb1
 replace hb1_0 := At_int.1 hb1_0
 obtain ⟨nb1_0, rfl, rfl, wb1_0⟩ := hb1_0
 replace hb1_1 := At_int.1 hb1_1
 obtain ⟨nb1_1, rfl, rfl, wb1_1⟩ := hb1_1
 have kb1_2 := hb1_2
 replace hb1_2 := At_slice.1 hb1_2
 obtain ⟨vb1_2, lb1_2, rfl, rfl, wb1_2, hvb1_2⟩ := hb1_2
 have ob1_2 := hvb1_2.one
 have kb2 := hb2
 replace hb2 := At_st.1 hb2
 obtain ⟨usb2_, rfl, hb2⟩ := hb2
 replace hb2 := Ats_cons.1 hb2
 obtain ⟨cb2_0, db2_0, ub2_0, rrb2_0, rfl, rfl, hb2_0, hb2⟩ := hb2
 replace hb2 := Ats_cons.1 hb2
 obtain ⟨cb2_1, db2_1, ub2_1, rrb2_1, rfl, rfl, hb2_1, hb2⟩ := hb2
 replace hb2 := Ats_cons.1 hb2
 obtain ⟨cb2_2, db2_2, ub2_2, rrb2_2, rfl, rfl, hb2_2, hb2⟩ := hb2
 replace hb2 := Ats_cons.1 hb2
 obtain ⟨cb2_3, db2_3, ub2_3, rrb2_3, rfl, rfl, hb2_3, hb2⟩ := hb2
 replace hb2 := Ats_cons.1 hb2
 obtain ⟨cb2_4, db2_4, ub2_4, rrb2_4, rfl, rfl, hb2_4, hb2⟩ := hb2
 replace hb2 := Ats_cons.1 hb2
 obtain ⟨cb2_5, db2_5, ub2_5, rrb2_5, rfl, rfl, hb2_5, hb2⟩ := hb2
 replace hb2 := Ats_nil.1 hb2
 obtain ⟨rfl, rfl⟩ := hb2
 have kb2_0 := hb2_0
 replace hb2_0 := At_slice.1 hb2_0
 obtain ⟨vb2_0, lb2_0, rfl, rfl, wb2_0, hvb2_0⟩ := hb2_0
 have ob2_0 := hvb2_0.one
 have kb2_1 := hb2_1
 replace hb2_1 := At_slice.1 hb2_1
 obtain ⟨vb2_1, lb2_1, rfl, rfl, wb2_1, hvb2_1⟩ := hb2_1
 have ob2_1 := hvb2_1.one
 have kb2_2 := hb2_2
 replace hb2_2 := At_slice.1 hb2_2
 obtain ⟨vb2_2, lb2_2, rfl, rfl, wb2_2, hvb2_2⟩ := hb2_2
 have ob2_2 := hvb2_2.one
 have kb2_3 := hb2_3
 replace hb2_3 := At_slice.1 hb2_3
 obtain ⟨vb2_3, lb2_3, rfl, rfl, wb2_3, hvb2_3⟩ := hb2_3
 have ob2_3 := hvb2_3.one
 have kb2_4 := hb2_4
 replace hb2_4 := At_slice.1 hb2_4
 obtain ⟨vb2_4, lb2_4, rfl, rfl, wb2_4, hvb2_4⟩ := hb2_4
 have ob2_4 := hvb2_4.one
 replace hb2_5 := At_bool.1 hb2_5
 obtain ⟨bb2_5, rfl, rfl⟩ := hb2_5
 replace hb3 := At_int.1 hb3
 obtain ⟨nb3, rfl, rfl, wb3⟩ := hb3
 replace hb4 := At_int.1 hb4
 obtain ⟨nb4, rfl, rfl, wb4⟩ := hb4
 obtain ⟨t0, e0, q0⟩ := al8 H _ _ _ _ ka0 kb0
 simp only [valC, List.headD_cons, List.append_nil, List.cons_append, List.nil_append] at q0
 cases t0 with
 | false =>
  have e0 : ¬ (.st [(.st [(.lst la0_0_0), (.lst la0_0_1)]), (.lst la0_1), (.st [(.int na0_2_0), (.lst la0_2_1)]), (.str sa0_3)]) = (U.st [(U.st [(U.lst lb0_0_0), (U.lst lb0_0_1)]), (U.lst lb0_1), (U.st [(.int nb0_2_0), (U.lst lb0_2_1)]), (U.str sb0_3)]) := fun h => by simpa using e0.2 h
  refine ⟨false, by simp only [U.st.injEq, List.cons.injEq, e0, and_false, false_and, Bool.false_eq_true], ?_⟩
  apply Ret.eq
  rw [apx]
  simp [aj3, Tryz.f36, valC, q0, oa0_0_0, oa0_0_1, oa0_1, oa0_2_1, oa1_2, oa2_0, oa2_1, oa2_2, oa2_3, oa2_4, ob0_0_0, ob0_0_1, ob0_1, ob0_2_1, ob1_2, ob2_0, ob2_1, ob2_2, ob2_3, ob2_4]
 | true =>
 have e0 := e0.1 rfl
 obtain ⟨t1, e1, q1⟩ := aqx H _ _ _ _ ka1 kb1
 simp only [valC, List.headD_cons, List.append_nil, List.cons_append, List.nil_append] at q1
 cases t1 with
 | false =>
  have e1 : ¬ (.st [(.int na1_0), (.int na1_1), (.lst la1_2)]) = (U.st [(.int nb1_0), (.int nb1_1), (U.lst lb1_2)]) := fun h => by simpa using e1.2 h
  refine ⟨false, by simp only [U.st.injEq, List.cons.injEq, e1, and_false, false_and, Bool.false_eq_true], ?_⟩
  apply Ret.eq
  rw [apx]
  simp [aj3, Tryz.f36, valC, q0, q1, oa0_0_0, oa0_0_1, oa0_1, oa0_2_1, oa1_2, oa2_0, oa2_1, oa2_2, oa2_3, oa2_4, ob0_0_0, ob0_0_1, ob0_1, ob0_2_1, ob1_2, ob2_0, ob2_1, ob2_2, ob2_3, ob2_4]
 | true =>
 have e1 := e1.1 rfl
 obtain ⟨t2, e2, q2⟩ := asE H _ _ _ _ ka2 kb2
 simp only [valC, List.headD_cons, List.append_nil, List.cons_append, List.nil_append] at q2
 cases t2 with
 | false =>
  have e2 : ¬ (.st [(.lst la2_0), (.lst la2_1), (.lst la2_2), (.lst la2_3), (.lst la2_4), (.bool ba2_5)]) = (U.st [(U.lst lb2_0), (U.lst lb2_1), (U.lst lb2_2), (U.lst lb2_3), (U.lst lb2_4), (.bool bb2_5)]) := fun h => by simpa using e2.2 h
  refine ⟨false, by simp only [U.st.injEq, List.cons.injEq, e2, and_false, false_and, Bool.false_eq_true], ?_⟩
  apply Ret.eq
  rw [apx]
  simp [aj3, Tryz.f36, valC, q0, q1, q2, oa0_0_0, oa0_0_1, oa0_1, oa0_2_1, oa1_2, oa2_0, oa2_1, oa2_2, oa2_3, oa2_4, ob0_0_0, ob0_0_1, ob0_1, ob0_2_1, ob1_2, ob2_0, ob2_1, ob2_2, ob2_3, ob2_4]
 | true =>
 have e2 := e2.1 rfl
 by_cases e3 : na3 = nb3
 rotate_left
 ·refine ⟨false, by simp [e3], ?_⟩
  apply Ret.eq
  rw [apx]
  simp [aj3, Tryz.f36, valC, q0, q1, q2, e3, oa0_0_0, oa0_0_1, oa0_1, oa0_2_1, oa1_2, oa2_0, oa2_1, oa2_2, oa2_3, oa2_4, ob0_0_0, ob0_0_1, ob0_1, ob0_2_1, ob1_2, ob2_0, ob2_1, ob2_2, ob2_3, ob2_4]
 subst e3
 by_cases e4 : na4 = nb4
 rotate_left
 ·refine ⟨false, by simp [e4], ?_⟩
  apply Ret.eq
  rw [apx]
  simp [aj3, Tryz.f36, valC, q0, q1, q2, e4, oa0_0_0, oa0_0_1, oa0_1, oa0_2_1, oa1_2, oa2_0, oa2_1, oa2_2, oa2_3, oa2_4, ob0_0_0, ob0_0_1, ob0_1, ob0_2_1, ob1_2, ob2_0, ob2_1, ob2_2, ob2_3, ob2_4]
 subst e4
 refine ⟨true, by simp only [e0, e1, e2], ?_⟩
 apply Ret.eq
 rw [apx]
 simp [aj3, Tryz.f36, valC, q0, q1, q2, oa0_0_0, oa0_0_1, oa0_1, oa0_2_1, oa1_2, oa2_0, oa2_1, oa2_2, oa2_3, oa2_4, ob0_0_0, ob0_0_1, ob0_1, ob0_2_1, ob1_2, ob2_0, ob2_1, ob2_2, ob2_3, ob2_4]
end Go.Proofs.Try1
end
