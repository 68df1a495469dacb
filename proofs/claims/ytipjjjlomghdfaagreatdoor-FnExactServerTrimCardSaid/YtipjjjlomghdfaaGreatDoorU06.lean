/- Part 06 of the proof of a law: the interpreter, its soundness, and what functions of the program compute over it. Conditions: none but those that each theorem names. -/
import Derived.Test.YtipjjjlomghdfaaGreatDoorU05
import Derived.Sort.Defs
import Derived.Lib.BitFns
import Derived.Test.YtipjjjlomghdfaaGreatDoorU01
import Derived.Lib.Bytealg
import Derived.Test.YtipjjjlomghdfaaGreatDoorProg

set_option linter.all false
set_option maxRecDepth 20000
set_option maxHeartbeats 40000000
section
namespace Go.Lite
open Go
theorem Sh.size_int {k : IntKind} : (Sh.int k).size = 1 := rfl
theorem Sh.size_bool : Sh.bool.size = 1 := rfl
theorem Sh.size_str : Sh.str.size = 1 := rfl
theorem Sh.size_slice {e : Sh} : (Sh.slice e).size = 1 := rfl
theorem Sh.size_st {fs : List Sh} : (Sh.st fs).size = Sh.sizes fs := rfl
theorem Sh.sizes_nil : Sh.sizes [] = 0 := rfl
theorem Sh.sizes_cons {f : Sh} {fs : List Sh} : Sh.sizes (f :: fs) = f.size + Sh.sizes fs := rfl
attribute [simp] Sh.size_int Sh.size_bool Sh.size_str Sh.size_slice Sh.size_st Sh.sizes_nil Sh.sizes_cons
def LT.one (T : LT) : Prop := T.size = 1 ∧ T.isAgg = false
def LT.many (T : LT) (n : Nat) : Prop := T.size = n ∧ T.isAgg = true
section
variable {b e : Nat} {z : List V}
theorem one_int {k : IntKind} : LT.one ⟨.int k, 1, b, z⟩ := ⟨rfl, rfl⟩
theorem one_bool : LT.one ⟨.bool, 1, b, z⟩ := ⟨rfl, rfl⟩
theorem one_str : LT.one ⟨.str, 1, b, z⟩ := ⟨rfl, rfl⟩
theorem one_ptr : LT.one ⟨.ptr, 1, b, z⟩ := ⟨rfl, rfl⟩
theorem one_func : LT.one ⟨.func, 1, b, z⟩ := ⟨rfl, rfl⟩
theorem one_iface : LT.one ⟨.iface, 1, b, z⟩ := ⟨rfl, rfl⟩
theorem one_slice : LT.one ⟨.slice e, 1, b, z⟩ := ⟨rfl, rfl⟩
theorem many_struct {fs : List (Nat × Nat)} {n m : Nat} : LT.many ⟨.struct fs, n, b, z⟩ m ↔ n = m := ⟨fun h => h.1, fun h => ⟨h, rfl⟩⟩
theorem many_array {k n m : Nat} : LT.many ⟨.array k e, n, b, z⟩ m ↔ n = m := ⟨fun h => h.1, fun h => ⟨h, rfl⟩⟩
end
attribute [simp] one_int one_bool one_str one_ptr one_func one_iface one_slice many_struct many_array
section
variable {H : List Ob}
theorem load1 {id o es : Nat} {own : Bool} {cells : List V} {v : V} (h : H[id]? = some (.mk own es cells)) (hc : cells[o]? = some v) : ∀ T : LT, T.one → ∀ r c, loadAt T ⟨r, c, H⟩ (.hp id o) = some v :=
 fun T hT => load_one h hc (by rw [hT.1]; decide) hT.2
theorem loadN {id o es n : Nat} {own : Bool} {cells l : List V} (h : H[id]? = some (.mk own es cells)) (hl : o + n ≤ cells.length) (hn : n ≠ 0) (hc : (cells.drop o).take n = l) : ∀ T : LT, T.many n → ∀ r c, loadAt T ⟨r, c, H⟩ (.hp id o) = some (.agg l) :=
 fun T hT => load_agg h (by rw [hT.1]; exact hl) (by rw [hT.1]; exact hc) (by rw [hT.1]; exact hn) hT.2
theorem store1 {id o es : Nat} {cells : List V} {v : V} (h : H[id]? = some (.mk true es cells)) (ho : o < cells.length) (hv : cellsOf v = some [v]) (h1 : isOne v = true) : ∀ T : LT, T.one → ∀ r c, storeAt T ⟨r, c, H⟩ (.hp id o) v = some ⟨r, c, H.set id (.mk true es (cells.set o v))⟩ :=
 fun T hT => store_one h ho hT.1 hv h1
theorem storeN {id o es : Nat} {cells l : List V} (h : H[id]? = some (.mk true es cells)) (ho : o + l.length ≤ cells.length) (hp : l ≠ []) (h1 : l.all isOne = true) : ∀ T : LT, T.many l.length → ∀ r c, storeAt T ⟨r, c, H⟩ (.hp id o) (.agg l) = some ⟨r, c, H.set id (.mk true es (setRange cells o l))⟩ :=
 fun T hT => store_agg h ho hT.1 hp h1
end
inductive U where
 | int (n : Int)
 | bool (b : Bool)
 | str (s : Str)
 | lst (l : List U)
 | st (l : List U)
mutual
def At (H : List Ob) : Sh → (List V → U → Prop)
 | .int k => fun cs u => ∃ n, cs = [.int k n] ∧ u = .int n ∧ (Lit.int k n).wf = true
 | .bool => fun cs u => ∃ b, cs = [.bool b] ∧ u = .bool b
 | .str => fun cs u => ∃ s, cs = [.str s] ∧ u = .str s ∧ s.length ≤ maxLen
 | .slice e => fun cs u => ∃ v l, cs = [v] ∧ u = .lst l ∧ l.length ≤ maxLen ∧ Sl H e.size (At H e) v l
 | .st fs => fun cs u => ∃ us, u = .st us ∧ Ats H fs cs us
def Ats (H : List Ob) : List Sh → (List V → List U → Prop)
 | [] => fun cs us => cs = [] ∧ us = []
 | f :: fs => fun cs us => ∃ c1 c2 u us', cs = c1 ++ c2 ∧ us = u :: us' ∧ At H f c1 u ∧ Ats H fs c2 us'
end
section
variable {H : List Ob} {cs : List V} {u : U}
theorem At_int {k : IntKind} : At H (.int k) cs u ↔ ∃ n, cs = [.int k n] ∧ u = .int n ∧ (Lit.int k n).wf = true := by simp only [At]
theorem At_bool : At H .bool cs u ↔ ∃ b, cs = [.bool b] ∧ u = .bool b := by simp only [At]
theorem At_str : At H .str cs u ↔ ∃ s, cs = [.str s] ∧ u = .str s ∧ s.length ≤ maxLen := by simp only [At]
theorem At_slice {e : Sh} : At H (.slice e) cs u ↔ ∃ v l, cs = [v] ∧ u = .lst l ∧ l.length ≤ maxLen ∧ Sl H e.size (At H e) v l := by simp only [At]
theorem At_st {fs : List Sh} : At H (.st fs) cs u ↔ ∃ us, u = .st us ∧ Ats H fs cs us := by simp only [At]
theorem Ats_nil {us : List U} : Ats H [] cs us ↔ cs = [] ∧ us = [] := by simp only [Ats]
theorem Ats_cons {f : Sh} {fs : List Sh} {us : List U} : Ats H (f :: fs) cs us ↔ ∃ c1 c2 u us', cs = c1 ++ c2 ∧ us = u :: us' ∧ At H f c1 u ∧ Ats H fs c2 us' := by simp only [Ats]
end
def SlF {α : Type} (H : List Ob) (es : Nat) (R : List V → α → List Nat → Prop) (v : V) (xs : List α) (F : List Nat) : Prop :=
 (v = .slc none 0 ∧ xs = [] ∧ F = []) ∨ ∃ (id off : Nat) (cells : List V) (Fs : List (List Nat)), v = .slc (some (id, off)) xs.length ∧ H[id]? = some (.mk true es cells) ∧ off + xs.length * es ≤ cells.length ∧
  Fs.length = xs.length ∧ F = id :: Fs.flatten ∧ ∀ i x G, xs[i]? = some x → Fs[i]? = some G → R ((cells.drop (off + i * es)).take es) x G
mutual
def AtF (H : List Ob) : Sh → (List V → U → List Nat → Prop)
 | .int k => fun cs u F => (∃ n, cs = [.int k n] ∧ u = .int n ∧ (Lit.int k n).wf = true) ∧ F = []
 | .bool => fun cs u F => (∃ b, cs = [.bool b] ∧ u = .bool b) ∧ F = []
 | .str => fun cs u F => (∃ s, cs = [.str s] ∧ u = .str s ∧ s.length ≤ maxLen) ∧ F = []
 | .slice e => fun cs u F => ∃ v l, cs = [v] ∧ u = .lst l ∧ l.length ≤ maxLen ∧ SlF H e.size (AtF H e) v l F
 | .st fs => fun cs u F => ∃ us, u = .st us ∧ AtsF H fs cs us F
def AtsF (H : List Ob) : List Sh → (List V → List U → List Nat → Prop)
 | [] => fun cs us F => cs = [] ∧ us = [] ∧ F = []
 | f :: fs => fun cs us F => ∃ c1 c2 u us' F1 F2, cs = c1 ++ c2 ∧ us = u :: us' ∧ F = F1 ++ F2 ∧ AtF H f c1 u F1 ∧ AtsF H fs c2 us' F2
end
section
variable {H : List Ob} {cs : List V} {u : U} {F : List Nat}
theorem AtF_int {k : IntKind} : AtF H (.int k) cs u F ↔ (∃ n, cs = [.int k n] ∧ u = .int n ∧ (Lit.int k n).wf = true) ∧ F = [] := by simp only [AtF]
theorem AtF_bool : AtF H .bool cs u F ↔ (∃ b, cs = [.bool b] ∧ u = .bool b) ∧ F = [] := by simp only [AtF]
theorem AtF_str : AtF H .str cs u F ↔ (∃ s, cs = [.str s] ∧ u = .str s ∧ s.length ≤ maxLen) ∧ F = [] := by simp only [AtF]
theorem AtF_slice {e : Sh} : AtF H (.slice e) cs u F ↔ ∃ v l, cs = [v] ∧ u = .lst l ∧ l.length ≤ maxLen ∧ SlF H e.size (AtF H e) v l F := by simp only [AtF]
theorem AtF_st {fs : List Sh} : AtF H (.st fs) cs u F ↔ ∃ us, u = .st us ∧ AtsF H fs cs us F := by simp only [AtF]
theorem AtsF_nil {us : List U} : AtsF H [] cs us F ↔ cs = [] ∧ us = [] ∧ F = [] := by simp only [AtsF]
theorem AtsF_cons {f : Sh} {fs : List Sh} {us : List U} : AtsF H (f :: fs) cs us F ↔ ∃ c1 c2 u us' F1 F2, cs = c1 ++ c2 ∧ us = u :: us' ∧ F = F1 ++ F2 ∧ AtF H f c1 u F1 ∧ AtsF H fs c2 us' F2 := by simp only [AtsF]
end
theorem Ret.eq {C : Ctx} {g : Nat} {a : List V} {H : List Ob} {x : V} (h : Ret C g a H fun r H' => r = x ∧ H' = H) : callW C g a H = some (x, H) := by
 obtain ⟨r, H', hc, rfl, rfl⟩ := h
 exact hc
section
variable {H H' T : List Ob}
theorem Sl.map {α : Type} {es : Nat} {R R' : List V → α → Prop} {v : V} {xs : List α} (h : Sl H es R v xs) (hH : ∀ (id : Nat) o, H[id]? = some o → H'[id]? = some o) (hR : ∀ cs x, R cs x → R' cs x) : Sl H' es R' v xs := by
 rcases h with h | ⟨id, off, own, cells, h1, h2, h3, h4⟩
 ·exact .inl h
 ·exact .inr ⟨id, off, own, cells, h1, hH _ _ h2, h3, fun i x hx => hR _ _ (h4 i x hx)⟩
mutual
theorem At.up (hH : ∀ (id : Nat) o, H[id]? = some o → H'[id]? = some o) : ∀ (sh : Sh) {cs : List V} {u : U}, At H sh cs u → At H' sh cs u
 | .int k, _, _, h => h
 | .bool, _, _, h => h
 | .str, _, _, h => h
 | .slice e, _, _, h => by
  simp only [At] at h ⊢
  obtain ⟨v, l, h1, h2, h3, h4⟩ := h
  exact ⟨v, l, h1, h2, h3, h4.map hH fun _ _ h => At.up hH e h⟩
 | .st fs, _, _, h => by
  simp only [At] at h ⊢
  obtain ⟨us, h1, h2⟩ := h
  exact ⟨us, h1, Ats.up hH fs h2⟩
theorem Ats.up (hH : ∀ (id : Nat) o, H[id]? = some o → H'[id]? = some o) : ∀ (fs : List Sh) {cs : List V} {us : List U}, Ats H fs cs us → Ats H' fs cs us
 | [], _, _, h => h
 | f :: fs, _, _, h => by
  simp only [Ats] at h ⊢
  obtain ⟨c1, c2, u, us', h1, h2, h3, h4⟩ := h
  exact ⟨c1, c2, u, us', h1, h2, At.up hH f h3, Ats.up hH fs h4⟩
end
theorem up_append : ∀ (id : Nat) o, H[id]? = some o → (H ++ T)[id]? = some o := fun id o h => by
 rw [List.getElem?_append_left (List.getElem?_eq_some_iff.1 h).1]; exact h
theorem At.ext {sh : Sh} {cs : List V} {u : U} (h : At H sh cs u) : At (H ++ T) sh cs u := h.up up_append
mutual
theorem At.len : ∀ (sh : Sh) {cs : List V} {u : U}, At H sh cs u → cs.length = sh.size
 | .int k, _, _, h => by simp only [At] at h; obtain ⟨n, rfl, _⟩ := h; rfl
 | .bool, _, _, h => by simp only [At] at h; obtain ⟨n, rfl, _⟩ := h; rfl
 | .str, _, _, h => by simp only [At] at h; obtain ⟨n, rfl, _⟩ := h; rfl
 | .slice e, _, _, h => by simp only [At] at h; obtain ⟨v, l, rfl, _⟩ := h; rfl
 | .st fs, _, _, h => by
  simp only [At] at h
  obtain ⟨us, _, h2⟩ := h
  rw [Ats.len fs h2, Sh.size]
theorem Ats.len : ∀ (fs : List Sh) {cs : List V} {us : List U}, Ats H fs cs us → cs.length = Sh.sizes fs
 | [], _, _, h => by simp only [Ats] at h; rw [h.1]; rfl
 | f :: fs, _, _, h => by
  simp only [Ats] at h
  obtain ⟨c1, c2, u, us', rfl, _, h3, h4⟩ := h
  rw [List.length_append, At.len f h3, Ats.len fs h4, Sh.sizes]
end
theorem SlF.sl {α : Type} {es : Nat} {R : List V → α → List Nat → Prop} {R' : List V → α → Prop} {v : V} {xs : List α} {F : List Nat} (h : SlF H es R v xs F) (hR : ∀ cs x G, R cs x G → R' cs x) : Sl H es R' v xs := by
 rcases h with ⟨h1, h2, _⟩ | ⟨id, off, cells, Fs, h1, h2, h3, h4, _, h5⟩
 ·exact .inl ⟨h1, h2⟩
 ·refine .inr ⟨id, off, true, cells, h1, h2, h3, fun i x hx => ?_⟩
  have hi : i < Fs.length := by rw [h4]; exact (List.getElem?_eq_some_iff.1 hx).1
  exact hR _ _ _ (h5 i x Fs[i] hx (List.getElem?_eq_getElem hi))
mutual
theorem AtF.at : ∀ (sh : Sh) {cs : List V} {u : U} {F : List Nat}, AtF H sh cs u F → At H sh cs u
 | .int k, _, _, _, h => by simp only [AtF, At] at h ⊢; exact h.1
 | .bool, _, _, _, h => by simp only [AtF, At] at h ⊢; exact h.1
 | .str, _, _, _, h => by simp only [AtF, At] at h ⊢; exact h.1
 | .slice e, _, _, _, h => by
  simp only [AtF, At] at h ⊢
  obtain ⟨v, l, h1, h2, h3, h4⟩ := h
  exact ⟨v, l, h1, h2, h3, h4.sl fun _ _ _ h => AtF.at e h⟩
 | .st fs, _, _, _, h => by
  simp only [AtF, At] at h ⊢
  obtain ⟨us, h1, h2⟩ := h
  exact ⟨us, h1, AtsF.ats fs h2⟩
theorem AtsF.ats : ∀ (fs : List Sh) {cs : List V} {us : List U} {F : List Nat}, AtsF H fs cs us F → Ats H fs cs us
 | [], _, _, _, h => by simp only [AtsF, Ats] at h ⊢; exact ⟨h.1, h.2.1⟩
 | f :: fs, _, _, _, h => by
  simp only [AtsF, Ats] at h ⊢
  obtain ⟨c1, c2, u, us', F1, F2, h1, h2, _, h3, h4⟩ := h
  exact ⟨c1, c2, u, us', h1, h2, AtF.at f h3, AtsF.ats fs h4⟩
end
theorem SlF.frame {α : Type} {es : Nat} {R R' : List V → α → List Nat → Prop} {v : V} {xs : List α} {F : List Nat} (h : SlF H es R v xs F) (hF : ∀ id ∈ F, H'[id]? = H[id]?)
  (hR : ∀ cs x G, (∀ id ∈ G, H'[id]? = H[id]?) → R cs x G → R' cs x G) : SlF H' es R' v xs F := by
 rcases h with h | ⟨id, off, cells, Fs, h1, h2, h3, h4, h5, h6⟩
 ·exact .inl h
 ·subst h5
  refine .inr ⟨id, off, cells, Fs, h1, by rw [hF id List.mem_cons_self]; exact h2, h3, h4, rfl, fun i x G hx hG => ?_⟩
  exact hR _ _ _ (fun j hj => hF j (List.mem_cons_of_mem _ (List.mem_flatten.2 ⟨G, List.mem_of_getElem? hG, hj⟩))) (h6 i x G hx hG)
mutual
theorem AtF.frame : ∀ (sh : Sh) {cs : List V} {u : U} {F : List Nat}, (∀ id ∈ F, H'[id]? = H[id]?) → AtF H sh cs u F → AtF H' sh cs u F
 | .int k, _, _, _, _, h => by simpa only [AtF] using h
 | .bool, _, _, _, _, h => by simpa only [AtF] using h
 | .str, _, _, _, _, h => by simpa only [AtF] using h
 | .slice e, _, _, _, hF, h => by
  simp only [AtF] at h ⊢
  obtain ⟨v, l, h1, h2, h3, h4⟩ := h
  exact ⟨v, l, h1, h2, h3, h4.frame hF fun _ _ _ hG h => AtF.frame e hG h⟩
 | .st fs, _, _, _, hF, h => by
  simp only [AtF] at h ⊢
  obtain ⟨us, h1, h2⟩ := h
  exact ⟨us, h1, AtsF.frame fs hF h2⟩
theorem AtsF.frame : ∀ (fs : List Sh) {cs : List V} {us : List U} {F : List Nat}, (∀ id ∈ F, H'[id]? = H[id]?) → AtsF H fs cs us F → AtsF H' fs cs us F
 | [], _, _, _, _, h => by simpa only [AtsF] using h
 | f :: fs, _, _, _, hF, h => by
  simp only [AtsF] at h ⊢
  obtain ⟨c1, c2, u, us', F1, F2, h1, h2, rfl, h3, h4⟩ := h
  exact ⟨c1, c2, u, us', F1, F2, h1, h2, rfl, AtF.frame f (fun j hj => hF j (List.mem_append_left _ hj)) h3, AtsF.frame fs (fun j hj => hF j (List.mem_append_right _ hj)) h4⟩
end
theorem SlF.mem {α : Type} {es : Nat} {R : List V → α → List Nat → Prop} {v : V} {xs : List α} {F : List Nat} (h : SlF H es R v xs F) (hR : ∀ cs x G, R cs x G → ∀ id ∈ G, id < H.length) : ∀ id ∈ F, id < H.length := by
 rcases h with ⟨_, _, rfl⟩ | ⟨id, off, cells, Fs, h1, h2, h3, h4, rfl, h6⟩
 ·intro id h; cases h
 ·intro j hj
  rcases List.mem_cons.1 hj with rfl | hj
  ·exact (List.getElem?_eq_some_iff.1 h2).1
  ·obtain ⟨G, hG, hj⟩ := List.mem_flatten.1 hj
   obtain ⟨i, hi, rfl⟩ := List.getElem_of_mem hG
   exact hR _ _ _ (h6 i (xs[i]'(by omega)) Fs[i] (List.getElem?_eq_getElem _) (List.getElem?_eq_getElem _)) j hj
mutual
theorem AtF.mem : ∀ (sh : Sh) {cs : List V} {u : U} {F : List Nat}, AtF H sh cs u F → ∀ id ∈ F, id < H.length
 | .int k, _, _, _, h => by simp only [AtF] at h; rw [h.2]; intro _ h; cases h
 | .bool, _, _, _, h => by simp only [AtF] at h; rw [h.2]; intro _ h; cases h
 | .str, _, _, _, h => by simp only [AtF] at h; rw [h.2]; intro _ h; cases h
 | .slice e, _, _, _, h => by
  simp only [AtF] at h
  obtain ⟨v, l, h1, h2, h3, h4⟩ := h
  exact h4.mem fun _ _ _ h => AtF.mem e h
 | .st fs, _, _, _, h => by
  simp only [AtF] at h
  obtain ⟨us, h1, h2⟩ := h
  exact AtsF.mem fs h2
theorem AtsF.mem : ∀ (fs : List Sh) {cs : List V} {us : List U} {F : List Nat}, AtsF H fs cs us F → ∀ id ∈ F, id < H.length
 | [], _, _, _, h => by simp only [AtsF] at h; rw [h.2.2]; intro _ h; cases h
 | f :: fs, _, _, _, h => by
  simp only [AtsF] at h
  obtain ⟨c1, c2, u, us', F1, F2, h1, h2, rfl, h3, h4⟩ := h
  intro id hid
  rcases List.mem_append.1 hid with hid | hid
  ·exact AtF.mem f h3 id hid
  ·exact AtsF.mem fs h4 id hid
end
theorem AtF.ext {sh : Sh} {cs : List V} {u : U} {F : List Nat} (h : AtF H sh cs u F) : AtF (H ++ T) sh cs u F :=
 h.frame sh fun id hid => List.getElem?_append_left (AtF.mem sh h id hid)
theorem lowVs_append {a b : List V} : lowVs H (a ++ b) ↔ lowVs H a ∧ lowVs H b := by
 induction a with
 | nil => simp [lowVs]
 | cons x xs ih => simp only [List.cons_append, lowVs, ih, and_assoc]
mutual
theorem AtF.cut : ∀ (sh : Sh) {cs : List V} {u : U} {F : List Nat}, AtF (H ++ T) sh cs u F → (∀ id ∈ F, H.length ≤ id) → lowVs H cs → F = []
 | .int k, _, _, _, h, _, _ => by simp only [AtF] at h; exact h.2
 | .bool, _, _, _, h, _, _ => by simp only [AtF] at h; exact h.2
 | .str, _, _, _, h, _, _ => by simp only [AtF] at h; exact h.2
 | .slice e, _, _, _, h, hF, hl => by
  simp only [AtF] at h
  obtain ⟨v, l, rfl, h2, h3, h4⟩ := h
  rcases h4 with ⟨_, _, rfl⟩ | ⟨id, off, cells, Fs, rfl, g2, g3, g4, rfl, g6⟩
  ·rfl
  ·simp only [lowVs, lowV, thereAt, and_true] at hl
   obtain ⟨own, es, cells, hl⟩ := hl
   have := (List.getElem?_eq_some_iff.1 hl).1
   have := hF id List.mem_cons_self
   omega
 | .st fs, _, _, _, h, hF, hl => by
  simp only [AtF] at h
  obtain ⟨us, h1, h2⟩ := h
  exact AtsF.cut fs h2 hF hl
theorem AtsF.cut : ∀ (fs : List Sh) {cs : List V} {us : List U} {F : List Nat}, AtsF (H ++ T) fs cs us F → (∀ id ∈ F, H.length ≤ id) → lowVs H cs → F = []
 | [], _, _, _, h, _, _ => by simp only [AtsF] at h; exact h.2.2
 | f :: fs, _, _, _, h, hF, hl => by
  simp only [AtsF] at h
  obtain ⟨c1, c2, u, us', F1, F2, rfl, h2, rfl, h3, h4⟩ := h
  rw [lowVs_append] at hl
  rw [AtF.cut f h3 (fun id hid => hF id (List.mem_append_left _ hid)) hl.1, AtsF.cut fs h4 (fun id hid => hF id (List.mem_append_right _ hid)) hl.2]
  rfl
end
end
mutual
def wt : U → Nat
 | .str s => s.length
 | .lst l => l.length + wts l
 | .st l => wts l
 | _ => 0
def wts : List U → Nat
 | [] => 0
 | u :: us => wt u + wts us
end
theorem wts_get {l : List U} {i : Nat} {u : U} (h : l[i]? = some u) : wt u ≤ wts l := by
 induction l generalizing i with
 | nil => cases h
 | cons x xs ih =>
  cases i with
  | zero => cases h; simp only [wts]; omega
  | succ i => simp only [wts]; have := ih (i := i) h; omega
theorem wts_take {l : List U} {i : Nat} {u : U} (h : l[i]? = some u) : wts (l.take (i + 1)) = wts (l.take i) + wt u := by
 induction l generalizing i with
 | nil => cases h
 | cons x xs ih =>
  cases i with
  | zero => cases h; simp [wts]
  | succ i => simp only [List.take_succ_cons, wts]; rw [ih (i := i) h]; omega
theorem wts_take_le {l : List U} {i : Nat} : wts (l.take i) ≤ wts l := by
 induction l generalizing i with
 | nil => simp [wts]
 | cons x xs ih =>
  cases i with
  | zero => simp [wts]
  | succ i => simp only [List.take_succ_cons, wts]; have := ih (i := i); omega
def dU : D → U
 | .int n => .int n
 | .bool b => .bool b
 | .str s => .str s
 | .nil => .lst []
 | .lst l => .lst (dUs l)
 | .st l => .st (dUs l)
where dUs : List D → List U
 | [] => []
 | d :: ds => dU d :: dUs ds
theorem dUs_len : ∀ (l : List D), (dU.dUs l).length = l.length
 | [] => rfl
 | d :: ds => by simp [dU.dUs, dUs_len ds]
theorem dUs_get : ∀ (l : List D) (i : Nat), (dU.dUs l)[i]? = l[i]?.map dU
 | [], i => by simp [dU.dUs]
 | d :: ds, 0 => by simp [dU.dUs]
 | d :: ds, i + 1 => by simp [dU.dUs, dUs_get ds i]
mutual
theorem Is.at {H : List Ob} : ∀ (sh : Sh) {cs : List V} {d : D}, Is H sh cs d → At H sh cs (dU d)
 | .int k, cs, d, h => by
  unfold Is at h
  split at h <;> first | (exfalso; exact h) | (rename_i he; cases he) | skip
  all_goals (obtain ⟨rfl, rfl, h⟩ := h; exact ⟨_, rfl, rfl, h⟩)
 | .bool, cs, d, h => by
  unfold Is at h
  split at h <;> first | (exfalso; exact h) | (rename_i he; cases he) | skip
  all_goals (subst h; exact ⟨_, rfl, rfl⟩)
 | .str, cs, d, h => by
  unfold Is at h
  split at h <;> first | (exfalso; exact h) | (rename_i he; cases he) | skip
  all_goals (obtain ⟨rfl, h⟩ := h; exact ⟨_, rfl, rfl, h⟩)
 | .slice e, cs, d, h => by
  match cs, d, h with
  | [.slc none n], .nil, h =>
   simp only [Is] at h
   subst h
   simp only [At, dU]
   exact ⟨_, _, rfl, rfl, by simp, .inl ⟨rfl, rfl⟩⟩
  | [.slc (some (id, off)) n], .lst l, h =>
   simp only [Is] at h
   obtain ⟨rfl, h0, own, cells, h2, h3, h4⟩ := h
   simp only [At, dU]
   refine ⟨_, _, rfl, rfl, by rw [dUs_len]; exact h0, .inr ⟨id, off, own, cells, by rw [dUs_len], h2, by rw [dUs_len]; exact h3, fun i x hx => ?_⟩⟩
   rw [dUs_get] at hx
   obtain ⟨d, hd, rfl⟩ := Option.map_eq_some_iff.1 hx
   exact Is.at e (h4 i d hd)
 | .st fs, cs, d, h => by
  match d, h with
  | .st ds, h =>
   simp only [Is] at h
   simp only [At, dU]
   exact ⟨_, rfl, IsAll.ats fs h⟩
theorem IsAll.ats {H : List Ob} : ∀ (fs : List Sh) {cs : List V} {ds : List D}, IsAll H fs cs ds → Ats H fs cs (dU.dUs ds)
 | [], cs, ds, h => by simp only [IsAll] at h; obtain ⟨rfl, rfl⟩ := h; exact ⟨rfl, rfl⟩
 | f :: fs, cs, d :: ds, h => by
  simp only [IsAll] at h
  simp only [Ats, dU.dUs]
  exact ⟨_, _, _, _, (List.take_append_drop _ _).symm, rfl, Is.at f h.1, IsAll.ats fs h.2⟩
 | _ :: _, _, [], h => by simp only [IsAll] at h
end
def erO (o : Oper) : Oper := { dst := o.dst, op := o.op, type := 0, pos := "", after := #[], guard := o.guard }
def er : Code → Code
 | .region id ops draw => .region id ⟨ops.toList.map erO⟩ draw
 | .seq a b => .seq (er a) (er b)
 | .cond c a b => .cond c (er a) (er b)
 | .block id b => .block id (er b)
 | .loop b => .loop (er b)
 | c => c
def sub (l : List (Nat × Nat)) (n : Nat) : Nat := match l with
 | [] => n
 | (a, b) :: l => if n = a then b else sub l n
def renX (ρ : List (Nat × Nat)) : Operand → Operand
 | .func f => .func (sub ρ f)
 | x => x
def renP (τ ρ : List (Nat × Nat)) : Op → Op
 | .move x => .move (renX ρ x)
 | .assign x => .assign (renX ρ x)
 | .box t x => .box (sub τ t) (renX ρ x)
 | .alloc t => .alloc (sub τ t)
 | .load t x => .load (sub τ t) (renX ρ x)
 | .store t x y => .store (sub τ t) (renX ρ x) (renX ρ y)
 | .binOp o t x y u => .binOp o (sub τ t) (renX ρ x) (renX ρ y) (sub τ u)
 | .unOp o t x => .unOp o (sub τ t) (renX ρ x)
 | .makeSlice t l c => .makeSlice (sub τ t) (renX ρ l) (renX ρ c)
 | .fieldAddr t x f => .fieldAddr (sub τ t) (renX ρ x) f
 | .indexAddr t x i => .indexAddr (sub τ t) (renX ρ x) (renX ρ i)
 | .call { callee := .value g, args := a, argTypes := t } => .call { callee := .value (renX ρ g), args := ⟨a.toList.map (renX ρ)⟩, argTypes := ⟨t.toList.map (sub τ)⟩ }
 | .call { callee := c, args := a, argTypes := t } => .call { callee := c, args := ⟨a.toList.map (renX ρ)⟩, argTypes := ⟨t.toList.map (sub τ)⟩ }
 | o => o
def renO (τ ρ : List (Nat × Nat)) (o : Oper) : Oper := { dst := o.dst, op := renP τ ρ o.op, type := 0, pos := "", after := #[], guard := o.guard }
def ren (τ ρ : List (Nat × Nat)) : Code → Code
 | .region id ops draw => .region id ⟨ops.toList.map (renO τ ρ)⟩ draw
 | .seq a b => .seq (ren τ ρ a) (ren τ ρ b)
 | .cond c a b => .cond c (ren τ ρ a) (ren τ ρ b)
 | .block id b => .block id (ren τ ρ b)
 | .loop b => .loop (ren τ ρ b)
 | c => c
section
variable {C : Ctx} {callf : CallF} {f : Nat}
theorem wantedL_er {ops : Array Oper} {g : Option (Nat × Bool)} {σ : St} : wantedL ⟨ops.toList.map erO⟩ σ g = wantedL ops σ g := by
 cases g with
 | none => rfl
 | some g =>
  obtain ⟨j, w⟩ := g
  simp only [wantedL, List.getElem?_toArray, List.getElem?_map, Array.getElem?_toList]
  cases ops[j]? <;> rfl
theorem stepL_er {ops : Array Oper} {o : Oper} {σ : St} : stepL C callf f ⟨ops.toList.map erO⟩ (erO o) σ = stepL C callf f ops o σ := by
 have hw : wantedL ⟨ops.toList.map erO⟩ σ o.guard = wantedL ops σ o.guard := by
  cases o.guard with
  | none => rfl
  | some g =>
   obtain ⟨j, w⟩ := g
   simp only [wantedL, List.getElem?_toArray, List.getElem?_map, Array.getElem?_toList]
   cases ops[j]? <;> rfl
 show (match wantedL ⟨ops.toList.map erO⟩ σ o.guard with | some true => opL C callf f o σ | some false => some (σ.put o.dst (.val (.tup []))) | none => none) = _
 rw [hw]
 rfl
theorem runL_er {ops : Array Oper} : ∀ (l : List Oper) (σ : St), runL C callf f ⟨ops.toList.map erO⟩ (l.map erO) σ = runL C callf f ops l σ
 | [], σ => rfl
 | o :: os, σ => by
  simp only [List.map_cons, runL, stepL_er]
  cases stepL C callf f ops o σ with
  | none => rfl
  | some σ' => exact runL_er os σ'
theorem runK_er {ops : Array Oper} {h : Hint} {base : Nat} : ∀ (l : List Nat) (σ : St), runK C callf f ⟨ops.toList.map erO⟩ h base l σ = runK C callf f ops h base l σ
 | [], σ => rfl
 | i :: is, σ => by
  have hk : stepK C callf f ⟨ops.toList.map erO⟩ h base i σ = stepK C callf f ops h base i σ := by
   simp only [stepK, List.getElem?_toArray, List.getElem?_map, Array.getElem?_toList]
   cases ops[i]? with
   | none => rfl
   | some o =>
    have hf : fitsAt h base i (erO o) σ = fitsAt h base i o σ := rfl
    simp only [Option.map_some, hf, stepL_er]
  simp only [runK, hk]
  cases stepK C callf f ops h base i σ with
  | none => rfl
  | some σ' => exact runK_er is σ'
theorem runR_er {ops : Array Oper} {h : Hint} {base : Nat} : ∀ (l : List Nat) (σ : St), runR C callf f ⟨ops.toList.map erO⟩ h base l σ = runR C callf f ops h base l σ
 | [], σ => rfl
 | i :: is, σ => by
  have hk : ∀ (b : Nat) (σ : St), stepK C callf f ⟨ops.toList.map erO⟩ h b i σ = stepK C callf f ops h b i σ := fun b σ => by
   simp only [stepK, List.getElem?_toArray, List.getElem?_map, Array.getElem?_toList]
   cases ops[i]? with
   | none => rfl
   | some o =>
    have hf : fitsAt h b i (erO o) σ = fitsAt h b i o σ := rfl
    simp only [Option.map_some, hf, stepL_er]
  have hk2 : stepR C callf f ⟨ops.toList.map erO⟩ h base i σ = stepR C callf f ops h base i σ := by
   simp only [stepR, hk]
   cases h.res.lookup i with
   | none => rfl
   | some k =>
    simp only [List.getElem?_toArray, List.getElem?_map, Array.getElem?_toList]
    cases ops[i]? with
    | none => rfl
    | some o =>
     simp only [Option.map_some]
     have hw : wantedL ⟨ops.toList.map erO⟩ σ (erO o).guard = wantedL ops σ o.guard := wantedL_er
     rw [hw]
     rfl
  simp only [runR, hk2]
  cases stepR C callf f ops h base i σ with
  | none => rfl
  | some σ' => exact runR_er is σ'
theorem regionL_er {id : Nat} {ops : Array Oper} {d : Bool} {σ : St} : regionL C callf f id ⟨ops.toList.map erO⟩ d σ = regionL C callf f id ops d σ := by
 have h : runL C callf f ⟨ops.toList.map erO⟩ (ops.toList.map erO) σ = runL C callf f ops ops.toList σ := runL_er _ _
 cases d with
 | false => exact h
 | true =>
  simp only [regionL]
  cases C.ord f id with
  | none => exact h
  | some k =>
   simp only []
   cases k.res with
   | nil => exact runK_er _ _
   | cons x xs => exact runR_er _ _
theorem execN_er {n : Nat} : ∀ (c : Code), execN C callf f n (er c) = execN C callf f n c
 | .region id ops d => by funext σ; simp only [er, execN, regionL_er]
 | .seq a b => by funext σ; simp only [er, execN, execN_er a, execN_er b]
 | .cond c a b => by funext σ; simp only [er, execN, execN_er a, execN_er b]
 | .block id b => by funext σ; simp only [er, execN, execN_er b]
 | .loop b => by funext σ; simp only [er, execN, execN_er b]
 | .skip | .rangeFunc .. | .exit _ | .scope _ | .label _ | .goto _ | .ret | .refuse _ => rfl
open Classical in
theorem execW_er {c : Code} : execW C f (er c) = execW C f c := by
 funext σ
 unfold execW
 exact congrArg (fun (g : Nat → Option (Ex × St)) => if h : ∃ x n, g n = some x then some h.choose else none) (funext fun n => congrFun (execN_er c) σ)
theorem WP_er {c : Code} {σ : St} {Q : Ex → St → Prop} : WP C f (er c) σ Q ↔ WP C f c σ Q := by
 simp only [WP, execW_er]
theorem op_ren {c c' : Code} {F : Func} (h : er c = c') (ho : ∀ {a : List V} {H : List Ob} {R : V → List Ob → Prop}, Ret C f a H R ↔ WP C f c ⟨initRegs a, 0, H⟩ (finQ C F H R)) {a : List V} {H : List Ob} {R : V → List Ob → Prop} :
  Ret C f a H R ↔ WP C f c' ⟨initRegs a, 0, H⟩ (finQ C F H R) := by
 subst h
 rw [WP_er]
 exact ho
end
section
variable {H : List Ob}
mutual
theorem At.ones : ∀ (sh : Sh) {cs : List V} {u : U}, At H sh cs u → cs.all isOne = true
 | .int k, _, _, h => by obtain ⟨n, rfl, _⟩ := At_int.1 h; rfl
 | .bool, _, _, h => by obtain ⟨n, rfl, _⟩ := At_bool.1 h; rfl
 | .str, _, _, h => by obtain ⟨n, rfl, _⟩ := At_str.1 h; rfl
 | .slice e, _, _, h => by
  obtain ⟨v, l, rfl, _, _, h4⟩ := At_slice.1 h
  simp [h4.one.1]
 | .st fs, _, _, h => by
  obtain ⟨us, _, h2⟩ := At_st.1 h
  exact Ats.ones fs h2
theorem Ats.ones : ∀ (fs : List Sh) {cs : List V} {us : List U}, Ats H fs cs us → cs.all isOne = true
 | [], _, _, h => by rw [(Ats_nil.1 h).1]; rfl
 | f :: fs, _, _, h => by
  obtain ⟨c1, c2, u, us', rfl, _, h3, h4⟩ := Ats_cons.1 h
  rw [List.all_append, At.ones f h3, Ats.ones fs h4]
  rfl
end
end
theorem setRange_same {cells c : List V} {o : Nat} (h : o + c.length ≤ cells.length) : ((setRange cells o c).drop o).take c.length = c := by
 unfold setRange
 have h1 : (cells.take o).length = o := by simp; omega
 rw [List.append_assoc, List.drop_append_of_le_length (by omega), List.drop_of_length_le (by omega), List.nil_append, List.take_left']
 rfl
theorem setRange_apart {cells c : List V} {o p n : Nat} (h : o + c.length ≤ cells.length) (hp : p + n ≤ o ∨ o + c.length ≤ p) : ((setRange cells o c).drop p).take n = (cells.drop p).take n := by
 apply List.ext_getElem?
 intro j
 by_cases hj : j < n
 ·rw [List.getElem?_take_of_lt hj, List.getElem?_take_of_lt hj, List.getElem?_drop, List.getElem?_drop]
  unfold setRange
  rw [List.append_assoc]
  have h1 : (cells.take o).length = o := by simp; omega
  rcases hp with hp | hp
  ·rw [List.getElem?_append_left (by omega), List.getElem?_take_of_lt (by omega)]
  ·rw [List.getElem?_append_right (by omega), h1, List.getElem?_append_right (by omega), List.getElem?_drop]
   congr 1
   omega
 ·rw [List.getElem?_eq_none (by simp; omega), List.getElem?_eq_none (by simp; omega)]
theorem setRange_len {cells c : List V} {o : Nat} (h : o + c.length ≤ cells.length) : (setRange cells o c).length = cells.length := by
 unfold setRange
 simp
 omega
def ToI (H : List Ob) (e : Sh) (l : List U) (i : Nat) (G : List Ob) : Prop := ∃ (T : List Ob) (cells : List V) (Fs : List (List Nat)), G = H ++ .mk true e.size cells :: T ∧ cells.length = l.length * e.size ∧ Fs.length = i ∧
 (∀ (j : Nat) x F, l[j]? = some x → Fs[j]? = some F → AtF G e ((cells.drop (j * e.size)).take e.size) x F) ∧ Fs.flatten.Nodup ∧ ∀ id ∈ Fs.flatten, H.length + 1 ≤ id
section
variable {H : List Ob} {e : Sh} {l : List U}
theorem ToI.init {zs : List V} (hz : zs.length = l.length * e.size) : ToI H e l 0 (H ++ [.mk true e.size zs]) :=
 ⟨[], zs, [], rfl, hz, rfl, fun j x F _ h => by simp at h, by simp, by simp⟩
theorem mul_step {i n s : Nat} (h : i < n) : i * s + s ≤ n * s := by
 have := Nat.mul_le_mul_right s (show i + 1 ≤ n from h)
 rwa [Nat.succ_mul] at this
theorem ToI.step {i : Nat} {G T : List Ob} {x : U} {c : List V} {F : List Nat} (h : ToI H e l i G) (hx : l[i]? = some x) (hc : AtF (G ++ T) e c x F) (hn : F.Nodup) (hF : ∀ id ∈ F, G.length ≤ id) :
  ∃ cells, (G ++ T)[H.length]? = some (.mk true e.size cells) ∧ i * e.size + c.length ≤ cells.length ∧ c.length = e.size ∧ ToI H e l (i + 1) ((G ++ T).set H.length (.mk true e.size (setRange cells (i * e.size) c))) := by
 obtain ⟨T0, cells, Fs, rfl, h1, rfl, h3, h4, h5⟩ := h
 have hi : Fs.length < l.length := (List.getElem?_eq_some_iff.1 hx).1
 have hm := mul_step (s := e.size) hi
 have hcl : c.length = e.size := At.len e (AtF.at e hc)
 refine ⟨cells, by simp, by omega, hcl, T0 ++ T, setRange cells (Fs.length * e.size) c, Fs ++ [F], ?_, ?_, by simp, ?_, ?_, ?_⟩
 ·rw [List.append_assoc, List.cons_append, set_mid]
 ·rw [setRange_len (by omega), h1]
 ·intro j y K hy hK
  have hfr : ∀ id ∈ K, H.length + 1 ≤ id → ((H ++ .mk true e.size cells :: T0 ++ T).set H.length (.mk true e.size (setRange cells (Fs.length * e.size) c)))[id]? = (H ++ .mk true e.size cells :: T0 ++ T)[id]? := fun id _ hid => by
   rw [List.getElem?_set_ne (by omega)]
  rcases Nat.lt_or_ge j Fs.length with hj | hj
  ·rw [List.getElem?_append_left hj] at hK
   have hmj := mul_step (s := e.size) hj
   rw [setRange_apart (by omega) (.inl hmj)]
   refine AtF.frame e (fun id hid => ?_) (h3 j y K hy hK)
   rw [hfr id hid (h5 id (List.mem_flatten.2 ⟨K, List.mem_of_getElem? hK, hid⟩)), List.getElem?_append_left (AtF.mem e (h3 j y K hy hK) id hid)]
  ·have hj' : j = Fs.length := by
    have := (List.getElem?_eq_some_iff.1 hK).1
    simp at this
    omega
   subst hj'
   rw [hx] at hy
   cases hy
   rw [List.getElem?_append_right (Nat.le_refl _), Nat.sub_self] at hK
   cases hK
   have hs := setRange_same (cells := cells) (c := c) (o := Fs.length * e.size) (by omega)
   rw [hcl] at hs
   rw [hs]
   refine AtF.frame e (fun id hid => ?_) hc
   exact hfr id hid (by have := hF id hid; simp at this; omega)
 ·rw [List.flatten_append, List.nodup_append]
  refine ⟨h4, by simpa using hn, fun a ha b hb hab => ?_⟩
  subst hab
  simp at hb
  have h6 := hF a hb
  obtain ⟨K, hK, ha⟩ := List.mem_flatten.1 ha
  obtain ⟨j, hj, rfl⟩ := List.getElem_of_mem hK
  have := AtF.mem e (h3 j (l[j]'(by omega)) Fs[j] (List.getElem?_eq_getElem _) (List.getElem?_eq_getElem _)) a ha
  omega
 ·intro id hid
  rw [List.flatten_append] at hid
  rcases List.mem_append.1 hid with hid | hid
  ·exact h5 id hid
  ·simp at hid
   have := hF id hid
   simp at this
   omega
theorem ToI.done {G : List Ob} (h : ToI H e l l.length G) (hl : l.length ≤ maxLen) : ∃ T F, G = H ++ T ∧ AtF G (.slice e) [.slc (some (H.length, 0)) l.length] (.lst l) F ∧ F.Nodup ∧ (∀ id ∈ F, H.length ≤ id) ∧ T ≠ [] := by
 obtain ⟨T0, cells, Fs, rfl, h1, h2, h3, h4, h5⟩ := h
 refine ⟨_, H.length :: Fs.flatten, rfl, AtF_slice.2 ⟨_, l, rfl, rfl, hl, .inr ⟨H.length, 0, cells, Fs, rfl, by simp, by omega, h2, rfl, fun i x G hx hG => ?_⟩⟩, ?_, ?_, by simp⟩
 ·rw [Nat.zero_add]; exact h3 i x G hx hG
 ·rw [List.nodup_cons]
  exact ⟨fun h => by have := h5 _ h; omega, h4⟩
 ·intro id hid
  rcases List.mem_cons.1 hid with rfl | hid
  ·exact Nat.le_refl _
  ·have := h5 id hid; omega
theorem zerosL_len {E : LT} {n : Nat} : (zerosL E n).length = n * E.zero.length := by
 simp [zerosL]
end
def markLoop (k : Nat) (out : Str) : Str := if h : k = 0 then out else markLoop (k / 10) ((48 + UInt8.ofNat (k % 10)) :: out)
 termination_by k
 decreasing_by omega
def markStr (k : Nat) : Str := if k = 0 then [109, 48] else 109 :: markLoop k []
theorem markLoop_step {k : Nat} (h : k ≠ 0) (out : Str) : markLoop k out = markLoop (k / 10) ((48 + UInt8.ofNat (k % 10)) :: out) := by
 rw [markLoop, dif_neg h]
theorem markLoop_zero (out : Str) : markLoop 0 out = out := by
 rw [markLoop, dif_pos rfl]
theorem markLoop_len : ∀ (k : Nat) (out : Str), (markLoop k out).length ≤ out.length + k := by
 intro k
 induction k using Nat.strongRecOn with
 | ind k ih =>
  intro out
  by_cases h : k = 0
  ·rw [h, markLoop_zero]; omega
  ·rw [markLoop_step h]
   have := ih (k / 10) (by omega) ((48 + UInt8.ofNat (k % 10)) :: out)
   simp at this
   omega
theorem markStr_len {k : Nat} : (markStr k).length ≤ k + 2 := by
 unfold markStr
 split
 ·simp
 ·have := markLoop_len k []
  simp at this ⊢
  omega
mutual
def cntP : U → Nat
 | .lst l => cntPs l
 | .st l => cntPs l
 | _ => 1
def cntPs : List U → Nat
 | [] => 0
 | u :: us => cntP u + cntPs us
end
mutual
def mkP : U → Nat → U
 | .int _, k => .int k
 | .bool _, k => .bool (k % 3 == 0)
 | .str _, k => .str (markStr k)
 | .lst l, k => .lst (mkPs l k)
 | .st l, k => .st (mkPs l k)
def mkPs : List U → Nat → List U
 | [], _ => []
 | u :: us, k => mkP u k :: mkPs us (k + cntP u)
end
mutual
def cntV : U → Nat
 | .lst l => cntPs l
 | .st l => cntVs l
 | _ => 0
def cntVs : List U → Nat
 | [] => 0
 | u :: us => cntV u + cntVs us
end
mutual
def mkV : U → Nat → U
 | .lst l, k => .lst (mkPs l k)
 | .st l, k => .st (mkVs l k)
 | u, _ => u
def mkVs : List U → Nat → List U
 | [], _ => []
 | u :: us, k => mkV u k :: mkVs us (k + cntV u)
end
theorem mkPs_len : ∀ (l : List U) (k : Nat), (mkPs l k).length = l.length
 | [], _ => rfl
 | u :: us, k => by simp [mkPs, mkPs_len us]
theorem cntPs_append : ∀ (a b : List U), cntPs (a ++ b) = cntPs a + cntPs b
 | [], b => by simp [cntPs]
 | u :: us, b => by simp [cntPs, cntPs_append us]; omega
theorem mkPs_append : ∀ (a b : List U) (k : Nat), mkPs (a ++ b) k = mkPs a k ++ mkPs b (k + cntPs a)
 | [], b, k => by simp [mkPs, cntPs]
 | u :: us, b, k => by simp [mkPs, cntPs, mkPs_append us, Nat.add_assoc]
theorem take_get {α : Type} {l : List α} {i : Nat} {x : α} (h : l[i]? = some x) : l.take (i + 1) = l.take i ++ [x] := by
 rw [List.take_add_one, h]
 rfl
theorem cntPs_take {l : List U} {i : Nat} {x : U} (h : l[i]? = some x) : cntPs (l.take (i + 1)) = cntPs (l.take i) + cntP x := by
 rw [take_get h, cntPs_append]
 simp [cntPs]
theorem cntPs_take_le {l : List U} {i : Nat} : cntPs (l.take i) ≤ cntPs l := by
 have := cntPs_append (l.take i) (l.drop i)
 rw [List.take_append_drop] at this
 omega
theorem mk_get {l : List U} {i k : Nat} (hi : i < l.length) : (mkPs (l.take i) k ++ l.drop i)[i]? = l[i]? := by
 have : (mkPs (l.take i) k).length = i := by rw [mkPs_len]; simp; omega
 rw [List.getElem?_append_right (by omega), this, Nat.sub_self, List.getElem?_drop]
 rfl
theorem mk_set {l : List U} {i k : Nat} {x : U} (h : l[i]? = some x) : (mkPs (l.take i) k ++ l.drop i).set i (mkP x (k + cntPs (l.take i))) = mkPs (l.take (i + 1)) k ++ l.drop (i + 1) := by
 have hi : i < l.length := (List.getElem?_eq_some_iff.1 h).1
 have : (mkPs (l.take i) k).length = i := by rw [mkPs_len]; simp; omega
 rw [List.set_append_right _ _ (by omega), this, Nat.sub_self, List.drop_eq_getElem_cons hi, List.set_cons_zero, take_get h, mkPs_append, List.append_assoc]
 rfl
theorem mkPs_get {l : List U} {i k : Nat} {x : U} (h : l[i]? = some x) : (mkPs l k)[i]? = some (mkP x (k + cntPs (l.take i))) := by
 induction l generalizing i k with
 | nil => simp at h
 | cons u us ih =>
  cases i with
  | zero => cases h; simp [mkPs, cntPs]
  | succ i =>
   simp only [mkPs, List.getElem?_cons_succ, List.take_succ_cons, cntPs]
   rw [ih (i := i) (by simpa using h), Nat.add_assoc]
theorem mkV_lst {u : U} {k : Nat} {l : List U} (h : mkV u k = .lst l) : ∃ m, u = .lst m ∧ l = mkPs m k := by
 cases u <;> simp [mkV] at h
 exact ⟨_, rfl, h.symm⟩
theorem mkV_st {u : U} {k : Nat} {l : List U} (h : mkV u k = .st l) : ∃ m, u = .st m ∧ l = mkVs m k := by
 cases u <;> simp [mkV] at h
 exact ⟨_, rfl, h.symm⟩
theorem mkP_st {u : U} {k : Nat} {l : List U} (h : mkP u k = .st l) : ∃ m, u = .st m ∧ l = mkPs m k := by
 cases u <;> simp [mkP] at h
 exact ⟨_, rfl, h.symm⟩
theorem mkPs_cons {us b : List U} {a : U} {k : Nat} (h : mkPs us k = a :: b) : ∃ u us', us = u :: us' ∧ a = mkP u k ∧ b = mkPs us' (k + cntP u) := by
 cases us with
 | nil => cases h
 | cons u us' => simp only [mkPs, List.cons.injEq] at h; exact ⟨u, us', rfl, h.1.symm, h.2.symm⟩
theorem mkPs_nil {us : List U} {k : Nat} (h : mkPs us k = []) : us = [] := by
 cases us with
 | nil => rfl
 | cons u us' => cases h
theorem mkVs_cons {us b : List U} {a : U} {k : Nat} (h : mkVs us k = a :: b) : ∃ u us', us = u :: us' ∧ a = mkV u k ∧ b = mkVs us' (k + cntV u) := by
 cases us with
 | nil => cases h
 | cons u us' => simp only [mkVs, List.cons.injEq] at h; exact ⟨u, us', rfl, h.1.symm, h.2.symm⟩
theorem mkVs_nil {us : List U} {k : Nat} (h : mkVs us k = []) : us = [] := by
 cases us with
 | nil => rfl
 | cons u us' => cases h
theorem mkP_lst {u : U} {k : Nat} {l : List U} (h : mkP u k = .lst l) : ∃ m, u = .lst m ∧ l = mkPs m k := by
 cases u <;> simp [mkP] at h
 exact ⟨_, rfl, h.symm⟩
theorem mkV_str {u : U} {k : Nat} {s : Str} (h : mkV u k = .str s) : u = .str s := by
 cases u <;> simp [mkV] at h
 rw [h]
theorem mkV_int {u : U} {k : Nat} {s : Int} (h : mkV u k = .int s) : u = .int s := by
 cases u <;> simp [mkV] at h
 rw [h]
theorem mkP_int {u : U} {k : Nat} {n : Int} (h : mkP u k = .int n) : (∃ t, u = .int t) ∧ n = k := by
 cases u <;> simp [mkP] at h
 exact ⟨⟨_, rfl⟩, h.symm⟩
theorem mkP_bool {u : U} {k : Nat} {n : Bool} (h : mkP u k = .bool n) : (∃ t, u = .bool t) ∧ n = (k % 3 == 0) := by
 cases u <;> simp [mkP] at h
 exact ⟨⟨_, rfl⟩, h.symm⟩
theorem wt_st {l : List U} : wt (.st l) = wts l := rfl
theorem wt_str {s : Str} : wt (.str s) = s.length := rfl
theorem wt_int {n : Int} : wt (.int n) = 0 := rfl
theorem wt_bool {b : Bool} : wt (.bool b) = 0 := rfl
theorem wts_nil : wts [] = 0 := rfl
theorem wts_cons {u : U} {us : List U} : wts (u :: us) = wt u + wts us := rfl
theorem cntV_st {l : List U} : cntV (.st l) = cntVs l := rfl
theorem cntV_str {s : Str} : cntV (.str s) = 0 := rfl
theorem cntV_int {n : Int} : cntV (.int n) = 0 := rfl
theorem cntV_bool {b : Bool} : cntV (.bool b) = 0 := rfl
theorem cntVs_nil : cntVs [] = 0 := rfl
theorem cntVs_cons {u : U} {us : List U} : cntVs (u :: us) = cntV u + cntVs us := rfl
theorem cntP_st {l : List U} : cntP (.st l) = cntPs l := rfl
theorem cntP_str {s : Str} : cntP (.str s) = 1 := rfl
theorem cntP_int {n : Int} : cntP (.int n) = 1 := rfl
theorem cntP_bool {b : Bool} : cntP (.bool b) = 1 := rfl
theorem cntPs_nil : cntPs [] = 0 := rfl
theorem cntPs_cons {u : U} {us : List U} : cntPs (u :: us) = cntP u + cntPs us := rfl
theorem cntPV {l : List U} : cntV (.lst l) = cntP (.lst l) := rfl
theorem gcH_to {H T : List Ob} {fs : List Sh} {cs : List V} {u : U} {F : List Nat} (ha : AtF (H ++ T) (.st fs) cs u F) (hF : ∀ q ∈ F, H.length ≤ q) : ∃ T', gcH H (H ++ T) (.agg cs) = H ++ T' ∧ AtF (H ++ T') (.st fs) cs u F := by
 by_cases hl : lowV H (.agg cs)
 ·refine ⟨[], by rw [gcH_low hl, List.append_nil], ?_⟩
  have h0 : F = [] := AtF.cut _ ha hF (by simpa only [lowV] using hl)
  subst h0
  exact AtF.frame _ (fun q hq => by cases hq) ha
 ·refine ⟨T, ?_, ha⟩
  unfold gcH
  rw [if_neg fun h => hl h.2]
theorem AtF.app {H T : List Ob} {sh : Sh} {cs : List V} {u : U} {F : List Nat} (h : AtF H sh cs u F) : AtF (H ++ T) sh cs u F := h.ext
theorem mkP_str {u : U} {k : Nat} {s : Str} (h : mkP u k = .str s) : (∃ t, u = .str t) ∧ s = markStr k := by
 cases u <;> simp [mkP] at h
 exact ⟨⟨_, rfl⟩, h.symm⟩
theorem regionL_some {C : Ctx} {callf : CallF} {f id : Nat} {ops : Array Oper} {σ : St} {h : Hint} (ho : C.ord f id = some h) : regionL C callf f id ops true σ = match h.res with
  | [] => runK C callf f ops h σ.heap.length h.ord σ
  | _ :: _ => runR C callf f ops h σ.heap.length h.ord { σ with heap := σ.heap ++ List.replicate h.res.length .dead } := by
 simp only [regionL, ho]
 cases h.res <;> rfl
theorem Keep_refl {n : Nat} {H : List Ob} : Keep n H H := fun _ _ => rfl
theorem Keep_append {n : Nat} {H T : List Ob} (h : n ≤ H.length) : Keep n H (H ++ T) := fun id hid => by rw [List.getElem?_append_left (by omega)]
attribute [simp] regionL_some runK stepK runR stepR newOb hidOf dstLoc fitsAt lookOf isStore Keep_refl
section
variable {G : List Ob}
theorem AtsF.lens : ∀ (fs1 : List Sh) {f : Sh} {fs2 : List Sh} {cs : List V} {us1 us2 : List U} {u : U} {F : List Nat}, AtsF G (fs1 ++ f :: fs2) cs (us1 ++ u :: us2) F → us1.length = fs1.length → F.Nodup →
  ∃ c1 c c2 K, cs = c1 ++ (c ++ c2) ∧ c1.length = Sh.sizes fs1 ∧ AtF G f c u K ∧ K.Nodup ∧ (∀ q ∈ K, q ∈ F) ∧
   ∀ G' y c', (∀ q ∈ F, q ∉ K → G'[q]? = G[q]?) → AtF G' f c' y K → AtsF G' (fs1 ++ f :: fs2) (c1 ++ (c' ++ c2)) (us1 ++ y :: us2) F
 | [], f, fs2, cs, us1, us2, u, F, h, hl, hn => by
  have : us1 = [] := by simpa using hl
  subst this
  obtain ⟨c1, c2, u', us', F1, F2, rfl, hu, rfl, h1, h2⟩ := AtsF_cons.1 h
  cases hu
  rw [List.nodup_append] at hn
  refine ⟨[], c1, c2, F1, rfl, rfl, h1, hn.1, fun q hq => List.mem_append_left _ hq, fun G' y c' hG hc => ?_⟩
  exact AtsF_cons.2 ⟨c', c2, y, us2, F1, F2, rfl, rfl, rfl, hc, AtsF.frame fs2 (fun q hq => hG q (List.mem_append_right _ hq) fun hq1 => hn.2.2 q hq1 q hq rfl) h2⟩
 | g :: fs1, f, fs2, cs, us1, us2, u, F, h, hl, hn => by
  obtain ⟨c1, c2, u', us', F1, F2, rfl, hu, rfl, h1, h2⟩ := AtsF_cons.1 h
  match us1, hl, hu with
  | v :: us1, hl, hu =>
   cases hu
   rw [List.nodup_append] at hn
   obtain ⟨d1, c, d2, K, rfl, k1, k2, k3, k4, k5⟩ := AtsF.lens fs1 h2 (by simpa using hl) hn.2.1
   refine ⟨c1 ++ d1, c, d2, K, by rw [List.append_assoc], by rw [List.length_append, At.len g (AtF.at g h1), k1]; rfl, k2, k3, fun q hq => List.mem_append_right _ (k4 q hq), fun G' y c' hG hc => ?_⟩
   rw [List.append_assoc]
   exact AtsF_cons.2 ⟨c1, _, _, _, F1, F2, rfl, rfl, rfl, AtF.frame g (fun q hq => hG q (List.mem_append_left _ hq) fun hq1 => hn.2.2 q hq q (k4 q hq1) rfl) h1,
    k5 G' y c' (fun q hq hq1 => hG q (List.mem_append_right _ hq) hq1) hc⟩
theorem AtF.elem {e : Sh} {v : V} {l : List U} {F : List Nat} (h : AtF G (.slice e) [v] (.lst l) F) (hn : F.Nodup) {i : Nat} {x : U} (hx : l[i]? = some x) :
  ∃ id off cells K, v = .slc (some (id, off)) l.length ∧ G[id]? = some (.mk true e.size cells) ∧ off + i * e.size + e.size ≤ cells.length ∧ AtF G e ((cells.drop (off + i * e.size)).take e.size) x K ∧ K.Nodup ∧ id ∉ K ∧ id ∈ F ∧ (∀ q ∈ K, q ∈ F) ∧
   ∀ G' c' y, c'.length = e.size → G'[id]? = some (.mk true e.size (setRange cells (off + i * e.size) c')) → (∀ q ∈ F, q ≠ id → q ∉ K → G'[q]? = G[q]?) → AtF G' e c' y K → AtF G' (.slice e) [v] (.lst (l.set i y)) F := by
 obtain ⟨v', l', hv', hu, hl, hs⟩ := AtF_slice.1 h
 cases hv'
 cases hu
 rcases hs with ⟨_, rfl, _⟩ | ⟨id, off, cells, Fs, rfl, h2, h3, h4, rfl, h6⟩
 ·simp at hx
 ·have hi : i < l.length := (List.getElem?_eq_some_iff.1 hx).1
  have hm := mul_step (s := e.size) hi
  obtain ⟨K, hK⟩ : ∃ K, Fs[i]? = some K := ⟨Fs[i]'(by omega), List.getElem?_eq_getElem _⟩
  have hKF : ∀ q ∈ K, q ∈ Fs.flatten := fun q hq => List.mem_flatten.2 ⟨K, List.mem_of_getElem? hK, hq⟩
  have hn' := List.nodup_cons.1 hn
  have hap : ∀ (a b : Nat) (A B : List Nat), Fs[a]? = some A → Fs[b]? = some B → a ≠ b → ∀ q ∈ A, q ∉ B := by
   have hp := (List.pairwise_flatten.1 hn'.2).2
   rw [List.pairwise_iff_getElem] at hp
   intro a b A B hA hB hab q hqa hqb
   obtain ⟨ha, rfl⟩ := List.getElem?_eq_some_iff.1 hA
   obtain ⟨hb, rfl⟩ := List.getElem?_eq_some_iff.1 hB
   rcases Nat.lt_or_gt_of_ne hab with h | h
   ·exact hp a b ha hb h q hqa q hqb rfl
   ·exact hp b a hb ha h q hqb q hqa rfl
  refine ⟨id, off, cells, K, rfl, h2, by omega, h6 i x K hx hK, (List.pairwise_flatten.1 hn'.2).1 K (List.mem_of_getElem? hK), fun hq => hn'.1 (hKF _ hq), List.mem_cons_self, fun q hq => List.mem_cons_of_mem _ (hKF q hq), fun G' c' y hc hG hfr hy => ?_⟩
  refine AtF_slice.2 ⟨_, _, rfl, rfl, by simpa using hl, .inr ⟨id, off, setRange cells (off + i * e.size) c', Fs, by simp, hG, by rw [setRange_len (by omega)]; simpa using h3, by simpa using h4, rfl, fun j z J hz hJ => ?_⟩⟩
  by_cases hij : j = i
  ·subst hij
   rw [hK] at hJ
   cases hJ
   have hz' : z = y := by
    rw [List.getElem?_set_self (by omega)] at hz
    exact (Option.some.inj hz).symm
   subst hz'
   have := setRange_same (cells := cells) (c := c') (o := off + j * e.size) (by omega)
   rw [hc] at this
   rw [this]
   exact hy
  ·rw [List.getElem?_set_ne (by omega)] at hz
   have hj : j < l.length := (List.getElem?_eq_some_iff.1 hz).1
   have hmj := mul_step (s := e.size) hj
   rw [setRange_apart (by omega) (by
    rcases Nat.lt_or_gt_of_ne hij with h | h
    ·have := mul_step (s := e.size) h; exact .inl (by omega)
    ·have := mul_step (s := e.size) h; exact .inr (by omega))]
   refine AtF.frame e (fun q hq => ?_) (h6 j z J hz hJ)
   exact hfr q (List.mem_cons_of_mem _ (List.mem_flatten.2 ⟨J, List.mem_of_getElem? hJ, hq⟩)) (by rintro rfl; exact hn'.1 (List.mem_flatten.2 ⟨J, List.mem_of_getElem? hJ, hq⟩)) (hap j i J K hJ hK hij q hq)
theorem set_cells {cells c1 c2 : List V} {o n : Nat} {v w : V} (hc : (cells.drop o).take n = c1 ++ ([v] ++ c2)) (hn : o + n ≤ cells.length) : cells.set (o + c1.length) w = setRange cells o (c1 ++ ([w] ++ c2)) := by
 have hl : n = c1.length + (1 + c2.length) := by
  have := congrArg List.length hc
  simp at this
  omega
 apply List.ext_getElem?
 intro j
 unfold setRange
 rcases Nat.lt_or_ge j o with h1 | h1
 ·rw [List.getElem?_set_ne (by omega), List.append_assoc, List.getElem?_append_left (by simp; omega), List.getElem?_take_of_lt h1]
 ·have ho : (cells.take o).length = o := by simp; omega
  rw [List.append_assoc, List.getElem?_append_right (by omega), ho]
  rcases Nat.lt_or_ge (j - o) n with h2 | h2
  ·rw [List.getElem?_append_left (by simp; omega)]
   have hs : c1 ++ ([w] ++ c2) = (c1 ++ ([v] ++ c2)).set c1.length w := by rw [List.set_append_right _ _ (Nat.le_refl _), Nat.sub_self]; rfl
   rw [hs, ← hc]
   by_cases h3 : j - o = c1.length
   ·rw [← h3, show o + (j - o) = j by omega, List.getElem?_set_self (by omega), List.getElem?_set_self (by simp; omega)]
   ·rw [List.getElem?_set_ne (by omega), List.getElem?_set_ne (by omega), List.getElem?_take_of_lt h2, List.getElem?_drop, show o + (j - o) = j by omega]
  ·rw [List.getElem?_set_ne (by omega), List.getElem?_append_right (by simp; omega), List.getElem?_drop]
   congr 1
   simp
   omega
theorem AtF.field {fs2 : List Sh} (fs1 : List Sh) {f : Sh} {v : V} {l : List U} {F : List Nat} (h : AtF G (.slice (.st (fs1 ++ f :: fs2))) [v] (.lst l) F) (hn : F.Nodup) {i : Nat} {us1 us2 : List U} {u : U} (hx : l[i]? = some (.st (us1 ++ u :: us2)))
  (hl : us1.length = fs1.length) (hf : f.size = 1) : ∃ id off cells w K, v = .slc (some (id, off)) l.length ∧ G[id]? = some (.mk true (Sh.st (fs1 ++ f :: fs2)).size cells) ∧ id ∈ F ∧ id ∉ K ∧
   cells[off + i * (Sh.st (fs1 ++ f :: fs2)).size + Sh.sizes fs1]? = some w ∧ AtF G f [w] u K ∧ K.Nodup ∧ (∀ q ∈ K, q ∈ F) ∧
   (∀ G' y, (∀ q ∈ F, q ∉ K → G'[q]? = G[q]?) → AtF G' f [w] y K → AtF G' (.slice (.st (fs1 ++ f :: fs2))) [v] (.lst (l.set i (.st (us1 ++ y :: us2)))) F) ∧
   ∀ w' y, AtF G f [w'] y K → AtF (G.set id (.mk true (Sh.st (fs1 ++ f :: fs2)).size (cells.set (off + i * (Sh.st (fs1 ++ f :: fs2)).size + Sh.sizes fs1) w'))) (.slice (.st (fs1 ++ f :: fs2))) [v] (.lst (l.set i (.st (us1 ++ y :: us2)))) F := by
 obtain ⟨id, off, cells, K0, hv, h2, h3, h4, h5, h6, h7, h8, h9⟩ := AtF.elem h hn hx
 obtain ⟨us, hus, h4⟩ := AtF_st.1 h4
 cases hus
 have hcl := Ats.len _ (AtsF.ats _ h4)
 obtain ⟨c1, c, c2, K, k1, k2, k3, k4, k5, k6⟩ := AtsF.lens fs1 h4 hl h5
 have hc1 : c.length = 1 := by rw [At.len f (AtF.at f k3), hf]
 obtain ⟨w, rfl⟩ : ∃ w, c = [w] := by
  match c, hc1 with
  | [w], _ => exact ⟨w, rfl⟩
 have hid : id < G.length := (List.getElem?_eq_some_iff.1 h2).1
 have hset : ∀ w', cells.set (off + i * (Sh.st (fs1 ++ f :: fs2)).size + Sh.sizes fs1) w' = setRange cells (off + i * (Sh.st (fs1 ++ f :: fs2)).size) (c1 ++ ([w'] ++ c2)) := fun w' => by
  rw [← k2]; exact set_cells k1 h3
 have hlen : ∀ w', (c1 ++ ([w'] ++ c2)).length = (Sh.st (fs1 ++ f :: fs2)).size := fun w' => by
  have h := congrArg List.length k1
  rw [hcl] at h
  rw [Sh.size_st, h]
  simp
 have hw : cells[off + i * (Sh.st (fs1 ++ f :: fs2)).size + Sh.sizes fs1]? = some w := by
  rw [← k2]
  refine cells_get k1 ?_
  rw [List.getElem?_append_right (Nat.le_refl _), Nat.sub_self]
  rfl
 refine ⟨id, off, cells, w, K, hv, h2, h7, fun hq => h6 (k5 _ hq), hw, k3, k4, fun q hq => h8 q (k5 q hq), fun G' y hG hy => ?_, fun w' y hy => ?_⟩
 ·refine h9 G' (c1 ++ ([w] ++ c2)) _ (hlen w) ?_ (fun q hq _ hqK => hG q hq fun hqk => hqK (k5 q hqk)) (AtF_st.2 ⟨_, rfl, k6 G' y [w] (fun q hq hqk => hG q (h8 q hq) hqk) hy⟩)
  rw [hG id h7 (fun hq => h6 (k5 _ hq)), h2, ← hset w]
  congr 2
  obtain ⟨hb, hw'⟩ := List.getElem?_eq_some_iff.1 hw
  rw [← hw', List.set_getElem_self]
 ·refine h9 _ (c1 ++ ([w'] ++ c2)) _ (hlen w') ?_ (fun q hq hq1 hqK => by rw [List.getElem?_set_ne (Ne.symm hq1)]) (AtF_st.2 ⟨_, rfl, k6 _ y [w'] (fun q hq hqk => ?_) (AtF.frame f (fun q hq => ?_) hy)⟩)
  ·rw [List.getElem?_set_self hid, hset w']
  ·rw [List.getElem?_set_ne]; rintro rfl; exact h6 hq
  ·rw [List.getElem?_set_ne]; rintro rfl; exact h6 (k5 _ hq)
end
noncomputable def dec (P : Prop) : Bool := @decide P (Classical.propDecidable P)
theorem dec_pos {P : Prop} (h : P) : dec P = true := @decide_eq_true P (Classical.propDecidable P) h
theorem dec_neg {P : Prop} (h : ¬ P) : dec P = false := @decide_eq_false P (Classical.propDecidable P) h
theorem dec_iff {P Q : Prop} (h : P ↔ Q) : dec P = dec Q := by rw [propext h]
theorem dec_true {P : Prop} : dec P = true ↔ P := by
 by_cases h : P
 ·exact ⟨fun _ => h, fun _ => dec_pos h⟩
 ·exact ⟨fun e => absurd (dec_neg h) (by rw [e]; decide), fun e => absurd e h⟩
theorem Ret.dec {C : Ctx} {f : Nat} {a : List V} {H : List Ob} {P : Prop} (h : Ret C f a H fun r H' => (∃ b : Bool, r = .bool b ∧ (b = true ↔ P)) ∧ H' = H) : callW C f a H = some (.bool (dec P), H) := by
 obtain ⟨r, H', hc, ⟨b, rfl, hb⟩, rfl⟩ := h
 rw [hc, show b = Go.Lite.dec P from by cases hd : Go.Lite.dec P with
  | true => exact hb.2 (dec_true.1 hd)
  | false => cases b with
   | false => rfl
   | true => exact absurd (dec_true.2 (hb.1 rfl)) (by rw [hd]; decide)]
def LowB (c : UInt8) : Prop := 97 ≤ c.toNat ∧ c.toNat ≤ 122
def DigB (c : UInt8) : Prop := 48 ≤ c.toNat ∧ c.toNat ≤ 57
def NameOk (t : Str) : Prop := 1 ≤ t.length ∧ t.length ≤ 20 ∧ ∀ (i : Nat) c, t[i]? = some c → LowB c ∨ (0 < i ∧ (DigB c ∨ c.toNat = 95))
def PlainB (c : UInt8) : Prop := 32 ≤ c.toNat ∧ c.toNat ≤ 126
def Plain (t : Str) : Prop := ∀ (i : Nat) c, t[i]? = some c → PlainB c
def lowC (c : UInt8) : UInt8 := if 65 ≤ c.toNat ∧ c.toNat ≤ 90 then c + 32 else c
def endSp (b : Str) : Bool := b.getLast? == some 32
def nstep (b : Str) (c : UInt8) : Str := if lowC c = 32 ∧ (b = [] ∨ endSp b = true) then b else b ++ [lowC c]
def nfin (b : Str) : Str := if endSp b = true then b.dropLast else b
noncomputable def norm (t : Str) : Str := if t.length ≤ 100 ∧ dec (Plain t) = true then nfin (t.foldl nstep []) else []
def ValueOk (t : Str) : Prop := 1 ≤ t.length ∧ t.length ≤ 40 ∧ norm t ≠ []
theorem all_step {t : Str} {i : Nat} {P : Nat → UInt8 → Prop} (h : ∀ j, j < i → ∀ c, t[j]? = some c → P j c) {c : UInt8} (hc : t[i]? = some c) (hp : P i c) : ∀ j, j < i + 1 → ∀ c, t[j]? = some c → P j c := by
 intro j hj d hd
 by_cases hji : j = i
 ·subst hji; rw [hc] at hd; cases hd; exact hp
 ·exact h j (by omega) d hd
theorem nstep_len (b : Str) (c : UInt8) : (nstep b c).length ≤ b.length + 1 := by
 unfold nstep
 split
 ·omega
 ·simp
theorem foldl_len : ∀ (t b : Str), (t.foldl nstep b).length ≤ b.length + t.length
 | [], b => by simp
 | c :: t, b => by
  have h1 := foldl_len t (nstep b c)
  have h2 := nstep_len b c
  simp only [List.foldl_cons, List.length_cons]
  omega
theorem norm_len {t : Str} : (norm t).length ≤ 100 := by
 unfold norm
 split
 ·rename_i h
  have := foldl_len t []
  unfold nfin
  split
  ·simp at this ⊢; omega
  ·simp at this ⊢; omega
 ·simp
def pairsOf : List V → Option (List (Str × Str))
 | [] => some []
 | .str a :: .str v :: rest => match pairsOf rest with
  | some l => some ((a, v) :: l)
  | none => none
 | _ => none
noncomputable def keyStep (s : Str) (p : Str × Str) : Str := s ++ (1 :: (p.1 ++ 61 :: norm p.2))
noncomputable def keyL (l : List (Str × Str)) : Str := l.reverse.foldl keyStep []
def fitsL (l : List (Str × Str)) : Bool := l.all fun p => decide (p.1.length ≤ 1048576) && decide (p.2.length ≤ 1048576)
noncomputable def dkPrim (args : List V) (H : List Ob) : Option (V × List Ob) :=
 match args with
 | [.slc p n] => if n = 0 then some (.str [], H) else if n ≤ 1048576 then match p with
   | some (id, off) => match H[id]? with
    | some (.mk _ 2 cells) => if off + n * 2 ≤ cells.length then match pairsOf ((cells.drop off).take (n * 2)) with
     | some l => if fitsL l = true ∧ l.length = n then some (.str (keyL l), H) else none
     | none => none
     else none
    | _ => none
   | none => none
   else none
 | _ => none


def idxPrim : List V → List Ob → Option (V × List Ob)
 | [.str s, .int .u8 c], H => some (.int .i64 (Lib.indexByte s c.toNat.toUInt8), H)
 | _, _ => none
end Go.Lite
end
section
namespace Go.Proofs.Try1
open Go Go.Lite
def locTab : List (Nat × List Nat) := [(5, [2, 6, 7, 8, 12]),
 (8, [2]),
 (9, [1]),
 (10, [1, 2, 3]),
 (11, [1]),
 (12, [2, 3]),
 (14, [2]),
 (17, [1, 2, 3]),
 (21, [2, 3]),
 (23, [2]),
 (26, [2, 4, 5]),
 (27, [2, 4, 5]),
 (28, [2, 3]),
 (29, [2]),
 (30, [2]),
 (31, [2]),
 (40, [2]),
 (41, [1, 4]),
 (43, [1, 4]),
 (46, [1, 2, 3]),
 (47, [4]),
 (49, [1, 5]),
 (52, [2, 3]),
 (79, [1, 2]),
 (80, [2, 4, 5]),
 (81, [1, 2]),
 (82, [2, 4, 5]),
 (83, [2, 3]),
 (85, [2]),
 (86, [2]),
 (87, [2]),
 (88, [2]),
 (98, [2]),
 (101, [1]),
 (102, [3, 5, 9]),
 (104, [2]),
 (105, [1]),
 (107, [5]),
 (108, [1, 2, 3]),
 (110, [4]),
 (114, [2]),
 (117, [1]),
 (118, [1]),
 (120, [1]),
 (122, [2, 3]),
 (124, [2]),
 (127, [2]),
 (128, [2]),
 (138, [1, 2, 3]),
 (141, [1, 2, 3]),
 (142, [1, 2, 3]),
 (153, [2, 3]),
 (156, [2, 3]),
 (157, [2, 3]),
 (160, [1, 2, 3]),
 (162, [1, 2]),
 (163, [2]),
 (164, [1, 2]),
 (165, [5]),
 (166, [1, 2]),
 (167, [7]),
 (168, [2]),
 (170, [2]),
 (172, [2]),
 (180, [2]),
 (181, [1]),
 (183, [3, 4]),
 (184, [3]),
 (185, [2]),
 (189, [2]),
 (191, [1]),
 (193, [1, 2, 3]),
 (194, [1]),
 (196, [1, 4]),
 (197, [5, 8]),
 (206, [3]),
 (209, [2]),
 (215, [2, 3]),
 (229, [1]),
 (230, [1]),
 (239, [5]),
 (243, [1, 2, 3]),
 (245, [5, 6]),
 (246, [5]),
 (249, [5]),
 (260, [2]),
 (266, [1]),
 (267, [4]),
 (268, [2]),
 (274, [2]),
 (276, [5]),
 (277, [1]),
 (282, [2]),
 (291, [1, 2, 3]),
 (304, [2, 3]),
 (305, [1, 2]),
 (306, [4, 7]),
 (307, [1, 2, 3, 5]),
 (317, [9]),
 (333, [2]),
 (355, [2])]
def ordTab : List (Nat × List (Nat × Hint)) := [(5, [(10, ⟨[0, 1, 2, 3, 4], [], [], [(0, 7), (1, 2)], [], []⟩)]),
 (41, [(7, ⟨[0, 1, 2, 3, 4, 5, 6, 7, 8, 9, 10, 11, 12, 13, 14, 15, 16, 17, 18, 19, 20, 22, 23, 21, 24, 25, 26, 27], [], [], [(0, 4), (5, 1), (6, 4), (15, 1), (23, 4)], [], []⟩), (13, ⟨[0, 1, 2, 3, 4, 5, 6, 7, 8, 9, 10], [], [], [(4, 1)], [], []⟩)]),
 (47, [(6, ⟨[0, 1, 2, 3, 4, 5, 6, 7, 8, 9, 10, 11, 12, 13, 14, 15, 17, 18, 16, 19, 20, 21, 22], [], [], [(2, 4), (18, 4)], [], []⟩)]),
 (79, [(1, ⟨[0, 1, 3, 4, 6, 7, 9, 10, 2, 5, 8, 11, 12], [], [], [(1, 1), (4, 1), (7, 1), (10, 1), (12, 2)], [], []⟩)]),
 (81, [(1, ⟨[0, 1, 3, 4, 6, 7, 9, 10, 2, 5, 8, 11, 12], [], [], [(1, 1), (4, 1), (7, 1), (10, 1), (12, 2)], [], []⟩)]),
 (103, [(5, ⟨[0, 1, 2, 3, 4, 5, 6, 7, 8, 9, 10, 11, 12, 13, 14, 15, 16], [14], [6], [], [], []⟩)]),
 (160, [(5, ⟨[0, 1, 2, 3, 4, 5, 6, 7, 8, 9, 10, 11], [], [], [(1, 3), (3, 1), (11, 3)], [], []⟩)]),
 (162, [(1, ⟨[0, 1, 2, 3, 4, 5, 6], [], [], [(1, 1), (3, 1), (6, 2)], [], []⟩)]),
 (164, [(1, ⟨[0, 1, 3, 4, 2, 5, 6, 7], [], [], [(1, 1), (4, 1), (7, 2)], [], []⟩)]),
 (165, [(5, ⟨[0, 1, 3, 4, 2, 6, 5, 7, 8, 9], [], [], [(1, 5), (4, 5), (7, 5), (9, 5)], [], []⟩)]),
 (166, [(1, ⟨[0, 1, 2, 3, 4, 5, 6], [], [], [(1, 1), (3, 1), (6, 2)], [], []⟩)]),
 (171, [(4, ⟨[0, 1, 2, 3, 4, 5, 6, 7], [6], [4], [], [], []⟩)]),
 (194, [(8, ⟨[0, 1, 2, 3, 4, 8, 9, 5, 6, 7, 10, 11, 12, 13, 14, 15, 16, 17, 18, 19, 20, 21, 22, 23, 24], [5, 6], [8], [(1, 1), (19, 1)], [], []⟩)]),
 (197, [(10, ⟨[0, 1, 2, 3, 4, 5, 6, 7, 8, 9, 10, 11, 12, 13, 14, 15, 16, 17], [15], [4, 7], [], [], []⟩)]),
 (201, [(1, ⟨[0, 1, 2, 3, 4, 5, 6, 7, 8, 9, 10], [5], [3], [], [], []⟩)]),
 (224, [(7, ⟨[0, 1, 2, 3, 4, 5, 6, 7, 8, 9, 10, 11, 12, 13, 14, 15], [13], [5], [], [], []⟩)]),
 (243, [(5, ⟨[0, 1, 2, 3, 4, 5, 6, 7, 9, 10, 11, 12, 13, 14, 8, 15, 16, 17, 18, 19, 20], [8, 15], [7, 14], [(1, 3), (3, 1), (10, 1), (20, 3)], [], []⟩)]),
 (251, [(4, ⟨[0, 1, 2, 3, 4, 5, 6, 7], [6], [4], [], [], []⟩)]),
 (252, [(4, ⟨[0, 1, 2, 3, 4, 5, 6, 7], [6], [4], [], [], []⟩), (7, ⟨[0, 1, 2, 3, 4, 5, 6, 7], [6], [4], [], [], []⟩)]),
 (253, [(4, ⟨[0, 1, 2, 3, 4, 5, 6], [5], [3], [], [], []⟩)]),
 (254, [(10, ⟨[0, 1, 2, 3, 4, 5, 6, 7], [6], [4], [], [], []⟩)]),
 (255, [(4, ⟨[0, 1, 2, 3, 4, 5, 6, 7], [6], [4], [], [], []⟩)]),
 (259, [(4, ⟨[0, 1, 2, 3, 4, 5, 6, 7, 8, 9, 10, 11, 12, 13, 14, 16, 17, 18, 19, 15, 20, 21, 22, 23], [15], [19], [], [], []⟩)]),
 (306, [(5, ⟨[0, 1, 2, 3, 5, 6, 8, 9, 4, 7, 10, 11, 12, 13], [], [], [(1, 7), (3, 7), (6, 7), (9, 7), (12, 4)], [], []⟩)]),
 (307, [(5, ⟨[0, 1, 2, 3, 4, 5, 6, 7, 8, 9, 10, 11], [], [], [(1, 3), (3, 5), (5, 5), (11, 3)], [], []⟩)]),
 (314, [(1, ⟨[0, 2, 1, 3, 4], [1], [2], [], [], []⟩)])]
def fids : List Nat := [5, 8, 9, 10, 11, 12, 14, 17, 21, 23, 26, 27, 28, 29, 30, 31, 39, 40, 41, 42, 43, 44, 45, 46, 47, 48, 49, 50, 51, 52, 53, 56, 57, 60, 63, 64, 68, 71, 72, 73, 76, 77, 78, 79, 80, 81, 82, 83, 84, 85, 86, 87, 88, 91, 94, 98, 99, 100, 101, 102, 103, 104, 105, 106, 107, 108, 109, 110, 111, 113, 114, 115, 116, 117, 118, 119, 120, 121, 122, 123, 124, 127, 128, 129, 132, 138, 141, 142, 143, 146, 147, 153, 156, 157, 158, 159, 160, 161, 162, 163, 164, 165, 166, 167, 168, 169, 170, 171, 172, 173, 179, 180, 181, 182, 183, 184, 185, 186, 187, 188, 189, 190, 191, 192, 193, 194, 195, 196, 197, 199, 200, 201, 202, 203, 204, 205, 206, 207, 208, 209, 210, 211, 212, 213, 214, 215, 216, 217, 224, 227, 228, 229, 230, 233, 234, 235, 239, 241, 242, 243, 244, 245, 246, 247, 248, 249, 250, 251, 252, 253, 254, 255, 259, 260, 261, 262, 263, 264, 265, 266, 267, 268, 269, 271, 272, 273, 274, 275, 276, 277, 278, 279, 280, 281, 282, 289, 291, 292, 293, 297, 303, 304, 305, 306, 307, 308, 309, 310, 311, 312, 313, 314, 315, 316, 317, 319, 321, 331, 332, 333, 334, 335, 336, 337, 338, 352, 353, 354, 355]
noncomputable def primTab : Nat → Option (List V → List Ob → Option (V × List Ob)) := fun f => if f = 112 then some dkPrim else if f = 296 then some sortPrim else if f = 361 then some idxPrim else if f = 362 then some cmpPrim else none
noncomputable def tabs : Tabs := { locs := fun f => (locTab.lookup f).getD [], ord := fun f id => ((ordTab.lookup f).getD []).lookup id, prim := primTab, fids := fids }
theorem mixed : Tryz.prog.follows .mixedOrders = true := rfl
theorem ok : progB Tryz.prog tabs = true := by decide +kernel
end Go.Proofs.Try1
end
