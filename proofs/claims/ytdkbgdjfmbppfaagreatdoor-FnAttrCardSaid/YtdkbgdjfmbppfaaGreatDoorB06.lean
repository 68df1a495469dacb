/- Part 06 of the proof of a law: the interpreter, its soundness, and what functions of the program compute over it. Conditions: none but those that each theorem names. -/
import Derived.Test.YtdkbgdjfmbppfaaGreatDoorB05
import Derived.Sort.Defs
import Derived.Lib.BitFns
import Derived.Test.YtdkbgdjfmbppfaaGreatDoorB01
import Derived.Lib.Bytealg
import Derived.Test.YtdkbgdjfmbppfaaGreatDoorProg
import Derived.KernelRfl

set_option linter.all false
set_option maxRecDepth 20000
set_option maxHeartbeats 40000000
section
namespace Go.Lite
open Go
theorem Sh.size_int {k : IntKind} : (Sh.int k).size = 1 := rfl
theorem Sh.size_bool : Sh.bool.size = 1 := rfl
theorem Sh.size_str : Sh.str.size = 1 := rfl
theorem Sh.size_slice {e : Sh} : (Sh.slice e).size = 1 := rfl
theorem Sh.size_st {fs : List Sh} : (Sh.st fs).size = Sh.sizes fs := rfl
theorem Sh.sizes_nil : Sh.sizes [] = 0 := rfl
theorem Sh.sizes_cons {f : Sh} {fs : List Sh} : Sh.sizes (f :: fs) = f.size + Sh.sizes fs := rfl
attribute [simp] Sh.size_int Sh.size_bool Sh.size_str Sh.size_slice Sh.size_st Sh.sizes_nil Sh.sizes_cons
def LT.one (T : LT) : Prop := T.size = 1 ∧ T.isAgg = false
def LT.many (T : LT) (n : Nat) : Prop := T.size = n ∧ T.isAgg = true
section
variable {b e : Nat} {z : List V}
theorem Ls {k : IntKind} : LT.one ⟨.int k, 1, b, z⟩ := ⟨rfl, rfl⟩
theorem JZ : LT.one ⟨.bool, 1, b, z⟩ := ⟨rfl, rfl⟩
theorem yF : LT.one ⟨.str, 1, b, z⟩ := ⟨rfl, rfl⟩
theorem KP : LT.one ⟨.ptr, 1, b, z⟩ := ⟨rfl, rfl⟩
theorem JE : LT.one ⟨.func, 1, b, z⟩ := ⟨rfl, rfl⟩
theorem GH : LT.one ⟨.iface, 1, b, z⟩ := ⟨rfl, rfl⟩
theorem xO : LT.one ⟨.slice e, 1, b, z⟩ := ⟨rfl, rfl⟩
theorem Aa {fs : List (Nat × Nat)} {n m : Nat} : LT.many ⟨.struct fs, n, b, z⟩ m ↔ n = m := ⟨fun h => h.1, fun h => ⟨h, rfl⟩⟩
theorem Cm {k n m : Nat} : LT.many ⟨.array k e, n, b, z⟩ m ↔ n = m := ⟨fun h => h.1, fun h => ⟨h, rfl⟩⟩
end
attribute [simp] Ls JZ yF KP JE GH xO Aa Cm
section
variable {H : List Ob}
theorem dF {id o es : Nat} {own : Bool} {cells : List V} {v : V} (h : H[id]? = some (.mk own es cells)) (hc : cells[o]? = some v) : ∀ T : LT, T.one → ∀ r c, loadAt T ⟨r, c, H⟩ (.hp id o) = some v :=
 fun T hT => JG h hc (by rw [hT.1]; decide) hT.2
theorem rO {id o es n : Nat} {own : Bool} {cells l : List V} (h : H[id]? = some (.mk own es cells)) (hl : o + n ≤ cells.length) (hn : n ≠ 0) (hc : (cells.drop o).take n = l) : ∀ T : LT, T.many n → ∀ r c, loadAt T ⟨r, c, H⟩ (.hp id o) = some (.agg l) :=
 fun T hT => IX h (by rw [hT.1]; exact hl) (by rw [hT.1]; exact hc) (by rw [hT.1]; exact hn) hT.2
theorem store1 {id o es : Nat} {cells : List V} {v : V} (h : H[id]? = some (.mk true es cells)) (ho : o < cells.length) (hv : cellsOf v = some [v]) (h1 : aI v = true) : ∀ T : LT, T.one → ∀ r c, storeAt T ⟨r, c, H⟩ (.hp id o) v = some ⟨r, c, H.set id (.mk true es (cells.set o v))⟩ :=
 fun T hT => store_one h ho hT.1 hv h1
theorem Dp {id o es : Nat} {cells l : List V} (h : H[id]? = some (.mk true es cells)) (ho : o + l.length ≤ cells.length) (hp : l ≠ []) (h1 : l.all aI = true) : ∀ T : LT, T.many l.length → ∀ r c, storeAt T ⟨r, c, H⟩ (.hp id o) (.agg l) = some ⟨r, c, H.set id (.mk true es (setRange cells o l))⟩ :=
 fun T hT => FQ h ho hT.1 hp h1
end
inductive U where
 | int (n : Int)
 | bool (b : Bool)
 | str (s : Str)
 | lst (l : List U)
 | st (l : List U)
mutual
def At (H : List Ob) : Sh → (List V → U → Prop)
 | .int k => fun cs u => ∃ n, cs = [.int k n] ∧ u = .int n ∧ (Lit.int k n).wf = true
 | .bool => fun cs u => ∃ b, cs = [.bool b] ∧ u = .bool b
 | .str => fun cs u => ∃ s, cs = [.str s] ∧ u = .str s ∧ s.length ≤ maxLen
 | .slice e => fun cs u => ∃ v l, cs = [v] ∧ u = .lst l ∧ l.length ≤ maxLen ∧ Sl H e.size (At H e) v l
 | .st fs => fun cs u => ∃ us, u = .st us ∧ Ats H fs cs us
def Ats (H : List Ob) : List Sh → (List V → List U → Prop)
 | [] => fun cs us => cs = [] ∧ us = []
 | f :: fs => fun cs us => ∃ c1 c2 u us', cs = c1 ++ c2 ∧ us = u :: us' ∧ At H f c1 u ∧ Ats H fs c2 us'
end
section
variable {H : List Ob} {cs : List V} {u : U}
theorem nI {k : IntKind} : At H (.int k) cs u ↔ ∃ n, cs = [.int k n] ∧ u = .int n ∧ (Lit.int k n).wf = true := by simp only [At]
theorem sZ : At H .bool cs u ↔ ∃ b, cs = [.bool b] ∧ u = .bool b := by simp only [At]
theorem dw : At H .str cs u ↔ ∃ s, cs = [.str s] ∧ u = .str s ∧ s.length ≤ maxLen := by simp only [At]
theorem aG {e : Sh} : At H (.slice e) cs u ↔ ∃ v l, cs = [v] ∧ u = .lst l ∧ l.length ≤ maxLen ∧ Sl H e.size (At H e) v l := by simp only [At]
theorem jC {fs : List Sh} : At H (.st fs) cs u ↔ ∃ us, u = .st us ∧ Ats H fs cs us := by simp only [At]
theorem eH {us : List U} : Ats H [] cs us ↔ cs = [] ∧ us = [] := by simp only [Ats]
theorem bn {f : Sh} {fs : List Sh} {us : List U} : Ats H (f :: fs) cs us ↔ ∃ c1 c2 u us', cs = c1 ++ c2 ∧ us = u :: us' ∧ At H f c1 u ∧ Ats H fs c2 us' := by simp only [Ats]
end
def SlF {α : Type} (H : List Ob) (es : Nat) (R : List V → α → List Nat → Prop) (v : V) (xs : List α) (F : List Nat) : Prop :=
 (v = .slc none 0 ∧ xs = [] ∧ F = []) ∨ ∃ (id off : Nat) (cells : List V) (Fs : List (List Nat)), v = .slc (some (id, off)) xs.length ∧ H[id]? = some (.mk true es cells) ∧ off + xs.length * es ≤ cells.length ∧
  Fs.length = xs.length ∧ F = id :: Fs.flatten ∧ ∀ i x G, xs[i]? = some x → Fs[i]? = some G → R ((cells.drop (off + i * es)).take es) x G
mutual
def AtF (H : List Ob) : Sh → (List V → U → List Nat → Prop)
 | .int k => fun cs u F => (∃ n, cs = [.int k n] ∧ u = .int n ∧ (Lit.int k n).wf = true) ∧ F = []
 | .bool => fun cs u F => (∃ b, cs = [.bool b] ∧ u = .bool b) ∧ F = []
 | .str => fun cs u F => (∃ s, cs = [.str s] ∧ u = .str s ∧ s.length ≤ maxLen) ∧ F = []
 | .slice e => fun cs u F => ∃ v l, cs = [v] ∧ u = .lst l ∧ l.length ≤ maxLen ∧ SlF H e.size (AtF H e) v l F
 | .st fs => fun cs u F => ∃ us, u = .st us ∧ AtsF H fs cs us F
def AtsF (H : List Ob) : List Sh → (List V → List U → List Nat → Prop)
 | [] => fun cs us F => cs = [] ∧ us = [] ∧ F = []
 | f :: fs => fun cs us F => ∃ c1 c2 u us' F1 F2, cs = c1 ++ c2 ∧ us = u :: us' ∧ F = F1 ++ F2 ∧ AtF H f c1 u F1 ∧ AtsF H fs c2 us' F2
end
section
variable {H : List Ob} {cs : List V} {u : U} {F : List Nat}
theorem zK {k : IntKind} : AtF H (.int k) cs u F ↔ (∃ n, cs = [.int k n] ∧ u = .int n ∧ (Lit.int k n).wf = true) ∧ F = [] := by simp only [AtF]
theorem uP : AtF H .bool cs u F ↔ (∃ b, cs = [.bool b] ∧ u = .bool b) ∧ F = [] := by simp only [AtF]
theorem kR : AtF H .str cs u F ↔ (∃ s, cs = [.str s] ∧ u = .str s ∧ s.length ≤ maxLen) ∧ F = [] := by simp only [AtF]
theorem aZ {e : Sh} : AtF H (.slice e) cs u F ↔ ∃ v l, cs = [v] ∧ u = .lst l ∧ l.length ≤ maxLen ∧ SlF H e.size (AtF H e) v l F := by simp only [AtF]
theorem jZ {fs : List Sh} : AtF H (.st fs) cs u F ↔ ∃ us, u = .st us ∧ AtsF H fs cs us F := by simp only [AtF]
theorem jl {us : List U} : AtsF H [] cs us F ↔ cs = [] ∧ us = [] ∧ F = [] := by simp only [AtsF]
theorem bH {f : Sh} {fs : List Sh} {us : List U} : AtsF H (f :: fs) cs us F ↔ ∃ c1 c2 u us' F1 F2, cs = c1 ++ c2 ∧ us = u :: us' ∧ F = F1 ++ F2 ∧ AtF H f c1 u F1 ∧ AtsF H fs c2 us' F2 := by simp only [AtsF]
end
theorem Ret.eq {C : Ctx} {g : Nat} {a : List V} {H : List Ob} {x : V} (h : Ret C g a H fun r H' => r = x ∧ H' = H) : callW C g a H = some (x, H) := by
 obtain ⟨r, H', hc, rfl, rfl⟩ := h
 exact hc
section
variable {H H' T : List Ob}
theorem Sl.map {α : Type} {es : Nat} {R R' : List V → α → Prop} {v : V} {xs : List α} (h : Sl H es R v xs) (hH : ∀ (id : Nat) o, H[id]? = some o → H'[id]? = some o) (hR : ∀ cs x, R cs x → R' cs x) : Sl H' es R' v xs := by
 rcases h with h | ⟨id, off, own, cells, h1, h2, h3, h4⟩
 ·exact .inl h
 ·exact .inr ⟨id, off, own, cells, h1, hH _ _ h2, h3, fun i x hx => hR _ _ (h4 i x hx)⟩
mutual
theorem At.up (hH : ∀ (id : Nat) o, H[id]? = some o → H'[id]? = some o) : ∀ (sh : Sh) {cs : List V} {u : U}, At H sh cs u → At H' sh cs u
 | .int k, _, _, h => h
 | .bool, _, _, h => h
 | .str, _, _, h => h
 | .slice e, _, _, h => by
  simp only [At] at h ⊢
  obtain ⟨v, l, h1, h2, h3, h4⟩ := h
  exact ⟨v, l, h1, h2, h3, h4.map hH fun _ _ h => At.up hH e h⟩
 | .st fs, _, _, h => by
  simp only [At] at h ⊢
  obtain ⟨us, h1, h2⟩ := h
  exact ⟨us, h1, Ats.up hH fs h2⟩
theorem Ats.up (hH : ∀ (id : Nat) o, H[id]? = some o → H'[id]? = some o) : ∀ (fs : List Sh) {cs : List V} {us : List U}, Ats H fs cs us → Ats H' fs cs us
 | [], _, _, h => h
 | f :: fs, _, _, h => by
  simp only [Ats] at h ⊢
  obtain ⟨c1, c2, u, us', h1, h2, h3, h4⟩ := h
  exact ⟨c1, c2, u, us', h1, h2, At.up hH f h3, Ats.up hH fs h4⟩
end
theorem bg : ∀ (id : Nat) o, H[id]? = some o → (H ++ T)[id]? = some o := fun id o h => by
 rw [List.getElem?_append_left (List.getElem?_eq_some_iff.1 h).1]; exact h
theorem At.ext {sh : Sh} {cs : List V} {u : U} (h : At H sh cs u) : At (H ++ T) sh cs u := h.up bg
mutual
theorem At.len : ∀ (sh : Sh) {cs : List V} {u : U}, At H sh cs u → cs.length = sh.size
 | .int k, _, _, h => by simp only [At] at h; obtain ⟨n, rfl, _⟩ := h; rfl
 | .bool, _, _, h => by simp only [At] at h; obtain ⟨n, rfl, _⟩ := h; rfl
 | .str, _, _, h => by simp only [At] at h; obtain ⟨n, rfl, _⟩ := h; rfl
 | .slice e, _, _, h => by simp only [At] at h; obtain ⟨v, l, rfl, _⟩ := h; rfl
 | .st fs, _, _, h => by
  simp only [At] at h
  obtain ⟨us, _, h2⟩ := h
  rw [Ats.len fs h2, Sh.size]
theorem Ats.len : ∀ (fs : List Sh) {cs : List V} {us : List U}, Ats H fs cs us → cs.length = Sh.sizes fs
 | [], _, _, h => by simp only [Ats] at h; rw [h.1]; rfl
 | f :: fs, _, _, h => by
  simp only [Ats] at h
  obtain ⟨c1, c2, u, us', rfl, _, h3, h4⟩ := h
  rw [List.length_append, At.len f h3, Ats.len fs h4, Sh.sizes]
end
theorem SlF.sl {α : Type} {es : Nat} {R : List V → α → List Nat → Prop} {R' : List V → α → Prop} {v : V} {xs : List α} {F : List Nat} (h : SlF H es R v xs F) (hR : ∀ cs x G, R cs x G → R' cs x) : Sl H es R' v xs := by
 rcases h with ⟨h1, h2, _⟩ | ⟨id, off, cells, Fs, h1, h2, h3, h4, _, h5⟩
 ·exact .inl ⟨h1, h2⟩
 ·refine .inr ⟨id, off, true, cells, h1, h2, h3, fun i x hx => ?_⟩
  have hi : i < Fs.length := by rw [h4]; exact (List.getElem?_eq_some_iff.1 hx).1
  exact hR _ _ _ (h5 i x Fs[i] hx (List.getElem?_eq_getElem hi))
mutual
theorem AtF.at : ∀ (sh : Sh) {cs : List V} {u : U} {F : List Nat}, AtF H sh cs u F → At H sh cs u
 | .int k, _, _, _, h => by simp only [AtF, At] at h ⊢; exact h.1
 | .bool, _, _, _, h => by simp only [AtF, At] at h ⊢; exact h.1
 | .str, _, _, _, h => by simp only [AtF, At] at h ⊢; exact h.1
 | .slice e, _, _, _, h => by
  simp only [AtF, At] at h ⊢
  obtain ⟨v, l, h1, h2, h3, h4⟩ := h
  exact ⟨v, l, h1, h2, h3, h4.sl fun _ _ _ h => AtF.at e h⟩
 | .st fs, _, _, _, h => by
  simp only [AtF, At] at h ⊢
  obtain ⟨us, h1, h2⟩ := h
  exact ⟨us, h1, AtsF.ats fs h2⟩
theorem AtsF.ats : ∀ (fs : List Sh) {cs : List V} {us : List U} {F : List Nat}, AtsF H fs cs us F → Ats H fs cs us
 | [], _, _, _, h => by simp only [AtsF, Ats] at h ⊢; exact ⟨h.1, h.2.1⟩
 | f :: fs, _, _, _, h => by
  simp only [AtsF, Ats] at h ⊢
  obtain ⟨c1, c2, u, us', F1, F2, h1, h2, _, h3, h4⟩ := h
  exact ⟨c1, c2, u, us', h1, h2, AtF.at f h3, AtsF.ats fs h4⟩
end
theorem SlF.frame {α : Type} {es : Nat} {R R' : List V → α → List Nat → Prop} {v : V} {xs : List α} {F : List Nat} (h : SlF H es R v xs F) (hF : ∀ id ∈ F, H'[id]? = H[id]?)
  (hR : ∀ cs x G, (∀ id ∈ G, H'[id]? = H[id]?) → R cs x G → R' cs x G) : SlF H' es R' v xs F := by
 rcases h with h | ⟨id, off, cells, Fs, h1, h2, h3, h4, h5, h6⟩
 ·exact .inl h
 ·subst h5
  refine .inr ⟨id, off, cells, Fs, h1, by rw [hF id List.mem_cons_self]; exact h2, h3, h4, rfl, fun i x G hx hG => ?_⟩
  exact hR _ _ _ (fun j hj => hF j (List.mem_cons_of_mem _ (List.mem_flatten.2 ⟨G, List.mem_of_getElem? hG, hj⟩))) (h6 i x G hx hG)
mutual
theorem AtF.frame : ∀ (sh : Sh) {cs : List V} {u : U} {F : List Nat}, (∀ id ∈ F, H'[id]? = H[id]?) → AtF H sh cs u F → AtF H' sh cs u F
 | .int k, _, _, _, _, h => by simpa only [AtF] using h
 | .bool, _, _, _, _, h => by simpa only [AtF] using h
 | .str, _, _, _, _, h => by simpa only [AtF] using h
 | .slice e, _, _, _, hF, h => by
  simp only [AtF] at h ⊢
  obtain ⟨v, l, h1, h2, h3, h4⟩ := h
  exact ⟨v, l, h1, h2, h3, h4.frame hF fun _ _ _ hG h => AtF.frame e hG h⟩
 | .st fs, _, _, _, hF, h => by
  simp only [AtF] at h ⊢
  obtain ⟨us, h1, h2⟩ := h
  exact ⟨us, h1, AtsF.frame fs hF h2⟩
theorem AtsF.frame : ∀ (fs : List Sh) {cs : List V} {us : List U} {F : List Nat}, (∀ id ∈ F, H'[id]? = H[id]?) → AtsF H fs cs us F → AtsF H' fs cs us F
 | [], _, _, _, _, h => by simpa only [AtsF] using h
 | f :: fs, _, _, _, hF, h => by
  simp only [AtsF] at h ⊢
  obtain ⟨c1, c2, u, us', F1, F2, h1, h2, rfl, h3, h4⟩ := h
  exact ⟨c1, c2, u, us', F1, F2, h1, h2, rfl, AtF.frame f (fun j hj => hF j (List.mem_append_left _ hj)) h3, AtsF.frame fs (fun j hj => hF j (List.mem_append_right _ hj)) h4⟩
end
theorem SlF.mem {α : Type} {es : Nat} {R : List V → α → List Nat → Prop} {v : V} {xs : List α} {F : List Nat} (h : SlF H es R v xs F) (hR : ∀ cs x G, R cs x G → ∀ id ∈ G, id < H.length) : ∀ id ∈ F, id < H.length := by
 rcases h with ⟨_, _, rfl⟩ | ⟨id, off, cells, Fs, h1, h2, h3, h4, rfl, h6⟩
 ·intro id h; cases h
 ·intro j hj
  rcases List.mem_cons.1 hj with rfl | hj
  ·exact (List.getElem?_eq_some_iff.1 h2).1
  ·obtain ⟨G, hG, hj⟩ := List.mem_flatten.1 hj
   obtain ⟨i, hi, rfl⟩ := List.getElem_of_mem hG
   exact hR _ _ _ (h6 i (xs[i]'(by omega)) Fs[i] (List.getElem?_eq_getElem _) (List.getElem?_eq_getElem _)) j hj
mutual
theorem AtF.mem : ∀ (sh : Sh) {cs : List V} {u : U} {F : List Nat}, AtF H sh cs u F → ∀ id ∈ F, id < H.length
 | .int k, _, _, _, h => by simp only [AtF] at h; rw [h.2]; intro _ h; cases h
 | .bool, _, _, _, h => by simp only [AtF] at h; rw [h.2]; intro _ h; cases h
 | .str, _, _, _, h => by simp only [AtF] at h; rw [h.2]; intro _ h; cases h
 | .slice e, _, _, _, h => by
  simp only [AtF] at h
  obtain ⟨v, l, h1, h2, h3, h4⟩ := h
  exact h4.mem fun _ _ _ h => AtF.mem e h
 | .st fs, _, _, _, h => by
  simp only [AtF] at h
  obtain ⟨us, h1, h2⟩ := h
  exact AtsF.mem fs h2
theorem AtsF.mem : ∀ (fs : List Sh) {cs : List V} {us : List U} {F : List Nat}, AtsF H fs cs us F → ∀ id ∈ F, id < H.length
 | [], _, _, _, h => by simp only [AtsF] at h; rw [h.2.2]; intro _ h; cases h
 | f :: fs, _, _, _, h => by
  simp only [AtsF] at h
  obtain ⟨c1, c2, u, us', F1, F2, h1, h2, rfl, h3, h4⟩ := h
  intro id hid
  rcases List.mem_append.1 hid with hid | hid
  ·exact AtF.mem f h3 id hid
  ·exact AtsF.mem fs h4 id hid
end
theorem AtF.ext {sh : Sh} {cs : List V} {u : U} {F : List Nat} (h : AtF H sh cs u F) : AtF (H ++ T) sh cs u F :=
 h.frame sh fun id hid => List.getElem?_append_left (AtF.mem sh h id hid)
theorem yx {a b : List V} : gZ H (a ++ b) ↔ gZ H a ∧ gZ H b := by
 induction a with
 | nil => simp [gZ]
 | cons x xs ih => simp only [List.cons_append, gZ, ih, and_assoc]
mutual
theorem AtF.cut : ∀ (sh : Sh) {cs : List V} {u : U} {F : List Nat}, AtF (H ++ T) sh cs u F → (∀ id ∈ F, H.length ≤ id) → gZ H cs → F = []
 | .int k, _, _, _, h, _, _ => by simp only [AtF] at h; exact h.2
 | .bool, _, _, _, h, _, _ => by simp only [AtF] at h; exact h.2
 | .str, _, _, _, h, _, _ => by simp only [AtF] at h; exact h.2
 | .slice e, _, _, _, h, hF, hl => by
  simp only [AtF] at h
  obtain ⟨v, l, rfl, h2, h3, h4⟩ := h
  rcases h4 with ⟨_, _, rfl⟩ | ⟨id, off, cells, Fs, rfl, g2, g3, g4, rfl, g6⟩
  ·rfl
  ·simp only [gZ, eF, kT, and_true] at hl
   obtain ⟨own, es, cells, hl⟩ := hl
   have := (List.getElem?_eq_some_iff.1 hl).1
   have := hF id List.mem_cons_self
   omega
 | .st fs, _, _, _, h, hF, hl => by
  simp only [AtF] at h
  obtain ⟨us, h1, h2⟩ := h
  exact AtsF.cut fs h2 hF hl
theorem AtsF.cut : ∀ (fs : List Sh) {cs : List V} {us : List U} {F : List Nat}, AtsF (H ++ T) fs cs us F → (∀ id ∈ F, H.length ≤ id) → gZ H cs → F = []
 | [], _, _, _, h, _, _ => by simp only [AtsF] at h; exact h.2.2
 | f :: fs, _, _, _, h, hF, hl => by
  simp only [AtsF] at h
  obtain ⟨c1, c2, u, us', F1, F2, rfl, h2, rfl, h3, h4⟩ := h
  rw [yx] at hl
  rw [AtF.cut f h3 (fun id hid => hF id (List.mem_append_left _ hid)) hl.1, AtsF.cut fs h4 (fun id hid => hF id (List.mem_append_right _ hid)) hl.2]
  rfl
end
end
def dU : D → U
 | .int n => .int n
 | .bool b => .bool b
 | .str s => .str s
 | .nil => .lst []
 | .lst l => .lst (dUs l)
 | .st l => .st (dUs l)
where dUs : List D → List U
 | [] => []
 | d :: ds => dU d :: dUs ds
theorem sW : ∀ (l : List D), (dU.dUs l).length = l.length
 | [] => rfl
 | d :: ds => by simp [dU.dUs, sW ds]
theorem EJ : ∀ (l : List D) (i : Nat), (dU.dUs l)[i]? = l[i]?.map dU
 | [], i => by simp [dU.dUs]
 | d :: ds, 0 => by simp [dU.dUs]
 | d :: ds, i + 1 => by simp [dU.dUs, EJ ds i]
mutual
theorem Is.at {H : List Ob} : ∀ (sh : Sh) {cs : List V} {d : D}, Is H sh cs d → At H sh cs (dU d)
 | .int k, cs, d, h => by
  unfold Is at h
  split at h <;> first | (exfalso; exact h) | (rename_i he; cases he) | skip
  all_goals (obtain ⟨rfl, rfl, h⟩ := h; exact ⟨_, rfl, rfl, h⟩)
 | .bool, cs, d, h => by
  unfold Is at h
  split at h <;> first | (exfalso; exact h) | (rename_i he; cases he) | skip
  all_goals (subst h; exact ⟨_, rfl, rfl⟩)
 | .str, cs, d, h => by
  unfold Is at h
  split at h <;> first | (exfalso; exact h) | (rename_i he; cases he) | skip
  all_goals (obtain ⟨rfl, h⟩ := h; exact ⟨_, rfl, rfl, h⟩)
 | .slice e, cs, d, h => by
  match cs, d, h with
  | [.slc none n], .nil, h =>
   simp only [Is] at h
   subst h
   simp only [At, dU]
   exact ⟨_, _, rfl, rfl, by simp, .inl ⟨rfl, rfl⟩⟩
  | [.slc (some (id, off)) n], .lst l, h =>
   simp only [Is] at h
   obtain ⟨rfl, h0, own, cells, h2, h3, h4⟩ := h
   simp only [At, dU]
   refine ⟨_, _, rfl, rfl, by rw [sW]; exact h0, .inr ⟨id, off, own, cells, by rw [sW], h2, by rw [sW]; exact h3, fun i x hx => ?_⟩⟩
   rw [EJ] at hx
   obtain ⟨d, hd, rfl⟩ := Option.map_eq_some_iff.1 hx
   exact Is.at e (h4 i d hd)
 | .st fs, cs, d, h => by
  match d, h with
  | .st ds, h =>
   simp only [Is] at h
   simp only [At, dU]
   exact ⟨_, rfl, IsAll.ats fs h⟩
theorem IsAll.ats {H : List Ob} : ∀ (fs : List Sh) {cs : List V} {ds : List D}, IsAll H fs cs ds → Ats H fs cs (dU.dUs ds)
 | [], cs, ds, h => by simp only [IsAll] at h; obtain ⟨rfl, rfl⟩ := h; exact ⟨rfl, rfl⟩
 | f :: fs, cs, d :: ds, h => by
  simp only [IsAll] at h
  simp only [Ats, dU.dUs]
  exact ⟨_, _, _, _, (List.take_append_drop _ _).symm, rfl, Is.at f h.1, IsAll.ats fs h.2⟩
 | _ :: _, _, [], h => by simp only [IsAll] at h
end
def UA (o : Oper) : Oper := { dst := o.dst, op := o.op, type := 0, pos := "", after := #[], guard := o.guard }
def er : Code → Code
 | .region id ops draw => .region id ⟨ops.toList.map UA⟩ draw
 | .seq a b => .seq (er a) (er b)
 | .cond c a b => .cond c (er a) (er b)
 | .block id b => .block id (er b)
 | .loop b => .loop (er b)
 | c => c
def sub (l : List (Nat × Nat)) (n : Nat) : Nat := match l with
 | [] => n
 | (a, b) :: l => if n = a then b else sub l n
section
variable {C : Ctx} {callf : bJ} {f : Nat}
end
section
variable {H : List Ob}
mutual
theorem At.ones : ∀ (sh : Sh) {cs : List V} {u : U}, At H sh cs u → cs.all aI = true
 | .int k, _, _, h => by obtain ⟨n, rfl, _⟩ := nI.1 h; rfl
 | .bool, _, _, h => by obtain ⟨n, rfl, _⟩ := sZ.1 h; rfl
 | .str, _, _, h => by obtain ⟨n, rfl, _⟩ := dw.1 h; rfl
 | .slice e, _, _, h => by
  obtain ⟨v, l, rfl, _, _, h4⟩ := aG.1 h
  simp [h4.one.1]
 | .st fs, _, _, h => by
  obtain ⟨us, _, h2⟩ := jC.1 h
  exact Ats.ones fs h2
theorem Ats.ones : ∀ (fs : List Sh) {cs : List V} {us : List U}, Ats H fs cs us → cs.all aI = true
 | [], _, _, h => by rw [(eH.1 h).1]; rfl
 | f :: fs, _, _, h => by
  obtain ⟨c1, c2, u, us', rfl, _, h3, h4⟩ := bn.1 h
  rw [List.all_append, At.ones f h3, Ats.ones fs h4]
  rfl
end
end
theorem kZ {cells c : List V} {o : Nat} (h : o + c.length ≤ cells.length) : ((setRange cells o c).drop o).take c.length = c := by
 unfold setRange
 have h1 : (cells.take o).length = o := by simp; omega
 rw [List.append_assoc, List.drop_append_of_le_length (by omega), List.drop_of_length_le (by omega), List.nil_append, List.take_left']
 rfl
theorem fZ {cells c : List V} {o p n : Nat} (h : o + c.length ≤ cells.length) (hp : p + n ≤ o ∨ o + c.length ≤ p) : ((setRange cells o c).drop p).take n = (cells.drop p).take n := by
 apply List.ext_getElem?
 intro j
 by_cases hj : j < n
 ·rw [List.getElem?_take_of_lt hj, List.getElem?_take_of_lt hj, List.getElem?_drop, List.getElem?_drop]
  unfold setRange
  rw [List.append_assoc]
  have h1 : (cells.take o).length = o := by simp; omega
  rcases hp with hp | hp
  ·rw [List.getElem?_append_left (by omega), List.getElem?_take_of_lt (by omega)]
  ·rw [List.getElem?_append_right (by omega), h1, List.getElem?_append_right (by omega), List.getElem?_drop]
   congr 1
   omega
 ·rw [List.getElem?_eq_none (by simp; omega), List.getElem?_eq_none (by simp; omega)]
theorem gq {cells c : List V} {o : Nat} (h : o + c.length ≤ cells.length) : (setRange cells o c).length = cells.length := by
 unfold setRange
 simp
 omega
def ToI (H : List Ob) (e : Sh) (l : List U) (i : Nat) (G : List Ob) : Prop := ∃ (T : List Ob) (cells : List V) (Fs : List (List Nat)), G = H ++ .mk true e.size cells :: T ∧ cells.length = l.length * e.size ∧ Fs.length = i ∧
 (∀ (j : Nat) x F, l[j]? = some x → Fs[j]? = some F → AtF G e ((cells.drop (j * e.size)).take e.size) x F) ∧ Fs.flatten.Nodup ∧ ∀ id ∈ Fs.flatten, H.length + 1 ≤ id
section
variable {H : List Ob} {e : Sh} {l : List U}
theorem ToI.init {zs : List V} (hz : zs.length = l.length * e.size) : ToI H e l 0 (H ++ [.mk true e.size zs]) :=
 ⟨[], zs, [], rfl, hz, rfl, fun j x F _ h => by simp at h, by simp, by simp⟩
theorem bW {i n s : Nat} (h : i < n) : i * s + s ≤ n * s := by
 have := Nat.mul_le_mul_right s (show i + 1 ≤ n from h)
 rwa [Nat.succ_mul] at this
theorem ToI.step {i : Nat} {G T : List Ob} {x : U} {c : List V} {F : List Nat} (h : ToI H e l i G) (hx : l[i]? = some x) (hc : AtF (G ++ T) e c x F) (hn : F.Nodup) (hF : ∀ id ∈ F, G.length ≤ id) :
  ∃ cells, (G ++ T)[H.length]? = some (.mk true e.size cells) ∧ i * e.size + c.length ≤ cells.length ∧ c.length = e.size ∧ ToI H e l (i + 1) ((G ++ T).set H.length (.mk true e.size (setRange cells (i * e.size) c))) := by
 obtain ⟨T0, cells, Fs, rfl, h1, rfl, h3, h4, h5⟩ := h
 have hi : Fs.length < l.length := (List.getElem?_eq_some_iff.1 hx).1
 have hm := bW (s := e.size) hi
 have hcl : c.length = e.size := At.len e (AtF.at e hc)
 refine ⟨cells, by simp, by omega, hcl, T0 ++ T, setRange cells (Fs.length * e.size) c, Fs ++ [F], ?_, ?_, by simp, ?_, ?_, ?_⟩
 ·rw [List.append_assoc, List.cons_append, set_mid]
 ·rw [gq (by omega), h1]
 ·intro j y K hy hK
  have hfr : ∀ id ∈ K, H.length + 1 ≤ id → ((H ++ .mk true e.size cells :: T0 ++ T).set H.length (.mk true e.size (setRange cells (Fs.length * e.size) c)))[id]? = (H ++ .mk true e.size cells :: T0 ++ T)[id]? := fun id _ hid => by
   rw [List.getElem?_set_ne (by omega)]
  rcases Nat.lt_or_ge j Fs.length with hj | hj
  ·rw [List.getElem?_append_left hj] at hK
   have hmj := bW (s := e.size) hj
   rw [fZ (by omega) (.inl hmj)]
   refine AtF.frame e (fun id hid => ?_) (h3 j y K hy hK)
   rw [hfr id hid (h5 id (List.mem_flatten.2 ⟨K, List.mem_of_getElem? hK, hid⟩)), List.getElem?_append_left (AtF.mem e (h3 j y K hy hK) id hid)]
  ·have hj' : j = Fs.length := by
    have := (List.getElem?_eq_some_iff.1 hK).1
    simp at this
    omega
   subst hj'
   rw [hx] at hy
   cases hy
   rw [List.getElem?_append_right (Nat.le_refl _), Nat.sub_self] at hK
   cases hK
   have hs := kZ (cells := cells) (c := c) (o := Fs.length * e.size) (by omega)
   rw [hcl] at hs
   rw [hs]
   refine AtF.frame e (fun id hid => ?_) hc
   exact hfr id hid (by have := hF id hid; simp at this; omega)
 ·rw [List.flatten_append, List.nodup_append]
  refine ⟨h4, by simpa using hn, fun a ha b hb hab => ?_⟩
  subst hab
  simp at hb
  have h6 := hF a hb
  obtain ⟨K, hK, ha⟩ := List.mem_flatten.1 ha
  obtain ⟨j, hj, rfl⟩ := List.getElem_of_mem hK
  have := AtF.mem e (h3 j (l[j]'(by omega)) Fs[j] (List.getElem?_eq_getElem _) (List.getElem?_eq_getElem _)) a ha
  omega
 ·intro id hid
  rw [List.flatten_append] at hid
  rcases List.mem_append.1 hid with hid | hid
  ·exact h5 id hid
  ·simp at hid
   have := hF id hid
   simp at this
   omega
theorem ToI.done {G : List Ob} (h : ToI H e l l.length G) (hl : l.length ≤ maxLen) : ∃ T F, G = H ++ T ∧ AtF G (.slice e) [.slc (some (H.length, 0)) l.length] (.lst l) F ∧ F.Nodup ∧ (∀ id ∈ F, H.length ≤ id) ∧ T ≠ [] := by
 obtain ⟨T0, cells, Fs, rfl, h1, h2, h3, h4, h5⟩ := h
 refine ⟨_, H.length :: Fs.flatten, rfl, aZ.2 ⟨_, l, rfl, rfl, hl, .inr ⟨H.length, 0, cells, Fs, rfl, by simp, by omega, h2, rfl, fun i x G hx hG => ?_⟩⟩, ?_, ?_, by simp⟩
 ·rw [Nat.zero_add]; exact h3 i x G hx hG
 ·rw [List.nodup_cons]
  exact ⟨fun h => by have := h5 _ h; omega, h4⟩
 ·intro id hid
  rcases List.mem_cons.1 hid with rfl | hid
  ·exact Nat.le_refl _
  ·have := h5 id hid; omega
end
theorem fA {α : Type} {l : List α} {i : Nat} {x : α} (h : l[i]? = some x) : l.take (i + 1) = l.take i ++ [x] := by
 rw [List.take_add_one, h]
 rfl
theorem AtF.app {H T : List Ob} {sh : Sh} {cs : List V} {u : U} {F : List Nat} (h : AtF H sh cs u F) : AtF (H ++ T) sh cs u F := h.ext
theorem ag {C : Ctx} {callf : bJ} {f id : Nat} {ops : Array Oper} {σ : St} {h : Hint} (ho : C.ord f id = some h) : bI C callf f id ops true σ = NQ (match h.res with
  | [] => jI C callf f ops h σ.heap.length h.ord σ
  | _ :: _ => lC C callf f ops h σ.heap.length h.ord { σ with heap := σ.heap ++ List.replicate h.res.length .dead }) (Ky C callf f ops h σ) := by
 simp only [bI, ho, dP]
 rfl
theorem Js {x : St} {b : Option St} : NQ (some x) b = some x := rfl
theorem GU {a b c : List Nat} {d e : List (Nat × Nat)} {g : List (Nat × List Nat)} {n : Nat} {H H' : List Ob} : iG ⟨a, b, c, d, e, g, []⟩ n H H' ↔ Keep n H H' := ⟨fun h id hi => h id ⟨hi, rfl⟩, fun h id hi => h id hi.1⟩
theorem GY {n : Nat} {H : List Ob} : Keep n H H := fun _ _ => rfl
theorem kV {n : Nat} {H T : List Ob} (h : n ≤ H.length) : Keep n H (H ++ T) := fun id hid => by rw [List.getElem?_append_left (by omega)]
attribute [simp] ag Js GU jI iH lC dW oO iV IJ fitsAt lookOf nU GY
section
variable {G : List Ob}
theorem AtsF.lens : ∀ (fs1 : List Sh) {f : Sh} {fs2 : List Sh} {cs : List V} {us1 us2 : List U} {u : U} {F : List Nat}, AtsF G (fs1 ++ f :: fs2) cs (us1 ++ u :: us2) F → us1.length = fs1.length → F.Nodup →
  ∃ c1 c c2 K, cs = c1 ++ (c ++ c2) ∧ c1.length = Sh.sizes fs1 ∧ AtF G f c u K ∧ K.Nodup ∧ (∀ q ∈ K, q ∈ F) ∧
   ∀ G' y c', (∀ q ∈ F, q ∉ K → G'[q]? = G[q]?) → AtF G' f c' y K → AtsF G' (fs1 ++ f :: fs2) (c1 ++ (c' ++ c2)) (us1 ++ y :: us2) F
 | [], f, fs2, cs, us1, us2, u, F, h, hl, hn => by
  have : us1 = [] := by simpa using hl
  subst this
  obtain ⟨c1, c2, u', us', F1, F2, rfl, hu, rfl, h1, h2⟩ := bH.1 h
  cases hu
  rw [List.nodup_append] at hn
  refine ⟨[], c1, c2, F1, rfl, rfl, h1, hn.1, fun q hq => List.mem_append_left _ hq, fun G' y c' hG hc => ?_⟩
  exact bH.2 ⟨c', c2, y, us2, F1, F2, rfl, rfl, rfl, hc, AtsF.frame fs2 (fun q hq => hG q (List.mem_append_right _ hq) fun hq1 => hn.2.2 q hq1 q hq rfl) h2⟩
 | g :: fs1, f, fs2, cs, us1, us2, u, F, h, hl, hn => by
  obtain ⟨c1, c2, u', us', F1, F2, rfl, hu, rfl, h1, h2⟩ := bH.1 h
  match us1, hl, hu with
  | v :: us1, hl, hu =>
   cases hu
   rw [List.nodup_append] at hn
   obtain ⟨d1, c, d2, K, rfl, k1, k2, k3, k4, k5⟩ := AtsF.lens fs1 h2 (by simpa using hl) hn.2.1
   refine ⟨c1 ++ d1, c, d2, K, by rw [List.append_assoc], by rw [List.length_append, At.len g (AtF.at g h1), k1]; rfl, k2, k3, fun q hq => List.mem_append_right _ (k4 q hq), fun G' y c' hG hc => ?_⟩
   rw [List.append_assoc]
   exact bH.2 ⟨c1, _, _, _, F1, F2, rfl, rfl, rfl, AtF.frame g (fun q hq => hG q (List.mem_append_left _ hq) fun hq1 => hn.2.2 q hq q (k4 q hq1) rfl) h1,
    k5 G' y c' (fun q hq hq1 => hG q (List.mem_append_right _ hq) hq1) hc⟩
theorem AtF.elem {e : Sh} {v : V} {l : List U} {F : List Nat} (h : AtF G (.slice e) [v] (.lst l) F) (hn : F.Nodup) {i : Nat} {x : U} (hx : l[i]? = some x) :
  ∃ id off cells K, v = .slc (some (id, off)) l.length ∧ G[id]? = some (.mk true e.size cells) ∧ off + i * e.size + e.size ≤ cells.length ∧ AtF G e ((cells.drop (off + i * e.size)).take e.size) x K ∧ K.Nodup ∧ id ∉ K ∧ id ∈ F ∧ (∀ q ∈ K, q ∈ F) ∧
   ∀ G' c' y, c'.length = e.size → G'[id]? = some (.mk true e.size (setRange cells (off + i * e.size) c')) → (∀ q ∈ F, q ≠ id → q ∉ K → G'[q]? = G[q]?) → AtF G' e c' y K → AtF G' (.slice e) [v] (.lst (l.set i y)) F := by
 obtain ⟨v', l', hv', hu, hl, hs⟩ := aZ.1 h
 cases hv'
 cases hu
 rcases hs with ⟨_, rfl, _⟩ | ⟨id, off, cells, Fs, rfl, h2, h3, h4, rfl, h6⟩
 ·simp at hx
 ·have hi : i < l.length := (List.getElem?_eq_some_iff.1 hx).1
  have hm := bW (s := e.size) hi
  obtain ⟨K, hK⟩ : ∃ K, Fs[i]? = some K := ⟨Fs[i]'(by omega), List.getElem?_eq_getElem _⟩
  have hKF : ∀ q ∈ K, q ∈ Fs.flatten := fun q hq => List.mem_flatten.2 ⟨K, List.mem_of_getElem? hK, hq⟩
  have hn' := List.nodup_cons.1 hn
  have hap : ∀ (a b : Nat) (A B : List Nat), Fs[a]? = some A → Fs[b]? = some B → a ≠ b → ∀ q ∈ A, q ∉ B := by
   have hp := (List.pairwise_flatten.1 hn'.2).2
   rw [List.pairwise_iff_getElem] at hp
   intro a b A B hA hB hab q hqa hqb
   obtain ⟨ha, rfl⟩ := List.getElem?_eq_some_iff.1 hA
   obtain ⟨hb, rfl⟩ := List.getElem?_eq_some_iff.1 hB
   rcases Nat.lt_or_gt_of_ne hab with h | h
   ·exact hp a b ha hb h q hqa q hqb rfl
   ·exact hp b a hb ha h q hqb q hqa rfl
  refine ⟨id, off, cells, K, rfl, h2, by omega, h6 i x K hx hK, (List.pairwise_flatten.1 hn'.2).1 K (List.mem_of_getElem? hK), fun hq => hn'.1 (hKF _ hq), List.mem_cons_self, fun q hq => List.mem_cons_of_mem _ (hKF q hq), fun G' c' y hc hG hfr hy => ?_⟩
  refine aZ.2 ⟨_, _, rfl, rfl, by simpa using hl, .inr ⟨id, off, setRange cells (off + i * e.size) c', Fs, by simp, hG, by rw [gq (by omega)]; simpa using h3, by simpa using h4, rfl, fun j z J hz hJ => ?_⟩⟩
  by_cases hij : j = i
  ·subst hij
   rw [hK] at hJ
   cases hJ
   have hz' : z = y := by
    rw [List.getElem?_set_self (by omega)] at hz
    exact (Option.some.inj hz).symm
   subst hz'
   have := kZ (cells := cells) (c := c') (o := off + j * e.size) (by omega)
   rw [hc] at this
   rw [this]
   exact hy
  ·rw [List.getElem?_set_ne (by omega)] at hz
   have hj : j < l.length := (List.getElem?_eq_some_iff.1 hz).1
   have hmj := bW (s := e.size) hj
   rw [fZ (by omega) (by
    rcases Nat.lt_or_gt_of_ne hij with h | h
    ·have := bW (s := e.size) h; exact .inl (by omega)
    ·have := bW (s := e.size) h; exact .inr (by omega))]
   refine AtF.frame e (fun q hq => ?_) (h6 j z J hz hJ)
   exact hfr q (List.mem_cons_of_mem _ (List.mem_flatten.2 ⟨J, List.mem_of_getElem? hJ, hq⟩)) (by rintro rfl; exact hn'.1 (List.mem_flatten.2 ⟨J, List.mem_of_getElem? hJ, hq⟩)) (hap j i J K hJ hK hij q hq)
theorem xy {cells c1 c2 : List V} {o n : Nat} {v w : V} (hc : (cells.drop o).take n = c1 ++ ([v] ++ c2)) (hn : o + n ≤ cells.length) : cells.set (o + c1.length) w = setRange cells o (c1 ++ ([w] ++ c2)) := by
 have hl : n = c1.length + (1 + c2.length) := by
  have := congrArg List.length hc
  simp at this
  omega
 apply List.ext_getElem?
 intro j
 unfold setRange
 rcases Nat.lt_or_ge j o with h1 | h1
 ·rw [List.getElem?_set_ne (by omega), List.append_assoc, List.getElem?_append_left (by simp; omega), List.getElem?_take_of_lt h1]
 ·have ho : (cells.take o).length = o := by simp; omega
  rw [List.append_assoc, List.getElem?_append_right (by omega), ho]
  rcases Nat.lt_or_ge (j - o) n with h2 | h2
  ·rw [List.getElem?_append_left (by simp; omega)]
   have hs : c1 ++ ([w] ++ c2) = (c1 ++ ([v] ++ c2)).set c1.length w := by rw [List.set_append_right _ _ (Nat.le_refl _), Nat.sub_self]; rfl
   rw [hs, ← hc]
   by_cases h3 : j - o = c1.length
   ·rw [← h3, show o + (j - o) = j by omega, List.getElem?_set_self (by omega), List.getElem?_set_self (by simp; omega)]
   ·rw [List.getElem?_set_ne (by omega), List.getElem?_set_ne (by omega), List.getElem?_take_of_lt h2, List.getElem?_drop, show o + (j - o) = j by omega]
  ·rw [List.getElem?_set_ne (by omega), List.getElem?_append_right (by simp; omega), List.getElem?_drop]
   congr 1
   simp
   omega
theorem AtF.field {fs2 : List Sh} (fs1 : List Sh) {f : Sh} {v : V} {l : List U} {F : List Nat} (h : AtF G (.slice (.st (fs1 ++ f :: fs2))) [v] (.lst l) F) (hn : F.Nodup) {i : Nat} {us1 us2 : List U} {u : U} (hx : l[i]? = some (.st (us1 ++ u :: us2)))
  (hl : us1.length = fs1.length) (hf : f.size = 1) : ∃ id off cells w K, v = .slc (some (id, off)) l.length ∧ G[id]? = some (.mk true (Sh.st (fs1 ++ f :: fs2)).size cells) ∧ id ∈ F ∧ id ∉ K ∧
   cells[off + i * (Sh.st (fs1 ++ f :: fs2)).size + Sh.sizes fs1]? = some w ∧ AtF G f [w] u K ∧ K.Nodup ∧ (∀ q ∈ K, q ∈ F) ∧
   (∀ G' y, (∀ q ∈ F, q ∉ K → G'[q]? = G[q]?) → AtF G' f [w] y K → AtF G' (.slice (.st (fs1 ++ f :: fs2))) [v] (.lst (l.set i (.st (us1 ++ y :: us2)))) F) ∧
   ∀ w' y, AtF G f [w'] y K → AtF (G.set id (.mk true (Sh.st (fs1 ++ f :: fs2)).size (cells.set (off + i * (Sh.st (fs1 ++ f :: fs2)).size + Sh.sizes fs1) w'))) (.slice (.st (fs1 ++ f :: fs2))) [v] (.lst (l.set i (.st (us1 ++ y :: us2)))) F := by
 obtain ⟨id, off, cells, K0, hv, h2, h3, h4, h5, h6, h7, h8, h9⟩ := AtF.elem h hn hx
 obtain ⟨us, hus, h4⟩ := jZ.1 h4
 cases hus
 have hcl := Ats.len _ (AtsF.ats _ h4)
 obtain ⟨c1, c, c2, K, k1, k2, k3, k4, k5, k6⟩ := AtsF.lens fs1 h4 hl h5
 have hc1 : c.length = 1 := by rw [At.len f (AtF.at f k3), hf]
 obtain ⟨w, rfl⟩ : ∃ w, c = [w] := by
  match c, hc1 with
  | [w], _ => exact ⟨w, rfl⟩
 have hid : id < G.length := (List.getElem?_eq_some_iff.1 h2).1
 have hset : ∀ w', cells.set (off + i * (Sh.st (fs1 ++ f :: fs2)).size + Sh.sizes fs1) w' = setRange cells (off + i * (Sh.st (fs1 ++ f :: fs2)).size) (c1 ++ ([w'] ++ c2)) := fun w' => by
  rw [← k2]; exact xy k1 h3
 have hlen : ∀ w', (c1 ++ ([w'] ++ c2)).length = (Sh.st (fs1 ++ f :: fs2)).size := fun w' => by
  have h := congrArg List.length k1
  rw [hcl] at h
  rw [Sh.size_st, h]
  simp
 have hw : cells[off + i * (Sh.st (fs1 ++ f :: fs2)).size + Sh.sizes fs1]? = some w := by
  rw [← k2]
  refine dm k1 ?_
  rw [List.getElem?_append_right (Nat.le_refl _), Nat.sub_self]
  rfl
 refine ⟨id, off, cells, w, K, hv, h2, h7, fun hq => h6 (k5 _ hq), hw, k3, k4, fun q hq => h8 q (k5 q hq), fun G' y hG hy => ?_, fun w' y hy => ?_⟩
 ·refine h9 G' (c1 ++ ([w] ++ c2)) _ (hlen w) ?_ (fun q hq _ hqK => hG q hq fun hqk => hqK (k5 q hqk)) (jZ.2 ⟨_, rfl, k6 G' y [w] (fun q hq hqk => hG q (h8 q hq) hqk) hy⟩)
  rw [hG id h7 (fun hq => h6 (k5 _ hq)), h2, ← hset w]
  congr 2
  obtain ⟨hb, hw'⟩ := List.getElem?_eq_some_iff.1 hw
  rw [← hw', List.set_getElem_self]
 ·refine h9 _ (c1 ++ ([w'] ++ c2)) _ (hlen w') ?_ (fun q hq hq1 hqK => by rw [List.getElem?_set_ne (Ne.symm hq1)]) (jZ.2 ⟨_, rfl, k6 _ y [w'] (fun q hq hqk => ?_) (AtF.frame f (fun q hq => ?_) hy)⟩)
  ·rw [List.getElem?_set_self hid, hset w']
  ·rw [List.getElem?_set_ne]; rintro rfl; exact h6 hq
  ·rw [List.getElem?_set_ne]; rintro rfl; exact h6 (k5 _ hq)
end
noncomputable def dec (P : Prop) : Bool := @decide P (Classical.propDecidable P)
theorem au {P : Prop} (h : P) : dec P = true := @decide_eq_true P (Classical.propDecidable P) h
theorem ai {P : Prop} (h : ¬ P) : dec P = false := @decide_eq_false P (Classical.propDecidable P) h
theorem gu {P Q : Prop} (h : P ↔ Q) : dec P = dec Q := by rw [propext h]
theorem dC {P : Prop} : dec P = true ↔ P := by
 by_cases h : P
 ·exact ⟨fun _ => h, fun _ => au h⟩
 ·exact ⟨fun e => absurd (ai h) (by rw [e]; decide), fun e => absurd e h⟩
theorem Ret.dec {C : Ctx} {f : Nat} {a : List V} {H : List Ob} {P : Prop} (h : Ret C f a H fun r H' => (∃ b : Bool, r = .bool b ∧ (b = true ↔ P)) ∧ H' = H) : callW C f a H = some (.bool (dec P), H) := by
 obtain ⟨r, H', hc, ⟨b, rfl, hb⟩, rfl⟩ := h
 rw [hc, show b = Go.Lite.dec P from by cases hd : Go.Lite.dec P with
  | true => exact hb.2 (dC.1 hd)
  | false => cases b with
   | false => rfl
   | true => exact absurd (dC.2 (hb.1 rfl)) (by rw [hd]; decide)]
def mZ (c : UInt8) : Prop := 97 ≤ c.toNat ∧ c.toNat ≤ 122
def mV (c : UInt8) : Prop := 48 ≤ c.toNat ∧ c.toNat ≤ 57
def aF (t : Str) : Prop := 1 ≤ t.length ∧ t.length ≤ 20 ∧ ∀ (i : Nat) c, t[i]? = some c → mZ c ∨ (0 < i ∧ (mV c ∨ c.toNat = 95))
def jA (c : UInt8) : Prop := 32 ≤ c.toNat ∧ c.toNat ≤ 126
def Plain (t : Str) : Prop := ∀ (i : Nat) c, t[i]? = some c → jA c
def gW (c : UInt8) : UInt8 := if 65 ≤ c.toNat ∧ c.toNat ≤ 90 then c + 32 else c
def kX (b : Str) : Bool := b.getLast? == some 32
def aN (b : Str) (c : UInt8) : Str := if gW c = 32 ∧ (b = [] ∨ kX b = true) then b else b ++ [gW c]
def kF (b : Str) : Str := if kX b = true then b.dropLast else b
noncomputable def norm (t : Str) : Str := if t.length ≤ 100 ∧ dec (Plain t) = true then kF (t.foldl aN []) else []
def aA (t : Str) : Prop := 1 ≤ t.length ∧ t.length ≤ 40 ∧ norm t ≠ []
theorem lY {t : Str} {i : Nat} {P : Nat → UInt8 → Prop} (h : ∀ j, j < i → ∀ c, t[j]? = some c → P j c) {c : UInt8} (hc : t[i]? = some c) (hp : P i c) : ∀ j, j < i + 1 → ∀ c, t[j]? = some c → P j c := by
 intro j hj d hd
 by_cases hji : j = i
 ·subst hji; rw [hc] at hd; cases hd; exact hp
 ·exact h j (by omega) d hd
theorem Gq (b : Str) (c : UInt8) : (aN b c).length ≤ b.length + 1 := by
 unfold aN
 split
 ·omega
 ·simp
theorem jR : ∀ (t b : Str), (t.foldl aN b).length ≤ b.length + t.length
 | [], b => by simp
 | c :: t, b => by
  have h1 := jR t (aN b c)
  have h2 := Gq b c
  simp only [List.foldl_cons, List.length_cons]
  omega
theorem qj {t : Str} : (norm t).length ≤ 100 := by
 unfold norm
 split
 ·rename_i h
  have := jR t []
  unfold kF
  split
  ·simp at this ⊢; omega
  ·simp at this ⊢; omega
 ·simp
def mg : List V → Option (List (Str × Str))
 | [] => some []
 | .str a :: .str v :: rest => match mg rest with
  | some l => some ((a, v) :: l)
  | none => none
 | _ => none
noncomputable def fG (s : Str) (p : Str × Str) : Str := s ++ (1 :: (p.1 ++ 61 :: norm p.2))
noncomputable def KC (l : List (Str × Str)) : Str := l.reverse.foldl fG []
def rV (l : List (Str × Str)) : Bool := l.all fun p => decide (p.1.length ≤ 1048576) && decide (p.2.length ≤ 1048576)
noncomputable def oW (args : List V) (H : List Ob) : Option (V × List Ob) :=
 match args with
 | [.slc p n] => if n = 0 then some (.str [], H) else if n ≤ 1048576 then match p with
   | some (id, off) => match H[id]? with
    | some (.mk _ 2 cells) => if off + n * 2 ≤ cells.length then match mg ((cells.drop off).take (n * 2)) with
     | some l => if rV l = true ∧ l.length = n then some (.str (KC l), H) else none
     | none => none
     else none
    | _ => none
   | none => none
   else none
 | _ => none
noncomputable def tK (a b : Str) : Int := Lib.compareBytes (norm a) (norm b)
noncomputable def lu (a b : Str) : Bool := decide (tK a b < 0)
noncomputable def dB (l : List Str) : List Str := (Sort.pdq lu l.toArray 0 l.length (Lib.bitLen l.length) true true).toList
noncomputable def fP (gb : Nat) (args : List V) (H : List Ob) : Option (V × List Ob) :=
 match args with
 | [.slc p n, .fn g [] []] => if g = gb then (if n = 0 then some (.tup [], H) else match p with
  | some (id, off) => (match H[id]? with
   | some (.mk true es cells) => if es = 1 ∧ off + n ≤ cells.length ∧ n ≤ 1048576 then (match strsOf ((cells.drop off).take n) with
    | some ss => some (.tup [], H.set id (.mk true es (setRange cells off ((dB ss).map V.str))))
    | none => none) else none
   | _ => none)
  | none => none) else none
 | _ => none
def fK (es : Nat) : List V → List Ob → Option (V × List Ob)
 | [.slc p n, .int .i64 i, .slc (some (idv, 0)) 1], H => match H[idv]? with
  | some (.mk true es' xs) => if es' = es ∧ xs.length = es ∧ 0 ≤ i ∧ i ≤ n ∧ n ≤ 1000000 ∧ xs.all aI = true then match p with
   | none => if n = 0 then some (.slc (some (H.length, 0)) 1, H ++ [.mk true es xs]) else none
   | some (id, off) => match H[id]? with
    | some (.mk true es'' cells) => if es'' = es ∧ id ≠ idv ∧ off + n * es ≤ cells.length ∧ ((cells.drop off).take (n * es)).all aI = true then
      some (.slc (some (H.length, 0)) (n + 1), H.set id .dead ++ [.mk true es (((cells.drop off).take (i.toNat * es)) ++ xs ++ (((cells.drop off).take (n * es)).drop (i.toNat * es)))])
     else none
    | _ => none
   else none
  | _ => none
 | _, _ => none
def tZ : List V → List Ob → Option (V × List Ob)
 | [.str s, .int .u8 c], H => some (.int .i64 (Lib.indexByte s c.toNat.toUInt8), H)
 | _, _ => none
end Go.Lite
end
section
namespace Go.Proofs.Try1
open Go Go.Lite
def locTab : List (Nat × List Nat) := [(3, [5, 8, 9, 10, 11]),
 (9, [2, 6]),
 (10, [3, 6]),
 (11, [2, 3, 5, 6]),
 (12, [2, 5]),
 (13, [2, 3]),
 (14, [3, 6]),
 (15, [2, 3]),
 (16, [2, 3]),
 (19, [2]),
 (20, [1]),
 (61, [2, 3]),
 (77, [2, 3, 5]),
 (85, [1, 4]),
 (87, [2, 4]),
 (90, [1, 2, 3]),
 (92, [2]),
 (95, [3, 6]),
 (96, [2, 3]),
 (97, [2, 3, 6]),
 (100, [2]),
 (106, [3, 6]),
 (109, [3, 6, 7, 9]),
 (115, [2]),
 (128, [1, 2, 3, 5]),
 (164, [1]),
 (180, [1]),
 (189, [8, 9]),
 (190, [2, 3]),
 (198, [3, 6]),
 (246, [2, 3]),
 (252, [1]),
 (255, [2]),
 (261, [2]),
 (315, [9])]
def ordTab : List (Nat × List (Nat × Hint)) := [(3, [(7, ⟨[0, 1, 2, 3, 4, 5, 6, 7, 8, 9, 11, 12, 10, 13, 14, 15, 16, 17, 18, 20, 21, 19, 22, 23, 24, 25, 26, 27, 29, 30, 28, 31, 32, 33, 34], [], [], [(0, 8), (1, 5), (8, 9), (9, 10), (11, 9), (12, 10), (17, 9), (18, 10), (20, 10), (21, 9), (26, 11), (29, 11)], [], [], []⟩), (22, ⟨[0, 1, 2, 3, 4, 5, 6, 7, 8, 9, 10, 11, 12, 13, 14, 15, 16, 18, 19, 20, 21, 22, 23, 17, 24, 25, 26], [17], [23], [(1, 5), (10, 8), (12, 5), (19, 5)], [], [], []⟩)]),
 (11, [(7, ⟨[0, 1, 2, 3, 4, 5, 6, 7, 8, 9, 10, 11, 12, 13, 14, 15, 16, 17], [13, 14], [4, 9, 11], [(1, 6), (6, 6)], [], [], []⟩), (8, ⟨[0, 1, 2, 3], [], [], [(0, 5), (1, 6), (2, 2), (3, 3)], [], [], []⟩)]),
 (12, [(3, ⟨[0, 1, 2, 3, 4], [], [], [(0, 5), (3, 2)], [], [], []⟩)]),
 (77, [(5, ⟨[0, 1, 3, 6, 2, 4, 5, 7], [], [], [(0, 3), (7, 5)], [], [], []⟩), (14, ⟨[0, 1, 2, 3, 5, 4, 6, 7, 8, 9, 10], [], [], [(1, 3), (10, 3)], [(3, 0), (5, 1)], [(4, [1])], []⟩), (17, ⟨[0, 1, 2, 3, 4, 5, 6], [], [], [(1, 3)], [], [], []⟩), (19, ⟨[0, 1, 2, 5, 3, 4, 6, 7, 8, 9, 10], [], [], [(1, 3), (10, 3)], [(5, 0)], [(3, [0])], []⟩)]),
 (90, [(5, ⟨[0, 1, 2, 3, 4, 5, 6, 7, 9, 10, 11, 12, 13, 14, 8, 15, 16, 17, 18, 19, 20], [8, 15], [7, 14], [(1, 3), (3, 1), (10, 1), (20, 3)], [], [], []⟩)]),
 (94, [(4, ⟨[0, 1, 2, 3, 4, 5, 6, 7, 8, 9, 10, 11, 12, 13, 14, 15, 16, 17], [14], [9], [], [], [], []⟩)]),
 (97, [(1, ⟨[0, 1, 3, 4, 2, 5, 6, 7, 8, 9, 10, 11, 12, 13, 14, 15], [], [], [(1, 2), (4, 3), (9, 2), (12, 3)], [], [], []⟩), (6, ⟨[0, 1, 2, 3, 4, 5, 6, 7, 8, 9, 10, 11, 12, 13], [11], [4, 9], [(1, 2), (6, 3), (12, 6)], [], [], []⟩), (12, ⟨[0, 1, 2, 3, 4, 6, 7, 8, 9, 10, 5, 11, 12], [5], [7, 10], [(1, 6)], [], [], []⟩)]),
 (128, [(5, ⟨[0, 1, 2, 3, 4, 5, 6, 7, 8, 9, 10, 11], [], [], [(1, 3), (3, 5), (5, 5), (11, 3)], [], [], []⟩)]),
 (140, [(5, ⟨[0, 1, 2, 3, 4, 5, 6, 7, 8, 9, 10, 11, 12, 13, 14, 15, 16], [14], [6], [], [], [], []⟩)]),
 (193, [(4, ⟨[0, 1, 2, 3, 4, 5, 6, 7, 8, 9, 10, 11, 12, 13, 14, 16, 17, 18, 19, 15, 20, 21, 22, 23], [15], [19], [], [], [], []⟩)]),
 (195, [(1, ⟨[0, 2, 1, 3, 4], [1], [2], [], [], [], []⟩)]),
 (198, [(6, ⟨[0, 1, 2, 3, 5, 6, 4, 7, 8, 9, 10], [], [], [(0, 3), (10, 6)], [(2, 0), (6, 1)], [(4, [1])], []⟩)]),
 (200, [(6, ⟨[0, 1, 2, 3, 4, 5, 6, 7, 8, 10, 11, 12, 13, 9, 14, 15, 16], [9], [13], [], [], [], []⟩)]),
 (246, [(3, ⟨[0, 1, 3, 4, 5, 6, 2, 7, 8, 9], [1, 2], [5], [(9, 3)], [(1, 0), (4, 1), (6, 2)], [(2, [1, 2]), (5, [0])], []⟩)])]
def fids : List Nat := [3, 9, 10, 11, 12, 13, 14, 15, 16, 17, 18, 19, 20, 21, 36, 61, 75, 76, 77, 78, 79, 80, 81, 82, 83, 84, 85, 86, 87, 88, 89, 90, 91, 92, 93, 94, 95, 96, 97, 98, 99, 100, 101, 102, 103, 106, 109, 115, 122, 123, 128, 140, 158, 162, 164, 176, 177, 179, 180, 181, 182, 183, 184, 185, 186, 187, 188, 189, 190, 191, 192, 193, 194, 195, 197, 198, 200, 212, 216, 222, 238, 246, 249, 250, 251, 252, 253, 254, 255, 256, 257, 258, 259, 260, 261, 263, 264, 265, 270, 274, 294, 295, 296, 297, 298, 299, 315, 317, 331, 332, 333, 339]
noncomputable def primTab : Nat → Option (List V → List Ob → Option (V × List Ob)) := fun f => if f = 141 then some oW else if f = 178 then some (fP 179) else if f = 262 then some (fK 2) else if f = 314 then some mP else if f = 341 then some tZ else none
noncomputable def tabs : Tabs := { locs := fun f => (locTab.lookup f).getD [], ord := fun f id => ((ordTab.lookup f).getD []).lookup id, prim := primTab, fids := fids }
theorem mixed : Tryz.prog.follows .mixedOrders = true := rfl
theorem ok : Iq Tryz.prog tabs = true := by decide +kernel
end Go.Proofs.Try1
end
section
namespace Go.Proofs.Try1
open Go Go.Lite
noncomputable def C : Ctx := ctxOf Tryz.prog tabs
set_option maxRecDepth 20000
variable {a : List V} {H : List Ob} {R : V → List Ob → Prop}
@[simp] theorem UG : C.ty 2 = ⟨.int .i64, 1, 8, [.int .i64 0]⟩ := by kernel_rfl
@[simp] theorem UC : C.ty 3 = ⟨.int .i64, 1, 8, [.int .i64 0]⟩ := by kernel_rfl
@[simp] theorem UF : C.ty 4 = ⟨.bool, 1, 1, [.bool false]⟩ := by kernel_rfl
@[simp] theorem Uw : C.ty 5 = ⟨.int .u8, 1, 1, [.int .u8 0]⟩ := by kernel_rfl
@[simp] theorem Ut : C.ty 9 = ⟨.str, 1, 16, [.str []]⟩ := by kernel_rfl
@[simp] theorem Uu : C.ty 21 = ⟨.int .i32, 1, 4, [.int .i32 0]⟩ := by kernel_rfl
@[simp] theorem RD : C.ty 22 = ⟨.slice 5, 1, 24, [.slc none 0]⟩ := by kernel_rfl
@[simp] theorem SB : C.ty 23 = ⟨.slice 89, 1, 24, [.slc none 0]⟩ := by kernel_rfl
@[simp] theorem Ux : C.ty 24 = ⟨.slice 44, 1, 24, [.slc none 0]⟩ := by kernel_rfl
@[simp] theorem Uz : C.ty 26 = ⟨.struct [(0, 23), (1, 24)], 2, 48, [.slc none 0, .slc none 0]⟩ := by kernel_rfl
@[simp] theorem UB : C.ty 27 = ⟨.slice 9, 1, 24, [.slc none 0]⟩ := by kernel_rfl
@[simp] theorem Us : C.ty 31 = ⟨.struct [(0, 26), (2, 2)], 3, 56, [.slc none 0, .slc none 0, .int .i64 0]⟩ := by kernel_rfl
@[simp] theorem Uy : C.ty 44 = ⟨.struct [(0, 9), (1, 27)], 2, 40, [.str [], .slc none 0]⟩ := by kernel_rfl
@[simp] theorem RX : C.ty 89 = ⟨.struct [(0, 9), (1, 9)], 2, 32, [.str [], .str []]⟩ := by kernel_rfl
@[simp] theorem Uj : C.ty 106 = ⟨.ptr, 1, 8, [.ptr none]⟩ := by kernel_rfl
@[simp] theorem Uf : C.ty 116 = ⟨.func, 1, 8, [.nilfn]⟩ := by kernel_rfl
@[simp] theorem Ua : C.ty 118 = ⟨.ptr, 1, 8, [.ptr none]⟩ := by kernel_rfl
@[simp] theorem Uo : C.ty 120 = ⟨.func, 1, 8, [.nilfn]⟩ := by kernel_rfl
@[simp] theorem TY : C.ty 128 = ⟨.func, 1, 8, [.nilfn]⟩ := by kernel_rfl
@[simp] theorem Ul : C.ty 171 = ⟨.func, 1, 8, [.nilfn]⟩ := by kernel_rfl
@[simp] theorem TV : C.ty 176 = ⟨.int .u64, 1, 8, [.int .u64 0]⟩ := by kernel_rfl
@[simp] theorem Ub : C.ty 178 = ⟨.struct [(0, 22), (1, 3), (2, 176), (3, 2)], 4, 48, [.slc none 0, .int .i64 0, .int .u64 0, .int .i64 0]⟩ := by kernel_rfl
@[simp] theorem Ui : C.ty 180 = ⟨.int .u64, 1, 8, [.int .u64 0]⟩ := by kernel_rfl
@[simp] theorem Um : C.ty 182 = ⟨.func, 1, 8, [.nilfn]⟩ := by kernel_rfl
@[simp] theorem Ug : C.ty 189 = ⟨.func, 1, 8, [.nilfn]⟩ := by kernel_rfl
@[simp] theorem Uk : C.ty 233 = ⟨.array 256 4, 256, 256, List.replicate 256 (.bool false)⟩ := by kernel_rfl
@[simp] theorem Ud : C.ty 237 = ⟨.ptr, 1, 8, [.ptr none]⟩ := by kernel_rfl
@[simp] theorem TW : C.ty 239 = ⟨.func, 1, 8, [.nilfn]⟩ := by kernel_rfl
@[simp] theorem Uh : C.ty 284 = ⟨.array 256 5, 256, 256, List.replicate 256 (.int .u8 0)⟩ := by kernel_rfl
@[simp] theorem Un : C.ty 286 = ⟨.struct [(0, 5), (1, 5)], 2, 2, [.int .u8 0, .int .u8 0]⟩ := by kernel_rfl
@[simp] theorem Ue : C.ty 287 = ⟨.array 16 286, 32, 32, List.replicate 32 (.int .u8 0)⟩ := by kernel_rfl
noncomputable def BG := Tryz.f3.body.getD .skip
theorem UD : Ret C 3 a H R ↔ WP C 3 BG ⟨af a, 0, H⟩ (aK C Tryz.f3 H R) := aj rfl (by kernel_rfl) Tryz.func3 rfl
@[simp] theorem Uc : C.locs 3 = [5, 8, 9, 10, 11] := by kernel_rfl
noncomputable def LU := Tryz.f9.body.getD .skip
theorem Ur : Ret C 9 a H R ↔ WP C 9 LU ⟨af a, 0, H⟩ (aK C Tryz.f9 H R) := aj rfl (by kernel_rfl) Tryz.func9 rfl
@[simp] theorem TZ : C.locs 9 = [2, 6] := by kernel_rfl
noncomputable def pz := Tryz.f10.body.getD .skip
theorem Rn : Ret C 10 a H R ↔ WP C 10 pz ⟨af a, 0, H⟩ (aK C Tryz.f10 H R) := aj rfl (by kernel_rfl) Tryz.func10 rfl
@[simp] theorem RQ : C.locs 10 = [3, 6] := by kernel_rfl
noncomputable def vS := Tryz.f11.body.getD .skip
theorem Sz : Ret C 11 a H R ↔ WP C 11 vS ⟨af a, 0, H⟩ (aK C Tryz.f11 H R) := aj rfl (by kernel_rfl) Tryz.func11 rfl
@[simp] theorem RF : C.locs 11 = [2, 3, 5, 6] := by kernel_rfl
noncomputable def JF := Tryz.f12.body.getD .skip
theorem Tq : Ret C 12 a H R ↔ WP C 12 JF ⟨af a, 0, H⟩ (aK C Tryz.f12 H R) := aj rfl (by kernel_rfl) Tryz.func12 rfl
@[simp] theorem Tj : C.locs 12 = [2, 5] := by kernel_rfl
noncomputable def DU := Tryz.f13.body.getD .skip
theorem Oz : Ret C 13 a H R ↔ WP C 13 DU ⟨af a, 0, H⟩ (aK C Tryz.f13 H R) := aj rfl (by kernel_rfl) Tryz.func13 rfl
@[simp] theorem TD : C.locs 13 = [2, 3] := by kernel_rfl
noncomputable def oV := Tryz.f14.body.getD .skip
theorem SV : Ret C 14 a H R ↔ WP C 14 oV ⟨af a, 0, H⟩ (aK C Tryz.f14 H R) := aj rfl (by kernel_rfl) Tryz.func14 rfl
@[simp] theorem SX : C.locs 14 = [3, 6] := by kernel_rfl
noncomputable def zD := Tryz.f15.body.getD .skip
theorem Nh : Ret C 15 a H R ↔ WP C 15 zD ⟨af a, 0, H⟩ (aK C Tryz.f15 H R) := aj rfl (by kernel_rfl) Tryz.func15 rfl
@[simp] theorem Rz : C.locs 15 = [2, 3] := by kernel_rfl
noncomputable def y7 := Tryz.f16.body.getD .skip
theorem MW : Ret C 16 a H R ↔ WP C 16 y7 ⟨af a, 0, H⟩ (aK C Tryz.f16 H R) := aj rfl (by kernel_rfl) Tryz.func16 rfl
@[simp] theorem SL : C.locs 16 = [2, 3] := by kernel_rfl
noncomputable def Df := Tryz.f17.body.getD .skip
theorem TQ : Ret C 17 a H R ↔ WP C 17 Df ⟨af a, 0, H⟩ (aK C Tryz.f17 H R) := aj rfl (by kernel_rfl) Tryz.func17 rfl
@[simp] theorem SK : C.locs 17 = [] := by kernel_rfl
noncomputable def zG := Tryz.f18.body.getD .skip
theorem Ry : Ret C 18 a H R ↔ WP C 18 zG ⟨af a, 0, H⟩ (aK C Tryz.f18 H R) := aj rfl (by kernel_rfl) Tryz.func18 rfl
@[simp] theorem TI : C.locs 18 = [] := by kernel_rfl
noncomputable def zC := Tryz.f19.body.getD .skip
theorem Rl : Ret C 19 a H R ↔ WP C 19 zC ⟨af a, 0, H⟩ (aK C Tryz.f19 H R) := aj rfl (by kernel_rfl) Tryz.func19 rfl
@[simp] theorem TL : C.locs 19 = [2] := by kernel_rfl
noncomputable def uV := Tryz.f20.body.getD .skip
theorem RI : Ret C 20 a H R ↔ WP C 20 uV ⟨af a, 0, H⟩ (aK C Tryz.f20 H R) := aj rfl (by kernel_rfl) Tryz.func20 rfl
@[simp] theorem Tc : C.locs 20 = [1] := by kernel_rfl
noncomputable def yI := Tryz.f21.body.getD .skip
theorem ML : Ret C 21 a H R ↔ WP C 21 yI ⟨af a, 0, H⟩ (aK C Tryz.f21 H R) := aj rfl (by kernel_rfl) Tryz.func21 rfl
@[simp] theorem Rj : C.locs 21 = [] := by kernel_rfl
noncomputable def mQ := Tryz.f36.body.getD .skip
theorem Nv : Ret C 36 a H R ↔ WP C 36 mQ ⟨af a, 0, H⟩ (aK C Tryz.f36 H R) := aj rfl (by kernel_rfl) Tryz.func36 rfl
@[simp] theorem Nz : C.locs 36 = [] := by kernel_rfl
noncomputable def DC := Tryz.f61.body.getD .skip
theorem Ov : Ret C 61 a H R ↔ WP C 61 DC ⟨af a, 0, H⟩ (aK C Tryz.f61 H R) := aj rfl (by kernel_rfl) Tryz.func61 rfl
@[simp] theorem Tf : C.locs 61 = [2, 3] := by kernel_rfl
noncomputable def D5 := Tryz.f75.body.getD .skip
theorem SI : Ret C 75 a H R ↔ WP C 75 D5 ⟨af a, 0, H⟩ (aK C Tryz.f75 H R) := aj rfl (by kernel_rfl) Tryz.func75 rfl
@[simp] theorem RJ : C.locs 75 = [] := by kernel_rfl
noncomputable def JM := Tryz.f76.body.getD .skip
theorem Sv : Ret C 76 a H R ↔ WP C 76 JM ⟨af a, 0, H⟩ (aK C Tryz.f76 H R) := aj rfl (by kernel_rfl) Tryz.func76 rfl
@[simp] theorem TK : C.locs 76 = [] := by kernel_rfl
noncomputable def Hy := Tryz.f77.body.getD .skip
theorem TR : Ret C 77 a H R ↔ WP C 77 Hy ⟨af a, 0, H⟩ (aK C Tryz.f77 H R) := aj rfl (by kernel_rfl) Tryz.func77 rfl
@[simp] theorem TS : C.locs 77 = [2, 3, 5] := by kernel_rfl
noncomputable def Ib := Tryz.f78.body.getD .skip
theorem RN : Ret C 78 a H R ↔ WP C 78 Ib ⟨af a, 0, H⟩ (aK C Tryz.f78 H R) := aj rfl (by kernel_rfl) Tryz.func78 rfl
@[simp] theorem Ro : C.locs 78 = [] := by kernel_rfl
noncomputable def zH := Tryz.f79.body.getD .skip
theorem Tv : Ret C 79 a H R ↔ WP C 79 zH ⟨af a, 0, H⟩ (aK C Tryz.f79 H R) := aj rfl (by kernel_rfl) Tryz.func79 rfl
@[simp] theorem Tz : C.locs 79 = [] := by kernel_rfl
noncomputable def Ii := Tryz.f80.body.getD .skip
theorem TJ : Ret C 80 a H R ↔ WP C 80 Ii ⟨af a, 0, H⟩ (aK C Tryz.f80 H R) := aj rfl (by kernel_rfl) Tryz.func80 rfl
@[simp] theorem TN : C.locs 80 = [] := by kernel_rfl
noncomputable def Jb := Tryz.f81.body.getD .skip
theorem Su : Ret C 81 a H R ↔ WP C 81 Jb ⟨af a, 0, H⟩ (aK C Tryz.f81 H R) := aj rfl (by kernel_rfl) Tryz.func81 rfl
@[simp] theorem Tm : C.locs 81 = [] := by kernel_rfl
noncomputable def IV := Tryz.f82.body.getD .skip
theorem TP : Ret C 82 a H R ↔ WP C 82 IV ⟨af a, 0, H⟩ (aK C Tryz.f82 H R) := aj rfl (by kernel_rfl) Tryz.func82 rfl
@[simp] theorem RU : C.locs 82 = [] := by kernel_rfl
noncomputable def Ij := Tryz.f83.body.getD .skip
theorem SA : Ret C 83 a H R ↔ WP C 83 Ij ⟨af a, 0, H⟩ (aK C Tryz.f83 H R) := aj rfl (by kernel_rfl) Tryz.func83 rfl
@[simp] theorem TC : C.locs 83 = [] := by kernel_rfl
noncomputable def zh := Tryz.f84.body.getD .skip
theorem SN : Ret C 84 a H R ↔ WP C 84 zh ⟨af a, 0, H⟩ (aK C Tryz.f84 H R) := aj rfl (by kernel_rfl) Tryz.func84 rfl
@[simp] theorem SY : C.locs 84 = [] := by kernel_rfl
noncomputable def vC := Tryz.f85.body.getD .skip
theorem Rq : Ret C 85 a H R ↔ WP C 85 vC ⟨af a, 0, H⟩ (aK C Tryz.f85 H R) := aj rfl (by kernel_rfl) Tryz.func85 rfl
@[simp] theorem Tn : C.locs 85 = [1, 4] := by kernel_rfl
noncomputable def pF := Tryz.f86.body.getD .skip
theorem RH : Ret C 86 a H R ↔ WP C 86 pF ⟨af a, 0, H⟩ (aK C Tryz.f86 H R) := aj rfl (by kernel_rfl) Tryz.func86 rfl
@[simp] theorem SG : C.locs 86 = [] := by kernel_rfl
noncomputable def D8 := Tryz.f87.body.getD .skip
theorem Rx : Ret C 87 a H R ↔ WP C 87 D8 ⟨af a, 0, H⟩ (aK C Tryz.f87 H R) := aj rfl (by kernel_rfl) Tryz.func87 rfl
@[simp] theorem RS : C.locs 87 = [2, 4] := by kernel_rfl
noncomputable def IE := Tryz.f88.body.getD .skip
theorem Sj : Ret C 88 a H R ↔ WP C 88 IE ⟨af a, 0, H⟩ (aK C Tryz.f88 H R) := aj rfl (by kernel_rfl) Tryz.func88 rfl
@[simp] theorem RZ : C.locs 88 = [] := by kernel_rfl
noncomputable def vP := Tryz.f89.body.getD .skip
theorem S9 : Ret C 89 a H R ↔ WP C 89 vP ⟨af a, 0, H⟩ (aK C Tryz.f89 H R) := aj rfl (by kernel_rfl) Tryz.func89 rfl
@[simp] theorem SC : C.locs 89 = [] := by kernel_rfl
noncomputable def IP := Tryz.f90.body.getD .skip
theorem RG : Ret C 90 a H R ↔ WP C 90 IP ⟨af a, 0, H⟩ (aK C Tryz.f90 H R) := aj rfl (by kernel_rfl) Tryz.func90 rfl
@[simp] theorem RY : C.locs 90 = [1, 2, 3] := by kernel_rfl
noncomputable def Jz := Tryz.f91.body.getD .skip
theorem Tu : Ret C 91 a H R ↔ WP C 91 Jz ⟨af a, 0, H⟩ (aK C Tryz.f91 H R) := aj rfl (by kernel_rfl) Tryz.func91 rfl
@[simp] theorem SE : C.locs 91 = [] := by kernel_rfl
noncomputable def IC := Tryz.f92.body.getD .skip
theorem TG : Ret C 92 a H R ↔ WP C 92 IC ⟨af a, 0, H⟩ (aK C Tryz.f92 H R) := aj rfl (by kernel_rfl) Tryz.func92 rfl
@[simp] theorem TU : C.locs 92 = [2] := by kernel_rfl
noncomputable def l9 := Tryz.f93.body.getD .skip
theorem Nc : Ret C 93 a H R ↔ WP C 93 l9 ⟨af a, 0, H⟩ (aK C Tryz.f93 H R) := aj rfl (by kernel_rfl) Tryz.func93 rfl
@[simp] theorem Na : C.locs 93 = [] := by kernel_rfl
noncomputable def JD := Tryz.f94.body.getD .skip
theorem RV : Ret C 94 a H R ↔ WP C 94 JD ⟨af a, 0, H⟩ (aK C Tryz.f94 H R) := aj rfl (by kernel_rfl) Tryz.func94 rfl
@[simp] theorem Rk : C.locs 94 = [] := by kernel_rfl
noncomputable def wB := Tryz.f95.body.getD .skip
theorem SH : Ret C 95 a H R ↔ WP C 95 wB ⟨af a, 0, H⟩ (aK C Tryz.f95 H R) := aj rfl (by kernel_rfl) Tryz.func95 rfl
@[simp] theorem Sr : C.locs 95 = [3, 6] := by kernel_rfl
noncomputable def BR := Tryz.f96.body.getD .skip
theorem NK : Ret C 96 a H R ↔ WP C 96 BR ⟨af a, 0, H⟩ (aK C Tryz.f96 H R) := aj rfl (by kernel_rfl) Tryz.func96 rfl
@[simp] theorem TE : C.locs 96 = [2, 3] := by kernel_rfl
noncomputable def yY := Tryz.f97.body.getD .skip
theorem Ru : Ret C 97 a H R ↔ WP C 97 yY ⟨af a, 0, H⟩ (aK C Tryz.f97 H R) := aj rfl (by kernel_rfl) Tryz.func97 rfl
@[simp] theorem TB : C.locs 97 = [2, 3, 6] := by kernel_rfl
noncomputable def qY := Tryz.f98.body.getD .skip
theorem NZ : Ret C 98 a H R ↔ WP C 98 qY ⟨af a, 0, H⟩ (aK C Tryz.f98 H R) := aj rfl (by kernel_rfl) Tryz.func98 rfl
@[simp] theorem TM : C.locs 98 = [] := by kernel_rfl
noncomputable def Du := Tryz.f99.body.getD .skip
theorem Td : Ret C 99 a H R ↔ WP C 99 Du ⟨af a, 0, H⟩ (aK C Tryz.f99 H R) := aj rfl (by kernel_rfl) Tryz.func99 rfl
@[simp] theorem SS : C.locs 99 = [] := by kernel_rfl
noncomputable def qc := Tryz.f100.body.getD .skip
theorem LW : Ret C 100 a H R ↔ WP C 100 qc ⟨af a, 0, H⟩ (aK C Tryz.f100 H R) := aj rfl (by kernel_rfl) Tryz.func100 rfl
@[simp] theorem QM : C.locs 100 = [2] := by kernel_rfl
noncomputable def Em := Tryz.f101.body.getD .skip
theorem Ot : Ret C 101 a H R ↔ WP C 101 Em ⟨af a, 0, H⟩ (aK C Tryz.f101 H R) := aj rfl (by kernel_rfl) Tryz.func101 rfl
@[simp] theorem P7 : C.locs 101 = [] := by kernel_rfl
noncomputable def EI := Tryz.f102.body.getD .skip
theorem Oj : Ret C 102 a H R ↔ WP C 102 EI ⟨af a, 0, H⟩ (aK C Tryz.f102 H R) := aj rfl (by kernel_rfl) Tryz.func102 rfl
@[simp] theorem QJ : C.locs 102 = [] := by kernel_rfl
noncomputable def zy := Tryz.f103.body.getD .skip
theorem O4 : Ret C 103 a H R ↔ WP C 103 zy ⟨af a, 0, H⟩ (aK C Tryz.f103 H R) := aj rfl (by kernel_rfl) Tryz.func103 rfl
@[simp] theorem PO : C.locs 103 = [] := by kernel_rfl
noncomputable def oh := Tryz.f106.body.getD .skip
theorem Pi : Ret C 106 a H R ↔ WP C 106 oh ⟨af a, 0, H⟩ (aK C Tryz.f106 H R) := aj rfl (by kernel_rfl) Tryz.func106 rfl
@[simp] theorem Q5 : C.locs 106 = [3, 6] := by kernel_rfl
noncomputable def EZ := Tryz.f109.body.getD .skip
theorem NF : Ret C 109 a H R ↔ WP C 109 EZ ⟨af a, 0, H⟩ (aK C Tryz.f109 H R) := aj rfl (by kernel_rfl) Tryz.func109 rfl
@[simp] theorem P9 : C.locs 109 = [3, 6, 7, 9] := by kernel_rfl
noncomputable def EL := Tryz.f115.body.getD .skip
theorem NG : Ret C 115 a H R ↔ WP C 115 EL ⟨af a, 0, H⟩ (aK C Tryz.f115 H R) := aj rfl (by kernel_rfl) Tryz.func115 rfl
@[simp] theorem QP : C.locs 115 = [2] := by kernel_rfl
noncomputable def qA := Tryz.f122.body.getD .skip
theorem IL : Ret C 122 a H R ↔ WP C 122 qA ⟨af a, 0, H⟩ (aK C Tryz.f122 H R) := aj rfl (by kernel_rfl) Tryz.func122 rfl
@[simp] theorem LC : C.locs 122 = [] := by kernel_rfl
noncomputable def qR := Tryz.f123.body.getD .skip
theorem Ip : Ret C 123 a H R ↔ WP C 123 qR ⟨af a, 0, H⟩ (aK C Tryz.f123 H R) := aj rfl (by kernel_rfl) Tryz.func123 rfl
@[simp] theorem KI : C.locs 123 = [] := by kernel_rfl
noncomputable def EM := Tryz.f128.body.getD .skip
theorem O0 : Ret C 128 a H R ↔ WP C 128 EM ⟨af a, 0, H⟩ (aK C Tryz.f128 H R) := aj rfl (by kernel_rfl) Tryz.func128 rfl
@[simp] theorem Rf : C.locs 128 = [1, 2, 3, 5] := by kernel_rfl
noncomputable def Fz := Tryz.f140.body.getD .skip
theorem Ou : Ret C 140 a H R ↔ WP C 140 Fz ⟨af a, 0, H⟩ (aK C Tryz.f140 H R) := aj rfl (by kernel_rfl) Tryz.func140 rfl
@[simp] theorem QF : C.locs 140 = [] := by kernel_rfl
noncomputable def zO := Tryz.f158.body.getD .skip
theorem OI : Ret C 158 a H R ↔ WP C 158 zO ⟨af a, 0, H⟩ (aK C Tryz.f158 H R) := aj rfl (by kernel_rfl) Tryz.func158 rfl
@[simp] theorem QK : C.locs 158 = [] := by kernel_rfl
noncomputable def zf := Tryz.f162.body.getD .skip
theorem O8 : Ret C 162 a H R ↔ WP C 162 zf ⟨af a, 0, H⟩ (aK C Tryz.f162 H R) := aj rfl (by kernel_rfl) Tryz.func162 rfl
@[simp] theorem Qj : C.locs 162 = [] := by kernel_rfl
noncomputable def tu := Tryz.f164.body.getD .skip
theorem NT : Ret C 164 a H R ↔ WP C 164 tu ⟨af a, 0, H⟩ (aK C Tryz.f164 H R) := aj rfl (by kernel_rfl) Tryz.func164 rfl
@[simp] theorem PU : C.locs 164 = [1] := by kernel_rfl
noncomputable def ES := Tryz.f176.body.getD .skip
theorem NY : Ret C 176 a H R ↔ WP C 176 ES ⟨af a, 0, H⟩ (aK C Tryz.f176 H R) := aj rfl (by kernel_rfl) Tryz.func176 rfl
@[simp] theorem QD : C.locs 176 = [] := by kernel_rfl
noncomputable def yl := Tryz.f177.body.getD .skip
theorem OV : Ret C 177 a H R ↔ WP C 177 yl ⟨af a, 0, H⟩ (aK C Tryz.f177 H R) := aj rfl (by kernel_rfl) Tryz.func177 rfl
@[simp] theorem Qp : C.locs 177 = [] := by kernel_rfl
noncomputable def pW := Tryz.f179.body.getD .skip
theorem JB : Ret C 179 a H R ↔ WP C 179 pW ⟨af a, 0, H⟩ (aK C Tryz.f179 H R) := aj rfl (by kernel_rfl) Tryz.func179 rfl
@[simp] theorem KG : C.locs 179 = [] := by kernel_rfl
noncomputable def sS := Tryz.f180.body.getD .skip
theorem OJ : Ret C 180 a H R ↔ WP C 180 sS ⟨af a, 0, H⟩ (aK C Tryz.f180 H R) := aj rfl (by kernel_rfl) Tryz.func180 rfl
@[simp] theorem Qd : C.locs 180 = [1] := by kernel_rfl
noncomputable def tH := Tryz.f181.body.getD .skip
theorem OE : Ret C 181 a H R ↔ WP C 181 tH ⟨af a, 0, H⟩ (aK C Tryz.f181 H R) := aj rfl (by kernel_rfl) Tryz.func181 rfl
@[simp] theorem PR : C.locs 181 = [] := by kernel_rfl
noncomputable def Fh := Tryz.f182.body.getD .skip
theorem NU : Ret C 182 a H R ↔ WP C 182 Fh ⟨af a, 0, H⟩ (aK C Tryz.f182 H R) := aj rfl (by kernel_rfl) Tryz.func182 rfl
@[simp] theorem Qe : C.locs 182 = [] := by kernel_rfl
noncomputable def x9 := Tryz.f183.body.getD .skip
theorem LZ : Ret C 183 a H R ↔ WP C 183 x9 ⟨af a, 0, H⟩ (aK C Tryz.f183 H R) := aj rfl (by kernel_rfl) Tryz.func183 rfl
@[simp] theorem QR : C.locs 183 = [] := by kernel_rfl
noncomputable def qi := Tryz.f184.body.getD .skip
theorem OZ : Ret C 184 a H R ↔ WP C 184 qi ⟨af a, 0, H⟩ (aK C Tryz.f184 H R) := aj rfl (by kernel_rfl) Tryz.func184 rfl
@[simp] theorem QT : C.locs 184 = [] := by kernel_rfl
noncomputable def iQ := Tryz.f185.body.getD .skip
theorem IR : Ret C 185 a H R ↔ WP C 185 iQ ⟨af a, 0, H⟩ (aK C Tryz.f185 H R) := aj rfl (by kernel_rfl) Tryz.func185 rfl
@[simp] theorem J9 : C.locs 185 = [] := by kernel_rfl
noncomputable def Ff := Tryz.f186.body.getD .skip
theorem O6 : Ret C 186 a H R ↔ WP C 186 Ff ⟨af a, 0, H⟩ (aK C Tryz.f186 H R) := aj rfl (by kernel_rfl) Tryz.func186 rfl
@[simp] theorem P5 : C.locs 186 = [] := by kernel_rfl
noncomputable def jJ := Tryz.f187.body.getD .skip
theorem Jn : Ret C 187 a H R ↔ WP C 187 jJ ⟨af a, 0, H⟩ (aK C Tryz.f187 H R) := aj rfl (by kernel_rfl) Tryz.func187 rfl
@[simp] theorem J7 : C.locs 187 = [] := by kernel_rfl
noncomputable def tJ := Tryz.f188.body.getD .skip
theorem LX : Ret C 188 a H R ↔ WP C 188 tJ ⟨af a, 0, H⟩ (aK C Tryz.f188 H R) := aj rfl (by kernel_rfl) Tryz.func188 rfl
@[simp] theorem QG : C.locs 188 = [] := by kernel_rfl
noncomputable def zo := Tryz.f189.body.getD .skip
theorem PE : Ret C 189 a H R ↔ WP C 189 zo ⟨af a, 0, H⟩ (aK C Tryz.f189 H R) := aj rfl (by kernel_rfl) Tryz.func189 rfl
@[simp] theorem QV : C.locs 189 = [8, 9] := by kernel_rfl
noncomputable def yM := Tryz.f190.body.getD .skip
theorem Mc : Ret C 190 a H R ↔ WP C 190 yM ⟨af a, 0, H⟩ (aK C Tryz.f190 H R) := aj rfl (by kernel_rfl) Tryz.func190 rfl
@[simp] theorem QN : C.locs 190 = [2, 3] := by kernel_rfl
noncomputable def yQ := Tryz.f191.body.getD .skip
theorem O3 : Ret C 191 a H R ↔ WP C 191 yQ ⟨af a, 0, H⟩ (aK C Tryz.f191 H R) := aj rfl (by kernel_rfl) Tryz.func191 rfl
@[simp] theorem Qb : C.locs 191 = [] := by kernel_rfl
noncomputable def zg := Tryz.f192.body.getD .skip
theorem Om : Ret C 192 a H R ↔ WP C 192 zg ⟨af a, 0, H⟩ (aK C Tryz.f192 H R) := aj rfl (by kernel_rfl) Tryz.func192 rfl
@[simp] theorem Rh : C.locs 192 = [] := by kernel_rfl
noncomputable def Fp := Tryz.f193.body.getD .skip
theorem OY : Ret C 193 a H R ↔ WP C 193 Fp ⟨af a, 0, H⟩ (aK C Tryz.f193 H R) := aj rfl (by kernel_rfl) Tryz.func193 rfl
@[simp] theorem QX : C.locs 193 = [] := by kernel_rfl
noncomputable def yL := Tryz.f194.body.getD .skip
theorem Px : Ret C 194 a H R ↔ WP C 194 yL ⟨af a, 0, H⟩ (aK C Tryz.f194 H R) := aj rfl (by kernel_rfl) Tryz.func194 rfl
@[simp] theorem P8 : C.locs 194 = [] := by kernel_rfl
noncomputable def EE := Tryz.f195.body.getD .skip
theorem OB : Ret C 195 a H R ↔ WP C 195 EE ⟨af a, 0, H⟩ (aK C Tryz.f195 H R) := aj rfl (by kernel_rfl) Tryz.func195 rfl
@[simp] theorem PY : C.locs 195 = [] := by kernel_rfl
noncomputable def uf := Tryz.f197.body.getD .skip
theorem NH : Ret C 197 a H R ↔ WP C 197 uf ⟨af a, 0, H⟩ (aK C Tryz.f197 H R) := aj rfl (by kernel_rfl) Tryz.func197 rfl
@[simp] theorem Qz : C.locs 197 = [] := by kernel_rfl
noncomputable def nV := Tryz.f198.body.getD .skip
theorem Pv : Ret C 198 a H R ↔ WP C 198 nV ⟨af a, 0, H⟩ (aK C Tryz.f198 H R) := aj rfl (by kernel_rfl) Tryz.func198 rfl
@[simp] theorem Qm : C.locs 198 = [3, 6] := by kernel_rfl
noncomputable def Es := Tryz.f200.body.getD .skip
theorem OT : Ret C 200 a H R ↔ WP C 200 Es ⟨af a, 0, H⟩ (aK C Tryz.f200 H R) := aj rfl (by kernel_rfl) Tryz.func200 rfl
@[simp] theorem Qn : C.locs 200 = [] := by kernel_rfl
noncomputable def mG := Tryz.f212.body.getD .skip
theorem IK : Ret C 212 a H R ↔ WP C 212 mG ⟨af a, 0, H⟩ (aK C Tryz.f212 H R) := aj rfl (by kernel_rfl) Tryz.func212 rfl
@[simp] theorem Ko : C.locs 212 = [] := by kernel_rfl
noncomputable def yc := Tryz.f216.body.getD .skip
theorem NI : Ret C 216 a H R ↔ WP C 216 yc ⟨af a, 0, H⟩ (aK C Tryz.f216 H R) := aj rfl (by kernel_rfl) Tryz.func216 rfl
@[simp] theorem Qk : C.locs 216 = [] := by kernel_rfl
noncomputable def tC := Tryz.f222.body.getD .skip
theorem Pn : Ret C 222 a H R ↔ WP C 222 tC ⟨af a, 0, H⟩ (aK C Tryz.f222 H R) := aj rfl (by kernel_rfl) Tryz.func222 rfl
@[simp] theorem QE : C.locs 222 = [] := by kernel_rfl
noncomputable def iL := Tryz.f238.body.getD .skip
theorem IU : Ret C 238 a H R ↔ WP C 238 iL ⟨af a, 0, H⟩ (aK C Tryz.f238 H R) := aj rfl (by kernel_rfl) Tryz.func238 rfl
@[simp] theorem Kq : C.locs 238 = [] := by kernel_rfl
noncomputable def uh := Tryz.f246.body.getD .skip
theorem Po : Ret C 246 a H R ↔ WP C 246 uh ⟨af a, 0, H⟩ (aK C Tryz.f246 H R) := aj rfl (by kernel_rfl) Tryz.func246 rfl
@[simp] theorem P6 : C.locs 246 = [2, 3] := by kernel_rfl
noncomputable def pY := Tryz.f249.body.getD .skip
theorem JC : Ret C 249 a H R ↔ WP C 249 pY ⟨af a, 0, H⟩ (aK C Tryz.f249 H R) := aj rfl (by kernel_rfl) Tryz.func249 rfl
@[simp] theorem KX : C.locs 249 = [] := by kernel_rfl
noncomputable def EG := Tryz.f250.body.getD .skip
theorem N9 : Ret C 250 a H R ↔ WP C 250 EG ⟨af a, 0, H⟩ (aK C Tryz.f250 H R) := aj rfl (by kernel_rfl) Tryz.func250 rfl
@[simp] theorem Qx : C.locs 250 = [] := by kernel_rfl
noncomputable def Ez := Tryz.f251.body.getD .skip
theorem Oh : Ret C 251 a H R ↔ WP C 251 Ez ⟨af a, 0, H⟩ (aK C Tryz.f251 H R) := aj rfl (by kernel_rfl) Tryz.func251 rfl
@[simp] theorem Q4 : C.locs 251 = [] := by kernel_rfl
noncomputable def Eo := Tryz.f252.body.getD .skip
theorem Oa : Ret C 252 a H R ↔ WP C 252 Eo ⟨af a, 0, H⟩ (aK C Tryz.f252 H R) := aj rfl (by kernel_rfl) Tryz.func252 rfl
@[simp] theorem QW : C.locs 252 = [1] := by kernel_rfl
@[simp] theorem Qr : C.locs 253 = [] := by kernel_rfl
@[simp] theorem PQ : C.locs 254 = [] := by kernel_rfl
noncomputable def EQ := Tryz.f255.body.getD .skip
theorem Pq : Ret C 255 a H R ↔ WP C 255 EQ ⟨af a, 0, H⟩ (aK C Tryz.f255 H R) := aj rfl (by kernel_rfl) Tryz.func255 rfl
@[simp] theorem PH : C.locs 255 = [2] := by kernel_rfl
noncomputable def ET := Tryz.f256.body.getD .skip
theorem O9 : Ret C 256 a H R ↔ WP C 256 ET ⟨af a, 0, H⟩ (aK C Tryz.f256 H R) := aj rfl (by kernel_rfl) Tryz.func256 rfl
@[simp] theorem QQ : C.locs 256 = [] := by kernel_rfl
noncomputable def Ey := Tryz.f257.body.getD .skip
theorem NJ : Ret C 257 a H R ↔ WP C 257 Ey ⟨af a, 0, H⟩ (aK C Tryz.f257 H R) := aj rfl (by kernel_rfl) Tryz.func257 rfl
@[simp] theorem Qq : C.locs 257 = [] := by kernel_rfl
@[simp] theorem QC : C.locs 258 = [] := by kernel_rfl
@[simp] theorem Q3 : C.locs 259 = [] := by kernel_rfl
noncomputable def yU := Tryz.f260.body.getD .skip
theorem LY : Ret C 260 a H R ↔ WP C 260 yU ⟨af a, 0, H⟩ (aK C Tryz.f260 H R) := aj rfl (by kernel_rfl) Tryz.func260 rfl
@[simp] theorem Q9 : C.locs 260 = [] := by kernel_rfl
noncomputable def EU := Tryz.f261.body.getD .skip
theorem OX : Ret C 261 a H R ↔ WP C 261 EU ⟨af a, 0, H⟩ (aK C Tryz.f261 H R) := aj rfl (by kernel_rfl) Tryz.func261 rfl
@[simp] theorem QA : C.locs 261 = [2] := by kernel_rfl
noncomputable def EP := Tryz.f263.body.getD .skip
theorem OO : Ret C 263 a H R ↔ WP C 263 EP ⟨af a, 0, H⟩ (aK C Tryz.f263 H R) := aj rfl (by kernel_rfl) Tryz.func263 rfl
@[simp] theorem QH : C.locs 263 = [] := by kernel_rfl
noncomputable def qG := Tryz.f264.body.getD .skip
theorem Jy : Ret C 264 a H R ↔ WP C 264 qG ⟨af a, 0, H⟩ (aK C Tryz.f264 H R) := aj rfl (by kernel_rfl) Tryz.func264 rfl
@[simp] theorem Lt : C.locs 264 = [] := by kernel_rfl
noncomputable def EC := Tryz.f265.body.getD .skip
theorem Pg : Ret C 265 a H R ↔ WP C 265 EC ⟨af a, 0, H⟩ (aK C Tryz.f265 H R) := aj rfl (by kernel_rfl) Tryz.func265 rfl
@[simp] theorem Ri : C.locs 265 = [] := by kernel_rfl
noncomputable def jE := Tryz.f270.body.getD .skip
theorem I7 : Ret C 270 a H R ↔ WP C 270 jE ⟨af a, 0, H⟩ (aK C Tryz.f270 H R) := aj rfl (by kernel_rfl) Tryz.func270 rfl
@[simp] theorem Lm : C.locs 270 = [] := by kernel_rfl
noncomputable def EY := Tryz.f274.body.getD .skip
theorem Oe : Ret C 274 a H R ↔ WP C 274 EY ⟨af a, 0, H⟩ (aK C Tryz.f274 H R) := aj rfl (by kernel_rfl) Tryz.func274 rfl
@[simp] theorem QS : C.locs 274 = [] := by kernel_rfl
noncomputable def qU := Tryz.f294.body.getD .skip
theorem Jg : Ret C 294 a H R ↔ WP C 294 qU ⟨af a, 0, H⟩ (aK C Tryz.f294 H R) := aj rfl (by kernel_rfl) Tryz.func294 rfl
@[simp] theorem KE : C.locs 294 = [] := by kernel_rfl
noncomputable def En := Tryz.f295.body.getD .skip
theorem Ph : Ret C 295 a H R ↔ WP C 295 En ⟨af a, 0, H⟩ (aK C Tryz.f295 H R) := aj rfl (by kernel_rfl) Tryz.func295 rfl
@[simp] theorem Q8 : C.locs 295 = [] := by kernel_rfl
noncomputable def EO := Tryz.f296.body.getD .skip
theorem N7 : Ret C 296 a H R ↔ WP C 296 EO ⟨af a, 0, H⟩ (aK C Tryz.f296 H R) := aj rfl (by kernel_rfl) Tryz.func296 rfl
@[simp] theorem PI : C.locs 296 = [] := by kernel_rfl
@[simp] theorem PX : C.locs 297 = [] := by kernel_rfl
@[simp] theorem Qv : C.locs 298 = [] := by kernel_rfl
@[simp] theorem Qi : C.locs 299 = [] := by kernel_rfl
@[simp] theorem PV : C.locs 315 = [9] := by kernel_rfl
@[simp] theorem Ql : C.locs 317 = [] := by kernel_rfl
@[simp] theorem PN : C.locs 331 = [] := by kernel_rfl
@[simp] theorem PW : C.locs 332 = [] := by kernel_rfl
@[simp] theorem Qw : C.locs 333 = [] := by kernel_rfl
@[simp] theorem Qa : C.locs 339 = [] := by kernel_rfl
@[simp] theorem Tt : C.ord 3 7 = some ⟨[0, 1, 2, 3, 4, 5, 6, 7, 8, 9, 11, 12, 10, 13, 14, 15, 16, 17, 18, 20, 21, 19, 22, 23, 24, 25, 26, 27, 29, 30, 28, 31, 32, 33, 34], [], [], [(0, 8), (1, 5), (8, 9), (9, 10), (11, 9), (12, 10), (17, 9), (18, 10), (20, 10), (21, 9), (26, 11), (29, 11)], [], [], []⟩ := by kernel_rfl
@[simp] theorem Q7 : C.ord 3 17 = none := by kernel_rfl
@[simp] theorem QY : C.ord 3 22 = some ⟨[0, 1, 2, 3, 4, 5, 6, 7, 8, 9, 10, 11, 12, 13, 14, 15, 16, 18, 19, 20, 21, 22, 23, 17, 24, 25, 26], [17], [23], [(1, 5), (10, 8), (12, 5), (19, 5)], [], [], []⟩ := by kernel_rfl
@[simp] theorem ER : C.ord 11 7 = some ⟨[0, 1, 2, 3, 4, 5, 6, 7, 8, 9, 10, 11, 12, 13, 14, 15, 16, 17], [13, 14], [4, 9, 11], [(1, 6), (6, 6)], [], [], []⟩ := by kernel_rfl
@[simp] theorem QO : C.ord 11 8 = some ⟨[0, 1, 2, 3], [], [], [(0, 5), (1, 6), (2, 2), (3, 3)], [], [], []⟩ := by kernel_rfl
@[simp] theorem PT : C.ord 12 3 = some ⟨[0, 1, 2, 3, 4], [], [], [(0, 5), (3, 2)], [], [], []⟩ := by kernel_rfl
@[simp] theorem QZ : C.ord 17 6 = none := by kernel_rfl
@[simp] theorem PK : C.ord 75 6 = none := by kernel_rfl
@[simp] theorem Qo : C.ord 76 5 = none := by kernel_rfl
@[simp] theorem PM : C.ord 77 5 = some ⟨[0, 1, 3, 6, 2, 4, 5, 7], [], [], [(0, 3), (7, 5)], [], [], []⟩ := by kernel_rfl
@[simp] theorem NP : C.ord 77 14 = some ⟨[0, 1, 2, 3, 5, 4, 6, 7, 8, 9, 10], [], [], [(1, 3), (10, 3)], [(3, 0), (5, 1)], [(4, [1])], []⟩ := by kernel_rfl
@[simp] theorem O1 : C.ord 77 17 = some ⟨[0, 1, 2, 3, 4, 5, 6], [], [], [(1, 3)], [], [], []⟩ := by kernel_rfl
@[simp] theorem O5 : C.ord 77 19 = some ⟨[0, 1, 2, 5, 3, 4, 6, 7, 8, 9, 10], [], [], [(1, 3), (10, 3)], [(5, 0)], [(3, [0])], []⟩ := by kernel_rfl
@[simp] theorem Qc : C.ord 79 4 = none := by kernel_rfl
@[simp] theorem Qu : C.ord 79 5 = none := by kernel_rfl
@[simp] theorem PS : C.ord 79 7 = none := by kernel_rfl
@[simp] theorem Qh : C.ord 79 8 = none := by kernel_rfl
@[simp] theorem PZ : C.ord 79 9 = none := by kernel_rfl
@[simp] theorem Qs : C.ord 85 6 = none := by kernel_rfl
@[simp] theorem PP : C.ord 90 5 = some ⟨[0, 1, 2, 3, 4, 5, 6, 7, 9, 10, 11, 12, 13, 14, 8, 15, 16, 17, 18, 19, 20], [8, 15], [7, 14], [(1, 3), (3, 1), (10, 1), (20, 3)], [], [], []⟩ := by kernel_rfl
@[simp] theorem QI : C.ord 94 4 = some ⟨[0, 1, 2, 3, 4, 5, 6, 7, 8, 9, 10, 11, 12, 13, 14, 15, 16, 17], [14], [9], [], [], [], []⟩ := by kernel_rfl
@[simp] theorem QL : C.ord 97 1 = some ⟨[0, 1, 3, 4, 2, 5, 6, 7, 8, 9, 10, 11, 12, 13, 14, 15], [], [], [(1, 2), (4, 3), (9, 2), (12, 3)], [], [], []⟩ := by kernel_rfl
@[simp] theorem Qg : C.ord 97 6 = some ⟨[0, 1, 2, 3, 4, 5, 6, 7, 8, 9, 10, 11, 12, 13], [11], [4, 9], [(1, 2), (6, 3), (12, 6)], [], [], []⟩ := by kernel_rfl
@[simp] theorem Pz : C.ord 97 12 = some ⟨[0, 1, 2, 3, 4, 6, 7, 8, 9, 10, 5, 11, 12], [5], [7, 10], [(1, 6)], [], [], []⟩ := by kernel_rfl
@[simp] theorem NV : C.ord 102 4 = none := by kernel_rfl
@[simp] theorem Oq : C.ord 128 5 = some ⟨[0, 1, 2, 3, 4, 5, 6, 7, 8, 9, 10, 11], [], [], [(1, 3), (3, 5), (5, 5), (11, 3)], [], [], []⟩ := by kernel_rfl
@[simp] theorem Ox : C.ord 140 5 = some ⟨[0, 1, 2, 3, 4, 5, 6, 7, 8, 9, 10, 11, 12, 13, 14, 15, 16], [14], [6], [], [], [], []⟩ := by kernel_rfl
@[simp] theorem OG : C.ord 162 6 = none := by kernel_rfl
@[simp] theorem Pm : C.ord 182 4 = none := by kernel_rfl
@[simp] theorem OQ : C.ord 193 4 = some ⟨[0, 1, 2, 3, 4, 5, 6, 7, 8, 9, 10, 11, 12, 13, 14, 16, 17, 18, 19, 15, 20, 21, 22, 23], [15], [19], [], [], [], []⟩ := by kernel_rfl
@[simp] theorem N8 : C.ord 195 1 = some ⟨[0, 2, 1, 3, 4], [1], [2], [], [], [], []⟩ := by kernel_rfl
@[simp] theorem OD : C.ord 198 6 = some ⟨[0, 1, 2, 3, 5, 6, 4, 7, 8, 9, 10], [], [], [(0, 3), (10, 6)], [(2, 0), (6, 1)], [(4, [1])], []⟩ := by kernel_rfl
@[simp] theorem OC : C.ord 200 6 = some ⟨[0, 1, 2, 3, 4, 5, 6, 7, 8, 10, 11, 12, 13, 9, 14, 15, 16], [9], [13], [], [], [], []⟩ := by kernel_rfl
@[simp] theorem AL : C.ord 246 3 = some ⟨[0, 1, 3, 4, 5, 6, 2, 7, 8, 9], [1, 2], [5], [(9, 3)], [(1, 0), (4, 1), (6, 2)], [(2, [1, 2]), (5, [0])], []⟩ := by kernel_rfl
@[simp] theorem OL : C.ord 263 5 = none := by kernel_rfl
end Go.Proofs.Try1
end
section
namespace Go.Lite
open Go
def wK (b : Str) : List V := b.map fun c => .int .u8 c.toNat
theorem yV {b : Str} : (wK b).length = b.length := by simp [wK]
theorem J8 {b : Str} {i : Nat} {c : UInt8} (h : b[i]? = some c) : (wK b)[i]? = some (.int .u8 c.toNat) := by simp [wK, h]
theorem Gy {c : UInt8} : gK (.int .u8 c.toNat) = some c := by
 simp [gK]
theorem iK : ∀ {b : Str}, (wK b).mapM gK = some b
 | [] => rfl
 | c :: b => by
  have := iK (b := b)
  simp only [wK, List.map_cons, List.mapM_cons, Gy] at this ⊢
  rw [this]
  rfl
theorem Ee {a b : Str} : wK (a ++ b) = wK a ++ wK b := by simp [wK]
theorem Jh {b : Str} {n : Nat} : (wK b).take n = wK (b.take n) := by simp [wK, List.map_take]
def Bs (H G : List Ob) (v : V) (b : Str) : Prop := ∃ T id, G = H ++ T ∧ H.length ≤ id ∧ G[id]? = some (.mk true 1 (wK b)) ∧ v = .slc (some (id, 0)) b.length
theorem Bs.init {H : List Ob} : Bs H (H ++ [.mk true 1 []]) (.slc (some (H.length, 0)) 0) [] := ⟨_, H.length, rfl, Nat.le_refl _, by simp [wK], rfl⟩
section
variable {H G : List Ob} {v : V} {b : Str}
theorem Bs.push (h : Bs H G v b) (hb : b.length ≤ 1000000000) {c : UInt8} {z : List V} {d : LD} (hz : z.length = 1) : ∃ v' G', aU ⟨d, 1, 1, z⟩ (G ++ [.mk true 1 [.int .u8 c.toNat]]) v (.slc (some (G.length, 0)) 1) = some (v', G') ∧ Bs H G' v' (b ++ [c]) := by
 obtain ⟨T, id, rfl, h1, h2, rfl⟩ := h
 have hid : id < (H ++ T).length := (List.getElem?_eq_some_iff.1 h2).1
 have hid' : id < H.length + T.length := by simpa using hid
 have hg : (H ++ T ++ [Ob.mk true 1 [.int .u8 c.toNat]])[id]? = some (.mk true 1 (wK b)) := by rw [List.getElem?_append_left hid]; exact h2
 have hnew : aQ ⟨d, 1, 1, z⟩ (H ++ T ++ [Ob.mk true 1 [.int .u8 c.toNat]]) (.slc (some ((H ++ T).length, 0)) 1) = some ([.int .u8 c.toNat], 1) := by
  simp only [aQ, Nat.mul_one, aO, get_last]
  rfl
 refine ⟨.slc (some ((H ++ T ++ [Ob.mk true 1 [.int .u8 c.toNat]]).length, 0)) (b.length + 1), (H ++ T ++ [Ob.mk true 1 [.int .u8 c.toNat]]).set id .dead ++ [.mk true 1 (wK b ++ [.int .u8 c.toNat])], ?_, ?_⟩
 ·unfold aU
  rw [if_pos (by simp [gV, hz]), hnew]
  simp only [Nat.one_ne_zero, if_false, List.all_cons, List.all_nil, ru, Bool.and_true, if_true, hg]
  have e1 : ¬ (0 + (b.length + 1) * 1 ≤ (wK b).length) := by rw [yV]; omega
  have e2 : (0 + b.length * 1 = (wK b).length ∨ b.length = 0 ∧ (wK b).length ≤ 0) ∧ (b.length + 1) * 1 ≤ ax := ⟨.inl (by rw [yV]; simp), by unfold ax; omega⟩
  rw [if_neg e1, if_pos e2, List.drop_zero]
 ·refine ⟨T.set (id - H.length) .dead ++ [.mk true 1 [.int .u8 c.toNat]] ++ [.mk true 1 (wK b ++ [.int .u8 c.toNat])], (H ++ T ++ [Ob.mk true 1 [.int .u8 c.toNat]]).length, ?_, by simp only [List.length_append]; omega, ?_, by simp⟩
  ·rw [List.append_assoc H T, List.set_append_right _ _ h1, List.set_append_left _ _ (by omega)]
   simp
  ·have hl : ((H ++ T ++ [Ob.mk true 1 [V.int .u8 c.toNat]]).set id .dead).length = (H ++ T ++ [Ob.mk true 1 [V.int .u8 c.toNat]]).length := List.length_set
   rw [← hl, get_last, Ee]
   rfl
theorem Bs.last (h : Bs H G v b) {d : UInt8} (hd : b.getLast? = some d) : ∃ id, v = .slc (some (id, 0)) b.length ∧ ∀ T : LT, T.one → ∀ r c, loadAt T ⟨r, c, G⟩ (.hp id (b.length - 1)) = some (.int .u8 d.toNat) := by
 obtain ⟨T, id, rfl, h1, h2, rfl⟩ := h
 refine ⟨id, rfl, dF h2 (J8 ?_)⟩
 rw [List.getLast?_eq_getElem?] at hd
 exact hd
theorem Bs.cut (h : Bs H G v b) {n : Nat} (hn : n ≤ b.length) : ∃ id, v = .slc (some (id, 0)) b.length ∧ bQ G id 1 = true ∧ aO G (some (id, 0)) n = some (wK (b.take n)) := by
 obtain ⟨T, id, rfl, h1, h2, rfl⟩ := h
 refine ⟨id, rfl, by simp [bQ, h2], ?_⟩
 simp only [aO, h2]
 by_cases h0 : n = 0
 ·subst h0; rfl
 ·rw [if_neg h0]
  unfold cO
  rw [if_pos (by rw [yV]; omega), List.drop_zero, Jh]
theorem Bs.ext (h : Bs H G v b) : ∃ T, G = H ++ T := by
 obtain ⟨T, id, h, _⟩ := h
 exact ⟨T, h⟩
theorem Bs.len (h : Bs H G v b) {e s n : Nat} {z : List V} : lenV ⟨.slice e, s, n, z⟩ v = some (.int .i64 b.length) := by
 obtain ⟨T, id, _, _, _, rfl⟩ := h
 rfl
end
abbrev shRdn : Sh := .st [.str, .str]
abbrev shAttr : Sh := .st [.str, .slice .str]
abbrev bK : Sh := .st [.slice shRdn, .slice shAttr]
abbrev LK : Sh := .st [.str, .slice .str, .slice .str, .slice .str]
structure PRdn where
 attr : Str
 value : Str
structure PAttr where
 name : Str
 vals : List Str
structure PEntry where
 dn : List PRdn
 attrs : List PAttr
structure PClass where
 name : Str
 must : List Str
 may : List Str
 single : List Str
abbrev kD (s : Str) : U := .str s
def PRdn.u (r : PRdn) : U := .st [.str r.attr, .str r.value]
def PAttr.u (a : PAttr) : U := .st [.str a.name, .lst (a.vals.map kD)]
def PEntry.u (e : PEntry) : U := .st [.lst (e.dn.map PRdn.u), .lst (e.attrs.map PAttr.u)]
def PClass.u (c : PClass) : U := .st [.str c.name, .lst (c.must.map kD), .lst (c.may.map kD), .lst (c.single.map kD)]
section
variable (H : List Ob)
def ASl {α : Type} (sh : Sh) (f : α → U) (v : V) (l : List α) : Prop := At H (.slice sh) [v] (.lst (l.map f))
abbrev AStrs (v : V) (l : List Str) : Prop := ASl H .str kD v l
abbrev aX (v : V) (l : List PRdn) : Prop := ASl H shRdn PRdn.u v l
abbrev aC (v : V) (l : List PAttr) : Prop := ASl H shAttr PAttr.u v l
end
section
variable {H H' T : List Ob} {v : V} {α : Type} {sh : Sh} {f : α → U} {l : List α}
theorem ASl.at (h : ASl H sh f v l) : At H (.slice sh) [v] (.lst (l.map f)) := h
theorem ASl.sl (h : ASl H sh f v l) : Sl H sh.size (At H sh) v (l.map f) := by
 obtain ⟨w, m, hw, hm, _, h⟩ := aG.1 h.at
 cases hw
 cases hm
 exact h
theorem ASl.bound (h : ASl H sh f v l) : l.length ≤ maxLen := by
 obtain ⟨w, m, hw, hm, h, _⟩ := aG.1 h.at
 cases hm
 simpa using h
theorem ASl.len (h : ASl H sh f v l) {e s b : Nat} {z : List V} : lenV ⟨.slice e, s, b, z⟩ v = some (.int .i64 l.length) := by
 have := h.sl.len (e := e) (s := s) (b := b) (z := z)
 simpa using this
theorem ASl.one (h : ASl H sh f v l) : aI v = true ∧ cellsOf v = some [v] := h.sl.one
theorem ASl.ext (h : ASl H sh f v l) : ASl (H ++ T) sh f v l := At.ext h
theorem ASl.up (h : ASl H sh f v l) (hH : ∀ (id : Nat) o, H[id]? = some o → H'[id]? = some o) : ASl H' sh f v l := At.up hH _ h
theorem ASl.idx (h : ASl H sh f v l) {i : Nat} {x : α} (hx : l[i]? = some x) (hs : sh.size ≠ 0) : ∃ id o own cells,
  (∀ (e s b : Nat) (z : List V) (ty : Nat → LT) (k : IntKind), (ty e).size = sh.size → dQ ⟨.slice e, s, b, z⟩ ty (.val v) (.int k i) = some (.val (.ptr (some (id, o))))) ∧
  H[id]? = some (.mk own sh.size cells) ∧ o + sh.size ≤ cells.length ∧ At H sh ((cells.drop o).take sh.size) (f x) :=
 h.sl.idx (by rw [List.getElem?_map, hx]; rfl) hs
theorem Sl.typed (hf : ∀ cs u, At H sh cs u → ∃ x : α, u = f x) {us : List U} {n : Nat} (h : Sl H n (At H sh) v us) : ∃ l : List α, us = l.map f := by
 have h2 : ∀ u ∈ us, ∃ x : α, u = f x := by
  intro u hu
  rcases h with ⟨_, rfl⟩ | ⟨id, off, own, cells, _, _, _, h4⟩
  ·cases hu
  ·obtain ⟨i, hi, rfl⟩ := List.getElem_of_mem hu
   exact hf _ _ (h4 i _ (List.getElem?_eq_getElem hi))
 clear h
 induction us with
 | nil => exact ⟨[], rfl⟩
 | cons u us ih =>
  obtain ⟨x, rfl⟩ := h2 u List.mem_cons_self
  obtain ⟨l, rfl⟩ := ih fun w hw => h2 w (List.mem_cons_of_mem _ hw)
  exact ⟨x :: l, rfl⟩
theorem ASl.typed (hf : ∀ cs u, At H sh cs u → ∃ x : α, u = f x) {cs : List V} {u : U} (h : At H (.slice sh) cs u) : ∃ v l, cs = [v] ∧ u = .lst (l.map f) ∧ ASl H sh f v l := by
 have h0 := h
 obtain ⟨v, us, rfl, rfl, _, hs⟩ := aG.1 h
 obtain ⟨l, rfl⟩ := Sl.typed hf hs
 exact ⟨v, l, rfl, rfl, h0⟩
theorem BX {cs : List V} {u : U} (h : At H (.slice .str) cs u) : ∃ v l, cs = [v] ∧ u = .lst (l.map kD) ∧ AStrs H v l :=
 ASl.typed (fun cs u h => by obtain ⟨s, _, rfl, _⟩ := dw.1 h; exact ⟨s, rfl⟩) h
theorem uo {cs : List V} {r : PRdn} : At H shRdn cs r.u ↔ cs = [.str r.attr, .str r.value] ∧ r.attr.length ≤ maxLen ∧ r.value.length ≤ maxLen := by
 constructor
 ·intro h
  obtain ⟨us, hu, h⟩ := jC.1 h
  cases hu
  obtain ⟨c1, c2, u1, us1, rfl, hu, h1, h⟩ := bn.1 h
  cases hu
  obtain ⟨c3, c4, u2, us2, rfl, hu, h2, h⟩ := bn.1 h
  cases hu
  obtain ⟨rfl, _⟩ := eH.1 h
  obtain ⟨s, rfl, hs, w1⟩ := dw.1 h1
  cases hs
  obtain ⟨s, rfl, hs, w2⟩ := dw.1 h2
  cases hs
  exact ⟨rfl, w1, w2⟩
 ·rintro ⟨rfl, h1, h2⟩
  exact jC.2 ⟨_, rfl, bn.2 ⟨[_], _, _, _, rfl, rfl, dw.2 ⟨_, rfl, rfl, h1⟩, bn.2 ⟨[_], _, _, _, rfl, rfl, dw.2 ⟨_, rfl, rfl, h2⟩, eH.2 ⟨rfl, rfl⟩⟩⟩⟩
theorem Gi {cs : List V} {u : U} (h : At H shRdn cs u) : ∃ r : PRdn, u = r.u := by
 replace h := jC.1 h
 obtain ⟨us, rfl, h⟩ := h
 obtain ⟨c1, c2, u1, us1, rfl, rfl, h1, h⟩ := bn.1 h
 obtain ⟨c3, c4, u2, us2, rfl, rfl, h2, h⟩ := bn.1 h
 obtain ⟨rfl, rfl⟩ := eH.1 h
 obtain ⟨s, rfl, rfl, w1⟩ := dw.1 h1
 obtain ⟨t, rfl, rfl, w2⟩ := dw.1 h2
 exact ⟨⟨s, t⟩, rfl⟩
theorem nZ {cs : List V} {a : PAttr} : At H shAttr cs a.u ↔ ∃ v, cs = [.str a.name, v] ∧ a.name.length ≤ maxLen ∧ AStrs H v a.vals := by
 constructor
 ·intro h
  obtain ⟨us, hu, h⟩ := jC.1 h
  cases hu
  obtain ⟨c1, c2, u1, us1, rfl, hu, h1, h⟩ := bn.1 h
  cases hu
  obtain ⟨c3, c4, u2, us2, rfl, hu, h2, h⟩ := bn.1 h
  cases hu
  obtain ⟨rfl, _⟩ := eH.1 h
  obtain ⟨s, rfl, hs, w1⟩ := dw.1 h1
  cases hs
  obtain ⟨v, _, rfl, _⟩ := aG.1 h2
  exact ⟨v, rfl, w1, h2⟩
 ·rintro ⟨v, rfl, h1, h2⟩
  exact jC.2 ⟨_, rfl, bn.2 ⟨[_], _, _, _, rfl, rfl, dw.2 ⟨_, rfl, rfl, h1⟩, bn.2 ⟨[_], _, _, _, rfl, rfl, h2, eH.2 ⟨rfl, rfl⟩⟩⟩⟩
theorem Cb {cs : List V} {u : U} (h : At H shAttr cs u) : ∃ r : PAttr, u = r.u := by
 replace h := jC.1 h
 obtain ⟨us, rfl, h⟩ := h
 obtain ⟨c1, c2, u1, us1, rfl, rfl, h1, h⟩ := bn.1 h
 obtain ⟨c3, c4, u2, us2, rfl, rfl, h2, h⟩ := bn.1 h
 obtain ⟨rfl, rfl⟩ := eH.1 h
 obtain ⟨s, rfl, rfl, w1⟩ := dw.1 h1
 obtain ⟨v, l, rfl, rfl, _⟩ := BX h2
 exact ⟨⟨s, l⟩, rfl⟩
theorem fC {cs : List V} {e : PEntry} : At H bK cs e.u ↔ ∃ v1 v2, cs = [v1, v2] ∧ aX H v1 e.dn ∧ aC H v2 e.attrs := by
 constructor
 ·intro h
  obtain ⟨us, hu, h⟩ := jC.1 h
  cases hu
  obtain ⟨c1, c2, u1, us1, rfl, hu, h1, h⟩ := bn.1 h
  cases hu
  obtain ⟨c3, c4, u2, us2, rfl, hu, h2, h⟩ := bn.1 h
  cases hu
  obtain ⟨rfl, _⟩ := eH.1 h
  obtain ⟨v1, _, rfl, _⟩ := aG.1 h1
  obtain ⟨v2, _, rfl, _⟩ := aG.1 h2
  exact ⟨v1, v2, rfl, h1, h2⟩
 ·rintro ⟨v1, v2, rfl, h1, h2⟩
  exact jC.2 ⟨_, rfl, bn.2 ⟨[_], _, _, _, rfl, rfl, h1, bn.2 ⟨[_], _, _, _, rfl, rfl, h2, eH.2 ⟨rfl, rfl⟩⟩⟩⟩
theorem Ak {cs : List V} {u : U} (h : At H bK cs u) : ∃ r : PEntry, u = r.u := by
 replace h := jC.1 h
 obtain ⟨us, rfl, h⟩ := h
 obtain ⟨c1, c2, u1, us1, rfl, rfl, h1, h⟩ := bn.1 h
 obtain ⟨c3, c4, u2, us2, rfl, rfl, h2, h⟩ := bn.1 h
 obtain ⟨rfl, rfl⟩ := eH.1 h
 obtain ⟨v, l, rfl, rfl, _⟩ := ASl.typed (fun _ _ => Gi) h1
 obtain ⟨v', l', rfl, rfl, _⟩ := ASl.typed (fun _ _ => Cb) h2
 exact ⟨⟨l, l'⟩, rfl⟩
theorem cZ {xs : List Str} (h : AStrs H v xs) {i : Nat} {s : Str} (hx : xs[i]? = some s) : ∃ id o,
  (∀ (e s b : Nat) (z : List V) (ty : Nat → LT) (k : IntKind), (ty e).size = 1 → dQ ⟨.slice e, s, b, z⟩ ty (.val v) (.int k i) = some (.val (.ptr (some (id, o))))) ∧
  (∀ T : LT, T.one → ∀ r c, loadAt T ⟨r, c, H⟩ (.hp id o) = some (.str s)) ∧ s.length ≤ maxLen := by
 obtain ⟨id, o, own, cells, e1, e2, e3, e4⟩ := ASl.idx h hx (by decide)
 obtain ⟨t, e4, ht, e5⟩ := dw.1 e4
 cases ht
 exact ⟨id, o, e1, dF e2 (by simpa using dm e4 (j := 0) rfl), e5⟩
theorem wu {xs : List PRdn} (h : aX H v xs) {i : Nat} {x : PRdn} (hx : xs[i]? = some x) : ∃ id o,
  (∀ (e s b : Nat) (z : List V) (ty : Nat → LT) (k : IntKind), (ty e).size = 2 → dQ ⟨.slice e, s, b, z⟩ ty (.val v) (.int k i) = some (.val (.ptr (some (id, o))))) ∧
  (∀ T : LT, T.one → ∀ r c, loadAt T ⟨r, c, H⟩ (.hp id o) = some (.str x.attr)) ∧ (∀ T : LT, T.one → ∀ r c, loadAt T ⟨r, c, H⟩ (.hp id (o + 1)) = some (.str x.value)) ∧
  (∀ T : LT, T.many 2 → ∀ r c, loadAt T ⟨r, c, H⟩ (.hp id o) = some (.agg [.str x.attr, .str x.value])) ∧ At H shRdn [.str x.attr, .str x.value] x.u := by
 obtain ⟨id, o, own, cells, e1, e2, e3, e4⟩ := ASl.idx h hx (by decide)
 have e6 := e4
 obtain ⟨e4, e5⟩ := uo.1 e4
 rw [e4] at e6
 exact ⟨id, o, e1, dF e2 (by simpa using dm e4 (j := 0) rfl), dF e2 (by simpa using dm e4 (j := 1) rfl), rO e2 e3 (by decide) e4, e6⟩
theorem dX {xs : List PAttr} (h : aC H v xs) {i : Nat} {x : PAttr} (hx : xs[i]? = some x) : ∃ id o w,
  (∀ (e s b : Nat) (z : List V) (ty : Nat → LT) (k : IntKind), (ty e).size = 2 → dQ ⟨.slice e, s, b, z⟩ ty (.val v) (.int k i) = some (.val (.ptr (some (id, o))))) ∧
  (∀ T : LT, T.one → ∀ r c, loadAt T ⟨r, c, H⟩ (.hp id o) = some (.str x.name)) ∧ (∀ T : LT, T.one → ∀ r c, loadAt T ⟨r, c, H⟩ (.hp id (o + 1)) = some w) ∧
  (∀ T : LT, T.many 2 → ∀ r c, loadAt T ⟨r, c, H⟩ (.hp id o) = some (.agg [.str x.name, w])) ∧ AStrs H w x.vals ∧ At H shAttr [.str x.name, w] x.u ∧ x.name.length ≤ maxLen := by
 obtain ⟨id, o, own, cells, e1, e2, e3, e4⟩ := ASl.idx h hx (by decide)
 have e6 := e4
 obtain ⟨w, e4, e7, e5⟩ := nZ.1 e4
 rw [e4] at e6
 exact ⟨id, o, w, e1, dF e2 (by simpa using dm e4 (j := 0) rfl), dF e2 (by simpa using dm e4 (j := 1) rfl), rO e2 e3 (by decide) e4, e5, e6, e7⟩
end
end Go.Lite
end
