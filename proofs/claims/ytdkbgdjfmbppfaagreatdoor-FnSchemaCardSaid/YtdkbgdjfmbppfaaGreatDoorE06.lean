/- Part 06 of the proof of a law: the interpreter, its soundness, and what functions of the program compute over it. Conditions: none but those that each theorem names. -/
import Derived.Test.YtdkbgdjfmbppfaaGreatDoorE05
import Derived.Sort.Defs
import Derived.Lib.BitFns
import Derived.Test.YtdkbgdjfmbppfaaGreatDoorE01
import Derived.Lib.Bytealg
import Derived.Test.YtdkbgdjfmbppfaaGreatDoorProg
import Derived.KernelRfl

set_option linter.all false
set_option maxRecDepth 20000
set_option maxHeartbeats 40000000
section
namespace Go.Lite
open Go
theorem Sh.size_int {k : IntKind} : (Sh.int k).size = 1 := rfl
theorem Sh.size_bool : Sh.bool.size = 1 := rfl
theorem Sh.size_str : Sh.str.size = 1 := rfl
theorem Sh.size_slice {e : Sh} : (Sh.slice e).size = 1 := rfl
theorem Sh.size_st {fs : List Sh} : (Sh.st fs).size = Sh.sizes fs := rfl
theorem Sh.sizes_nil : Sh.sizes [] = 0 := rfl
theorem Sh.sizes_cons {f : Sh} {fs : List Sh} : Sh.sizes (f :: fs) = f.size + Sh.sizes fs := rfl
attribute [simp] Sh.size_int Sh.size_bool Sh.size_str Sh.size_slice Sh.size_st Sh.sizes_nil Sh.sizes_cons
def LT.one (T : LT) : Prop := T.size = 1 ∧ T.isAgg = false
def LT.many (T : LT) (n : Nat) : Prop := T.size = n ∧ T.isAgg = true
section
variable {b e : Nat} {z : List V}
theorem Ld {k : IntKind} : LT.one ⟨.int k, 1, b, z⟩ := ⟨rfl, rfl⟩
theorem Jh : LT.one ⟨.bool, 1, b, z⟩ := ⟨rfl, rfl⟩
theorem zN : LT.one ⟨.str, 1, b, z⟩ := ⟨rfl, rfl⟩
theorem KQ : LT.one ⟨.ptr, 1, b, z⟩ := ⟨rfl, rfl⟩
theorem IM : LT.one ⟨.func, 1, b, z⟩ := ⟨rfl, rfl⟩
theorem GZ : LT.one ⟨.iface, 1, b, z⟩ := ⟨rfl, rfl⟩
theorem Hr : LT.one ⟨.slice e, 1, b, z⟩ := ⟨rfl, rfl⟩
theorem AB {fs : List (Nat × Nat)} {n m : Nat} : LT.many ⟨.struct fs, n, b, z⟩ m ↔ n = m := ⟨fun h => h.1, fun h => ⟨h, rfl⟩⟩
theorem Ed {k n m : Nat} : LT.many ⟨.array k e, n, b, z⟩ m ↔ n = m := ⟨fun h => h.1, fun h => ⟨h, rfl⟩⟩
end
attribute [simp] Ld Jh zN KQ IM GZ Hr AB Ed
section
variable {H : List Ob}
theorem bM {id o es : Nat} {own : Bool} {cells : List V} {v : V} (h : H[id]? = some (.mk own es cells)) (hc : cells[o]? = some v) : ∀ T : LT, T.one → ∀ r c, loadAt T ⟨r, c, H⟩ (.hp id o) = some v :=
 fun T hT => IQ h hc (by rw [hT.1]; decide) hT.2
theorem pF {id o es n : Nat} {own : Bool} {cells l : List V} (h : H[id]? = some (.mk own es cells)) (hl : o + n ≤ cells.length) (hn : n ≠ 0) (hc : (cells.drop o).take n = l) : ∀ T : LT, T.many n → ∀ r c, loadAt T ⟨r, c, H⟩ (.hp id o) = some (.agg l) :=
 fun T hT => I4 h (by rw [hT.1]; exact hl) (by rw [hT.1]; exact hc) (by rw [hT.1]; exact hn) hT.2
theorem store1 {id o es : Nat} {cells : List V} {v : V} (h : H[id]? = some (.mk true es cells)) (ho : o < cells.length) (hv : cellsOf v = some [v]) (h1 : aJ v = true) : ∀ T : LT, T.one → ∀ r c, storeAt T ⟨r, c, H⟩ (.hp id o) v = some ⟨r, c, H.set id (.mk true es (cells.set o v))⟩ :=
 fun T hT => store_one h ho hT.1 hv h1
theorem MF {id o es : Nat} {cells l : List V} (h : H[id]? = some (.mk true es cells)) (ho : o + l.length ≤ cells.length) (hp : l ≠ []) (h1 : l.all aJ = true) : ∀ T : LT, T.many l.length → ∀ r c, storeAt T ⟨r, c, H⟩ (.hp id o) (.agg l) = some ⟨r, c, H.set id (.mk true es (setRange cells o l))⟩ :=
 fun T hT => Hu h ho hT.1 hp h1
end
inductive U where
 | int (n : Int)
 | bool (b : Bool)
 | str (s : Str)
 | lst (l : List U)
 | st (l : List U)
mutual
def At (H : List Ob) : Sh → (List V → U → Prop)
 | .int k => fun cs u => ∃ n, cs = [.int k n] ∧ u = .int n ∧ (Lit.int k n).wf = true
 | .bool => fun cs u => ∃ b, cs = [.bool b] ∧ u = .bool b
 | .str => fun cs u => ∃ s, cs = [.str s] ∧ u = .str s ∧ s.length ≤ maxLen
 | .slice e => fun cs u => ∃ v l, cs = [v] ∧ u = .lst l ∧ l.length ≤ maxLen ∧ Sl H e.size (At H e) v l
 | .st fs => fun cs u => ∃ us, u = .st us ∧ Ats H fs cs us
def Ats (H : List Ob) : List Sh → (List V → List U → Prop)
 | [] => fun cs us => cs = [] ∧ us = []
 | f :: fs => fun cs us => ∃ c1 c2 u us', cs = c1 ++ c2 ∧ us = u :: us' ∧ At H f c1 u ∧ Ats H fs c2 us'
end
section
variable {H : List Ob} {cs : List V} {u : U}
theorem nY {k : IntKind} : At H (.int k) cs u ↔ ∃ n, cs = [.int k n] ∧ u = .int n ∧ (Lit.int k n).wf = true := by simp only [At]
theorem uF : At H .bool cs u ↔ ∃ b, cs = [.bool b] ∧ u = .bool b := by simp only [At]
theorem ed : At H .str cs u ↔ ∃ s, cs = [.str s] ∧ u = .str s ∧ s.length ≤ maxLen := by simp only [At]
theorem aC {e : Sh} : At H (.slice e) cs u ↔ ∃ v l, cs = [v] ∧ u = .lst l ∧ l.length ≤ maxLen ∧ Sl H e.size (At H e) v l := by simp only [At]
theorem kS {fs : List Sh} : At H (.st fs) cs u ↔ ∃ us, u = .st us ∧ Ats H fs cs us := by simp only [At]
theorem fV {us : List U} : Ats H [] cs us ↔ cs = [] ∧ us = [] := by simp only [Ats]
theorem bn {f : Sh} {fs : List Sh} {us : List U} : Ats H (f :: fs) cs us ↔ ∃ c1 c2 u us', cs = c1 ++ c2 ∧ us = u :: us' ∧ At H f c1 u ∧ Ats H fs c2 us' := by simp only [Ats]
end
def SlF {α : Type} (H : List Ob) (es : Nat) (R : List V → α → List Nat → Prop) (v : V) (xs : List α) (F : List Nat) : Prop :=
 (v = .slc none 0 ∧ xs = [] ∧ F = []) ∨ ∃ (id off : Nat) (cells : List V) (Fs : List (List Nat)), v = .slc (some (id, off)) xs.length ∧ H[id]? = some (.mk true es cells) ∧ off + xs.length * es ≤ cells.length ∧
  Fs.length = xs.length ∧ F = id :: Fs.flatten ∧ ∀ i x G, xs[i]? = some x → Fs[i]? = some G → R ((cells.drop (off + i * es)).take es) x G
mutual
def AtF (H : List Ob) : Sh → (List V → U → List Nat → Prop)
 | .int k => fun cs u F => (∃ n, cs = [.int k n] ∧ u = .int n ∧ (Lit.int k n).wf = true) ∧ F = []
 | .bool => fun cs u F => (∃ b, cs = [.bool b] ∧ u = .bool b) ∧ F = []
 | .str => fun cs u F => (∃ s, cs = [.str s] ∧ u = .str s ∧ s.length ≤ maxLen) ∧ F = []
 | .slice e => fun cs u F => ∃ v l, cs = [v] ∧ u = .lst l ∧ l.length ≤ maxLen ∧ SlF H e.size (AtF H e) v l F
 | .st fs => fun cs u F => ∃ us, u = .st us ∧ AtsF H fs cs us F
def AtsF (H : List Ob) : List Sh → (List V → List U → List Nat → Prop)
 | [] => fun cs us F => cs = [] ∧ us = [] ∧ F = []
 | f :: fs => fun cs us F => ∃ c1 c2 u us' F1 F2, cs = c1 ++ c2 ∧ us = u :: us' ∧ F = F1 ++ F2 ∧ AtF H f c1 u F1 ∧ AtsF H fs c2 us' F2
end
section
variable {H : List Ob} {cs : List V} {u : U} {F : List Nat}
theorem zT {k : IntKind} : AtF H (.int k) cs u F ↔ (∃ n, cs = [.int k n] ∧ u = .int n ∧ (Lit.int k n).wf = true) ∧ F = [] := by simp only [AtF]
theorem vV : AtF H .bool cs u F ↔ (∃ b, cs = [.bool b] ∧ u = .bool b) ∧ F = [] := by simp only [AtF]
theorem qK : AtF H .str cs u F ↔ (∃ s, cs = [.str s] ∧ u = .str s ∧ s.length ≤ maxLen) ∧ F = [] := by simp only [AtF]
theorem eG {e : Sh} : AtF H (.slice e) cs u F ↔ ∃ v l, cs = [v] ∧ u = .lst l ∧ l.length ≤ maxLen ∧ SlF H e.size (AtF H e) v l F := by simp only [AtF]
theorem uY {fs : List Sh} : AtF H (.st fs) cs u F ↔ ∃ us, u = .st us ∧ AtsF H fs cs us F := by simp only [AtF]
theorem Bg {us : List U} : AtsF H [] cs us F ↔ cs = [] ∧ us = [] ∧ F = [] := by simp only [AtsF]
theorem jf {f : Sh} {fs : List Sh} {us : List U} : AtsF H (f :: fs) cs us F ↔ ∃ c1 c2 u us' F1 F2, cs = c1 ++ c2 ∧ us = u :: us' ∧ F = F1 ++ F2 ∧ AtF H f c1 u F1 ∧ AtsF H fs c2 us' F2 := by simp only [AtsF]
end
theorem Ret.eq {C : Ctx} {g : Nat} {a : List V} {H : List Ob} {x : V} (h : Ret C g a H fun r H' => r = x ∧ H' = H) : callW C g a H = some (x, H) := by
 obtain ⟨r, H', hc, rfl, rfl⟩ := h
 exact hc
section
variable {H H' T : List Ob}
theorem Sl.map {α : Type} {es : Nat} {R R' : List V → α → Prop} {v : V} {xs : List α} (h : Sl H es R v xs) (hH : ∀ (id : Nat) o, H[id]? = some o → H'[id]? = some o) (hR : ∀ cs x, R cs x → R' cs x) : Sl H' es R' v xs := by
 rcases h with h | ⟨id, off, own, cells, h1, h2, h3, h4⟩
 ·exact .inl h
 ·exact .inr ⟨id, off, own, cells, h1, hH _ _ h2, h3, fun i x hx => hR _ _ (h4 i x hx)⟩
mutual
theorem At.up (hH : ∀ (id : Nat) o, H[id]? = some o → H'[id]? = some o) : ∀ (sh : Sh) {cs : List V} {u : U}, At H sh cs u → At H' sh cs u
 | .int k, _, _, h => h
 | .bool, _, _, h => h
 | .str, _, _, h => h
 | .slice e, _, _, h => by
  simp only [At] at h ⊢
  obtain ⟨v, l, h1, h2, h3, h4⟩ := h
  exact ⟨v, l, h1, h2, h3, h4.map hH fun _ _ h => At.up hH e h⟩
 | .st fs, _, _, h => by
  simp only [At] at h ⊢
  obtain ⟨us, h1, h2⟩ := h
  exact ⟨us, h1, Ats.up hH fs h2⟩
theorem Ats.up (hH : ∀ (id : Nat) o, H[id]? = some o → H'[id]? = some o) : ∀ (fs : List Sh) {cs : List V} {us : List U}, Ats H fs cs us → Ats H' fs cs us
 | [], _, _, h => h
 | f :: fs, _, _, h => by
  simp only [Ats] at h ⊢
  obtain ⟨c1, c2, u, us', h1, h2, h3, h4⟩ := h
  exact ⟨c1, c2, u, us', h1, h2, At.up hH f h3, Ats.up hH fs h4⟩
end
theorem aW : ∀ (id : Nat) o, H[id]? = some o → (H ++ T)[id]? = some o := fun id o h => by
 rw [List.getElem?_append_left (List.getElem?_eq_some_iff.1 h).1]; exact h
theorem At.ext {sh : Sh} {cs : List V} {u : U} (h : At H sh cs u) : At (H ++ T) sh cs u := h.up aW
mutual
theorem At.len : ∀ (sh : Sh) {cs : List V} {u : U}, At H sh cs u → cs.length = sh.size
 | .int k, _, _, h => by simp only [At] at h; obtain ⟨n, rfl, _⟩ := h; rfl
 | .bool, _, _, h => by simp only [At] at h; obtain ⟨n, rfl, _⟩ := h; rfl
 | .str, _, _, h => by simp only [At] at h; obtain ⟨n, rfl, _⟩ := h; rfl
 | .slice e, _, _, h => by simp only [At] at h; obtain ⟨v, l, rfl, _⟩ := h; rfl
 | .st fs, _, _, h => by
  simp only [At] at h
  obtain ⟨us, _, h2⟩ := h
  rw [Ats.len fs h2, Sh.size]
theorem Ats.len : ∀ (fs : List Sh) {cs : List V} {us : List U}, Ats H fs cs us → cs.length = Sh.sizes fs
 | [], _, _, h => by simp only [Ats] at h; rw [h.1]; rfl
 | f :: fs, _, _, h => by
  simp only [Ats] at h
  obtain ⟨c1, c2, u, us', rfl, _, h3, h4⟩ := h
  rw [List.length_append, At.len f h3, Ats.len fs h4, Sh.sizes]
end
theorem SlF.sl {α : Type} {es : Nat} {R : List V → α → List Nat → Prop} {R' : List V → α → Prop} {v : V} {xs : List α} {F : List Nat} (h : SlF H es R v xs F) (hR : ∀ cs x G, R cs x G → R' cs x) : Sl H es R' v xs := by
 rcases h with ⟨h1, h2, _⟩ | ⟨id, off, cells, Fs, h1, h2, h3, h4, _, h5⟩
 ·exact .inl ⟨h1, h2⟩
 ·refine .inr ⟨id, off, true, cells, h1, h2, h3, fun i x hx => ?_⟩
  have hi : i < Fs.length := by rw [h4]; exact (List.getElem?_eq_some_iff.1 hx).1
  exact hR _ _ _ (h5 i x Fs[i] hx (List.getElem?_eq_getElem hi))
mutual
theorem AtF.at : ∀ (sh : Sh) {cs : List V} {u : U} {F : List Nat}, AtF H sh cs u F → At H sh cs u
 | .int k, _, _, _, h => by simp only [AtF, At] at h ⊢; exact h.1
 | .bool, _, _, _, h => by simp only [AtF, At] at h ⊢; exact h.1
 | .str, _, _, _, h => by simp only [AtF, At] at h ⊢; exact h.1
 | .slice e, _, _, _, h => by
  simp only [AtF, At] at h ⊢
  obtain ⟨v, l, h1, h2, h3, h4⟩ := h
  exact ⟨v, l, h1, h2, h3, h4.sl fun _ _ _ h => AtF.at e h⟩
 | .st fs, _, _, _, h => by
  simp only [AtF, At] at h ⊢
  obtain ⟨us, h1, h2⟩ := h
  exact ⟨us, h1, AtsF.ats fs h2⟩
theorem AtsF.ats : ∀ (fs : List Sh) {cs : List V} {us : List U} {F : List Nat}, AtsF H fs cs us F → Ats H fs cs us
 | [], _, _, _, h => by simp only [AtsF, Ats] at h ⊢; exact ⟨h.1, h.2.1⟩
 | f :: fs, _, _, _, h => by
  simp only [AtsF, Ats] at h ⊢
  obtain ⟨c1, c2, u, us', F1, F2, h1, h2, _, h3, h4⟩ := h
  exact ⟨c1, c2, u, us', h1, h2, AtF.at f h3, AtsF.ats fs h4⟩
end
theorem SlF.frame {α : Type} {es : Nat} {R R' : List V → α → List Nat → Prop} {v : V} {xs : List α} {F : List Nat} (h : SlF H es R v xs F) (hF : ∀ id ∈ F, H'[id]? = H[id]?)
  (hR : ∀ cs x G, (∀ id ∈ G, H'[id]? = H[id]?) → R cs x G → R' cs x G) : SlF H' es R' v xs F := by
 rcases h with h | ⟨id, off, cells, Fs, h1, h2, h3, h4, h5, h6⟩
 ·exact .inl h
 ·subst h5
  refine .inr ⟨id, off, cells, Fs, h1, by rw [hF id List.mem_cons_self]; exact h2, h3, h4, rfl, fun i x G hx hG => ?_⟩
  exact hR _ _ _ (fun j hj => hF j (List.mem_cons_of_mem _ (List.mem_flatten.2 ⟨G, List.mem_of_getElem? hG, hj⟩))) (h6 i x G hx hG)
mutual
theorem AtF.frame : ∀ (sh : Sh) {cs : List V} {u : U} {F : List Nat}, (∀ id ∈ F, H'[id]? = H[id]?) → AtF H sh cs u F → AtF H' sh cs u F
 | .int k, _, _, _, _, h => by simpa only [AtF] using h
 | .bool, _, _, _, _, h => by simpa only [AtF] using h
 | .str, _, _, _, _, h => by simpa only [AtF] using h
 | .slice e, _, _, _, hF, h => by
  simp only [AtF] at h ⊢
  obtain ⟨v, l, h1, h2, h3, h4⟩ := h
  exact ⟨v, l, h1, h2, h3, h4.frame hF fun _ _ _ hG h => AtF.frame e hG h⟩
 | .st fs, _, _, _, hF, h => by
  simp only [AtF] at h ⊢
  obtain ⟨us, h1, h2⟩ := h
  exact ⟨us, h1, AtsF.frame fs hF h2⟩
theorem AtsF.frame : ∀ (fs : List Sh) {cs : List V} {us : List U} {F : List Nat}, (∀ id ∈ F, H'[id]? = H[id]?) → AtsF H fs cs us F → AtsF H' fs cs us F
 | [], _, _, _, _, h => by simpa only [AtsF] using h
 | f :: fs, _, _, _, hF, h => by
  simp only [AtsF] at h ⊢
  obtain ⟨c1, c2, u, us', F1, F2, h1, h2, rfl, h3, h4⟩ := h
  exact ⟨c1, c2, u, us', F1, F2, h1, h2, rfl, AtF.frame f (fun j hj => hF j (List.mem_append_left _ hj)) h3, AtsF.frame fs (fun j hj => hF j (List.mem_append_right _ hj)) h4⟩
end
theorem SlF.mem {α : Type} {es : Nat} {R : List V → α → List Nat → Prop} {v : V} {xs : List α} {F : List Nat} (h : SlF H es R v xs F) (hR : ∀ cs x G, R cs x G → ∀ id ∈ G, id < H.length) : ∀ id ∈ F, id < H.length := by
 rcases h with ⟨_, _, rfl⟩ | ⟨id, off, cells, Fs, h1, h2, h3, h4, rfl, h6⟩
 ·intro id h; cases h
 ·intro j hj
  rcases List.mem_cons.1 hj with rfl | hj
  ·exact (List.getElem?_eq_some_iff.1 h2).1
  ·obtain ⟨G, hG, hj⟩ := List.mem_flatten.1 hj
   obtain ⟨i, hi, rfl⟩ := List.getElem_of_mem hG
   exact hR _ _ _ (h6 i (xs[i]'(by omega)) Fs[i] (List.getElem?_eq_getElem _) (List.getElem?_eq_getElem _)) j hj
mutual
theorem AtF.mem : ∀ (sh : Sh) {cs : List V} {u : U} {F : List Nat}, AtF H sh cs u F → ∀ id ∈ F, id < H.length
 | .int k, _, _, _, h => by simp only [AtF] at h; rw [h.2]; intro _ h; cases h
 | .bool, _, _, _, h => by simp only [AtF] at h; rw [h.2]; intro _ h; cases h
 | .str, _, _, _, h => by simp only [AtF] at h; rw [h.2]; intro _ h; cases h
 | .slice e, _, _, _, h => by
  simp only [AtF] at h
  obtain ⟨v, l, h1, h2, h3, h4⟩ := h
  exact h4.mem fun _ _ _ h => AtF.mem e h
 | .st fs, _, _, _, h => by
  simp only [AtF] at h
  obtain ⟨us, h1, h2⟩ := h
  exact AtsF.mem fs h2
theorem AtsF.mem : ∀ (fs : List Sh) {cs : List V} {us : List U} {F : List Nat}, AtsF H fs cs us F → ∀ id ∈ F, id < H.length
 | [], _, _, _, h => by simp only [AtsF] at h; rw [h.2.2]; intro _ h; cases h
 | f :: fs, _, _, _, h => by
  simp only [AtsF] at h
  obtain ⟨c1, c2, u, us', F1, F2, h1, h2, rfl, h3, h4⟩ := h
  intro id hid
  rcases List.mem_append.1 hid with hid | hid
  ·exact AtF.mem f h3 id hid
  ·exact AtsF.mem fs h4 id hid
end
theorem AtF.ext {sh : Sh} {cs : List V} {u : U} {F : List Nat} (h : AtF H sh cs u F) : AtF (H ++ T) sh cs u F :=
 h.frame sh fun id hid => List.getElem?_append_left (AtF.mem sh h id hid)
theorem yY {a b : List V} : gK H (a ++ b) ↔ gK H a ∧ gK H b := by
 induction a with
 | nil => simp [gK]
 | cons x xs ih => simp only [List.cons_append, gK, ih, and_assoc]
mutual
theorem AtF.cut : ∀ (sh : Sh) {cs : List V} {u : U} {F : List Nat}, AtF (H ++ T) sh cs u F → (∀ id ∈ F, H.length ≤ id) → gK H cs → F = []
 | .int k, _, _, _, h, _, _ => by simp only [AtF] at h; exact h.2
 | .bool, _, _, _, h, _, _ => by simp only [AtF] at h; exact h.2
 | .str, _, _, _, h, _, _ => by simp only [AtF] at h; exact h.2
 | .slice e, _, _, _, h, hF, hl => by
  simp only [AtF] at h
  obtain ⟨v, l, rfl, h2, h3, h4⟩ := h
  rcases h4 with ⟨_, _, rfl⟩ | ⟨id, off, cells, Fs, rfl, g2, g3, g4, rfl, g6⟩
  ·rfl
  ·simp only [gK, dZ, kV, and_true] at hl
   obtain ⟨own, es, cells, hl⟩ := hl
   have := (List.getElem?_eq_some_iff.1 hl).1
   have := hF id List.mem_cons_self
   omega
 | .st fs, _, _, _, h, hF, hl => by
  simp only [AtF] at h
  obtain ⟨us, h1, h2⟩ := h
  exact AtsF.cut fs h2 hF hl
theorem AtsF.cut : ∀ (fs : List Sh) {cs : List V} {us : List U} {F : List Nat}, AtsF (H ++ T) fs cs us F → (∀ id ∈ F, H.length ≤ id) → gK H cs → F = []
 | [], _, _, _, h, _, _ => by simp only [AtsF] at h; exact h.2.2
 | f :: fs, _, _, _, h, hF, hl => by
  simp only [AtsF] at h
  obtain ⟨c1, c2, u, us', F1, F2, rfl, h2, rfl, h3, h4⟩ := h
  rw [yY] at hl
  rw [AtF.cut f h3 (fun id hid => hF id (List.mem_append_left _ hid)) hl.1, AtsF.cut fs h4 (fun id hid => hF id (List.mem_append_right _ hid)) hl.2]
  rfl
end
end
def dU : D → U
 | .int n => .int n
 | .bool b => .bool b
 | .str s => .str s
 | .nil => .lst []
 | .lst l => .lst (dUs l)
 | .st l => .st (dUs l)
where dUs : List D → List U
 | [] => []
 | d :: ds => dU d :: dUs ds
theorem uO : ∀ (l : List D), (dU.dUs l).length = l.length
 | [] => rfl
 | d :: ds => by simp [dU.dUs, uO ds]
theorem EI : ∀ (l : List D) (i : Nat), (dU.dUs l)[i]? = l[i]?.map dU
 | [], i => by simp [dU.dUs]
 | d :: ds, 0 => by simp [dU.dUs]
 | d :: ds, i + 1 => by simp [dU.dUs, EI ds i]
mutual
theorem Is.at {H : List Ob} : ∀ (sh : Sh) {cs : List V} {d : D}, Is H sh cs d → At H sh cs (dU d)
 | .int k, cs, d, h => by
  unfold Is at h
  split at h <;> first | (exfalso; exact h) | (rename_i he; cases he) | skip
  all_goals (obtain ⟨rfl, rfl, h⟩ := h; exact ⟨_, rfl, rfl, h⟩)
 | .bool, cs, d, h => by
  unfold Is at h
  split at h <;> first | (exfalso; exact h) | (rename_i he; cases he) | skip
  all_goals (subst h; exact ⟨_, rfl, rfl⟩)
 | .str, cs, d, h => by
  unfold Is at h
  split at h <;> first | (exfalso; exact h) | (rename_i he; cases he) | skip
  all_goals (obtain ⟨rfl, h⟩ := h; exact ⟨_, rfl, rfl, h⟩)
 | .slice e, cs, d, h => by
  match cs, d, h with
  | [.slc none n], .nil, h =>
   simp only [Is] at h
   subst h
   simp only [At, dU]
   exact ⟨_, _, rfl, rfl, by simp, .inl ⟨rfl, rfl⟩⟩
  | [.slc (some (id, off)) n], .lst l, h =>
   simp only [Is] at h
   obtain ⟨rfl, h0, own, cells, h2, h3, h4⟩ := h
   simp only [At, dU]
   refine ⟨_, _, rfl, rfl, by rw [uO]; exact h0, .inr ⟨id, off, own, cells, by rw [uO], h2, by rw [uO]; exact h3, fun i x hx => ?_⟩⟩
   rw [EI] at hx
   obtain ⟨d, hd, rfl⟩ := Option.map_eq_some_iff.1 hx
   exact Is.at e (h4 i d hd)
 | .st fs, cs, d, h => by
  match d, h with
  | .st ds, h =>
   simp only [Is] at h
   simp only [At, dU]
   exact ⟨_, rfl, IsAll.ats fs h⟩
theorem IsAll.ats {H : List Ob} : ∀ (fs : List Sh) {cs : List V} {ds : List D}, IsAll H fs cs ds → Ats H fs cs (dU.dUs ds)
 | [], cs, ds, h => by simp only [IsAll] at h; obtain ⟨rfl, rfl⟩ := h; exact ⟨rfl, rfl⟩
 | f :: fs, cs, d :: ds, h => by
  simp only [IsAll] at h
  simp only [Ats, dU.dUs]
  exact ⟨_, _, _, _, (List.take_append_drop _ _).symm, rfl, Is.at f h.1, IsAll.ats fs h.2⟩
 | _ :: _, _, [], h => by simp only [IsAll] at h
end
def Vh (o : Oper) : Oper := { dst := o.dst, op := o.op, type := 0, pos := "", after := #[], guard := o.guard }
def er : Code → Code
 | .region id ops draw => .region id ⟨ops.toList.map Vh⟩ draw
 | .seq a b => .seq (er a) (er b)
 | .cond c a b => .cond c (er a) (er b)
 | .block id b => .block id (er b)
 | .loop b => .loop (er b)
 | c => c
def sub (l : List (Nat × Nat)) (n : Nat) : Nat := match l with
 | [] => n
 | (a, b) :: l => if n = a then b else sub l n
section
variable {C : Ctx} {callf : bU} {f : Nat}
end
section
variable {H : List Ob}
mutual
theorem At.ones : ∀ (sh : Sh) {cs : List V} {u : U}, At H sh cs u → cs.all aJ = true
 | .int k, _, _, h => by obtain ⟨n, rfl, _⟩ := nY.1 h; rfl
 | .bool, _, _, h => by obtain ⟨n, rfl, _⟩ := uF.1 h; rfl
 | .str, _, _, h => by obtain ⟨n, rfl, _⟩ := ed.1 h; rfl
 | .slice e, _, _, h => by
  obtain ⟨v, l, rfl, _, _, h4⟩ := aC.1 h
  simp [h4.one.1]
 | .st fs, _, _, h => by
  obtain ⟨us, _, h2⟩ := kS.1 h
  exact Ats.ones fs h2
theorem Ats.ones : ∀ (fs : List Sh) {cs : List V} {us : List U}, Ats H fs cs us → cs.all aJ = true
 | [], _, _, h => by rw [(fV.1 h).1]; rfl
 | f :: fs, _, _, h => by
  obtain ⟨c1, c2, u, us', rfl, _, h3, h4⟩ := bn.1 h
  rw [List.all_append, At.ones f h3, Ats.ones fs h4]
  rfl
end
end
theorem o8 {cells c : List V} {o : Nat} (h : o + c.length ≤ cells.length) : ((setRange cells o c).drop o).take c.length = c := by
 unfold setRange
 have h1 : (cells.take o).length = o := by simp; omega
 rw [List.append_assoc, List.drop_append_of_le_length (by omega), List.drop_of_length_le (by omega), List.nil_append, List.take_left']
 rfl
theorem nT {cells c : List V} {o p n : Nat} (h : o + c.length ≤ cells.length) (hp : p + n ≤ o ∨ o + c.length ≤ p) : ((setRange cells o c).drop p).take n = (cells.drop p).take n := by
 apply List.ext_getElem?
 intro j
 by_cases hj : j < n
 ·rw [List.getElem?_take_of_lt hj, List.getElem?_take_of_lt hj, List.getElem?_drop, List.getElem?_drop]
  unfold setRange
  rw [List.append_assoc]
  have h1 : (cells.take o).length = o := by simp; omega
  rcases hp with hp | hp
  ·rw [List.getElem?_append_left (by omega), List.getElem?_take_of_lt (by omega)]
  ·rw [List.getElem?_append_right (by omega), h1, List.getElem?_append_right (by omega), List.getElem?_drop]
   congr 1
   omega
 ·rw [List.getElem?_eq_none (by simp; omega), List.getElem?_eq_none (by simp; omega)]
theorem mM {cells c : List V} {o : Nat} (h : o + c.length ≤ cells.length) : (setRange cells o c).length = cells.length := by
 unfold setRange
 simp
 omega
def ToI (H : List Ob) (e : Sh) (l : List U) (i : Nat) (G : List Ob) : Prop := ∃ (T : List Ob) (cells : List V) (Fs : List (List Nat)), G = H ++ .mk true e.size cells :: T ∧ cells.length = l.length * e.size ∧ Fs.length = i ∧
 (∀ (j : Nat) x F, l[j]? = some x → Fs[j]? = some F → AtF G e ((cells.drop (j * e.size)).take e.size) x F) ∧ Fs.flatten.Nodup ∧ ∀ id ∈ Fs.flatten, H.length + 1 ≤ id
section
variable {H : List Ob} {e : Sh} {l : List U}
theorem ToI.init {zs : List V} (hz : zs.length = l.length * e.size) : ToI H e l 0 (H ++ [.mk true e.size zs]) :=
 ⟨[], zs, [], rfl, hz, rfl, fun j x F _ h => by simp at h, by simp, by simp⟩
theorem gW {i n s : Nat} (h : i < n) : i * s + s ≤ n * s := by
 have := Nat.mul_le_mul_right s (show i + 1 ≤ n from h)
 rwa [Nat.succ_mul] at this
theorem ToI.step {i : Nat} {G T : List Ob} {x : U} {c : List V} {F : List Nat} (h : ToI H e l i G) (hx : l[i]? = some x) (hc : AtF (G ++ T) e c x F) (hn : F.Nodup) (hF : ∀ id ∈ F, G.length ≤ id) :
  ∃ cells, (G ++ T)[H.length]? = some (.mk true e.size cells) ∧ i * e.size + c.length ≤ cells.length ∧ c.length = e.size ∧ ToI H e l (i + 1) ((G ++ T).set H.length (.mk true e.size (setRange cells (i * e.size) c))) := by
 obtain ⟨T0, cells, Fs, rfl, h1, rfl, h3, h4, h5⟩ := h
 have hi : Fs.length < l.length := (List.getElem?_eq_some_iff.1 hx).1
 have hm := gW (s := e.size) hi
 have hcl : c.length = e.size := At.len e (AtF.at e hc)
 refine ⟨cells, by simp, by omega, hcl, T0 ++ T, setRange cells (Fs.length * e.size) c, Fs ++ [F], ?_, ?_, by simp, ?_, ?_, ?_⟩
 ·rw [List.append_assoc, List.cons_append, set_mid]
 ·rw [mM (by omega), h1]
 ·intro j y K hy hK
  have hfr : ∀ id ∈ K, H.length + 1 ≤ id → ((H ++ .mk true e.size cells :: T0 ++ T).set H.length (.mk true e.size (setRange cells (Fs.length * e.size) c)))[id]? = (H ++ .mk true e.size cells :: T0 ++ T)[id]? := fun id _ hid => by
   rw [List.getElem?_set_ne (by omega)]
  rcases Nat.lt_or_ge j Fs.length with hj | hj
  ·rw [List.getElem?_append_left hj] at hK
   have hmj := gW (s := e.size) hj
   rw [nT (by omega) (.inl hmj)]
   refine AtF.frame e (fun id hid => ?_) (h3 j y K hy hK)
   rw [hfr id hid (h5 id (List.mem_flatten.2 ⟨K, List.mem_of_getElem? hK, hid⟩)), List.getElem?_append_left (AtF.mem e (h3 j y K hy hK) id hid)]
  ·have hj' : j = Fs.length := by
    have := (List.getElem?_eq_some_iff.1 hK).1
    simp at this
    omega
   subst hj'
   rw [hx] at hy
   cases hy
   rw [List.getElem?_append_right (Nat.le_refl _), Nat.sub_self] at hK
   cases hK
   have hs := o8 (cells := cells) (c := c) (o := Fs.length * e.size) (by omega)
   rw [hcl] at hs
   rw [hs]
   refine AtF.frame e (fun id hid => ?_) hc
   exact hfr id hid (by have := hF id hid; simp at this; omega)
 ·rw [List.flatten_append, List.nodup_append]
  refine ⟨h4, by simpa using hn, fun a ha b hb hab => ?_⟩
  subst hab
  simp at hb
  have h6 := hF a hb
  obtain ⟨K, hK, ha⟩ := List.mem_flatten.1 ha
  obtain ⟨j, hj, rfl⟩ := List.getElem_of_mem hK
  have := AtF.mem e (h3 j (l[j]'(by omega)) Fs[j] (List.getElem?_eq_getElem _) (List.getElem?_eq_getElem _)) a ha
  omega
 ·intro id hid
  rw [List.flatten_append] at hid
  rcases List.mem_append.1 hid with hid | hid
  ·exact h5 id hid
  ·simp at hid
   have := hF id hid
   simp at this
   omega
theorem ToI.done {G : List Ob} (h : ToI H e l l.length G) (hl : l.length ≤ maxLen) : ∃ T F, G = H ++ T ∧ AtF G (.slice e) [.slc (some (H.length, 0)) l.length] (.lst l) F ∧ F.Nodup ∧ (∀ id ∈ F, H.length ≤ id) ∧ T ≠ [] := by
 obtain ⟨T0, cells, Fs, rfl, h1, h2, h3, h4, h5⟩ := h
 refine ⟨_, H.length :: Fs.flatten, rfl, eG.2 ⟨_, l, rfl, rfl, hl, .inr ⟨H.length, 0, cells, Fs, rfl, by simp, by omega, h2, rfl, fun i x G hx hG => ?_⟩⟩, ?_, ?_, by simp⟩
 ·rw [Nat.zero_add]; exact h3 i x G hx hG
 ·rw [List.nodup_cons]
  exact ⟨fun h => by have := h5 _ h; omega, h4⟩
 ·intro id hid
  rcases List.mem_cons.1 hid with rfl | hid
  ·exact Nat.le_refl _
  ·have := h5 id hid; omega
end
theorem bg {α : Type} {l : List α} {i : Nat} {x : α} (h : l[i]? = some x) : l.take (i + 1) = l.take i ++ [x] := by
 rw [List.take_add_one, h]
 rfl
theorem AtF.app {H T : List Ob} {sh : Sh} {cs : List V} {u : U} {F : List Nat} (h : AtF H sh cs u F) : AtF (H ++ T) sh cs u F := h.ext
theorem af {C : Ctx} {callf : bU} {f id : Nat} {ops : Array Oper} {σ : St} {h : Hint} (ho : C.ord f id = some h) : bQ C callf f id ops true σ = NT (match h.res with
  | [] => kz C callf f ops h σ.heap.length h.ord σ
  | _ :: _ => lF C callf f ops h σ.heap.length h.ord { σ with heap := σ.heap ++ List.replicate h.res.length .dead }) (Kz C callf f ops h σ) := by
 simp only [bQ, ho, eQ]
 rfl
theorem Jf {x : St} {b : Option St} : NT (some x) b = some x := rfl
theorem Gu {a b c : List Nat} {d e : List (Nat × Nat)} {g : List (Nat × List Nat)} {n : Nat} {H H' : List Ob} : iT ⟨a, b, c, d, e, g, []⟩ n H H' ↔ Keep n H H' := ⟨fun h id hi => h id ⟨hi, rfl⟩, fun h id hi => h id hi.1⟩
theorem G5 {n : Nat} {H : List Ob} : Keep n H H := fun _ _ => rfl
theorem BV {n : Nat} {H T : List Ob} (h : n ≤ H.length) : Keep n H (H ++ T) := fun id hid => by rw [List.getElem?_append_left (by omega)]
attribute [simp] af Jf Gu kz iJ lF fD o9 jc Jb fitsAt lookOf oq G5
section
variable {G : List Ob}
theorem AtsF.lens : ∀ (fs1 : List Sh) {f : Sh} {fs2 : List Sh} {cs : List V} {us1 us2 : List U} {u : U} {F : List Nat}, AtsF G (fs1 ++ f :: fs2) cs (us1 ++ u :: us2) F → us1.length = fs1.length → F.Nodup →
  ∃ c1 c c2 K, cs = c1 ++ (c ++ c2) ∧ c1.length = Sh.sizes fs1 ∧ AtF G f c u K ∧ K.Nodup ∧ (∀ q ∈ K, q ∈ F) ∧
   ∀ G' y c', (∀ q ∈ F, q ∉ K → G'[q]? = G[q]?) → AtF G' f c' y K → AtsF G' (fs1 ++ f :: fs2) (c1 ++ (c' ++ c2)) (us1 ++ y :: us2) F
 | [], f, fs2, cs, us1, us2, u, F, h, hl, hn => by
  have : us1 = [] := by simpa using hl
  subst this
  obtain ⟨c1, c2, u', us', F1, F2, rfl, hu, rfl, h1, h2⟩ := jf.1 h
  cases hu
  rw [List.nodup_append] at hn
  refine ⟨[], c1, c2, F1, rfl, rfl, h1, hn.1, fun q hq => List.mem_append_left _ hq, fun G' y c' hG hc => ?_⟩
  exact jf.2 ⟨c', c2, y, us2, F1, F2, rfl, rfl, rfl, hc, AtsF.frame fs2 (fun q hq => hG q (List.mem_append_right _ hq) fun hq1 => hn.2.2 q hq1 q hq rfl) h2⟩
 | g :: fs1, f, fs2, cs, us1, us2, u, F, h, hl, hn => by
  obtain ⟨c1, c2, u', us', F1, F2, rfl, hu, rfl, h1, h2⟩ := jf.1 h
  match us1, hl, hu with
  | v :: us1, hl, hu =>
   cases hu
   rw [List.nodup_append] at hn
   obtain ⟨d1, c, d2, K, rfl, k1, k2, k3, k4, k5⟩ := AtsF.lens fs1 h2 (by simpa using hl) hn.2.1
   refine ⟨c1 ++ d1, c, d2, K, by rw [List.append_assoc], by rw [List.length_append, At.len g (AtF.at g h1), k1]; rfl, k2, k3, fun q hq => List.mem_append_right _ (k4 q hq), fun G' y c' hG hc => ?_⟩
   rw [List.append_assoc]
   exact jf.2 ⟨c1, _, _, _, F1, F2, rfl, rfl, rfl, AtF.frame g (fun q hq => hG q (List.mem_append_left _ hq) fun hq1 => hn.2.2 q hq q (k4 q hq1) rfl) h1,
    k5 G' y c' (fun q hq hq1 => hG q (List.mem_append_right _ hq) hq1) hc⟩
theorem AtF.elem {e : Sh} {v : V} {l : List U} {F : List Nat} (h : AtF G (.slice e) [v] (.lst l) F) (hn : F.Nodup) {i : Nat} {x : U} (hx : l[i]? = some x) :
  ∃ id off cells K, v = .slc (some (id, off)) l.length ∧ G[id]? = some (.mk true e.size cells) ∧ off + i * e.size + e.size ≤ cells.length ∧ AtF G e ((cells.drop (off + i * e.size)).take e.size) x K ∧ K.Nodup ∧ id ∉ K ∧ id ∈ F ∧ (∀ q ∈ K, q ∈ F) ∧
   ∀ G' c' y, c'.length = e.size → G'[id]? = some (.mk true e.size (setRange cells (off + i * e.size) c')) → (∀ q ∈ F, q ≠ id → q ∉ K → G'[q]? = G[q]?) → AtF G' e c' y K → AtF G' (.slice e) [v] (.lst (l.set i y)) F := by
 obtain ⟨v', l', hv', hu, hl, hs⟩ := eG.1 h
 cases hv'
 cases hu
 rcases hs with ⟨_, rfl, _⟩ | ⟨id, off, cells, Fs, rfl, h2, h3, h4, rfl, h6⟩
 ·simp at hx
 ·have hi : i < l.length := (List.getElem?_eq_some_iff.1 hx).1
  have hm := gW (s := e.size) hi
  obtain ⟨K, hK⟩ : ∃ K, Fs[i]? = some K := ⟨Fs[i]'(by omega), List.getElem?_eq_getElem _⟩
  have hKF : ∀ q ∈ K, q ∈ Fs.flatten := fun q hq => List.mem_flatten.2 ⟨K, List.mem_of_getElem? hK, hq⟩
  have hn' := List.nodup_cons.1 hn
  have hap : ∀ (a b : Nat) (A B : List Nat), Fs[a]? = some A → Fs[b]? = some B → a ≠ b → ∀ q ∈ A, q ∉ B := by
   have hp := (List.pairwise_flatten.1 hn'.2).2
   rw [List.pairwise_iff_getElem] at hp
   intro a b A B hA hB hab q hqa hqb
   obtain ⟨ha, rfl⟩ := List.getElem?_eq_some_iff.1 hA
   obtain ⟨hb, rfl⟩ := List.getElem?_eq_some_iff.1 hB
   rcases Nat.lt_or_gt_of_ne hab with h | h
   ·exact hp a b ha hb h q hqa q hqb rfl
   ·exact hp b a hb ha h q hqb q hqa rfl
  refine ⟨id, off, cells, K, rfl, h2, by omega, h6 i x K hx hK, (List.pairwise_flatten.1 hn'.2).1 K (List.mem_of_getElem? hK), fun hq => hn'.1 (hKF _ hq), List.mem_cons_self, fun q hq => List.mem_cons_of_mem _ (hKF q hq), fun G' c' y hc hG hfr hy => ?_⟩
  refine eG.2 ⟨_, _, rfl, rfl, by simpa using hl, .inr ⟨id, off, setRange cells (off + i * e.size) c', Fs, by simp, hG, by rw [mM (by omega)]; simpa using h3, by simpa using h4, rfl, fun j z J hz hJ => ?_⟩⟩
  by_cases hij : j = i
  ·subst hij
   rw [hK] at hJ
   cases hJ
   have hz' : z = y := by
    rw [List.getElem?_set_self (by omega)] at hz
    exact (Option.some.inj hz).symm
   subst hz'
   have := o8 (cells := cells) (c := c') (o := off + j * e.size) (by omega)
   rw [hc] at this
   rw [this]
   exact hy
  ·rw [List.getElem?_set_ne (by omega)] at hz
   have hj : j < l.length := (List.getElem?_eq_some_iff.1 hz).1
   have hmj := gW (s := e.size) hj
   rw [nT (by omega) (by
    rcases Nat.lt_or_gt_of_ne hij with h | h
    ·have := gW (s := e.size) h; exact .inl (by omega)
    ·have := gW (s := e.size) h; exact .inr (by omega))]
   refine AtF.frame e (fun q hq => ?_) (h6 j z J hz hJ)
   exact hfr q (List.mem_cons_of_mem _ (List.mem_flatten.2 ⟨J, List.mem_of_getElem? hJ, hq⟩)) (by rintro rfl; exact hn'.1 (List.mem_flatten.2 ⟨J, List.mem_of_getElem? hJ, hq⟩)) (hap j i J K hJ hK hij q hq)
theorem Hw {cells c1 c2 : List V} {o n : Nat} {v w : V} (hc : (cells.drop o).take n = c1 ++ ([v] ++ c2)) (hn : o + n ≤ cells.length) : cells.set (o + c1.length) w = setRange cells o (c1 ++ ([w] ++ c2)) := by
 have hl : n = c1.length + (1 + c2.length) := by
  have := congrArg List.length hc
  simp at this
  omega
 apply List.ext_getElem?
 intro j
 unfold setRange
 rcases Nat.lt_or_ge j o with h1 | h1
 ·rw [List.getElem?_set_ne (by omega), List.append_assoc, List.getElem?_append_left (by simp; omega), List.getElem?_take_of_lt h1]
 ·have ho : (cells.take o).length = o := by simp; omega
  rw [List.append_assoc, List.getElem?_append_right (by omega), ho]
  rcases Nat.lt_or_ge (j - o) n with h2 | h2
  ·rw [List.getElem?_append_left (by simp; omega)]
   have hs : c1 ++ ([w] ++ c2) = (c1 ++ ([v] ++ c2)).set c1.length w := by rw [List.set_append_right _ _ (Nat.le_refl _), Nat.sub_self]; rfl
   rw [hs, ← hc]
   by_cases h3 : j - o = c1.length
   ·rw [← h3, show o + (j - o) = j by omega, List.getElem?_set_self (by omega), List.getElem?_set_self (by simp; omega)]
   ·rw [List.getElem?_set_ne (by omega), List.getElem?_set_ne (by omega), List.getElem?_take_of_lt h2, List.getElem?_drop, show o + (j - o) = j by omega]
  ·rw [List.getElem?_set_ne (by omega), List.getElem?_append_right (by simp; omega), List.getElem?_drop]
   congr 1
   simp
   omega
theorem AtF.field {fs2 : List Sh} (fs1 : List Sh) {f : Sh} {v : V} {l : List U} {F : List Nat} (h : AtF G (.slice (.st (fs1 ++ f :: fs2))) [v] (.lst l) F) (hn : F.Nodup) {i : Nat} {us1 us2 : List U} {u : U} (hx : l[i]? = some (.st (us1 ++ u :: us2)))
  (hl : us1.length = fs1.length) (hf : f.size = 1) : ∃ id off cells w K, v = .slc (some (id, off)) l.length ∧ G[id]? = some (.mk true (Sh.st (fs1 ++ f :: fs2)).size cells) ∧ id ∈ F ∧ id ∉ K ∧
   cells[off + i * (Sh.st (fs1 ++ f :: fs2)).size + Sh.sizes fs1]? = some w ∧ AtF G f [w] u K ∧ K.Nodup ∧ (∀ q ∈ K, q ∈ F) ∧
   (∀ G' y, (∀ q ∈ F, q ∉ K → G'[q]? = G[q]?) → AtF G' f [w] y K → AtF G' (.slice (.st (fs1 ++ f :: fs2))) [v] (.lst (l.set i (.st (us1 ++ y :: us2)))) F) ∧
   ∀ w' y, AtF G f [w'] y K → AtF (G.set id (.mk true (Sh.st (fs1 ++ f :: fs2)).size (cells.set (off + i * (Sh.st (fs1 ++ f :: fs2)).size + Sh.sizes fs1) w'))) (.slice (.st (fs1 ++ f :: fs2))) [v] (.lst (l.set i (.st (us1 ++ y :: us2)))) F := by
 obtain ⟨id, off, cells, K0, hv, h2, h3, h4, h5, h6, h7, h8, h9⟩ := AtF.elem h hn hx
 obtain ⟨us, hus, h4⟩ := uY.1 h4
 cases hus
 have hcl := Ats.len _ (AtsF.ats _ h4)
 obtain ⟨c1, c, c2, K, k1, k2, k3, k4, k5, k6⟩ := AtsF.lens fs1 h4 hl h5
 have hc1 : c.length = 1 := by rw [At.len f (AtF.at f k3), hf]
 obtain ⟨w, rfl⟩ : ∃ w, c = [w] := by
  match c, hc1 with
  | [w], _ => exact ⟨w, rfl⟩
 have hid : id < G.length := (List.getElem?_eq_some_iff.1 h2).1
 have hset : ∀ w', cells.set (off + i * (Sh.st (fs1 ++ f :: fs2)).size + Sh.sizes fs1) w' = setRange cells (off + i * (Sh.st (fs1 ++ f :: fs2)).size) (c1 ++ ([w'] ++ c2)) := fun w' => by
  rw [← k2]; exact Hw k1 h3
 have hlen : ∀ w', (c1 ++ ([w'] ++ c2)).length = (Sh.st (fs1 ++ f :: fs2)).size := fun w' => by
  have h := congrArg List.length k1
  rw [hcl] at h
  rw [Sh.size_st, h]
  simp
 have hw : cells[off + i * (Sh.st (fs1 ++ f :: fs2)).size + Sh.sizes fs1]? = some w := by
  rw [← k2]
  refine dH k1 ?_
  rw [List.getElem?_append_right (Nat.le_refl _), Nat.sub_self]
  rfl
 refine ⟨id, off, cells, w, K, hv, h2, h7, fun hq => h6 (k5 _ hq), hw, k3, k4, fun q hq => h8 q (k5 q hq), fun G' y hG hy => ?_, fun w' y hy => ?_⟩
 ·refine h9 G' (c1 ++ ([w] ++ c2)) _ (hlen w) ?_ (fun q hq _ hqK => hG q hq fun hqk => hqK (k5 q hqk)) (uY.2 ⟨_, rfl, k6 G' y [w] (fun q hq hqk => hG q (h8 q hq) hqk) hy⟩)
  rw [hG id h7 (fun hq => h6 (k5 _ hq)), h2, ← hset w]
  congr 2
  obtain ⟨hb, hw'⟩ := List.getElem?_eq_some_iff.1 hw
  rw [← hw', List.set_getElem_self]
 ·refine h9 _ (c1 ++ ([w'] ++ c2)) _ (hlen w') ?_ (fun q hq hq1 hqK => by rw [List.getElem?_set_ne (Ne.symm hq1)]) (uY.2 ⟨_, rfl, k6 _ y [w'] (fun q hq hqk => ?_) (AtF.frame f (fun q hq => ?_) hy)⟩)
  ·rw [List.getElem?_set_self hid, hset w']
  ·rw [List.getElem?_set_ne]; rintro rfl; exact h6 hq
  ·rw [List.getElem?_set_ne]; rintro rfl; exact h6 (k5 _ hq)
end
noncomputable def dec (P : Prop) : Bool := @decide P (Classical.propDecidable P)
theorem aj {P : Prop} (h : P) : dec P = true := @decide_eq_true P (Classical.propDecidable P) h
theorem ai {P : Prop} (h : ¬ P) : dec P = false := @decide_eq_false P (Classical.propDecidable P) h
theorem FW {P Q : Prop} (h : P ↔ Q) : dec P = dec Q := by rw [propext h]
theorem dX {P : Prop} : dec P = true ↔ P := by
 by_cases h : P
 ·exact ⟨fun _ => h, fun _ => aj h⟩
 ·exact ⟨fun e => absurd (ai h) (by rw [e]; decide), fun e => absurd e h⟩
theorem Ret.dec {C : Ctx} {f : Nat} {a : List V} {H : List Ob} {P : Prop} (h : Ret C f a H fun r H' => (∃ b : Bool, r = .bool b ∧ (b = true ↔ P)) ∧ H' = H) : callW C f a H = some (.bool (dec P), H) := by
 obtain ⟨r, H', hc, ⟨b, rfl, hb⟩, rfl⟩ := h
 rw [hc, show b = Go.Lite.dec P from by cases hd : Go.Lite.dec P with
  | true => exact hb.2 (dX.1 hd)
  | false => cases b with
   | false => rfl
   | true => exact absurd (dX.2 (hb.1 rfl)) (by rw [hd]; decide)]
def xH (c : UInt8) : Prop := 97 ≤ c.toNat ∧ c.toNat ≤ 122
def xu (c : UInt8) : Prop := 48 ≤ c.toNat ∧ c.toNat ≤ 57
def aG (t : Str) : Prop := 1 ≤ t.length ∧ t.length ≤ 20 ∧ ∀ (i : Nat) c, t[i]? = some c → xH c ∨ (0 < i ∧ (xu c ∨ c.toNat = 95))
def vX (c : UInt8) : Prop := 32 ≤ c.toNat ∧ c.toNat ≤ 126
def Plain (t : Str) : Prop := ∀ (i : Nat) c, t[i]? = some c → vX c
def oP (c : UInt8) : UInt8 := if 65 ≤ c.toNat ∧ c.toNat ≤ 90 then c + 32 else c
def sW (b : Str) : Bool := b.getLast? == some 32
def di (b : Str) (c : UInt8) : Str := if oP c = 32 ∧ (b = [] ∨ sW b = true) then b else b ++ [oP c]
def ui (b : Str) : Str := if sW b = true then b.dropLast else b
noncomputable def norm (t : Str) : Str := if t.length ≤ 100 ∧ dec (Plain t) = true then ui (t.foldl di []) else []
def aO (t : Str) : Prop := 1 ≤ t.length ∧ t.length ≤ 40 ∧ norm t ≠ []
theorem wX {t : Str} {i : Nat} {P : Nat → UInt8 → Prop} (h : ∀ j, j < i → ∀ c, t[j]? = some c → P j c) {c : UInt8} (hc : t[i]? = some c) (hp : P i c) : ∀ j, j < i + 1 → ∀ c, t[j]? = some c → P j c := by
 intro j hj d hd
 by_cases hji : j = i
 ·subst hji; rw [hc] at hd; cases hd; exact hp
 ·exact h j (by omega) d hd
theorem G6 (b : Str) (c : UInt8) : (di b c).length ≤ b.length + 1 := by
 unfold di
 split
 ·omega
 ·simp
theorem ou : ∀ (t b : Str), (t.foldl di b).length ≤ b.length + t.length
 | [], b => by simp
 | c :: t, b => by
  have h1 := ou t (di b c)
  have h2 := G6 b c
  simp only [List.foldl_cons, List.length_cons]
  omega
theorem wS {t : Str} : (norm t).length ≤ 100 := by
 unfold norm
 split
 ·rename_i h
  have := ou t []
  unfold ui
  split
  ·simp at this ⊢; omega
  ·simp at this ⊢; omega
 ·simp
noncomputable def Lp (s : Str) (p : Str × Str) : Str := s ++ (1 :: (p.1 ++ 61 :: norm p.2))
noncomputable def Uo (l : List (Str × Str)) : Str := l.reverse.foldl Lp []


def uJ : List V → List Ob → Option (V × List Ob)
 | [.str s, .int .u8 c], H => some (.int .i64 (Lib.indexByte s c.toNat.toUInt8), H)
 | _, _ => none
end Go.Lite
end
section
namespace Go.Proofs.Try1
open Go Go.Lite
def locTab : List (Nat × List Nat) := [(4, [6, 9]),
 (14, [3, 6]),
 (20, [1]),
 (22, [3, 6, 7]),
 (24, [3, 6]),
 (27, [3]),
 (28, [5]),
 (29, [3, 6]),
 (30, [4, 5]),
 (31, [4]),
 (33, [4]),
 (77, [2, 3, 5]),
 (85, [1, 4]),
 (90, [1, 2, 3]),
 (92, [2]),
 (95, [3, 6]),
 (100, [2]),
 (105, [2, 4, 6]),
 (106, [3, 6]),
 (108, [5, 8]),
 (109, [3, 6, 7, 9]),
 (110, [5]),
 (111, [3, 5, 9]),
 (112, [4]),
 (113, [2]),
 (114, [3, 4]),
 (115, [2]),
 (116, [4, 7]),
 (118, [1, 2]),
 (120, [1]),
 (121, [1]),
 (164, [1]),
 (180, [1]),
 (198, [3, 6]),
 (202, [3]),
 (207, [2]),
 (246, [2, 3]),
 (252, [1]),
 (255, [2]),
 (261, [2]),
 (315, [9])]
def ordTab : List (Nat × List (Nat × Hint)) := [(4, [(8, ⟨[0, 1, 2, 3, 4, 5, 6, 7, 9, 10, 8, 11, 12, 13, 14, 15, 16, 17, 20, 21, 18, 19, 22, 23, 24, 25, 26, 27, 28, 29, 30, 31, 32, 33, 34, 36, 35, 37, 38, 39], [], [], [(2, 6), (7, 9), (10, 9)], [], [], []⟩)]),
 (22, [(5, ⟨[0, 1, 5, 2, 3, 4, 6], [], [], [(0, 6), (6, 7)], [], [], []⟩)]),
 (24, [(5, ⟨[0, 1, 2, 3, 4, 5], [], [], [(0, 6), (5, 6)], [], [], []⟩)]),
 (77, [(5, ⟨[0, 1, 3, 6, 2, 4, 5, 7], [], [], [(0, 3), (7, 5)], [], [], []⟩), (14, ⟨[0, 1, 2, 3, 5, 4, 6, 7, 8, 9, 10], [], [], [(1, 3), (10, 3)], [(3, 0), (5, 1)], [(4, [1])], []⟩), (17, ⟨[0, 1, 2, 3, 4, 5, 6], [], [], [(1, 3)], [], [], []⟩), (19, ⟨[0, 1, 2, 5, 3, 4, 6, 7, 8, 9, 10], [], [], [(1, 3), (10, 3)], [(5, 0)], [(3, [0])], []⟩)]),
 (90, [(5, ⟨[0, 1, 2, 3, 4, 5, 6, 7, 9, 10, 11, 12, 13, 14, 8, 15, 16, 17, 18, 19, 20], [8, 15], [7, 14], [(1, 3), (3, 1), (10, 1), (20, 3)], [], [], []⟩)]),
 (94, [(4, ⟨[0, 1, 2, 3, 4, 5, 6, 7, 8, 9, 10, 11, 12, 13, 14, 15, 16, 17], [14], [9], [], [], [], []⟩)]),
 (105, [(8, ⟨[0, 1, 4, 7, 2, 3, 5, 6, 8], [], [], [(0, 4), (8, 6)], [], [], []⟩)]),
 (108, [(10, ⟨[0, 1, 2, 3, 4, 5, 6, 7, 8, 9, 10, 11, 12, 13, 14, 15, 16, 17], [15], [4, 7], [], [], [], []⟩)]),
 (110, [(5, ⟨[0, 1, 2, 4, 5, 3, 6, 7], [], [], [(2, 5), (5, 5)], [], [], []⟩)]),
 (116, [(5, ⟨[0, 1, 2, 3, 5, 6, 8, 9, 4, 7, 10, 11, 12, 13], [], [], [(1, 7), (3, 7), (6, 7), (9, 7), (12, 4)], [], [], []⟩)]),
 (120, [(8, ⟨[0, 1, 2, 3, 4, 8, 9, 5, 6, 7, 10, 11, 12, 13, 14, 15, 16, 17, 18, 19, 20, 21, 22, 23, 24], [5, 6], [8], [(1, 1), (19, 1)], [], [], []⟩)]),
 (193, [(4, ⟨[0, 1, 2, 3, 4, 5, 6, 7, 8, 9, 10, 11, 12, 13, 14, 16, 17, 18, 19, 15, 20, 21, 22, 23], [15], [19], [], [], [], []⟩)]),
 (195, [(1, ⟨[0, 2, 1, 3, 4], [1], [2], [], [], [], []⟩)]),
 (198, [(6, ⟨[0, 1, 2, 3, 5, 6, 4, 7, 8, 9, 10], [], [], [(0, 3), (10, 6)], [(2, 0), (6, 1)], [(4, [1])], []⟩)]),
 (200, [(6, ⟨[0, 1, 2, 3, 4, 5, 6, 7, 8, 10, 11, 12, 13, 9, 14, 15, 16], [9], [13], [], [], [], []⟩)]),
 (246, [(3, ⟨[0, 1, 3, 4, 5, 6, 2, 7, 8, 9], [1, 2], [5], [(9, 3)], [(1, 0), (4, 1), (6, 2)], [(2, [1, 2]), (5, [0])], []⟩)])]
def fids : List Nat := [4, 14, 17, 18, 20, 22, 23, 24, 25, 26, 27, 28, 29, 30, 31, 32, 33, 34, 35, 36, 76, 77, 78, 79, 80, 81, 82, 85, 86, 90, 91, 92, 93, 94, 95, 98, 99, 100, 101, 102, 103, 104, 105, 106, 107, 108, 109, 110, 111, 112, 113, 114, 115, 116, 117, 118, 119, 120, 121, 122, 123, 158, 160, 164, 176, 177, 179, 180, 181, 182, 183, 185, 186, 187, 193, 194, 195, 196, 197, 198, 199, 200, 201, 202, 203, 204, 205, 206, 207, 208, 209, 210, 211, 212, 222, 238, 246, 249, 250, 251, 252, 253, 254, 255, 256, 257, 258, 259, 260, 261, 264, 265, 266, 268, 269, 270, 274, 294, 295, 296, 297, 298, 299, 315, 317, 331, 332, 333, 339]
noncomputable def zO : Nat → Option (List V → List Ob → Option (V × List Ob)) := fun f => if f = 267 then some gY else if f = 314 then some qY else if f = 341 then some uJ else none
noncomputable def tabs : Tabs := { locs := fun f => (locTab.lookup f).getD [], ord := fun f id => ((ordTab.lookup f).getD []).lookup id, prim := zO, fids := fids }
theorem mixed : Tryz.prog.follows .mixedOrders = true := rfl
theorem ok : LM Tryz.prog tabs = true := by decide +kernel
end Go.Proofs.Try1
end
section
namespace Go.Proofs.Try1
open Go Go.Lite
noncomputable def C : Ctx := ctxOf Tryz.prog tabs
set_option maxRecDepth 20000
variable {a : List V} {H : List Ob} {R : V → List Ob → Prop}
@[simp] theorem Vs : C.ty 2 = ⟨.int .i64, 1, 8, [.int .i64 0]⟩ := by kernel_rfl
@[simp] theorem Vt : C.ty 3 = ⟨.int .i64, 1, 8, [.int .i64 0]⟩ := by kernel_rfl
@[simp] theorem Vu : C.ty 4 = ⟨.bool, 1, 1, [.bool false]⟩ := by kernel_rfl
@[simp] theorem Vr : C.ty 5 = ⟨.int .u8, 1, 1, [.int .u8 0]⟩ := by kernel_rfl
@[simp] theorem Vq : C.ty 9 = ⟨.str, 1, 16, [.str []]⟩ := by kernel_rfl
@[simp] theorem Vd : C.ty 21 = ⟨.int .i32, 1, 4, [.int .i32 0]⟩ := by kernel_rfl
@[simp] theorem Vj : C.ty 22 = ⟨.slice 5, 1, 24, [.slc none 0]⟩ := by kernel_rfl
@[simp] theorem Vg : C.ty 23 = ⟨.slice 89, 1, 24, [.slc none 0]⟩ := by kernel_rfl
@[simp] theorem Vm : C.ty 24 = ⟨.slice 44, 1, 24, [.slc none 0]⟩ := by kernel_rfl
@[simp] theorem Vl : C.ty 26 = ⟨.struct [(0, 23), (1, 24)], 2, 48, [.slc none 0, .slc none 0]⟩ := by kernel_rfl
@[simp] theorem Vk : C.ty 27 = ⟨.slice 9, 1, 24, [.slc none 0]⟩ := by kernel_rfl
@[simp] theorem Vf : C.ty 31 = ⟨.struct [(0, 26), (2, 2)], 3, 56, [.slc none 0, .slc none 0, .int .i64 0]⟩ := by kernel_rfl
@[simp] theorem Vo : C.ty 44 = ⟨.struct [(0, 9), (1, 27)], 2, 40, [.str [], .slc none 0]⟩ := by kernel_rfl
@[simp] theorem Vb : C.ty 46 = ⟨.slice 55, 1, 24, [.slc none 0]⟩ := by kernel_rfl
@[simp] theorem Va : C.ty 55 = ⟨.struct [(0, 9), (1, 27), (2, 27), (3, 27)], 4, 88, [.str [], .slc none 0, .slc none 0, .slc none 0]⟩ := by kernel_rfl
@[simp] theorem Ve : C.ty 89 = ⟨.struct [(0, 9), (1, 9)], 2, 32, [.str [], .str []]⟩ := by kernel_rfl
@[simp] theorem U1 : C.ty 106 = ⟨.ptr, 1, 8, [.ptr none]⟩ := by kernel_rfl
@[simp] theorem U4 : C.ty 116 = ⟨.func, 1, 8, [.nilfn]⟩ := by kernel_rfl
@[simp] theorem U7 : C.ty 118 = ⟨.ptr, 1, 8, [.ptr none]⟩ := by kernel_rfl
@[simp] theorem U5 : C.ty 141 = ⟨.func, 1, 8, [.nilfn]⟩ := by kernel_rfl
@[simp] theorem UX : C.ty 171 = ⟨.func, 1, 8, [.nilfn]⟩ := by kernel_rfl
@[simp] theorem U0 : C.ty 176 = ⟨.int .u64, 1, 8, [.int .u64 0]⟩ := by kernel_rfl
@[simp] theorem U2 : C.ty 178 = ⟨.struct [(0, 22), (1, 3), (2, 176), (3, 2)], 4, 48, [.slc none 0, .int .i64 0, .int .u64 0, .int .i64 0]⟩ := by kernel_rfl
@[simp] theorem UZ : C.ty 180 = ⟨.int .u64, 1, 8, [.int .u64 0]⟩ := by kernel_rfl
@[simp] theorem U9 : C.ty 195 = ⟨.slice 27, 1, 24, [.slc none 0]⟩ := by kernel_rfl
@[simp] theorem UU : C.ty 233 = ⟨.array 256 4, 256, 256, List.replicate 256 (.bool false)⟩ := by kernel_rfl
@[simp] theorem UV : C.ty 237 = ⟨.ptr, 1, 8, [.ptr none]⟩ := by kernel_rfl
@[simp] theorem U3 : C.ty 239 = ⟨.func, 1, 8, [.nilfn]⟩ := by kernel_rfl
@[simp] theorem UY : C.ty 284 = ⟨.array 256 5, 256, 256, List.replicate 256 (.int .u8 0)⟩ := by kernel_rfl
@[simp] theorem U6 : C.ty 286 = ⟨.struct [(0, 5), (1, 5)], 2, 2, [.int .u8 0, .int .u8 0]⟩ := by kernel_rfl
@[simp] theorem U8 : C.ty 287 = ⟨.array 16 286, 32, 32, List.replicate 32 (.int .u8 0)⟩ := by kernel_rfl
noncomputable def xg := Tryz.f4.body.getD .skip
theorem Vp : Ret C 4 a H R ↔ WP C 4 xg ⟨ag a, 0, H⟩ (aK C Tryz.f4 H R) := au rfl (by kernel_rfl) Tryz.func4 rfl
@[simp] theorem UW : C.locs 4 = [6, 9] := by kernel_rfl
noncomputable def pR := Tryz.f14.body.getD .skip
theorem SX : Ret C 14 a H R ↔ WP C 14 pR ⟨ag a, 0, H⟩ (aK C Tryz.f14 H R) := au rfl (by kernel_rfl) Tryz.func14 rfl
@[simp] theorem UC : C.locs 14 = [3, 6] := by kernel_rfl
noncomputable def CP := Tryz.f17.body.getD .skip
theorem Tn : Ret C 17 a H R ↔ WP C 17 CP ⟨ag a, 0, H⟩ (aK C Tryz.f17 H R) := au rfl (by kernel_rfl) Tryz.func17 rfl
@[simp] theorem TD : C.locs 17 = [] := by kernel_rfl
noncomputable def zq := Tryz.f18.body.getD .skip
theorem Tt : Ret C 18 a H R ↔ WP C 18 zq ⟨ag a, 0, H⟩ (aK C Tryz.f18 H R) := au rfl (by kernel_rfl) Tryz.func18 rfl
@[simp] theorem TI : C.locs 18 = [] := by kernel_rfl
noncomputable def wY := Tryz.f20.body.getD .skip
theorem TP : Ret C 20 a H R ↔ WP C 20 wY ⟨ag a, 0, H⟩ (aK C Tryz.f20 H R) := au rfl (by kernel_rfl) Tryz.func20 rfl
@[simp] theorem Ti : C.locs 20 = [1] := by kernel_rfl
noncomputable def y7 := Tryz.f22.body.getD .skip
theorem TQ : Ret C 22 a H R ↔ WP C 22 y7 ⟨ag a, 0, H⟩ (aK C Tryz.f22 H R) := au rfl (by kernel_rfl) Tryz.func22 rfl
@[simp] theorem Ut : C.locs 22 = [3, 6, 7] := by kernel_rfl
noncomputable def rZ := Tryz.f23.body.getD .skip
theorem Ul : Ret C 23 a H R ↔ WP C 23 rZ ⟨ag a, 0, H⟩ (aK C Tryz.f23 H R) := au rfl (by kernel_rfl) Tryz.func23 rfl
@[simp] theorem TY : C.locs 23 = [] := by kernel_rfl
noncomputable def zx := Tryz.f24.body.getD .skip
theorem TW : Ret C 24 a H R ↔ WP C 24 zx ⟨ag a, 0, H⟩ (aK C Tryz.f24 H R) := au rfl (by kernel_rfl) Tryz.func24 rfl
@[simp] theorem TU : C.locs 24 = [3, 6] := by kernel_rfl
noncomputable def JP := Tryz.f25.body.getD .skip
theorem TA : Ret C 25 a H R ↔ WP C 25 JP ⟨ag a, 0, H⟩ (aK C Tryz.f25 H R) := au rfl (by kernel_rfl) Tryz.func25 rfl
@[simp] theorem Tu : C.locs 25 = [] := by kernel_rfl
noncomputable def Dz := Tryz.f26.body.getD .skip
theorem TB : Ret C 26 a H R ↔ WP C 26 Dz ⟨ag a, 0, H⟩ (aK C Tryz.f26 H R) := au rfl (by kernel_rfl) Tryz.func26 rfl
@[simp] theorem UL : C.locs 26 = [] := by kernel_rfl
noncomputable def rP := Tryz.f27.body.getD .skip
theorem Uk : Ret C 27 a H R ↔ WP C 27 rP ⟨ag a, 0, H⟩ (aK C Tryz.f27 H R) := au rfl (by kernel_rfl) Tryz.func27 rfl
@[simp] theorem UG : C.locs 27 = [3] := by kernel_rfl
noncomputable def ww := Tryz.f28.body.getD .skip
theorem Tq : Ret C 28 a H R ↔ WP C 28 ww ⟨ag a, 0, H⟩ (aK C Tryz.f28 H R) := au rfl (by kernel_rfl) Tryz.func28 rfl
@[simp] theorem UA : C.locs 28 = [5] := by kernel_rfl
noncomputable def rQ := Tryz.f29.body.getD .skip
theorem TR : Ret C 29 a H R ↔ WP C 29 rQ ⟨ag a, 0, H⟩ (aK C Tryz.f29 H R) := au rfl (by kernel_rfl) Tryz.func29 rfl
@[simp] theorem Tm : C.locs 29 = [3, 6] := by kernel_rfl
noncomputable def wJ := Tryz.f30.body.getD .skip
theorem TV : Ret C 30 a H R ↔ WP C 30 wJ ⟨ag a, 0, H⟩ (aK C Tryz.f30 H R) := au rfl (by kernel_rfl) Tryz.func30 rfl
@[simp] theorem UM : C.locs 30 = [4, 5] := by kernel_rfl
noncomputable def nR := Tryz.f31.body.getD .skip
theorem UH : Ret C 31 a H R ↔ WP C 31 nR ⟨ag a, 0, H⟩ (aK C Tryz.f31 H R) := au rfl (by kernel_rfl) Tryz.func31 rfl
@[simp] theorem Tz : C.locs 31 = [4] := by kernel_rfl
noncomputable def zi := Tryz.f32.body.getD .skip
theorem TN : Ret C 32 a H R ↔ WP C 32 zi ⟨ag a, 0, H⟩ (aK C Tryz.f32 H R) := au rfl (by kernel_rfl) Tryz.func32 rfl
@[simp] theorem TC : C.locs 32 = [] := by kernel_rfl
noncomputable def Ea := Tryz.f33.body.getD .skip
theorem TK : Ret C 33 a H R ↔ WP C 33 Ea ⟨ag a, 0, H⟩ (aK C Tryz.f33 H R) := au rfl (by kernel_rfl) Tryz.func33 rfl
@[simp] theorem Uz : C.locs 33 = [4] := by kernel_rfl
noncomputable def Il := Tryz.f34.body.getD .skip
theorem Us : Ret C 34 a H R ↔ WP C 34 Il ⟨ag a, 0, H⟩ (aK C Tryz.f34 H R) := au rfl (by kernel_rfl) Tryz.func34 rfl
@[simp] theorem TG : C.locs 34 = [] := by kernel_rfl
noncomputable def Jq := Tryz.f35.body.getD .skip
theorem Tc : Ret C 35 a H R ↔ WP C 35 Jq ⟨ag a, 0, H⟩ (aK C Tryz.f35 H R) := au rfl (by kernel_rfl) Tryz.func35 rfl
@[simp] theorem SV : C.locs 35 = [] := by kernel_rfl
noncomputable def zU := Tryz.f36.body.getD .skip
theorem Um : Ret C 36 a H R ↔ WP C 36 zU ⟨ag a, 0, H⟩ (aK C Tryz.f36 H R) := au rfl (by kernel_rfl) Tryz.func36 rfl
@[simp] theorem S9 : C.locs 36 = [] := by kernel_rfl
noncomputable def IB := Tryz.f76.body.getD .skip
theorem Ur : Ret C 76 a H R ↔ WP C 76 IB ⟨ag a, 0, H⟩ (aK C Tryz.f76 H R) := au rfl (by kernel_rfl) Tryz.func76 rfl
@[simp] theorem TE : C.locs 76 = [] := by kernel_rfl
noncomputable def Jd := Tryz.f77.body.getD .skip
theorem Uu : Ret C 77 a H R ↔ WP C 77 Jd ⟨ag a, 0, H⟩ (aK C Tryz.f77 H R) := au rfl (by kernel_rfl) Tryz.func77 rfl
@[simp] theorem Ub : C.locs 77 = [2, 3, 5] := by kernel_rfl
noncomputable def I8 := Tryz.f78.body.getD .skip
theorem Tf : Ret C 78 a H R ↔ WP C 78 I8 ⟨ag a, 0, H⟩ (aK C Tryz.f78 H R) := au rfl (by kernel_rfl) Tryz.func78 rfl
@[simp] theorem SY : C.locs 78 = [] := by kernel_rfl
noncomputable def zK := Tryz.f79.body.getD .skip
theorem Uj : Ret C 79 a H R ↔ WP C 79 zK ⟨ag a, 0, H⟩ (aK C Tryz.f79 H R) := au rfl (by kernel_rfl) Tryz.func79 rfl
@[simp] theorem UN : C.locs 79 = [] := by kernel_rfl
noncomputable def IU := Tryz.f80.body.getD .skip
theorem UJ : Ret C 80 a H R ↔ WP C 80 IU ⟨ag a, 0, H⟩ (aK C Tryz.f80 H R) := au rfl (by kernel_rfl) Tryz.func80 rfl
@[simp] theorem Ui : C.locs 80 = [] := by kernel_rfl
noncomputable def IV := Tryz.f81.body.getD .skip
theorem Uy : Ret C 81 a H R ↔ WP C 81 IV ⟨ag a, 0, H⟩ (aK C Tryz.f81 H R) := au rfl (by kernel_rfl) Tryz.func81 rfl
@[simp] theorem UI : C.locs 81 = [] := by kernel_rfl
noncomputable def IL := Tryz.f82.body.getD .skip
theorem Ua : Ret C 82 a H R ↔ WP C 82 IL ⟨ag a, 0, H⟩ (aK C Tryz.f82 H R) := au rfl (by kernel_rfl) Tryz.func82 rfl
@[simp] theorem UE : C.locs 82 = [] := by kernel_rfl
noncomputable def wU := Tryz.f85.body.getD .skip
theorem TL : Ret C 85 a H R ↔ WP C 85 wU ⟨ag a, 0, H⟩ (aK C Tryz.f85 H R) := au rfl (by kernel_rfl) Tryz.func85 rfl
@[simp] theorem Tj : C.locs 85 = [1, 4] := by kernel_rfl
noncomputable def qf := Tryz.f86.body.getD .skip
theorem UB : Ret C 86 a H R ↔ WP C 86 qf ⟨ag a, 0, H⟩ (aK C Tryz.f86 H R) := au rfl (by kernel_rfl) Tryz.func86 rfl
@[simp] theorem UO : C.locs 86 = [] := by kernel_rfl
noncomputable def Ic := Tryz.f90.body.getD .skip
theorem Ug : Ret C 90 a H R ↔ WP C 90 Ic ⟨ag a, 0, H⟩ (aK C Tryz.f90 H R) := au rfl (by kernel_rfl) Tryz.func90 rfl
@[simp] theorem UK : C.locs 90 = [1, 2, 3] := by kernel_rfl
noncomputable def Ip := Tryz.f91.body.getD .skip
theorem Ux : Ret C 91 a H R ↔ WP C 91 Ip ⟨ag a, 0, H⟩ (aK C Tryz.f91 H R) := au rfl (by kernel_rfl) Tryz.func91 rfl
@[simp] theorem UR : C.locs 91 = [] := by kernel_rfl
noncomputable def IJ := Tryz.f92.body.getD .skip
theorem TZ : Ret C 92 a H R ↔ WP C 92 IJ ⟨ag a, 0, H⟩ (aK C Tryz.f92 H R) := au rfl (by kernel_rfl) Tryz.func92 rfl
@[simp] theorem Td : C.locs 92 = [2] := by kernel_rfl
noncomputable def zC := Tryz.f93.body.getD .skip
theorem Tv : Ret C 93 a H R ↔ WP C 93 zC ⟨ag a, 0, H⟩ (aK C Tryz.f93 H R) := au rfl (by kernel_rfl) Tryz.func93 rfl
@[simp] theorem Un : C.locs 93 = [] := by kernel_rfl
noncomputable def Jk := Tryz.f94.body.getD .skip
theorem Ty : Ret C 94 a H R ↔ WP C 94 Jk ⟨ag a, 0, H⟩ (aK C Tryz.f94 H R) := au rfl (by kernel_rfl) Tryz.func94 rfl
@[simp] theorem Uc : C.locs 94 = [] := by kernel_rfl
noncomputable def uQ := Tryz.f95.body.getD .skip
theorem TS : Ret C 95 a H R ↔ WP C 95 uQ ⟨ag a, 0, H⟩ (aK C Tryz.f95 H R) := au rfl (by kernel_rfl) Tryz.func95 rfl
@[simp] theorem Uw : C.locs 95 = [3, 6] := by kernel_rfl
noncomputable def su := Tryz.f98.body.getD .skip
theorem Om : Ret C 98 a H R ↔ WP C 98 su ⟨ag a, 0, H⟩ (aK C Tryz.f98 H R) := au rfl (by kernel_rfl) Tryz.func98 rfl
@[simp] theorem UF : C.locs 98 = [] := by kernel_rfl
noncomputable def CV := Tryz.f99.body.getD .skip
theorem UD : Ret C 99 a H R ↔ WP C 99 CV ⟨ag a, 0, H⟩ (aK C Tryz.f99 H R) := au rfl (by kernel_rfl) Tryz.func99 rfl
@[simp] theorem Ue : C.locs 99 = [] := by kernel_rfl
noncomputable def zo := Tryz.f100.body.getD .skip
theorem NZ : Ret C 100 a H R ↔ WP C 100 zo ⟨ag a, 0, H⟩ (aK C Tryz.f100 H R) := au rfl (by kernel_rfl) Tryz.func100 rfl
@[simp] theorem RQ : C.locs 100 = [2] := by kernel_rfl
noncomputable def Fh := Tryz.f101.body.getD .skip
theorem ND : Ret C 101 a H R ↔ WP C 101 Fh ⟨ag a, 0, H⟩ (aK C Tryz.f101 H R) := au rfl (by kernel_rfl) Tryz.func101 rfl
@[simp] theorem Q5 : C.locs 101 = [] := by kernel_rfl
noncomputable def Ey := Tryz.f102.body.getD .skip
theorem PP : Ret C 102 a H R ↔ WP C 102 Ey ⟨ag a, 0, H⟩ (aK C Tryz.f102 H R) := au rfl (by kernel_rfl) Tryz.func102 rfl
@[simp] theorem Q3 : C.locs 102 = [] := by kernel_rfl
noncomputable def Ai := Tryz.f103.body.getD .skip
theorem Oj : Ret C 103 a H R ↔ WP C 103 Ai ⟨ag a, 0, H⟩ (aK C Tryz.f103 H R) := au rfl (by kernel_rfl) Tryz.func103 rfl
@[simp] theorem RU : C.locs 103 = [] := by kernel_rfl
noncomputable def mO := Tryz.f104.body.getD .skip
theorem Pz : Ret C 104 a H R ↔ WP C 104 mO ⟨ag a, 0, H⟩ (aK C Tryz.f104 H R) := au rfl (by kernel_rfl) Tryz.func104 rfl
@[simp] theorem Qj : C.locs 104 = [] := by kernel_rfl
noncomputable def zn := Tryz.f105.body.getD .skip
theorem Oi : Ret C 105 a H R ↔ WP C 105 zn ⟨ag a, 0, H⟩ (aK C Tryz.f105 H R) := au rfl (by kernel_rfl) Tryz.func105 rfl
@[simp] theorem Si : C.locs 105 = [2, 4, 6] := by kernel_rfl
noncomputable def og := Tryz.f106.body.getD .skip
theorem NP : Ret C 106 a H R ↔ WP C 106 og ⟨ag a, 0, H⟩ (aK C Tryz.f106 H R) := au rfl (by kernel_rfl) Tryz.func106 rfl
@[simp] theorem QK : C.locs 106 = [3, 6] := by kernel_rfl
noncomputable def EQ := Tryz.f107.body.getD .skip
theorem Nw : Ret C 107 a H R ↔ WP C 107 EQ ⟨ag a, 0, H⟩ (aK C Tryz.f107 H R) := au rfl (by kernel_rfl) Tryz.func107 rfl
@[simp] theorem RZ : C.locs 107 = [] := by kernel_rfl
noncomputable def uG := Tryz.f108.body.getD .skip
theorem Oz : Ret C 108 a H R ↔ WP C 108 uG ⟨ag a, 0, H⟩ (aK C Tryz.f108 H R) := au rfl (by kernel_rfl) Tryz.func108 rfl
@[simp] theorem Q9 : C.locs 108 = [5, 8] := by kernel_rfl
noncomputable def Ez := Tryz.f109.body.getD .skip
theorem Ph : Ret C 109 a H R ↔ WP C 109 Ez ⟨ag a, 0, H⟩ (aK C Tryz.f109 H R) := au rfl (by kernel_rfl) Tryz.func109 rfl
@[simp] theorem Rq : C.locs 109 = [3, 6, 7, 9] := by kernel_rfl
noncomputable def EM := Tryz.f110.body.getD .skip
theorem Pj : Ret C 110 a H R ↔ WP C 110 EM ⟨ag a, 0, H⟩ (aK C Tryz.f110 H R) := au rfl (by kernel_rfl) Tryz.func110 rfl
@[simp] theorem SH : C.locs 110 = [5] := by kernel_rfl
noncomputable def uI := Tryz.f111.body.getD .skip
theorem Pv : Ret C 111 a H R ↔ WP C 111 uI ⟨ag a, 0, H⟩ (aK C Tryz.f111 H R) := au rfl (by kernel_rfl) Tryz.func111 rfl
@[simp] theorem Qg : C.locs 111 = [3, 5, 9] := by kernel_rfl
noncomputable def zB := Tryz.f112.body.getD .skip
theorem Nr : Ret C 112 a H R ↔ WP C 112 zB ⟨ag a, 0, H⟩ (aK C Tryz.f112 H R) := au rfl (by kernel_rfl) Tryz.func112 rfl
@[simp] theorem Qs : C.locs 112 = [4] := by kernel_rfl
noncomputable def zk := Tryz.f113.body.getD .skip
theorem NI : Ret C 113 a H R ↔ WP C 113 zk ⟨ag a, 0, H⟩ (aK C Tryz.f113 H R) := au rfl (by kernel_rfl) Tryz.func113 rfl
@[simp] theorem QC : C.locs 113 = [2] := by kernel_rfl
noncomputable def uA := Tryz.f114.body.getD .skip
theorem NY : Ret C 114 a H R ↔ WP C 114 uA ⟨ag a, 0, H⟩ (aK C Tryz.f114 H R) := au rfl (by kernel_rfl) Tryz.func114 rfl
@[simp] theorem RF : C.locs 114 = [3, 4] := by kernel_rfl
noncomputable def Fq := Tryz.f115.body.getD .skip
theorem PD : Ret C 115 a H R ↔ WP C 115 Fq ⟨ag a, 0, H⟩ (aK C Tryz.f115 H R) := au rfl (by kernel_rfl) Tryz.func115 rfl
@[simp] theorem Rt : C.locs 115 = [2] := by kernel_rfl
noncomputable def zL := Tryz.f116.body.getD .skip
theorem N9 : Ret C 116 a H R ↔ WP C 116 zL ⟨ag a, 0, H⟩ (aK C Tryz.f116 H R) := au rfl (by kernel_rfl) Tryz.func116 rfl
@[simp] theorem Qw : C.locs 116 = [4, 7] := by kernel_rfl
noncomputable def Ew := Tryz.f117.body.getD .skip
theorem O0 : Ret C 117 a H R ↔ WP C 117 Ew ⟨ag a, 0, H⟩ (aK C Tryz.f117 H R) := au rfl (by kernel_rfl) Tryz.func117 rfl
@[simp] theorem Qn : C.locs 117 = [] := by kernel_rfl
noncomputable def Fj := Tryz.f118.body.getD .skip
theorem NW : Ret C 118 a H R ↔ WP C 118 Fj ⟨ag a, 0, H⟩ (aK C Tryz.f118 H R) := au rfl (by kernel_rfl) Tryz.func118 rfl
@[simp] theorem SB : C.locs 118 = [1, 2] := by kernel_rfl
noncomputable def EX := Tryz.f119.body.getD .skip
theorem PS : Ret C 119 a H R ↔ WP C 119 EX ⟨ag a, 0, H⟩ (aK C Tryz.f119 H R) := au rfl (by kernel_rfl) Tryz.func119 rfl
@[simp] theorem Qz : C.locs 119 = [] := by kernel_rfl
noncomputable def F9 := Tryz.f120.body.getD .skip
theorem Np : Ret C 120 a H R ↔ WP C 120 F9 ⟨ag a, 0, H⟩ (aK C Tryz.f120 H R) := au rfl (by kernel_rfl) Tryz.func120 rfl
@[simp] theorem RI : C.locs 120 = [1] := by kernel_rfl
noncomputable def jP := Tryz.f121.body.getD .skip
theorem PE : Ret C 121 a H R ↔ WP C 121 jP ⟨ag a, 0, H⟩ (aK C Tryz.f121 H R) := au rfl (by kernel_rfl) Tryz.func121 rfl
@[simp] theorem SE : C.locs 121 = [1] := by kernel_rfl
noncomputable def FK := Tryz.f122.body.getD .skip
theorem OX : Ret C 122 a H R ↔ WP C 122 FK ⟨ag a, 0, H⟩ (aK C Tryz.f122 H R) := au rfl (by kernel_rfl) Tryz.func122 rfl
@[simp] theorem Q7 : C.locs 122 = [] := by kernel_rfl
noncomputable def Et := Tryz.f123.body.getD .skip
theorem PV : Ret C 123 a H R ↔ WP C 123 Et ⟨ag a, 0, H⟩ (aK C Tryz.f123 H R) := au rfl (by kernel_rfl) Tryz.func123 rfl
@[simp] theorem Sv : C.locs 123 = [] := by kernel_rfl
noncomputable def y9 := Tryz.f158.body.getD .skip
theorem O1 : Ret C 158 a H R ↔ WP C 158 y9 ⟨ag a, 0, H⟩ (aK C Tryz.f158 H R) := au rfl (by kernel_rfl) Tryz.func158 rfl
@[simp] theorem Qr : C.locs 158 = [] := by kernel_rfl
noncomputable def FT := Tryz.f160.body.getD .skip
theorem OA : Ret C 160 a H R ↔ WP C 160 FT ⟨ag a, 0, H⟩ (aK C Tryz.f160 H R) := au rfl (by kernel_rfl) Tryz.func160 rfl
@[simp] theorem SK : C.locs 160 = [] := by kernel_rfl
noncomputable def uM := Tryz.f164.body.getD .skip
theorem Oh : Ret C 164 a H R ↔ WP C 164 uM ⟨ag a, 0, H⟩ (aK C Tryz.f164 H R) := au rfl (by kernel_rfl) Tryz.func164 rfl
@[simp] theorem QQ : C.locs 164 = [1] := by kernel_rfl
noncomputable def E5 := Tryz.f176.body.getD .skip
theorem NL : Ret C 176 a H R ↔ WP C 176 E5 ⟨ag a, 0, H⟩ (aK C Tryz.f176 H R) := au rfl (by kernel_rfl) Tryz.func176 rfl
@[simp] theorem QU : C.locs 176 = [] := by kernel_rfl
noncomputable def zu := Tryz.f177.body.getD .skip
theorem Pq : Ret C 177 a H R ↔ WP C 177 zu ⟨ag a, 0, H⟩ (aK C Tryz.f177 H R) := au rfl (by kernel_rfl) Tryz.func177 rfl
@[simp] theorem P7 : C.locs 177 = [] := by kernel_rfl
noncomputable def Fa := Tryz.f179.body.getD .skip
theorem Nq : Ret C 179 a H R ↔ WP C 179 Fa ⟨ag a, 0, H⟩ (aK C Tryz.f179 H R) := au rfl (by kernel_rfl) Tryz.func179 rfl
@[simp] theorem Rx : C.locs 179 = [] := by kernel_rfl
noncomputable def uK := Tryz.f180.body.getD .skip
theorem Og : Ret C 180 a H R ↔ WP C 180 uK ⟨ag a, 0, H⟩ (aK C Tryz.f180 H R) := au rfl (by kernel_rfl) Tryz.func180 rfl
@[simp] theorem RV : C.locs 180 = [1] := by kernel_rfl
noncomputable def uH := Tryz.f181.body.getD .skip
theorem Py : Ret C 181 a H R ↔ WP C 181 uH ⟨ag a, 0, H⟩ (aK C Tryz.f181 H R) := au rfl (by kernel_rfl) Tryz.func181 rfl
@[simp] theorem QF : C.locs 181 = [] := by kernel_rfl
noncomputable def E8 := Tryz.f182.body.getD .skip
theorem NG : Ret C 182 a H R ↔ WP C 182 E8 ⟨ag a, 0, H⟩ (aK C Tryz.f182 H R) := au rfl (by kernel_rfl) Tryz.func182 rfl
@[simp] theorem RP : C.locs 182 = [] := by kernel_rfl
noncomputable def FZ := Tryz.f183.body.getD .skip
theorem Ov : Ret C 183 a H R ↔ WP C 183 FZ ⟨ag a, 0, H⟩ (aK C Tryz.f183 H R) := au rfl (by kernel_rfl) Tryz.func183 rfl
@[simp] theorem Qv : C.locs 183 = [] := by kernel_rfl
noncomputable def qX := Tryz.f185.body.getD .skip
theorem Ol : Ret C 185 a H R ↔ WP C 185 qX ⟨ag a, 0, H⟩ (aK C Tryz.f185 H R) := au rfl (by kernel_rfl) Tryz.func185 rfl
@[simp] theorem SN : C.locs 185 = [] := by kernel_rfl
noncomputable def Em := Tryz.f186.body.getD .skip
theorem O3 : Ret C 186 a H R ↔ WP C 186 Em ⟨ag a, 0, H⟩ (aK C Tryz.f186 H R) := au rfl (by kernel_rfl) Tryz.func186 rfl
@[simp] theorem Qb : C.locs 186 = [] := by kernel_rfl
noncomputable def uy := Tryz.f187.body.getD .skip
theorem Oa : Ret C 187 a H R ↔ WP C 187 uy ⟨ag a, 0, H⟩ (aK C Tryz.f187 H R) := au rfl (by kernel_rfl) Tryz.func187 rfl
@[simp] theorem QW : C.locs 187 = [] := by kernel_rfl
noncomputable def F6 := Tryz.f193.body.getD .skip
theorem PO : Ret C 193 a H R ↔ WP C 193 F6 ⟨ag a, 0, H⟩ (aK C Tryz.f193 H R) := au rfl (by kernel_rfl) Tryz.func193 rfl
@[simp] theorem P8 : C.locs 193 = [] := by kernel_rfl
noncomputable def yX := Tryz.f194.body.getD .skip
theorem O8 : Ret C 194 a H R ↔ WP C 194 yX ⟨ag a, 0, H⟩ (aK C Tryz.f194 H R) := au rfl (by kernel_rfl) Tryz.func194 rfl
@[simp] theorem QH : C.locs 194 = [] := by kernel_rfl
noncomputable def EF := Tryz.f195.body.getD .skip
theorem OG : Ret C 195 a H R ↔ WP C 195 EF ⟨ag a, 0, H⟩ (aK C Tryz.f195 H R) := au rfl (by kernel_rfl) Tryz.func195 rfl
@[simp] theorem Qc : C.locs 195 = [] := by kernel_rfl
noncomputable def EJ := Tryz.f196.body.getD .skip
theorem OZ : Ret C 196 a H R ↔ WP C 196 EJ ⟨ag a, 0, H⟩ (aK C Tryz.f196 H R) := au rfl (by kernel_rfl) Tryz.func196 rfl
@[simp] theorem QD : C.locs 196 = [] := by kernel_rfl
noncomputable def uo := Tryz.f197.body.getD .skip
theorem OU : Ret C 197 a H R ↔ WP C 197 uo ⟨ag a, 0, H⟩ (aK C Tryz.f197 H R) := au rfl (by kernel_rfl) Tryz.func197 rfl
@[simp] theorem Qh : C.locs 197 = [] := by kernel_rfl
noncomputable def oh := Tryz.f198.body.getD .skip
theorem PM : Ret C 198 a H R ↔ WP C 198 oh ⟨ag a, 0, H⟩ (aK C Tryz.f198 H R) := au rfl (by kernel_rfl) Tryz.func198 rfl
@[simp] theorem QT : C.locs 198 = [3, 6] := by kernel_rfl
noncomputable def Am := Tryz.f199.body.getD .skip
theorem Px : Ret C 199 a H R ↔ WP C 199 Am ⟨ag a, 0, H⟩ (aK C Tryz.f199 H R) := au rfl (by kernel_rfl) Tryz.func199 rfl
@[simp] theorem Rz : C.locs 199 = [] := by kernel_rfl
noncomputable def En := Tryz.f200.body.getD .skip
theorem OH : Ret C 200 a H R ↔ WP C 200 En ⟨ag a, 0, H⟩ (aK C Tryz.f200 H R) := au rfl (by kernel_rfl) Tryz.func200 rfl
@[simp] theorem Q4 : C.locs 200 = [] := by kernel_rfl
noncomputable def mf := Tryz.f201.body.getD .skip
theorem LK : Ret C 201 a H R ↔ WP C 201 mf ⟨ag a, 0, H⟩ (aK C Tryz.f201 H R) := au rfl (by kernel_rfl) Tryz.func201 rfl
@[simp] theorem RH : C.locs 201 = [] := by kernel_rfl
noncomputable def uB := Tryz.f202.body.getD .skip
theorem Ox : Ret C 202 a H R ↔ WP C 202 uB ⟨ag a, 0, H⟩ (aK C Tryz.f202 H R) := au rfl (by kernel_rfl) Tryz.func202 rfl
@[simp] theorem QO : C.locs 202 = [3] := by kernel_rfl
noncomputable def FU := Tryz.f203.body.getD .skip
theorem PQ : Ret C 203 a H R ↔ WP C 203 FU ⟨ag a, 0, H⟩ (aK C Tryz.f203 H R) := au rfl (by kernel_rfl) Tryz.func203 rfl
@[simp] theorem RX : C.locs 203 = [] := by kernel_rfl
noncomputable def uN := Tryz.f204.body.getD .skip
theorem Lt : Ret C 204 a H R ↔ WP C 204 uN ⟨ag a, 0, H⟩ (aK C Tryz.f204 H R) := au rfl (by kernel_rfl) Tryz.func204 rfl
@[simp] theorem PY : C.locs 204 = [] := by kernel_rfl
noncomputable def FC := Tryz.f205.body.getD .skip
theorem OD : Ret C 205 a H R ↔ WP C 205 FC ⟨ag a, 0, H⟩ (aK C Tryz.f205 H R) := au rfl (by kernel_rfl) Tryz.func205 rfl
@[simp] theorem Qo : C.locs 205 = [] := by kernel_rfl
noncomputable def F8 := Tryz.f206.body.getD .skip
theorem PN : Ret C 206 a H R ↔ WP C 206 F8 ⟨ag a, 0, H⟩ (aK C Tryz.f206 H R) := au rfl (by kernel_rfl) Tryz.func206 rfl
@[simp] theorem SS : C.locs 206 = [] := by kernel_rfl
noncomputable def FB := Tryz.f207.body.getD .skip
theorem Nl : Ret C 207 a H R ↔ WP C 207 FB ⟨ag a, 0, H⟩ (aK C Tryz.f207 H R) := au rfl (by kernel_rfl) Tryz.func207 rfl
@[simp] theorem QN : C.locs 207 = [2] := by kernel_rfl
noncomputable def FY := Tryz.f208.body.getD .skip
theorem NS : Ret C 208 a H R ↔ WP C 208 FY ⟨ag a, 0, H⟩ (aK C Tryz.f208 H R) := au rfl (by kernel_rfl) Tryz.func208 rfl
@[simp] theorem Ru : C.locs 208 = [] := by kernel_rfl
noncomputable def ED := Tryz.f209.body.getD .skip
theorem NM : Ret C 209 a H R ↔ WP C 209 ED ⟨ag a, 0, H⟩ (aK C Tryz.f209 H R) := au rfl (by kernel_rfl) Tryz.func209 rfl
@[simp] theorem QL : C.locs 209 = [] := by kernel_rfl
noncomputable def Fg := Tryz.f210.body.getD .skip
theorem NK : Ret C 210 a H R ↔ WP C 210 Fg ⟨ag a, 0, H⟩ (aK C Tryz.f210 H R) := au rfl (by kernel_rfl) Tryz.func210 rfl
@[simp] theorem SA : C.locs 210 = [] := by kernel_rfl
noncomputable def EC := Tryz.f211.body.getD .skip
theorem NH : Ret C 211 a H R ↔ WP C 211 EC ⟨ag a, 0, H⟩ (aK C Tryz.f211 H R) := au rfl (by kernel_rfl) Tryz.func211 rfl
@[simp] theorem Ql : C.locs 211 = [] := by kernel_rfl
noncomputable def Ac := Tryz.f212.body.getD .skip
theorem OL : Ret C 212 a H R ↔ WP C 212 Ac ⟨ag a, 0, H⟩ (aK C Tryz.f212 H R) := au rfl (by kernel_rfl) Tryz.func212 rfl
@[simp] theorem Qx : C.locs 212 = [] := by kernel_rfl
noncomputable def uw := Tryz.f222.body.getD .skip
theorem PU : Ret C 222 a H R ↔ WP C 222 uw ⟨ag a, 0, H⟩ (aK C Tryz.f222 H R) := au rfl (by kernel_rfl) Tryz.func222 rfl
@[simp] theorem Qd : C.locs 222 = [] := by kernel_rfl
noncomputable def ql := Tryz.f238.body.getD .skip
theorem OM : Ret C 238 a H R ↔ WP C 238 ql ⟨ag a, 0, H⟩ (aK C Tryz.f238 H R) := au rfl (by kernel_rfl) Tryz.func238 rfl
@[simp] theorem Qu : C.locs 238 = [] := by kernel_rfl
noncomputable def uq := Tryz.f246.body.getD .skip
theorem NJ : Ret C 246 a H R ↔ WP C 246 uq ⟨ag a, 0, H⟩ (aK C Tryz.f246 H R) := au rfl (by kernel_rfl) Tryz.func246 rfl
@[simp] theorem QI : C.locs 246 = [2, 3] := by kernel_rfl
noncomputable def Fe := Tryz.f249.body.getD .skip
theorem OV : Ret C 249 a H R ↔ WP C 249 Fe ⟨ag a, 0, H⟩ (aK C Tryz.f249 H R) := au rfl (by kernel_rfl) Tryz.func249 rfl
@[simp] theorem Qe : C.locs 249 = [] := by kernel_rfl
noncomputable def Gg := Tryz.f250.body.getD .skip
theorem OQ : Ret C 250 a H R ↔ WP C 250 Gg ⟨ag a, 0, H⟩ (aK C Tryz.f250 H R) := au rfl (by kernel_rfl) Tryz.func250 rfl
@[simp] theorem Sz : C.locs 250 = [] := by kernel_rfl
noncomputable def Ep := Tryz.f251.body.getD .skip
theorem NQ : Ret C 251 a H R ↔ WP C 251 Ep ⟨ag a, 0, H⟩ (aK C Tryz.f251 H R) := au rfl (by kernel_rfl) Tryz.func251 rfl
@[simp] theorem P5 : C.locs 251 = [] := by kernel_rfl
noncomputable def Gf := Tryz.f252.body.getD .skip
theorem Ny : Ret C 252 a H R ↔ WP C 252 Gf ⟨ag a, 0, H⟩ (aK C Tryz.f252 H R) := au rfl (by kernel_rfl) Tryz.func252 rfl
@[simp] theorem Sr : C.locs 252 = [1] := by kernel_rfl
@[simp] theorem Rh : C.locs 253 = [] := by kernel_rfl
@[simp] theorem RJ : C.locs 254 = [] := by kernel_rfl
noncomputable def Ff := Tryz.f255.body.getD .skip
theorem OW : Ret C 255 a H R ↔ WP C 255 Ff ⟨ag a, 0, H⟩ (aK C Tryz.f255 H R) := au rfl (by kernel_rfl) Tryz.func255 rfl
@[simp] theorem PX : C.locs 255 = [2] := by kernel_rfl
noncomputable def EW := Tryz.f256.body.getD .skip
theorem NU : Ret C 256 a H R ↔ WP C 256 EW ⟨ag a, 0, H⟩ (aK C Tryz.f256 H R) := au rfl (by kernel_rfl) Tryz.func256 rfl
@[simp] theorem Sj : C.locs 256 = [] := by kernel_rfl
noncomputable def ER := Tryz.f257.body.getD .skip
theorem Nj : Ret C 257 a H R ↔ WP C 257 ER ⟨ag a, 0, H⟩ (aK C Tryz.f257 H R) := au rfl (by kernel_rfl) Tryz.func257 rfl
@[simp] theorem QM : C.locs 257 = [] := by kernel_rfl
@[simp] theorem QZ : C.locs 258 = [] := by kernel_rfl
@[simp] theorem Ri : C.locs 259 = [] := by kernel_rfl
noncomputable def FV := Tryz.f260.body.getD .skip
theorem O5 : Ret C 260 a H R ↔ WP C 260 FV ⟨ag a, 0, H⟩ (aK C Tryz.f260 H R) := au rfl (by kernel_rfl) Tryz.func260 rfl
@[simp] theorem SQ : C.locs 260 = [] := by kernel_rfl
noncomputable def FI := Tryz.f261.body.getD .skip
theorem Oe : Ret C 261 a H R ↔ WP C 261 FI ⟨ag a, 0, H⟩ (aK C Tryz.f261 H R) := au rfl (by kernel_rfl) Tryz.func261 rfl
@[simp] theorem Qi : C.locs 261 = [2] := by kernel_rfl
noncomputable def EO := Tryz.f264.body.getD .skip
theorem PR : Ret C 264 a H R ↔ WP C 264 EO ⟨ag a, 0, H⟩ (aK C Tryz.f264 H R) := au rfl (by kernel_rfl) Tryz.func264 rfl
@[simp] theorem RN : C.locs 264 = [] := by kernel_rfl
noncomputable def F7 := Tryz.f265.body.getD .skip
theorem Nk : Ret C 265 a H R ↔ WP C 265 F7 ⟨ag a, 0, H⟩ (aK C Tryz.f265 H R) := au rfl (by kernel_rfl) Tryz.func265 rfl
@[simp] theorem Rk : C.locs 265 = [] := by kernel_rfl
noncomputable def FX := Tryz.f266.body.getD .skip
theorem Ot : Ret C 266 a H R ↔ WP C 266 FX ⟨ag a, 0, H⟩ (aK C Tryz.f266 H R) := au rfl (by kernel_rfl) Tryz.func266 rfl
@[simp] theorem RY : C.locs 266 = [] := by kernel_rfl
noncomputable def jS := Tryz.f268.body.getD .skip
theorem yf : Ret C 268 a H R ↔ WP C 268 jS ⟨ag a, 0, H⟩ (aK C Tryz.f268 H R) := au rfl (by kernel_rfl) Tryz.func268 rfl
@[simp] theorem Qm : C.locs 268 = [] := by kernel_rfl
noncomputable def yR := Tryz.f269.body.getD .skip
theorem LC : Ret C 269 a H R ↔ WP C 269 yR ⟨ag a, 0, H⟩ (aK C Tryz.f269 H R) := au rfl (by kernel_rfl) Tryz.func269 rfl
@[simp] theorem QE : C.locs 269 = [] := by kernel_rfl
noncomputable def uk := Tryz.f270.body.getD .skip
theorem Nh : Ret C 270 a H R ↔ WP C 270 uk ⟨ag a, 0, H⟩ (aK C Tryz.f270 H R) := au rfl (by kernel_rfl) Tryz.func270 rfl
@[simp] theorem Ry : C.locs 270 = [] := by kernel_rfl
noncomputable def ES := Tryz.f274.body.getD .skip
theorem PT : Ret C 274 a H R ↔ WP C 274 ES ⟨ag a, 0, H⟩ (aK C Tryz.f274 H R) := au rfl (by kernel_rfl) Tryz.func274 rfl
@[simp] theorem QJ : C.locs 274 = [] := by kernel_rfl
noncomputable def FN := Tryz.f294.body.getD .skip
theorem NC : Ret C 294 a H R ↔ WP C 294 FN ⟨ag a, 0, H⟩ (aK C Tryz.f294 H R) := au rfl (by kernel_rfl) Tryz.func294 rfl
@[simp] theorem RG : C.locs 294 = [] := by kernel_rfl
noncomputable def EL := Tryz.f295.body.getD .skip
theorem Pg : Ret C 295 a H R ↔ WP C 295 EL ⟨ag a, 0, H⟩ (aK C Tryz.f295 H R) := au rfl (by kernel_rfl) Tryz.func295 rfl
@[simp] theorem RD : C.locs 295 = [] := by kernel_rfl
noncomputable def EY := Tryz.f296.body.getD .skip
theorem OJ : Ret C 296 a H R ↔ WP C 296 EY ⟨ag a, 0, H⟩ (aK C Tryz.f296 H R) := au rfl (by kernel_rfl) Tryz.func296 rfl
@[simp] theorem Su : C.locs 296 = [] := by kernel_rfl
@[simp] theorem Qp : C.locs 297 = [] := by kernel_rfl
@[simp] theorem QS : C.locs 298 = [] := by kernel_rfl
@[simp] theorem PZ : C.locs 299 = [] := by kernel_rfl
@[simp] theorem Rn : C.locs 315 = [9] := by kernel_rfl
@[simp] theorem Qy : C.locs 317 = [] := by kernel_rfl
@[simp] theorem P6 : C.locs 331 = [] := by kernel_rfl
@[simp] theorem RS : C.locs 332 = [] := by kernel_rfl
@[simp] theorem QX : C.locs 333 = [] := by kernel_rfl
@[simp] theorem Qq : C.locs 339 = [] := by kernel_rfl
@[simp] theorem Uh : C.ord 4 8 = some ⟨[0, 1, 2, 3, 4, 5, 6, 7, 9, 10, 8, 11, 12, 13, 14, 15, 16, 17, 20, 21, 18, 19, 22, 23, 24, 25, 26, 27, 28, 29, 30, 31, 32, 33, 34, 36, 35, 37, 38, 39], [], [], [(2, 6), (7, 9), (10, 9)], [], [], []⟩ := by kernel_rfl
@[simp] theorem QB : C.ord 4 23 = none := by kernel_rfl
@[simp] theorem Sm : C.ord 17 6 = none := by kernel_rfl
@[simp] theorem Rf : C.ord 22 5 = some ⟨[0, 1, 5, 2, 3, 4, 6], [], [], [(0, 6), (6, 7)], [], [], []⟩ := by kernel_rfl
@[simp] theorem QG : C.ord 22 8 = none := by kernel_rfl
@[simp] theorem QA : C.ord 24 5 = some ⟨[0, 1, 2, 3, 4, 5], [], [], [(0, 6), (5, 6)], [], [], []⟩ := by kernel_rfl
@[simp] theorem Ro : C.ord 24 6 = none := by kernel_rfl
@[simp] theorem SG : C.ord 29 8 = none := by kernel_rfl
@[simp] theorem Rl : C.ord 33 6 = none := by kernel_rfl
@[simp] theorem Qa : C.ord 34 4 = none := by kernel_rfl
@[simp] theorem Q8 : C.ord 76 5 = none := by kernel_rfl
@[simp] theorem SC : C.ord 77 5 = some ⟨[0, 1, 3, 6, 2, 4, 5, 7], [], [], [(0, 3), (7, 5)], [], [], []⟩ := by kernel_rfl
@[simp] theorem O4 : C.ord 77 14 = some ⟨[0, 1, 2, 3, 5, 4, 6, 7, 8, 9, 10], [], [], [(1, 3), (10, 3)], [(3, 0), (5, 1)], [(4, [1])], []⟩ := by kernel_rfl
@[simp] theorem OC : C.ord 77 17 = some ⟨[0, 1, 2, 3, 4, 5, 6], [], [], [(1, 3)], [], [], []⟩ := by kernel_rfl
@[simp] theorem OB : C.ord 77 19 = some ⟨[0, 1, 2, 5, 3, 4, 6, 7, 8, 9, 10], [], [], [(1, 3), (10, 3)], [(5, 0)], [(3, [0])], []⟩ := by kernel_rfl
@[simp] theorem QV : C.ord 79 4 = none := by kernel_rfl
@[simp] theorem QR : C.ord 79 5 = none := by kernel_rfl
@[simp] theorem SI : C.ord 79 7 = none := by kernel_rfl
@[simp] theorem Qk : C.ord 79 8 = none := by kernel_rfl
@[simp] theorem Rj : C.ord 79 9 = none := by kernel_rfl
@[simp] theorem QY : C.ord 85 6 = none := by kernel_rfl
@[simp] theorem QP : C.ord 90 5 = some ⟨[0, 1, 2, 3, 4, 5, 6, 7, 9, 10, 11, 12, 13, 14, 8, 15, 16, 17, 18, 19, 20], [8, 15], [7, 14], [(1, 3), (3, 1), (10, 1), (20, 3)], [], [], []⟩ := by kernel_rfl
@[simp] theorem SL : C.ord 94 4 = some ⟨[0, 1, 2, 3, 4, 5, 6, 7, 8, 9, 10, 11, 12, 13, 14, 15, 16, 17], [14], [9], [], [], [], []⟩ := by kernel_rfl
@[simp] theorem Nv : C.ord 102 4 = none := by kernel_rfl
@[simp] theorem Oy : C.ord 105 8 = some ⟨[0, 1, 4, 7, 2, 3, 5, 6, 8], [], [], [(0, 4), (8, 6)], [], [], []⟩ := by kernel_rfl
@[simp] theorem Nb : C.ord 108 10 = some ⟨[0, 1, 2, 3, 4, 5, 6, 7, 8, 9, 10, 11, 12, 13, 14, 15, 16, 17], [15], [4, 7], [], [], [], []⟩ := by kernel_rfl
@[simp] theorem O6 : C.ord 110 5 = some ⟨[0, 1, 2, 4, 5, 3, 6, 7], [], [], [(2, 5), (5, 5)], [], [], []⟩ := by kernel_rfl
@[simp] theorem O9 : C.ord 111 2 = none := by kernel_rfl
@[simp] theorem PW : C.ord 111 7 = none := by kernel_rfl
@[simp] theorem NE : C.ord 116 5 = some ⟨[0, 1, 2, 3, 5, 6, 8, 9, 4, 7, 10, 11, 12, 13], [], [], [(1, 7), (3, 7), (6, 7), (9, 7), (12, 4)], [], [], []⟩ := by kernel_rfl
@[simp] theorem Oq : C.ord 120 8 = some ⟨[0, 1, 2, 3, 4, 8, 9, 5, 6, 7, 10, 11, 12, 13, 14, 15, 16, 17, 18, 19, 20, 21, 22, 23, 24], [5, 6], [8], [(1, 1), (19, 1)], [], [], []⟩ := by kernel_rfl
@[simp] theorem Nu : C.ord 121 6 = none := by kernel_rfl
@[simp] theorem Nc : C.ord 121 11 = none := by kernel_rfl
@[simp] theorem OO : C.ord 160 4 = none := by kernel_rfl
@[simp] theorem PG : C.ord 182 4 = none := by kernel_rfl
@[simp] theorem Pn : C.ord 193 4 = some ⟨[0, 1, 2, 3, 4, 5, 6, 7, 8, 9, 10, 11, 12, 13, 14, 16, 17, 18, 19, 15, 20, 21, 22, 23], [15], [19], [], [], [], []⟩ := by kernel_rfl
@[simp] theorem Pi : C.ord 195 1 = some ⟨[0, 2, 1, 3, 4], [1], [2], [], [], [], []⟩ := by kernel_rfl
@[simp] theorem NV : C.ord 198 6 = some ⟨[0, 1, 2, 3, 5, 6, 4, 7, 8, 9, 10], [], [], [(0, 3), (10, 6)], [(2, 0), (6, 1)], [(4, [1])], []⟩ := by kernel_rfl
@[simp] theorem Ou : C.ord 200 6 = some ⟨[0, 1, 2, 3, 4, 5, 6, 7, 8, 10, 11, 12, 13, 9, 14, 15, 16], [9], [13], [], [], [], []⟩ := by kernel_rfl
@[simp] theorem BL : C.ord 246 3 = some ⟨[0, 1, 3, 4, 5, 6, 2, 7, 8, 9], [1, 2], [5], [(9, 3)], [(1, 0), (4, 1), (6, 2)], [(2, [1, 2]), (5, [0])], []⟩ := by kernel_rfl
@[simp] theorem O7 : C.ord 268 6 = none := by kernel_rfl
@[simp] theorem Na : C.ord 268 11 = none := by kernel_rfl
end Go.Proofs.Try1
end
section
namespace Go.Lite
open Go
def xk (b : Str) : List V := b.map fun c => .int .u8 c.toNat
theorem yU {b : Str} : (xk b).length = b.length := by simp [xk]
theorem Lc {b : Str} {i : Nat} {c : UInt8} (h : b[i]? = some c) : (xk b)[i]? = some (.int .u8 c.toNat) := by simp [xk, h]
theorem He {c : UInt8} : gy (.int .u8 c.toNat) = some c := by
 simp [gy]
theorem ng : ∀ {b : Str}, (xk b).mapM gy = some b
 | [] => rfl
 | c :: b => by
  have := ng (b := b)
  simp only [xk, List.map_cons, List.mapM_cons, He] at this ⊢
  rw [this]
  rfl
theorem Dx {a b : Str} : xk (a ++ b) = xk a ++ xk b := by simp [xk]
theorem Ir {b : Str} {n : Nat} : (xk b).take n = xk (b.take n) := by simp [xk, List.map_take]
def Bs (H G : List Ob) (v : V) (b : Str) : Prop := ∃ T id, G = H ++ T ∧ H.length ≤ id ∧ G[id]? = some (.mk true 1 (xk b)) ∧ v = .slc (some (id, 0)) b.length
theorem Bs.init {H : List Ob} : Bs H (H ++ [.mk true 1 []]) (.slc (some (H.length, 0)) 0) [] := ⟨_, H.length, rfl, Nat.le_refl _, by simp [xk], rfl⟩
section
variable {H G : List Ob} {v : V} {b : Str}
theorem Bs.push (h : Bs H G v b) (hb : b.length ≤ 1000000000) {c : UInt8} {z : List V} {d : LD} (hz : z.length = 1) : ∃ v' G', aT ⟨d, 1, 1, z⟩ (G ++ [.mk true 1 [.int .u8 c.toNat]]) v (.slc (some (G.length, 0)) 1) = some (v', G') ∧ Bs H G' v' (b ++ [c]) := by
 obtain ⟨T, id, rfl, h1, h2, rfl⟩ := h
 have hid : id < (H ++ T).length := (List.getElem?_eq_some_iff.1 h2).1
 have hid' : id < H.length + T.length := by simpa using hid
 have hg : (H ++ T ++ [Ob.mk true 1 [.int .u8 c.toNat]])[id]? = some (.mk true 1 (xk b)) := by rw [List.getElem?_append_left hid]; exact h2
 have hnew : aI ⟨d, 1, 1, z⟩ (H ++ T ++ [Ob.mk true 1 [.int .u8 c.toNat]]) (.slc (some ((H ++ T).length, 0)) 1) = some ([.int .u8 c.toNat], 1) := by
  simp only [aI, Nat.mul_one, aQ, get_last]
  rfl
 refine ⟨.slc (some ((H ++ T ++ [Ob.mk true 1 [.int .u8 c.toNat]]).length, 0)) (b.length + 1), (H ++ T ++ [Ob.mk true 1 [.int .u8 c.toNat]]).set id .dead ++ [.mk true 1 (xk b ++ [.int .u8 c.toNat])], ?_, ?_⟩
 ·unfold aT
  rw [if_pos (by simp [fU, hz]), hnew]
  simp only [Nat.one_ne_zero, if_false, List.all_cons, List.all_nil, rV, Bool.and_true, if_true, hg]
  have e1 : ¬ (0 + (b.length + 1) * 1 ≤ (xk b).length) := by rw [yU]; omega
  have e2 : (0 + b.length * 1 = (xk b).length ∨ b.length = 0 ∧ (xk b).length ≤ 0) ∧ (b.length + 1) * 1 ≤ aB := ⟨.inl (by rw [yU]; simp), by unfold aB; omega⟩
  rw [if_neg e1, if_pos e2, List.drop_zero]
 ·refine ⟨T.set (id - H.length) .dead ++ [.mk true 1 [.int .u8 c.toNat]] ++ [.mk true 1 (xk b ++ [.int .u8 c.toNat])], (H ++ T ++ [Ob.mk true 1 [.int .u8 c.toNat]]).length, ?_, by simp only [List.length_append]; omega, ?_, by simp⟩
  ·rw [List.append_assoc H T, List.set_append_right _ _ h1, List.set_append_left _ _ (by omega)]
   simp
  ·have hl : ((H ++ T ++ [Ob.mk true 1 [V.int .u8 c.toNat]]).set id .dead).length = (H ++ T ++ [Ob.mk true 1 [V.int .u8 c.toNat]]).length := List.length_set
   rw [← hl, get_last, Dx]
   rfl
theorem Bs.last (h : Bs H G v b) {d : UInt8} (hd : b.getLast? = some d) : ∃ id, v = .slc (some (id, 0)) b.length ∧ ∀ T : LT, T.one → ∀ r c, loadAt T ⟨r, c, G⟩ (.hp id (b.length - 1)) = some (.int .u8 d.toNat) := by
 obtain ⟨T, id, rfl, h1, h2, rfl⟩ := h
 refine ⟨id, rfl, bM h2 (Lc ?_)⟩
 rw [List.getLast?_eq_getElem?] at hd
 exact hd
theorem Bs.cut (h : Bs H G v b) {n : Nat} (hn : n ≤ b.length) : ∃ id, v = .slc (some (id, 0)) b.length ∧ aY G id 1 = true ∧ aQ G (some (id, 0)) n = some (xk (b.take n)) := by
 obtain ⟨T, id, rfl, h1, h2, rfl⟩ := h
 refine ⟨id, rfl, by simp [aY, h2], ?_⟩
 simp only [aQ, h2]
 by_cases h0 : n = 0
 ·subst h0; rfl
 ·rw [if_neg h0]
  unfold dO
  rw [if_pos (by rw [yU]; omega), List.drop_zero, Ir]
theorem Bs.ext (h : Bs H G v b) : ∃ T, G = H ++ T := by
 obtain ⟨T, id, h, _⟩ := h
 exact ⟨T, h⟩
theorem Bs.len (h : Bs H G v b) {e s n : Nat} {z : List V} : lenV ⟨.slice e, s, n, z⟩ v = some (.int .i64 b.length) := by
 obtain ⟨T, id, _, _, _, rfl⟩ := h
 rfl
end
end Go.Lite
end
