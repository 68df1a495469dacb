/- Part 04 of the proof of a law: the interpreter, its soundness, and what functions of the program compute over it. Conditions: none but those that each theorem names. -/
import Derived.Test.YtglbhjmpemiijaaGreatDoorA03
import Derived.Test.YtglbhjmpemiijaaGreatDoorA01
import Derived.Lib.Bytealg
import Derived.Deep.Slices
import Derived.ChangeArms

section
namespace Go.Lite
open Go
set_option linter.unusedSimpArgs false
set_option linter.unusedVariables false

section
variable {P : Program} {C : Ctx} {callf : CallF} {f : Nat} {σ τ σ' : St} {ops : Array Oper} {h : Hint} {base i : Nat} {o : Oper} {μ : Mu} {β : List Nat} {a : Act} {w : World}

/-- What such an operation reads and writes of the frame. -/
def footR (C : Ctx) (f : Nat) (ops : Array Oper) (h : Hint) (i : Nat) (o : Oper) : Foot :=
  match h.res.lookup i with
  | some _ => ⟨o.looksAt ops, o.dst.toList, false, false, false⟩
  | none => footK C f ops h i o

/-- Only what writes the heap has places hidden. -/
def hidOk (C : Ctx) (f : Nat) (ops : Array Oper) (h : Hint) (i : Nat) : Prop := ∀ o, ops[i]? = some o → (footK C f ops h i o).wh = false → hidOf h i = []

/-- The same doing in another state. -/
structure MovesR (h : Hint) (base i : Nat) (F : Foot) (σ σ' τ τ' : St) : Prop where
  w : ∀ t ∈ F.W, τ'.regs t = σ'.regs t
  k : ∀ t, t ∉ F.W → τ'.regs t = τ.regs t
  cnt : τ'.cnt = if F.rc = true then σ'.cnt else τ.cnt
  len : σ.heap.length ≤ σ'.heap.length
  keep : h.calm.contains i = true → h.res.lookup i = none → Keep base σ.heap σ'.heap
  heap : (∃ k fo, h.res.lookup i = some k ∧ σ'.heap = (match fo with | some ob => σ.heap.set (base + k) ob | none => σ.heap) ∧ τ'.heap = (match fo with | some ob => τ.heap.set (base + k) ob | none => τ.heap)) ∨
    (h.res.lookup i = none ∧ F.wh = true ∧ ∃ X, σ'.heap = backL (hidOf h i) base σ.heap X ∧ τ'.heap = backL (hidOf h i) base τ.heap X) ∨
    (h.res.lookup i = none ∧ F.wh = false ∧ σ'.heap = σ.heap ∧ τ'.heap = τ.heap)

theorem newOb_same {op : Op} (hA : Same op.operands.toList σ τ) : newOb C σ op = newOb C τ op := by
  unfold newOb
  split <;> try rfl
  all_goals simp only [Same, Op.operands, Call.operands] at hA
  · rename_i t x
    rw [(hA x (by simp)).2]
  · rename_i t n parts
    rw [evParts_same (σ := σ) (τ := τ) fun y hy => (hA y.2 (by simp at hy ⊢; exact ⟨y.1, hy⟩)).2]

theorem stepR_local (ho : ops[i]? = some o) (hhid : hidOk C f ops h i) (hA : ∀ t ∈ (footR C f ops h i o).U, σ.regs t = τ.regs t) (hcnt : (footR C f ops h i o).rc = true → σ.cnt = τ.cnt)
    (hheap : h.res.lookup i = none → (footR C f ops h i o).rh = true → hideL (hidOf h i) base σ.heap = hideL (hidOf h i) base τ.heap ∨ (h.old.contains i = true ∧ (footR C f ops h i o).wh = false ∧ Keep base σ.heap τ.heap))
    (hR : ∀ x ∈ o.op.operands.toList, ∀ t c off, evR σ x = some (.ref t c off) → t ∈ C.locs f)
    (hlen : σ.heap.length ≤ τ.heap.length ∨ hideL (hidOf h i) base σ.heap = hideL (hidOf h i) base τ.heap ∨ (footR C f ops h i o).rh = false ∨ (footR C f ops h i o).wh = false)
    (hstep : stepR C callf f ops h base i σ = some σ') : ∃ τ', stepR C callf f ops h base i τ = some τ' ∧ MovesR h base i (footR C f ops h i o) σ σ' τ τ' := by
  unfold stepR at hstep ⊢
  unfold footR at hA hcnt hheap hlen ⊢
  cases hr : h.res.lookup i with
  | some k =>
    simp only [hr, ho] at hstep hA hcnt hheap hlen ⊢
    have hS : Same o.op.operands.toList σ τ := same_of (fun t ht => ht) hA
    rw [← wantedL_same (F := ⟨o.looksAt ops, o.dst.toList, false, false, false⟩) (fun t ht => ht) hA]
    have put_k : ∀ (x : R) (H : List Ob) (t : Nat), t ∉ o.dst.toList → (({ τ with heap := H } : St).put o.dst x).regs t = τ.regs t := fun x H t ht => by
      rw [putr_regs]; simp only [ht, if_false]
    split at hstep
    · rename_i hw
      split at hstep
      · cases hstep
      · rename_i hloc
        rw [← newOb_same hS]
        split at hstep
        · rename_i ob mk hn
          cases hstep
          try simp only [hw, hloc, if_false, hn]
          refine ⟨_, rfl, fun t ht => ?_, fun t ht => put_k _ _ t ht, by rw [putr_cnt]; rfl, by rw [putr_heap]; simp, fun _ hc => (by rw [hr] at hc; cases hc), .inl ⟨k, some ob, hr, by rw [putr_heap], by rw [putr_heap]⟩⟩
          rw [putr_regs, putr_regs]
          simp only [show t ∈ o.dst.toList from ht, if_true]
        · cases hstep
    · rename_i hw
      cases hstep
      try simp only [hw]
      refine ⟨_, rfl, fun t ht => ?_, fun t ht => put_k _ τ.heap t ht, by rw [putr_cnt]; rfl, by rw [putr_heap]; exact Nat.le_refl _, fun _ hc => (by rw [hr] at hc; cases hc), .inl ⟨k, none, hr, by rw [putr_heap], by rw [putr_heap]⟩⟩
      rw [putr_regs, putr_regs]
      simp only [show t ∈ o.dst.toList from ht, if_true]
    · cases hstep
  | none =>
    simp only [hr] at hstep hA hcnt hheap hlen ⊢
    split at hstep
    · rename_i σ1 h1
      split at hstep
      · rename_i hle
        cases hstep
        generalize hF : footK C f ops h i o = F at *
        have hhF : F.wh = false → hidOf h i = [] := fun e => hhid o ho (by rw [hF]; exact e)
        -- the operation's own doing
        obtain ⟨ρ, r1, r2⟩ := stepK_local (σ := { σ with heap := hideL (hidOf h i) base σ.heap }) (τ := { σ with heap := hideL (hidOf h i) base σ.heap }) ho (fun _ _ => rfl) (fun _ => rfl) (fun _ => .inl rfl) hR h1
        rw [h1] at r1; cases r1
        obtain ⟨τ1, t1, t2⟩ := stepK_local (σ := { σ with heap := hideL (hidOf h i) base σ.heap }) (τ := { τ with heap := hideL (hidOf h i) base τ.heap }) ho (fun t ht => hA t (by rw [hF] at ht; exact ht)) (fun hc => hcnt (by rw [hF] at hc; exact hc))
          (fun hc => by
            rw [hF] at hc ⊢
            rcases hheap trivial hc with e | ⟨e1, e2, e3⟩
            · exact .inl e
            · refine .inr ⟨e1, e2, ?_⟩
              simp only [hhF e2, hideL_nil]; exact e3) hR h1
        rw [hF] at t2 r2
        have hkp : h.calm.contains i = true → Keep base σ.heap (backL (hidOf h i) base σ.heap σ1.heap) := fun hc => by
          obtain ⟨_, _, _, _, hcalm⟩ := stepK_inv h1
          exact backL_keep (hcalm hc)
        have hlt : τ.heap.length ≤ τ1.heap.length := by
          have x1 := t2.heap
          by_cases hwh : F.wh = true
          · rw [if_pos hwh] at x1
            rw [x1]
            have wr : F.rh = true := by rw [← hF] at hwh ⊢; exact footK_wr C f ops h i o hwh
            rcases hheap trivial wr with e | ⟨_, e2, _⟩
            · have := congrArg List.length e
              rw [hideL_len, hideL_len] at this
              omega
            · rw [hwh] at e2; cases e2
          · rw [if_neg hwh] at x1
            rw [x1]; simp only [hideL_len]; exact Nat.le_refl _
        simp only [t1, if_pos hlt]
        refine ⟨_, rfl, t2.w, t2.k, t2.cnt, by simpa only [backL_len] using hle, fun hc _ => hkp hc, .inr ?_⟩
        by_cases hwh : F.wh = true
        · have x1 := t2.heap
          rw [if_pos hwh] at x1
          exact .inl ⟨hr, hwh, σ1.heap, rfl, by simp only [x1]⟩
        · have x1 := t2.heap
          have x2 := r2.heap
          rw [if_neg hwh] at x1 x2
          have hn := hhF (by simpa using hwh)
          refine .inr ⟨hr, by simpa using hwh, ?_, ?_⟩
          · simp only [hn, backL_nil, x2, hideL_nil]
          · simp only [hn, backL_nil, x1, hideL_nil]
      · cases hstep
    · cases hstep

/-- Do two operations not meet? -/
def apartR (C : Ctx) (f : Nat) (ops : Array Oper) (h : Hint) (i j : Nat) (oi oj : Oper) : Bool :=
  let F := footR C f ops h i oi
  let G := footR C f ops h j oj
  match h.res.lookup i, h.res.lookup j with
  | none, none => apartK h i j F G
  | some k, none => F.W.all (fun t => !G.U.contains t && !G.W.contains t) && G.W.all (fun t => !F.U.contains t) && (!G.rh || (hidOf h j).contains k || (h.old.contains j && !G.wh)) && (!G.wh || (hidOf h j).contains k)
  | none, some k => F.W.all (fun t => !G.U.contains t && !G.W.contains t) && G.W.all (fun t => !F.U.contains t) && (!F.rh || (hidOf h i).contains k || (h.old.contains i && !F.wh)) && (!F.wh || (hidOf h i).contains k)
  | some k, some k' => F.W.all (fun t => !G.U.contains t && !G.W.contains t) && G.W.all (fun t => !F.U.contains t) && k != k'

theorem stepR_refs {n : Nat} (ho : ops[i]? = some o) (hop : OpOk n o.op) (hI : Refs (C.locs f) n σ) (hst : stepR C callf f ops h base i σ = some σ') : Refs (C.locs f) n σ' := by
  unfold stepR at hst
  split at hst
  · rename_i k hk
    simp only [ho] at hst
    split at hst
    · split at hst
      · cases hst
      · split at hst
        · rename_i ob mk hn
          cases hst
          exact Refs.val (σ := { regs := σ.regs, cnt := σ.cnt, heap := σ.heap.set (base + k) ob }) hI
        · cases hst
    · cases hst; exact Refs.val hI
    · cases hst
  · split at hst
    · rename_i σ1 h1
      split at hst
      · cases hst
        obtain ⟨o', ho', _, h2, _⟩ := stepK_inv h1
        rw [ho] at ho'; cases ho'
        have := stepL_refs (σ := { σ with heap := hideL (hidOf h i) base σ.heap }) hop hI h2
        exact this
      · cases hst
    · cases hst

theorem commuteR {n : Nat} {j : Nat} {oi oj : Oper} {σ1 σ2 : St} (hi : ops[i]? = some oi) (hj : ops[j]? = some oj) (hoi : OpOk n oi.op) (hoj : OpOk n oj.op) (hI : Refs (C.locs f) n σ) (hhi : hidOk C f ops h i) (hhj : hidOk C f ops h j)
    (hsl : ∀ i k, h.res.lookup i = some k → base + k < σ.heap.length)
    (hap : apartR C f ops h i j oi oj = true) (h1 : stepR C callf f ops h base i σ = some σ1) (h2 : stepR C callf f ops h base j σ1 = some σ2) :
    ∃ τ1, stepR C callf f ops h base j σ = some τ1 ∧ stepR C callf f ops h base i τ1 = some σ2 := by
  generalize hF : footR C f ops h i oi = F at hap
  generalize hG : footR C f ops h j oj = G at hap
  have rf : ∀ {ρ : St} {op : Op}, Refs (C.locs f) n ρ → OpOk n op → ∀ x ∈ op.operands.toList, ∀ t c off, evR ρ x = some (.ref t c off) → t ∈ C.locs f := fun hr ho x hx t c off he => hr.evd (ho x (by simpa using hx)) he
  have frame : ∀ {k : Nat} {ok : Oper} {ρ ρ1 : St}, ops[k]? = some ok → hidOk C f ops h k → OpOk n ok.op → Refs (C.locs f) n ρ → stepR C callf f ops h base k ρ = some ρ1 → MovesR h base k (footR C f ops h k ok) ρ ρ1 ρ ρ1 := fun hk hh hok hr hs => by
    obtain ⟨ρ', k1, k2⟩ := stepR_local hk hh (fun _ _ => rfl) (fun _ => rfl) (fun _ _ => .inl rfl) (rf hr hok) (.inl (Nat.le_refl _)) hs
    rw [hs] at k1; cases k1; exact k2
  have hI1 : Refs (C.locs f) n σ1 := stepR_refs hi hoi hI h1
  have m1 := frame hi hhi hoi hI h1
  have m2 := frame hj hhj hoj hI1 h2
  rw [hF] at m1
  rw [hG] at m2
  have wrF : F.wh = true → F.rh = true := by
    rw [← hF]; unfold footR; split
    · intro hc; cases hc
    · exact footK_wr C f ops h i oi
  have wrG : G.wh = true → G.rh = true := by
    rw [← hG]; unfold footR; split
    · intro hc; cases hc
    · exact footK_wr C f ops h j oj
  have rcF : ∀ k, h.res.lookup i = some k → F.rc = false := fun k hk => by rw [← hF]; unfold footR; rw [hk]
  have rcG : ∀ k, h.res.lookup j = some k → G.rc = false := fun k hk => by rw [← hG]; unfold footR; rw [hk]
  -- what is asked of the frame
  have hreg : (∀ t ∈ F.W, t ∉ G.U ∧ t ∉ G.W) ∧ (∀ t ∈ G.W, t ∉ F.U) ∧ (F.rc = true → G.rc = false) := by
    simp only [apartR, hF, hG] at hap
    split at hap
    · simp only [apartK, Bool.and_eq_true, List.all_eq_true, Bool.not_eq_true', List.contains_eq_mem, decide_eq_false_iff_not, Bool.and_eq_false_imp] at hap
      exact ⟨hap.1.1.1.1, hap.1.1.1.2, hap.1.1.2⟩
    · rename_i k hk _
      simp only [Bool.and_eq_true, List.all_eq_true, Bool.not_eq_true', List.contains_eq_mem, decide_eq_false_iff_not] at hap
      exact ⟨hap.1.1.1, hap.1.1.2, fun hc => by rw [rcF k hk] at hc; cases hc⟩
    · rename_i k _ hk
      simp only [Bool.and_eq_true, List.all_eq_true, Bool.not_eq_true', List.contains_eq_mem, decide_eq_false_iff_not] at hap
      exact ⟨hap.1.1.1, hap.1.1.2, fun _ => rcG k hk⟩
    · rename_i k k' hk hk'
      simp only [Bool.and_eq_true, List.all_eq_true, Bool.not_eq_true', List.contains_eq_mem, decide_eq_false_iff_not] at hap
      exact ⟨hap.1.1, hap.1.2, fun _ => rcG k' hk'⟩
  obtain ⟨a1, a2, a3⟩ := hreg
  -- the second one first
  have hj1 : ∃ τ1, stepR C callf f ops h base j σ = some τ1 ∧ MovesR h base j G σ1 σ2 σ τ1 := by
    have := stepR_local (σ := σ1) (τ := σ) hj hhj (fun t ht => m1.k t fun hw => by rw [hG] at ht; exact (a1 t hw).1 ht)
      (fun hc => by rw [hG] at hc; have := m1.cnt; by_cases hr : F.rc = true; · rw [a3 hr] at hc; cases hc
                    · rw [if_neg hr] at this; exact this)
      (fun hres hc => by
        rw [hG] at hc ⊢
        simp only [apartR, hF, hG, hres] at hap
        rcases m1.heap with ⟨k, fo, g1, g2, _⟩ | ⟨g1, g2, _⟩ | ⟨g1, g2, g3, _⟩
        · simp only [g1, Bool.and_eq_true, Bool.or_eq_true, Bool.not_eq_true', hc, Bool.true_eq_false, false_or] at hap
          rcases hap.1.2 with e | ⟨e1, e2⟩
          · left
            rw [g2]
            cases fo with
            | none => rfl
            | some ob => exact hideL_set e
          · right
            refine ⟨e1, e2, ?_⟩
            rw [g2]
            cases fo with
            | none => exact fun _ _ => rfl
            | some ob => exact keep_sym set_keep
        · simp only [g1, apartK, Bool.and_eq_true, Bool.not_eq_true', Bool.and_eq_false_imp] at hap
          have := hap.1.2 g2
          rw [hc] at this; cases this
        · left; rw [g3]) (rf hI1 hoj)
      (by
        rw [hG]
        by_cases hres : h.res.lookup j = none
        · simp only [apartR, hF, hG, hres] at hap
          rcases m1.heap with ⟨k, fo, g1, g2, _⟩ | ⟨g1, g2, _⟩ | ⟨g1, g2, g3, _⟩
          · left; rw [g2]; cases fo <;> simp
          · simp only [g1, apartK, Bool.and_eq_true, Bool.not_eq_true', Bool.and_eq_false_imp] at hap
            exact .inr (.inr (.inl (hap.1.2 g2)))
          · left; rw [g3]; exact Nat.le_refl _
        · right; right; left
          rw [← hG]; unfold footR
          cases hq : h.res.lookup j with
          | none => exact absurd hq hres
          | some k => rfl) h2
    rwa [hG] at this
  obtain ⟨τ1, t1, t2⟩ := hj1
  have mt := frame hj hhj hoj hI t1
  rw [hG] at mt
  have hIτ : Refs (C.locs f) n τ1 := stepR_refs hj hoj hI t1
  have hi1 : ∃ σ2', stepR C callf f ops h base i τ1 = some σ2' ∧ MovesR h base i F σ σ1 τ1 σ2' := by
    have := stepR_local (σ := σ) (τ := τ1) hi hhi (fun t ht => (mt.k t fun hw => by rw [hF] at ht; exact a2 t hw ht).symm)
      (fun hc => by rw [hF] at hc; have := mt.cnt; rw [if_neg (by rw [a3 hc]; decide)] at this; exact this.symm)
      (fun hres hc => by
        rw [hF] at hc ⊢
        simp only [apartR, hF, hG, hres] at hap
        rcases mt.heap with ⟨k, fo, g1, g2, _⟩ | ⟨g1, g2, _⟩ | ⟨g1, g2, g3, _⟩
        · simp only [g1, Bool.and_eq_true, Bool.or_eq_true, Bool.not_eq_true', hc, Bool.true_eq_false, false_or] at hap
          rcases hap.1.2 with e | ⟨e1, e2⟩
          · left
            rw [g2]
            cases fo with
            | none => rfl
            | some ob => exact (hideL_set e).symm
          · right
            refine ⟨e1, e2, ?_⟩
            rw [g2]
            cases fo with
            | none => exact fun _ _ => rfl
            | some ob => exact set_keep
        · simp only [g1, apartK, Bool.and_eq_true, Bool.or_eq_true, Bool.not_eq_true', g2, hc, Bool.true_and, Bool.true_eq_false, Bool.and_self, false_or] at hap
          exact .inr ⟨hap.2.1.1, hap.2.2, mt.keep hap.2.1.2 g1⟩
        · left; rw [g3]) (rf hI hoi) (.inl mt.len) h1
    rwa [hF] at this
  obtain ⟨σ2', u1, u2⟩ := hi1
  refine ⟨τ1, t1, ?_⟩
  rw [u1]
  congr 1
  have er : σ2'.regs = σ2.regs := by
    funext t
    by_cases hw : t ∈ F.W
    · rw [u2.w t hw, m2.k t (a1 t hw).2]
    · rw [u2.k t hw]
      by_cases hg : t ∈ G.W
      · rw [t2.w t hg]
      · rw [t2.k t hg, m2.k t hg, m1.k t hw]
  have ec : σ2'.cnt = σ2.cnt := by
    have x1 := u2.cnt; have x2 := t2.cnt; have x3 := m2.cnt; have x4 := m1.cnt
    by_cases hr : F.rc = true
    · rw [if_pos hr] at x1; rw [if_neg (by rw [a3 hr]; decide)] at x3; rw [x1, x3]
    · rw [if_neg hr] at x1 x4
      rw [x1]
      by_cases hg : G.rc = true
      · rw [if_pos hg] at x2; exact x2
      · rw [if_neg hg] at x2 x3; rw [x2, x3, x4]
  have eh : σ2'.heap = σ2.heap := by
    simp only [apartR, hF, hG] at hap
    rcases u2.heap with ⟨k, fo, p1, p2, p3⟩ | ⟨p1, p2, X, p3, p4⟩ | ⟨p1, p2, p3, p4⟩ <;> rcases t2.heap with ⟨k', fo', q1, q2, q3⟩ | ⟨q1, q2, Y, q3, q4⟩ | ⟨q1, q2, q3, q4⟩
    · simp only [p1, q1, Bool.and_eq_true, bne_iff_ne, ne_eq] at hap
      have hne : base + k ≠ base + k' := fun e => hap.2 (by omega)
      rw [p3, q3, q2, p2]
      cases fo <;> cases fo' <;> simp only []
      rw [List.set_comm _ _ hne]
    · simp only [p1, q1, Bool.and_eq_true, Bool.or_eq_true, Bool.not_eq_true', q2, Bool.true_eq_false, false_or] at hap
      rw [p3, q4, q3, p2]
      cases fo with
      | none => rfl
      | some ob => exact backL_set hap.2 (hsl i k p1)
    · rw [p3, q4, q3, p2]
    · simp only [p1, q1, Bool.and_eq_true, Bool.or_eq_true, Bool.not_eq_true', p2, Bool.true_eq_false, false_or] at hap
      rw [p4, q3, q2, p3]
      cases fo' with
      | none => rfl
      | some ob => exact (backL_set hap.2 (hsl j k' q1)).symm
    · simp only [p1, q1, apartK, Bool.and_eq_true, Bool.not_eq_true', Bool.and_eq_false_imp] at hap
      have := hap.1.2 p2
      rw [wrG q2] at this; cases this
    · rw [p4, q4, q3, p3]
    · rw [p4, q3, q2, p3]
    · rw [p4, q4, q3, p3]
    · rw [p4, q4, q3, p3]
  cases σ2'; cases σ2; simp only at er ec eh; subst er ec eh; rfl

theorem frontR {n : Nat} {oi : Oper} {β : List Nat} (hi : ops[i]? = some oi) (hops : OpsOk n ops) (hh : ∀ i, hidOk C f ops h i) :
    ∀ {α : List Nat} {σ σ' : St}, Refs (C.locs f) n σ → (∀ i k, h.res.lookup i = some k → base + k < σ.heap.length) → (∀ a ∈ α, ∀ oa, ops[a]? = some oa → apartR C f ops h a i oa oi = true) →
      runR C callf f ops h base (α ++ i :: β) σ = some σ' → ∃ σ1, stepR C callf f ops h base i σ = some σ1 ∧ runR C callf f ops h base (α ++ β) σ1 = some σ'
  | [], σ, σ', hI, _, _, hr => by
    simp only [List.nil_append, runR] at hr ⊢
    split at hr
    · rename_i σ1 h1; exact ⟨σ1, h1, hr⟩
    · cases hr
  | a :: α, σ, σ', hI, hsl, hap, hr => by
    simp only [List.cons_append, runR] at hr ⊢
    split at hr
    · rename_i σa ha
      have hoa : ∃ oa, ops[a]? = some oa := by
        unfold stepR at ha
        split at ha
        · split at ha
          · rename_i o ho; exact ⟨o, ho⟩
          · cases ha
        · split at ha
          · rename_i s hs
            obtain ⟨o, ho, _⟩ := stepK_inv hs
            exact ⟨o, ho⟩
          · cases ha
      obtain ⟨oa, hoa⟩ := hoa
      have mem : ∀ {k : Nat} {o : Oper}, ops[k]? = some o → OpOk n o.op := fun hk => (hops _ (by simpa using Array.mem_of_getElem? hk)).1
      have hlen : σ.heap.length ≤ σa.heap.length := by
        obtain ⟨ρ', k1, k2⟩ := stepR_local (τ := σ) hoa (hh a) (fun _ _ => rfl) (fun _ => rfl) (fun _ _ => .inl rfl) (fun x hx t c off he => hI.evd (mem hoa x (by simpa using hx)) he) (.inl (Nat.le_refl _)) ha
        exact k2.len
      obtain ⟨σ1, k1, k2⟩ := frontR hi hops hh (stepR_refs hoa (mem hoa) hI ha) (fun i k hk => Nat.lt_of_lt_of_le (hsl i k hk) hlen) (fun b hb => hap b (List.mem_cons_of_mem _ hb)) hr
      obtain ⟨τ1, t1, t2⟩ := commuteR hoa hi (mem hoa) (mem hi) hI (hh a) (hh i) hsl (hap a (by simp) oa hoa) ha k1
      exact ⟨τ1, t1, by rw [t2]; exact k2⟩
    · cases hr

def ApartRAt (C : Ctx) (f : Nat) (ops : Array Oper) (h : Hint) (a i : Nat) : Prop := ∀ oa oi, ops[a]? = some oa → ops[i]? = some oi → apartR C f ops h a i oa oi = true

theorem any_soundR (hty : TysOk P C.ty) (hcall : CallOk P callf) {ro : Option Nat} {Q : Exit → Act → World → Prop} (hh : ∀ i, hidOk C f ops h i)
    (hslot : ∀ i j k, h.res.lookup i = some k → h.res.lookup j = some k → i = j)
    (hedge : ∀ (i : Nat) (o : Oper), ops[i]? = some o → ∀ e ∈ o.after, Region.binds .any e = true → e.on < ops.size ∧ e.on ≠ i) :
    ∀ (fuel : Nat) {rest : List Nat} {listed : Array Bool} {σ : St} {μ : Mu} {β : List Nat} {a : Act} {w : World}, rest.length = fuel → Sim (C.locs f) σ μ β a w → OpsOk a.tmps.size ops → base ≤ σ.heap.length →
      (∀ i k, h.res.lookup i = some k → base + k < σ.heap.length) → (∀ i ∈ rest, ∀ k, h.res.lookup i = some k → μ (base + k) = none) →
      rest.Pairwise (fun a i => NoEdge ops a i ∧ (Behind ops a i ∨ ApartRAt C f ops h a i)) → rest.Nodup → (∀ j, j ∈ rest ↔ listed[j]? = some false) → listed.size = ops.size →
      (∀ (j : Nat) (o : Oper), ops[j]? = some o → listed[j]? = some true → ∀ e ∈ o.after, Region.binds .any e = true → listed[e.on]? = some true) →
      runR C callf f ops h base rest σ = some σ' → (∀ a' w', LeadsB (fun id => base ≤ id) (C.locs f) σ μ β a w σ' a' w' → Q .normal a' w') → wpAnyIn (rf ro) 0 P .any ops Q fuel listed a w := by
  have getT : ∀ {l : Array Bool} {j : Nat}, l.getD j true = false ↔ l[j]? = some false := fun {l j} => by
    rw [Array.getD_eq_getD_getElem?]; cases l[j]? with
    | none => simp
    | some b => simp
  have getF : ∀ {l : Array Bool} {j : Nat}, l.getD j false = true ↔ l[j]? = some true := fun {l j} => by
    rw [Array.getD_eq_getD_getElem?]; cases l[j]? with
    | none => simp
    | some b => simp
  intro fuel
  induction fuel with
  | zero =>
    intro rest listed σ μ β a w hl hs hop hb hsl hke hp hn hr hz hcl hrun hq
    cases List.length_eq_zero_iff.1 hl
    simp only [runR, Option.some.injEq] at hrun
    subst hrun
    refine ⟨?_, hq a w (.refl hs)⟩
    refine List.eq_nil_iff_forall_not_mem.2 fun j hj => ?_
    have := (mem_ready.1 hj).1
    exact absurd ((hr j).2 (getT.1 this)) (by simp)
  | succ fuel ih =>
    intro rest listed σ μ β a w hl hs hop hb hsl hke hp hn hr hz hcl hrun hq
    refine ⟨fun hempty => ?_, fun i hi => ?_⟩
    · cases rest with
      | nil => cases hl
      | cons x xs =>
        exfalso
        have hx := (hr x).1 (by simp)
        have hxs : x < ops.size := hz ▸ (Array.getElem?_eq_some_iff.1 hx).1
        have : x ∈ Region.ready .any ops listed := by
          refine mem_ready.2 ⟨getT.2 hx, ops[x], by simp [hxs], fun e he hb => getF.2 ?_⟩
          obtain ⟨h1, h2⟩ := hedge x _ (by simp [hxs]) e he hb
          cases hv : listed[e.on]? with
          | none => rw [Array.getElem?_eq_none_iff] at hv; omega
          | some b =>
            cases b with
            | true => rfl
            | false =>
              have hm := (hr e.on).2 hv
              simp only [List.mem_cons, h2, false_or] at hm
              exact absurd rfl ((List.pairwise_cons.1 hp).1 e.on hm |>.1 _ (by simp [hxs]) e he hb)
        rw [hempty] at this
        cases this
    · obtain ⟨h1, oi, hoi, hpre⟩ := mem_ready.1 hi
      have hir := (hr i).2 (getT.1 h1)
      obtain ⟨α, γ, rfl⟩ := List.append_of_mem hir
      have hni : i ∉ α ∧ i ∉ γ := by
        rw [List.nodup_append] at hn
        simp only [List.nodup_cons, List.mem_cons] at hn
        exact ⟨fun hm => hn.2.2 i hm i (.inl rfl) rfl, hn.2.1.1⟩
      obtain ⟨hpα, hpγ, hpx⟩ := List.pairwise_append.1 hp
      have hfr := frontR hoi hop hh (base := base) (callf := callf) (β := γ) (α := α) hs.refs hsl (fun x hx ox hox => by
        rcases (hpx x hx i (by simp)).2 with hb | hb
        · exfalso
          have := hb (fun j => listed[j]? = some true ∨ j = i) (fun j oj hoj hj e he hbd => by
            rcases hj with hj | rfl
            · exact .inl (hcl j oj hoj hj e he hbd)
            · rw [hoi] at hoj; cases hoj
              exact .inl (getF.1 (hpre e he hbd))) (.inr rfl)
          have hxu := (hr x).1 (List.mem_append_left _ hx)
          rcases this with h3 | rfl
          · rw [hxu] at h3; cases h3
          · exact hni.1 hx
        · exact hb ox oi hox hoi) hrun
      obtain ⟨σ1, k1, k2⟩ := hfr
      refine stepR_sound hty hcall hs hop (fun k hk => ⟨hke i (by simp) k hk, hsl i k hk⟩) k1 fun a1 w1 hl1 => ?_
      obtain ⟨μ1, β1, g1, g2, g3, g4, g5, g6⟩ := hl1
      have hne : ∀ j, j ≠ i → (listed.setIfInBounds i true)[j]? = listed[j]? := fun j hj => by rw [Array.getElem?_setIfInBounds_ne (Ne.symm hj)]
      have heq : (listed.setIfInBounds i true)[i]? = some true := by
        have hlt : i < listed.size := (Array.getElem?_eq_some_iff.1 (getT.1 h1)).1
        rw [Array.getElem?_setIfInBounds]
        simp [hlt]
      have hlen := g6.2.1
      refine ih (rest := α ++ γ) ?_ g1 (by rw [g4]; exact hop) (Nat.le_trans hb hlen) (fun j k hk => Nat.lt_of_lt_of_le (hsl j k hk) hlen) (fun j hj k hk => ?_) ?_ ?_ ?_ (by simp [hz]) ?_ k2 fun a' w' hl' => hq a' w' ?_
      · simp only [List.length_append, List.length_cons] at hl ⊢; omega
      · have hji : j ≠ i := fun e => by
          rw [e] at hj
          rcases List.mem_append.1 hj with hm | hm
          · exact hni.1 hm
          · exact hni.2 hm
        cases hm : μ1 (base + k) with
        | none => rfl
        | some m =>
          exfalso
          rcases g6.2.2 _ m hm with e | e | ⟨k', e1, e2⟩
          · rw [hke j (by rcases List.mem_append.1 hj with hm | hm <;> simp [hm]) k hk] at e; cases e
          · have := hsl j k hk; omega
          · have : k = k' := by omega
            subst this
            exact hji (hslot j i k hk e1)
      · exact List.pairwise_append.2 ⟨hpα, (List.pairwise_cons.1 hpγ).2, fun x hx y hy => hpx x hx y (List.mem_cons_of_mem _ hy)⟩
      · rw [List.nodup_append] at hn ⊢
        simp only [List.nodup_cons, List.mem_cons] at hn
        exact ⟨hn.1, hn.2.1.2, fun x hx y hy => hn.2.2 x hx y (.inr hy)⟩
      · intro j
        by_cases hj : j = i
        · subst hj
          rw [heq]
          simp [hni.1, hni.2]
        · rw [hne j hj, ← hr j]
          simp [hj]
      · intro j oj hoj hj e he hb
        have hon : listed[e.on]? = some true := by
          by_cases hji : j = i
          · subst hji; rw [hoi] at hoj; cases hoj; exact getF.1 (hpre e he hb)
          · rw [hne j hji] at hj; exact hcl j oj hoj hj e he hb
        by_cases hei : e.on = i
        · rw [hei]; exact heq
        · rw [hne _ hei]; exact hon
      · obtain ⟨μ2, β2, q1, q2, q3, q4, q5, q6⟩ := hl'
        refine ⟨μ2, β2, q1, Mu.le_trans g2 q2, g3.trans q3, q4.trans g4, g5.trans q5, ?_⟩
        have g6' : LivesB (fun id => base ≤ id) σ.heap μ w σ1.heap μ1 := ⟨g6.1, g6.2.1, fun id m hm => (g6.2.2 id m hm).imp (fun x => x) fun e => by
          rcases e with e | ⟨k, _, e⟩ <;> omega⟩
        exact g6'.trans q6 (fun _ e => e) g5.size

/-! What is looked up in the code. -/

def pairOkR (C : Ctx) (f : Nat) (ops : Array Oper) (h : Hint) (ms : List Nat) (a i : Nat) : Bool :=
  match ops[a]?, ops[i]? with
  | some oa, some oi => !edgeTo oa i && ((ms.getD i 0).testBit a || apartR C f ops h a i oa oi)
  | _, _ => true

def hidB (C : Ctx) (f : Nat) (ops : Array Oper) (h : Hint) (i : Nat) : Bool :=
  match ops[i]? with
  | some o => (footK C f ops h i o).wh || (hidOf h i).isEmpty
  | none => true

/-- May the region be read in the hint's order? -/
def drawOkR (C : Ctx) (f : Nat) (ops : Array Oper) (h : Hint) : Bool :=
  h.ord.length == ops.size && h.ord.all (fun i => decide (i < ops.size)) && (List.range ops.size).all (fun i => h.ord.contains i) && allPairs (fun a b => a != b) h.ord &&
    ops.toList.zipIdx.all (fun x => x.1.after.all fun e => !Region.binds .any e || (decide (e.on < ops.size) && e.on != x.2)) && allPairs (pairOkR C f ops h (masksOf ops.toList [])) h.ord &&
    (List.range ops.size).all (hidB C f ops h) && h.res.all (fun x => decide (x.2 < h.res.length)) && allPairs (fun a b => a != b) (h.res.map (·.2))

theorem lookup_mem' {α : Type} : ∀ {l : List (Nat × α)} {i : Nat} {k : α}, l.lookup i = some k → (i, k) ∈ l
  | (j, x) :: l, i, k, hl => by
    rw [List.lookup_cons] at hl
    split at hl
    · rename_i e; cases hl; simp only [beq_iff_eq] at e; simp [e]
    · exact List.mem_cons_of_mem _ (lookup_mem' hl)

theorem drawOkR_sound (hty : TysOk P C.ty) (hcall : CallOk P callf) {ro : Option Nat} {Q : Exit → Act → World → Prop} (hd : drawOkR C f ops h = true) (hs : Sim (C.locs f) σ μ β a w) (hop : OpsOk a.tmps.size ops)
    (hrun : runR C callf f ops h σ.heap.length h.ord { σ with heap := σ.heap ++ List.replicate h.res.length .dead } = some σ') (hq : ∀ a' w', Leads (C.locs f) σ μ β a w σ' a' w' → Q .normal a' w') : wpAnyIn (rf ro) 0 P .any ops Q ops.size (Array.replicate ops.size false) a w := by
  simp only [drawOkR, Bool.and_eq_true, beq_iff_eq] at hd
  obtain ⟨⟨⟨⟨⟨⟨⟨⟨d1, d0⟩, d2⟩, d3⟩, d4⟩, d5⟩, d6⟩, d7⟩, d8⟩ := hd
  have hnd : h.ord.Nodup := (allPairs_spec d3).imp fun hne => by simpa using hne
  have hmem : ∀ j, j ∈ h.ord ↔ j < ops.size := fun j =>
    ⟨fun hj => by simpa using List.all_eq_true.1 d0 j hj, fun hj => by simpa using List.all_eq_true.1 d2 j (List.mem_range.2 hj)⟩
  have hh : ∀ i, hidOk C f ops h i := fun i o ho hw => by
    have hi : i < ops.size := (Array.getElem?_eq_some_iff.1 ho).1
    have := List.all_eq_true.1 d6 i (List.mem_range.2 hi)
    simpa [hidB, ho, hw] using this
  have hsl : ∀ i k, h.res.lookup i = some k → k < h.res.length := fun i k hk => by
    simpa using List.all_eq_true.1 d7 _ (lookup_mem' hk)
  -- the heap with the places that are kept
  have key : ∀ (i : Nat) (o : Ob), (σ.heap ++ List.replicate h.res.length .dead)[i]? = some o → live o = true → σ.heap[i]? = some o := by
    intro i o hi hlv
    by_cases hlt : i < σ.heap.length
    · rw [List.getElem?_append_left hlt] at hi; exact hi
    · rw [List.getElem?_append_right (by omega), List.getElem?_replicate] at hi
      split at hi
      · cases hi; cases hlv
      · cases hi
  have hs' : Sim (C.locs f) { σ with heap := σ.heap ++ List.replicate h.res.length .dead } μ β a w := by
    refine ⟨⟨fun id m hm => ?_, fun id o h1 h2 => hs.heap.map id o (key id o h1 h2) h2, fun id o m h1 h2 => ?_, fun id id' o o' m m' hne h1 h2 h3 h4 h5 h6 => hs.heap.sep id id' o o' m m' hne (key id o h1 (live_of_owned h5)) (key id' o' h2 h6) h3 h4 h5 h6, fun id es cells m h1 h2 h3 => hs.heap.plain id es cells m (key id _ h1 rfl) h2 h3⟩,
      hs.lenβ, hs.reg, hs.box, fun id o m b h1 h2 h3 h4 => hs.sepβ id o m b (key id o h1 h3) h2 h3 h4, hs.injβ, hs.ltβ, hs.uniq, hs.loc, hs.defs⟩
    · have := hs.heap.dom id m hm; simp; omega
    · cases o with
      | dead => trivial
      | mk own es cells => exact hs.heap.obj id _ m (key id _ h1 rfl) h2
  have hinj : ∀ {l : List (Nat × Nat)}, l.Pairwise (fun a b => (a.2 != b.2) = true) → ∀ x y, x ∈ l → y ∈ l → x.2 = y.2 → x = y := by
    intro l hl
    induction hl with
    | nil => intro x y hx; cases hx
    | cons hx _ ih =>
      intro x y h1 h2 he
      rcases List.mem_cons.1 h1 with e1 | e1 <;> rcases List.mem_cons.1 h2 with e2 | e2
      · rw [e1, e2]
      · have := hx y e2; rw [← e1] at this; simp [he] at this
      · have := hx x e1; rw [← e2] at this; simp [he] at this
      · exact ih x y e1 e2 he
  refine any_soundR (base := σ.heap.length) hty hcall hh (fun i j k h1 h2 => ?_) ?_ ops.size d1 hs' hop (by simp) (fun i k hk => by have := hsl i k hk; simp; omega) (fun i _ k hk => ?_) ?_ hnd ?_ (by simp) ?_ hrun fun a' w' hl => hq a' w' ?_
  · have := hinj (List.pairwise_map.1 (allPairs_spec d8)) _ _ (lookup_mem' h1) (lookup_mem' h2) rfl
    exact congrArg Prod.fst this
  · intro i o ho e he hb
    have hx : (o, i) ∈ ops.toList.zipIdx := by
      rw [List.mk_mem_zipIdx_iff_getElem?]
      simpa using ho
    have := List.all_eq_true.1 d4 _ hx
    have := Array.all_eq_true_iff_forall_mem.1 this e he
    simpa [hb] using this
  · cases e : μ (σ.heap.length + k) with
    | none => rfl
    | some m => have := hs.heap.dom _ m e; omega
  · refine (allPairs_spec d5).imp_of_mem fun {x y} hx hy hp => ?_
    have hxs := (hmem x).1 hx
    have hys := (hmem y).1 hy
    unfold pairOkR at hp
    rw [Array.getElem?_eq_getElem hxs, Array.getElem?_eq_getElem hys] at hp
    simp only [Bool.and_eq_true, Bool.not_eq_true', Bool.or_eq_true] at hp
    refine ⟨fun o ho e he hb heq => ?_, hp.2.imp (fun hm S hS hy => ?_) fun hap oa oi hoa hoi => ?_⟩
    · rw [Array.getElem?_eq_getElem hxs] at ho
      cases ho
      have := hp.1
      unfold edgeTo at this
      rw [Array.any_eq_false'] at this
      exact absurd (this e he) (by simp [hb, heq])
    · exact masksOf_sound hS ops.toList [] rfl (by simp) y x hm hy
    · rw [Array.getElem?_eq_getElem hxs] at hoa
      rw [Array.getElem?_eq_getElem hys] at hoi
      cases hoa; cases hoi
      exact hap
  · intro j
    rw [hmem]
    rw [Array.getElem?_replicate]
    by_cases hj : j < ops.size <;> simp [hj]
  · intro j o ho hj
    simp [Array.getElem?_replicate] at hj
  · obtain ⟨μ', β', k1, k2, k3, k4, k5, k6⟩ := hl
    refine ⟨μ', β', k1, k2, k3, k4, ⟨k5.size, fun b h1 h2 => k5.same b h1 (fun h3 => h2 ?_), fun b hb => (k5.own b hb).imp (fun h3 => ?_) (fun x => x), k5.os, k5.tape, k5.output, k5.drawn⟩, fun b hb => ?_, ?_, k6.2.2⟩
    · rcases h3 with ⟨i2, o2, m2, q1, q2, q3, q4⟩ | h3
      · exact .inl ⟨i2, o2, m2, key i2 o2 q1 (live_of_owned q2), q2, q3, q4⟩
      · exact .inr h3
    · rcases h3 with ⟨i2, o2, m2, q1, q2, q3, q4⟩ | h3
      · exact .inl ⟨i2, o2, m2, key i2 o2 q1 (live_of_owned q2), q2, q3, q4⟩
      · exact .inr h3
    · refine (k6.1 b hb).imp (fun h3 => ?_) (fun x => x)
      obtain ⟨i2, o2, m2, q1, q2, q3, q4⟩ := h3
      exact ⟨i2, o2, m2, key i2 o2 q1 q2, q2, q3, q4⟩
    · have := k6.2.1; simp at this; omega

/-- Either kind of region. -/
def drawAll (C : Ctx) (f : Nat) (ops : Array Oper) (h : Hint) : Bool := match h.res with
  | [] => drawOk C f ops h
  | _ :: _ => drawOkR C f ops h

theorem drawAll_sound {id : Nat} (hty : TysOk P C.ty) (hcall : CallOk P callf) {ro : Option Nat} {Q : Exit → Act → World → Prop} (hd : drawAll C f ops (hintOf C f id ops) = true) (hs : Sim (C.locs f) σ μ β a w) (hop : OpsOk a.tmps.size ops)
    (hr : regionL C callf f id ops true σ = some σ') (hq : ∀ a' w', Leads (C.locs f) σ μ β a w σ' a' w' → Q .normal a' w') : wpAnyIn (rf ro) 0 P .any ops Q ops.size (Array.replicate ops.size false) a w := by
  unfold drawAll at hd
  unfold regionL at hr
  unfold hintOf at hd
  cases hc : C.ord f id with
  | none =>
    rw [hc] at hr hd
    refine drawOk_sound (h := plainHint ops) (base := σ.heap.length) hty hcall hd hs hop ?_ hq
    rw [← hr]
    show runK C callf f ops (plainHint ops) _ (List.range ops.size) σ = _
    rw [List.range_eq_range', ← Array.length_toList]
    exact runK_plain 0 ops.toList σ rfl
  | some h =>
    rw [hc] at hr hd
    simp only [Option.getD_some] at hr hd
    cases hres : h.res with
    | nil => simp only [hres] at hr hd; exact drawOk_sound hty hcall hd hs hop hr hq
    | cons x xs => simp only [hres] at hr hd; rw [← hres] at hr; exact drawOkR_sound hty hcall hd hs hop hr hq
end
end Go.Lite
end

section
namespace Go.Lite
open Go
set_option linter.unusedSimpArgs false
set_option linter.unusedVariables false

section
variable {P : Program} {C : Ctx} {μ μ' : Mu} {w w' : World} {H H' : List Ob}

/-! ### What is new is forgotten -/

theorem lowVs_get : ∀ {cs : List V} {i : Nat} {v : V}, lowVs H cs → cs[i]? = some v → lowV H v
  | [], i, v, _, h => by simp at h
  | c :: cs, 0, v, hl, h => by simp at h; subst h; simp only [lowVs] at hl; exact hl.1
  | c :: cs, i + 1, v, hl, h => by simp only [lowVs] at hl; exact lowVs_get hl.2 (by simpa using h)

theorem VR.down (hle : μ.le μ') (hmap : ∀ id, thereAt H id → ∃ m, μ id = some m) {v : V} {u : Value} (h : VR μ' v u) : lowV H v → VR μ v u := by
  have key : ∀ id m, thereAt H id → μ' id = some m → μ id = some m := fun id m ht hm => by
    obtain ⟨m', h1⟩ := hmap id ht
    rw [hle _ _ h1] at hm
    cases hm; exact h1
  induction h with
  | undef u => exact fun _ => .undef u
  | int k n => exact fun _ => .int k n
  | bool b => exact fun _ => .bool b
  | str b => exact fun _ => .str b
  | ptrN => exact fun _ => .ptrN
  | ptr id off m h => exact fun hl => .ptr id off m (key _ _ (by simpa only [lowV] using hl) h)
  | slcN => exact fun _ => .slcN
  | slc id off n c m h hn hr hre => exact fun hl => .slc id off n c m (key _ _ (by simpa only [lowV] using hl) h) hn hr hre
  | slcZ id off m a h hr => exact fun hl => .slcZ id off m a (key _ _ (by simpa only [lowV] using hl) h) hr
  | agg cs us hl h ih => exact fun hl' => .agg cs us hl fun i v u hv hu => ih i v u hv hu (lowVs_get (by simpa only [lowV] using hl') hv)
  | tup cs us hl h ih => exact fun hl' => .tup cs us hl fun i v u hv hu => ih i v u hv hu (lowVs_get (by simpa only [lowV] using hl') hv)
  | fn f az bs us vs hl h hl' h' ih ih' =>
    intro hlo
    simp only [lowV] at hlo
    exact .fn f az bs us vs hl (fun i v u hv hu => ih i v u hv hu (lowVs_get hlo.1 hv)) hl' (fun i v u hv hu => ih' i v u hv hu (lowVs_get hlo.2 hv))
  | nilfn => exact fun _ => .nilfn
  | niface => exact fun _ => .niface
  | someif t u => exact fun _ => .someif t u

theorem VR.down2 (hle : μ.le μ') {v : V} {u u0 : Value} (h : VR μ' v u) : VR μ v u0 → VR μ v u := by
  have key : ∀ id m m0, μ id = some m0 → μ' id = some m → μ id = some m := fun id m m0 h0 hm => by
    rw [hle _ _ h0] at hm
    cases hm; exact h0
  induction h generalizing u0 with
  | undef u => exact fun _ => .undef u
  | int k n => exact fun _ => .int k n
  | bool b => exact fun _ => .bool b
  | str b => exact fun _ => .str b
  | ptrN => exact fun _ => .ptrN
  | ptr id off m h => intro h0; cases h0 with | ptr _ _ m0 h1 => exact .ptr id off m (key _ _ _ h1 h)
  | slcN => exact fun _ => .slcN
  | slc id off n c m h hn hr hre => intro h0; cases h0 with
    | slc _ _ _ c0 m0 h1 => exact .slc id off n c m (key _ _ _ h1 h) hn hr hre
    | slcZ _ _ m0 a0 h1 => exact .slc id off _ c m (key _ _ _ h1 h) hn hr hre
  | slcZ id off m a h hr => intro h0; cases h0 with
    | slc _ _ _ c0 m0 h1 => exact .slcZ id off m a (key _ _ _ h1 h) hr
    | slcZ _ _ m0 a0 h1 => exact .slcZ id off m a (key _ _ _ h1 h) hr
  | agg cs us hl h ih => intro h0; cases h0 with
    | agg _ us0 hl0 g0 =>
      refine .agg cs us hl fun i v u hv hu => ?_
      have hi : i < us0.size := by rw [← hl0]; exact (List.getElem?_eq_some_iff.1 hv).1
      exact ih i v u hv hu (g0 i v us0[i] hv (by simp [hi]))
  | tup cs us hl h ih => intro h0; cases h0 with
    | tup _ us0 hl0 g0 =>
      refine .tup cs us hl fun i v u hv hu => ?_
      have hi : i < us0.size := by rw [← hl0]; exact (List.getElem?_eq_some_iff.1 hv).1
      exact ih i v u hv hu (g0 i v us0[i] hv (by simp [hi]))
  | fn f az bs us vs hl h hl' h' ih ih' => intro h0; cases h0 with
    | fn _ _ _ us0 vs0 hl0 g0 hl0' g0' =>
      refine .fn f az bs us vs hl (fun i v u hv hu => ?_) hl' (fun i v u hv hu => ?_)
      · have hi : i < us0.size := by rw [← hl0]; exact (List.getElem?_eq_some_iff.1 hv).1
        exact ih i v u hv hu (g0 i v us0[i] hv (by simp [hi]))
      · have hi : i < vs0.size := by rw [← hl0']; exact (List.getElem?_eq_some_iff.1 hv).1
        exact ih' i v u hv hu (g0' i v vs0[i] hv (by simp [hi]))
  | nilfn => exact fun _ => .nilfn
  | niface => exact fun _ => .niface
  | someif t u => exact fun _ => .someif t u

theorem gc_sound (hs : HSim H μ w) (h : HGoes H μ w H' μ' w') {r : V} {u : Value} (hv : VR μ' r u) : ∃ μ'', HGoes H μ w (gcH H H' r) μ'' w' ∧ VR μ'' r u := by
  unfold gcH
  split
  · rename_i hc
    obtain ⟨⟨T, rfl⟩, hlow⟩ := hc
    have old : ∀ (id : Nat) (o : Ob), H[id]? = some o → (H ++ T)[id]? = some o := fun id o ho => by
      rw [List.getElem?_append_left (List.getElem?_eq_some_iff.1 ho).1]; exact ho
    refine ⟨μ, ⟨⟨hs.dom, hs.map, fun id o m ho hm => ?_, hs.sep, fun id es cells m ho hm h3 => h.sim.plain id es cells m (old id _ ho) (h.mle _ _ hm) h3⟩, μ.le_refl, ⟨h.grow.size, h.grow.same, fun b hb => .inl hb, h.grow.os, h.grow.tape, h.grow.output, h.grow.drawn⟩, Lives.refl _ _ _⟩, ?_⟩
    · have h1 := h.sim.obj id o m (old id o ho) (h.mle _ _ hm)
      have h0 := hs.obj id o m ho hm
      cases o with
      | dead => trivial
      | mk own es cells =>
        refine ⟨h1.1, h1.2.1, h1.2.2.1, fun j v hj => ?_, h1.2.2.2.2.1, h1.2.2.2.2.2⟩
        obtain ⟨u, k1, k2⟩ := h1.2.2.2.1 j v hj
        obtain ⟨u0, _, k3⟩ := h0.2.2.2.1 j v hj
        exact ⟨u, k1, VR.down2 h.mle k2 k3⟩
    · exact VR.down h.mle (fun id ⟨own, es, cells, ht⟩ => hs.map id _ ht rfl) hv hlow
  · exact ⟨μ', h, hv⟩

/-! ### Results -/

def ResOk (n : Nat) : ResultVar → Prop
  | .tmp t => t < n
  | .cell t _ => t < n

variable {L : List Nat} {σ σ' : St} {β : List Nat} {a a' : Act}

def resOne (tmps : Array Value) : ResultVar → Sem Value
  | .tmp t => pure (tmps.getD t undef)
  | .cell a t => do loadVar t (← asAddr (tmps.getD a undef))

theorem resVar_sound (hty : TysOk P C.ty) (hs : Sim L σ μ β a w) {x : ResultVar} (hx : ResOk a.tmps.size x) {v : V} (h : resVar C σ x = some v) : ∃ u, (resOne a.tmps x).run P w = .ok u w ∧ VR μ v u := by
  cases x with
  | tmp t =>
    have := ev_sound hs (x := .tmp t) hx h
    refine ⟨_, rfl, ?_⟩
    simpa [Act.eval] using this
  | cell p t =>
    simp only [resVar] at h
    split at h
    · rename_i r h1
      split at h
      · rename_i pl h2
        unfold loadAt at h
        split at h
        · cases h
        · rename_i hz
          split at h
          · rename_i cells h4
            split at h
            · rename_i cs h5
              cases h
              obtain ⟨b, base, hu, hc⟩ := cellsAt_sound hs (evR_sound hs (x := .tmp p) hx h1) h2 h4
              obtain ⟨u, h6, h7⟩ := loadVar_sound (hty.of_size hz) hc h5
              have hu' : a.tmps.getD p undef = .pointer (some ⟨b, base + pl.off, none⟩) := by simpa [Act.eval] using hu
              exact ⟨u, by simp [resOne, hu', asAddr, h6], h7⟩
            · cases h
          · cases h
      · cases h
    · cases h

theorem resVars_sound (hty : TysOk P C.ty) (hs : Sim L σ μ β a w) : ∀ {xs : List ResultVar}, (∀ x ∈ xs, ResOk a.tmps.size x) → ∀ {vs : List V}, resVars C σ xs = some vs → ∃ us, (xs.mapM (resOne a.tmps)).run P w = .ok us w ∧ VL μ vs us
  | [], _, vs, h => by simp only [resVars, Option.some.injEq] at h; subst h; exact ⟨[], rfl, .nil⟩
  | x :: xs, hx, vs, h => by
    simp only [resVars] at h
    split at h
    · rename_i v vs' h1 h2
      cases h
      obtain ⟨u, k1, k2⟩ := resVar_sound hty hs (hx x (by simp)) h1
      obtain ⟨us, k3, k4⟩ := resVars_sound hty hs (fun y hy => hx y (List.mem_cons_of_mem _ hy)) h2
      exact ⟨u :: us, by simp [List.mapM_cons, k1, k3], .cons k2 k4⟩
    · cases h

theorem results_sound (hty : TysOk P C.ty) (hs : Sim L σ μ β a w) {F : Func} (hx : ∀ x ∈ F.results.toList, ResOk a.tmps.size x) {vs : List V} (h : resVars C σ F.results.toList = some vs) :
    ∃ u, (results F a.tmps).run P w = .ok u w ∧ VR μ (tupleOf vs) u := by
  obtain ⟨us, k1, k2⟩ := resVars_sound hty hs hx h
  have e : results F a.tmps = (do let vs ← F.results.mapM (resOne a.tmps); pure (if h : vs.size = 1 then vs[0] else .tuple vs)) := by
    unfold results
    congr 1
  have e2 : (F.results.mapM (resOne a.tmps)).run P w = .ok us.toArray w := by
    rw [Array.mapM_eq_mapM_toList]
    simp [k1]
  refine ⟨if h : us.toArray.size = 1 then us.toArray[0] else .tuple us.toArray, by rw [e]; simp [e2], ?_⟩
  cases k2 with
  | nil => exact .tup _ _ rfl (fun i v u hv => by simp at hv)
  | cons h1 h2 =>
    cases h2 with
    | nil => simpa [tupleOf] using h1
    | cons h2 h3 =>
      rw [dif_neg (by simp)]
      exact .tup _ _ (by simp [VL.length h3]) fun i v u hv hu => VL.get (.cons h1 (.cons h2 h3)) i v u hv (by simpa using hu)

/-! ### Calls -/

/-- A function that is given by hand. -/
def PrimOk (P : Program) (g : Nat) (pr : List V → List Ob → Option (V × List Ob)) : Prop :=
  ∀ (args : List V) (H : List Ob) (r : V) (H' : List Ob), pr args H = some (r, H') → ∀ (μ : Mu) (w : World) (us : Array Value), HSim H μ w → VL μ args us.toList →
    CallTo P g us w fun v w' => ∃ μ', HGoes H μ w H' μ' w' ∧ VR μ' r v

/-- A function of the program's. -/
structure FnOk (P : Program) (C : Ctx) (g : Nat) (F : Func) (c : Code) : Prop where
  func : P.funcs[g]? = some F
  body : F.body = some c
  name : (F.name == "runtime.NumGoroutine") = false
  code : CodeOk P C g F.ntmps c
  res : ∀ x ∈ F.results.toList, ResOk F.ntmps x

structure ProgOk (P : Program) (C : Ctx) : Prop where
  ty : TysOk P C.ty
  prim : ∀ g pr, C.prim g = some pr → PrimOk P g pr
  fn : ∀ g F c, C.fids g = true → C.funcs g = some F → F.body = some c → FnOk P C g F c

theorem ResOk.mono {n m : Nat} (h : n ≤ m) {x : ResultVar} (hx : ResOk n x) : ResOk m x := by
  cases x <;> exact Nat.lt_of_lt_of_le hx h

theorem frame_sim (hs : HSim H μ w) {args : List V} {us : Array Value} (ha : VL μ args us.toList) (k : Nat) : Sim L ⟨initRegs args, 0, H⟩ μ [] { tmps := us ++ Array.replicate k undef, defers := [] } w where
  heap := hs
  lenβ := rfl
  reg t ht := by
    show VR μ (args.getD t .undef) _
    have hl := VL.length ha
    rw [List.getD_eq_getElem?_getD]
    cases hv : args[t]? with
    | none => exact .undef _
    | some v =>
      have hlt : t < us.size := by rw [← Array.length_toList, ← hl]; exact (List.getElem?_eq_some_iff.1 hv).1
      have hu : us.toList[t]? = some us[t] := by simp [hlt]
      have := VL.get ha t v _ hv hu
      simpa [Array.getD_eq_getD_getElem?, Array.getElem?_append, hlt] using this
  box t c cells b ht h := by simp [initRegs] at h
  sepβ id o m b _ _ _ h := by cases h
  injβ c c' b h := by simp at h
  ltβ b h := by cases h
  uniq t t' c cells cells' _ _ h := by simp [initRegs] at h
  loc t c cells _ h := by simp [initRegs] at h
  defs := rfl

theorem callN_ok (hp : ProgOk P C) : ∀ n, CallOk P (callN C n) := by
  intro n
  induction n with
  | zero => intro g args H r H' h; cases h
  | succ n ih =>
    intro g args H r H' h μ w us hs ha
    simp only [callN] at h
    split at h
    · rename_i pr hpr
      exact hp.prim g pr hpr args H r H' h μ w us hs ha
    · split at h
      · rename_i hid
        split at h
        · rename_i F hF
          split at h
          · rename_i c hc
            have hfn := hp.fn g F c hid hF hc
            refine .inr ⟨by simp [callFunc, hfn.func, (by simpa using hfn.name : ¬F.name = "runtime.NumGoroutine"), hc], calls_of_wp hfn.func hc ?_⟩
            have hsim := frame_sim (L := C.locs g) hs ha (F.ntmps - us.size)
            have hsz : F.ntmps ≤ (us ++ Array.replicate (F.ntmps - us.size) undef).size := by simp; omega
            unfold finL at h
            have fin : ∀ {σ' : St} {vs : List V} {a' : Act} {w' : World}, resVars C σ' F.results.toList = some vs → r = tupleOf vs → H' = gcH H σ'.heap (tupleOf vs) →
                Leads (C.locs g) ⟨initRegs args, 0, H⟩ μ [] { tmps := us ++ Array.replicate (F.ntmps - us.size) undef, defers := [] } w σ' a' w' →
                a'.defers = [] ∧ ∃ v, (results F a'.tmps).run P w' = .ok v w' ∧ ∃ v', Ending.returned v = .returned v' ∧ ∃ μ', HGoes H μ w H' μ' w' ∧ VR μ' r v' := by
              intro σ' vs a' w' hv hr hH hl
              obtain ⟨μ', β', k1, k2, k3, k4, k5, k6⟩ := hl
              obtain ⟨u, h1, h2⟩ := results_sound hp.ty k1 (fun x hx => (hfn.res x hx).mono (by rw [k4]; exact hsz)) hv
              have hg : HGoes H μ w σ'.heap μ' w' := ⟨k1.heap, k2, ⟨k5.size, k5.same, fun b hb => k5.own b (hb.elim .inl fun hb => by cases hb), k5.os, k5.tape, k5.output, k5.drawn⟩, k6⟩
              obtain ⟨μ'', h3, h4⟩ := gc_sound hs hg h2
              exact ⟨k1.defs, u, h1, u, rfl, μ'', by rw [hH]; exact h3, by rw [hr]; exact h4⟩
            split at h
            · rename_i σ' hex
              split at h
              · rename_i vs hv
                cases h
                exact wpIn_rf.1 (exec_sound (ro := none) hp.ty ih c hsim (hfn.code.mono hsz) hex fun a' w' hl => fin hv rfl rfl hl)
              · cases h
            · rename_i σ' hex
              split at h
              · rename_i vs hv
                cases h
                exact wpIn_rf.1 (exec_sound (ro := none) hp.ty ih c hsim (hfn.code.mono hsz) hex fun a' w' hl => fin hv rfl rfl hl)
              · cases h
            · cases h
          · cases h
        · cases h
      · cases h

theorem DrawsOk.of {f id : Nat} {ops : Array Oper} (hty : TysOk P C.ty) (hm : P.follows .mixedOrders = true) (hd : drawAll C f ops (hintOf C f id ops) = true) : DrawsOk P C f id ops := by
  intro callf σ σ' μ β a w Q ro t hcall hs hop hr hq
  simp only [Region.schedule, hm, Bool.true_or, if_true]
  exact wpAnyIn_sound ops.size t _ _ _ (drawAll_sound hty hcall hd hs hop hr hq)

end
end Go.Lite
end

section
namespace Go.Lite
open Go
set_option linter.unusedSimpArgs false
set_option linter.unusedVariables false

/-! ### Types -/

def descOf (P : Program) (t : Nat) : Option LD :=
  match P.underlying t with
  | none => none
  | some (.int k) => some (.int k)
  | some .bool => some .bool
  | some .string => some .str
  | some (.pointer _) => some .ptr
  | some (.func _ _ _) => some .func
  | some (.interface _) => some .iface
  | some (.slice e) => some (.slice e)
  | some (.array n e) => some (.array n e)
  | some (.struct Fs) => if Fs.toList.all (fun F => (P.info? F.type).isSome) then some (.struct (Fs.toList.map fun f => (f.offset, f.type))) else none
  | some _ => some .other

def tyOf (P : Program) (t : Nat) : LT :=
  match P.info? t, descOf P t with
  | some i, some d => match i.zero with
    | some z => ⟨d, i.size, i.bytes, z.cells.toList.map toV1⟩
    | none => .none
  | _, _ => .none

theorem tyOf_ok (P : Program) : TysOk P (tyOf P) := by
  intro t
  unfold tyOf
  split
  · rename_i i d hi hd
    split
    · rename_i z hz
      refine .inr ⟨⟨i, z, hi, rfl, rfl, hz, rfl⟩, ?_⟩
      show DescOk P t d
      unfold descOf at hd
      cases hu : P.underlying t with
      | none => rw [hu] at hd; cases hd
      | some e =>
        rw [hu] at hd
        cases e
        case struct Fs =>
          simp only at hd
          split at hd
          · rename_i hall
            cases hd
            exact ⟨Fs, hu, rfl, fun F hF => List.all_eq_true.1 hall F hF⟩
          · cases hd
        all_goals cases hd
        all_goals first
          | exact hu
          | exact ⟨_, hu⟩
          | exact ⟨_, _, _, hu⟩
          | exact ⟨_, hu, trivial⟩
    · exact .inl rfl
  · exact .inl rfl

/-! ### Code -/

def opdB (n : Nat) : Operand → Bool
  | .tmp t => decide (t < n)
  | _ => true

def operB (n : Nat) (o : Oper) : Bool := o.op.operands.all (opdB n) && (match o.dst with | some d => decide (d < n) | none => true)

def codeB (C : Ctx) (f n : Nat) : Code → Bool
  | .region id ops draw => ops.all (operB n) && (!draw || drawAll C f ops (hintOf C f id ops))
  | .seq a b => codeB C f n a && codeB C f n b
  | .cond c a b => opdB n c && codeB C f n a && codeB C f n b
  | .block _ b => codeB C f n b
  | .loop b => codeB C f n b
  | _ => true

def resB (n : Nat) : ResultVar → Bool
  | .tmp t => decide (t < n)
  | .cell t _ => decide (t < n)

def funcB (C : Ctx) (f : Nat) (F : Func) : Bool :=
  match F.body with
  | some c => !(F.name == "runtime.NumGoroutine") && codeB C f F.ntmps c && F.results.all (resB F.ntmps)
  | none => false

theorem opdB_sound {n : Nat} {x : Operand} (h : opdB n x = true) : OpdOk n x := by
  cases x <;> simp_all [opdB, OpdOk]

theorem operB_sound {n : Nat} {ops : Array Oper} (h : ops.all (operB n) = true) : OpsOk n ops := by
  intro o ho
  have := Array.all_eq_true_iff_forall_mem.1 h o (by simpa using ho)
  simp only [operB, Bool.and_eq_true] at this
  refine ⟨fun x hx => opdB_sound (Array.all_eq_true_iff_forall_mem.1 this.1 x hx), fun d hd => ?_⟩
  have h2 := this.2
  rw [hd] at h2
  simpa using h2

theorem codeB_sound {P : Program} {C : Ctx} {f n : Nat} (hty : TysOk P C.ty) (hm : P.follows .mixedOrders = true) : ∀ {c : Code}, codeB C f n c = true → CodeOk P C f n c
  | .region id ops draw, h => by
    simp only [codeB, Bool.and_eq_true, Bool.or_eq_true, Bool.not_eq_true'] at h
    refine ⟨operB_sound h.1, fun hd => DrawsOk.of hty hm (h.2.resolve_left (by rw [hd]; decide))⟩
  | .seq a b, h => by
    simp only [codeB, Bool.and_eq_true] at h
    exact ⟨codeB_sound hty hm h.1, codeB_sound hty hm h.2⟩
  | .cond c a b, h => by
    simp only [codeB, Bool.and_eq_true] at h
    exact ⟨opdB_sound h.1.1, codeB_sound hty hm h.1.2, codeB_sound hty hm h.2⟩
  | .block _ b, h => codeB_sound (c := b) hty hm h
  | .loop b, h => codeB_sound (c := b) hty hm h
  | .skip, _ | .rangeFunc .., _ | .exit _, _ | .scope _, _ | .label _, _ | .goto _, _ | .ret, _ | .refuse _, _ => trivial

theorem resB_sound {n : Nat} {x : ResultVar} (h : resB n x = true) : ResOk n x := by
  cases x <;> simpa [resB, ResOk] using h

/-- The interpreter over a program's own text. -/
structure Tabs where
  locs : Nat → List Nat
  ord : Nat → Nat → Option Hint
  prim : Nat → Option (List V → List Ob → Option (V × List Ob))
  fids : List Nat

def ctxOf (P : Program) (T : Tabs) : Ctx :=
  { ty := tyOf P, locs := T.locs, ord := T.ord, prim := T.prim, fids := fun g => T.fids.contains g, funcs := fun g => P.funcs[g]? }

def progB (P : Program) (T : Tabs) : Bool := T.fids.all fun g => match P.funcs[g]? with | some F => funcB (ctxOf P T) g F | none => false

theorem progB_sound {P : Program} {T : Tabs} (hm : P.follows .mixedOrders = true) (hB : progB P T = true) (hp : ∀ g pr, T.prim g = some pr → PrimOk P g pr) : ProgOk P (ctxOf P T) where
  ty := tyOf_ok P
  prim := hp
  fn g F c hid hF hc := by
    have hid' : g ∈ T.fids := by simpa [ctxOf] using hid
    have hF' : P.funcs[g]? = some F := hF
    have := List.all_eq_true.1 hB g hid'
    rw [hF'] at this
    simp only [funcB, hc, Bool.and_eq_true, Bool.not_eq_true'] at this
    exact ⟨hF', hc, this.1.1, codeB_sound (tyOf_ok P) hm this.1.2, fun x hx => resB_sound (Array.all_eq_true_iff_forall_mem.1 this.2 x (by simpa using hx))⟩

end Go.Lite
end

section
namespace Go.Lite
open Go

/-- Two texts are compared. -/
def cmpPrim : List V → List Ob → Option (V × List Ob)
  | [.str a, .str b], H => some (.int .i64 (Lib.compareBytes a b), H)
  | _, _ => none

/-- A function that is not told. -/
def nonePrim : List V → List Ob → Option (V × List Ob) := fun _ _ => none

/-- Cells that hold texts. -/
def strsOf : List V → Option (List (List UInt8))
  | [] => some []
  | .str s :: vs => match strsOf vs with
    | some l => some (s :: l)
    | none => none
  | _ => none

/-- A slice of texts is sorted where it stands. -/
def sortPrim : List V → List Ob → Option (V × List Ob)
  | [.slc p n], H => if n = 0 then some (.tup [], H) else match p with
    | some (id, off) => (match H[id]? with
      | some (.mk true es cells) => if es = 1 ∧ off + n ≤ cells.length ∧ n ≤ 1000000 then (match strsOf ((cells.drop off).take n) with
        | some ss => some (.tup [], H.set id (.mk true es (setRange cells off ((ss.mergeSort fun x y => decide (x ≤ y)).map V.str))))
        | none => none) else none
      | _ => none)
    | none => none
  | _, _ => none
end Go.Lite
end

section
namespace Go.Lite
open Go
set_option linter.unusedSimpArgs false
set_option linter.unusedVariables false

/-- What the one answers, the other answers. -/
def Sub (cf cf' : CallF) : Prop := ∀ g a H x, cf g a H = some x → cf' g a H = some x

section
variable {C : Ctx} {cf cf' : CallF} {f : Nat} {σ : St}

theorem effL_sub (hs : Sub cf cf') {d : Option Nat} {op : Op} {x : St} (h : effL C cf f σ d op = some x) : effL C cf' f σ d op = some x := by
  unfold effL at h ⊢
  split at h
  case h_10 g args ts =>
    split at h
    · rename_i g' a b xs h1 h2
      split at h
      · rename_i r H h3
        cases h
        try simp only [h1, h2]
        rw [hs _ _ _ _ h3]
      · cases h
    · cases h
  case h_11 => cases h
  all_goals exact h

theorem opL_sub (hs : Sub cf cf') {o : Oper} {x : St} (h : opL C cf f o σ = some x) : opL C cf' f o σ = some x := by
  unfold opL at *
  split at h
  · rename_i hi; rw [if_pos hi]; exact effL_sub hs h
  · rename_i hi; rw [if_neg hi]; exact h

theorem stepL_sub (hs : Sub cf cf') {ops : Array Oper} {o : Oper} {x : St} (h : stepL C cf f ops o σ = some x) : stepL C cf' f ops o σ = some x := by
  unfold stepL at *
  split at h
  · rename_i hw; try rw [hw]
    exact opL_sub hs h
  · rename_i hw; try rw [hw]
    exact h
  · cases h

theorem runL_sub (hs : Sub cf cf') {ops : Array Oper} : ∀ {os : List Oper} {σ x : St}, runL C cf f ops os σ = some x → runL C cf' f ops os σ = some x
  | [], _, _, h => h
  | o :: os, σ, x, h => by
    simp only [runL] at *
    split at h
    · rename_i σ1 h1
      rw [stepL_sub hs h1]
      exact runL_sub hs h
    · cases h

theorem stepK_sub (hs : Sub cf cf') {ops : Array Oper} {k : Hint} {base i : Nat} {x : St} (h : stepK C cf f ops k base i σ = some x) : stepK C cf' f ops k base i σ = some x := by
  obtain ⟨o, h1, h2, h3, h4⟩ := stepK_inv h
  exact stepK_intro h1 h2 (stepL_sub hs h3) h4

theorem runK_sub (hs : Sub cf cf') {ops : Array Oper} {k : Hint} {base : Nat} : ∀ {is : List Nat} {σ x : St}, runK C cf f ops k base is σ = some x → runK C cf' f ops k base is σ = some x
  | [], _, _, h => h
  | i :: is, σ, x, h => by
    simp only [runK] at *
    split at h
    · rename_i σ1 h1
      rw [stepK_sub hs h1]
      exact runK_sub hs h
    · cases h

theorem stepR_sub (hs : Sub cf cf') {ops : Array Oper} {k : Hint} {base i : Nat} {x : St} (h : stepR C cf f ops k base i σ = some x) : stepR C cf' f ops k base i σ = some x := by
  unfold stepR at *
  split at h
  · rename_i j hj; exact h
  · rename_i hj
    try simp only [hj]
    split at h
    · rename_i σ1 h1
      rw [stepK_sub hs h1]
      exact h
    · cases h

theorem runR_sub (hs : Sub cf cf') {ops : Array Oper} {k : Hint} {base : Nat} : ∀ {is : List Nat} {σ x : St}, runR C cf f ops k base is σ = some x → runR C cf' f ops k base is σ = some x
  | [], _, _, h => h
  | i :: is, σ, x, h => by
    simp only [runR] at *
    split at h
    · rename_i σ1 h1
      rw [stepR_sub hs h1]
      exact runR_sub hs h
    · cases h

theorem regionL_sub (hs : Sub cf cf') {id : Nat} {ops : Array Oper} {draw : Bool} {x : St} (h : regionL C cf f id ops draw σ = some x) : regionL C cf' f id ops draw σ = some x := by
  unfold regionL at *
  split at h
  · split at h
    · exact runK_sub hs h
    · exact runR_sub hs h
  · exact runL_sub hs h

theorem loopN_sub {g g' : St → Option (Ex × St)} (hg : ∀ σ x, g σ = some x → g' σ = some x) : ∀ {n m : Nat} {σ : St} {x : Ex × St}, n ≤ m → loopN g n σ = some x → loopN g' m σ = some x
  | 0, _, _, _, _, h => by cases h
  | n + 1, 0, _, _, hnm, _ => by omega
  | n + 1, m + 1, σ, x, hnm, h => by
    simp only [loopN] at *
    split at h
    · rename_i σ1 h1
      rw [hg _ _ h1]
      exact loopN_sub hg (by omega) h
    · rename_i hn
      have := hg _ _ h
      rw [this]
      split
      · rename_i σ1 he; cases he; exact absurd h (hn _)
      · rfl

theorem execN_sub (hs : Sub cf cf') {n m : Nat} (hnm : n ≤ m) : ∀ {c : Code} {σ : St} {x : Ex × St}, execN C cf f n c σ = some x → execN C cf' f m c σ = some x := by
  intro c
  induction c with
  | region id ops draw =>
    intro σ x h
    simp only [execN] at *
    split at h
    · rename_i σ1 h1
      rw [regionL_sub hs h1]
      exact h
    · cases h
  | seq a b iha ihb =>
    intro σ x h
    simp only [execN, thenL] at *
    split at h
    · rename_i σ1 h1
      rw [iha h1]
      exact ihb h
    · rename_i hn
      rw [iha h]
      split
      · rename_i σ1 he; cases he; exact absurd h (hn _)
      · rfl
  | cond c a b iha ihb =>
    intro σ x h
    simp only [execN, condL] at *
    split at h
    · split at h
      · rename_i hb; simp only [hb, if_true]; exact iha h
      · rename_i hb; simp only [hb, if_false]; exact ihb h
    · cases h
  | block id b ih =>
    intro σ x h
    simp only [execN, blockL] at *
    split at h
    · rename_i i σ1 h1
      rw [ih h1]
      exact h
    · rename_i hn
      rw [ih h]
      split
      · rename_i i σ1 he; cases he; exact absurd h (hn _ _)
      · rfl
  | loop b ih =>
    intro σ x h
    simp only [execN] at *
    exact loopN_sub (fun σ x h => ih h) hnm h
  | skip => intro σ x h; exact h
  | exit => intro σ x h; exact h
  | ret => intro σ x h; exact h
  | _ => intro σ x h; cases h

theorem finL_sub {F : Func} {H : List Ob} {r r' : Option (Ex × St)} (hr : ∀ x, r = some x → r' = some x) {y : V × List Ob} (h : finL C F H r = some y) : finL C F H r' = some y := by
  cases r with
  | none => cases h
  | some x => rw [hr x rfl]; exact h

theorem callN_succ : ∀ n, Sub (callN C n) (callN C (n + 1)) := by
  intro n
  induction n with
  | zero => intro g a H x h; cases h
  | succ n ih =>
    intro g a H x h
    rw [callN] at h ⊢
    dsimp only at h ⊢
    split at h
    · exact h
    · split at h
      · rename_i hid
        rw [if_pos hid]
        split at h
        · rename_i F hF
          split at h
          · rename_i c hc
            try simp only [hF, hc]
            exact finL_sub (fun y hy => execN_sub ih (Nat.le_succ n) hy) h
          · cases h
        · cases h
      · cases h

theorem callN_mono {n m : Nat} (h : n ≤ m) : Sub (callN C n) (callN C m) := by
  induction h with
  | refl => exact fun _ _ _ _ h => h
  | step _ ih => exact fun g a H x hx => callN_succ _ g a H x (ih g a H x hx)

open Classical in
noncomputable def callW (C : Ctx) : CallF := fun g a H => if h : ∃ x n, callN C n g a H = some x then some h.choose else none

open Classical in
noncomputable def execW (C : Ctx) (f : Nat) (c : Code) (σ : St) : Option (Ex × St) := if h : ∃ x n, execN C (callN C n) f n c σ = some x then some h.choose else none

theorem callW_iff {g : Nat} {a : List V} {H : List Ob} {x : V × List Ob} : callW C g a H = some x ↔ ∃ n, callN C n g a H = some x := by
  unfold callW
  constructor
  · intro h
    split at h
    · rename_i he; cases h; exact he.choose_spec
    · cases h
  · rintro ⟨n, hn⟩
    have he : ∃ x n, callN C n g a H = some x := ⟨x, n, hn⟩
    rw [dif_pos he]
    obtain ⟨m, hm⟩ := he.choose_spec
    have h1 := callN_mono (C := C) (Nat.le_max_left n m) _ _ _ _ hn
    have h2 := callN_mono (C := C) (Nat.le_max_right n m) _ _ _ _ hm
    rw [h1] at h2
    exact h2.symm

theorem execW_iff {c : Code} {x : Ex × St} : execW C f c σ = some x ↔ ∃ n, execN C (callN C n) f n c σ = some x := by
  unfold execW
  constructor
  · intro h
    split at h
    · rename_i he; cases h; exact he.choose_spec
    · cases h
  · rintro ⟨n, hn⟩
    have he : ∃ x n, execN C (callN C n) f n c σ = some x := ⟨x, n, hn⟩
    rw [dif_pos he]
    obtain ⟨m, hm⟩ := he.choose_spec
    have h1 := execN_sub (callN_mono (C := C) (Nat.le_max_left n m)) (Nat.le_max_left n m) hn
    have h2 := execN_sub (callN_mono (C := C) (Nat.le_max_right n m)) (Nat.le_max_right n m) hm
    rw [h1] at h2
    exact h2.symm

theorem sub_W (n : Nat) : Sub (callN C n) (callW C) := fun g a H x h => callW_iff.2 ⟨n, h⟩

theorem effL_lim {d : Option Nat} {op : Op} {x : St} (h : effL C (callW C) f σ d op = some x) : ∃ n, effL C (callN C n) f σ d op = some x := by
  unfold effL at h ⊢
  split at h
  case h_10 g args ts =>
    split at h
    · rename_i g' a b xs h1 h2
      split at h
      · rename_i r H h3
        cases h
        obtain ⟨n, hn⟩ := callW_iff.1 h3
        refine ⟨n, ?_⟩
        try simp only [h1, h2]
        rw [hn]
      · cases h
    · cases h
  case h_11 => cases h
  all_goals exact ⟨0, h⟩

theorem stepL_lim {ops : Array Oper} {o : Oper} {x : St} (h : stepL C (callW C) f ops o σ = some x) : ∃ n, stepL C (callN C n) f ops o σ = some x := by
  unfold stepL at *
  split at h
  · rename_i hw
    unfold opL at *
    split at h
    · rename_i hi
      obtain ⟨n, hn⟩ := effL_lim h
      exact ⟨n, by simp only [hi, if_true]; exact hn⟩
    · rename_i hi
      exact ⟨0, by simp only [hi, if_false]; exact h⟩
  · exact ⟨0, h⟩
  · cases h

theorem runL_lim {ops : Array Oper} : ∀ {os : List Oper} {σ x : St}, runL C (callW C) f ops os σ = some x → ∃ n, runL C (callN C n) f ops os σ = some x
  | [], _, _, h => ⟨0, h⟩
  | o :: os, σ, x, h => by
    simp only [runL] at *
    split at h
    · rename_i σ1 h1
      obtain ⟨n, hn⟩ := stepL_lim h1
      obtain ⟨m, hm⟩ := runL_lim h
      refine ⟨max n m, ?_⟩
      rw [stepL_sub (callN_mono (Nat.le_max_left n m)) hn]
      exact runL_sub (callN_mono (Nat.le_max_right n m)) hm
    · cases h

theorem runK_lim {ops : Array Oper} {k : Hint} {base : Nat} : ∀ {is : List Nat} {σ x : St}, runK C (callW C) f ops k base is σ = some x → ∃ n, runK C (callN C n) f ops k base is σ = some x
  | [], _, _, h => ⟨0, h⟩
  | i :: is, σ, x, h => by
    simp only [runK] at *
    split at h
    · rename_i σ1 h1
      obtain ⟨o, g1, g2, g3, g4⟩ := stepK_inv h1
      obtain ⟨n, hn⟩ := stepL_lim g3
      obtain ⟨m, hm⟩ := runK_lim h
      refine ⟨max n m, ?_⟩
      rw [stepK_intro g1 g2 (stepL_sub (callN_mono (Nat.le_max_left n m)) hn) g4]
      exact runK_sub (callN_mono (Nat.le_max_right n m)) hm
    · cases h

theorem stepR_lim {ops : Array Oper} {k : Hint} {base i : Nat} {x : St} (h : stepR C (callW C) f ops k base i σ = some x) : ∃ n, stepR C (callN C n) f ops k base i σ = some x := by
  unfold stepR at *
  split at h
  · rename_i j hj; exact ⟨0, h⟩
  · rename_i hj
    split at h
    · rename_i σ1 h1
      obtain ⟨o, g1, g2, g3, g4⟩ := stepK_inv h1
      obtain ⟨n, hn⟩ := stepL_lim g3
      refine ⟨n, ?_⟩
      try simp only [hj]
      rw [stepK_intro g1 g2 hn g4]
      exact h
    · cases h

theorem runR_lim {ops : Array Oper} {k : Hint} {base : Nat} : ∀ {is : List Nat} {σ x : St}, runR C (callW C) f ops k base is σ = some x → ∃ n, runR C (callN C n) f ops k base is σ = some x
  | [], _, _, h => ⟨0, h⟩
  | i :: is, σ, x, h => by
    simp only [runR] at *
    split at h
    · rename_i σ1 h1
      obtain ⟨n, hn⟩ := stepR_lim h1
      obtain ⟨m, hm⟩ := runR_lim h
      refine ⟨max n m, ?_⟩
      rw [stepR_sub (callN_mono (Nat.le_max_left n m)) hn]
      exact runR_sub (callN_mono (Nat.le_max_right n m)) hm
    · cases h

theorem regionL_lim {id : Nat} {ops : Array Oper} {draw : Bool} {x : St} (h : regionL C (callW C) f id ops draw σ = some x) : ∃ n, regionL C (callN C n) f id ops draw σ = some x := by
  unfold regionL at *
  split at h
  · split at h
    · exact runK_lim h
    · exact runR_lim h
  · exact runL_lim h

/-! ### The equations -/

theorem opt_ext {α : Type} {x y : Option α} (h : ∀ v, x = some v ↔ y = some v) : x = y := by
  cases x with
  | none =>
    cases y with
    | none => rfl
    | some v => exact (h v).2 rfl
  | some v => exact ((h v).1 rfl).symm

theorem execW_skip : execW C f .skip σ = some (.norm, σ) := execW_iff.2 ⟨0, rfl⟩
theorem execW_ret : execW C f .ret σ = some (.ret, σ) := execW_iff.2 ⟨0, rfl⟩
theorem execW_exit {id : Nat} : execW C f (.exit id) σ = some (.exit id, σ) := execW_iff.2 ⟨0, rfl⟩

theorem execW_region {id : Nat} {ops : Array Oper} {draw : Bool} : execW C f (.region id ops draw) σ = match regionL C (callW C) f id ops draw σ with
    | some σ => some (.norm, σ)
    | none => none := by
  refine opt_ext fun v => execW_iff.trans ⟨?_, ?_⟩
  · rintro ⟨n, hn⟩
    simp only [execN] at hn
    split at hn
    · rename_i σ1 h1
      rw [regionL_sub (sub_W n) h1]; exact hn
    · cases hn
  · intro h
    split at h
    · rename_i σ1 h1
      obtain ⟨n, hn⟩ := regionL_lim h1
      exact ⟨n, by simp only [execN, hn]; exact h⟩
    · cases h

theorem thenL_some {r : Option (Ex × St)} {g : St → Option (Ex × St)} {v : Ex × St} : thenL r g = some v ↔ (∃ σ1, r = some (.norm, σ1) ∧ g σ1 = some v) ∨ (r = some v ∧ v.1 ≠ .norm) := by
  unfold thenL
  split
  · rename_i σ1
    constructor
    · intro h; exact .inl ⟨σ1, rfl, h⟩
    · rintro (⟨σ2, h1, h2⟩ | ⟨h1, h2⟩)
      · cases h1; exact h2
      · cases h1; exact absurd rfl h2
  · rename_i hn
    constructor
    · intro h
      refine .inr ⟨h, fun he => ?_⟩
      obtain ⟨e, σ1⟩ := v
      simp only at he
      subst he
      exact hn _ h
    · rintro (⟨σ2, h1, h2⟩ | ⟨h1, h2⟩)
      · exact absurd h1 (hn _)
      · exact h1

theorem execW_seq {a b : Code} : execW C f (.seq a b) σ = thenL (execW C f a σ) (execW C f b) := by
  refine opt_ext fun v => execW_iff.trans ⟨?_, ?_⟩
  · rintro ⟨n, hn⟩
    simp only [execN] at hn
    rcases thenL_some.1 hn with ⟨σ1, h1, h2⟩ | ⟨h1, h2⟩
    · exact thenL_some.2 (.inl ⟨σ1, execW_iff.2 ⟨n, h1⟩, execW_iff.2 ⟨n, h2⟩⟩)
    · exact thenL_some.2 (.inr ⟨execW_iff.2 ⟨n, h1⟩, h2⟩)
  · intro h
    rcases thenL_some.1 h with ⟨σ1, h1, h2⟩ | ⟨h1, h2⟩
    · obtain ⟨n, hn⟩ := execW_iff.1 h1
      obtain ⟨m, hm⟩ := execW_iff.1 h2
      refine ⟨max n m, ?_⟩
      simp only [execN]
      exact thenL_some.2 (.inl ⟨σ1, execN_sub (callN_mono (Nat.le_max_left n m)) (Nat.le_max_left n m) hn, execN_sub (callN_mono (Nat.le_max_right n m)) (Nat.le_max_right n m) hm⟩)
    · obtain ⟨n, hn⟩ := execW_iff.1 h1
      exact ⟨n, by simp only [execN]; exact thenL_some.2 (.inr ⟨hn, h2⟩)⟩

theorem execW_cond {c : Operand} {a b : Code} : execW C f (.cond c a b) σ = condL σ c (execW C f a σ) (execW C f b σ) := by
  refine opt_ext fun v => execW_iff.trans ⟨?_, ?_⟩
  · rintro ⟨n, hn⟩
    simp only [execN, condL] at hn ⊢
    split at hn
    · split at hn
      · rename_i hb; simp only [hb, if_true]; exact execW_iff.2 ⟨n, hn⟩
      · rename_i hb; simp only [hb, if_false]; exact execW_iff.2 ⟨n, hn⟩
    · cases hn
  · intro h
    simp only [execN, condL] at h ⊢
    split at h
    · split at h
      · rename_i hb; simp only [hb, if_true]; exact execW_iff.1 h
      · rename_i hb; simp only [hb, if_false]; exact execW_iff.1 h
    · cases h

theorem blockL_some {id : Nat} {r : Option (Ex × St)} {v : Ex × St} : blockL id r = some v ↔ ∃ u, r = some u ∧ blockL id (some u) = some v := by
  cases r with
  | none => simp [blockL]
  | some u => simp

theorem execW_block {id : Nat} {b : Code} : execW C f (.block id b) σ = blockL id (execW C f b σ) := by
  refine opt_ext fun v => execW_iff.trans ⟨?_, ?_⟩
  · rintro ⟨n, hn⟩
    simp only [execN] at hn
    obtain ⟨u, h1, h2⟩ := blockL_some.1 hn
    exact blockL_some.2 ⟨u, execW_iff.2 ⟨n, h1⟩, h2⟩
  · intro h
    obtain ⟨u, h1, h2⟩ := blockL_some.1 h
    obtain ⟨n, hn⟩ := execW_iff.1 h1
    exact ⟨n, by simp only [execN]; exact blockL_some.2 ⟨u, hn, h2⟩⟩

theorem loopN_then {g : St → Option (Ex × St)} {n : Nat} {σ : St} : loopN g (n + 1) σ = thenL (g σ) (loopN g n) := by
  simp only [loopN, thenL]

theorem execW_loop {b : Code} : execW C f (.loop b) σ = thenL (execW C f b σ) (execW C f (.loop b)) := by
  refine opt_ext fun v => execW_iff.trans ⟨?_, ?_⟩
  · rintro ⟨n, hn⟩
    cases n with
    | zero => cases hn
    | succ n =>
      simp only [execN] at hn
      rw [loopN_then] at hn
      rcases thenL_some.1 hn with ⟨σ1, h1, h2⟩ | ⟨h1, h2⟩
      · refine thenL_some.2 (.inl ⟨σ1, execW_iff.2 ⟨n + 1, h1⟩, execW_iff.2 ⟨n + 1, ?_⟩⟩)
        simp only [execN]
        exact loopN_sub (fun _ _ h => h) (Nat.le_succ n) h2
      · exact thenL_some.2 (.inr ⟨execW_iff.2 ⟨n + 1, h1⟩, h2⟩)
  · intro h
    rcases thenL_some.1 h with ⟨σ1, h1, h2⟩ | ⟨h1, h2⟩
    · obtain ⟨n, hn⟩ := execW_iff.1 h1
      obtain ⟨m, hm⟩ := execW_iff.1 h2
      refine ⟨max n m + 1, ?_⟩
      simp only [execN] at hm ⊢
      rw [loopN_then]
      refine thenL_some.2 (.inl ⟨σ1, execN_sub (callN_mono (by omega)) (by omega) hn, ?_⟩)
      exact loopN_sub (fun σ x h => execN_sub (callN_mono (by omega)) (by omega) h) (by omega) hm
    · obtain ⟨n, hn⟩ := execW_iff.1 h1
      refine ⟨n + 1, ?_⟩
      simp only [execN]
      rw [loopN_then]
      exact thenL_some.2 (.inr ⟨execN_sub (callN_succ n) (Nat.le_succ n) hn, h2⟩)

theorem callW_prim {g : Nat} {pr : List V → List Ob → Option (V × List Ob)} (hp : C.prim g = some pr) {a : List V} {H : List Ob} : callW C g a H = pr a H := by
  refine opt_ext fun v => callW_iff.trans ⟨?_, ?_⟩
  · rintro ⟨n, hn⟩
    cases n with
    | zero => cases hn
    | succ n => simp only [callN, hp] at hn; exact hn
  · intro h
    exact ⟨1, by simp only [callN, hp]; exact h⟩

theorem finL_some {F : Func} {H : List Ob} {r : Option (Ex × St)} {v : V × List Ob} : finL C F H r = some v ↔ ∃ u, r = some u ∧ finL C F H (some u) = some v := by
  cases r with
  | none => simp [finL]
  | some u => simp

theorem callW_fn {g : Nat} {F : Func} {c : Code} (hp : C.prim g = none) (hid : C.fids g = true) (hF : C.funcs g = some F) (hc : F.body = some c) {a : List V} {H : List Ob} :
    callW C g a H = finL C F H (execW C g c ⟨initRegs a, 0, H⟩) := by
  refine opt_ext fun v => callW_iff.trans ⟨?_, ?_⟩
  · rintro ⟨n, hn⟩
    cases n with
    | zero => cases hn
    | succ n =>
      simp only [callN, hp, hid, if_true, hF, hc] at hn
      obtain ⟨u, h1, h2⟩ := finL_some.1 hn
      exact finL_some.2 ⟨u, execW_iff.2 ⟨n, h1⟩, h2⟩
  · intro h
    obtain ⟨u, h1, h2⟩ := finL_some.1 h
    obtain ⟨n, hn⟩ := execW_iff.1 h1
    exact ⟨n + 1, by simp only [callN, hp, hid, if_true, hF, hc]; exact finL_some.2 ⟨u, hn, h2⟩⟩

/-- What the interpreter says of a call is so. -/
theorem callW_ok {P : Program} (hp : ProgOk P C) : CallOk P (callW C) := by
  intro g args H r H' h
  obtain ⟨n, hn⟩ := callW_iff.1 h
  exact callN_ok hp n g args H r H' hn

end
end Go.Lite
end

section
namespace Go.Lite
open Go

attribute [simp] runL stepL opL isEff effL valL wantedL evR ev St.put upd toPl thenL condL blockL execW_skip execW_ret execW_exit execW_region execW_seq execW_cond execW_block toV toV1 evs evParts initRegs finL resVars resVar tupleOf pickV binL intBin intShift strBin isShift
  fieldR indexV fieldV LT.num LT.isAgg unL newVar asV boundL sliceV

section
variable {k : IntKind} {n : Int} {b : Bool} {s : List UInt8} {p : Option (Nat × Nat)} {m : Nat} {l l' : List V} {f : Nat}
theorem cellsOf_int : cellsOf (.int k n) = some [.int k n] := rfl
theorem cellsOf_bool : cellsOf (.bool b) = some [.bool b] := rfl
theorem cellsOf_str : cellsOf (.str s) = some [.str s] := rfl
theorem cellsOf_ptr : cellsOf (.ptr p) = some [.ptr p] := rfl
theorem cellsOf_slc : cellsOf (.slc p m) = some [.slc p m] := rfl
theorem cellsOf_fn : cellsOf (.fn f l l') = some [.fn f l l'] := rfl
theorem cellsOf_nilfn : cellsOf .nilfn = some [.nilfn] := rfl
theorem cellsOf_niface : cellsOf .niface = some [.niface] := rfl
theorem cellsOf_someif : cellsOf .someif = some [.someif] := rfl
theorem cellsOf_agg : cellsOf (.agg l) = some l := rfl
theorem isOne_int : isOne (.int k n) = true := rfl
theorem isOne_bool : isOne (.bool b) = true := rfl
theorem isOne_str : isOne (.str s) = true := rfl
theorem isOne_ptr : isOne (.ptr p) = true := rfl
theorem isOne_slc : isOne (.slc p m) = true := rfl
theorem isOne_fn : isOne (.fn f l l') = true := rfl
theorem isOne_nilfn : isOne .nilfn = true := rfl
theorem isOne_niface : isOne .niface = true := rfl
theorem isOne_someif : isOne .someif = true := rfl
attribute [simp] cellsOf_int cellsOf_bool cellsOf_str cellsOf_ptr cellsOf_slc cellsOf_fn cellsOf_nilfn cellsOf_niface cellsOf_someif cellsOf_agg isOne_int isOne_bool isOne_str isOne_ptr isOne_slc isOne_fn isOne_nilfn isOne_niface isOne_someif
end

theorem int_beq {a b : Int} : (a == b) = decide (a = b) := by
  by_cases h : a = b
  · subst h; simp
  · simp [h]
theorem str_beq {a b : List UInt8} : (a == b) = decide (a = b) := by
  by_cases h : a = b
  · subst h; simp
  · simp [h]
theorem int_bne {a b : Int} : (a != b) = !decide (a = b) := by
  show (!(a == b)) = _
  rw [int_beq]
attribute [simp] int_beq str_beq int_bne

theorem regionL_plain {C : Ctx} {callf : CallF} {f id : Nat} {ops : Array Oper} {σ : St} : regionL C callf f id ops false σ = runL C callf f ops ops.toList σ := by
  simp [regionL]
theorem regionL_none {C : Ctx} {callf : CallF} {f id : Nat} {ops : Array Oper} {σ : St} {d : Bool} (h : C.ord f id = none) : regionL C callf f id ops d σ = runL C callf f ops ops.toList σ := by
  cases d <;> simp [regionL, h]
attribute [simp] regionL_plain

theorem set_last {H : List Ob} {a b : Ob} : (H ++ [a]).set H.length b = H ++ [b] := by
  rw [List.set_append_right _ _ (Nat.le_refl _)]
  simp

theorem setRange_one {cells : List V} {k : Nat} {v : V} (h : k < cells.length) : setRange cells k [v] = cells.set k v := by
  unfold setRange
  rw [List.set_eq_take_append_cons_drop, if_pos h]
  simp

theorem wrap_i64 {n : Int} (h1 : -9223372036854775808 ≤ n) (h2 : n ≤ 9223372036854775807) : IntKind.i64.wrap n = n := by
  unfold IntKind.wrap
  simp [IntKind.bits, IntKind.signed]
  omega

theorem indexR_slc {e s b id off n : Nat} {z : List V} {ty : Nat → LT} {k : IntKind} {i : Int} : indexR ⟨.slice e, s, b, z⟩ ty (.val (.slc (some (id, off)) n)) (.int k i) =
    if 0 ≤ i ∧ i < n then (if (ty e).size = 0 then none else some (.val (.ptr (some (id, off + i.toNat * (ty e).size))))) else none := rfl
theorem lenV_slc {e s b n : Nat} {p : Option (Nat × Nat)} {z : List V} : lenV ⟨.slice e, s, b, z⟩ (.slc p n) = some (.int .i64 n) := rfl
theorem lenV_str {s b : Nat} {t : List UInt8} {z : List V} : lenV ⟨.str, s, b, z⟩ (.str t) = some (.int .i64 t.length) := rfl
attribute [simp] indexR_slc lenV_slc lenV_str

theorem get_last {H : List Ob} {a : Ob} : (H ++ [a])[H.length]? = some a := by simp

theorem loadAt_loc {T : LT} {σ : St} {t c off : Nat} : loadAt T σ (.loc t c off) = if T.size = 0 then none else match (match σ.regs t with
      | .box c' cells => if c' = c then some cells else none
      | _ => none) with
    | some cells => (match rdCells cells off T.num with
      | some cs => some (asV T.isAgg cs)
      | none => none)
    | none => none := rfl
theorem storeAt_loc {T : LT} {σ : St} {t c off : Nat} {v : V} : storeAt T σ (.loc t c off) v = match cellsOf v with
    | some xs => if 0 < T.size ∧ xs.length = T.size ∧ xs.all isOne = true then (match σ.regs t with
      | .box c' cells => if c' = c ∧ off + xs.length ≤ cells.length then some { σ with regs := upd σ.regs t (.box c (setRange cells off xs)) } else none
      | _ => none) else none
    | none => none := rfl
theorem thereAt_len {H : List Ob} : thereAt H H.length ↔ False := by
  refine ⟨fun ⟨own, es, cells, h⟩ => ?_, fun h => h.elim⟩
  simp at h
attribute [simp] appV badArg isIntT capV
attribute [simp] loadAt_loc storeAt_loc thereAt_len rdCells setRange lowV lowVs

theorem convL_int {ty : Nat → LT} {j j' k : IntKind} {s b s' b' : Nat} {z z' : List V} {H : List Ob} {n : Int} : convL ty ⟨.int j, s, b, z⟩ ⟨.int k, s', b', z'⟩ H (.int j' n) = some (.int k (k.wrap n)) := rfl
theorem convL_slc {ty : Nat → LT} {e s b s' b' n : Nat} {z z' : List V} {H : List Ob} {p : Option (Nat × Nat)} : convL ty ⟨.slice e, s, b, z⟩ ⟨.str, s', b', z'⟩ H (.slc p n) = if isByte (ty e) then (match slcCells H p n with
      | some cs => (match cs.mapM byteOfV with
        | some bs => some (.str bs)
        | none => none)
      | none => none)
    else none := rfl
attribute [simp] convL_int convL_slc St.new

attribute [simp] set_last

end Go.Lite
end

section
namespace Go.Lite
open Go
set_option linter.unusedSimpArgs false
set_option linter.unusedVariables false

/-- The code ends so that 'Q'. -/
def WP (C : Ctx) (f : Nat) (c : Code) (σ : St) (Q : Ex → St → Prop) : Prop := ∃ ex σ', execW C f c σ = some (ex, σ') ∧ Q ex σ'

def seqQ (C : Ctx) (f : Nat) (b : Code) (Q : Ex → St → Prop) : Ex → St → Prop
  | .norm, σ => WP C f b σ Q
  | .ret, σ => Q .ret σ
  | .exit i, σ => Q (.exit i) σ

def blockQ (id : Nat) (Q : Ex → St → Prop) : Ex → St → Prop
  | .norm, σ => Q .norm σ
  | .ret, σ => Q .ret σ
  | .exit i, σ => if i = id then Q .norm σ else Q (.exit i) σ

def loopQ (I : Nat → St → Prop) (k : Nat) (Q : Ex → St → Prop) : Ex → St → Prop
  | .norm, σ => ∃ k', k' < k ∧ I k' σ
  | .ret, σ => Q .ret σ
  | .exit i, σ => Q (.exit i) σ

def finQ (C : Ctx) (F : Func) (H : List Ob) (Q : V → List Ob → Prop) : Ex → St → Prop
  | .norm, σ => ∃ vs, resVars C σ F.results.toList = some vs ∧ Q (tupleOf vs) (gcH H σ.heap (tupleOf vs))
  | .ret, σ => ∃ vs, resVars C σ F.results.toList = some vs ∧ Q (tupleOf vs) (gcH H σ.heap (tupleOf vs))
  | .exit _, _ => False

/-- The call returns so that 'Q'. -/
def Ret (C : Ctx) (g : Nat) (args : List V) (H : List Ob) (Q : V → List Ob → Prop) : Prop := ∃ r H', callW C g args H = some (r, H') ∧ Q r H'

section
variable {C : Ctx} {f : Nat} {σ : St} {Q : Ex → St → Prop}

theorem seqQ_norm {b : Code} : seqQ C f b Q .norm σ = WP C f b σ Q := rfl
theorem seqQ_ret {b : Code} : seqQ C f b Q .ret σ = Q .ret σ := rfl
theorem seqQ_exit {b : Code} {i : Nat} : seqQ C f b Q (.exit i) σ = Q (.exit i) σ := rfl
theorem blockQ_norm {id : Nat} : blockQ id Q .norm σ = Q .norm σ := rfl
theorem blockQ_ret {id : Nat} : blockQ id Q .ret σ = Q .ret σ := rfl
theorem blockQ_exit {id i : Nat} : blockQ id Q (.exit i) σ = if i = id then Q .norm σ else Q (.exit i) σ := rfl
theorem loopQ_norm {I : Nat → St → Prop} {k : Nat} : loopQ I k Q .norm σ = ∃ k', k' < k ∧ I k' σ := rfl
theorem loopQ_ret {I : Nat → St → Prop} {k : Nat} : loopQ I k Q .ret σ = Q .ret σ := rfl
theorem loopQ_exit {I : Nat → St → Prop} {k i : Nat} : loopQ I k Q (.exit i) σ = Q (.exit i) σ := rfl
theorem finQ_norm {F : Func} {H : List Ob} {R : V → List Ob → Prop} : finQ C F H R .norm σ = ∃ vs, resVars C σ F.results.toList = some vs ∧ R (tupleOf vs) (gcH H σ.heap (tupleOf vs)) := rfl
theorem finQ_ret {F : Func} {H : List Ob} {R : V → List Ob → Prop} : finQ C F H R .ret σ = ∃ vs, resVars C σ F.results.toList = some vs ∧ R (tupleOf vs) (gcH H σ.heap (tupleOf vs)) := rfl
theorem finQ_exit {F : Func} {H : List Ob} {R : V → List Ob → Prop} {i : Nat} : finQ C F H R (.exit i) σ = False := rfl

theorem ex_some {e : Ex} {s : St} : (∃ ex σ', some (e, s) = some (ex, σ') ∧ Q ex σ') ↔ Q e s :=
  ⟨fun ⟨_, _, h, hq⟩ => by cases h; exact hq, fun h => ⟨_, _, rfl, h⟩⟩

theorem WP_skip : WP C f .skip σ Q ↔ Q .norm σ := by simp only [WP, execW_skip, ex_some]
theorem WP_ret : WP C f .ret σ Q ↔ Q .ret σ := by simp only [WP, execW_ret, ex_some]
theorem WP_exit {id : Nat} : WP C f (.exit id) σ Q ↔ Q (.exit id) σ := by simp only [WP, execW_exit, ex_some]

theorem WP_region {id : Nat} {ops : Array Oper} {draw : Bool} : WP C f (.region id ops draw) σ Q ↔ ∃ σ', regionL C (callW C) f id ops draw σ = some σ' ∧ Q .norm σ' := by
  simp only [WP, execW_region]
  cases regionL C (callW C) f id ops draw σ with
  | none => simp
  | some σ1 => simp only [ex_some]; exact ⟨fun h => ⟨σ1, rfl, h⟩, fun ⟨_, h, hq⟩ => by cases h; exact hq⟩

theorem WP_seq {a b : Code} : WP C f (.seq a b) σ Q ↔ WP C f a σ (seqQ C f b Q) := by
  simp only [WP, execW_seq]
  constructor
  · rintro ⟨ex, σ', h, hq⟩
    rcases thenL_some.1 h with ⟨σ1, h1, h2⟩ | ⟨h1, h2⟩
    · exact ⟨.norm, σ1, h1, ex, σ', h2, hq⟩
    · refine ⟨ex, σ', h1, ?_⟩
      cases ex with
      | norm => exact absurd rfl h2
      | ret => exact hq
      | exit i => exact hq
  · rintro ⟨ex, σ', h, hq⟩
    cases ex with
    | norm =>
      obtain ⟨ex2, σ2, h2, hq2⟩ := hq
      exact ⟨ex2, σ2, thenL_some.2 (.inl ⟨σ', h, h2⟩), hq2⟩
    | ret => exact ⟨.ret, σ', thenL_some.2 (.inr ⟨h, by simp⟩), hq⟩
    | exit i => exact ⟨.exit i, σ', thenL_some.2 (.inr ⟨h, by simp⟩), hq⟩

theorem WP_cond {c : Operand} {a b : Code} : WP C f (.cond c a b) σ Q ↔ ∃ t, ev σ c = some (.bool t) ∧ if t = true then WP C f a σ Q else WP C f b σ Q := by
  simp only [WP, execW_cond, condL]
  constructor
  · rintro ⟨ex, σ', h, hq⟩
    split at h
    · rename_i t ht
      refine ⟨t, ht, ?_⟩
      cases t with
      | true => simp only [if_true] at h ⊢; exact ⟨ex, σ', h, hq⟩
      | false => simp only [Bool.false_eq_true, if_false] at h ⊢; exact ⟨ex, σ', h, hq⟩
    · cases h
  · rintro ⟨t, ht, h⟩
    rw [ht]
    cases t with
    | true => simpa using h
    | false => simpa using h

theorem WP_block {id : Nat} {b : Code} : WP C f (.block id b) σ Q ↔ WP C f b σ (blockQ id Q) := by
  simp only [WP, execW_block]
  constructor
  · rintro ⟨ex, σ', h, hq⟩
    obtain ⟨⟨ex1, σ1⟩, h1, h2⟩ := blockL_some.1 h
    refine ⟨ex1, σ1, h1, ?_⟩
    cases ex1 with
    | norm => simp only [blockL] at h2; cases h2; exact hq
    | ret => simp only [blockL] at h2; cases h2; exact hq
    | exit i =>
      simp only [blockL] at h2
      simp only [blockQ]
      split at h2
      · rename_i hi; cases h2; simp only [hi, if_true]; exact hq
      · rename_i hi; cases h2; simp only [hi, if_false]; exact hq
  · rintro ⟨ex, σ', h, hq⟩
    cases ex with
    | norm => exact ⟨.norm, σ', by rw [h]; rfl, hq⟩
    | ret => exact ⟨.ret, σ', by rw [h]; rfl, hq⟩
    | exit i =>
      simp only [blockQ] at hq
      by_cases hi : i = id
      · simp only [hi, if_true] at hq; exact ⟨.norm, σ', by rw [h]; simp [blockL, hi], hq⟩
      · simp only [hi, if_false] at hq; exact ⟨.exit i, σ', by rw [h]; simp [blockL, hi], hq⟩

theorem WP.mono {c : Code} {Q' : Ex → St → Prop} (h : WP C f c σ Q) (hq : ∀ ex σ', Q ex σ' → Q' ex σ') : WP C f c σ Q' := by
  obtain ⟨ex, σ', h1, h2⟩ := h
  exact ⟨ex, σ', h1, hq _ _ h2⟩

/-- A loop: what stands ahead of each round, and fewer rounds to come each time. -/
theorem WP_loop {b : Code} (I : Nat → St → Prop) (h : ∀ k σ, I k σ → WP C f b σ (loopQ I k Q)) : ∀ k σ, I k σ → WP C f (.loop b) σ Q := by
  intro k
  induction k using Nat.strongRecOn with
  | ind k ih =>
    intro σ hi
    obtain ⟨ex, σ', h1, h2⟩ := h k σ hi
    cases ex with
    | norm =>
      obtain ⟨k', hk, hi'⟩ := h2
      obtain ⟨ex2, σ2, h3, h4⟩ := ih k' hk σ' hi'
      exact ⟨ex2, σ2, by rw [execW_loop]; exact thenL_some.2 (.inl ⟨σ', h1, h3⟩), h4⟩
    | ret => exact ⟨.ret, σ', by rw [execW_loop]; exact thenL_some.2 (.inr ⟨h1, by simp⟩), h2⟩
    | exit i => exact ⟨.exit i, σ', by rw [execW_loop]; exact thenL_some.2 (.inr ⟨h1, by simp⟩), h2⟩

theorem Ret_fn {g : Nat} {F : Func} {c : Code} (hp : C.prim g = none) (hid : C.fids g = true) (hF : C.funcs g = some F) (hc : F.body = some c) {a : List V} {H : List Ob} {R : V → List Ob → Prop} :
    Ret C g a H R ↔ WP C g c ⟨initRegs a, 0, H⟩ (finQ C F H R) := by
  simp only [Ret, callW_fn hp hid hF hc]
  constructor
  · rintro ⟨r, H', h, hq⟩
    obtain ⟨⟨ex, σ1⟩, h1, h2⟩ := finL_some.1 h
    refine ⟨ex, σ1, h1, ?_⟩
    cases ex with
    | norm =>
      simp only [finL] at h2
      split at h2
      · rename_i vs hv; cases h2; exact ⟨vs, hv, hq⟩
      · cases h2
    | ret =>
      simp only [finL] at h2
      split at h2
      · rename_i vs hv; cases h2; exact ⟨vs, hv, hq⟩
      · cases h2
    | exit i => simp [finL] at h2
  · rintro ⟨ex, σ1, h1, hq⟩
    cases ex with
    | norm => obtain ⟨vs, hv, hq⟩ := hq; exact ⟨_, _, by rw [h1]; simp only [finL, hv], hq⟩
    | ret => obtain ⟨vs, hv, hq⟩ := hq; exact ⟨_, _, by rw [h1]; simp only [finL, hv], hq⟩
    | exit i => exact hq.elim

attribute [simp] seqQ_norm seqQ_ret seqQ_exit blockQ_norm blockQ_ret blockQ_exit loopQ_norm loopQ_ret loopQ_exit finQ_norm finQ_ret finQ_exit WP_skip WP_ret WP_exit WP_region WP_seq WP_cond WP_block

theorem gcH_same {H : List Ob} {r : V} : gcH H H r = H := by unfold gcH; split <;> rfl
theorem ext_append {H T : List Ob} : Ext H (H ++ T) := ⟨T, rfl⟩
theorem gcH_low {H T : List Ob} {r : V} (h : lowV H r) : gcH H (H ++ T) r = H := by
  unfold gcH
  rw [if_pos ⟨ext_append, h⟩]
theorem gcH_new {H T : List Ob} {off n : Nat} : gcH H (H ++ T) (.slc (some (H.length, off)) n) = H ++ T := by
  unfold gcH
  rw [if_neg]
  rintro ⟨_, own, es, cells, h⟩
  simp at h
theorem gcH_int {H T : List Ob} {k : IntKind} {n : Int} : gcH H (H ++ T) (.int k n) = H := gcH_low trivial
theorem gcH_bool {H T : List Ob} {b : Bool} : gcH H (H ++ T) (.bool b) = H := gcH_low trivial
theorem gcH_str {H T : List Ob} {s : List UInt8} : gcH H (H ++ T) (.str s) = H := gcH_low trivial
attribute [simp] gcH_same gcH_new gcH_int gcH_bool gcH_str
end
end Go.Lite
end

section
namespace Go.Lite
open Go
set_option linter.unusedSimpArgs false
set_option linter.unusedVariables false

/-- Shapes of plain data. -/
inductive Sh where
  | int (k : IntKind)
  | bool
  | str
  | slice (e : Sh)
  | st (fs : List Sh)

mutual
def Sh.size : Sh → Nat
  | .st fs => Sh.sizes fs
  | _ => 1
def Sh.sizes : List Sh → Nat
  | [] => 0
  | f :: fs => f.size + Sh.sizes fs
end

/-- Plain data. -/
inductive D where
  | int (n : Int)
  | bool (b : Bool)
  | str (s : List UInt8)
  | nil
  | lst (l : List D)
  | st (l : List D)

mutual
/-- The cells are this datum. -/
def Is (H : List Ob) : Sh → List V → D → Prop
  | .int k, [.int k' n], .int m => k' = k ∧ n = m ∧ (Lit.int k n).wf = true
  | .bool, [.bool b], .bool c => b = c
  | .str, [.str s], .str r => s = r ∧ s.length ≤ maxLen
  | .slice e, [.slc none n], .nil => n = 0
  | .slice e, [.slc (some (id, off)) n], .lst l => l.length = n ∧ n ≤ maxLen ∧ ∃ own cells, H[id]? = some (.mk own e.size cells) ∧ off + n * e.size ≤ cells.length ∧
      ∀ i d, l[i]? = some d → Is H e ((cells.drop (off + i * e.size)).take e.size) d
  | .st fs, vs, .st ds => IsAll H fs vs ds
  | _, _, _ => False
def IsAll (H : List Ob) : List Sh → List V → List D → Prop
  | [], vs, ds => vs = [] ∧ ds = []
  | f :: fs, vs, d :: ds => Is H f (vs.take f.size) d ∧ IsAll H fs (vs.drop f.size) ds
  | _ :: _, _, [] => False
end

mutual
/-- The reading as plain data. -/
def toD {H : Type} : DataW H → D
  | .lit (.int _ n) => .int n
  | .lit (.bool b) => .bool b
  | .lit (.string s) => .str s
  | .slice elems _ => .lst (toDs elems)
  | .agg parts => .st (toDs parts)
  | _ => .nil
def toDs {H : Type} : List (DataW H) → List D
  | [] => []
  | d :: ds => toD d :: toDs ds
end

theorem toDs_map {H : Type} : ∀ (l : List (DataW H)), toDs l = l.map toD
  | [] => rfl
  | d :: ds => by simp only [toDs, List.map_cons, toDs_map ds]

/-- A type's shape. -/
def shFields (P : Program) (g : Nat → Option Sh) : List Field → Nat → Option (List Sh)
  | [], _ => some []
  | f :: fs, o => match g f.type with
    | some s => if f.offset = o ∧ P.cellsOf f.type = s.size then (match shFields P g fs (o + s.size) with
        | some ss => some (s :: ss)
        | none => none) else none
    | none => none

def shOf (P : Program) : Nat → Nat → Option Sh
  | 0, _ => none
  | n + 1, t => match P.underlying t with
    | some (.int k) => some (.int k)
    | some .bool => some .bool
    | some .string => some .str
    | some (.slice e) => match shOf P n e with
      | some s => if P.cellsOf e = s.size ∧ 0 < s.size then some (.slice s) else none
      | none => none
    | some (.struct fs) => match shFields P (shOf P n) fs.toList 0 with
      | some ss => if P.cellsOf t = Sh.sizes ss then some (.st ss) else none
      | none => none
    | _ => none

mutual
theorem Is.ext {H T : List Ob} : ∀ (sh : Sh) (vs : List V) (d : D), Is H sh vs d → Is (H ++ T) sh vs d
  | .int k, vs, d, h => by
    unfold Is at h ⊢
    split at h <;> first | exact h | (exfalso; exact h) | skip
    all_goals simp_all
  | .bool, vs, d, h => by
    unfold Is at h ⊢
    split at h <;> first | exact h | (exfalso; exact h) | skip
    all_goals simp_all
  | .str, vs, d, h => by
    unfold Is at h ⊢
    split at h <;> first | exact h | (exfalso; exact h) | skip
    all_goals simp_all
  | .slice e, vs, d, h => by
    match vs, d, h with
    | [.slc none n], .nil, h => simpa only [Is] using h
    | [.slc (some (id, off)) n], .lst l, h =>
      simp only [Is] at h ⊢
      obtain ⟨h1, h0, own, cells, h2, h3, h4⟩ := h
      exact ⟨h1, h0, own, cells, by rw [List.getElem?_append_left (List.getElem?_eq_some_iff.1 h2).1]; exact h2, h3, fun i d hd => Is.ext e _ _ (h4 i d hd)⟩
  | .st fs, vs, d, h => by
    match d, h with
    | .st ds, h =>
      simp only [Is] at h ⊢
      exact IsAll.ext fs vs ds h
theorem IsAll.ext {H T : List Ob} : ∀ (fs : List Sh) (vs : List V) (ds : List D), IsAll H fs vs ds → IsAll (H ++ T) fs vs ds
  | [], vs, ds, h => by simpa only [IsAll] using h
  | f :: fs, vs, d :: ds, h => by
    simp only [IsAll] at h ⊢
    exact ⟨Is.ext f _ _ h.1, IsAll.ext fs _ _ h.2⟩
  | _ :: _, _, [], h => by simp only [IsAll] at h
end

/-- No object may be written. -/
def NoOwn (H : List Ob) : Prop := ∀ o ∈ H, owned o = false

section
variable {P : Program} {μ : Mu} {w : World} {H : List Ob}

theorem drop_nil_le {α : Type} (l : List α) {i : Nat} (h : l.length ≤ i) : l.drop i = [] := List.drop_eq_nil_of_le h

/-- One more object, that may not be written. -/
theorem HSim.addRO (hs : HSim H μ w) (hn : NoOwn H) {m : Mp} {es : Nat} {cells : List V} (hm : m.own = false) (he : m.es = es) (hl : m.len = cells.length) (hc : CellsAt μ w m.blk m.base cells) (hb : m.blk < w.heap.size) :
    HSim (H ++ [.mk false es cells]) (μ.add H.length m) w where
  dom id m' h := by
    by_cases hi : id = H.length
    · subst hi; simp
    · rw [Mu.add_ne _ _ hi] at h
      have := hs.dom id m' h
      simp; omega
  map id o h hlive := by
    rcases push_cases' id o h with ⟨rfl, rfl⟩ | ⟨hne, h1⟩
    · exact ⟨m, Mu.add_self _ _ _⟩
    · obtain ⟨m', h2⟩ := hs.map id o h1 hlive
      exact ⟨m', by rw [Mu.add_ne _ _ hne]; exact h2⟩
  obj id o m' h1 h2 := by
    have hle : μ.le (μ.add H.length m) := Mu.le_add _ hs.fresh
    rcases push_cases' id o h1 with ⟨rfl, rfl⟩ | ⟨hne, h3⟩
    · rw [Mu.add_self] at h2; cases h2
      exact ⟨hm.symm, he.symm, hl.symm, hc.le hle, hb, fun h => by cases h⟩
    · rw [Mu.add_ne _ _ hne] at h2
      exact (hs.obj id o m' h3 h2).le hle
  sep id id' o o' m1 m2 hne h1 h2 h3 h4 ho hl' := by
    exfalso
    have : o ∈ H ++ [.mk false es cells] := List.mem_of_getElem? h1
    rcases List.mem_append.1 this with h5 | h5
    · rw [hn o h5] at ho; cases ho
    · rw [List.mem_singleton.1 h5] at ho; cases ho
  plain id es' cells' m' h1 _ _ := by
    exfalso
    rcases push_cases' id _ h1 with ⟨_, e⟩ | ⟨_, h3⟩
    · cases e
    · have := hn _ (List.mem_of_getElem? h3)
      cases this

theorem NoOwn.add (hn : NoOwn H) {es : Nat} {cells : List V} : NoOwn (H ++ [.mk false es cells]) := fun o ho => by
  rcases List.mem_append.1 ho with h | h
  · exact hn o h
  · rw [List.mem_singleton.1 h]; rfl

theorem VL.cellsAt {b o : Nat} {vs : List V} {us : List Value} (h : VL μ vs us) (hc : ∀ j, j < us.length → w.cell? ⟨b, o + j, none⟩ = us[j]?) : CellsAt μ w b o vs := by
  intro j v hj
  have hlt : j < us.length := by rw [← VL.length h]; exact (List.getElem?_eq_some_iff.1 hj).1
  exact ⟨us[j], by rw [hc j hlt]; simp [hlt], VL.get h j v _ hj (by simp [hlt])⟩

/-- What is opened: more objects, the cells, and what they are. -/
def Opens (P : Program) (w : World) (sh : Sh) (cs : List Value) (x : D) : Prop :=
  ∀ (H : List Ob) (μ : Mu), HSim H μ w → NoOwn H → ∃ (T : List Ob) (μ' : Mu) (vs : List V), HSim (H ++ T) μ' w ∧ NoOwn (H ++ T) ∧ μ.le μ' ∧ VL μ' vs cs ∧ vs.length = sh.size ∧ Is (H ++ T) sh vs x

theorem opens_elems (hpos : 0 < w.heap.size) {e : Sh} {Dd : Nat → D} {cs : Nat → List Value} : ∀ (k : Nat), (∀ i, i < k → Opens P w e (cs i) (Dd i)) →
    ∀ (H : List Ob) (μ : Mu), HSim H μ w → NoOwn H → ∃ (T : List Ob) (μ' : Mu) (vs : List V), HSim (H ++ T) μ' w ∧ NoOwn (H ++ T) ∧ μ.le μ' ∧ VL μ' vs ((List.range k).flatMap cs) ∧ vs.length = k * e.size ∧
      ∀ i, i < k → Is (H ++ T) e ((vs.drop (i * e.size)).take e.size) (Dd i)
  | 0, _, H, μ, hs, hn => ⟨[], μ, [], by simpa using hs, by simpa using hn, μ.le_refl, by simpa using VL.nil, by simp, fun i hi => by omega⟩
  | k + 1, hk, H, μ, hs, hn => by
    obtain ⟨T, μ1, vs, h1, h2, h3, h4, h5, h6⟩ := opens_elems hpos k (fun i hi => hk i (by omega)) H μ hs hn
    obtain ⟨T', μ2, vs', g1, g2, g3, g4, g5, g6⟩ := hk k (by omega) (H ++ T) μ1 h1 h2
    refine ⟨T ++ T', μ2, vs ++ vs', by rw [← List.append_assoc]; exact g1, by rw [← List.append_assoc]; exact g2, Mu.le_trans h3 g3, ?_, by simp [h5, g5, Nat.succ_mul], ?_⟩
    · rw [List.range_succ, List.flatMap_append]
      exact (h4.le g3).append (by simpa using g4)
    · intro i hi
      rw [← List.append_assoc]
      by_cases hik : i = k
      · subst hik
        rw [List.drop_append_of_le_length (by omega)] at *
        have : List.drop (i * e.size) vs = [] := List.drop_eq_nil_of_le (by omega)
        rw [this, List.nil_append, List.take_of_length_le (by omega)]
        exact g6
      · have hlt : i < k := by omega
        have hle : (i + 1) * e.size ≤ k * e.size := Nat.mul_le_mul_right _ (by omega)
        rw [Nat.succ_mul] at hle
        rw [List.drop_append_of_le_length (by omega), List.take_append_of_le_length (by simp; omega)]
        exact Is.ext e _ _ (h6 i hlt)

theorem shFields_ge {g : Nat → Option Sh} : ∀ (fs : List Field) (o : Nat) (ss : List Sh), shFields P g fs o = some ss → ∀ f ∈ fs, o ≤ f.offset
  | [], _, _, _, f, hf => by cases hf
  | f0 :: fs, o, ss, h, f, hf => by
    simp only [shFields] at h
    split at h
    · split at h
      · rename_i s _ hc
        split at h
        · rename_i ss' hss'
          rcases List.mem_cons.1 hf with rfl | hf
          · exact Nat.le_of_eq hc.1.symm
          · exact Nat.le_trans (Nat.le_add_right _ _) (shFields_ge fs _ ss' hss' f hf)
        · cases h
      · cases h
    · cases h

variable {E : Type} {enc : TypeId × Value → E}

theorem open_is (hpos : 0 < w.heap.size) : ∀ (n : Nat) (t : Nat) (sh : Sh), shOf P n t = some sh → ∀ (fuel : Nat) (cs : List Value) (x : DataW E × List MemPlace),
    DataW.trod enc P w 0 (fun _ => true) true fuel t cs = some x → Opens P w sh cs (toD x.1)
  | 0, t, sh, h => by cases h
  | n + 1, t, sh, h => by
    intro fuel cs x hx H μ hs hn
    simp only [shOf] at h
    split at h
    · rename_i k hu
      cases h
      obtain ⟨m, rfl, rfl, hw⟩ := DataW.trod_int hu hx
      exact ⟨[], μ, [.int k m], by simpa using hs, by simpa using hn, μ.le_refl, .cons (.int k m) .nil, rfl, by simp only [toD, Is]; exact ⟨trivial, trivial, hw⟩⟩
    · rename_i hu
      cases h
      obtain ⟨b, rfl, rfl⟩ := DataW.trod_bool hu hx
      exact ⟨[], μ, [.bool b], by simpa using hs, by simpa using hn, μ.le_refl, .cons (.bool b) .nil, rfl, by simp only [toD, Is]⟩
    · rename_i hu
      cases h
      obtain ⟨s, rfl, rfl, hm⟩ := DataW.trod_string hu hx
      exact ⟨[], μ, [.str s.data.toList], by simpa using hs, by simpa using hn, μ.le_refl, .cons (.str s) .nil, rfl, by simp only [toD, Is]; exact ⟨trivial, by simpa using hm⟩⟩
    · rename_i e hu
      split at h
      · rename_i s hse
        split at h
        · rename_i hc
          cases h
          rcases Deep.open_slice hu hx with ⟨rfl, rfl⟩ | ⟨a, len, cap, m, n', Dd, Pl, rfl, _, hle, hcap, hm, rfl, hel⟩
          · exact ⟨[], μ, [.slc none 0], by simpa using hs, by simpa using hn, μ.le_refl, .cons .slcN .nil, rfl, by simp only [toD, Is]⟩
          · simp only [if_true] at hm
            subst hm
            obtain ⟨cs, hcs⟩ : ∃ cs : Nat → List Value, ∀ i, i < m → w.cells? 0 (a.add (i * P.cellsOf e)) (P.cellsOf e) = some (cs i) ∧ DataW.trod enc P w 0 (fun _ => true) true n' e (cs i) = some (Dd i, Pl i) := by
              refine ⟨fun i => if hi : i < m then (hel i hi).choose else [], fun i hi => ?_⟩
              simp only [hi, dif_pos]
              exact (hel i hi).choose_spec
            obtain ⟨T, μ1, vs, h1, h2, h3, h4, h5, h6⟩ := opens_elems hpos (e := s) (Dd := fun i => toD (Dd i)) (cs := cs) len
              (fun i hi => open_is hpos n e s hse n' (cs i) (Dd i, Pl i) (hcs i (by omega)).2) H μ hs hn
            have hcell : ∀ i, i < m → ∀ j, j < s.size → w.cell? ((a.add (i * s.size)).add j) = (cs i)[j]? ∧ (cs i).length = s.size := fun i hi j hj => by
              obtain ⟨_, k2, k3⟩ := World.cells?_some (hcs i hi).1
              rw [hc.1] at k2 k3
              exact ⟨k3 j hj, k2⟩
            have hsz : s.size ≠ 0 := by omega
            -- the slice's own object
            by_cases hm0 : m = 0
            · subst hm0
              have hl0 : len = 0 := by omega
              subst hl0
              refine ⟨T ++ [.mk false s.size []], μ1.add (H ++ T).length ⟨0, 0, 0, s.size, 0, false⟩, [.slc (some ((H ++ T).length, 0)) 0], ?_, ?_, Mu.le_trans h3 (Mu.le_add _ h1.fresh), .cons (.slcZ _ 0 _ a (Mu.add_self _ _ _) (Nat.le_refl _)) .nil, rfl, ?_⟩
              · rw [← List.append_assoc]
                exact h1.addRO h2 rfl rfl rfl (fun j v hj => by simp at hj) hpos
              · rw [← List.append_assoc]; exact h2.add
              · simp only [toD, toDs_map, List.range_zero, List.map_nil, Is]
                refine ⟨rfl, Nat.zero_le _, false, [], ?_, by simp, fun i d hd => by simp at hd⟩
                rw [← List.append_assoc]
                simp
            · have hspot : a.spot = none ∧ a.block < w.heap.size := by
                have h0 := (hcell 0 (by omega) 0 (by omega)).1
                have hlen0 := (hcell 0 (by omega) 0 (by omega)).2
                have : ∃ u, w.cell? ((a.add (0 * s.size)).add 0) = some u := ⟨(cs 0)[0]'(by omega), by rw [h0]; simp⟩
                obtain ⟨u, hu⟩ := this
                simp only [Nat.zero_mul, Addr.add, if_true] at hu
                unfold World.cell? at hu
                split at hu
                · rename_i c t' fz hb
                  split at hu
                  · cases hu
                  · rename_i hsp
                    refine ⟨by simpa using hsp, (Array.getElem?_eq_some_iff.1 hb).1⟩
                · cases hu
              obtain ⟨blk, off, spot⟩ := a
              simp only at hspot
              obtain ⟨rfl, hblk⟩ := hspot
              have hadd : ∀ i j : Nat, ((⟨blk, off, none⟩ : Addr).add i).add j = ⟨blk, off + (i + j), none⟩ := fun i j => by
                rw [Deep.add_add]
                unfold Addr.add
                by_cases hij : i + j = 0 <;> simp [hij]
              have hflat : ∀ k, k ≤ m → ((List.range k).flatMap cs).length = k * s.size ∧ ∀ j, j < k * s.size → w.cell? ⟨blk, off + j, none⟩ = ((List.range k).flatMap cs)[j]? := by
                intro k
                induction k with
                | zero => intro _; exact ⟨by simp, fun j hj => by omega⟩
                | succ k ih =>
                  intro hk
                  obtain ⟨i1, i2⟩ := ih (by omega)
                  have hlk := (hcell k (by omega) 0 (by omega)).2
                  rw [List.range_succ, List.flatMap_append]
                  simp only [List.flatMap_cons, List.flatMap_nil, List.append_nil]
                  refine ⟨by simp [i1, hlk, Nat.succ_mul], fun j hj => ?_⟩
                  by_cases hjk : j < k * s.size
                  · rw [List.getElem?_append_left (by omega)]; exact i2 j hjk
                  · rw [List.getElem?_append_right (by omega), i1]
                    rw [Nat.succ_mul] at hj
                    have := (hcell k (by omega) (j - k * s.size) (by omega)).1
                    rw [hadd] at this
                    rw [← this]
                    congr 2
                    omega
              refine ⟨T ++ [.mk false s.size vs], μ1.add (H ++ T).length ⟨blk, off, vs.length, s.size, 0, false⟩, [.slc (some ((H ++ T).length, 0)) len], ?_, ?_, Mu.le_trans h3 (Mu.le_add _ h1.fresh), ?_, rfl, ?_⟩
              · rw [← List.append_assoc]
                exact h1.addRO h2 rfl rfl rfl (VL.cellsAt h4 fun j hj => (hflat len hle).2 j (by rw [(hflat len hle).1] at hj; exact hj)) hblk
              · rw [← List.append_assoc]; exact h2.add
              · refine .cons ?_ .nil
                have := VR.slc (μ := μ1.add (H ++ T).length ⟨blk, off, vs.length, s.size, 0, false⟩) (H ++ T).length 0 len m _ (Mu.add_self _ _ _) hle (fun h => by cases h) (by
                  simp only [h5, Nat.zero_add]; exact Nat.mul_le_mul_right _ hle)
                simpa using this
              · simp only [toD, toDs_map, Is]
                refine ⟨by simp, by omega, false, vs, by rw [← List.append_assoc]; simp, by omega, fun i d hd => ?_⟩
                simp only [List.map_map, List.getElem?_map] at hd
                have hi : i < len := by
                  rcases Nat.lt_or_ge i len with h | h
                  · exact h
                  · rw [List.getElem?_eq_none (by simpa using h)] at hd; cases hd
                rw [List.getElem?_range hi] at hd
                simp only [Option.map_some, Function.comp_apply, Option.some.injEq] at hd
                subst hd
                rw [Nat.zero_add, ← List.append_assoc]
                exact Is.ext s _ _ (h6 i hi)
        · cases h
      · cases h
    · rename_i fs hu
      split at h
      · rename_i ss hss
        split at h
        · rename_i hc
          cases h
          obtain ⟨xs, n', _, rfl, hlen, hxl, hf⟩ := DataW.trod_struct hu hx
          have key : ∀ (gs : List Field) (o : Nat) (ss : List Sh), shFields P (shOf P n) gs o = some ss → ∀ (ys : List (DataW E × List MemPlace)) (us : List Value), ys.length = gs.length → us.length = Sh.sizes ss →
              (∀ (i : Nat) (f : Field), gs[i]? = some f → DataW.trod enc P w 0 (fun _ => true) true n' f.type ((us.drop (f.offset - o)).take (P.cellsOf f.type)) = ys[i]?) →
              ∀ (H : List Ob) (μ : Mu), HSim H μ w → NoOwn H → ∃ (T : List Ob) (μ' : Mu) (vs : List V), HSim (H ++ T) μ' w ∧ NoOwn (H ++ T) ∧ μ.le μ' ∧ VL μ' vs us ∧ vs.length = Sh.sizes ss ∧ IsAll (H ++ T) ss vs (ys.map fun y => toD y.1) := by
            intro gs
            induction gs with
            | nil =>
              intro o ss hss ys us hy hu hf H μ hs hn
              simp only [shFields, Option.some.injEq] at hss
              subst hss
              cases List.length_eq_zero_iff.1 hy
              cases List.length_eq_zero_iff.1 (by simpa only [Sh.sizes] using hu)
              exact ⟨[], μ, [], by simpa using hs, by simpa using hn, μ.le_refl, .nil, rfl, by simp only [List.map_nil, IsAll, and_self]⟩
            | cons g gs ih =>
              intro o ss hss ys us hy hu hf H μ hs hn
              simp only [shFields] at hss
              split at hss
              · rename_i s hsg
                split at hss
                · rename_i hgo
                  split at hss
                  · rename_i ss' hss'
                    cases hss
                    cases ys with
                    | nil => simp at hy
                    | cons y ys =>
                      simp only [Sh.sizes] at hu
                      have h0 := hf 0 g rfl
                      rw [hgo.1, Nat.sub_self, List.drop_zero, hgo.2] at h0
                      obtain ⟨T, μ1, vs, h1, h2, h3, h4, h5, h6⟩ := open_is hpos n g.type s hsg n' (us.take s.size) y (by simpa using h0) H μ hs hn
                      have hge := shFields_ge gs (o + s.size) ss' hss'
                      obtain ⟨T', μ2, vs', g1, g2, g3, g4, g5, g6⟩ := ih (o + s.size) ss' hss' ys (us.drop s.size) (by simpa using hy) (by simp; omega) (fun i f hi => by
                        have hfo := hge f (List.mem_of_getElem? hi)
                        have := hf (i + 1) f (by simpa using hi)
                        rw [List.drop_drop]
                        simp only [List.getElem?_cons_succ] at this
                        rw [← this]
                        congr 3
                        omega) (H ++ T) μ1 h1 h2
                      refine ⟨T ++ T', μ2, vs ++ vs', by rw [← List.append_assoc]; exact g1, by rw [← List.append_assoc]; exact g2, Mu.le_trans h3 g3, ?_, by simp only [List.length_append, Sh.sizes]; omega, ?_⟩
                      · have := (h4.le g3).append g4
                        rwa [List.take_append_drop] at this
                      · simp only [List.map_cons, IsAll]
                        rw [← List.append_assoc, List.take_append_of_le_length (by omega), List.take_of_length_le (by omega), List.drop_append_of_le_length (by omega), drop_nil_le vs (by omega), List.nil_append]
                        exact ⟨Is.ext s _ _ h6, g6⟩
                  · cases hss
                · cases hss
              · cases hss
          obtain ⟨T, μ', vs, h1, h2, h3, h4, h5, h6⟩ := key fs.toList 0 ss hss xs cs (by simpa using hxl) (by rw [hlen, hc]) (fun i f hi => by simpa using hf i f (by simpa using hi)) H μ hs hn
          refine ⟨T, μ', vs, h1, h2, h3, h4, by simpa only [Sh.size] using h5, ?_⟩
          simp only [toD, toDs_map, Is, List.map_map]
          exact h6
        · cases h
      · cases h
    · cases h

end
end Go.Lite
end

section
namespace Go.Lite
open Go
set_option linter.unusedSimpArgs false
set_option linter.unusedVariables false

abbrev Str := List UInt8

/-- A slice whose elements' cells are so. -/
def Sl {α : Type} (H : List Ob) (es : Nat) (R : List V → α → Prop) (v : V) (xs : List α) : Prop :=
  (v = .slc none 0 ∧ xs = []) ∨ ∃ id off own cells, v = .slc (some (id, off)) xs.length ∧ H[id]? = some (.mk own es cells) ∧ off + xs.length * es ≤ cells.length ∧
    ∀ i x, xs[i]? = some x → R ((cells.drop (off + i * es)).take es) x

section
variable {α : Type} {H T : List Ob} {es : Nat} {R R' : List V → α → Prop} {v : V} {xs : List α}

theorem Sl.mono (h : Sl H es R v xs) (hR : ∀ cs x, R cs x → R' cs x) : Sl (H ++ T) es R' v xs := by
  rcases h with h | ⟨id, off, own, cells, h1, h2, h3, h4⟩
  · exact .inl h
  · exact .inr ⟨id, off, own, cells, h1, by rw [List.getElem?_append_left (List.getElem?_eq_some_iff.1 h2).1]; exact h2, h3, fun i x hx => hR _ _ (h4 i x hx)⟩

theorem Sl.len (h : Sl H es R v xs) {e s b : Nat} {z : List V} : lenV ⟨.slice e, s, b, z⟩ v = some (.int .i64 xs.length) := by
  rcases h with ⟨rfl, rfl⟩ | ⟨id, off, own, cells, rfl, _⟩ <;> rfl

/-- An element's place. -/
theorem Sl.idx (h : Sl H es R v xs) {i : Nat} {x : α} (hx : xs[i]? = some x) (hes : es ≠ 0) : ∃ id o own cells,
    (∀ (e s b : Nat) (z : List V) (ty : Nat → LT) (k : IntKind), (ty e).size = es → indexR ⟨.slice e, s, b, z⟩ ty (.val v) (.int k i) = some (.val (.ptr (some (id, o))))) ∧
    H[id]? = some (.mk own es cells) ∧ o + es ≤ cells.length ∧ R ((cells.drop o).take es) x := by
  rcases h with ⟨rfl, rfl⟩ | ⟨id, off, own, cells, rfl, h2, h3, h4⟩
  · simp at hx
  · have hi : i < xs.length := (List.getElem?_eq_some_iff.1 hx).1
    refine ⟨id, off + i * es, own, cells, fun e s b z ty k he => ?_, h2, ?_, h4 i x hx⟩
    · have h0 : (0 : Int) ≤ (i : Int) := Int.natCast_nonneg i
      have h5 : (i : Int) < (xs.length : Int) := by exact_mod_cast hi
      simp only [indexR, h0, h5, and_self, if_true, he, hes, if_false, Int.toNat_natCast]
    · have : (i + 1) * es ≤ xs.length * es := Nat.mul_le_mul_right _ hi
      rw [Nat.succ_mul] at this
      omega

theorem cells_get {cells l : List V} {o n : Nat} (h : (cells.drop o).take n = l) {j : Nat} {v : V} (hj : l[j]? = some v) : cells[o + j]? = some v := by
  subst h
  have hjn : j < n := by
    rcases Nat.lt_or_ge j n with h | h
    · exact h
    · rw [List.getElem?_eq_none (by simp; omega)] at hj; cases hj
  rwa [List.getElem?_take_of_lt hjn, List.getElem?_drop] at hj

/-- One cell is read. -/
theorem load_one {T : LT} {id o es : Nat} {own : Bool} {cells : List V} {v : V} (h : H[id]? = some (.mk own es cells)) (hc : cells[o]? = some v) (hz : T.size ≠ 0) (ha : T.isAgg = false) :
    ∀ r c, loadAt T ⟨r, c, H⟩ (.hp id o) = some v := by
  intro r c
  obtain ⟨ho, rfl⟩ := List.getElem?_eq_some_iff.1 hc
  simp only [loadAt, hz, if_false, cellsAt, h, Pl.off, LT.num, ha, Bool.false_eq_true, rdCells]
  rw [if_pos (by omega), List.drop_eq_getElem_cons ho]
  rfl

/-- More cells are read. -/
theorem load_agg {T : LT} {id o es : Nat} {own : Bool} {cells l : List V} (h : H[id]? = some (.mk own es cells)) (hl : o + T.size ≤ cells.length) (hc : (cells.drop o).take T.size = l) (hz : T.size ≠ 0) (ha : T.isAgg = true) :
    ∀ r c, loadAt T ⟨r, c, H⟩ (.hp id o) = some (.agg l) := by
  intro r c
  simp only [loadAt, hz, if_false, cellsAt, h, Pl.off, LT.num, ha, if_true, rdCells]
  rw [if_pos hl, hc]
  rfl

/-- A cell is written. -/
theorem store_one {T : LT} {id o es : Nat} {cells : List V} {v : V} (h : H[id]? = some (.mk true es cells)) (ho : o < cells.length) (hz : T.size = 1) (hv : cellsOf v = some [v]) (h1 : isOne v = true) :
    ∀ r c, storeAt T ⟨r, c, H⟩ (.hp id o) v = some ⟨r, c, H.set id (.mk true es (cells.set o v))⟩ := by
  intro r c
  have hl : o + [v].length ≤ cells.length := by simp; omega
  simp only [storeAt, hv, hz, List.length_singleton, List.all_cons, List.all_nil, Bool.and_true, h1, writeAt, h]
  rw [if_pos ⟨by omega, trivial, trivial⟩]
  rw [if_pos (by omega), setRange_one ho]

theorem Sl.one (h : Sl H es R v xs) : isOne v = true ∧ cellsOf v = some [v] := by
  rcases h with ⟨rfl, rfl⟩ | ⟨id, off, own, cells, rfl, _⟩ <;> exact ⟨rfl, rfl⟩

theorem set_mid {a b : Ob} : (H ++ a :: T).set H.length b = H ++ b :: T := by
  rw [List.set_append_right _ _ (Nat.le_refl _)]
  simp

/-- More cells are written. -/
theorem store_agg {T : LT} {id o es : Nat} {cells l : List V} (h : H[id]? = some (.mk true es cells)) (ho : o + l.length ≤ cells.length) (hz : T.size = l.length) (hp : l ≠ []) (h1 : l.all isOne = true) :
    ∀ r c, storeAt T ⟨r, c, H⟩ (.hp id o) (.agg l) = some ⟨r, c, H.set id (.mk true es (setRange cells o l))⟩ := by
  intro r c
  have : 0 < l.length := List.length_pos_iff.2 hp
  simp only [storeAt, cellsOf, hz, writeAt, h]
  rw [if_pos ⟨this, trivial, h1⟩, if_pos ho]

end
end Go.Lite
end
