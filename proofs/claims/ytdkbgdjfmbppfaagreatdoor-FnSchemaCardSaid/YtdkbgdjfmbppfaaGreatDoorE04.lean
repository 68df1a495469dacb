/- Part 04 of the proof of a law: the interpreter, its soundness, and what functions of the program compute over it. Conditions: none but those that each theorem names. -/
import Derived.Test.YtdkbgdjfmbppfaaGreatDoorE03

set_option linter.all false
set_option maxRecDepth 20000
set_option maxHeartbeats 40000000
section
namespace Go.Lite
open Go
section
variable {C : Ctx} {callf : bU} {f : Nat} {σ τ σ' : St} {ops : Array Oper} {h : Hint} {base i : Nat} {o : Oper}
def Refs (L : List Nat) (n : Nat) (σ : St) : Prop := ∀ u, u < n → (∀ c cells, σ.regs u = .box c cells → u ∈ L) ∧ (∀ t c off, σ.regs u = .ref t c off → t ∈ L)
theorem Sim.refs {L : List Nat} {μ : Mu} {β : List Nat} {a : Act} {w : World} (hs : Sim L σ μ β a w) : Refs L a.tmps.size σ := by
 intro u hu
 refine ⟨fun c cells hb => hs.loc u c cells hu hb, fun t c off hr => ?_⟩
 have := hs.reg u hu
 rw [hr] at this
 exact this.2.1
theorem Refs.evd {L : List Nat} {n : Nat} (hI : Refs L n σ) {x : Operand} (hx : OpdOk n x) {t c off : Nat} (h : iU σ x = some (.ref t c off)) : t ∈ L := by
 cases x with
 | tmp y =>
  simp only [iU] at h
  split at h
  ·cases h
  ·rename_i c' cells hb; cases h; exact (hI _ hx).1 _ _ hb
  ·rename_i t' c' off' hb; cases h; exact (hI _ hx).2 _ _ _ hb
 | const => cases h
 | func => cases h
 | global => cases h
theorem x8 {x : Operand} {c : Nat} {cells : List V} : iU σ x ≠ some (.box c cells) := by
 cases x with
 | tmp u => simp only [iU]; split <;> simp
 | const => simp [iU]
 | func => simp [iU]
 | global => simp [iU]
theorem Jc {op : Op} {r : R} (h : sG C σ op = some r) : (∀ c cells, r ≠ .box c cells) ∧ ∀ t c off, r = .ref t c off → ∃ x ∈ op.operands.toList, ∃ c' off', iU σ x = some (.ref t c' off') := by
 unfold sG at h
 split at h
 case h_1 x => exact ⟨fun c cells he => x8 (h.trans (by rw [he])), fun t c off he => ⟨x, by simp [Op.operands], c, off, h.trans (by rw [he])⟩⟩
 case h_2 x => exact ⟨fun c cells he => x8 (h.trans (by rw [he])), fun t c off he => ⟨x, by simp [Op.operands], c, off, h.trans (by rw [he])⟩⟩
 case h_5 x =>
  split at h <;> cases h
  ·rename_i a b c hx
   exact ⟨fun _ _ he => (nomatch he), fun t c off he => (by cases he; exact ⟨x, by simp [Op.operands], _, _, hx⟩)⟩
  ·exact ⟨fun _ _ he => (nomatch he), fun t c off he => (nomatch he)⟩
  ·exact ⟨fun _ _ he => (nomatch he), fun t c off he => (nomatch he)⟩
 case h_9 t x f =>
  split at h
  ·rename_i r' hr
   unfold rJ at h
   repeat' split at h
   all_goals cases h
   ·exact ⟨fun _ _ he => (nomatch he), fun t c off he => (by cases he; exact ⟨x, by simp [Op.operands], _, _, hr⟩)⟩
   ·exact ⟨fun _ _ he => (nomatch he), fun t c off he => (nomatch he)⟩
  ·cases h
 case h_11 t x f =>
  split at h
  ·rename_i r' i' hr hi
   unfold dE at h
   repeat' split at h
   all_goals cases h
   ·exact ⟨fun _ _ he => (nomatch he), fun t c off he => (nomatch he)⟩
   ·exact ⟨fun _ _ he => (nomatch he), fun t c off he => (by cases he; exact ⟨x, by simp [Op.operands], _, _, hr⟩)⟩
   ·exact ⟨fun _ _ he => (nomatch he), fun t c off he => (nomatch he)⟩
  ·cases h
 all_goals
  repeat' split at h
  all_goals cases h
  all_goals exact ⟨fun _ _ he => (nomatch he), fun t c off he => (nomatch he)⟩
theorem Refs.put {L : List Nat} {n : Nat} (hI : Refs L n σ) {d : Option Nat} {r : R} (hb : ∀ c cells, r ≠ .box c cells) (hr : ∀ t c off, r = .ref t c off → t ∈ L) : Refs L n (σ.put d r) := by
 intro u hu
 rw [bu]
 by_cases hd : u ∈ d.toList
 ·simp only [hd, if_true]
  exact ⟨fun c cells he => absurd he (hb c cells), hr⟩
 ·simp only [hd, if_false]
  exact hI u hu
theorem Refs.val {L : List Nat} {n : Nat} (hI : Refs L n σ) {d : Option Nat} {v : V} : Refs L n (σ.put d (.val v)) :=
 hI.put (fun _ _ h => by cases h) (fun _ _ _ h => by cases h)
theorem Refs.updBox {L : List Nat} {n : Nat} (hI : Refs L n σ) {d c cnt : Nat} {cells : List V} {H : List Ob} (hd : d < n → d ∈ L) : Refs L n { σ with regs := upd σ.regs d (.box c cells), cnt := cnt, heap := H } := by
 intro u hu
 simp only [upd]
 by_cases he : u = d
 ·simp only [he, if_true]
  exact ⟨fun _ _ _ => hd (he ▸ hu), fun t c off h => by cases h⟩
 ·simp only [he, if_false]
  exact hI u hu
theorem GI {n : Nat} {d : Option Nat} {op : Op} (hI : Refs (C.locs f) n σ) (hst : lw C callf f σ d op = some σ') : Refs (C.locs f) n σ' := by
 have gen : ((∃ t, op = .alloc t) ∨ (∃ t x, op = .box t x) → ∀ e, d = some e → (C.locs f).contains e = false) →
   (∀ t x y r t' c off, op = .store t x y → iU σ x = some r → lG r ≠ some (.loc t' c off)) → Refs (C.locs f) n σ' := fun hN hP => by
  obtain ⟨H, v, rfl, _⟩ := xK (τ := σ) (fun _ _ => ⟨rfl, rfl⟩) rfl hN hP hst
  exact Refs.val (σ := { σ with heap := H }) (fun u hu => hI u hu)
 cases op
 case alloc t =>
  cases hin : ja C f d with
  | false => exact gen (fun _ e he => by simpa [ja, he] using hin) (fun _ _ _ _ _ _ _ h => by cases h)
  | true =>
   simp only [lw] at hst
   split at hst
   ·unfold newVar at hst
    cases d with
    | none => cases hst
    | some e =>
     simp only [ja] at hin
     simp only [hin, if_true, Option.some.injEq] at hst
     subst hst
     exact hI.updBox fun _ => by simpa using hin
   ·cases hst
 case box t x =>
  cases hin : ja C f d with
  | false => exact gen (fun _ e he => by simpa [ja, he] using hin) (fun _ _ _ _ _ _ _ h => by cases h)
  | true =>
   simp only [lw] at hst
   split at hst
   ·split at hst
    ·unfold newVar at hst
     cases d with
     | none => cases hst
     | some e =>
      simp only [ja] at hin
      simp only [hin, if_true, Option.some.injEq] at hst
      subst hst
      exact hI.updBox fun _ => by simpa using hin
    ·cases hst
   ·cases hst
 case store t x y =>
  simp only [lw] at hst
  split at hst
  ·rename_i r v h1 h2
   split at hst
   ·rename_i p hp
    split at hst
    ·rename_i σ1 h4
     cases hst
     refine Refs.val ?_
     unfold storeAt at h4
     split at h4
     ·split at h4
      ·rcases nz hp with ⟨t', c, off, rfl, rfl⟩ | ⟨id, off, rfl, rfl⟩
       ·simp only [dB] at h4
        split at h4
        ·rename_i c' cells hb
         split at h4
         ·cases h4
          exact hI.updBox fun hlt => (hI _ hlt).1 _ _ hb
         ·cases h4
        ·cases h4
       ·simp only [dB] at h4
        split at h4
        ·split at h4
         ·cases h4; exact fun u hu => hI u hu
         ·cases h4
        ·cases h4
      ·cases h4
     ·cases h4
    ·cases hst
   ·cases hst
  ·cases hst
 all_goals exact gen (by rintro (⟨t, ht⟩ | ⟨t, x, ht⟩) <;> cases ht) (fun _ _ _ _ _ _ _ h => by cases h)
theorem mi {n : Nat} (ho : nC n o.op) (hI : Refs (C.locs f) n σ) (hst : gQ C callf f ops o σ = some σ') : Refs (C.locs f) n σ' := by
 unfold gQ at hst
 split at hst
 ·unfold yl at hst
  split at hst
  ·exact GI hI hst
  ·split at hst
   ·rename_i r hr
    cases hst
    obtain ⟨h1, h2⟩ := Jc hr
    refine hI.put h1 fun t c off he => ?_
    obtain ⟨x, hx, c', off', hev⟩ := h2 t c off he
    exact hI.evd (ho x (by simpa using hx)) hev
   ·cases hst
 ·cases hst
  exact hI.val
 ·cases hst
theorem dF (hst : iJ C callf f ops h base i σ = some σ') : ∃ o, ops[i]? = some o ∧ fitsAt h base i o σ = true ∧ gQ C callf f ops o σ = some σ' ∧ (h.calm.contains i = true → iT h base σ.heap σ'.heap) := by
 unfold iJ at hst
 split at hst
 ·rename_i o ho
  split at hst
  ·rename_i hf
   split at hst
   ·rename_i σ1 h1
    split at hst
    ·rename_i hc
     cases hst
     exact ⟨o, ho, hf, h1, hc⟩
    ·cases hst
   ·cases hst
  ·cases hst
 ·cases hst
theorem kW (ho : ops[i]? = some o) (hf : fitsAt h base i o σ = true) (h1 : gQ C callf f ops o σ = some σ') (hc : h.calm.contains i = true → iT h base σ.heap σ'.heap) : iJ C callf f ops h base i σ = some σ' := by
 unfold iJ
 simp only [ho, hf, if_true, h1, if_pos hc]
theorem qN {F : Foot} (hU : ∀ t ∈ o.looksAt ops, t ∈ F.U) (hA : ∀ t ∈ F.U, σ.regs t = τ.regs t) : lq ops σ o.guard = lq ops τ o.guard := by
 unfold lq
 split
 ·rfl
 ·rename_i j want hg
  split
  ·rename_i t ht
   rw [hA t (hU t (by simp [Oper.looksAt, hg, ht]))]
  ·rfl
theorem Cb (hA : ∀ t ∈ (aX C f ops h i o).U, σ.regs t = τ.regs t) (hcnt : (aX C f ops h i o).rc = true → σ.cnt = τ.cnt)
  (hheap : (aX C f ops h i o).rh = true → σ.heap = τ.heap ∨ (h.old.contains i = true ∧ (aX C f ops h i o).wh = false ∧ iT h base σ.heap τ.heap)) (hf : fitsAt h base i o σ = true)
  (hR : ∀ x ∈ o.op.operands.toList, ∀ t c off, iU σ x = some (.ref t c off) → t ∈ C.locs f)
  (hstep : gQ C callf f ops o σ = some σ') : ∃ τ', gQ C callf f ops o τ = some τ' ∧ Moves (aX C f ops h i o) σ' τ τ' := by
 unfold gQ at *
 rw [← qN (rD C f ops h i o) hA]
 split at hstep
 ·rename_i hw
  try simp only [hw]
  exact GN hA hcnt hheap hf hR hstep
 ·rename_i hw
  try simp only [hw]
  cases hstep
  refine ⟨_, rfl, fun t ht => ?_, fun t ht => ?_, ?_, ?_⟩
  ·rw [bu, bu]
   by_cases hd : t ∈ o.dst.toList
   ·simp only [hd, if_true]
   ·simp only [hd, if_false]
    exact (hA t ((KL C f ops h i o t ht).resolve_left hd)).symm
  ·rw [bu]
   have : t ∉ o.dst.toList := fun hd => ht (KO C f ops h i o t hd)
   simp only [this, if_false]
  ·rw [iW, iW]
   split
   ·rename_i hc; exact (hcnt hc).symm
   ·rfl
  ·rw [dC, dC]
   split
   ·rename_i hc
    rcases hheap (jK C f ops h i o hc) with h1 | h1
    ·exact h1.symm
    ·rw [hc] at h1; exact absurd h1.2.1 (by decide)
   ·rfl
 ·cases hstep
theorem jL (ho : ops[i]? = some o) (hA : ∀ t ∈ (aX C f ops h i o).U, σ.regs t = τ.regs t) (hcnt : (aX C f ops h i o).rc = true → σ.cnt = τ.cnt)
  (hheap : (aX C f ops h i o).rh = true → σ.heap = τ.heap ∨ (h.old.contains i = true ∧ (aX C f ops h i o).wh = false ∧ iT h base σ.heap τ.heap))
  (hR : ∀ x ∈ o.op.operands.toList, ∀ t c off, iU σ x = some (.ref t c off) → t ∈ C.locs f)
  (hstep : iJ C callf f ops h base i σ = some σ') : ∃ τ', iJ C callf f ops h base i τ = some τ' ∧ Moves (aX C f ops h i o) σ' τ τ' := by
 obtain ⟨o', ho', hf, h1, hc⟩ := dF hstep
 rw [ho] at ho'
 cases ho'
 obtain ⟨τ', h2, h3⟩ := Cb hA hcnt hheap hf hR h1
 refine ⟨τ', kW ho ?_ h2 fun hcalm => ?_, h3⟩
 ·rw [← Bh (qj (rD C f ops h i o) hA)]; exact hf
 ·have := h3.heap
  split at this
  ·rename_i hw
   rcases hheap (jK C f ops h i o hw) with h4 | h4
   ·rw [this, ← h4]; exact hc hcalm
   ·rw [hw] at h4; exact absurd h4.2.1 (by decide)
  ·rw [this]; exact fun _ _ => rfl
def kP (h : Hint) (i j : Nat) (F G : Foot) : Bool :=
 F.W.all (fun t => !G.U.contains t && !G.W.contains t) && G.W.all (fun t => !F.U.contains t) && !(F.rc && G.rc) && !(F.wh && G.rh) &&
  (!(G.wh && F.rh) || (h.old.contains i && h.calm.contains j && !F.wh))
theorem KA {n : Nat} {j : Nat} {oi oj : Oper} {σ1 σ2 : St} (hi : ops[i]? = some oi) (hj : ops[j]? = some oj) (hoi : nC n oi.op) (hoj : nC n oj.op) (hI : Refs (C.locs f) n σ)
  (hap : kP h i j (aX C f ops h i oi) (aX C f ops h j oj) = true) (h1 : iJ C callf f ops h base i σ = some σ1) (h2 : iJ C callf f ops h base j σ1 = some σ2) :
  ∃ τ1, iJ C callf f ops h base j σ = some τ1 ∧ iJ C callf f ops h base i τ1 = some σ2 := by
 generalize hF : aX C f ops h i oi = F at hap
 generalize hG : aX C f ops h j oj = G at hap
 simp only [kP, Bool.and_eq_true, List.all_eq_true, Bool.not_eq_true', List.contains_eq_mem, decide_eq_false_iff_not, Bool.or_eq_true, decide_eq_true_eq, Bool.and_eq_false_imp] at hap
 obtain ⟨⟨⟨⟨a1, a2⟩, a3⟩, a4⟩, a5⟩ := hap
 have hI1 : Refs (C.locs f) n σ1 := by
  obtain ⟨o, ho, _, hs, _⟩ := dF h1
  rw [hi] at ho; cases ho
  exact mi hoi hI hs
 have rf : ∀ {ρ : St} {op : Op}, Refs (C.locs f) n ρ → nC n op → ∀ x ∈ op.operands.toList, ∀ t c off, iU ρ x = some (.ref t c off) → t ∈ C.locs f := fun hr ho x hx t c off he => hr.evd (ho x (by simpa using hx)) he
 have frame : ∀ {k : Nat} {ok : Oper} {ρ ρ1 : St}, ops[k]? = some ok → nC n ok.op → Refs (C.locs f) n ρ → iJ C callf f ops h base k ρ = some ρ1 → Moves (aX C f ops h k ok) ρ1 ρ ρ1 := fun hk hok hr hs => by
  obtain ⟨ρ', k1, k2⟩ := jL hk (fun _ _ => rfl) (fun _ => rfl) (fun _ => .inl rfl) (rf hr hok) hs
  rw [hs] at k1; cases k1; exact k2
 have m1 := frame hi hoi hI h1
 have m2 := frame hj hoj hI1 h2
 rw [hF] at m1
 rw [hG] at m2
 have wrF : F.wh = true → F.rh = true := by rw [← hF]; exact jK C f ops h i oi
 have wrG : G.wh = true → G.rh = true := by rw [← hG]; exact jK C f ops h j oj
 obtain ⟨τ1, t1, t2⟩ := jL (σ := σ1) (τ := σ) hj (fun t ht => m1.k t fun hw => by rw [hG] at ht; exact (a1 t hw).1 ht)
  (fun hc => by
    rw [hG] at hc
    have := m1.cnt
    by_cases hr : F.rc = true
    ·rw [a3 hr] at hc; cases hc
    ·rw [if_neg hr] at this; exact this)
  (fun hc => by
    rw [hG] at hc
    have := m1.heap
    by_cases hr : F.wh = true
    ·rw [a4 hr] at hc; cases hc
    ·rw [if_neg hr] at this; exact .inl this) (rf hI1 hoj) h2
 rw [hG] at t2
 have mt := frame hj hoj hI t1
 rw [hG] at mt
 have hIτ : Refs (C.locs f) n τ1 := by
  obtain ⟨o, ho, _, hs, _⟩ := dF t1
  rw [hj] at ho; cases ho
  exact mi hoj hI hs
 obtain ⟨σ2', u1, u2⟩ := jL (σ := σ) (τ := τ1) hi (fun t ht => (mt.k t fun hw => by rw [hF] at ht; exact a2 t hw ht).symm)
  (fun hc => by rw [hF] at hc; have := mt.cnt; rw [if_neg (by rw [a3 hc]; decide)] at this; exact this.symm)
  (fun hc => by
   rw [hF] at hc ⊢
   by_cases hw : G.wh = true
   ·rcases a5 with a5 | a5
    ·rw [a5 hw] at hc; cases hc
    ·obtain ⟨o, ho, _, _, hk⟩ := dF t1
     exact .inr ⟨by simpa using a5.1.1, a5.2, hk (by simpa using a5.1.2)⟩
   ·have := mt.heap; rw [if_neg hw] at this; exact .inl this.symm) (rf hI hoi) h1
 rw [hF] at u2
 refine ⟨τ1, t1, ?_⟩
 rw [u1]
 congr 1
 have er : σ2'.regs = σ2.regs := by
  funext t
  by_cases hw : t ∈ F.W
  ·rw [u2.w t hw, m2.k t (a1 t hw).2]
  ·rw [u2.k t hw]
   by_cases hg : t ∈ G.W
   ·rw [t2.w t hg]
   ·rw [t2.k t hg, m2.k t hg, m1.k t hw]
 have ec : σ2'.cnt = σ2.cnt := by
  have x1 := u2.cnt; have x2 := t2.cnt; have x3 := m2.cnt; have x4 := m1.cnt
  by_cases hr : F.rc = true
  ·rw [if_pos hr] at x1; rw [if_neg (by rw [a3 hr]; decide)] at x3; rw [x1, x3]
  ·rw [if_neg hr] at x1 x4
   rw [x1]
   by_cases hg : G.rc = true
   ·rw [if_pos hg] at x2; exact x2
   ·rw [if_neg hg] at x2 x3; rw [x2, x3, x4]
 have eh : σ2'.heap = σ2.heap := by
  have x1 := u2.heap; have x2 := t2.heap; have x3 := m2.heap; have x4 := m1.heap
  by_cases hr : F.wh = true
  ·have hg : ¬ G.wh = true := fun hg => by have := a4 hr; rw [wrG hg] at this; cases this
   rw [if_pos hr] at x1; rw [if_neg hg] at x3; rw [x1, x3]
  ·rw [if_neg hr] at x1 x4
   rw [x1]
   by_cases hg : G.wh = true
   ·rw [if_pos hg] at x2; exact x2
   ·rw [if_neg hg] at x2 x3; rw [x2, x3, x4]
 cases σ2'; cases σ2; simp only at er ec eh; subst er ec eh; rfl
theorem front {n : Nat} {oi : Oper} {β : List Nat} (hi : ops[i]? = some oi) (hops : OpsOk n ops) :
  ∀ {α : List Nat} {σ σ' : St}, Refs (C.locs f) n σ → (∀ a ∈ α, ∀ oa, ops[a]? = some oa → kP h a i (aX C f ops h a oa) (aX C f ops h i oi) = true) →
   kz C callf f ops h base (α ++ i :: β) σ = some σ' → ∃ σ1, iJ C callf f ops h base i σ = some σ1 ∧ kz C callf f ops h base (α ++ β) σ1 = some σ'
 | [], σ, σ', hI, _, hr => by
  simp only [List.nil_append, kz] at hr ⊢
  split at hr
  ·rename_i σ1 h1; exact ⟨σ1, h1, hr⟩
  ·cases hr
 | a :: α, σ, σ', hI, hap, hr => by
  simp only [List.cons_append, kz] at hr ⊢
  split at hr
  ·rename_i σa ha
   obtain ⟨oa, hoa, _, hsa, _⟩ := dF ha
   have mem : ∀ {k : Nat} {o : Oper}, ops[k]? = some o → nC n o.op := fun hk => (hops _ (by simpa using Array.mem_of_getElem? hk)).1
   obtain ⟨σ1, k1, k2⟩ := front hi hops (mi (mem hoa) hI hsa) (fun b hb => hap b (List.mem_cons_of_mem _ hb)) hr
   obtain ⟨τ1, t1, t2⟩ := KA hoa hi (mem hoa) (mem hi) hI (hap a (by simp) oa hoa) ha k1
   exact ⟨τ1, t1, by rw [t2]; exact k2⟩
  ·cases hr
end
end Go.Lite
end
section
namespace Go.Lite
open Go
variable [Draws]
section
variable {P : Program} {C : Ctx} {callf : bU} {f : Nat} {σ τ σ' : St} {ops : Array Oper} {h : Hint} {base i : Nat} {o : Oper} {μ : Mu} {β : List Nat} {a : Act} {w : World}
theorem sS (hty : TysOk P C.ty) (hcall : iD P callf) {ro : Option Nat} {Q : Exit → Act → World → Prop} {K : Act → World → Prop} (hs : Sim (C.locs f) σ μ β a w) (hop : OpsOk a.tmps.size ops) (hi : ops[i]? = some o)
  (h : gQ C callf f ops o σ = some σ') (hk : ∀ a' w', Leads (C.locs f) σ μ β a w σ' a' w' → K a' w') : wpOpIn (rf ro) 0 P ops Q i K a w := by
 unfold wpOpIn
 simp only [hi]
 have hmem : o ∈ ops.toList := by simpa using Array.mem_of_getElem? hi
 obtain ⟨ho, hd⟩ := hop o hmem
 unfold gQ at h
 split at h
 ·rename_i hw
  rw [gu hs (fun o ho => (hop o ho).2) hw]
  simp only [if_true]
  exact yD hty hcall hs o ho hd h ro _ _ hk
 ·rename_i hw
  cases h
  rw [gu hs (fun o ho => (hop o ho).2) hw]
  simp only [Bool.false_eq_true, if_false]
  exact ⟨fun _ _ => trivial, hk _ _ (Leads.put hs hd (r := .val (.tup [])) (u := undef) MW trivial)⟩
 ·cases h
def Behind (ops : Array Oper) (a i : Nat) : Prop := ∀ S : Nat → Prop, (∀ (j : Nat) (o : Oper), ops[j]? = some o → S j → ∀ e ∈ o.after, Region.binds .any e = true → S e.on) → S i → S a
def Jm (ops : Array Oper) (a i : Nat) : Prop := ∀ o, ops[a]? = some o → ∀ e ∈ o.after, Region.binds .any e = true → e.on ≠ i
def Ls (C : Ctx) (f : Nat) (ops : Array Oper) (h : Hint) (a i : Nat) : Prop := ∀ oa oi, ops[a]? = some oa → ops[i]? = some oi → kP h a i (aX C f ops h a oa) (aX C f ops h i oi) = true
theorem Hg (hty : TysOk P C.ty) (hcall : iD P callf) {ro : Option Nat} {Q : Exit → Act → World → Prop}
  (hedge : ∀ (i : Nat) (o : Oper), ops[i]? = some o → ∀ e ∈ o.after, Region.binds .any e = true → e.on < ops.size ∧ e.on ≠ i) :
  ∀ (fuel : Nat) {rest : List Nat} {listed : Array Bool} {σ : St} {μ : Mu} {β : List Nat} {a : Act} {w : World}, rest.length = fuel → Sim (C.locs f) σ μ β a w → OpsOk a.tmps.size ops →
   rest.Pairwise (fun a i => Jm ops a i ∧ (Behind ops a i ∨ Ls C f ops h a i)) → rest.Nodup → (∀ j, j ∈ rest ↔ listed[j]? = some false) → listed.size = ops.size →
   (∀ (j : Nat) (o : Oper), ops[j]? = some o → listed[j]? = some true → ∀ e ∈ o.after, Region.binds .any e = true → listed[e.on]? = some true) →
   kz C callf f ops h base rest σ = some σ' → (∀ a' w', Leads (C.locs f) σ μ β a w σ' a' w' → Q .normal a' w') → wpAnyIn (rf ro) 0 P .any ops Q fuel listed a w := by
 have getT : ∀ {l : Array Bool} {j : Nat}, l.getD j true = false ↔ l[j]? = some false := fun {l j} => by
  rw [Array.getD_eq_getD_getElem?]; cases l[j]? with
  | none => simp
  | some b => simp
 have getF : ∀ {l : Array Bool} {j : Nat}, l.getD j false = true ↔ l[j]? = some true := fun {l j} => by
  rw [Array.getD_eq_getD_getElem?]; cases l[j]? with
  | none => simp
  | some b => simp
 intro fuel
 induction fuel with
 | zero =>
  intro rest listed σ μ β a w hl hs hop hp hn hr hz hcl hrun hq
  cases List.length_eq_zero_iff.1 hl
  simp only [kz, Option.some.injEq] at hrun
  subst hrun
  refine ⟨?_, hq a w (.refl hs)⟩
  refine List.eq_nil_iff_forall_not_mem.2 fun j hj => ?_
  have := (mem_ready.1 hj).1
  exact absurd ((hr j).2 (getT.1 this)) (by simp)
 | succ fuel ih =>
  intro rest listed σ μ β a w hl hs hop hp hn hr hz hcl hrun hq
  refine ⟨fun hempty => ?_, fun i hi => ?_⟩
  ·cases rest with
   | nil => cases hl
   | cons x xs =>
    exfalso
    have hx := (hr x).1 (by simp)
    have hxs : x < ops.size := hz ▸ (Array.getElem?_eq_some_iff.1 hx).1
    have : x ∈ Region.ready .any ops listed := by
     refine mem_ready.2 ⟨getT.2 hx, ops[x], by simp [hxs], fun e he hb => getF.2 ?_⟩
     obtain ⟨h1, h2⟩ := hedge x _ (by simp [hxs]) e he hb
     cases hv : listed[e.on]? with
     | none => rw [Array.getElem?_eq_none_iff] at hv; omega
     | some b =>
      cases b with
      | true => rfl
      | false =>
       have hm := (hr e.on).2 hv
       simp only [List.mem_cons, h2, false_or] at hm
       exact absurd rfl ((List.pairwise_cons.1 hp).1 e.on hm |>.1 _ (by simp [hxs]) e he hb)
    rw [hempty] at this
    cases this
  ·obtain ⟨h1, oi, hoi, hpre⟩ := mem_ready.1 hi
   have hir := (hr i).2 (getT.1 h1)
   obtain ⟨α, γ, rfl⟩ := List.append_of_mem hir
   have hni : i ∉ α ∧ i ∉ γ := by
    rw [List.nodup_append] at hn
    simp only [List.nodup_cons, List.mem_cons] at hn
    exact ⟨fun hm => hn.2.2 i hm i (.inl rfl) rfl, hn.2.1.1⟩
   obtain ⟨hpα, hpγ, hpx⟩ := List.pairwise_append.1 hp
   have hfr := front hoi hop (base := base) (h := h) (callf := callf) (C := C) (f := f) (β := γ) (α := α) hs.refs (fun x hx ox hox => by
    rcases (hpx x hx i (by simp)).2 with hb | hb
    ·exfalso
     have := hb (fun j => listed[j]? = some true ∨ j = i) (fun j oj hoj hj e he hbd => by
      rcases hj with hj | rfl
      ·exact .inl (hcl j oj hoj hj e he hbd)
      ·rw [hoi] at hoj; cases hoj
       exact .inl (getF.1 (hpre e he hbd))) (.inr rfl)
     have hxu := (hr x).1 (List.mem_append_left _ hx)
     rcases this with h3 | rfl
     ·rw [hxu] at h3; cases h3
     ·exact hni.1 hx
    ·exact hb ox oi hox hoi) hrun
   obtain ⟨σ1, k1, k2⟩ := hfr
   obtain ⟨o', ho', _, hst, _⟩ := dF k1
   rw [hoi] at ho'; cases ho'
   refine sS hty hcall hs hop hoi hst fun a1 w1 hl1 => ?_
   obtain ⟨μ1, β1, g1, g2, g3, g4, g5, g6⟩ := hl1
   have hne : ∀ j, j ≠ i → (listed.setIfInBounds i true)[j]? = listed[j]? := fun j hj => by rw [Array.getElem?_setIfInBounds_ne (Ne.symm hj)]
   have heq : (listed.setIfInBounds i true)[i]? = some true := by
    have hlt : i < listed.size := (Array.getElem?_eq_some_iff.1 (getT.1 h1)).1
    rw [Array.getElem?_setIfInBounds]
    simp [hlt]
   refine ih (rest := α ++ γ) ?_ g1 (by rw [g4]; exact hop) ?_ ?_ ?_ (by simp [hz]) ?_ k2 fun a' w' hl' => hq a' w' (hl'.then g2 g3 g4 g5 g6)
   ·simp only [List.length_append, List.length_cons] at hl ⊢; omega
   ·exact List.pairwise_append.2 ⟨hpα, (List.pairwise_cons.1 hpγ).2, fun x hx y hy => hpx x hx y (List.mem_cons_of_mem _ hy)⟩
   ·rw [List.nodup_append] at hn ⊢
    simp only [List.nodup_cons, List.mem_cons] at hn
    exact ⟨hn.1, hn.2.1.2, fun x hx y hy => hn.2.2 x hx y (.inr hy)⟩
   ·intro j
    by_cases hj : j = i
    ·subst hj
     rw [heq]
     simp [hni.1, hni.2]
    ·rw [hne j hj, ← hr j]
     simp [hj]
   ·intro j oj hoj hj e he hb
    have hon : listed[e.on]? = some true := by
     by_cases hji : j = i
     ·subst hji; rw [hoi] at hoj; cases hoj; exact getF.1 (hpre e he hb)
     ·rw [hne j hji] at hj; exact hcl j oj hoj hj e he hb
    by_cases hei : e.on = i
    ·rw [hei]; exact heq
    ·rw [hne _ hei]; exact hon
def y8 (o : Oper) (i : Nat) : Bool := o.after.any fun e => Region.binds .any e && e.on == i
def D6 (acc : List Nat) (o : Oper) : Nat := o.after.toList.foldl (fun s e => if Region.binds .any e then s ||| 2 ^ e.on ||| acc.getD e.on 0 else s) 0
def um : List Oper → List Nat → List Nat
 | [], acc => acc
 | o :: os, acc => um os (acc ++ [D6 acc o])
theorem zS {S : Nat → Prop} {acc : List Nat} (hacc : ∀ k x, (acc.getD k 0).testBit x = true → S k → S x) {o : Oper} (ho : ∀ e ∈ o.after, Region.binds .any e = true → S e.on) {x : Nat}
  (h : (D6 acc o).testBit x = true) : S x := by
 unfold D6 at h
 have key : ∀ (es : List Edge) (s : Nat), (∀ e ∈ es, Region.binds .any e = true → S e.on) → (s.testBit x = true → S x) →
   ((es.foldl (fun s e => if Region.binds .any e then s ||| 2 ^ e.on ||| acc.getD e.on 0 else s) s).testBit x = true → S x) := by
  intro es
  induction es with
  | nil => intro s _ hs hx; exact hs hx
  | cons e es ih =>
   intro s he hs hx
   refine ih _ (fun e' h' => he e' (List.mem_cons_of_mem _ h')) ?_ hx
   intro hb
   dsimp only at hb
   split at hb
   ·rename_i hbind
    rw [Nat.testBit_or, Nat.testBit_or, Bool.or_eq_true, Bool.or_eq_true] at hb
    rcases hb with (hb | hb) | hb
    ·exact hs hb
    ·rw [Nat.testBit_two_pow] at hb
     have : e.on = x := by simpa using hb
     subst this
     exact he e (by simp) hbind
    ·exact hacc _ _ hb (he e (by simp) hbind)
   ·exact hs hb
 exact key _ _ (fun e he => ho e (by simpa using he)) (by simp) h
theorem lC {S : Nat → Prop} (hS : ∀ (j : Nat) (o : Oper), ops[j]? = some o → S j → ∀ e ∈ o.after, Region.binds .any e = true → S e.on) :
  ∀ (os : List Oper) (acc : List Nat), ops.toList.drop acc.length = os → (∀ k x, (acc.getD k 0).testBit x = true → S k → S x) → ∀ k x, ((um os acc).getD k 0).testBit x = true → S k → S x
 | [], acc, _, hacc => hacc
 | o :: os, acc, hd, hacc => by
  have hi : ops[acc.length]? = some o := by
   have := congrArg (fun l => l[0]?) hd
   simpa using this
  refine lC hS os _ (by have := congrArg List.tail hd; simpa using this) ?_
  intro k x hb hk
  rcases Nat.lt_trichotomy k acc.length with hlt | heq | hgt
  ·refine hacc k x ?_ hk
   simpa [List.getD_eq_getElem?_getD, List.getElem?_append_left hlt] using hb
  ·subst heq
   refine zS hacc (fun e he hbd => hS _ o hi hk e he hbd) (x := x) ?_
   simpa [List.getD_eq_getElem?_getD] using hb
  ·simp [List.getD_eq_getElem?_getD, List.getElem?_append_right (Nat.le_of_lt hgt)] at hb
   have : k - acc.length ≠ 0 := by omega
   cases hk' : k - acc.length with
   | zero => exact absurd hk' this
   | succ m => simp [hk'] at hb
def jE (p : Nat → Nat → Bool) : List Nat → Bool
 | [] => true
 | x :: xs => xs.all (p x) && jE p xs
theorem fM {p : Nat → Nat → Bool} : ∀ {l : List Nat}, jE p l = true → l.Pairwise (fun a b => p a b = true)
 | [], _ => .nil
 | x :: xs, h => by
  simp only [jE, Bool.and_eq_true, List.all_eq_true] at h
  exact .cons h.1 (fM h.2)
def JK (C : Ctx) (f : Nat) (ops : Array Oper) (h : Hint) (ms : List Nat) (a i : Nat) : Bool :=
 match ops[a]?, ops[i]? with
 | some oa, some oi => !y8 oa i && ((ms.getD i 0).testBit a || kP h a i (aX C f ops h a oa) (aX C f ops h i oi))
 | _, _ => true
def Dh (C : Ctx) (f : Nat) (ops : Array Oper) (h : Hint) : Bool :=
 h.ord.length == ops.size && h.ord.all (fun i => decide (i < ops.size)) && (List.range ops.size).all (fun i => h.ord.contains i) && jE (fun a b => a != b) h.ord &&
  ops.toList.zipIdx.all (fun x => x.1.after.all fun e => !Region.binds .any e || (decide (e.on < ops.size) && e.on != x.2)) && jE (JK C f ops h (um ops.toList [])) h.ord
theorem qQ (hty : TysOk P C.ty) (hcall : iD P callf) {ro : Option Nat} {Q : Exit → Act → World → Prop} (hd : Dh C f ops h = true) (hs : Sim (C.locs f) σ μ β a w) (hop : OpsOk a.tmps.size ops)
  (hrun : kz C callf f ops h base h.ord σ = some σ') (hq : ∀ a' w', Leads (C.locs f) σ μ β a w σ' a' w' → Q .normal a' w') : wpAnyIn (rf ro) 0 P .any ops Q ops.size (Array.replicate ops.size false) a w := by
 simp only [Dh, Bool.and_eq_true, beq_iff_eq] at hd
 obtain ⟨⟨⟨⟨⟨d1, d0⟩, d2⟩, d3⟩, d4⟩, d5⟩ := hd
 have hnd : h.ord.Nodup := (fM d3).imp fun hne => by simpa using hne
 have hmem : ∀ j, j ∈ h.ord ↔ j < ops.size := fun j =>
  ⟨fun hj => by simpa using List.all_eq_true.1 d0 j hj, fun hj => by simpa using List.all_eq_true.1 d2 j (List.mem_range.2 hj)⟩
 refine Hg hty hcall ?_ ops.size d1 hs hop ?_ hnd ?_ (by simp) ?_ hrun hq
 ·intro i o ho e he hb
  have hx : (o, i) ∈ ops.toList.zipIdx := by
   rw [List.mk_mem_zipIdx_iff_getElem?]
   simpa using ho
  have := List.all_eq_true.1 d4 _ hx
  have := Array.all_eq_true_iff_forall_mem.1 this e he
  simpa [hb] using this
 ·refine (fM d5).imp_of_mem fun {x y} hx hy hp => ?_
  have hxs := (hmem x).1 hx
  have hys := (hmem y).1 hy
  unfold JK at hp
  rw [Array.getElem?_eq_getElem hxs, Array.getElem?_eq_getElem hys] at hp
  simp only [Bool.and_eq_true, Bool.not_eq_true', Bool.or_eq_true] at hp
  refine ⟨fun o ho e he hb heq => ?_, hp.2.imp (fun hm S hS hy => ?_) fun hap oa oi hoa hoi => ?_⟩
  ·rw [Array.getElem?_eq_getElem hxs] at ho
   cases ho
   have := hp.1
   unfold y8 at this
   rw [Array.any_eq_false'] at this
   exact absurd (this e he) (by simp [hb, heq])
  ·exact lC hS ops.toList [] rfl (by simp) y x hm hy
  ·rw [Array.getElem?_eq_getElem hxs] at hoa
   rw [Array.getElem?_eq_getElem hys] at hoi
   cases hoa; cases hoi
   exact hap
 ·intro j
  rw [hmem]
  rw [Array.getElem?_replicate]
  by_cases hj : j < ops.size <;> simp [hj]
 ·intro j o ho hj
  simp [Array.getElem?_replicate] at hj
def gG (ops : Array Oper) : Hint := ⟨List.range ops.size, [], [], [], [], [], []⟩
theorem Dc : ∀ (k : Nat) (os : List Oper) (σ : St), ops.toList.drop k = os → kz C callf f ops (gG ops) base (List.range' k os.length) σ = oO C callf f ops os σ := by
 intro k os
 induction os generalizing k with
 | nil => intro σ _; rfl
 | cons o os ih =>
  intro σ h
  have hi : ops[k]? = some o := by
   have := congrArg (fun l => l[0]?) h
   simpa using this
  have hd : ops.toList.drop (k + 1) = os := by
   have := congrArg List.tail h
   simpa using this
  rw [List.length_cons, List.range'_succ]
  have hfit : fitsAt (gG ops) base k o σ = true := by simp [fitsAt, gG]
  have hcalm : ∀ σ1 : St, ((gG ops).calm.contains k = true → iT (gG ops) base σ.heap σ1.heap) := fun σ1 hc => by simp [gG] at hc
  simp only [kz, iJ, hi, oO, hfit, if_true, if_pos (hcalm _)]
  cases gQ C callf f ops o σ with
  | none => rfl
  | some σ1 => exact ih (k + 1) σ1 hd
def hintOf (C : Ctx) (f id : Nat) (ops : Array Oper) : Hint := (C.ord f id).getD (gG ops)
end
section
variable {l : List Nat} {base : Nat} {H X : List Ob}
theorem fP (i : Nat) : (dP l base H)[i]? = H[i]?.map fun o => if base ≤ i ∧ l.contains (i - base) = true then .dead else o := by
 unfold dP; rw [List.getElem?_mapIdx]
theorem fB (i : Nat) : (fK l base H X)[i]? = X[i]?.map fun o => if base ≤ i ∧ l.contains (i - base) = true then H.getD i .dead else o := by
 unfold fK; rw [List.getElem?_mapIdx]
theorem kD : (dP l base H).length = H.length := by simp [dP]
theorem oD : (fK l base H X).length = X.length := by simp [fK]
theorem lM : dP [] base H = H := by
 apply List.ext_getElem?
 intro i
 rw [fP]
 cases H[i]? <;> simp
theorem lT : fK [] base H X = X := by
 apply List.ext_getElem?
 intro i
 rw [fB]
 cases X[i]? <;> simp
theorem xQ {k : Nat} {o : Ob} (hk : l.contains k = true) : dP l base (H.set (base + k) o) = dP l base H := by
 apply List.ext_getElem?
 intro i
 rw [fP, fP]
 by_cases e : i = base + k
 ·subst e
  have hc : base ≤ base + k ∧ l.contains (base + k - base) = true := ⟨by omega, by rw [Nat.add_sub_cancel_left]; exact hk⟩
  simp only [if_pos hc]
  rw [List.getElem?_set]
  by_cases hl : base + k < H.length
  ·simp [hl]
  ·simp [hl]
 ·rw [List.getElem?_set_ne (fun h => e h.symm)]
theorem yP {k : Nat} {o : Ob} (hk : l.contains k = true) (hH : base + k < H.length) : (fK l base H X).set (base + k) o = fK l base (H.set (base + k) o) X := by
 apply List.ext_getElem?
 intro i
 by_cases e : i = base + k
 ·subst e
  have hc : base ≤ base + k ∧ l.contains (base + k - base) = true := ⟨by omega, by rw [Nat.add_sub_cancel_left]; exact hk⟩
  rw [fB, List.getElem?_set, oD]
  simp only [if_pos hc, if_true]
  by_cases hl : base + k < X.length
  ·simp [hl, hH, List.getD_eq_getElem?_getD]
  ·simp [hl]
 ·rw [List.getElem?_set_ne (fun h => e h.symm), fB, fB]
  simp only [List.getD_eq_getElem?_getD, List.getElem?_set_ne (fun h => e (Eq.symm h))]
theorem vT : fK l base H (dP l base H) = H := by
 apply List.ext_getElem?
 intro i
 rw [fB, fP]
 cases hi : H[i]? with
 | none => rfl
 | some o =>
  rw [Option.map_some, Option.map_some]
  by_cases hc : base ≤ i ∧ l.contains (i - base) = true
  ·simp only [if_pos hc, List.getD_eq_getElem?_getD, hi, Option.getD_some]
  ·simp only [if_neg hc]
theorem Aw {h : Hint} {n : Nat} {H' : List Ob} (hk : iT h n H H') : iT h n (dP l base H) (dP l base H') := fun i hi => by
 rw [fP, fP, hk i hi]
theorem Cm {h : Hint} {n : Nat} (hk : iT h n (dP l base H) X) : iT h n H (fK l base H X) := fun i hi => by
 rw [fB, hk i hi, fP]
 cases hg : H[i]? with
 | none => rfl
 | some o =>
  rw [Option.map_some, Option.map_some]
  by_cases hc : base ≤ i ∧ l.contains (i - base) = true
  ·simp only [if_pos hc, List.getD_eq_getElem?_getD, hg, Option.getD_some]
  ·simp only [if_neg hc]
end
section
variable {P : Program} {L : List Nat} {C : Ctx} {callf : bU} {f : Nat} {σ σ' τ : St} {ops : Array Oper} {h : Hint} {base i : Nat} {o : Oper} {μ : Mu} {β : List Nat} {a a' : Act} {w w' : World}
theorem HSim.less {H H' : List Ob} (h : HSim H μ w) (hl : H'.length = H.length) (key : ∀ (i : Nat) (o : Ob), H'[i]? = some o → o = .dead ∨ H[i]? = some o) : HSim H' μ w := by
 refine ⟨fun i m' h1 => by rw [hl]; exact h.dom i m' h1, fun i o h1 h2 => ?_, fun i o m h1 h2 => ?_, fun i i' o o' m m' hne h1 h2 h3 h4 h5 h6 => ?_, fun i es cells m h1 h2 h3 => ?_⟩
 ·rcases key i o h1 with rfl | h3
  ·cases h2
  ·exact h.map i o h3 h2
 ·rcases key i o h1 with rfl | h3
  ·trivial
  ·exact h.obj i o m h3 h2
 ·rcases key i o h1 with rfl | g1
  ·cases h5
  ·rcases key i' o' h2 with rfl | g2
   ·cases h6
   ·exact h.sep i i' o o' m m' hne g1 g2 h3 h4 h5 h6
 ·rcases key i _ h1 with e | g1
  ·cases e
  ·exact h.plain _ _ _ _ g1 h2 h3
theorem kK {l : List Nat} {H : List Ob} : ∀ (i : Nat) (o : Ob), (dP l base H)[i]? = some o → o = .dead ∨ (H[i]? = some o ∧ ¬ (base ≤ i ∧ l.contains (i - base) = true)) := by
 intro i o hi
 rw [fP] at hi
 obtain ⟨o', h1, h2⟩ := Option.map_eq_some_iff.1 hi
 split at h2
 ·exact .inl h2.symm
 ·rename_i hn; subst h2; exact .inr ⟨h1, hn⟩
theorem jI {l : List Nat} {H X : List Ob} : ∀ (i : Nat) (o : Ob), (fK l base H X)[i]? = some o → live o = true → (H[i]? = some o ∧ (base ≤ i ∧ l.contains (i - base) = true)) ∨ (X[i]? = some o ∧ ¬ (base ≤ i ∧ l.contains (i - base) = true)) := by
 intro i o hi hlv
 rw [fB] at hi
 obtain ⟨o', h1, h2⟩ := Option.map_eq_some_iff.1 hi
 split at h2
 ·rename_i hc
  refine .inl ⟨?_, hc⟩
  rw [List.getD_eq_getElem?_getD] at h2
  cases hH : H[i]? with
  | none => rw [hH] at h2; subst h2; cases hlv
  | some x => rw [hH] at h2; simp at h2; rw [h2]
 ·rename_i hn; subst h2; exact .inr ⟨h1, hn⟩
theorem fO {o : Ob} (h : owned o = true) : live o = true := by
 cases o with
 | dead => cases h
 | mk own es cells => rfl
theorem Sim.hide {l : List Nat} (hs : Sim L σ μ β a w) : Sim L { σ with heap := dP l base σ.heap } μ β a w :=
 ⟨hs.heap.less kD fun i o h1 => (kK i o h1).imp id (·.1), hs.lenβ, hs.reg, hs.box, fun id o m b h1 h2 h3 h4 => by
  rcases kK id o h1 with rfl | h5
  ·cases h3
  ·exact hs.sepβ id o m b h5.1 h2 h3 h4, hs.injβ, hs.ltβ, hs.uniq, hs.loc, hs.defs⟩
theorem Leads.back {l : List Nat} (hs : Sim L σ μ β a w) (h : Leads L { σ with heap := dP l base σ.heap } μ β a w σ' a' w') : Leads L σ μ β a w { σ' with heap := fK l base σ.heap σ'.heap } a' w' := by
 obtain ⟨μ', β', k1, k2, k3, k4, k5, k6⟩ := h
 have hlen : σ.heap.length ≤ σ'.heap.length := by have := k6.2.1; simpa only [kD] using this
 have blk : ∀ (id : Nat) (o : Ob) (m : Mp), σ.heap[id]? = some o → live o = true → (base ≤ id ∧ l.contains (id - base) = true) → μ id = some m → ¬ OwnB (dP l base σ.heap) μ β m.blk := by
  rintro id o m h1 h2 h3 h4 (⟨i2, o2, m2, g1, g2, g3, g4⟩ | hb)
  ·rcases kK i2 o2 g1 with rfl | ⟨g5, g6⟩
   ·cases g2
   ·exact hs.heap.sep i2 id o2 o m2 m (fun e => g6 (by rw [e]; exact h3)) g5 h1 g3 h4 g2 h2 g4
  ·exact hs.sepβ id o m m.blk h1 h4 h2 hb rfl
 have same : ∀ (id : Nat) (o : Ob) (m : Mp), σ.heap[id]? = some o → live o = true → (base ≤ id ∧ l.contains (id - base) = true) → μ id = some m → SameBlk w w' m.blk := fun id o m h1 h2 h3 h4 =>
  .of_heap (k5.same _ (kX hs.heap id o m h1 h4 h2) (blk id o m h1 h2 h3 h4))
 have apart : ∀ (id : Nat) (o : Ob) (m : Mp), σ.heap[id]? = some o → live o = true → (base ≤ id ∧ l.contains (id - base) = true) → μ id = some m → ∀ b, (OwnB (dP l base σ.heap) μ β b ∨ w.heap.size ≤ b) → b ≠ m.blk := by
  rintro id o m h1 h2 h3 h4 b (hb | hb) rfl
  ·exact blk id o m h1 h2 h3 h4 hb
  ·have := kX hs.heap id o m h1 h4 h2; omega
 have old : ∀ (id : Nat) (o : Ob) (m : Mp), σ.heap[id]? = some o → live o = true → μ' id = some m → μ id = some m := fun id o m h1 h2 h3 => by
  obtain ⟨m0, h4⟩ := hs.heap.map id o h1 h2
  have := k2 id m0 h4
  rw [h3] at this; cases this; exact h4
 have hh : HSim (fK l base σ.heap σ'.heap) μ' w' := by
  refine ⟨fun i m' h1 => by rw [oD]; exact k1.heap.dom i m' h1, fun i o h1 h2 => ?_, fun i o m h1 h2 => ?_, fun i i' o o' m m' hne h1 h2 h3 h4 h5 h6 => ?_, fun i es cells m h1 h2 h3 => ?_⟩
  ·rcases jI i o h1 h2 with ⟨g1, _⟩ | ⟨g1, _⟩
   ·obtain ⟨m, hm⟩ := hs.heap.map i o g1 h2
    exact ⟨m, k2 _ _ hm⟩
   ·exact k1.heap.map i o g1 h2
  ·cases o with
   | dead => trivial
   | mk own es cells =>
    rcases jI i _ h1 rfl with ⟨g1, g2⟩ | ⟨g1, _⟩
    ·have hm := old i _ m g1 rfl h2
     exact (ObjOk.le k2 (hs.heap.obj i _ m g1 hm)).same (same i _ m g1 rfl g2 hm) k5.size
    ·exact k1.heap.obj i _ m g1 h2
  ·have hl5 := fO h5
   rcases jI i o h1 hl5 with ⟨g1, g2⟩ | ⟨g1, g2⟩ <;> rcases jI i' o' h2 h6 with ⟨g3, g4⟩ | ⟨g3, g4⟩
   ·exact hs.heap.sep i i' o o' m m' hne g1 g3 (old i o m g1 hl5 h3) (old i' o' m' g3 h6 h4) h5 h6
   ·have hm := old i o m g1 hl5 h3
    rcases k6.1 m'.blk ⟨i', o', m', g3, h6, h4, rfl⟩ with ⟨i2, o2, m2, q1, q2, q3, q4⟩ | hn
    ·rcases kK i2 o2 q1 with rfl | ⟨q5, q6⟩
     ·cases q2
     ·rw [← q4]
      exact hs.heap.sep i i2 o o2 m m2 (fun e => q6 (by rw [← e]; exact g2)) g1 q5 hm q3 h5 q2
    ·have := kX hs.heap i o m g1 hm hl5; omega
   ·have hm := old i' o' m' g3 h6 h4
    exact apart i' o' m' g3 h6 g4 hm m.blk (k5.own _ (.inl ⟨i, o, m, g1, h5, h3, rfl⟩))
   ·exact k1.heap.sep i i' o o' m m' hne g1 g3 h3 h4 h5 h6
  ·rcases jI i _ h1 rfl with ⟨g1, g2⟩ | ⟨g1, _⟩
   ·have hm := old i _ m g1 rfl h2
    exact (hs.heap.plain _ _ _ _ g1 hm h3).same (same i _ m g1 rfl g2 hm)
   ·exact k1.heap.plain _ _ _ _ g1 h2 h3
 refine ⟨μ', β', ⟨hh, k1.lenβ, k1.reg, k1.box, fun id o m b h1 h2 h3 h4 => ?_, k1.injβ, k1.ltβ, k1.uniq, k1.loc, k1.defs⟩, k2, k3, k4, ⟨k5.size, fun b h1 h2 => k5.same b h1 (fun h3 => h2 ?_), fun b hb => ?_, k5.os, k5.tape, k5.output, k5.drawn⟩, fun b hb => ?_, ?_, fun id m hm => ?_⟩
 ·rcases jI id o h1 h3 with ⟨g1, g2⟩ | ⟨g1, _⟩
  ·exact fun e => apart id o m g1 h3 g2 (old id o m g1 h3 h2) b (k5.own _ (.inr h4)) e.symm
  ·exact k1.sepβ id o m b g1 h2 h3 h4
 ·rcases h3 with ⟨i2, o2, m2, q1, q2, q3, q4⟩ | h3
  ·rcases kK i2 o2 q1 with rfl | ⟨q5, _⟩
   ·cases q2
   ·exact .inl ⟨i2, o2, m2, q5, q2, q3, q4⟩
  ·exact .inr h3
 ·have up : OwnB (dP l base σ.heap) μ β b → OwnB σ.heap μ β b := by
   rintro (⟨i2, o2, m2, q1, q2, q3, q4⟩ | h3)
   ·rcases kK i2 o2 q1 with rfl | ⟨q5, _⟩
    ·cases q2
    ·exact .inl ⟨i2, o2, m2, q5, q2, q3, q4⟩
   ·exact .inr h3
  rcases hb with ⟨i2, o2, m2, q1, q2, q3, q4⟩ | h3
  ·rcases jI i2 o2 q1 (fO q2) with ⟨g1, g2⟩ | ⟨g1, _⟩
   ·exact .inl (.inl ⟨i2, o2, m2, g1, q2, old i2 o2 m2 g1 (fO q2) q3, q4⟩)
   ·exact (k5.own b (.inl ⟨i2, o2, m2, g1, q2, q3, q4⟩)).imp up id
  ·exact (k5.own b (.inr h3)).imp up id
 ·obtain ⟨i2, o2, m2, q1, q2, q3, q4⟩ := hb
  rcases jI i2 o2 q1 q2 with ⟨g1, g2⟩ | ⟨g1, _⟩
  ·exact .inl ⟨i2, o2, m2, g1, q2, old i2 o2 m2 g1 q2 q3, q4⟩
  ·rcases k6.1 b ⟨i2, o2, m2, g1, q2, q3, q4⟩ with ⟨i3, o3, m3, p1, p2, p3, p4⟩ | hn
   ·rcases kK i3 o3 p1 with rfl | ⟨p5, _⟩
    ·cases p2
    ·exact .inl ⟨i3, o3, m3, p5, p2, p3, p4⟩
   ·exact .inr hn
 ·rw [oD]; exact hlen
 ·rcases k6.2.2 id m hm with h1 | h1
  ·exact .inl h1
  ·exact .inr (by simpa only [kD] using h1)
theorem Eh (hty : TysOk P C.ty) (hs : Sim (C.locs f) σ μ β a w) (o : Oper) (ho : nC a.tmps.size o.op) (hd : ∀ x, o.dst = some x → x < a.tmps.size) {ob : Ob} {mk : Nat → V}
  (h : o9 C σ o.op = some (ob, mk)) {id : Nat} (hid : μ id = none) (hlt : id < σ.heap.length) :
  zh (fun j => j = id) P (C.locs f) o σ μ β a w (({ σ with heap := σ.heap.set id ob } : St).put o.dst (.val (mk id))) := by
 generalize hop : o.op = op at h ho
 unfold o9 at h
 split at h
 ·rename_i t
  split at h
  ·rename_i hz
   cases h
   obtain ⟨z, h1, h2⟩ := jw (w := w) (μ := μ) (hty.of_size (t := t) (by omega))
   have hl := h2.length
   simp only [Array.length_toList] at hl
   have hgo := HGoesB.fill (es := aV (C.ty t) C.ty) (w' := w.alloc (.cells z.cells t)) (fz := (0, 0)) hs.heap hid hlt (cells := (C.ty t).zero) (us := z.cells) (ty := t) (by rw [List.take_of_length_le (by simp; omega)]; exact h2) (by omega) rfl (.inr (Nat.le_refl _)) rfl rfl rfl
   refine OpGoes.value (u := .pointer (some ⟨w.heap.size, 0, none⟩)) (w' := w.alloc (.cells z.cells t)) ?_ (Leads.heap_put hs hgo hd (v := .ptr (some (id, 0))) (VR.ptr _ _ ⟨w.heap.size, 0, (C.ty t).zero.length, aV (C.ty t) C.ty, z.cells.size, true⟩ (Mu.add_self _ _ _)))
   unfold execOp
   rw [hop]
   simp [Instr.alloc, h1, Go.newVar, newRow]
  ·cases h
 ·rename_i t x
  split at h
  ·rename_i v h1
   split at h
   ·rename_i cs h2
    cases h
    have hc := jr h2 (aN hs (ho x (by simp [Op.operands])) h1)
    have hl := hc.length
    simp only [Array.length_toList] at hl
    have hgo := HGoesB.fill (es := aV (C.ty t) C.ty) (w' := w.alloc (.cells (a.eval x).cells t)) (fz := (0, 0)) hs.heap hid hlt (cells := cs) (us := (a.eval x).cells) (ty := t) (by rw [List.take_of_length_le (by simp; omega)]; exact hc) (by omega) rfl (.inr (Nat.le_refl _)) rfl rfl rfl
    refine OpGoes.value (u := .pointer (some ⟨w.heap.size, 0, none⟩)) (w' := w.alloc (.cells (a.eval x).cells t)) ?_ (Leads.heap_put hs hgo hd (v := .ptr (some (id, 0))) (VR.ptr _ _ ⟨w.heap.size, 0, cs.length, aV (C.ty t) C.ty, (a.eval x).cells.size, true⟩ (Mu.add_self _ _ _)))
    unfold execOp
    rw [hop]
    simp [Instr.box, Go.newVar, newRow]
   ·cases h
  ·cases h
 ·rename_i t n parts
  split at h
  ·rename_i E ps h1 h2
   obtain ⟨e, he, rfl⟩ := iG h1
   split at h
   ·rename_i hE
    split at h
    ·rename_i cs h3
     cases h
     obtain ⟨g1, g2, g3⟩ := hE
     have hx : ∀ x ∈ parts.toList, OpdOk a.tmps.size x.2 := fun x hx => ho x.2 (by simp only [Op.operands]; simp; exact ⟨x.1, by simpa using hx⟩)
     have hTE := hty.of_size (t := e) (by omega)
     have ht := (hty.of_desc (t := t) (by rw [he]; simp)).desc
     rw [he] at ht
     obtain ⟨z, hz, hzv⟩ := jw (w := w) (μ := μ) hTE
     have hps := jy hs hx h2
     have hz0 := lS hzv n (by omega)
     rw [g2] at hz0
     obtain ⟨c', q3, q4, q5⟩ := kJ (pl' := fun i => some (i * (C.ty e).size, (C.ty e).size)) (fun i x hx => hx) hps hz0 h3
     have hl := q4.length
     simp only [Array.length_toList] at hl
     have h5' : c'.size = n * (C.ty e).size := by rw [q5]; simp
     have hgo := HGoesB.fill (es := (C.ty e).size) (w' := w.alloc (.cells c' e)) (fz := (0, 0)) hs.heap hid hlt (cells := cs) (us := c') (ty := e) (by rw [List.take_of_length_le (by simp; omega)]; exact q4) (by omega) rfl (.inr (Nat.le_refl _)) rfl rfl rfl
     have hv := VR.slc (μ := μ.add id ⟨w.heap.size, 0, cs.length, (C.ty e).size, c'.size, true⟩) id 0 n n ⟨w.heap.size, 0, cs.length, (C.ty e).size, c'.size, true⟩
      (Mu.add_self _ _ _) (Nat.le_refl _) (fun _ => by simp only [h5']; omega) (by simp only; omega)
     refine OpGoes.value (u := .slice (some ⟨w.heap.size, 0, none⟩) n n) (w' := w.alloc (.cells c' e)) ?_ (Leads.heap_put hs hgo hd (by simpa using hv))
     unfold execOp
     rw [hop]
     have hsz := aS hTE w
     have hmap : (parts.map fun (i, x) => (i, a.eval x)).toList = parts.toList.map fun (i, x) => (i, a.eval x) := by simp
     simp only [Sem.run_bind, Instr.buildSlice, run_underlying ht, Result.andThen_ok, hsz, Sem.run_ite]
     rw [if_neg (by omega)]
     by_cases hn0 : n * (C.ty e).size = 0
     ·have hc0 : c' = #[] := Array.eq_empty_of_size_eq_zero (by omega)
      subst hc0
      have hr : (Array.range (n * (C.ty e).size)).map (fun i => z.cells[i % z.cells.size]!) = #[] := by rw [hn0, Array.range_zero', Array.map_empty]
      rw [hr] at q3
      simp only [hn0, if_true, Sem.run_pure, Result.andThen_ok, Array.range_zero', Array.map_empty, hmap]
      simp [q3, newRow]
     ·simp only [hn0, if_false, Sem.run_pure, Result.andThen_ok, hz, hmap, Sem.run_bind, q3]
      simp [newRow]
    ·cases h
   ·cases h
  ·cases h
 ·rename_i t xl xc
  split at h
  ·rename_i E l' c' h1 h2 h3
   obtain ⟨e, he, rfl⟩ := iG h1
   split at h
   ·rename_i hE
    cases h
    obtain ⟨g1, g2, g3, g4, g5, g6⟩ := hE
    have hx : OpdOk a.tmps.size xl := ho xl (by simp [Op.operands])
    have hy : OpdOk a.tmps.size xc := ho xc (by simp [Op.operands])
    have hTE := hty.of_size (t := e) (by omega)
    have ht := (hty.of_desc (t := t) (by rw [he]; simp)).desc
    rw [he] at ht
    obtain ⟨z, hz, hzv⟩ := jw (w := w) (μ := μ) hTE
    obtain ⟨i, z', i1, i2, i3, i4, i5⟩ := hTE.info
    have hti : (typeInfo e).run P w = .ok i w := by simp [typeInfo, i1]
    obtain ⟨C', rfl⟩ : ∃ n : Nat, c' = n := ⟨c'.toNat, by omega⟩
    obtain ⟨L', rfl⟩ : ∃ n : Nat, l' = n := ⟨l'.toNat, by omega⟩
    simp only [Int.toNat_natCast] at *
    have hz0 := lS hzv C' (by omega)
    rw [g2] at hz0
    have hl := hz0.length
    simp only [Array.length_toList] at hl
    have e1 := (aN hs hx h2).int_inv
    have e2 := (aN hs hy h3).int_inv
    generalize hus : (Array.range (C' * (C.ty e).size)).map (fun i => z.cells[i % z.cells.size]!) = us at hz0 hl
    have husz : us.size = C' * (C.ty e).size := by rw [← hus]; simp
    have hgo := HGoesB.fill (es := (C.ty e).size) (w' := w.alloc (.cells us e)) (fz := (0, 0)) hs.heap hid hlt (cells := ah (C.ty e) C') (us := us) (ty := e) (by rw [List.take_of_length_le (by simp; omega)]; exact hz0) (by omega) rfl (.inr (Nat.le_refl _)) rfl rfl rfl
    have hv := VR.slc (μ := μ.add id ⟨w.heap.size, 0, (ah (C.ty e) C').length, (C.ty e).size, us.size, true⟩) id 0 L' C' ⟨w.heap.size, 0, (ah (C.ty e) C').length, (C.ty e).size, us.size, true⟩
     (Mu.add_self _ _ _) (by omega) (fun _ => by simp only; omega) (by simp only; omega)
    refine OpGoes.value (u := .slice (some ⟨w.heap.size, 0, none⟩) L' C') (w' := w.alloc (.cells us e)) ?_ (Leads.heap_put hs hgo hd (by simpa using hv))
    unfold execOp
    rw [hop]
    have hsz := aS hTE w
    unfold aB at g5 g6
    have w1 : IntKind.i64.wrap (L' : Int) = L' := by
     simp only [IntKind.wrap, IntKind.bits, IntKind.signed]; simp; omega
    have w2 : IntKind.i64.wrap (C' : Int) = C' := by
     simp only [IntKind.wrap, IntKind.bits, IntKind.signed]; simp; omega
    have n1 : ¬ ((C' : Int) < 0) := by omega
    have n2 : ¬ ((i.bytes : Int) * (C' : Int) > 2 ^ 48) := by
     rw [i3, Int.mul_comm]
     omega
    have n3 : ¬ ((L' : Int) < 0) := by omega
    have n4 : ¬ ((L' : Int) > C') := by omega
    simp only [Sem.run_bind, Instr.makeSlice, run_underlying ht, Result.andThen_ok, e1, e2, asInt, asIntOf, Sem.run_pure, hti, w1, w2, n1, n2, n3, n4, decide_false, Bool.or_false, Bool.false_eq_true, if_false, run_askRoom, hsz, Sem.run_ite, Int.toNat_natCast]
    by_cases hn0 : C' * (C.ty e).size = 0
    ·have hc0 : us = #[] := Array.eq_empty_of_size_eq_zero (by omega)
     subst hc0
     simp [hn0, newRow, Array.range_zero']
    ·simp [hn0, hz, hus, newRow]
   ·cases h
  ·cases h
 ·cases h
theorem AZ (hty : TysOk P C.ty) (hcall : iD P callf) {ro : Option Nat} {Q : Exit → Act → World → Prop} {K : Act → World → Prop} (hs : Sim (C.locs f) σ μ β a w) (hop : OpsOk a.tmps.size ops)
  (hkept : ∀ k, h.res.lookup i = some k → μ (base + k) = none ∧ base + k < σ.heap.length)
  (hst : fD C callf f ops h base i σ = some σ') (hk : ∀ a' w', LeadsB (fun id => σ.heap.length ≤ id ∨ ∃ k, h.res.lookup i = some k ∧ id = base + k) (C.locs f) σ μ β a w σ' a' w' → K a' w') : wpOpIn (rf ro) 0 P ops Q i K a w := by
 unfold fD at hst
 split at hst
 ·rename_i k hk1
  split at hst
  ·rename_i o hi
   have hmem : o ∈ ops.toList := by simpa using Array.mem_of_getElem? hi
   obtain ⟨ho, hd⟩ := hop o hmem
   unfold wpOpIn
   simp only [hi]
   split at hst
   ·rename_i hw
    rw [gu hs (fun o ho => (hop o ho).2) hw]
    simp only [if_true]
    split at hst
    ·cases hst
    ·split at hst
     ·rename_i ob mk hn
      cases hst
      obtain ⟨q1, q2⟩ := hkept k hk1
      refine Eh hty hs o ho hd hn q1 q2 ro _ _ fun a' w' hl => hk a' w' ?_
      obtain ⟨μ', β', k1, k2, k3, k4, k5, k6⟩ := hl
      exact ⟨μ', β', k1, k2, k3, k4, k5, k6.1, k6.2.1, fun id m hm => (k6.2.2 id m hm).imp (fun x => x) fun e => .inr ⟨k, hk1, e⟩⟩
     ·cases hst
   ·rename_i hw
    cases hst
    rw [gu hs (fun o ho => (hop o ho).2) hw]
    simp only [Bool.false_eq_true, if_false]
    refine ⟨fun _ _ => trivial, hk _ _ ?_⟩
    obtain ⟨μ', β', k1, k2, k3, k4, k5, k6⟩ := Leads.put hs hd (r := .val (.tup [])) (u := undef) MW trivial
    exact ⟨μ', β', k1, k2, k3, k4, k5, k6.1, k6.2.1, fun id m hm => (k6.2.2 id m hm).imp (fun x => x) .inl⟩
   ·cases hst
  ·cases hst
 ·rename_i hk1
  split at hst
  ·rename_i σ1 h1
   split at hst
   ·cases hst
    obtain ⟨o, hi, _, h2, _⟩ := dF h1
    refine sS hty hcall (hs.hide (l := jc h i) (base := base)) hop hi h2 fun a' w' hl => hk a' w' ?_
    obtain ⟨μ', β', k1, k2, k3, k4, k5, k6⟩ := Leads.back hs hl
    exact ⟨μ', β', k1, k2, k3, k4, k5, k6.1, k6.2.1, fun id m hm => (k6.2.2 id m hm).imp (fun x => x) .inl⟩
   ·cases hst
  ·cases hst
end
section
variable {P : Program} {C : Ctx} {callf : bU} {f : Nat} {σ τ σ' : St} {ops : Array Oper} {h : Hint} {base i : Nat} {o : Oper} {μ : Mu} {β : List Nat} {a : Act} {w : World}
def jd (C : Ctx) (f : Nat) (ops : Array Oper) (h : Hint) (i : Nat) (o : Oper) : Foot :=
 match h.res.lookup i with
 | some _ => ⟨o.looksAt ops, o.dst.toList, false, false, false⟩
 | none => aX C f ops h i o
structure MovesR (h : Hint) (base i : Nat) (F : Foot) (σ σ' τ τ' : St) : Prop where
 w : ∀ t ∈ F.W, τ'.regs t = σ'.regs t
 k : ∀ t, t ∉ F.W → τ'.regs t = τ.regs t
 cnt : τ'.cnt = if F.rc = true then σ'.cnt else τ.cnt
 len : σ.heap.length ≤ σ'.heap.length
 keep : h.calm.contains i = true → h.res.lookup i = none → iT h (base + h.res.length) σ.heap σ'.heap
 heap : (∃ k fo, h.res.lookup i = some k ∧ σ'.heap = (match fo with | some ob => σ.heap.set (base + k) ob | none => σ.heap) ∧ τ'.heap = (match fo with | some ob => τ.heap.set (base + k) ob | none => τ.heap)) ∨
  (h.res.lookup i = none ∧ F.wh = true ∧ ∃ X, σ'.heap = fK (jc h i) base σ.heap X ∧ τ'.heap = fK (jc h i) base τ.heap X) ∨
  (h.res.lookup i = none ∧ F.wh = false ∧ σ'.heap = σ.heap ∧ τ'.heap = τ.heap)
theorem DT {op : Op} (hA : Same op.operands.toList σ τ) : o9 C σ op = o9 C τ op := by
 unfold o9
 split <;> try rfl
 all_goals simp only [Same, Op.operands, Call.operands] at hA
 ·rename_i t x
  rw [(hA x (by simp)).2]
 ·rename_i t n parts
  rw [jV (σ := σ) (τ := τ) fun y hy => (hA y.2 (by simp at hy ⊢; exact ⟨y.1, hy⟩)).2]
 ·rename_i t l c
  rw [(hA l (by simp)).2, (hA c (by simp)).2]
theorem kU (ho : ops[i]? = some o) (hA : ∀ t ∈ (jd C f ops h i o).U, σ.regs t = τ.regs t) (hcnt : (jd C f ops h i o).rc = true → σ.cnt = τ.cnt)
  (hheap : h.res.lookup i = none → (jd C f ops h i o).rh = true → dP (jc h i) base σ.heap = dP (jc h i) base τ.heap ∨ (h.old.contains i = true ∧ (jd C f ops h i o).wh = false ∧ iT h (base + h.res.length) σ.heap τ.heap))
  (hR : ∀ x ∈ o.op.operands.toList, ∀ t c off, iU σ x = some (.ref t c off) → t ∈ C.locs f)
  (hlen : σ.heap.length ≤ τ.heap.length ∨ dP (jc h i) base σ.heap = dP (jc h i) base τ.heap ∨ (jd C f ops h i o).rh = false ∨ (jd C f ops h i o).wh = false)
  (hstep : fD C callf f ops h base i σ = some σ') : ∃ τ', fD C callf f ops h base i τ = some τ' ∧ MovesR h base i (jd C f ops h i o) σ σ' τ τ' := by
 unfold fD at hstep ⊢
 unfold jd at hA hcnt hheap hlen ⊢
 cases hr : h.res.lookup i with
 | some k =>
  simp only [hr, ho] at hstep hA hcnt hheap hlen ⊢
  have hS : Same o.op.operands.toList σ τ := qj (fun t ht => ht) hA
  rw [← qN (F := ⟨o.looksAt ops, o.dst.toList, false, false, false⟩) (fun t ht => ht) hA]
  have put_k : ∀ (x : R) (H : List Ob) (t : Nat), t ∉ o.dst.toList → (({ τ with heap := H } : St).put o.dst x).regs t = τ.regs t := fun x H t ht => by
   rw [bu]; simp only [ht, if_false]
  split at hstep
  ·rename_i hw
   split at hstep
   ·cases hstep
   ·rename_i hloc
    rw [← DT hS]
    split at hstep
    ·rename_i ob mk hn
     cases hstep
     try simp only [hw, hloc, if_false, hn]
     refine ⟨_, rfl, fun t ht => ?_, fun t ht => put_k _ _ t ht, by rw [iW]; rfl, by rw [dC]; simp, fun _ hc => (by rw [hr] at hc; cases hc), .inl ⟨k, some ob, hr, by rw [dC], by rw [dC]⟩⟩
     rw [bu, bu]
     simp only [show t ∈ o.dst.toList from ht, if_true]
    ·cases hstep
  ·rename_i hw
   cases hstep
   try simp only [hw]
   refine ⟨_, rfl, fun t ht => ?_, fun t ht => put_k _ τ.heap t ht, by rw [iW]; rfl, by rw [dC]; exact Nat.le_refl _, fun _ hc => (by rw [hr] at hc; cases hc), .inl ⟨k, none, hr, by rw [dC], by rw [dC]⟩⟩
   rw [bu, bu]
   simp only [show t ∈ o.dst.toList from ht, if_true]
  ·cases hstep
 | none =>
  simp only [hr] at hstep hA hcnt hheap hlen ⊢
  split at hstep
  ·rename_i σ1 h1
   split at hstep
   ·rename_i hle
    cases hstep
    generalize hF : aX C f ops h i o = F at *
    obtain ⟨ρ, r1, r2⟩ := jL (σ := { σ with heap := dP (jc h i) base σ.heap }) (τ := { σ with heap := dP (jc h i) base σ.heap }) ho (fun _ _ => rfl) (fun _ => rfl) (fun _ => .inl rfl) hR h1
    rw [h1] at r1; cases r1
    obtain ⟨τ1, t1, t2⟩ := jL (σ := { σ with heap := dP (jc h i) base σ.heap }) (τ := { τ with heap := dP (jc h i) base τ.heap }) ho (fun t ht => hA t (by rw [hF] at ht; exact ht)) (fun hc => hcnt (by rw [hF] at hc; exact hc))
     (fun hc => by
      rw [hF] at hc ⊢
      rcases hheap trivial hc with e | ⟨e1, e2, e3⟩
      ·exact .inl e
      ·exact .inr ⟨e1, e2, Aw e3⟩) hR h1
    rw [hF] at t2 r2
    have hkp : h.calm.contains i = true → iT h (base + h.res.length) σ.heap (fK (jc h i) base σ.heap σ1.heap) := fun hc => by
     obtain ⟨_, _, _, _, hcalm⟩ := dF h1
     exact Cm (hcalm hc)
    have hlt : τ.heap.length ≤ τ1.heap.length := by
     have x1 := t2.heap
     by_cases hwh : F.wh = true
     ·rw [if_pos hwh] at x1
      rw [x1]
      have wr : F.rh = true := by rw [← hF] at hwh ⊢; exact jK C f ops h i o hwh
      rcases hheap trivial wr with e | ⟨_, e2, _⟩
      ·have := congrArg List.length e
       rw [kD, kD] at this
       omega
      ·rw [hwh] at e2; cases e2
     ·rw [if_neg hwh] at x1
      rw [x1]; simp only [kD]; exact Nat.le_refl _
    simp only [t1, if_pos hlt]
    refine ⟨_, rfl, t2.w, t2.k, t2.cnt, by simpa only [oD] using hle, fun hc _ => hkp hc, .inr ?_⟩
    by_cases hwh : F.wh = true
    ·have x1 := t2.heap
     rw [if_pos hwh] at x1
     exact .inl ⟨hr, hwh, σ1.heap, rfl, by simp only [x1]⟩
    ·have x1 := t2.heap
     have x2 := r2.heap
     rw [if_neg hwh] at x1 x2
     refine .inr ⟨hr, by simpa using hwh, ?_, ?_⟩
     ·simp only [x2, vT]
     ·simp only [x1, vT]
   ·cases hstep
  ·cases hstep
def mG (C : Ctx) (f : Nat) (ops : Array Oper) (h : Hint) (i j : Nat) (oi oj : Oper) : Bool :=
 let F := jd C f ops h i oi
 let G := jd C f ops h j oj
 match h.res.lookup i, h.res.lookup j with
 | none, none => kP h i j F G
 | some k, none => F.W.all (fun t => !G.U.contains t && !G.W.contains t) && G.W.all (fun t => !F.U.contains t) && (!G.rh || (jc h j).contains k)
 | none, some k => F.W.all (fun t => !G.U.contains t && !G.W.contains t) && G.W.all (fun t => !F.U.contains t) && (!F.rh || (jc h i).contains k)
 | some k, some k' => F.W.all (fun t => !G.U.contains t && !G.W.contains t) && G.W.all (fun t => !F.U.contains t) && k != k'
theorem pO {n : Nat} (ho : ops[i]? = some o) (hop : nC n o.op) (hI : Refs (C.locs f) n σ) (hst : fD C callf f ops h base i σ = some σ') : Refs (C.locs f) n σ' := by
 unfold fD at hst
 split at hst
 ·rename_i k hk
  simp only [ho] at hst
  split at hst
  ·split at hst
   ·cases hst
   ·split at hst
    ·rename_i ob mk hn
     cases hst
     exact Refs.val (σ := { regs := σ.regs, cnt := σ.cnt, heap := σ.heap.set (base + k) ob }) hI
    ·cases hst
  ·cases hst; exact Refs.val hI
  ·cases hst
 ·split at hst
  ·rename_i σ1 h1
   split at hst
   ·cases hst
    obtain ⟨o', ho', _, h2, _⟩ := dF h1
    rw [ho] at ho'; cases ho'
    have := mi (σ := { σ with heap := dP (jc h i) base σ.heap }) hop hI h2
    exact this
   ·cases hst
  ·cases hst
theorem I7 {n : Nat} {j : Nat} {oi oj : Oper} {σ1 σ2 : St} (hi : ops[i]? = some oi) (hj : ops[j]? = some oj) (hoi : nC n oi.op) (hoj : nC n oj.op) (hI : Refs (C.locs f) n σ)
  (hsl : ∀ i k, h.res.lookup i = some k → base + k < σ.heap.length)
  (hap : mG C f ops h i j oi oj = true) (h1 : fD C callf f ops h base i σ = some σ1) (h2 : fD C callf f ops h base j σ1 = some σ2) :
  ∃ τ1, fD C callf f ops h base j σ = some τ1 ∧ fD C callf f ops h base i τ1 = some σ2 := by
 generalize hF : jd C f ops h i oi = F at hap
 generalize hG : jd C f ops h j oj = G at hap
 have rf : ∀ {ρ : St} {op : Op}, Refs (C.locs f) n ρ → nC n op → ∀ x ∈ op.operands.toList, ∀ t c off, iU ρ x = some (.ref t c off) → t ∈ C.locs f := fun hr ho x hx t c off he => hr.evd (ho x (by simpa using hx)) he
 have frame : ∀ {k : Nat} {ok : Oper} {ρ ρ1 : St}, ops[k]? = some ok → nC n ok.op → Refs (C.locs f) n ρ → fD C callf f ops h base k ρ = some ρ1 → MovesR h base k (jd C f ops h k ok) ρ ρ1 ρ ρ1 := fun hk hok hr hs => by
  obtain ⟨ρ', k1, k2⟩ := kU hk (fun _ _ => rfl) (fun _ => rfl) (fun _ _ => .inl rfl) (rf hr hok) (.inl (Nat.le_refl _)) hs
  rw [hs] at k1; cases k1; exact k2
 have hI1 : Refs (C.locs f) n σ1 := pO hi hoi hI h1
 have m1 := frame hi hoi hI h1
 have m2 := frame hj hoj hI1 h2
 rw [hF] at m1
 rw [hG] at m2
 have wrF : F.wh = true → F.rh = true := by
  rw [← hF]; unfold jd; split
  ·intro hc; cases hc
  ·exact jK C f ops h i oi
 have wrG : G.wh = true → G.rh = true := by
  rw [← hG]; unfold jd; split
  ·intro hc; cases hc
  ·exact jK C f ops h j oj
 have rcF : ∀ k, h.res.lookup i = some k → F.rc = false := fun k hk => by rw [← hF]; unfold jd; rw [hk]
 have rcG : ∀ k, h.res.lookup j = some k → G.rc = false := fun k hk => by rw [← hG]; unfold jd; rw [hk]
 have hreg : (∀ t ∈ F.W, t ∉ G.U ∧ t ∉ G.W) ∧ (∀ t ∈ G.W, t ∉ F.U) ∧ (F.rc = true → G.rc = false) := by
  simp only [mG, hF, hG] at hap
  split at hap
  ·simp only [kP, Bool.and_eq_true, List.all_eq_true, Bool.not_eq_true', List.contains_eq_mem, decide_eq_false_iff_not, Bool.and_eq_false_imp] at hap
   exact ⟨hap.1.1.1.1, hap.1.1.1.2, hap.1.1.2⟩
  ·rename_i k hk _
   simp only [Bool.and_eq_true, List.all_eq_true, Bool.not_eq_true', List.contains_eq_mem, decide_eq_false_iff_not] at hap
   exact ⟨hap.1.1, hap.1.2, fun hc => by rw [rcF k hk] at hc; cases hc⟩
  ·rename_i k _ hk
   simp only [Bool.and_eq_true, List.all_eq_true, Bool.not_eq_true', List.contains_eq_mem, decide_eq_false_iff_not] at hap
   exact ⟨hap.1.1, hap.1.2, fun _ => rcG k hk⟩
  ·rename_i k k' hk hk'
   simp only [Bool.and_eq_true, List.all_eq_true, Bool.not_eq_true', List.contains_eq_mem, decide_eq_false_iff_not] at hap
   exact ⟨hap.1.1, hap.1.2, fun _ => rcG k' hk'⟩
 obtain ⟨a1, a2, a3⟩ := hreg
 have hj1 : ∃ τ1, fD C callf f ops h base j σ = some τ1 ∧ MovesR h base j G σ1 σ2 σ τ1 := by
  have := kU (σ := σ1) (τ := σ) hj (fun t ht => m1.k t fun hw => by rw [hG] at ht; exact (a1 t hw).1 ht)
   (fun hc => by
     rw [hG] at hc
     have := m1.cnt
     by_cases hr : F.rc = true
     ·rw [a3 hr] at hc; cases hc
     ·rw [if_neg hr] at this; exact this)
   (fun hres hc => by
    rw [hG] at hc ⊢
    simp only [mG, hF, hG, hres] at hap
    rcases m1.heap with ⟨k, fo, g1, g2, _⟩ | ⟨g1, g2, _⟩ | ⟨g1, g2, g3, _⟩
    ·simp only [g1, Bool.and_eq_true, Bool.or_eq_true, Bool.not_eq_true', hc, Bool.true_eq_false, false_or] at hap
     have e := hap.2
     left
     rw [g2]
     cases fo with
     | none => rfl
     | some ob => exact xQ e
    ·simp only [g1, kP, Bool.and_eq_true, Bool.not_eq_true', Bool.and_eq_false_imp] at hap
     have := hap.1.2 g2
     rw [hc] at this; cases this
    ·left; rw [g3]) (rf hI1 hoj)
   (by
    rw [hG]
    by_cases hres : h.res.lookup j = none
    ·simp only [mG, hF, hG, hres] at hap
     rcases m1.heap with ⟨k, fo, g1, g2, _⟩ | ⟨g1, g2, _⟩ | ⟨g1, g2, g3, _⟩
     ·left; rw [g2]; cases fo <;> simp
     ·simp only [g1, kP, Bool.and_eq_true, Bool.not_eq_true', Bool.and_eq_false_imp] at hap
      exact .inr (.inr (.inl (hap.1.2 g2)))
     ·left; rw [g3]; exact Nat.le_refl _
    ·right; right; left
     rw [← hG]; unfold jd
     cases hq : h.res.lookup j with
     | none => exact absurd hq hres
     | some k => rfl) h2
  rwa [hG] at this
 obtain ⟨τ1, t1, t2⟩ := hj1
 have mt := frame hj hoj hI t1
 rw [hG] at mt
 have hIτ : Refs (C.locs f) n τ1 := pO hj hoj hI t1
 have hi1 : ∃ σ2', fD C callf f ops h base i τ1 = some σ2' ∧ MovesR h base i F σ σ1 τ1 σ2' := by
  have := kU (σ := σ) (τ := τ1) hi (fun t ht => (mt.k t fun hw => by rw [hF] at ht; exact a2 t hw ht).symm)
   (fun hc => by rw [hF] at hc; have := mt.cnt; rw [if_neg (by rw [a3 hc]; decide)] at this; exact this.symm)
   (fun hres hc => by
    rw [hF] at hc ⊢
    simp only [mG, hF, hG, hres] at hap
    rcases mt.heap with ⟨k, fo, g1, g2, _⟩ | ⟨g1, g2, _⟩ | ⟨g1, g2, g3, _⟩
    ·simp only [g1, Bool.and_eq_true, Bool.or_eq_true, Bool.not_eq_true', hc, Bool.true_eq_false, false_or] at hap
     have e := hap.2
     left
     rw [g2]
     cases fo with
     | none => rfl
     | some ob => exact (xQ e).symm
    ·simp only [g1, kP, Bool.and_eq_true, Bool.or_eq_true, Bool.not_eq_true', g2, hc, Bool.true_and, Bool.true_eq_false, Bool.and_self, false_or] at hap
     exact .inr ⟨hap.2.1.1, hap.2.2, mt.keep hap.2.1.2 g1⟩
    ·left; rw [g3]) (rf hI hoi) (.inl mt.len) h1
  rwa [hF] at this
 obtain ⟨σ2', u1, u2⟩ := hi1
 refine ⟨τ1, t1, ?_⟩
 rw [u1]
 congr 1
 have er : σ2'.regs = σ2.regs := by
  funext t
  by_cases hw : t ∈ F.W
  ·rw [u2.w t hw, m2.k t (a1 t hw).2]
  ·rw [u2.k t hw]
   by_cases hg : t ∈ G.W
   ·rw [t2.w t hg]
   ·rw [t2.k t hg, m2.k t hg, m1.k t hw]
 have ec : σ2'.cnt = σ2.cnt := by
  have x1 := u2.cnt; have x2 := t2.cnt; have x3 := m2.cnt; have x4 := m1.cnt
  by_cases hr : F.rc = true
  ·rw [if_pos hr] at x1; rw [if_neg (by rw [a3 hr]; decide)] at x3; rw [x1, x3]
  ·rw [if_neg hr] at x1 x4
   rw [x1]
   by_cases hg : G.rc = true
   ·rw [if_pos hg] at x2; exact x2
   ·rw [if_neg hg] at x2 x3; rw [x2, x3, x4]
 have eh : σ2'.heap = σ2.heap := by
  simp only [mG, hF, hG] at hap
  rcases u2.heap with ⟨k, fo, p1, p2, p3⟩ | ⟨p1, p2, X, p3, p4⟩ | ⟨p1, p2, p3, p4⟩ <;> rcases t2.heap with ⟨k', fo', q1, q2, q3⟩ | ⟨q1, q2, Y, q3, q4⟩ | ⟨q1, q2, q3, q4⟩
  ·simp only [p1, q1, Bool.and_eq_true, bne_iff_ne, ne_eq] at hap
   have hne : base + k ≠ base + k' := fun e => hap.2 (by omega)
   rw [p3, q3, q2, p2]
   cases fo <;> cases fo' <;> simp only []
   rw [List.set_comm _ _ hne]
  ·simp only [p1, q1, Bool.and_eq_true, Bool.or_eq_true, Bool.not_eq_true', wrG q2, Bool.true_eq_false, false_or] at hap
   rw [p3, q4, q3, p2]
   cases fo with
   | none => rfl
   | some ob => exact yP hap.2 (hsl i k p1)
  ·rw [p3, q4, q3, p2]
  ·simp only [p1, q1, Bool.and_eq_true, Bool.or_eq_true, Bool.not_eq_true', wrF p2, Bool.true_eq_false, false_or] at hap
   rw [p4, q3, q2, p3]
   cases fo' with
   | none => rfl
   | some ob => exact (yP hap.2 (hsl j k' q1)).symm
  ·simp only [p1, q1, kP, Bool.and_eq_true, Bool.not_eq_true', Bool.and_eq_false_imp] at hap
   have := hap.1.2 p2
   rw [wrG q2] at this; cases this
  ·rw [p4, q4, q3, p3]
  ·rw [p4, q3, q2, p3]
  ·rw [p4, q4, q3, p3]
  ·rw [p4, q4, q3, p3]
 cases σ2'; cases σ2; simp only at er ec eh; subst er ec eh; rfl
theorem Je {n : Nat} {oi : Oper} {β : List Nat} (hi : ops[i]? = some oi) (hops : OpsOk n ops) :
  ∀ {α : List Nat} {σ σ' : St}, Refs (C.locs f) n σ → (∀ i k, h.res.lookup i = some k → base + k < σ.heap.length) → (∀ a ∈ α, ∀ oa, ops[a]? = some oa → mG C f ops h a i oa oi = true) →
   lF C callf f ops h base (α ++ i :: β) σ = some σ' → ∃ σ1, fD C callf f ops h base i σ = some σ1 ∧ lF C callf f ops h base (α ++ β) σ1 = some σ'
 | [], σ, σ', hI, _, _, hr => by
  simp only [List.nil_append, lF] at hr ⊢
  split at hr
  ·rename_i σ1 h1; exact ⟨σ1, h1, hr⟩
  ·cases hr
 | a :: α, σ, σ', hI, hsl, hap, hr => by
  simp only [List.cons_append, lF] at hr ⊢
  split at hr
  ·rename_i σa ha
   have hoa : ∃ oa, ops[a]? = some oa := by
    unfold fD at ha
    split at ha
    ·split at ha
     ·rename_i o ho; exact ⟨o, ho⟩
     ·cases ha
    ·split at ha
     ·rename_i s hs
      obtain ⟨o, ho, _⟩ := dF hs
      exact ⟨o, ho⟩
     ·cases ha
   obtain ⟨oa, hoa⟩ := hoa
   have mem : ∀ {k : Nat} {o : Oper}, ops[k]? = some o → nC n o.op := fun hk => (hops _ (by simpa using Array.mem_of_getElem? hk)).1
   have hlen : σ.heap.length ≤ σa.heap.length := by
    obtain ⟨ρ', k1, k2⟩ := kU (τ := σ) hoa (fun _ _ => rfl) (fun _ => rfl) (fun _ _ => .inl rfl) (fun x hx t c off he => hI.evd (mem hoa x (by simpa using hx)) he) (.inl (Nat.le_refl _)) ha
    exact k2.len
   obtain ⟨σ1, k1, k2⟩ := Je hi hops (pO hoa (mem hoa) hI ha) (fun i k hk => Nat.lt_of_lt_of_le (hsl i k hk) hlen) (fun b hb => hap b (List.mem_cons_of_mem _ hb)) hr
   obtain ⟨τ1, t1, t2⟩ := I7 hoa hi (mem hoa) (mem hi) hI hsl (hap a (by simp) oa hoa) ha k1
   exact ⟨τ1, t1, by rw [t2]; exact k2⟩
  ·cases hr
def IP (C : Ctx) (f : Nat) (ops : Array Oper) (h : Hint) (a i : Nat) : Prop := ∀ oa oi, ops[a]? = some oa → ops[i]? = some oi → mG C f ops h a i oa oi = true
theorem Eb (hty : TysOk P C.ty) (hcall : iD P callf) {ro : Option Nat} {Q : Exit → Act → World → Prop}
  (hslot : ∀ i j k, h.res.lookup i = some k → h.res.lookup j = some k → i = j)
  (hedge : ∀ (i : Nat) (o : Oper), ops[i]? = some o → ∀ e ∈ o.after, Region.binds .any e = true → e.on < ops.size ∧ e.on ≠ i) :
  ∀ (fuel : Nat) {rest : List Nat} {listed : Array Bool} {σ : St} {μ : Mu} {β : List Nat} {a : Act} {w : World}, rest.length = fuel → Sim (C.locs f) σ μ β a w → OpsOk a.tmps.size ops → base ≤ σ.heap.length →
   (∀ i k, h.res.lookup i = some k → base + k < σ.heap.length) → (∀ i ∈ rest, ∀ k, h.res.lookup i = some k → μ (base + k) = none) →
   rest.Pairwise (fun a i => Jm ops a i ∧ (Behind ops a i ∨ IP C f ops h a i)) → rest.Nodup → (∀ j, j ∈ rest ↔ listed[j]? = some false) → listed.size = ops.size →
   (∀ (j : Nat) (o : Oper), ops[j]? = some o → listed[j]? = some true → ∀ e ∈ o.after, Region.binds .any e = true → listed[e.on]? = some true) →
   lF C callf f ops h base rest σ = some σ' → (∀ a' w', LeadsB (fun id => base ≤ id) (C.locs f) σ μ β a w σ' a' w' → Q .normal a' w') → wpAnyIn (rf ro) 0 P .any ops Q fuel listed a w := by
 have getT : ∀ {l : Array Bool} {j : Nat}, l.getD j true = false ↔ l[j]? = some false := fun {l j} => by
  rw [Array.getD_eq_getD_getElem?]; cases l[j]? with
  | none => simp
  | some b => simp
 have getF : ∀ {l : Array Bool} {j : Nat}, l.getD j false = true ↔ l[j]? = some true := fun {l j} => by
  rw [Array.getD_eq_getD_getElem?]; cases l[j]? with
  | none => simp
  | some b => simp
 intro fuel
 induction fuel with
 | zero =>
  intro rest listed σ μ β a w hl hs hop hb hsl hke hp hn hr hz hcl hrun hq
  cases List.length_eq_zero_iff.1 hl
  simp only [lF, Option.some.injEq] at hrun
  subst hrun
  refine ⟨?_, hq a w (.refl hs)⟩
  refine List.eq_nil_iff_forall_not_mem.2 fun j hj => ?_
  have := (mem_ready.1 hj).1
  exact absurd ((hr j).2 (getT.1 this)) (by simp)
 | succ fuel ih =>
  intro rest listed σ μ β a w hl hs hop hb hsl hke hp hn hr hz hcl hrun hq
  refine ⟨fun hempty => ?_, fun i hi => ?_⟩
  ·cases rest with
   | nil => cases hl
   | cons x xs =>
    exfalso
    have hx := (hr x).1 (by simp)
    have hxs : x < ops.size := hz ▸ (Array.getElem?_eq_some_iff.1 hx).1
    have : x ∈ Region.ready .any ops listed := by
     refine mem_ready.2 ⟨getT.2 hx, ops[x], by simp [hxs], fun e he hb => getF.2 ?_⟩
     obtain ⟨h1, h2⟩ := hedge x _ (by simp [hxs]) e he hb
     cases hv : listed[e.on]? with
     | none => rw [Array.getElem?_eq_none_iff] at hv; omega
     | some b =>
      cases b with
      | true => rfl
      | false =>
       have hm := (hr e.on).2 hv
       simp only [List.mem_cons, h2, false_or] at hm
       exact absurd rfl ((List.pairwise_cons.1 hp).1 e.on hm |>.1 _ (by simp [hxs]) e he hb)
    rw [hempty] at this
    cases this
  ·obtain ⟨h1, oi, hoi, hpre⟩ := mem_ready.1 hi
   have hir := (hr i).2 (getT.1 h1)
   obtain ⟨α, γ, rfl⟩ := List.append_of_mem hir
   have hni : i ∉ α ∧ i ∉ γ := by
    rw [List.nodup_append] at hn
    simp only [List.nodup_cons, List.mem_cons] at hn
    exact ⟨fun hm => hn.2.2 i hm i (.inl rfl) rfl, hn.2.1.1⟩
   obtain ⟨hpα, hpγ, hpx⟩ := List.pairwise_append.1 hp
   have hfr := Je hoi hop (base := base) (callf := callf) (β := γ) (α := α) hs.refs hsl (fun x hx ox hox => by
    rcases (hpx x hx i (by simp)).2 with hb | hb
    ·exfalso
     have := hb (fun j => listed[j]? = some true ∨ j = i) (fun j oj hoj hj e he hbd => by
      rcases hj with hj | rfl
      ·exact .inl (hcl j oj hoj hj e he hbd)
      ·rw [hoi] at hoj; cases hoj
       exact .inl (getF.1 (hpre e he hbd))) (.inr rfl)
     have hxu := (hr x).1 (List.mem_append_left _ hx)
     rcases this with h3 | rfl
     ·rw [hxu] at h3; cases h3
     ·exact hni.1 hx
    ·exact hb ox oi hox hoi) hrun
   obtain ⟨σ1, k1, k2⟩ := hfr
   refine AZ hty hcall hs hop (fun k hk => ⟨hke i (by simp) k hk, hsl i k hk⟩) k1 fun a1 w1 hl1 => ?_
   obtain ⟨μ1, β1, g1, g2, g3, g4, g5, g6⟩ := hl1
   have hne : ∀ j, j ≠ i → (listed.setIfInBounds i true)[j]? = listed[j]? := fun j hj => by rw [Array.getElem?_setIfInBounds_ne (Ne.symm hj)]
   have heq : (listed.setIfInBounds i true)[i]? = some true := by
    have hlt : i < listed.size := (Array.getElem?_eq_some_iff.1 (getT.1 h1)).1
    rw [Array.getElem?_setIfInBounds]
    simp [hlt]
   have hlen := g6.2.1
   refine ih (rest := α ++ γ) ?_ g1 (by rw [g4]; exact hop) (Nat.le_trans hb hlen) (fun j k hk => Nat.lt_of_lt_of_le (hsl j k hk) hlen) (fun j hj k hk => ?_) ?_ ?_ ?_ (by simp [hz]) ?_ k2 fun a' w' hl' => hq a' w' ?_
   ·simp only [List.length_append, List.length_cons] at hl ⊢; omega
   ·have hji : j ≠ i := fun e => by
     rw [e] at hj
     rcases List.mem_append.1 hj with hm | hm
     ·exact hni.1 hm
     ·exact hni.2 hm
    cases hm : μ1 (base + k) with
    | none => rfl
    | some m =>
     exfalso
     rcases g6.2.2 _ m hm with e | e | ⟨k', e1, e2⟩
     ·rw [hke j (by rcases List.mem_append.1 hj with hm | hm <;> simp [hm]) k hk] at e; cases e
     ·have := hsl j k hk; omega
     ·have : k = k' := by omega
      subst this
      exact hji (hslot j i k hk e1)
   ·exact List.pairwise_append.2 ⟨hpα, (List.pairwise_cons.1 hpγ).2, fun x hx y hy => hpx x hx y (List.mem_cons_of_mem _ hy)⟩
   ·rw [List.nodup_append] at hn ⊢
    simp only [List.nodup_cons, List.mem_cons] at hn
    exact ⟨hn.1, hn.2.1.2, fun x hx y hy => hn.2.2 x hx y (.inr hy)⟩
   ·intro j
    by_cases hj : j = i
    ·subst hj
     rw [heq]
     simp [hni.1, hni.2]
    ·rw [hne j hj, ← hr j]
     simp [hj]
   ·intro j oj hoj hj e he hb
    have hon : listed[e.on]? = some true := by
     by_cases hji : j = i
     ·subst hji; rw [hoi] at hoj; cases hoj; exact getF.1 (hpre e he hb)
     ·rw [hne j hji] at hj; exact hcl j oj hoj hj e he hb
    by_cases hei : e.on = i
    ·rw [hei]; exact heq
    ·rw [hne _ hei]; exact hon
   ·obtain ⟨μ2, β2, q1, q2, q3, q4, q5, q6⟩ := hl'
    refine ⟨μ2, β2, q1, Mu.le_trans g2 q2, g3.trans q3, q4.trans g4, g5.trans q5, ?_⟩
    have g6' : LivesB (fun id => base ≤ id) σ.heap μ w σ1.heap μ1 := ⟨g6.1, g6.2.1, fun id m hm => (g6.2.2 id m hm).imp (fun x => x) fun e => by
     rcases e with e | ⟨k, _, e⟩ <;> omega⟩
    exact g6'.trans q6 (fun _ e => e) g5.size
def EP (C : Ctx) (f : Nat) (ops : Array Oper) (h : Hint) (ms : List Nat) (a i : Nat) : Bool :=
 match ops[a]?, ops[i]? with
 | some oa, some oi => !y8 oa i && ((ms.getD i 0).testBit a || mG C f ops h a i oa oi)
 | _, _ => true
def Ap (C : Ctx) (f : Nat) (ops : Array Oper) (h : Hint) : Bool :=
 h.ord.length == ops.size && h.ord.all (fun i => decide (i < ops.size)) && (List.range ops.size).all (fun i => h.ord.contains i) && jE (fun a b => a != b) h.ord &&
  ops.toList.zipIdx.all (fun x => x.1.after.all fun e => !Region.binds .any e || (decide (e.on < ops.size) && e.on != x.2)) && jE (EP C f ops h (um ops.toList [])) h.ord &&
  h.res.all (fun x => decide (x.2 < h.res.length)) && jE (fun a b => a != b) (h.res.map (·.2))
theorem kY {α : Type} : ∀ {l : List (Nat × α)} {i : Nat} {k : α}, l.lookup i = some k → (i, k) ∈ l
 | (j, x) :: l, i, k, hl => by
  rw [List.lookup_cons] at hl
  split at hl
  ·rename_i e; cases hl; simp only [beq_iff_eq] at e; simp [e]
  ·exact List.mem_cons_of_mem _ (kY hl)
theorem xy (hty : TysOk P C.ty) (hcall : iD P callf) {ro : Option Nat} {Q : Exit → Act → World → Prop} (hd : Ap C f ops h = true) (hs : Sim (C.locs f) σ μ β a w) (hop : OpsOk a.tmps.size ops)
  (hrun : lF C callf f ops h σ.heap.length h.ord { σ with heap := σ.heap ++ List.replicate h.res.length .dead } = some σ') (hq : ∀ a' w', Leads (C.locs f) σ μ β a w σ' a' w' → Q .normal a' w') : wpAnyIn (rf ro) 0 P .any ops Q ops.size (Array.replicate ops.size false) a w := by
 simp only [Ap, Bool.and_eq_true, beq_iff_eq] at hd
 obtain ⟨⟨⟨⟨⟨⟨⟨d1, d0⟩, d2⟩, d3⟩, d4⟩, d5⟩, d7⟩, d8⟩ := hd
 have hnd : h.ord.Nodup := (fM d3).imp fun hne => by simpa using hne
 have hmem : ∀ j, j ∈ h.ord ↔ j < ops.size := fun j =>
  ⟨fun hj => by simpa using List.all_eq_true.1 d0 j hj, fun hj => by simpa using List.all_eq_true.1 d2 j (List.mem_range.2 hj)⟩
 have hsl : ∀ i k, h.res.lookup i = some k → k < h.res.length := fun i k hk => by
  simpa using List.all_eq_true.1 d7 _ (kY hk)
 have key : ∀ (i : Nat) (o : Ob), (σ.heap ++ List.replicate h.res.length .dead)[i]? = some o → live o = true → σ.heap[i]? = some o := by
  intro i o hi hlv
  by_cases hlt : i < σ.heap.length
  ·rw [List.getElem?_append_left hlt] at hi; exact hi
  ·rw [List.getElem?_append_right (by omega), List.getElem?_replicate] at hi
   split at hi
   ·cases hi; cases hlv
   ·cases hi
 have hs' : Sim (C.locs f) { σ with heap := σ.heap ++ List.replicate h.res.length .dead } μ β a w := by
  refine ⟨⟨fun id m hm => ?_, fun id o h1 h2 => hs.heap.map id o (key id o h1 h2) h2, fun id o m h1 h2 => ?_, fun id id' o o' m m' hne h1 h2 h3 h4 h5 h6 => hs.heap.sep id id' o o' m m' hne (key id o h1 (fO h5)) (key id' o' h2 h6) h3 h4 h5 h6, fun id es cells m h1 h2 h3 => hs.heap.plain id es cells m (key id _ h1 rfl) h2 h3⟩,
   hs.lenβ, hs.reg, hs.box, fun id o m b h1 h2 h3 h4 => hs.sepβ id o m b (key id o h1 h3) h2 h3 h4, hs.injβ, hs.ltβ, hs.uniq, hs.loc, hs.defs⟩
  ·have := hs.heap.dom id m hm; simp; omega
  ·cases o with
   | dead => trivial
   | mk own es cells => exact hs.heap.obj id _ m (key id _ h1 rfl) h2
 have hinj : ∀ {l : List (Nat × Nat)}, l.Pairwise (fun a b => (a.2 != b.2) = true) → ∀ x y, x ∈ l → y ∈ l → x.2 = y.2 → x = y := by
  intro l hl
  induction hl with
  | nil => intro x y hx; cases hx
  | cons hx _ ih =>
   intro x y h1 h2 he
   rcases List.mem_cons.1 h1 with e1 | e1 <;> rcases List.mem_cons.1 h2 with e2 | e2
   ·rw [e1, e2]
   ·have := hx y e2; rw [← e1] at this; simp [he] at this
   ·have := hx x e1; rw [← e2] at this; simp [he] at this
   ·exact ih x y e1 e2 he
 refine Eb (base := σ.heap.length) hty hcall (fun i j k h1 h2 => ?_) ?_ ops.size d1 hs' hop (by simp) (fun i k hk => by have := hsl i k hk; simp; omega) (fun i _ k hk => ?_) ?_ hnd ?_ (by simp) ?_ hrun fun a' w' hl => hq a' w' ?_
 ·have := hinj (List.pairwise_map.1 (fM d8)) _ _ (kY h1) (kY h2) rfl
  exact congrArg Prod.fst this
 ·intro i o ho e he hb
  have hx : (o, i) ∈ ops.toList.zipIdx := by
   rw [List.mk_mem_zipIdx_iff_getElem?]
   simpa using ho
  have := List.all_eq_true.1 d4 _ hx
  have := Array.all_eq_true_iff_forall_mem.1 this e he
  simpa [hb] using this
 ·cases e : μ (σ.heap.length + k) with
  | none => rfl
  | some m => have := hs.heap.dom _ m e; omega
 ·refine (fM d5).imp_of_mem fun {x y} hx hy hp => ?_
  have hxs := (hmem x).1 hx
  have hys := (hmem y).1 hy
  unfold EP at hp
  rw [Array.getElem?_eq_getElem hxs, Array.getElem?_eq_getElem hys] at hp
  simp only [Bool.and_eq_true, Bool.not_eq_true', Bool.or_eq_true] at hp
  refine ⟨fun o ho e he hb heq => ?_, hp.2.imp (fun hm S hS hy => ?_) fun hap oa oi hoa hoi => ?_⟩
  ·rw [Array.getElem?_eq_getElem hxs] at ho
   cases ho
   have := hp.1
   unfold y8 at this
   rw [Array.any_eq_false'] at this
   exact absurd (this e he) (by simp [hb, heq])
  ·exact lC hS ops.toList [] rfl (by simp) y x hm hy
  ·rw [Array.getElem?_eq_getElem hxs] at hoa
   rw [Array.getElem?_eq_getElem hys] at hoi
   cases hoa; cases hoi
   exact hap
 ·intro j
  rw [hmem]
  rw [Array.getElem?_replicate]
  by_cases hj : j < ops.size <;> simp [hj]
 ·intro j o ho hj
  simp [Array.getElem?_replicate] at hj
 ·obtain ⟨μ', β', k1, k2, k3, k4, k5, k6⟩ := hl
  refine ⟨μ', β', k1, k2, k3, k4, ⟨k5.size, fun b h1 h2 => k5.same b h1 (fun h3 => h2 ?_), fun b hb => (k5.own b hb).imp (fun h3 => ?_) (fun x => x), k5.os, k5.tape, k5.output, k5.drawn⟩, fun b hb => ?_, ?_, k6.2.2⟩
  ·rcases h3 with ⟨i2, o2, m2, q1, q2, q3, q4⟩ | h3
   ·exact .inl ⟨i2, o2, m2, key i2 o2 q1 (fO q2), q2, q3, q4⟩
   ·exact .inr h3
  ·rcases h3 with ⟨i2, o2, m2, q1, q2, q3, q4⟩ | h3
   ·exact .inl ⟨i2, o2, m2, key i2 o2 q1 (fO q2), q2, q3, q4⟩
   ·exact .inr h3
  ·refine (k6.1 b hb).imp (fun h3 => ?_) (fun x => x)
   obtain ⟨i2, o2, m2, q1, q2, q3, q4⟩ := h3
   exact ⟨i2, o2, m2, key i2 o2 q1 q2, q2, q3, q4⟩
  ·have := k6.2.1; simp at this; omega
theorem mZ {id : Nat} (hc : C.ord f id = some h) (hr : bQ C callf f id ops true σ = some σ') : ∃ X, eQ C callf f ops { h with exc := X } σ = some σ' := by
 unfold bQ at hr
 rw [hc] at hr
 simp only [NT] at hr
 split at hr
 ·rename_i x hx
  cases hr
  exact ⟨h.exc, hx⟩
 ·unfold Kz at hr
  split at hr
  ·rename_i e
   cases hr
   exact ⟨_, e.choose_spec.choose_spec⟩
  ·cases hr
def ut (C : Ctx) (f : Nat) (ops : Array Oper) (h : Hint) : Bool := match h.res with
 | [] => Dh C f ops h
 | _ :: _ => Ap C f ops h
theorem xn {id : Nat} (hty : TysOk P C.ty) (hcall : iD P callf) {ro : Option Nat} {Q : Exit → Act → World → Prop} (hd : ut C f ops (hintOf C f id ops) = true) (hs : Sim (C.locs f) σ μ β a w) (hop : OpsOk a.tmps.size ops)
  (hr : bQ C callf f id ops true σ = some σ') (hq : ∀ a' w', Leads (C.locs f) σ μ β a w σ' a' w' → Q .normal a' w') : wpAnyIn (rf ro) 0 P .any ops Q ops.size (Array.replicate ops.size false) a w := by
 unfold ut at hd
 unfold hintOf at hd
 cases hc : C.ord f id with
 | none =>
  unfold bQ at hr
  rw [hc] at hr hd
  refine qQ (h := gG ops) (base := σ.heap.length) hty hcall hd hs hop ?_ hq
  rw [← hr]
  show kz C callf f ops (gG ops) _ (List.range ops.size) σ = _
  rw [List.range_eq_range', ← Array.length_toList]
  exact Dc 0 ops.toList σ rfl
 | some h =>
  obtain ⟨X, hX⟩ := mZ hc hr
  rw [hc] at hd
  simp only [Option.getD_some] at hd
  cases h with
  | mk ord calm old locs res hid exc =>
  cases res with
  | nil => exact qQ (h := ⟨ord, calm, old, locs, [], hid, X⟩) hty hcall hd hs hop hX hq
  | cons x xs => exact xy (h := ⟨ord, calm, old, locs, x :: xs, hid, X⟩) hty hcall hd hs hop hX hq
end
end Go.Lite
end
