/- A part of the proof of the seat's law: an evaluator of the program's code over symbolic values, its soundness, and the contracts of the functions that the law reaches. -/
import Derived.Test.YtlcjfhilemdfmaaSyP2
import Derived.IntWalk
import Derived.JoinedCond
import Derived.Carry
import Derived.OpenShut
import Derived.ProofKit
set_option linter.all false
set_option linter.unusedVariables false
set_option linter.unusedSimpArgs false
/-! Regions that draw their order. -/
namespace Go.Sy
open Go.RowKit
section
variable {X : Type} {W0 : World} {B N : Nat} {P : Program} {E : Env X} {β0 : List Value} {im0 : Im} {hR : Hp} {r : Option Nat} {n : Nat}
theorem sem_mono {K K' : SV → SH X → Prop} (hk : ∀ v H, K v H → K' v H) : ∀ {o : Out X}, o.sem K → o.sem K'
  | .bad, h => h
  | .ok v H, h => hk v H h
  | .req p o, h => ⟨h.1, sem_mono hk h.2⟩
  | .asm p o, h => fun q => sem_mono hk (h q)
  | .all f, h => fun x => sem_mono hk (h x)
/-- What Rg.ok says. -/
structure RgOk (R : Rg) : Prop where
  dd : ∀ i, i < R.n → ∀ j ∈ R.dd.getD i [], j < i
  anc : ∀ i, i < R.n → ∀ j ∈ R.anc i, j < i ∧ (j ∈ R.dd.getD i [] ∨ ∃ k ∈ R.dd.getD i [], j ∈ R.anc k)
  dst : ∀ i, i < R.n → ∀ j, j < R.n → ∀ d, (R.mo j).d = some d → i = j ∨ (R.mo i).d ≠ some d
  rd : ∀ i, i < R.n → ∀ j, j < R.n → ∀ d, (R.mo j).d = some d → d ∈ (R.mo i).rd → j ∈ R.anc i ∨ ((i = j ∨ i ∈ R.anc j) ∧ (R.eff i = true ∨ R.bl i = true))
theorem Rg.ok_spec {R : Rg} (h : R.ok = true) : RgOk R := by
  unfold Rg.ok at h
  rw [List.all_eq_true] at h
  refine ⟨fun i hi j hj => ?_, fun i hi j hj => ?_, fun i hi j hj d hd => ?_, fun i hi j hj d hd hr => ?_⟩
  all_goals
    have := h i (List.mem_range.2 hi)
    simp only [Bool.and_eq_true, List.all_eq_true, decide_eq_true_eq, Bool.or_eq_true, List.any_eq_true, List.contains_iff_mem] at this
    obtain ⟨⟨h1, h2⟩, h3⟩ := this
  · exact h1 j hj
  · exact h2 j hj
  · have := h3 j (List.mem_range.2 hj)
    rw [hd] at this
    simp at this
    exact this.1
  · have := h3 j (List.mem_range.2 hj)
    rw [hd] at this
    simp at this
    rcases this.2 with (q | q) | q
    · exact absurd hr q
    · exact .inl q
    · exact .inr q
/-- ρ, but with ρ0's values where an operation of S puts its own. -/
def mask (R : Rg) (ρ0 ρ : Fr) (S : Nat → Bool) : Fr := ((List.range R.n).filterMap fun i => if S i then (R.mo i).d.map fun d => (d, lk ρ0 d) else none) ++ ρ
theorem lk_app {ρ0 ρ : Fr} : ∀ (l : Fr), (∀ p ∈ l, p.2 = lk ρ0 p.1) → ∀ t, lk (l ++ ρ) t = if t ∈ l.map (·.1) then lk ρ0 t else lk ρ t
  | [], _, t => by simp
  | (d, v) :: l, h, t => by
    by_cases hd : d = t
    · subst hd
      have := h (d, v) (by simp)
      simp only at this
      rw [List.cons_append, lk_hit, this]; simp
    · rw [List.cons_append, lk_miss (by simpa using hd), lk_app l (fun p hp => h p (by simp [hp])) t]
      simp only [List.map_cons, List.mem_cons]
      have : (t = d ∨ t ∈ l.map (·.1)) ↔ t ∈ l.map (·.1) := ⟨fun q => q.resolve_left fun e => hd e.symm, .inr⟩
      simp only [this]
theorem lk_mask {R : Rg} {ρ0 ρ : Fr} {S : Nat → Bool} {t : Nat} :
    ((∃ i, i < R.n ∧ S i = true ∧ (R.mo i).d = some t) ∧ lk (mask R ρ0 ρ S) t = lk ρ0 t) ∨ ((∀ i, i < R.n → S i = true → (R.mo i).d ≠ some t) ∧ lk (mask R ρ0 ρ S) t = lk ρ t) := by
  have key := lk_app (ρ0 := ρ0) (ρ := ρ) ((List.range R.n).filterMap fun i => if S i then (R.mo i).d.map fun d => (d, lk ρ0 d) else none) (fun p hp => by
    obtain ⟨i, _, hi⟩ := List.mem_filterMap.1 hp
    split at hi
    · obtain ⟨d, _, rfl⟩ := Option.map_eq_some_iff.1 hi; rfl
    · cases hi) t
  by_cases hm : ∃ i, i < R.n ∧ S i = true ∧ (R.mo i).d = some t
  · left
    refine ⟨hm, ?_⟩
    obtain ⟨i, h1, h2, h3⟩ := hm
    rw [mask, key, if_pos]
    exact List.mem_map.2 ⟨(t, lk ρ0 t), List.mem_filterMap.2 ⟨i, List.mem_range.2 h1, by simp [h2, h3]⟩, rfl⟩
  · right
    refine ⟨fun i h1 h2 h3 => hm ⟨i, h1, h2, h3⟩, ?_⟩
    rw [mask, key, if_neg]
    intro hx
    obtain ⟨p, hp, rfl⟩ := List.mem_map.1 hx
    obtain ⟨i, hi, he⟩ := List.mem_filterMap.1 hp
    split at he
    · rename_i hS
      obtain ⟨d, hd, rfl⟩ := Option.map_eq_some_iff.1 he
      exact hm ⟨i, List.mem_range.1 hi, hS, hd⟩
    · cases he
theorem mask_hit {R : Rg} {ρ0 ρ : Fr} {S : Nat → Bool} {t i : Nat} (h1 : i < R.n) (h2 : S i = true) (h3 : (R.mo i).d = some t) : lk (mask R ρ0 ρ S) t = lk ρ0 t := by
  rcases lk_mask (R := R) (ρ0 := ρ0) (ρ := ρ) (S := S) (t := t) with ⟨_, q⟩ | ⟨q, _⟩
  · exact q
  · exact absurd h3 (q i h1 h2)
theorem mask_miss {R : Rg} {ρ0 ρ : Fr} {S : Nat → Bool} {t : Nat} (h : ∀ i, i < R.n → (R.mo i).d = some t → S i = false) : lk (mask R ρ0 ρ S) t = lk ρ t := by
  rcases lk_mask (R := R) (ρ0 := ρ0) (ρ := ρ) (S := S) (t := t) with ⟨⟨i, h1, h2, h3⟩, _⟩ | ⟨_, q⟩
  · rw [h i h1 h3] at h2; cases h2
  · exact q
/-- An operation of a region, as a check at ρ for the value in ρv. -/
def gS (v : SV) (want : Bool) (yes no : Prop) : Prop := match v with
  | .bool b => (b = want → yes) ∧ (b = !want → no)
  | .und => no
  | .un _ => no
  | _ => False
def CKs (E : Env X) (m : MO) (ρ ρv : Fr) (H : SH X) : Prop := match m.g with
  | none => chkK (evI E.Γ ρ H m.i) (lkD ρv m.d) H
  | some (j, want) => gS (lk ρ j) want (chkK (evI E.Γ ρ H m.i) (lkD ρv m.d) H) (∀ d, m.d = some d → lk ρv d = .und)
theorem CKs.congr {m : MO} {ρ ρ' ρv ρv' : Fr} {H : SH X} (h : CKs E m ρ ρv H) (h1 : ∀ t ∈ m.rd, lk ρ t = lk ρ' t) (h2 : ∀ d, m.d = some d → lk ρv d = lk ρv' d) : CKs E m ρ' ρv' H := by
  obtain ⟨md, mg, mi⟩ := m
  have e : evI E.Γ ρ H mi = evI E.Γ ρ' H mi := evI_congr fun t ht => h1 t (by simp [MO.rd, ht])
  have e2 : lkD ρv md = lkD ρv' md := by cases md with
    | none => rfl
    | some d => simp only [lkD]; rw [h2 d rfl]
  cases mg with
  | none => simp only [CKs] at h ⊢; rw [← e, ← e2]; exact h
  | some g =>
    obtain ⟨j, want⟩ := g
    simp only [CKs] at h ⊢
    rw [← e, ← e2, ← h1 j (by simp [MO.rd])]
    generalize lk ρ j = v at h ⊢
    cases v <;> simp only [gS] at h ⊢ <;> try exact h
    · exact ⟨h.1, fun hb d hd => by rw [← h2 d hd]; exact h.2 hb d hd⟩
    · exact fun d hd => by rw [← h2 d hd]; exact h d hd
    · exact fun d hd => by rw [← h2 d hd]; exact h d hd
theorem CKs.blind {m : MO} {ρ ρv : Fr} {H H2 : SH X} (hb : blindI m.i = true) (h : CKs E m ρ ρv H) : CKs E m ρ ρv H2 := by
  have key : ∀ v, chkK (evI E.Γ ρ H m.i) v H → chkK (evI E.Γ ρ H2 m.i) v H2 := by
    intro v hc
    have he : effect m.i = false := by cases hm : m.i <;> rw [hm] at hb <;> simp [blindI] at hb <;> first | rfl | (rename_i k _ _; cases k <;> simp at hb <;> rfl)
    obtain ⟨u, ⟨hu, _⟩, hd⟩ := look (Γ := E.Γ) (ρ := ρ) (H := H) he _ hc
    have := Go.Sy.blind (H2 := H2) hb u hd
    exact sem_mono (fun u' H' q => ⟨fun v' e => by rw [q.1]; exact hu v' e, q.2⟩) this
  unfold CKs at h ⊢
  split at h
  · exact key _ h
  · rename_i j want hg
    generalize lk ρ j = v at h ⊢
    cases v <;> simp only [gS] at h ⊢ <;> try exact h
    exact ⟨fun q => key _ (h.1 q), h.2⟩
end
end Go.Sy

/-! Regions that draw their order: the proof. -/
namespace Go.Sy
open Go.RowKit
section
variable {X : Type} {W0 : World} {B N : Nat} {P : Program} {E : Env X} {β0 : List Value} {im0 : Im} {hR : Hp} {r : Option Nat} {n : Nat}
variable {R : Rg} {ρ0 ρ : Fr} {H : SH X} {Q : Post X}
/-- The values that operation i sees. -/
def view (R : Rg) (ρ0 ρ : Fr) (i : Nat) : Fr := mask R ρ0 ρ fun j => !(R.anc i).contains j
/-- The canonical run has come to (C, ρ). -/
structure Can (R : Rg) (ρ0 : Fr) (C : List Nat) (ρ : Fr) : Prop where
  lt : ∀ i ∈ C, i < R.n
  anc : ∀ i ∈ C, ∀ j ∈ R.anc i, j ∈ C
  old : ∀ t, (∀ i ∈ C, (R.mo i).d ≠ some t) → lk ρ t = lk ρ0 t
/-- What an operation sees when its turn comes. -/
theorem view_now (ok : RgOk R) {C : List Nat} (c : Can R ρ0 C ρ) {i : Nat} (hi : i < R.n) (hC : i ∉ C) {ρ1 : Fr} (h1 : ∀ t, (R.mo i).d ≠ some t → lk ρ1 t = lk ρ t) : ∀ t ∈ (R.mo i).rd, lk ρ t = lk (view R ρ0 ρ1 i) t := by
  intro t ht
  rcases lk_mask (R := R) (ρ0 := ρ0) (ρ := ρ1) (S := fun j => !(R.anc i).contains j) (t := t) with ⟨⟨j, h2, h3, h4⟩, e⟩ | ⟨h2, e⟩
  · unfold view
    rw [e]
    simp at h3
    apply c.old
    intro k hk hd
    have hkl := c.lt k hk
    have : j = k := by
      rcases ok.dst k hkl j h2 t h4 with q | q
      · exact q.symm
      · exact absurd hd q
    subst this
    rcases ok.rd i hi j h2 t h4 ht with q | ⟨q | q, _⟩
    · exact h3 q
    · exact hC (q ▸ hk)
    · exact hC (c.anc j hk i q)
  · unfold view
    rw [e]
    refine (h1 t fun hd => ?_).symm
    have := h2 i hi (by
      simp
      intro q
      exact absurd (ok.anc i hi i q).1 (Nat.lt_irrefl i))
    exact this hd
/-- A check stays while another operation is done. -/
theorem CKs.step (ok : RgOk R) {C : List Nat} (c : Can R ρ0 C ρ) {i j : Nat} (hi : i ∈ C) (hj : j < R.n) (hjC : j ∉ C) {ρ1 : Fr} (h1 : ∀ t, (R.mo j).d ≠ some t → lk ρ1 t = lk ρ t)
    (h : CKs E (R.mo i) (view R ρ0 ρ i) ρ H) : CKs E (R.mo i) (view R ρ0 ρ1 i) ρ1 H := by
  have hil := c.lt i hi
  refine h.congr (fun t ht => ?_) (fun d hd => ?_)
  · rcases lk_mask (R := R) (ρ0 := ρ0) (ρ := ρ) (S := fun j => !(R.anc i).contains j) (t := t) with ⟨⟨k, h2, h3, h4⟩, e⟩ | ⟨h2, e⟩
    · unfold view; rw [e, mask_hit h2 h3 h4]
    · unfold view
      rw [e, mask_miss (fun k hk hd => by
        by_cases q : k ∈ R.anc i
        · simp [q]
        · exact absurd hd (h2 k hk (by simpa using q)))]
      refine (h1 t fun hd => ?_).symm
      by_cases q : j ∈ R.anc i
      · exact hjC (c.anc i hi j q)
      · exact h2 j hj (by simpa using q) hd
  · refine (h1 d fun hd' => ?_).symm
    rcases ok.dst j hj i hil d hd with q | q
    · exact hjC (q ▸ hi)
    · exact q hd'
theorem Can.step {C : List Nat} (c : Can R ρ0 C ρ) {i : Nat} (hi : i < R.n) (ha : ∀ j ∈ R.anc i, j ∈ C) {ρ1 : Fr} (h1 : ∀ t, (R.mo i).d ≠ some t → lk ρ1 t = lk ρ t) : Can R ρ0 (i :: C) ρ1 := by
  refine ⟨fun j hj => ?_, fun j hj k hk => ?_, fun t ht => ?_⟩
  · rcases List.mem_cons.1 hj with rfl | hj
    · exact hi
    · exact c.lt j hj
  · rcases List.mem_cons.1 hj with rfl | hj
    · exact List.mem_cons_of_mem _ (ha k hk)
    · exact List.mem_cons_of_mem _ (c.anc j hj k hk)
  · rw [h1 t (ht i (by simp)), c.old t fun j hj => ht j (by simp [hj])]
theorem setD_other {d : Option Nat} {v : SV} {t : Nat} (h : d ≠ some t) : lk (setD ρ d v) t = lk ρ t := by
  cases d with
  | none => rfl
  | some d => rw [setD_s, lk_miss]; simpa using h
theorem lk_learn {d : Nat} {v : SV} (h : lk ρ d = v) (t : Nat) : lk ((d, v) :: ρ) t = lk ρ t := by
  by_cases hd : d = t
  · subst hd; rw [lk_hit, h]
  · exact lk_miss (by simpa using hd)
/-- The canonical run does what only looks. -/
theorem advance (ok : RgOk R) {C : List Nat} (c : Can R ρ0 C ρ) {i : Nat} (hi : i < R.n) (hC : i ∉ C) (he : R.eff i = false) {t : DT} (h : wpD E (.op false (R.mo i) t) Q ρ H) :
    ∃ ρ1, wpD E t Q ρ1 H ∧ (∀ t, (R.mo i).d ≠ some t → lk ρ1 t = lk ρ t) ∧ CKs E (R.mo i) (view R ρ0 ρ1 i) ρ1 H := by
  have main : ∃ ρ1, wpD E t Q ρ1 H ∧ (∀ t, (R.mo i).d ≠ some t → lk ρ1 t = lk ρ t) ∧ CKs E (R.mo i) ρ ρ1 H := by
    unfold Rg.eff at he
    generalize R.mo i = m at he h ⊢
    obtain ⟨md, mg, mi⟩ := m
    simp only at he
    have val : ∀ {ρ' : Fr} {v : SV}, ((evI E.Γ ρ' H mi).sem fun u H' => u = v ∧ H' = H) → chkK (evI E.Γ ρ' H mi) (lkD (setD ρ' md v) md) H := by
      intro ρ' v hv
      refine sem_mono (fun u H' q => ⟨fun v' e => ?_, q.2⟩) hv
      cases md with
      | none => cases e
      | some d => simp only [setD_s, lkD_s, lk_hit] at e; injection e with e; rw [q.1, e]
    cases mg with
    | none =>
      rw [wpD] at h
      obtain ⟨v, h1, h2⟩ := look he _ h
      exact ⟨_, h1, fun t ht => setD_other ht, by simp only [CKs]; exact val h2⟩
    | some g =>
      obtain ⟨j, want⟩ := g
      rw [wpD] at h
      simp only at h
      cases hl : lk ρ j <;> rw [hl] at h <;> simp only [gK] at h <;> try exact h.elim
      case bool b =>
        by_cases hb : b = want
        · subst hb
          obtain ⟨v, h1, h2⟩ := look he _ (h.1 rfl)
          refine ⟨_, h1, fun t ht => (setD_other ht).trans (lk_learn hl t), ?_⟩
          simp only [CKs, hl, gS]
          have e : evI E.Γ ((j, .bool b) :: ρ) H mi = evI E.Γ ρ H mi := evI_congr fun t _ => lk_learn hl t
          exact ⟨fun _ => by rw [← e]; exact val h2, fun q => by cases b <;> cases q⟩
        · have hbn : b = !want := by cases b <;> cases want <;> simp_all
          subst hbn
          refine ⟨_, h.2 rfl, fun t ht => (setD_other ht).trans (lk_learn hl t), ?_⟩
          simp only [CKs, hl, gS]
          exact ⟨fun q => absurd q hb, fun _ d hd => by subst hd; rw [setD_s, lk_hit]⟩
      case un v0 =>
        refine ⟨_, h, fun t ht => setD_other ht, ?_⟩
        simp only [CKs, hl, gS]
        exact fun d hd => by subst hd; rw [setD_s, lk_hit]
      case und =>
        refine ⟨_, h, fun t ht => setD_other ht, ?_⟩
        simp only [CKs, hl, gS]
        exact fun d hd => by subst hd; rw [setD_s, lk_hit]
  obtain ⟨ρ1, h1, h2, h3⟩ := main
  exact ⟨ρ1, h1, h2, h3.congr (view_now ok c hi hC h2) (fun _ _ => rfl)⟩
/-- A look again, where the guard lets it. -/
def CKw (E : Env X) (m : MO) (ρ ρv : Fr) (H : SH X) : Prop := match m.g with
  | none => chkK (evI E.Γ ρ H m.i) (lkD ρv m.d) H
  | some (j, want) => lk ρ j = .bool want → chkK (evI E.Γ ρ H m.i) (lkD ρv m.d) H
theorem CKs.again {m : MO} {ρ ρv : Fr} {H2 : SH X} (h : CKs E m ρ ρv H) (h2 : CKw E m ρ ρv H2) : CKs E m ρ ρv H2 := by
  unfold CKs CKw at *
  split at h
  · rename_i hg; simp only [hg] at h2; exact h2
  · rename_i j want hg
    simp only [hg] at h2
    cases hl : lk ρ j <;> rw [hl] at h h2 <;> simp only [gS] at h ⊢ <;> try exact h
    exact ⟨fun q => h2 (by rw [q]), h.2⟩
theorem CKw.congr {m : MO} {ρ ρ' ρv : Fr} (h : CKw E m ρ ρv H) (h1 : ∀ t ∈ m.rd, lk ρ t = lk ρ' t) : CKw E m ρ' ρv H := by
  obtain ⟨md, mg, mi⟩ := m
  have e : evI E.Γ ρ H mi = evI E.Γ ρ' H mi := evI_congr fun t ht => h1 t (by simp [MO.rd, ht])
  cases mg with
  | none => simp only [CKw] at h ⊢; rw [← e]; exact h
  | some g =>
    obtain ⟨j, want⟩ := g
    simp only [CKw] at h ⊢
    rw [← e, ← h1 j (by simp [MO.rd])]; exact h
/-- The looks again. -/
theorem chks_sem (ok : RgOk R) : ∀ (l : List Nat) {t : DT}, wpD E (chks R l t) Q ρ H → (∀ i ∈ l, i < R.n ∧ R.eff i = false ∧ R.bl i = false) → wpD E t Q ρ H ∧ ∀ i ∈ l, CKw E (R.mo i) (view R ρ0 ρ i) ρ H
  | [], t, h, _ => ⟨h, by simp⟩
  | i :: l, t, h, hl => by
    simp only [chks, List.foldr_cons] at h
    have hi := hl i (by simp)
    have hck : CKw E (R.mo i) ρ ρ H ∧ wpD E (chks R l t) Q ρ H := by
      generalize R.mo i = m at h ⊢
      obtain ⟨md, mg, mi⟩ := m
      cases mg with
      | none => rw [wpD] at h; exact ⟨by simp only [CKw]; exact h.1, h.2⟩
      | some g =>
        obtain ⟨j, want⟩ := g
        rw [wpD] at h
        simp only at h
        refine ⟨?_, h.2⟩
        have h := h.1
        simp only [CKw]
        intro hw
        rw [hw] at h
        simp only [gK] at h
        have h := h.1 trivial
        have e : evI E.Γ ((j, .bool want) :: ρ) H mi = evI E.Γ ρ H mi := evI_congr fun t _ => lk_learn hw t
        have e2 : lkD ((j, .bool want) :: ρ) md = lkD ρ md := by cases md with
          | none => rfl
          | some d => simp only [lkD]; rw [lk_learn hw]
        rw [e, e2] at h; exact h
    obtain ⟨h1, h2⟩ := chks_sem ok l hck.2 fun j hj => hl j (by simp [hj])
    refine ⟨h1, fun j hj => ?_⟩
    rcases List.mem_cons.1 hj with rfl | hj
    · refine hck.1.congr (fun t ht => ?_)
      unfold view
      rw [mask_miss fun k hk hd => ?_]
      rcases ok.rd j hi.1 k hk t hd ht with q | ⟨_, q | q⟩
      · simp [q]
      · rw [hi.2.1] at q; cases q
      · rw [hi.2.2] at q; cases q
    · exact h2 j hj
theorem brs_sem : ∀ (l : List DT), wpD E (brs l) Q ρ H → ∀ t ∈ l, wpD E t Q ρ H
  | [], h, _, _ => by rw [brs, wpD] at h; exact h.elim
  | [t], h, u, hu => by simp at hu; subst hu; rw [brs] at h; exact h
  | t :: t' :: ts, h, u, hu => by
    rw [brs, wpD] at h
    · rcases List.mem_cons.1 hu with rfl | hu
      · exact h.1
      · exact brs_sem _ h.2 u hu
    · simp
end
end Go.Sy

/-! Regions that draw their order: the end. -/
namespace Go.Sy
open Go.RowKit
section
variable {X : Type} {W0 : World} {B N : Nat} {P : Program} {E : Env X} {β0 : List Value} {im0 : Im} {hR : Hp} {r : Option Nat} {n : Nat}
variable {R : Rg} {ρ0 ρ : Fr} {H : SH X} {Q : Post X} {ops : Array Oper}
theorem Ok.lk {ρ ρ' : Fr} {a : Act} {w : World} (h : Ok E W0 B N β0 im0 hR ρ H a w) (e : ∀ t, lk ρ t = lk ρ' t) : Ok E W0 B N β0 im0 hR ρ' H a w := by
  obtain ⟨β, im, h0, hi, hfr, rest⟩ := h
  exact ⟨β, im, h0, hi, fun t => by rw [← e t]; exact hfr t, rest⟩
/-- What the compiler knows of operation i. -/
def OpAt (P : Program) (N : Nat) (ops : Array Oper) (R : Rg) (i : Nat) (o : Oper) : Prop :=
  ops[i]? = some o ∧ cI P o.op = some (R.mo i).i ∧ (R.mo i).d = o.dst ∧ (∀ d, o.dst = some d → d < N) ∧ R.dd.getD i [] = ddOf o ∧
    ((o.guard = none ∧ (R.mo i).g = none) ∨ ∃ j want d, o.guard = some (j, want) ∧ (ops[j]?).bind (·.dst) = some d ∧ (R.mo i).g = some (d, want))
theorem op_step (hnp : E.np ≤ β0.length) (hΓ : GSound E.O W0 B P E.Γ) {i : Nat} {o : Oper} (ho : OpAt P N ops R i o) {a : Act} {w : World} {K : SV → SH X → Prop} {K0 : Prop} {next : Act → World → Prop} {MQ : Exit → Act → World → Prop}
    (hok : Ok E W0 B N β0 im0 hR ρ H a w) (h : match (R.mo i).g with | none => (evI E.Γ ρ H (R.mo i).i).sem K | some (j, want) => gS (lk ρ j) want ((evI E.Γ ρ H (R.mo i).i).sem K) K0)
    (hn : ∀ sv H' a' w', K sv H' → Ok E W0 B N β0 im0 hR (setD ρ (R.mo i).d sv) H' a' w' → next a' w') (hn0 : K0 → ∀ a' w', Ok E W0 B N β0 im0 hR (setD ρ (R.mo i).d .und) H a' w' → next a' w') :
    wpOpIn (FF r) n P ops MQ i next a w := by
  obtain ⟨h1, h2, h3, h4, _, h6⟩ := ho
  simp only [wpOpIn, h1]
  rcases h6 with ⟨hg, hmg⟩ | ⟨j, want, d, hg, hj, hmg⟩
  · simp only [hmg] at h
    rw [if_pos (by simp [Region.wanted, hg])]
    exact oper_sound hnp hΓ h2 h4 hok h fun sv H' a' w' hK hok' => hn sv H' a' w' hK (by rw [h3]; exact hok')
  · simp only [hmg] at h
    obtain ⟨β, im, h0, hii, hfr, st, hN, hdf⟩ := hok
    have hgk : gK (lk ρ d) d want (fun ρ' => (∀ t, lk ρ' t = lk ρ t) ∧ (evI E.Γ ρ H (R.mo i).i).sem K) (fun ρ' => (∀ t, lk ρ' t = lk ρ t) ∧ K0) ρ := by
      cases hl : lk ρ d <;> rw [hl] at h <;> simp only [gS] at h <;> simp only [gK] <;> try exact h.elim
      · exact ⟨fun q => ⟨fun t => lk_learn (by rw [hl, q]) t, h.1 q⟩, fun q => ⟨fun t => lk_learn (by rw [hl, q]) t, h.2 q⟩⟩
      · exact ⟨fun _ => trivial, h⟩
      · exact ⟨fun _ => trivial, h⟩
    rcases guard_sound hg hj hfr hgk with ⟨hw, ρ', hfr', hy, hs⟩ | ⟨hw, ρ', hfr', hy, hs⟩
    · rw [if_pos hw]
      exact oper_sound hnp hΓ h2 h4 ⟨β, im, h0, hii, hfr, st, hN, hdf⟩ hs fun sv H' a' w' hK hok' => hn sv H' a' w' hK (by rw [h3]; exact hok')
    · rw [if_neg (by simp [hw])]
      exact ⟨fun _ _ => trivial, hn0 hs _ _ (by rw [h3]; exact Ok.und h0 hii hfr st hN hdf h4)⟩
theorem count_lt {p q : Nat → Bool} : ∀ (l : List Nat), (∀ x ∈ l, q x = true → p x = true) → ∀ x ∈ l, p x = true → q x = false → (l.filter q).length < (l.filter p).length
  | [], _, x, hx, _, _ => by cases hx
  | y :: l, h, x, hx, hp, hq => by
    have hle : ∀ (l : List Nat), (∀ x ∈ l, q x = true → p x = true) → (l.filter q).length ≤ (l.filter p).length := by
      intro l
      induction l with
      | nil => intro _; simp
      | cons z l ih =>
        intro hz
        have := ih fun x hx => hz x (by simp [hx])
        have hz0 := hz z (by simp)
        by_cases c : q z = true
        · simp [c, hz0 c, this]
        · by_cases c2 : p z = true
          · simp [c, c2]; omega
          · simp [c, c2, this]
    rcases List.mem_cons.1 hx with rfl | hx
    · have := hle l fun x hx => h x (by simp [hx])
      simp [hp, hq]; omega
    · have := count_lt l (fun x hx => h x (by simp [hx])) x hx hp hq
      have h0 := h y (by simp)
      by_cases c : q y = true
      · simp [c, h0 c, this]
      · by_cases c2 : p y = true
        · simp [c, c2]; omega
        · simp [c, c2, this]
def unl (R : Rg) (l : Array Bool) : Nat → Bool := fun i => !l.getD i false
theorem getD_set {l : Array Bool} {i j : Nat} (hi : i < l.size) : (l.setIfInBounds i true).getD j false = if j = i then true else l.getD j false := by
  simp only [Array.getD_eq_getD_getElem?, Array.getElem?_setIfInBounds]
  by_cases h : i = j
  · subst h; simp [hi]
  · rw [if_neg h, if_neg (fun q => h q.symm)]
/-- The actual run: what is done is D; it fits the canonical run at (C, ρ). -/
structure Act' (E : Env X) (W0 : World) (B N : Nat) (β0 : List Value) (im0 : Im) (hR : Hp) (R : Rg) (ρ0 : Fr) (C : List Nat) (ρ : Fr) (H : SH X) (l : Array Bool) (a : Act) (w : World) : Prop where
  size : l.size = R.n
  clo : ∀ i, i < R.n → l.getD i false = true → ∀ j ∈ R.anc i, l.getD j false = true
  sub : ∀ i, i < R.n → l.getD i false = true → i ∈ C
  ck : ∀ i ∈ C, l.getD i false = false → R.eff i = false ∧ CKs E (R.mo i) (view R ρ0 ρ i) ρ H
  ok : Ok E W0 B N β0 im0 hR (mask R ρ0 ρ (unl R l)) H a w
/-- What an operation that is ready finds in the slots. -/
theorem ready_sees (ok : RgOk R) {l : Array Bool} {i : Nat} (hi : i < R.n) (hl : l.getD i false = false) (clo : ∀ i, i < R.n → l.getD i false = true → ∀ j ∈ R.anc i, l.getD j false = true) (ha : ∀ j ∈ R.anc i, l.getD j false = true) :
    ∀ t ∈ (R.mo i).rd, lk (mask R ρ0 ρ (unl R l)) t = lk (view R ρ0 ρ i) t := by
  intro t ht
  rcases lk_mask (R := R) (ρ0 := ρ0) (ρ := ρ) (S := fun j => !(R.anc i).contains j) (t := t) with ⟨⟨j, h2, h3, h4⟩, e⟩ | ⟨h2, e⟩
  · unfold view
    rw [e]
    refine mask_hit h2 ?_ h4
    have h3' : j ∉ R.anc i := by simpa using h3
    have : l.getD j false = false := by
      cases hj : l.getD j false with
      | false => rfl
      | true =>
        rcases ok.rd i hi j h2 t h4 ht with q | ⟨q | q, _⟩
        · exact absurd q h3'
        · subst q; rw [hl] at hj; exact hj.symm
        · have := clo j h2 hj i q; rw [hl] at this; exact this.symm
    simp [unl, this]
  · unfold view
    rw [e]
    refine mask_miss fun k hk hd => ?_
    by_cases q : k ∈ R.anc i
    · simp [unl, ha k q]
    · exact absurd hd (h2 k hk (by simpa using q))
theorem mask_set (ok : RgOk R) {l : Array Bool} {i : Nat} (hi : i < l.size) (hs : l.size = R.n) {sv : SV} {ρ1 : Fr} (h1 : ∀ t, (R.mo i).d ≠ some t → lk ρ1 t = lk ρ t) (h2 : ∀ d, (R.mo i).d = some d → lk ρ1 d = sv) (t : Nat) :
    lk (setD (mask R ρ0 ρ (unl R l)) (R.mo i).d sv) t = lk (mask R ρ0 ρ1 (unl R (l.setIfInBounds i true))) t := by
  by_cases ht : (R.mo i).d = some t
  · rw [ht, setD_s, lk_hit, mask_miss, h2 t ht]
    intro k hk hd
    rcases ok.dst k hk i (by omega) t ht with q | q
    · subst q; simp [unl, getD_set hi]
    · exact absurd hd q
  · rw [setD_other ht]
    rcases lk_mask (R := R) (ρ0 := ρ0) (ρ := ρ) (S := unl R l) (t := t) with ⟨⟨j, q2, q3, q4⟩, e⟩ | ⟨q2, e⟩
    · rw [e, mask_hit q2 ?_ q4]
      have : j ≠ i := fun q => ht (q ▸ q4)
      simpa [unl, getD_set hi, this] using q3
    · rw [e, mask_miss, h1 t ht]
      intro k hk hd
      by_cases c : k = i
      · simp [unl, getD_set hi, c]
      · have : ¬ unl R l k = true := fun q => q2 k hk q hd
        simpa [unl, getD_set hi, c] using this
theorem act_sem {m : MO} {t : DT} (h : wpD E (.op false m t) Q ρ H) :
    match m.g with
    | none => (evI E.Γ ρ H m.i).sem fun v H1 => ∃ ρ1, wpD E t Q ρ1 H1 ∧ (∀ t, m.d ≠ some t → lk ρ1 t = lk ρ t) ∧ ∀ d, m.d = some d → lk ρ1 d = v
    | some (j, want) => gS (lk ρ j) want ((evI E.Γ ρ H m.i).sem fun v H1 => ∃ ρ1, wpD E t Q ρ1 H1 ∧ (∀ t, m.d ≠ some t → lk ρ1 t = lk ρ t) ∧ ∀ d, m.d = some d → lk ρ1 d = v)
        (∃ ρ1, wpD E t Q ρ1 H ∧ (∀ t, m.d ≠ some t → lk ρ1 t = lk ρ t) ∧ ∀ d, m.d = some d → lk ρ1 d = .und) := by
  obtain ⟨md, mg, mi⟩ := m
  cases mg with
  | none =>
    rw [wpD] at h
    exact sem_mono (fun v H1 q => ⟨_, q, fun t ht => setD_other ht, fun d hd => by simp only at hd; subst hd; rw [setD_s, lk_hit]⟩) h
  | some g =>
    obtain ⟨j, want⟩ := g
    rw [wpD] at h
    simp only at h ⊢
    cases hl : lk ρ j <;> rw [hl] at h <;> simp only [gK] at h <;> simp only [gS] <;> try exact h.elim
    case bool b =>
      refine ⟨fun q => ?_, fun q => ?_⟩
      · have e : evI E.Γ ((j, .bool want) :: ρ) H mi = evI E.Γ ρ H mi := evI_congr fun t _ => lk_learn (by rw [hl, q]) t
        rw [← e]
        exact sem_mono (fun v H1 z => ⟨_, z, fun t ht => (setD_other ht).trans (lk_learn (by rw [hl, q]) t), fun d hd => by subst hd; rw [setD_s, lk_hit]⟩) (h.1 q)
      · exact ⟨_, h.2 q, fun t ht => (setD_other ht).trans (lk_learn (by rw [hl, q]) t), fun d hd => by subst hd; rw [setD_s, lk_hit]⟩
    case un v0 => exact ⟨_, h, fun t ht => setD_other ht, fun d hd => by subst hd; rw [setD_s, lk_hit]⟩
    case und => exact ⟨_, h, fun t ht => setD_other ht, fun d hd => by subst hd; rw [setD_s, lk_hit]⟩
theorem drawn_main (hnp : E.np ≤ β0.length) (hΓ : GSound E.O W0 B P E.Γ) (ok : RgOk R) (hsz : R.n = ops.size) (hops : ∀ i, i < R.n → ∃ o, OpAt P N ops R i o) :
    ∀ (k : Nat) (es C : List Nat) (ρ : Fr) (H : SH X), wpD E (mkT R k es C) Q ρ H → Can R ρ0 C ρ → (∀ e, e ∈ es → e < R.n ∧ R.eff e = true ∧ e ∉ C) → (∀ e, e < R.n → R.eff e = true → e ∉ C → e ∈ es) →
    ∀ (m : Nat) (l : Array Bool) (a : Act) (w : World), ((List.range R.n).filter (unl R l)).length ≤ m → Act' E W0 B N β0 im0 hR R ρ0 C ρ H l a w → wpAnyIn (FF r) n P .any ops (MP E W0 B N β0 im0 hR Q) m l a w := by
  intro k
  induction k with
  | zero => intro es C ρ H h; rw [mkT, wpD] at h; exact h.elim
  | succ k ih =>
    intro es C ρ H h can he he'
    rw [mkT] at h
    split at h
    · -- the canonical run goes on
      rename_i i hf
      have hp := List.find?_some hf
      have hir : i < R.n := List.mem_range.1 (List.mem_of_find?_eq_some hf)
      simp only [Bool.and_eq_true, Bool.not_eq_true', List.all_eq_true] at hp
      obtain ⟨⟨hiC, hie⟩, hia⟩ := hp
      have hiC' : i ∉ C := by simpa using hiC
      have hia' : ∀ j ∈ R.anc i, j ∈ C := fun j hj => by simpa using hia j hj
      obtain ⟨ρ1, h1, h2, h3⟩ := advance (ρ0 := ρ0) ok can hir hiC' hie h
      intro m l a w hm act
      refine ih es (i :: C) ρ1 H h1 (can.step hir hia' h2) (fun e hee => ⟨(he e hee).1, (he e hee).2.1, fun q => ?_⟩) (fun e q1 q2 q3 => he' e q1 q2 fun q => q3 (by simp [q])) m l a w hm ?_
      · rcases List.mem_cons.1 q with rfl | q
        · have := (he _ hee).2.1; rw [hie] at this; cases this
        · exact (he e hee).2.2 q
      · have hil : l.getD i false = false := by
          cases q : l.getD i false with
          | false => rfl
          | true => exact absurd (act.sub i hir q) hiC'
        refine ⟨act.size, act.clo, fun j hj q => List.mem_cons_of_mem _ (act.sub j hj q), fun j hj q => ?_, act.ok.lk fun t => ?_⟩
        · rcases List.mem_cons.1 hj with rfl | hj
          · exact ⟨hie, h3⟩
          · exact ⟨(act.ck j hj q).1, (act.ck j hj q).2.step ok can hj hir hiC' h2⟩
        · rcases lk_mask (R := R) (ρ0 := ρ0) (ρ := ρ) (S := unl R l) (t := t) with ⟨⟨j, q2, q3, q4⟩, e⟩ | ⟨q2, e⟩
          · rw [e, mask_hit q2 q3 q4]
          · rw [e, mask_miss (fun k hk hd => by
              cases q : unl R l k with
              | false => rfl
              | true => exact absurd hd (q2 k hk q)), h2]
            intro hd
            exact q2 i hir (by simp [unl, hil]) hd
    · -- the actual run goes on
      rename_i hf
      have hnone : ∀ i, i < R.n → i ∉ C → R.eff i = false → (∀ j ∈ R.anc i, j ∈ C) → False := by
        intro i hi h1 h2 h3
        have := List.find?_eq_none.1 hf i (List.mem_range.2 hi)
        apply this
        simp [h1, h2]
        exact h3
      have last : ∀ (l : Array Bool) (a : Act) (w : World), Act' E W0 B N β0 im0 hR R ρ0 C ρ H l a w → (∀ i, i < R.n → l.getD i false = true) → MP E W0 B N β0 im0 hR Q .normal a w := by
        intro l a w act hall
        have hes : es = [] := by
          cases es with
          | nil => rfl
          | cons e es => have := he e (by simp); exact absurd (act.sub e this.1 (hall e this.1)) this.2.2
        subst hes
        simp only [List.isEmpty_nil, if_true] at h
        split at h
        · rw [wpD] at h
          exact ⟨ρ, H, h, act.ok.lk fun t => mask_miss fun k hk _ => by simp [unl, hall k hk]⟩
        · rw [wpD] at h; exact h.elim
      have getT : ∀ {l : Array Bool} {i : Nat}, l.size = R.n → i < R.n → l.getD i true = l.getD i false := by
        intro l i h1 h2
        simp [Array.getD_eq_getD_getElem?, Array.getElem?_eq_getElem (show i < l.size by omega)]
      have noready : ∀ (l : Array Bool) (a : Act) (w : World), Act' E W0 B N β0 im0 hR R ρ0 C ρ H l a w → Region.ready .any ops l = [] → ∀ i, i < R.n → l.getD i false = true := by
        intro l a w act hr i
        induction i using Nat.strongRecOn with
        | _ i ihi =>
          intro hi
          cases hl : l.getD i false with
          | true => rfl
          | false =>
            obtain ⟨o, ho⟩ := hops i hi
            have : i ∈ Region.ready .any ops l := mem_ready.2 ⟨by rw [getT act.size hi]; exact hl, o, ho.1, fun e hee hb => by
              have hdd : e.on ∈ R.dd.getD i [] := by
                rw [ho.2.2.2.2.1]
                exact List.mem_map.2 ⟨e, List.mem_filter.2 ⟨by simpa using hee, hb⟩, rfl⟩
              have hlt := ok.dd i hi _ hdd
              exact ihi _ hlt (by omega)⟩
            rw [hr] at this; cases this
      intro m
      induction m with
      | zero =>
        intro l a w hm act
        have hall : ∀ i, i < R.n → l.getD i false = true := by
          intro i hi
          have : (List.range R.n).filter (unl R l) = [] := List.eq_nil_of_length_eq_zero (by omega)
          have := List.filter_eq_nil_iff.1 this i (List.mem_range.2 hi)
          simpa [unl] using this
        refine ⟨?_, last l a w act hall⟩
        cases hr : Region.ready .any ops l with
        | nil => rfl
        | cons i rs =>
          obtain ⟨h1, o, ho, _⟩ := mem_ready.1 (show i ∈ Region.ready .any ops l by rw [hr]; simp)
          have hi : i < R.n := by rw [hsz]; exact (Array.getElem?_eq_some_iff.1 ho).1
          rw [getT act.size hi, hall i hi] at h1; cases h1
      | succ m ihm =>
        intro l a w hm act
        refine ⟨fun hr => last l a w act (noready l a w act hr), fun i hi => ?_⟩
        obtain ⟨h1, o', ho', hdeps⟩ := mem_ready.1 hi
        have hir : i < R.n := by rw [hsz]; exact (Array.getElem?_eq_some_iff.1 ho').1
        rw [getT act.size hir] at h1
        obtain ⟨o, ho⟩ := hops i hir
        have hoo : o' = o := by have := ho.1; rw [ho'] at this; injection this
        subst hoo
        have hdd : ∀ j ∈ R.dd.getD i [], l.getD j false = true := by
          intro j hj
          rw [ho.2.2.2.2.1] at hj
          obtain ⟨e, he1, rfl⟩ := List.mem_map.1 hj
          obtain ⟨he2, he3⟩ := List.mem_filter.1 he1
          exact hdeps e (by simpa using he2) he3
        have ha : ∀ j ∈ R.anc i, l.getD j false = true := by
          intro j hj
          rcases (ok.anc i hir j hj).2 with q | ⟨k, q1, q2⟩
          · exact hdd j q
          · exact act.clo k (by have := ok.dd i hir k q1; omega) (hdd k q1) j q2
        have haC : ∀ j ∈ R.anc i, j ∈ C := fun j hj => act.sub j (by have := (ok.anc i hir j hj).1; omega) (ha j hj)
        have hil : i < l.size := by rw [act.size]; exact hir
        have sees := ready_sees (ρ0 := ρ0) (ρ := ρ) ok hir h1 act.clo ha
        have cnt : ((List.range R.n).filter (unl R (l.setIfInBounds i true))).length < ((List.range R.n).filter (unl R l)).length := by
          refine count_lt _ (fun x _ hx => ?_) i (List.mem_range.2 hir) (by simp [unl, h1]) (by simp [unl, getD_set hil])
          by_cases c : x = i
          · simp [unl, getD_set hil, c] at hx
          · simpa [unl, getD_set hil, c] using hx
        have clo' : ∀ k, k < R.n → (l.setIfInBounds i true).getD k false = true → ∀ j ∈ R.anc k, (l.setIfInBounds i true).getD j false = true := by
          intro k hk hkl j hj
          rw [getD_set hil]
          split
          · rfl
          · by_cases c : k = i
            · subst c; exact ha j hj
            · rw [getD_set hil, if_neg c] at hkl; exact act.clo k hk hkl j hj
        cases hie : R.eff i with
        | false =>
          have hiC : i ∈ C := Classical.byContradiction fun q => hnone i hir q hie haC
          have hck := (act.ck i hiC h1).2.congr (fun t ht => (sees t ht).symm) (fun _ _ => rfl)
          have fin : ∀ sv a' w', (∀ d, (R.mo i).d = some d → lk ρ d = sv) → Ok E W0 B N β0 im0 hR (setD (mask R ρ0 ρ (unl R l)) (R.mo i).d sv) H a' w' →
              wpAnyIn (FF r) n P .any ops (MP E W0 B N β0 im0 hR Q) m (l.setIfInBounds i true) a' w' := by
            intro sv a' w' hsv hok'
            refine ihm _ a' w' (by omega) ⟨by simpa using act.size, clo', fun k hk hkl => ?_, fun j hj hjl => ?_, hok'.lk fun t => mask_set ok hil act.size (fun _ _ => rfl) hsv t⟩
            · by_cases c : k = i
              · subst c; exact hiC
              · rw [getD_set hil, if_neg c] at hkl; exact act.sub k hk hkl
            · by_cases c : j = i
              · subst c; rw [getD_set hil, if_pos rfl] at hjl; cases hjl
              · rw [getD_set hil, if_neg c] at hjl; exact act.ck j hj hjl
          refine op_step (K := fun u H' => (∀ v', lkD ρ (R.mo i).d = some v' → u = v') ∧ H' = H) (K0 := ∀ d, (R.mo i).d = some d → lk ρ d = .und) hnp hΓ ho act.ok ?_ (fun sv H' a' w' hK hok' => ?_) (fun hK0 a' w' hok' => ?_)
          · unfold CKs at hck
            exact hck
          · obtain ⟨hK1, rfl⟩ := hK
            exact fin sv a' w' (fun d hd => (hK1 _ (by rw [hd]; rfl)).symm) hok'
          · exact fin .und a' w' hK0 hok'
        | true =>
          have hiC : i ∉ C := fun q => by have := (act.ck i q h1).1; rw [hie] at this; cases this
          have hies : i ∈ es := he' i hir hie hiC
          have hne : es.isEmpty = false := by cases es with
            | nil => cases hies
            | cons => rfl
          rw [hne] at h
          simp only [Bool.false_eq_true, if_false] at h
          have hbr := brs_sem _ h _ (List.mem_map.2 ⟨i, List.mem_filter.2 ⟨hies, by
            rw [List.all_eq_true]
            intro f hf
            simp
            intro q
            exact (he f hf).2.2 (haC f q)⟩, rfl⟩)
          have hs := act_sem hbr
          have now := view_now ok can hir hiC (ρ1 := ρ) (fun _ _ => rfl)
          have agree : ∀ t ∈ (R.mo i).rd, lk ρ t = lk (mask R ρ0 ρ (unl R l)) t := fun t ht => (now t ht).trans (sees t ht).symm
          have fin : ∀ sv H1 a' w', (∃ ρ1, wpD E (chks R (C.reverse.filter fun r => !R.eff r && !R.bl r && !(R.anc i).contains r) (mkT R k (es.filter (· != i)) (i :: C))) Q ρ1 H1 ∧ (∀ t, (R.mo i).d ≠ some t → lk ρ1 t = lk ρ t) ∧ ∀ d, (R.mo i).d = some d → lk ρ1 d = sv) →
              Ok E W0 B N β0 im0 hR (setD (mask R ρ0 ρ (unl R l)) (R.mo i).d sv) H1 a' w' → wpAnyIn (FF r) n P .any ops (MP E W0 B N β0 im0 hR Q) m (l.setIfInBounds i true) a' w' := by
            rintro sv H1 a' w' ⟨ρ1, q1, q2, q3⟩ hok'
            obtain ⟨z1, z2⟩ := chks_sem (ρ0 := ρ0) ok _ q1 (fun j hj => by
              obtain ⟨y1, y2⟩ := List.mem_filter.1 hj
              simp at y2
              exact ⟨can.lt j (by simpa using y1), y2.1.1, y2.1.2⟩)
            refine ih _ (i :: C) ρ1 H1 z1 (can.step hir haC q2) (fun e hee => ?_) (fun e y1 y2 y3 => ?_) m _ a' w' (by omega) ⟨by simpa using act.size, clo', fun k hk hkl => ?_, fun j hj hjl => ?_, hok'.lk fun t => mask_set ok hil act.size q2 q3 t⟩
            · obtain ⟨y1, y2⟩ := List.mem_filter.1 hee
              have := he e y1
              refine ⟨this.1, this.2.1, fun q => ?_⟩
              rcases List.mem_cons.1 q with rfl | q
              · simp at y2
              · exact this.2.2 q
            · refine List.mem_filter.2 ⟨he' e y1 y2 fun q => y3 (by simp [q]), ?_⟩
              have : e ≠ i := fun q => y3 (by simp [q])
              simpa using this
            · by_cases c : k = i
              · subst c; simp
              · rw [getD_set hil, if_neg c] at hkl; exact List.mem_cons_of_mem _ (act.sub k hk hkl)
            · by_cases c : j = i
              · subst c; rw [getD_set hil, if_pos rfl] at hjl; cases hjl
              · rw [getD_set hil, if_neg c] at hjl
                have hjC : j ∈ C := (List.mem_cons.1 hj).resolve_left c
                obtain ⟨x1, x2⟩ := act.ck j hjC hjl
                have x3 := x2.step ok can hjC hir hiC q2
                refine ⟨x1, ?_⟩
                cases hb : R.bl j with
                | true => exact x3.blind hb
                | false =>
                  refine x3.again (z2 j (List.mem_filter.2 ⟨by simpa using hjC, ?_⟩))
                  have : j ∉ R.anc i := fun q => by have := ha j q; rw [hjl] at this; cases this
                  simp [x1, hb, this]
          refine op_step (K := fun v H1 => ∃ ρ1, wpD E (chks R (C.reverse.filter fun r => !R.eff r && !R.bl r && !(R.anc i).contains r) (mkT R k (es.filter (· != i)) (i :: C))) Q ρ1 H1 ∧ (∀ t, (R.mo i).d ≠ some t → lk ρ1 t = lk ρ t) ∧ ∀ d, (R.mo i).d = some d → lk ρ1 d = v)
            (K0 := ∃ ρ1, wpD E (chks R (C.reverse.filter fun r => !R.eff r && !R.bl r && !(R.anc i).contains r) (mkT R k (es.filter (· != i)) (i :: C))) Q ρ1 H ∧ (∀ t, (R.mo i).d ≠ some t → lk ρ1 t = lk ρ t) ∧ ∀ d, (R.mo i).d = some d → lk ρ1 d = .und)
            hnp hΓ ho act.ok ?_ (fun sv H' a' w' hK hok' => fin sv H' a' w' hK hok') (fun hK0 a' w' hok' => fin .und H a' w' hK0 hok')
          have e : evI E.Γ ρ H (R.mo i).i = evI E.Γ (mask R ρ0 ρ (unl R l)) H (R.mo i).i := evI_congr fun t ht => agree t (by simp [MO.rd, ht])
          split
          · rename_i hg
            rw [hg] at hs
            simp only at hs
            rw [← e]; exact hs
          · rename_i j want hg
            rw [hg] at hs
            simp only at hs
            rw [← e, ← agree j (by simp [MO.rd, hg])]; exact hs
end
end Go.Sy

/-! Code, with regions of both kinds. -/
namespace Go.Sy
open Go.RowKit
section
variable {X : Type} {W0 : World} {B N : Nat} {P : Program} {E : Env X} {β0 : List Value} {im0 : Im} {hR : Hp} {r : Option Nat} {n : Nat}
theorem HSt.drew' {O : X → SH X} {β : List Value} {im : Im} {H : SH X} {w : World} (h : HSt O W0 B β im H hR w) : HSt O W0 B β im H hR { w with drawn := w.drawn + 1 } := h.drew
theorem drawn_ok (hP : P.follows .mixedOrders = true) (hnp : E.np ≤ β0.length) (hΓ : GSound E.O W0 B P E.Γ) : DrawnOK E W0 B N P β0 im0 hR r n := by
  intro id ops m hc Q ρ H a w h hok
  unfold cR at hc
  obtain ⟨mos, hm, hc⟩ := bind_some hc
  simp only [Bool.not_true, Bool.false_eq_true, if_false] at hc
  split at hc
  · rename_i hR
    injection hc with hc; subst hc
    rw [sw_dops] at h
    have ok := Rg.ok_spec hR
    obtain ⟨hlen, hget⟩ := mapM_get hm
    have hlen' : mos.length = ops.size := by simpa using hlen
    refine wpIn_region_any hP ?_
    refine drawn_main (R := ⟨ops.size, mos, ops.toList.map ddOf, anc ops.toList⟩) (ρ0 := ρ) hnp hΓ ok rfl (fun i hi => ?_) _ _ [] ρ H h ⟨by simp, by simp, fun _ _ => rfl⟩ (fun e he => ?_) (fun e h1 h2 _ => List.mem_filter.2 ⟨List.mem_range.2 h1, h2⟩) ops.size _ a _ ?_ ⟨by simp, ?_, ?_, by simp, ?_⟩
    · have hi' : i < mos.length := by rw [hlen']; exact hi
      obtain ⟨o, ho, hco⟩ := hget i mos[i] (List.getElem?_eq_getElem hi')
      obtain ⟨mi, hci, he, hd, hdN, hgd⟩ := cO_spec hco
      have e : Rg.mo ⟨ops.size, mos, ops.toList.map ddOf, anc ops.toList⟩ i = mos[i] := by simp [Rg.mo, List.getD, hi']
      refine ⟨o, by simpa using ho, by rw [e, he]; exact hci, by rw [e]; exact hd, hdN, ?_, by rw [e]; exact hgd⟩
      have ho' : ops.toList[i]? = some o := ho
      simp only [List.getD, List.getElem?_map, ho']; rfl
    · obtain ⟨h1, h2⟩ := List.mem_filter.1 he
      exact ⟨List.mem_range.1 h1, h2, by simp⟩
    · refine Nat.le_trans (List.length_filter_le _ _) (by simp)
    · intro i hi hl; simp [Array.getD] at hl
    · intro i hi hl; simp [Array.getD] at hl
    · obtain ⟨β, im, h0, hii, hfr, st, rest⟩ := hok
      refine Ok.lk (ρ := ρ) ⟨β, im, h0, hii, hfr, st.drew, rest⟩ fun t => ?_
      rcases lk_mask (R := ⟨ops.size, mos, ops.toList.map ddOf, anc ops.toList⟩) (ρ0 := ρ) (ρ := ρ) (S := unl ⟨ops.size, mos, ops.toList.map ddOf, anc ops.toList⟩ (Array.replicate ops.size false)) (t := t) with ⟨_, e⟩ | ⟨_, e⟩ <;> exact e.symm
  · cases hc
end
end Go.Sy

/-! Frames of heaps: names taken back, atoms picked out and put back. -/
namespace Go.Sy
open Go.RowKit
mutual
theorem Rel.unren {σ : Nat → Nat} {β β0 : List Value} {im : Im} (hb : ∀ k : Nat, β[σ k]? = β0[k]?) : ∀ (s : SV) {v : Value}, Rel β im (s.ren σ) v → Rel β0 im s v
  | .int _ _, _, h => by simp only [SV.ren] at h; cases h; exact .int
  | .bool _, _, h => by simp only [SV.ren] at h; cases h; exact .bool
  | .str _, _, h => by simp only [SV.ren] at h; cases h; exact .str
  | .nilp, _, h => by simp only [SV.ren] at h; cases h; exact .nilp
  | .nils, _, h => by simp only [SV.ren] at h; cases h; exact .nils
  | .nilf, _, h => by simp only [SV.ren] at h; cases h; exact .nilf
  | .nilm, _, h => by simp only [SV.ren] at h; cases h; exact .nilm
  | .und, _, h => by simp only [SV.ren] at h; cases h; exact .und
  | .dead, _, _ => .dead
  | .key k, _, h => by simp only [SV.ren] at h; cases h with | key h h1 => exact .key (by rw [← hb]; exact h) h1
  | .off k o, _, h => by simp only [SV.ren] at h; cases h with | off h => exact .off (by rw [← hb]; exact h)
  | .offa k o sz i f, _, h => by simp only [SV.ren] at h; cases h with | offa h => exact .offa (by rw [← hb]; exact h)
  | .elt k sz i f, _, h => by simp only [SV.ren] at h; cases h with | elt h => exact .elt (by rw [← hb]; exact h)
  | .sub k sz lo hi, _, h => by
    simp only [SV.ren] at h
    cases h with
    | sub h h1 h2 ha => exact .sub (by rw [← hb]; exact h) h1 h2 ha
    | sub0 h => exact .sub0 (by rw [← hb]; exact h)
  | .sl k sz lo len cap, _, h => by simp only [SV.ren] at h; cases h with | sl h ha hl => exact .sl (by rw [← hb]; exact h) ha hl
  | .ros sz n g, _, h => by
    simp only [SV.ren] at h
    cases h with
    | ros rows h hl hc hm => exact .ros rows (fun i q => RelC.unren hb (g i) (h i q)) hl hc hm
    | ros0 => exact .ros0
  | .roe sz n g i f, _, h => by simp only [SV.ren] at h; cases h with | roe rows h hl hi hm => exact .roe rows (fun i q => RelC.unren hb (g i) (h i q)) hl hi hm
  | .fn f l, _, h => by simp only [SV.ren] at h; cases h with | fn h => exact .fn (RelL.unren hb l h)
  | .agg l, _, h => by simp only [SV.ren] at h; cases h with | agg h => exact .agg (RelC.unren hb l h)
  | .arr sz n g, _, h => by simp only [SV.ren] at h; cases h
  | .tup l, _, h => by simp only [SV.ren] at h; cases h with | tup h => exact .tup (RelL.unren hb l h)
  | .ifc t s, _, h => by simp only [SV.ren] at h; cases h with | ifc h => exact .ifc (Rel.unren hb s h)
  | .un s, _, h => by simp only [SV.ren] at h; cases h; exact .un
theorem RelL.unren {σ : Nat → Nat} {β β0 : List Value} {im : Im} (hb : ∀ k : Nat, β[σ k]? = β0[k]?) : ∀ (l : List SV) {vs : List Value}, RelL β im (renL σ l) vs → RelL β0 im l vs
  | [], _, h => by simp only [renL] at h; cases h; exact .nil
  | s :: l, _, h => by simp only [renL] at h; cases h with | cons h t => exact .cons (Rel.unren hb s h) (RelL.unren hb l t)
theorem RelC.unren {σ : Nat → Nat} {β β0 : List Value} {im : Im} (hb : ∀ k : Nat, β[σ k]? = β0[k]?) : ∀ (l : List SV) {vs : List Value}, RelC β im (renL σ l) vs → RelC β0 im l vs
  | [], _, h => by simp only [renL] at h; cases h; exact .nil
  | .arr sz n g :: l, _, h => by
    simp only [renL, SV.ren] at h
    cases h with
    | one h1 h t => simp [SV.one] at h1
    | arr rows h hl t => exact .arr rows (fun i q => RelC.unren hb (g i) (h i q)) hl (RelC.unren hb l t)
  | .int k n :: l, _, h => by
    simp only [renL] at h
    generalize hs : SV.ren σ (.int k n) = u at h
    cases h with
    | one h1 h t => subst hs; exact .one rfl (Rel.unren hb _ h) (RelC.unren hb l t)
    | arr rows h hl t => simp [SV.ren] at hs
  | .bool k :: l, _, h => by
    simp only [renL] at h
    generalize hs : SV.ren σ (.bool k) = u at h
    cases h with
    | one h1 h t => subst hs; exact .one rfl (Rel.unren hb _ h) (RelC.unren hb l t)
    | arr rows h hl t => simp [SV.ren] at hs
  | .str k :: l, _, h => by
    simp only [renL] at h
    generalize hs : SV.ren σ (.str k) = u at h
    cases h with
    | one h1 h t => subst hs; exact .one rfl (Rel.unren hb _ h) (RelC.unren hb l t)
    | arr rows h hl t => simp [SV.ren] at hs
  | .nilp :: l, _, h => by
    simp only [renL, SV.ren] at h
    cases h with | one h1 h t => exact .one rfl (by cases h; exact .nilp) (RelC.unren hb l t)
  | .nils :: l, _, h => by
    simp only [renL, SV.ren] at h
    cases h with | one h1 h t => exact .one rfl (by cases h; exact .nils) (RelC.unren hb l t)
  | .nilf :: l, _, h => by
    simp only [renL, SV.ren] at h
    cases h with | one h1 h t => exact .one rfl (by cases h; exact .nilf) (RelC.unren hb l t)
  | .nilm :: l, _, h => by
    simp only [renL, SV.ren] at h
    cases h with | one h1 h t => exact .one rfl (by cases h; exact .nilm) (RelC.unren hb l t)
  | .und :: l, _, h => by
    simp only [renL, SV.ren] at h
    cases h with | one h1 h t => simp [SV.one] at h1
  | .dead :: l, _, h => by
    simp only [renL, SV.ren] at h
    cases h with | one h1 h t => simp [SV.one] at h1
  | .key k :: l, _, h => by
    simp only [renL, SV.ren] at h
    cases h with | one h1 h t => exact .one rfl (Rel.unren hb (.key k) (by simpa only [SV.ren] using h)) (RelC.unren hb l t)
  | .off k o :: l, _, h => by
    simp only [renL, SV.ren] at h
    cases h with | one h1 h t => exact .one rfl (Rel.unren hb (.off k o) (by simpa only [SV.ren] using h)) (RelC.unren hb l t)
  | .offa k o sz i f :: l, _, h => by
    simp only [renL, SV.ren] at h
    cases h with | one h1 h t => exact .one rfl (Rel.unren hb (.offa k o sz i f) (by simpa only [SV.ren] using h)) (RelC.unren hb l t)
  | .elt k sz i f :: l, _, h => by
    simp only [renL, SV.ren] at h
    cases h with | one h1 h t => exact .one rfl (Rel.unren hb (.elt k sz i f) (by simpa only [SV.ren] using h)) (RelC.unren hb l t)
  | .sub k sz lo hi :: l, _, h => by
    simp only [renL, SV.ren] at h
    cases h with | one h1 h t => exact .one rfl (Rel.unren hb (.sub k sz lo hi) (by simpa only [SV.ren] using h)) (RelC.unren hb l t)
  | .sl k sz lo len cap :: l, _, h => by
    simp only [renL, SV.ren] at h
    cases h with | one h1 h t => exact .one rfl (Rel.unren hb (.sl k sz lo len cap) (by simpa only [SV.ren] using h)) (RelC.unren hb l t)
  | .ros sz n g :: l, _, h => by
    simp only [renL, SV.ren] at h
    cases h with
    | one h1 h t =>
      refine .one rfl ?_ (RelC.unren hb l t)
      cases h with
      | ros rows h hl hc hm => exact .ros rows (fun i q => RelC.unren hb (g i) (h i q)) hl hc hm
      | ros0 => exact .ros0
  | .roe sz n g i f :: l, _, h => by
    simp only [renL, SV.ren] at h
    cases h with
    | one h1 h t =>
      refine .one rfl ?_ (RelC.unren hb l t)
      cases h with | roe rows h hl hi hm => exact .roe rows (fun i q => RelC.unren hb (g i) (h i q)) hl hi hm
  | .fn f c :: l, _, h => by
    simp only [renL, SV.ren] at h
    cases h with
    | one h1 h t => exact .one rfl (by cases h with | fn h => exact .fn (RelL.unren hb c h)) (RelC.unren hb l t)
  | .un c :: l, _, h => by
    simp only [renL, SV.ren] at h
    cases h with | one h1 h t => simp [SV.one] at h1
  | .agg c :: l, _, h => by
    simp only [renL, SV.ren] at h
    cases h with | one h1 h t => simp [SV.one] at h1
  | .tup c :: l, _, h => by
    simp only [renL, SV.ren] at h
    cases h with | one h1 h t => simp [SV.one] at h1
  | .ifc u s :: l, _, h => by
    simp only [renL, SV.ren] at h
    cases h with
    | one h1 h t => exact .one rfl (by cases h with | ifc h => exact .ifc (Rel.unren hb s h)) (RelC.unren hb l t)
end
end Go.Sy

/-! When one symbolic value says no more than another. -/
namespace Go.Sy
open Go.RowKit
/-- Rows that freeze: an object's name, and what its rows are. -/
abbrev Fzl := List (Nat × Nat × Nat × (Nat → List SV))
/-- Rows that freeze; names that stand for nil slices. -/
structure Fz where
  l : Fzl
  lo : Nat
  hi : Nat
def fzk : Fzl → Nat → Option (Nat × Nat × (Nat → List SV))
  | [], _ => none
  | (k, p) :: r, j => bif k == j then some p else fzk r j
/-- A frozen object read as a row that never turns. -/
def fzR (o : Option (Nat × Nat × (Nat → List SV))) (lo : Nat) (hi : Option Nat) (s' n' : Nat) (g' : Nat → List SV) : Prop := match o with
  | none => False
  | some (s, n, g) => s = s' ∧ (match hi with | none => n' = n | some h => h ≤ n ∧ n' = h - lo) ∧ ∀ i, i < n' → g (lo + i) = g' i
mutual
def VEq (Φ : Fz) : SV → SV → Prop
  | _, .dead => True
  | .int k a, .int k' b => k = k' ∧ a = b
  | .bool a, .bool b => a = b
  | .str a, .str b => a = b
  | .nilp, .nilp => True
  | .nils, .nils => True
  | .nils, .ros _ n _ => n = 0
  | .nils, .key a => Φ.lo ≤ a ∧ a < Φ.hi
  | .nilf, .nilf => True
  | .nilm, .nilm => True
  | .und, .und => True
  | .key a, .key b => a = b
  | .key k, .ros s n g => fzR (fzk Φ.l k) 0 none s n g
  | .sub k s lo hi, .ros s' n g => s = s' ∧ fzR (fzk Φ.l k) lo (some hi) s n g
  | .off a o, .off b p => a = b ∧ o = p
  | .offa a o s i f, .offa b p s' i' f' => a = b ∧ o = p ∧ s = s' ∧ i = i' ∧ f = f'
  | .elt a s i f, .elt b s' i' f' => a = b ∧ s = s' ∧ i = i' ∧ f = f'
  | .sub a s lo hi, .sub b s' lo' hi' => a = b ∧ s = s' ∧ lo = lo' ∧ hi = hi'
  | .sl a s lo n c, .sl b s' lo' n' c' => a = b ∧ s = s' ∧ lo = lo' ∧ n = n' ∧ c = c'
  | .ros s n g, .ros s' n' g' => s = s' ∧ n = n' ∧ ∀ i, i < n → CEq Φ (g i) (g' i)
  | .roe s n g i f, .roe s' n' g' i' f' => s = s' ∧ n = n' ∧ i = i' ∧ f = f' ∧ ∀ i, i < n → CEq Φ (g i) (g' i)
  | .fn f l, .fn f' l' => f = f' ∧ LEq Φ l l'
  | .agg l, .agg l' => CEq Φ l l'
  | .arr s n g, .arr s' n' g' => s = s' ∧ n = n' ∧ ∀ i, i < n → CEq Φ (g i) (g' i)
  | .tup l, .tup l' => LEq Φ l l'
  | .ifc t v, .ifc t' v' => t = t' ∧ VEq Φ v v'
  | _, _ => False
def LEq (Φ : Fz) : List SV → List SV → Prop
  | [], [] => True
  | v :: l, v' :: l' => VEq Φ v v' ∧ LEq Φ l l'
  | _, _ => False
def CEq (Φ : Fz) : List SV → List SV → Prop
  | [], [] => True
  | .arr s n g :: l, .arr s' n' g' :: l' => s = s' ∧ n = n' ∧ (∀ i, i < n → CEq Φ (g i) (g' i)) ∧ CEq Φ l l'
  | v :: l, v' :: l' => v'.one = true ∧ VEq Φ v v' ∧ CEq Φ l l'
  | _, _ => False
end
/-- What freezing asks: the frozen objects read as rows that never turn. -/
structure FzOk (β : List Value) (im : Im) (Φ : Fz) : Prop where
  fz : ∀ k s n g v, fzk Φ.l k = some (s, n, g) → β[k]? = some v → Rel β im (.ros s n g) v
  nl : ∀ k, Φ.lo ≤ k → k < Φ.hi → β[k]? = some (.slice none 0 0)
section
variable {Φ : Fz} {β : List Value} {im : Im}
theorem fzR_sound (hΦ : FzOk β im Φ) {k s' n' : Nat} {g' : Nat → List SV} (e : fzR (fzk Φ.l k) 0 none s' n' g') {v : Value} (h : Rel β im (.key k) v) : Rel β im (.ros s' n' g') v := by
  cases h with
  | key h h1 =>
    unfold fzR at e
    split at e
    · exact e.elim
    · rename_i s n g hk
      obtain ⟨rfl, hn, he⟩ := e
      simp only at hn; subst hn
      have := hΦ.fz _ _ _ _ _ hk h
      cases this with
      | ros rows hr hl hc hm => exact .ros rows (fun i q => by have := he i q; rw [Nat.zero_add] at this; rw [← this]; exact hr i q) hl hc hm
      | ros0 => exact .ros0
theorem fzR_sub (hΦ : FzOk β im Φ) {k s lo hi s' n' : Nat} {g' : Nat → List SV} (e : fzR (fzk Φ.l k) lo (some hi) s' n' g') (es : s = s') {v : Value} (h : Rel β im (.sub k s lo hi) v) : Rel β im (.ros s' n' g') v := by
  unfold fzR at e
  split at e
  · exact e.elim
  · rename_i s0 n g hk
    obtain ⟨rfl, ⟨hhi, hn⟩, he⟩ := e
    subst es hn
    cases h with
    | sub h h1 h2 ha =>
      have := hΦ.fz _ _ _ _ _ hk h
      cases this with
      | ros rows hr hl hc hm =>
        refine .ros (fun i => rows (lo + i)) (fun i q => by rw [← he i q]; exact hr _ (by omega)) (fun i q => hl _ (by omega)) (by omega) fun i q j x ex => ?_
        rcases ha with ha | ⟨rfl, rfl⟩
        · omega
        · have := hm (lo + i) (by omega) j x ex
          rw [Nat.add_mul] at this
          rw [← this]; congr 1; omega
      | ros0 =>
        have e1 : hi = 0 := by omega
        have e2 : lo = 0 := by omega
        subst e1 e2
        exact .ros0
    | sub0 h => exact .ros0
mutual
theorem VEq.sound (hΦ : FzOk β im Φ) : ∀ (s s' : SV) {v : Value}, VEq Φ s s' → Rel β im s v → Rel β im s' v
  | .int k a, s', v, e, h => by cases s' <;> simp only [VEq] at e <;> first | exact .dead | (obtain ⟨rfl, rfl⟩ := e; exact h)
  | .bool a, s', v, e, h => by cases s' <;> simp only [VEq] at e <;> first | exact .dead | (subst e; exact h)
  | .str a, s', v, e, h => by cases s' <;> simp only [VEq] at e <;> first | exact .dead | (subst e; exact h)
  | .nilp, s', v, e, h => by cases s' <;> simp only [VEq] at e <;> first | exact .dead | exact h
  | .nils, s', v, e, h => by cases s' <;> simp only [VEq] at e <;> first | exact .dead | exact h | (subst e; cases h; exact .ros0) | (cases h; exact .key (hΦ.nl _ e.1 e.2) rfl)
  | .nilf, s', v, e, h => by cases s' <;> simp only [VEq] at e <;> first | exact .dead | exact h
  | .nilm, s', v, e, h => by cases s' <;> simp only [VEq] at e <;> first | exact .dead | exact h
  | .und, s', v, e, h => by cases s' <;> simp only [VEq] at e <;> first | exact .dead | exact h
  | .dead, s', v, e, h => by cases s' <;> simp only [VEq] at e <;> exact .dead
  | .key a, s', v, e, h => by cases s' <;> simp only [VEq] at e <;> first | exact .dead | (subst e; exact h) | exact fzR_sound hΦ e h
  | .off a o, s', v, e, h => by cases s' <;> simp only [VEq] at e <;> first | exact .dead | (obtain ⟨rfl, rfl⟩ := e; exact h)
  | .offa a o s i f, s', v, e, h => by cases s' <;> simp only [VEq] at e <;> first | exact .dead | (obtain ⟨rfl, rfl, rfl, rfl, rfl⟩ := e; exact h)
  | .elt a s i f, s', v, e, h => by cases s' <;> simp only [VEq] at e <;> first | exact .dead | (obtain ⟨rfl, rfl, rfl, rfl⟩ := e; exact h)
  | .sub a s lo hi, s', v, e, h => by cases s' <;> simp only [VEq] at e <;> first | exact .dead | (obtain ⟨rfl, rfl, rfl, rfl⟩ := e; exact h) | (obtain ⟨e1, e2⟩ := e; subst e1; exact fzR_sub hΦ e2 rfl h)
  | .sl a s lo n c, s', v, e, h => by cases s' <;> simp only [VEq] at e <;> first | exact .dead | (obtain ⟨rfl, rfl, rfl, rfl, rfl⟩ := e; exact h)
  | .ros s n g, s', v, e, h => by
    cases s' <;> simp only [VEq] at e
    case dead => exact .dead
    case ros s' n' g' =>
      obtain ⟨rfl, rfl, e⟩ := e
      cases h with
      | ros rows h hl hc hm => exact .ros rows (fun i q => CEq.sound hΦ (g i) (g' i) (e i q) (h i q)) hl hc hm
      | ros0 => exact .ros0
  | .roe s n g i f, s', v, e, h => by
    cases s' <;> simp only [VEq] at e
    case dead => exact .dead
    case roe s' n' g' i' f' =>
      obtain ⟨rfl, rfl, rfl, rfl, e⟩ := e
      cases h with | roe rows h hl hi hm => exact .roe rows (fun i q => CEq.sound hΦ (g i) (g' i) (e i q) (h i q)) hl hi hm
  | .fn f l, s', v, e, h => by
    cases s' <;> simp only [VEq] at e
    case dead => exact .dead
    case fn f' l' => obtain ⟨rfl, e⟩ := e; cases h with | fn h => exact .fn (LEq.sound hΦ l l' e h)
  | .agg l, s', v, e, h => by
    cases s' <;> simp only [VEq] at e
    case dead => exact .dead
    case agg l' => cases h with | agg h => exact .agg (CEq.sound hΦ l l' e h)
  | .arr s n g, s', v, e, h => by cases h
  | .un s, s', v, e, h => by cases s' <;> simp only [VEq] at e <;> exact .dead
  | .tup l, s', v, e, h => by
    cases s' <;> simp only [VEq] at e
    case dead => exact .dead
    case tup l' => cases h with | tup h => exact .tup (LEq.sound hΦ l l' e h)
  | .ifc t x, s', v, e, h => by
    cases s' <;> simp only [VEq] at e
    case dead => exact .dead
    case ifc t' x' => obtain ⟨rfl, e⟩ := e; cases h with | ifc h => exact .ifc (VEq.sound hΦ x x' e h)
theorem LEq.sound (hΦ : FzOk β im Φ) : ∀ (l l' : List SV) {vs : List Value}, LEq Φ l l' → RelL β im l vs → RelL β im l' vs
  | [], l', _, e, h => by cases l' <;> simp only [LEq] at e; exact h
  | v :: l, l', _, e, h => by
    cases l' <;> simp only [LEq] at e
    cases h with | cons h t => exact .cons (VEq.sound hΦ v _ e.1 h) (LEq.sound hΦ l _ e.2 t)
theorem CEq.sound (hΦ : FzOk β im Φ) : ∀ (l l' : List SV) {cs : List Value}, CEq Φ l l' → RelC β im l cs → RelC β im l' cs
  | [], l', _, e, h => by cases l' <;> simp only [CEq] at e; exact h
  | .arr s n g :: l, l', _, e, h => by
    cases l' with
    | nil => simp only [CEq] at e
    | cons v' l' =>
      cases v' <;> simp only [CEq, SV.one, VEq, Bool.false_eq_true, false_and] at e
      case arr s' n' g' =>
        obtain ⟨rfl, rfl, e, e2⟩ := e
        cases h with
        | one h1 h t => simp [SV.one] at h1
        | arr rows h hl t => exact .arr rows (fun i q => CEq.sound hΦ (g i) (g' i) (e i q) (h i q)) hl (CEq.sound hΦ l l' e2 t)
      all_goals first | exact e.elim | exact e.2.elim | exact e.2.1.elim
  | .int k a :: l, l', _, e, h => by
    cases l' with
    | nil => simp only [CEq] at e
    | cons v' l' => simp only [CEq] at e; cases h with | one h1 h t => exact .one e.1 (VEq.sound hΦ _ v' e.2.1 h) (CEq.sound hΦ l l' e.2.2 t)
  | .bool a :: l, l', _, e, h => by
    cases l' with
    | nil => simp only [CEq] at e
    | cons v' l' => simp only [CEq] at e; cases h with | one h1 h t => exact .one e.1 (VEq.sound hΦ _ v' e.2.1 h) (CEq.sound hΦ l l' e.2.2 t)
  | .str a :: l, l', _, e, h => by
    cases l' with
    | nil => simp only [CEq] at e
    | cons v' l' => simp only [CEq] at e; cases h with | one h1 h t => exact .one e.1 (VEq.sound hΦ _ v' e.2.1 h) (CEq.sound hΦ l l' e.2.2 t)
  | .nilp :: l, l', _, e, h => by
    cases l' with
    | nil => simp only [CEq] at e
    | cons v' l' => simp only [CEq] at e; cases h with | one h1 h t => exact .one e.1 (VEq.sound hΦ _ v' e.2.1 h) (CEq.sound hΦ l l' e.2.2 t)
  | .nils :: l, l', _, e, h => by
    cases l' with
    | nil => simp only [CEq] at e
    | cons v' l' => simp only [CEq] at e; cases h with | one h1 h t => exact .one e.1 (VEq.sound hΦ _ v' e.2.1 h) (CEq.sound hΦ l l' e.2.2 t)
  | .nilf :: l, l', _, e, h => by
    cases l' with
    | nil => simp only [CEq] at e
    | cons v' l' => simp only [CEq] at e; cases h with | one h1 h t => exact .one e.1 (VEq.sound hΦ _ v' e.2.1 h) (CEq.sound hΦ l l' e.2.2 t)
  | .nilm :: l, l', _, e, h => by
    cases l' with
    | nil => simp only [CEq] at e
    | cons v' l' => simp only [CEq] at e; cases h with | one h1 h t => exact .one e.1 (VEq.sound hΦ _ v' e.2.1 h) (CEq.sound hΦ l l' e.2.2 t)
  | .und :: l, l', _, _, h => by cases h with | one h1 h t => simp [SV.one] at h1
  | .dead :: l, l', _, _, h => by cases h with | one h1 h t => simp [SV.one] at h1
  | .un _ :: l, l', _, _, h => by cases h with | one h1 h t => simp [SV.one] at h1
  | .agg _ :: l, l', _, _, h => by cases h with | one h1 h t => simp [SV.one] at h1
  | .tup _ :: l, l', _, _, h => by cases h with | one h1 h t => simp [SV.one] at h1
  | .key a :: l, l', _, e, h => by
    cases l' with
    | nil => simp only [CEq] at e
    | cons v' l' => simp only [CEq] at e; cases h with | one h1 h t => exact .one e.1 (VEq.sound hΦ _ v' e.2.1 h) (CEq.sound hΦ l l' e.2.2 t)
  | .off a o :: l, l', _, e, h => by
    cases l' with
    | nil => simp only [CEq] at e
    | cons v' l' => simp only [CEq] at e; cases h with | one h1 h t => exact .one e.1 (VEq.sound hΦ _ v' e.2.1 h) (CEq.sound hΦ l l' e.2.2 t)
  | .offa a o s i f :: l, l', _, e, h => by
    cases l' with
    | nil => simp only [CEq] at e
    | cons v' l' => simp only [CEq] at e; cases h with | one h1 h t => exact .one e.1 (VEq.sound hΦ _ v' e.2.1 h) (CEq.sound hΦ l l' e.2.2 t)
  | .elt a s i f :: l, l', _, e, h => by
    cases l' with
    | nil => simp only [CEq] at e
    | cons v' l' => simp only [CEq] at e; cases h with | one h1 h t => exact .one e.1 (VEq.sound hΦ _ v' e.2.1 h) (CEq.sound hΦ l l' e.2.2 t)
  | .sub a s lo hi :: l, l', _, e, h => by
    cases l' with
    | nil => simp only [CEq] at e
    | cons v' l' => simp only [CEq] at e; cases h with | one h1 h t => exact .one e.1 (VEq.sound hΦ _ v' e.2.1 h) (CEq.sound hΦ l l' e.2.2 t)
  | .sl a s lo n c :: l, l', _, e, h => by
    cases l' with
    | nil => simp only [CEq] at e
    | cons v' l' => simp only [CEq] at e; cases h with | one h1 h t => exact .one e.1 (VEq.sound hΦ _ v' e.2.1 h) (CEq.sound hΦ l l' e.2.2 t)
  | .ros s n g :: l, l', _, e, h => by
    cases l' with
    | nil => simp only [CEq] at e
    | cons v' l' => simp only [CEq] at e; cases h with | one h1 h t => exact .one e.1 (VEq.sound hΦ (.ros s n g) v' e.2.1 h) (CEq.sound hΦ l l' e.2.2 t)
  | .roe s n g i f :: l, l', _, e, h => by
    cases l' with
    | nil => simp only [CEq] at e
    | cons v' l' => simp only [CEq] at e; cases h with | one h1 h t => exact .one e.1 (VEq.sound hΦ (.roe s n g i f) v' e.2.1 h) (CEq.sound hΦ l l' e.2.2 t)
  | .fn f c :: l, l', _, e, h => by
    cases l' with
    | nil => simp only [CEq] at e
    | cons v' l' => simp only [CEq] at e; cases h with | one h1 h t => exact .one e.1 (VEq.sound hΦ (.fn f c) v' e.2.1 h) (CEq.sound hΦ l l' e.2.2 t)
  | .ifc u x :: l, l', _, e, h => by
    cases l' with
    | nil => simp only [CEq] at e
    | cons v' l' => simp only [CEq] at e; cases h with | one h1 h t => exact .one e.1 (VEq.sound hΦ (.ifc u x) v' e.2.1 h) (CEq.sound hΦ l l' e.2.2 t)
end
end
end Go.Sy

/-! Heaps: atoms picked out, put back, put together. -/
namespace Go.Sy
open Go.RowKit
/-- Names seen from where ks are the first ones: the others lie behind n. -/
def kap : List Nat → Nat → Nat → Nat
  | [], n, i => n + i
  | k :: _, _, 0 => k
  | _ :: ks, n, i + 1 => kap ks n i
theorem kap_in : ∀ {ks : List Nat} {n i k : Nat}, ks[i]? = some k → kap ks n i = k
  | [], _, _, _, h => by simp at h
  | _ :: _, _, 0, _, h => by simpa [kap] using h
  | _ :: ks, n, i + 1, k, h => by simp only [kap]; exact kap_in (by simpa using h)
theorem kap_out : ∀ {ks : List Nat} {n i : Nat}, ks.length ≤ i → kap ks n i = n + (i - ks.length)
  | [], _, _, _ => by simp [kap]
  | _ :: ks, n, 0, h => by simp at h
  | _ :: ks, n, i + 1, h => by
    simp only [kap]; rw [kap_out (by simpa using h)]; simp
theorem kap_get {β : List Value} {ks : List Nat} (hk : ∀ k ∈ ks, k < β.length) (i : Nat) : β[kap ks β.length i]? = (ks.map fun k => β.getD k undef)[i]? := by
  by_cases h : i < ks.length
  · have h1 : ks[i]? = some ks[i] := List.getElem?_eq_getElem h
    rw [kap_in h1]
    have := hk ks[i] (List.getElem_mem h)
    simp [h, this]
  · rw [kap_out (by omega), List.getElem?_eq_none (by omega), List.getElem?_eq_none (by simp; omega)]
def sets {X : Type} : SH X → List Nat → List (Atom X) → SH X
  | H, k :: ks, A :: As => (sets H ks As).set k A
  | H, _, _ => H
theorem sets_len {X : Type} : ∀ {ks : List Nat} {As : List (Atom X)} {H : SH X}, (sets H ks As).length = H.length
  | [], _, _ => by simp [sets]
  | _ :: _, [], _ => by simp [sets]
  | k :: ks, A :: As, H => by simp [sets, sets_len]
theorem sets_get {X : Type} : ∀ {ks : List Nat} {As : List (Atom X)} {H : SH X} {k : Nat}, k ∉ ks → (sets H ks As)[k]? = H[k]?
  | [], _, _, _, _ => by simp [sets]
  | _ :: _, [], _, _, _ => by simp [sets]
  | j :: ks, A :: As, H, k, h => by
    simp only [sets]
    rw [List.getElem?_set_ne (fun e => h (by simp [e])), sets_get (fun e => h (by simp [e]))]
theorem sets_set {X : Type} : ∀ {ks : List Nat} {As : List (Atom X)} {H : SH X} {k : Nat} {x : Atom X}, k ∉ ks → sets (H.set k x) ks As = (sets H ks As).set k x
  | [], _, _, _, _, _ => by simp [sets]
  | _ :: _, [], _, _, _, _ => by simp [sets]
  | j :: ks, A :: As, H, k, x, h => by
    simp only [sets]
    rw [sets_set (fun e => h (by simp [e])), List.set_comm _ _ (fun e => h (by simp [e]))]
section
variable {X : Type} {O : X → SH X} {im : Im}
theorem HS.more {β : List Value} : ∀ {l : SH X} {vs : List Value} {h h' : Hp}, HS O im β l vs h → (∀ b o s, h b o = some s → h' b o = some s) → HS O im β l vs h'
  | _, _, _, _, .nil, _ => .nil
  | _, _, _, h', .cons (h1 := h1) (h2 := h2) hd hs t, hh => by
    have e : h' = uni (fun b o => match h2 b o with | some _ => none | none => h' b o) h2 := by
      funext b o
      unfold uni
      cases hx : h2 b o with
      | none => cases hy : h' b o <;> simp [hx, hy]
      | some s =>
        have : uni h1 h2 b o = some s := uni_right hd hx
        simp [hx, hh b o s this]
    rw [e]
    refine .cons (fun b o => ?_) (hs.more fun b o s q => ?_) t
    · cases hx : h2 b o with
      | none => exact .inr rfl
      | some s => exact .inl rfl
    · have hn : h2 b o = none := by
        rcases hd b o with z | z
        · rw [z] at q; cases q
        · exact z
      simp only [hn]
      exact hh b o s (uni_left q)
theorem HS.app {β : List Value} : ∀ {l1 : SH X} {vs1 : List Value} {h1 : Hp} {l2 : SH X} {vs2 : List Value} {h2 : Hp}, HS O im β l1 vs1 h1 → HS O im β l2 vs2 h2 → Dj h1 h2 → HS O im β (l1 ++ l2) (vs1 ++ vs2) (uni h1 h2)
  | _, _, _, _, _, _, .nil, t2, d => t2.more fun _ _ _ q => uni_right d q
  | _, _, _, _, _, _, .cons hd hs t, t2, d => by
    have dd := Dj.uni_left.1 d
    rw [uni_assoc]
    exact .cons (Dj.uni_right.2 ⟨hd, dd.1⟩) hs (t.app t2 dd.2)
theorem HS.split {β : List Value} : ∀ (l1 : SH X) (vs1 : List Value) {l2 : SH X} {vs2 : List Value} {h : Hp}, HS O im β (l1 ++ l2) (vs1 ++ vs2) h → l1.length = vs1.length →
    ∃ h1 h2, Dj h1 h2 ∧ h = uni h1 h2 ∧ HS O im β l1 vs1 h1 ∧ HS O im β l2 vs2 h2
  | [], [], _, _, h, s, _ => ⟨emp, h, Dj.emp_left h, rfl, .nil, s⟩
  | [], _ :: _, _, _, _, _, e => by simp at e
  | _ :: _, [], _, _, _, _, e => by simp at e
  | A :: l1, v :: vs1, _, _, _, .cons (h1 := g1) hd hs t, e => by
    obtain ⟨a, b, d, rfl, s1, s2⟩ := HS.split l1 vs1 t (by simpa using e)
    have dd := Dj.uni_right.1 hd
    exact ⟨uni g1 a, b, Dj.uni_left.2 ⟨dd.2, d⟩, by rw [uni_assoc], .cons dd.1 hs s1, s2⟩
theorem HS.renm {σ : Nat → Nat} {β β' : List Value} {im' : Im} (hb : BLe σ β β') (hi : ILe im im') : ∀ {l : SH X} {vs : List Value} {h : Hp}, HS O im β l vs h → HS O im' β' (l.map (Atom.ren σ)) vs h
  | _, _, _, .nil => .nil
  | _, _, _, .cons hd hs t => .cons hd (hs.ren hb hi) (t.renm hb hi)
theorem Sat.unren {σ : Nat → Nat} {β β0 : List Value} (hb : ∀ k : Nat, β[σ k]? = β0[k]?) {A : Atom X} {v : Value} {h : Hp} (s : Sat O im β (A.ren σ) v h) : Sat O im β0 A v h := by
  cases A with
  | gone => exact .gone
  | mem vs => cases s with | mem hr hh => exact .mem (RelC.unren hb _ hr) hh
  | vec sz n g =>
    cases s with
    | vec hc rows hr hl hh => exact .vec hc rows (fun i q => RelC.unren hb _ (hr i q)) hl hh
    | vec0 => exact .vec0
  | obj x => cases s with | obj hs h0 hh => exact .obj hs h0 hh
theorem HS.unren {σ : Nat → Nat} {β β0 : List Value} (hb : ∀ k : Nat, β[σ k]? = β0[k]?) : ∀ {l : SH X} {vs : List Value} {h : Hp}, HS O im β (l.map (Atom.ren σ)) vs h → HS O im β0 l vs h
  | [], _, _, s => by cases s; exact .nil
  | A :: l, _, _, s => by
    rw [List.map_cons] at s
    cases s with | cons hd hs t => exact .cons hd (hs.unren hb) (HS.unren hb t)
/-- Atoms picked out; others may be put in their place. -/
theorem HS.pick {β0 : List Value} : ∀ (ks : List Nat) {H : SH X} {β : List Value} {h : Hp}, HS O im β0 H β h → ks.Nodup → (∀ k ∈ ks, k < H.length) →
    ∃ h1 h2, Dj h1 h2 ∧ h = uni h1 h2 ∧ HS O im β0 (ks.map fun k => H.getD k .gone) (ks.map fun k => β.getD k undef) h1 ∧
      ∀ im' β0', ILe im im' → BLe id β0 β0' → ∀ As h1', As.length = ks.length → Dj h1' h2 → HS O im' β0' As (ks.map fun k => β.getD k undef) h1' → HS O im' β0' (sets H ks As) β (uni h1' h2)
  | [], H, β, h, s, _, _ => ⟨emp, h, Dj.emp_left h, rfl, .nil, fun im' β0' hi hb As h1' e d s' => by
      have : As = [] := List.length_eq_zero_iff.1 e
      subst this
      simp only [sets]
      exact (s.mono hb hi).more fun _ _ _ q => uni_right d q⟩
  | k :: ks, H, β, h, s, hn, hk => by
    have hkl : k < H.length := hk k (by simp)
    obtain ⟨hnk, hn'⟩ := List.nodup_cons.1 hn
    obtain ⟨v, g1, g2, e, d, rfl, sa, back⟩ := s.take (List.getElem?_eq_getElem hkl)
    have s2 := back .gone emp (Dj.emp_left _) .gone
    rw [uni_emp] at s2
    obtain ⟨p1, p2, dp, rfl, sp, bp⟩ := HS.pick ks s2 hn' (fun j hj => by rw [List.length_set]; exact hk j (by simp [hj]))
    have dd := Dj.uni_right.1 d
    have hat : (ks.map fun j => (H.set k Atom.gone).getD j .gone) = ks.map fun j => H.getD j .gone := by
      apply List.map_congr_left
      intro j hj
      have : k ≠ j := fun e => hnk (e ▸ hj)
      simp only [List.getD_eq_getElem?_getD]
      rw [List.getElem?_set_ne this]
    rw [hat] at sp
    refine ⟨uni g1 p1, p2, Dj.uni_left.2 ⟨dd.2, dp⟩, by rw [uni_assoc], ?_, ?_⟩
    · have e1 : H.getD k .gone = H[k] := by simp [hkl]
      have e2 : β.getD k undef = v := by simp [List.getD_eq_getElem?_getD, e]
      rw [List.map_cons, List.map_cons, e1, e2]
      exact .cons dd.1 sa sp
    · intro im' β0' hi hb As h1' hl d' s'
      cases As with
      | nil => simp at hl
      | cons A As =>
        rw [List.map_cons] at s'
        cases s' with
        | @cons _ _ _ _ _ a1 a2 hd hs t =>
          have d2 := Dj.uni_left.1 d'
          have s3 := bp im' β0' hi hb As a2 (by simpa using hl) d2.2 t
          rw [sets_set hnk] at s3
          have hlen : k < ((sets H ks As).set k Atom.gone).length := by rw [List.length_set, sets_len]; exact hkl
          obtain ⟨u, q1, q2, eu, dq, equ, _, back3⟩ := s3.take (k := k) (A := .gone) (by rw [List.getElem?_set_self (by rw [sets_len]; exact hkl)])
          have e2 : β.getD k undef = u := by simp [List.getD_eq_getElem?_getD, eu]
          rw [e2] at hs
          have da : Dj a1 (uni a2 p2) := Dj.uni_right.2 ⟨hd, d2.1⟩
          have dq2 : Dj a1 q2 := by
            rw [equ] at da; exact (Dj.uni_right.1 da).2
          have s4 := back3 A a1 dq2 hs
          rw [List.set_set] at s4
          simp only [sets]
          rw [uni_assoc]
          refine s4.more fun b o x q => ?_
          unfold uni at q
          cases hx : a1 b o with
          | some y => rw [hx] at q; simp only at q; rw [← q]; exact uni_left hx
          | none =>
            rw [hx] at q; simp only at q
            refine uni_right da ?_
            rw [equ]; exact uni_right dq q
theorem map_in {ks : List Nat} {β : List Value} {k : Nat} : (ks.map fun j => β.getD j undef)[k]? = (ks[k]?).map fun j => β.getD j undef := by simp
end
end Go.Sy

/-! When a frame and a heap fit where others are wanted. -/
namespace Go.Sy
open Go.RowKit
section
variable {X : Type}
def AEq (Φ : Fz) : Atom X → Atom X → Prop
  | _, .gone => True
  | .mem a, .mem b => CEq Φ a b
  | .vec s n g, .vec s' n' g' => s = s' ∧ n = n' ∧ ∀ i, i < n → CEq Φ (g i) (g' i)
  | .obj x, .obj y => x = y
  | _, _ => False
def AEqs (Φ : Fz) : List (Atom X) → List (Atom X) → Prop
  | [], [] => True
  | a :: l, b :: l' => AEq Φ a b ∧ AEqs Φ l l'
  | _, _ => False
/-- Where an atom comes from: one that is there, or an object made of some. -/
inductive Pk (X : Type)
  | at (k : Nat) | ob (x : X) (ks : List Nat)
def Pk.keys : Pk X → List Nat
  | .at k => [k]
  | .ob _ ks => ks
def Pk.root : Pk X → Nat
  | .at k => k
  | .ob _ ks => ks.headD 0
def hdMem : SH X → Bool
  | .mem _ :: _ => true
  | .obj _ :: _ => true
  | _ => false
/-- What lies at k serves as A; names behind the heap's end stand for nil slices. -/
def AOk (Φ : Fz) (H : SH X) (k : Nat) (A : Atom X) : Prop := match H[k]? with
  | some A0 => AEq Φ A0 A
  | none => Φ.lo ≤ k ∧ k < Φ.hi ∧ (match A with | .vec _ n _ => n = 0 | .gone => True | _ => False)
def AOks (Φ : Fz) (H : SH X) : List Nat → List (Atom X) → Prop
  | [], [] => True
  | k :: ks, A :: As => AOk Φ H k A ∧ AOks Φ H ks As
  | _, _ => False
def PkOk (O : X → SH X) (Φ : Fz) (H : SH X) (σ : Nat → Nat) (N : Nat) : Pk X → Atom X → Prop
  | .at k, A => AOk Φ H k (A.ren σ)
  | .ob x ks, .obj y => x = y ∧ hdMem (O x) = true ∧ AOks Φ H ks ((O x).map (Atom.ren (kap ks N)))
  | .ob _ _, _ => False
def PksOk (O : X → SH X) (Φ : Fz) (H : SH X) (σ : Nat → Nat) (N : Nat) : List (Pk X) → SH X → Prop
  | [], [] => True
  | p :: L, A :: H' => PkOk O Φ H σ N p A ∧ PksOk O Φ H σ N L H'
  | _, _ => False
def fzl (H : SH X) : List Nat → Fzl
  | [] => []
  | k :: r => match H[k]? with | some (.vec s n g) => (k, s, n, g) :: fzl H r | _ => fzl H r
def FrOk (Φ : Fz) (σ : Nat → Nat) (ρ : Fr) : Fr → Prop
  | [] => True
  | (t, v) :: r => VEq Φ (lk ρ t) (v.ren σ) ∧ FrOk Φ σ ρ r
variable {O : X → SH X} {im : Im} {β : List Value} {Φ : Fz}
theorem AEq.sound (hΦ : FzOk β im Φ) {A A' : Atom X} {v : Value} {h : Hp} (e : AEq Φ A A') (s : Sat O im β A v h) : Sat O im β A' v h := by
  cases A' with
  | gone => exact .gone
  | mem b => cases A <;> simp only [AEq] at e; cases s with | mem hr hh => exact .mem (CEq.sound hΦ _ _ e hr) hh
  | vec s' n' g' =>
    cases A <;> simp only [AEq] at e
    obtain ⟨rfl, rfl, e⟩ := e
    cases s with
    | vec hc rows hr hl hh => exact .vec hc rows (fun i q => CEq.sound hΦ _ _ (e i q) (hr i q)) hl hh
    | vec0 => exact .vec0
  | obj y => cases A <;> simp only [AEq] at e; subst e; exact s
theorem AEqs.sound (hΦ : FzOk β im Φ) : ∀ {l l' : SH X} {vs : List Value} {h : Hp}, AEqs Φ l l' → HS O im β l vs h → HS O im β l' vs h
  | [], [], _, _, _, s => s
  | [], _ :: _, _, _, e, _ => by simp only [AEqs] at e
  | _ :: _, [], _, _, e, _ => by simp only [AEqs] at e
  | a :: l, b :: l', _, _, e, s => by
    simp only [AEqs] at e
    cases s with | cons hd hs t => exact .cons hd (AEq.sound hΦ e.1 hs) (AEqs.sound hΦ e.2 t)
theorem FrOk.sound (hΦ : FzOk β im Φ) {σ : Nat → Nat} {β0 : List Value} (hb : ∀ k : Nat, β[σ k]? = β0[k]?) {ρ : Fr} {tm : Array Value} (hf : FrRel β im ρ tm) : ∀ {ρ' : Fr}, FrOk Φ σ ρ ρ' → FrRel β0 im ρ' tm
  | [], _, t => by rw [lk_nil]; exact .dead
  | (d, v) :: r, h, t => by
    simp only [FrOk] at h
    by_cases e : d = t
    · subst e; rw [lk_hit]; exact Rel.unren hb v (VEq.sound hΦ _ _ h.1 (hf d))
    · rw [lk_miss (by simpa using e)]; exact FrOk.sound hΦ hb hf h.2 t
theorem fzl_get {H : SH X} : ∀ {l : List Nat} {k s n : Nat} {g : Nat → List SV}, fzk (fzl H l) k = some (s, n, g) → k ∈ l ∧ H[k]? = some (.vec s n g)
  | [], _, _, _, _, e => by simp [fzl, fzk] at e
  | j :: l, k, s, n, g, e => by
    simp only [fzl] at e
    split at e
    · rename_i s0 n0 g0 hj
      simp only [fzk] at e
      by_cases q : j = k
      · subst q
        simp at e
        obtain ⟨rfl, rfl, rfl⟩ := e
        exact ⟨by simp, hj⟩
      · have : (j == k) = false := by simpa using q
        rw [this] at e; simp at e
        obtain ⟨a, b⟩ := fzl_get e
        exact ⟨by simp [a], b⟩
    · obtain ⟨a, b⟩ := fzl_get e
      exact ⟨by simp [a], b⟩
theorem HS.at_mem {β0 : List Value} : ∀ {l : SH X} {vs : List Value} {h : Hp} {i : Nat} {A : Atom X} {v : Value}, HS O im β0 l vs h → l[i]? = some A → vs[i]? = some v → ∃ h1, (∀ b o s, h1 b o = some s → h b o = some s) ∧ Sat O im β0 A v h1
  | [], _, _, _, _, _, _, e, _ => by simp at e
  | B :: l, _, _, 0, A, v, .cons (h1 := g1) hd hs t, e, e2 => by
    simp at e e2; subst e e2
    exact ⟨g1, fun _ _ _ q => uni_left q, hs⟩
  | B :: l, _, _, i + 1, A, v, .cons (h1 := g1) hd hs t, e, e2 => by
    obtain ⟨h1, a, b⟩ := t.at_mem (by simpa using e) (by simpa using e2)
    exact ⟨h1, fun _ _ _ q => uni_right hd (a _ _ _ q), b⟩
theorem AOk.sound {H H1 : SH X} (hΦ : FzOk β im Φ) (hH : ∀ k A, H[k]? = some A → H1.getD k .gone = A) {k : Nat} {A : Atom X} {h : Hp} (e : AOk Φ H k A) (s : Sat O im β (H1.getD k .gone) (β.getD k undef) h) :
    Sat O im β A (β.getD k undef) h := by
  unfold AOk at e
  split at e
  · rename_i A0 hk
    rw [hH k A0 hk] at s
    exact AEq.sound hΦ e s
  · obtain ⟨e1, e2, e3⟩ := e
    have hv : β.getD k undef = .slice none 0 0 := by rw [List.getD_eq_getElem?_getD, hΦ.nl k e1 e2]; rfl
    rw [hv]
    cases A <;> simp only at e3
    · exact .gone
    · subst e3; exact .vec0
theorem AOks.sound {H H1 : SH X} (hΦ : FzOk β im Φ) (hH : ∀ k A, H[k]? = some A → H1.getD k .gone = A) : ∀ {ks : List Nat} {As : SH X} {h : Hp}, AOks Φ H ks As →
    HS O im β (ks.map fun k => H1.getD k .gone) (ks.map fun k => β.getD k undef) h → HS O im β As (ks.map fun k => β.getD k undef) h
  | [], [], _, _, s => s
  | [], _ :: _, _, e, _ => by simp only [AOks] at e
  | _ :: _, [], _, e, _ => by simp only [AOks] at e
  | k :: ks, A :: As, _, e, s => by
    simp only [AOks] at e
    simp only [List.map_cons] at s ⊢
    cases s with | cons hd hs t => exact .cons hd (AOk.sound hΦ hH e.1 hs) (AOks.sound hΦ hH e.2 t)
theorem HS.packs {β' : List Value} {σ : Nat → Nat} {N : Nat} {H H1 : SH X} (hΦ : FzOk β im Φ) (hH : ∀ k A, H[k]? = some A → H1.getD k .gone = A) (hb : ∀ k : Nat, β[σ k]? = β'[k]?) (hlen : N = β.length) :
    ∀ {L : List (Pk X)} {H' : SH X} {h : Hp}, (∀ k ∈ L.flatMap Pk.keys, k < β.length) → PksOk O Φ H σ N L H' →
      HS O im β ((L.flatMap Pk.keys).map fun k => H1.getD k .gone) ((L.flatMap Pk.keys).map fun k => β.getD k undef) h → HS O im β' H' (L.map fun p => β.getD p.root undef) h
  | [], [], _, _, _, _ => .nil
  | [], _ :: _, _, _, e, _ => by simp only [PksOk] at e
  | _ :: _, [], _, _, e, _ => by simp only [PksOk] at e
  | .at k :: L, A :: H', _, hk, e, s => by
    simp only [PksOk, PkOk] at e
    simp only [List.flatMap_cons, Pk.keys, List.singleton_append, List.map_cons] at s hk ⊢
    cases s with
    | cons hd hs t => exact .cons hd (Sat.unren hb (AOk.sound hΦ hH e.1 hs)) (HS.packs hΦ hH hb hlen (fun j hj => hk j (by simp only [List.mem_cons]; exact .inr hj)) e.2 t)
  | .ob x ks :: L, A :: H', _, hk, e, s => by
    simp only [PksOk] at e
    cases A <;> simp only [PkOk] at e <;> try exact e.1.elim
    obtain ⟨⟨rfl, hm, ha⟩, e2⟩ := e
    simp only [List.flatMap_cons, Pk.keys, List.map_append] at s hk
    obtain ⟨h1, h2, d, rfl, s1, s2⟩ := HS.split _ _ s (by simp)
    rw [List.map_cons]
    refine .cons d ?_ (HS.packs hΦ hH hb hlen (fun j hj => hk j (by simp only [List.mem_append]; exact .inr hj)) e2 s2)
    have hks : ∀ k ∈ ks, k < β.length := fun j hj => hk j (by simp only [List.mem_append]; exact .inl hj)
    have s3 := HS.unren (β0 := ks.map fun k => β.getD k undef) (fun i => by rw [hlen]; exact kap_get hks i) (AOks.sound hΦ hH ha s1)
    have hr : ∃ a, β.getD (Pk.root (X := X) (.ob x ks)) undef = .pointer (some a) ∧ (ks.map fun k => β.getD k undef)[0]? = some (.pointer (some a)) := by
      clear s s1 hk ha
      cases ks with
      | nil => cases ho : O x <;> rw [ho] at s3 hm <;> simp [hdMem] at hm <;> cases s3
      | cons k ks =>
        simp only [Pk.root, List.headD_cons, List.map_cons, List.getElem?_cons_zero, Option.some.injEq]
        cases ho : O x with
        | nil => rw [ho] at hm; simp [hdMem] at hm
        | cons B t =>
          rw [ho] at s3 hm
          simp only [List.map_cons] at s3
          cases s3 with
          | cons hd hs tt =>
            cases B <;> simp [hdMem] at hm
            · generalize β.getD k undef = u at hs
              cases hs
              exact ⟨_, rfl, rfl⟩
            · generalize β.getD k undef = u at hs
              cases hs
              exact ⟨_, rfl, rfl⟩
    obtain ⟨a, ha1, ha2⟩ := hr
    rw [ha1]
    exact .obj s3 ha2 fun _ _ _ q => q
theorem HS.gones {vs : List Value} : ∀ {n : Nat}, vs.length = n → HS O im β (List.replicate n Atom.gone) vs emp := by
  induction vs with
  | nil => intro n e; simp at e; subst e; exact .nil
  | cons v vs ih =>
    intro n e
    cases n with
    | zero => simp at e
    | succ n =>
      rw [List.replicate_succ]
      have := HS.cons (h1 := emp) (Dj.emp_left _) (Sat.gone (O := O) (im := im) (β := β) (v := v)) (ih (n := n) (by simpa using e))
      rwa [uni_emp] at this
theorem Ent.of {np cnt : Nat} {ρ ρ' : Fr} {H H' : SH X} (L : List (Pk X)) (fz : List Nat) (hn : (L.flatMap Pk.keys ++ fz).Nodup) (hk : ∀ k ∈ L.flatMap Pk.keys ++ fz, k < H.length + cnt)
    (ha : PksOk O ⟨fzl H fz, H.length, H.length + cnt⟩ H (kap (L.map Pk.root) (H.length + cnt)) (H.length + cnt) L H') (hr : FrOk ⟨fzl H fz, H.length, H.length + cnt⟩ (kap (L.map Pk.root) (H.length + cnt)) ρ ρ')
    (hp : ∀ k, k < np → k < H.length ∧ (L.map Pk.root)[k]? = some k) : Ent O np ρ H ρ' H' := by
  intro β0 im h hs0 hdj
  have hlen0 := hs0.len
  obtain ⟨β, hβ⟩ : ∃ β, β = β0 ++ List.replicate cnt (Value.slice none 0 0) := ⟨_, rfl⟩
  obtain ⟨H1, hH1⟩ : ∃ H1, H1 = H ++ List.replicate cnt (Atom.gone (X := X)) := ⟨_, rfl⟩
  have hs : HS O im β H1 β h := by
    have := (HS.mono (BLe.app β0 (List.replicate cnt (Value.slice none 0 0))) (ILe.refl im) hs0).app (HS.gones (n := cnt) (vs := List.replicate cnt (Value.slice none 0 0)) (by simp)) (Dj.emp_left h).symm
    have e : uni h emp = h := by rw [uni_comm (Dj.emp_left h).symm, uni_emp]
    rw [e, ← hβ, ← hH1] at this
    exact this
  have hH : ∀ k A, H[k]? = some A → H1.getD k .gone = A := fun k A q => by
    rw [hH1, List.getD_eq_getElem?_getD, List.getElem?_append_left (List.getElem?_eq_some_iff.1 q).1, q]; rfl
  have hlen : H.length + cnt = β.length := by rw [hβ]; simp; omega
  have hlen1 : H1.length = H.length + cnt := by rw [hH1]; simp
  have hle0 : BLe id β0 β := by rw [hβ]; exact BLe.app _ _
  obtain ⟨h1, h2, d, rfl, s1, _⟩ := hs.pick _ hn (fun k q => by rw [hlen1]; exact hk k q)
  rw [List.map_append, List.map_append] at s1
  obtain ⟨hL, hF, d2, rfl, sL, sF⟩ := HS.split _ _ s1 (by simp)
  let im' : Im := fun b o => match im b o with | some v => some v | none => match hF b o with | some (.cell v) => some v | _ => none
  have hi : ILe im im' := fun b o v e => by simp only [im', e]
  -- an object's keys are not none
  have hne : ∀ {M : List (Pk X)} {H' : SH X} {Φ : Fz} {σ : Nat → Nat} {N : Nat}, PksOk O Φ H σ N M H' → ∀ x, Pk.ob x [] ∉ M := by
    intro M
    induction M with
    | nil => intro _ _ _ _ _ x; simp
    | cons p M ih =>
      intro H' Φ σ N e x
      cases H' with
      | nil => simp only [PksOk] at e
      | cons A H' =>
        simp only [PksOk] at e
        intro hm
        rcases List.mem_cons.1 hm with q | q
        · subst q
          cases A <;> simp only [PkOk] at e <;> try exact e.1.elim
          obtain ⟨⟨rfl, q1, q2⟩, _⟩ := e
          cases ho : O x <;> rw [ho] at q1 q2 <;> simp [hdMem, AOks] at q1 q2
        · exact ih e.2 x q
  have hroot' : ∀ k ∈ L.map Pk.root, k < β.length := by
    intro k hk2
    obtain ⟨p, hp1, rfl⟩ := List.mem_map.1 hk2
    cases p with
    | «at» j => rw [← hlen]; exact hk j (List.mem_append_left _ (List.mem_flatMap.2 ⟨_, hp1, by simp [Pk.keys]⟩))
    | ob x ks =>
      cases ks with
      | nil => exact absurd hp1 (hne ha x)
      | cons j js => rw [← hlen]; exact hk j (List.mem_append_left _ (List.mem_flatMap.2 ⟨_, hp1, by simp [Pk.keys]⟩))
  have hΦ : FzOk β im' ⟨fzl H fz, H.length, H.length + cnt⟩ := by
    refine ⟨fun k s n g v e ev => ?_, fun k q1 q2 => ?_⟩
    · obtain ⟨hkf, hHk⟩ := fzl_get e
      obtain ⟨i, hi2, rfl⟩ := List.getElem_of_mem hkf
      obtain ⟨g1, hsub, sat⟩ := sF.at_mem (i := i) (A := .vec s n g) (v := v) (by rw [List.getElem?_map, List.getElem?_eq_getElem hi2]; simp only [Option.map_some]; rw [hH _ _ hHk])
        (by rw [List.getElem?_map, List.getElem?_eq_getElem hi2]; simp only [Option.map_some]; rw [List.getD_eq_getElem?_getD, ev]; rfl)
      have hin : ∀ b o x, g1 b o = some (.cell x) → im' b o = some x := by
        intro b o x q
        have q2 := hsub b o _ q
        have hn : im b o = none := by
          cases hx : im b o with
          | none => rfl
          | some y =>
            have := hdj b o y hx
            rw [uni_left (uni_right d2 q2)] at this; cases this
        simp only [im', hn, q2]
      cases sat with
      | vec hc rows hr hl hh => exact .ros rows (fun i q => RelC.mono (BLe.refl β) hi (hr i q)) (fun i q => hl i (by omega)) hc fun i q j x ex => hin _ _ _ (hh i (by omega) j x ex)
      | vec0 => exact .ros0
    · simp only at q1 q2
      rw [hβ, List.getElem?_append_right (by omega), List.getElem?_replicate, if_pos (by omega)]
  have hb : ∀ i, β[kap (L.map Pk.root) (H.length + cnt) i]? = (L.map fun p => β.getD p.root undef)[i]? := by
    intro i
    rw [hlen, kap_get hroot' i, List.map_map]; rfl
  refine ⟨L.map fun p => β.getD p.root undef, im', hL, hi, fun b o v e => ?_, fun b o s q => uni_left (uni_left q), ?_, fun k hk2 => ?_, fun tm hf => ?_⟩
  · simp only [im'] at e
    split at e
    · left; rw [← e]; assumption
    · rename_i hn
      split at e
      · rename_i u q
        injection e with e; subst e
        right
        refine ⟨uni_left (uni_right d2 q), ?_⟩
        rcases d2 b o with z | z
        · exact z
        · rw [z] at q; cases q
      · cases e
  · exact HS.packs hΦ hH hb hlen (fun k q => by rw [← hlen]; exact hk k (List.mem_append_left _ q)) ha (HS.mono (BLe.refl β) hi sL)
  · obtain ⟨q1, q2⟩ := hp k hk2
    rw [← hb k, kap_in q2, hβ, List.getElem?_append_left (by omega)]
  · exact FrOk.sound hΦ hb (fun t => Rel.mono hle0 hi (hf t)) hr
theorem HS.take2 {l : SH X} {vs : List Value} {h : Hp} {k : Nat} {A : Atom X} (s : HS O im β l vs h) (hk : l[k]? = some A) :
    ∃ v h1 h2, vs[k]? = some v ∧ Dj h1 h2 ∧ h = uni h1 h2 ∧ Sat O im β A v h1 ∧
      ∀ β' A' h1', BLe id β β' → Dj h1' h2 → Sat O im β' A' v h1' → HS O im β' (l.set k A') vs (uni h1' h2) := by
  induction l generalizing vs h k with
  | nil => simp at hk
  | cons B l ih =>
    cases s with
    | @cons _ _ _ v vs g1 g2 hd hb ht =>
      cases k with
      | zero =>
        simp at hk; subst hk
        exact ⟨v, g1, g2, rfl, hd, rfl, hb, fun β' A' h1' b d' s' => by simpa using HS.cons d' s' (HS.mono b (ILe.refl im) ht)⟩
      | succ k =>
        simp at hk
        obtain ⟨u, h1, h2, e, d, rfl, sa, back⟩ := ih ht hk
        have hd' := Dj.uni_right.1 hd
        refine ⟨u, h1, uni g1 h2, by simpa using e, Dj.uni_right.2 ⟨hd'.1.symm, d⟩, ?_, sa, ?_⟩
        · rw [← uni_assoc, ← uni_assoc, uni_comm hd'.1]
        · intro β' A' h1' b d' s'
          have dd := Dj.uni_right.1 d'
          have := back β' A' h1' b dd.2 s'
          have e2 : uni h1' (uni g1 h2) = uni g1 (uni h1' h2) := by rw [← uni_assoc, ← uni_assoc, uni_comm dd.1]
          rw [e2, List.set_cons_succ]
          exact .cons (Dj.uni_right.2 ⟨dd.1.symm, hd'.2⟩) (hb.mono b (ILe.refl im)) this
theorem Dj.sub {h1 h1' h2 : Hp} (d : Dj h1 h2) (hh : ∀ b o s, h1' b o = some s → h1 b o = some s) : Dj h1' h2 := fun b o => by
  rcases d b o with z | z
  · left
    cases hq : h1' b o with
    | none => rfl
    | some s => have := hh b o s hq; rw [z] at this; cases this
  · exact .inr z
theorem uni_sub {h1 h1' h2 : Hp} (hh : ∀ b o s, h1' b o = some s → h1 b o = some s) (d : Dj h1 h2) : ∀ b o s, uni h1' h2 b o = some s → uni h1 h2 b o = some s := fun b o s q => by
  unfold uni at q
  cases hx : h1' b o with
  | some y => rw [hx] at q; simp only at q; rw [← q]; exact uni_left (hh _ _ _ hx)
  | none => rw [hx] at q; exact uni_right d q
/-- An object opened. -/
theorem Ent.open {np : Nat} {ρ : Fr} {H : SH X} {k : Nat} {x : X} {A0 : Atom X} {As : SH X} (hk : H[k]? = some (.obj x)) (ho : O x = A0 :: As) (hnp : np ≤ H.length) :
    Ent O np ρ H ρ (H.set k (A0.ren (kap [k] H.length)) ++ As.map (Atom.ren (kap [k] H.length))) := by
  intro β im h hs hdj
  have hlen := hs.len
  obtain ⟨v, g1, g2, e, d, rfl, sa, back⟩ := hs.take2 hk
  cases sa with
  | @obj _ βx _ a _ h' hx h0 hh =>
    rw [ho] at hx
    cases hx with
    | @cons _ _ _ v0 βs a1 a2 hd s0 st =>
      simp at h0; subst h0
      have hle : BLe (kap [k] H.length) (.pointer (some a) :: βs) (β ++ βs) := by
        intro i u hu
        cases i with
        | zero =>
          simp at hu; subst hu
          simp only [kap]
          rw [List.getElem?_append_left (List.getElem?_eq_some_iff.1 e).1]; exact e
        | succ i =>
          simp only [kap, hlen]
          rw [List.getElem?_append_right (by omega)]
          simpa using hu
      have d1 : Dj a1 g2 := d.sub fun b o s q => hh b o s (uni_left q)
      have d2 : Dj a2 g2 := d.sub fun b o s q => hh b o s (uni_right hd q)
      have t1 := back (β ++ βs) _ a1 (BLe.app β βs) d1 (s0.ren hle (ILe.refl im))
      have t2 := st.renm hle (ILe.refl im)
      refine ⟨β ++ βs, im, uni (uni a1 g2) a2, ILe.refl im, fun b o v q => .inl q, fun b o s q => ?_, t1.app t2 (Dj.uni_left.2 ⟨hd, d2.symm⟩), fun j hj => ?_, fun tm hf t => Rel.mono (BLe.app β βs) (ILe.refl im) (hf t)⟩
      · have e3 : uni (uni a1 g2) a2 = uni (uni a1 a2) g2 := by rw [uni_assoc, uni_assoc, uni_comm d2.symm]
        rw [e3] at q
        exact uni_sub hh d b o s q
      · rw [List.getElem?_append_left (by omega)]
theorem Ent.refl {np : Nat} {ρ : Fr} {H : SH X} : Ent O np ρ H ρ H := fun β im h hs _ => ⟨β, im, h, ILe.refl im, fun _ _ _ q => .inl q, fun _ _ _ q => q, hs, fun _ _ => rfl, fun _ q => q⟩
theorem Ent.trans {np : Nat} {ρ1 ρ2 ρ3 : Fr} {H1 H2 H3 : SH X} (e1 : Ent O np ρ1 H1 ρ2 H2) (e2 : Ent O np ρ2 H2 ρ3 H3) : Ent O np ρ1 H1 ρ3 H3 := by
  intro β im h hs hdj
  obtain ⟨β2, im2, h2, i1, m1, s1, hs2, k1, f1⟩ := e1 β im h hs hdj
  obtain ⟨β3, im3, h3, i2, m2, s2, hs3, k2, f2⟩ := e2 β2 im2 h2 hs2 fun b o v q => by
    rcases m1 b o v q with z | ⟨_, z⟩
    · cases hx : h2 b o with
      | none => rfl
      | some s => have := hdj b o v z; rw [s1 b o s hx] at this; cases this
    · exact z
  refine ⟨β3, im3, h3, ILe.trans i1 i2, fun b o v q => ?_, fun b o s q => s1 b o s (s2 b o s q), hs3, fun k hk => (k2 k hk).trans (k1 k hk), fun tm q => f2 tm (f1 tm q)⟩
  rcases m2 b o v q with z | ⟨z1, z2⟩
  · rcases m1 b o v z with y | ⟨y1, y2⟩
    · exact .inl y
    · refine .inr ⟨y1, ?_⟩
      cases hx : h3 b o with
      | none => rfl
      | some s => have := s2 b o s hx; rw [y2] at this; cases this
  · exact .inr ⟨s1 b o _ z1, z2⟩
end
end Go.Sy

/-! What a call gives back; contracts of functions. -/
namespace Go.Sy
open Go.RowKit
section
variable {P : Program} {w : World}
theorem loadCellsFrom_same {a : Addr} : ∀ (n i : Nat) (acc : Array Value) {v : Array Value} {w' : World}, (loadCellsFrom a i n acc).run P w = .ok v w' → w' = w
  | 0, i, acc, v, w', h => by simp [loadCellsFrom] at h; exact h.2.symm
  | n + 1, i, acc, v, w', h => by
    simp only [loadCellsFrom, Sem.run_bind, run_load] at h
    cases hc : w.cell? (a.add i) with
    | some x => rw [hc] at h; simp only [Result.andThen_ok] at h; exact loadCellsFrom_same n _ _ h
    | none =>
      rw [hc] at h
      simp only at h
      cases hf : w.farLoad P (a.add i) (Mode.plain == Mode.atomic) with
      | error e => simp [hf, Result.andThen] at h
      | ok q => simp only [hf, Result.andThen_ok] at h; exact loadCellsFrom_same n _ _ h
theorem loadVar_same {t : TypeId} {n : Option Nat} (ht : aggN P t = some n) {a : Addr} {v : Value} {w' : World} (h : (loadVar t a).run P w = .ok v w') : w' = w := by
  cases n with
  | none =>
    simp only [loadVar, Sem.run_bind, run_isAgg_none ht, Result.andThen_ok, Bool.false_eq_true, if_false, run_load] at h
    cases hc : w.cell? a with
    | some x => rw [hc] at h; simp at h; exact h.2.symm
    | none =>
      rw [hc] at h
      simp only at h
      cases hf : w.farLoad P a (Mode.plain == Mode.atomic) with
      | error e => simp [hf] at h
      | ok q => simp only [hf] at h; injection h with _ h; exact h.symm
  | some m =>
    obtain ⟨h1, h2⟩ := run_isAgg_some (w := w) ht
    simp only [loadVar, Sem.run_bind, h1, Result.andThen_ok, if_true, run_sizeOf h2, loadCells] at h
    cases hc : (loadCellsFrom a 0 m #[]).run P w with
    | halt x y => rw [hc] at h; simp [Result.andThen] at h
    | ok x y => rw [hc] at h; simp at h; have := loadCellsFrom_same _ _ _ hc; rw [← h.2, this]
theorem loadAt_as {t : TypeId} {n : Option Nat} (ht : aggN P t = some n) {p v : Value} {w' : World} (h : (Instr.loadAt t p).run P w = .ok v w') :
    w' = w ∧ (do loadVar t (← asAddr p) : Sem Value).run P w = .ok v w := by
  simp only [Instr.loadAt, Sem.run_bind] at h
  cases p <;> simp [Instr.sureAddr] at h
  rename_i a
  cases a with
  | none => simp [Instr.sureAddr] at h
  | some a =>
    simp [Instr.sureAddr] at h
    have e := loadVar_same ht h
    subst e
    exact ⟨rfl, by simp [asAddr, h]⟩
end
def rvRun (tm : Array Value) : ResultVar → Sem Value := fun
  | .tmp t => pure (tm.getD t undef)
  | .cell a t => do loadVar t (← asAddr (tm.getD a undef))
def packV : List Value → Value
  | [v] => v
  | l => .tuple l.toArray
inductive RV | t (n : Nat) | c (a : Nat) (n : Option Nat)
  deriving DecidableEq, Repr, Inhabited
def cRV (P : Program) : ResultVar → Option RV
  | .tmp t => some (.t t)
  | .cell a ty => (aggN P ty).map (.c a)
def pack : List SV → SV
  | [v] => v
  | l => .tup l
section
variable {X : Type}
/-- What a function gives back. -/
def resA (acc : List SV) : List RV → Fr → SH X → (SV → SH X → Prop) → Prop
  | [], _, H, K => K (pack acc) H
  | .t n :: r, ρ, H, K => resA (acc ++ [lk ρ n]) r ρ H K
  | .c a n :: r, ρ, H, K => (evLd (lk ρ a) n H).sem fun v H' => resA (acc ++ [v]) r ρ H' K
variable {O : X → SH X} {W0 : World} {B : Nat} {P : Program} {hR : Hp} {w : World}
theorem RelL.app {β : List Value} {im : Im} : ∀ {l l' : List SV} {vs vs' : List Value}, RelL β im l vs → RelL β im l' vs' → RelL β im (l ++ l') (vs ++ vs')
  | _, _, _, _, .nil, t => t
  | _, _, _, _, .cons h s, t => .cons h (s.app t)
theorem resA_sound {ρ : Fr} {tm : Array Value} {K : SV → SH X → Prop} : ∀ {xs : List ResultVar} {rs : List RV} {acc : List SV} {vs : List Value} {β : List Value} {im : Im} {H : SH X},
    xs.mapM (cRV P) = some rs → FrRel β im ρ tm → RelL β im acc vs → HSt O W0 B β im H hR w → resA acc rs ρ H K →
    ∃ us v sv H' β' im', (xs.mapM (rvRun tm)).run P w = .ok us w ∧ v = packV (vs ++ us) ∧ K sv H' ∧ BLe id β β' ∧ ILe im im' ∧ Rel β' im' sv v ∧ HSt O W0 B β' im' H' hR w
  | [], rs, acc, vs, β, im, H, hm, hf, ha, st, hK => by
    simp at hm; subst hm
    simp only [resA] at hK
    refine ⟨[], _, pack acc, H, β, im, by simp, rfl, hK, BLe.refl β, ILe.refl im, ?_, st⟩
    rw [List.append_nil]
    cases ha with
    | nil => exact .tup .nil
    | cons h t =>
      cases t with
      | nil => exact h
      | cons h2 t2 => exact Rel.tup (.cons h (.cons h2 t2))
  | x :: xs, rs, acc, vs, β, im, H, hm, hf, ha, st, hK => by
    rw [List.mapM_cons] at hm
    cases hx : cRV P x with
    | none => rw [hx] at hm; simp at hm
    | some r =>
      rw [hx] at hm
      cases hxs : xs.mapM (cRV P) with
      | none => rw [hxs] at hm; simp at hm
      | some rs' =>
        rw [hxs] at hm; simp at hm; subst hm
        cases x with
        | tmp t =>
          simp [cRV] at hx; subst hx
          simp only [resA] at hK
          obtain ⟨us, v, sv, H', β', im', e, ev, rest⟩ := resA_sound hxs hf (ha.app (.cons (hf t) .nil)) st hK
          refine ⟨tm.getD t undef :: us, v, sv, H', β', im', ?_, ?_, rest⟩
          · simp only [List.mapM_cons, rvRun, Sem.run_bind, Sem.run_pure, Result.andThen_ok]
            simp only [e, Result.andThen_ok, Sem.run_pure]
          · rw [ev]; simp only [List.append_assoc, List.singleton_append]
        | cell a ty =>
          simp only [cRV] at hx
          cases ht : aggN P ty with
          | none => rw [ht] at hx; simp at hx
          | some n =>
            rw [ht] at hx; simp at hx; subst hx
            simp only [resA] at hK
            obtain ⟨u, w', su, H1, β1, im1, e1, hK1, hb1, hi1, hr1, st1⟩ := ld_sound (hf a) hK st ht
            obtain ⟨ew, e2⟩ := loadAt_as ht e1
            have ew' := ew.symm
            subst ew'
            obtain ⟨us, v, sv, H', β', im', e, ev, k, hb, hi, rest⟩ := resA_sound hxs (hf.mono hb1 hi1) ((ha.mono hb1 hi1).app (.cons hr1 .nil)) st1 hK1
            refine ⟨u :: us, v, sv, H', β', im', ?_, ?_, k, BLe.trans hb1 hb, ILe.trans hi1 hi, rest⟩
            · have e3 : (rvRun tm (.cell a ty)).run P w = .ok u w := e2
              simp only [List.mapM_cons, Sem.run_bind, e3, Result.andThen_ok, e, Sem.run_pure]
            · rw [ev]; simp only [List.append_assoc, List.singleton_append]
theorem results_run {fn : Func} {tm : Array Value} {us : List Value} (h : (fn.results.toList.mapM (rvRun tm)).run P w = .ok us w) :
    (results fn tm).run P w = .ok (packV us) w := by
  have e0 : results fn tm = (do let vs ← fn.results.mapM (rvRun tm); pure (if h : vs.size = 1 then vs[0] else .tuple vs) : Sem Value) := rfl
  rw [e0, Array.mapM_eq_mapM_toList]
  have e : (List.toArray <$> fn.results.toList.mapM (rvRun tm)).run P w = .ok us.toArray w := by
    rw [map_eq_pure_bind, Sem.run_bind, h]; rfl
  rw [Sem.run_bind, e]
  simp only [Result.andThen_ok, Sem.run_pure]
  match us with
  | [] => rfl
  | [v] => rfl
  | _ :: _ :: _ => simp [packV]
end
end Go.Sy

/-! Contracts of functions: from a local walk to what Γ says of calls. -/
namespace Go.Sy
open Go.RowKit
section
variable {X : Type}
/-- A contract of one function. -/
def GS1 (O : X → SH X) (P : Program) (f : FuncId) (g : List SV → SH X → Out X) : Prop :=
  ∀ (W0 : World) (B : Nat) (args : List SV) (H : SH X) (K : SV → SH X → Prop) (β : List Value) (im : Im) (hR : Hp) (w : World) (vs : List Value), (g args H).sem K → RelL β im args vs → HSt O W0 B β im H hR w →
    ∀ (r : Option Nat) (n : Nat) (o : Oper) (a : Act) (next : Act → World → Prop) (Q : Exit → Act → World → Prop), (∀ v w', Yd O W0 B β im hR K (.ok v w') → next (a.put o.dst v) w') →
      o.uponIn (FF r) n P a next Q ((callFunc f vs.toArray).run P w)
def mkG : List (Nat × (List SV → SH X → Out X)) → Gam X
  | [], _, _, _ => .bad
  | (f, g) :: r, f', args, H => bif f == f' then g args H else mkG r f' args H
theorem mkG_hit {f : Nat} {g : List SV → SH X → Out X} {r : List (Nat × (List SV → SH X → Out X))} {args : List SV} {H : SH X} : mkG ((f, g) :: r) f args H = g args H := by simp [mkG]
theorem mkG_miss {f f' : Nat} {g : List SV → SH X → Out X} {r : List (Nat × (List SV → SH X → Out X))} {args : List SV} {H : SH X} (h : (f == f') = false) : mkG ((f, g) :: r) f' args H = mkG r f' args H := by simp [mkG, h]
theorem mkG_nil {f : Nat} {args : List SV} {H : SH X} : mkG ([] : List (Nat × (List SV → SH X → Out X))) f args H = .bad := rfl
theorem GSound.of {O : X → SH X} {P : Program} {W0 : World} {B : Nat} : ∀ {l : List (Nat × (List SV → SH X → Out X))}, (∀ p ∈ l, GS1 O P p.1 p.2) → GSound O W0 B P (mkG l)
  | [], _ => fun f args H K β im hR w vs h => by simp [mkG, Out.sem] at h
  | (f0, g) :: l, hl => fun f args H K β im hR w vs h => by
    simp only [mkG] at h
    by_cases e : f0 = f
    · subst e
      simp only [beq_self_eq_true, cond_true] at h
      exact hl (f0, g) (by simp) W0 B args H K β im hR w vs h
    · have : (f0 == f) = false := by simpa using e
      rw [this] at h
      exact GSound.of (fun p hp => hl p (by simp [hp])) f args H K β im hR w vs h
theorem callsIn_FF {r : Option Nat} {n : Nat} {P : Program} {f : FuncId} {args : Array Value} {w : World} {R : Ending → World → Prop} (h : CallsIn (FF none) n P f args w R) : CallsIn (FF r) n P f args w R := h
def frm : Nat → List SV → Fr
  | _, [] => []
  | i, v :: l => (i, v) :: frm (i + 1) l
def retQ (E : Env X) (rs : List RV) (Kl : SV → SH X → Prop) : Post X := fun e ρ H => match e with
  | .exit _ => False
  | _ => resA [] rs ρ H fun v H1 => ∃ v' H', Kl v' H' ∧ Ent E.O E.np [(0, v)] H1 [(0, v')] H'
/-- The walk of one function's body, by its own names. -/
def LWp (E : Env X) (m : MC) (rs : List RV) (al : List SV) (Hl : SH X) (Kl : SV → SH X → Prop) : Prop :=
  ∃ ρ1 H1, Ent E.O E.np (frm 0 al) Hl ρ1 H1 ∧ wp E m (retQ E rs Kl) ρ1 H1
theorem RelL.len {β : List Value} {im : Im} : ∀ {l : List SV} {vs : List Value}, RelL β im l vs → l.length = vs.length
  | _, _, .nil => rfl
  | _, _, .cons _ t => by simp [t.len]
theorem frm_rel {β : List Value} {im : Im} : ∀ {l : List SV} {vs : List Value} (i : Nat) {tm : Array Value}, RelL β im l vs → (∀ j v, vs[j]? = some v → tm[i + j]? = some v) → FrRel β im (frm i l) tm
  | _, _, i, tm, .nil, _ => fun t => by simp only [frm, lk_nil]; exact .dead
  | _, _, i, tm, .cons (v := s) (x := v) h t, hh => fun k => by
    simp only [frm]
    by_cases e : i = k
    · subst e
      rw [lk_hit]
      have := hh 0 v rfl
      rw [Nat.add_zero] at this
      rw [Array.getD_eq_getD_getElem?, this]; exact h
    · rw [lk_miss (by simpa using e)]
      exact frm_rel (i + 1) t (fun j u q => by have := hh (j + 1) u (by simpa using q); rw [show i + 1 + j = i + (j + 1) by omega]; exact this) k
variable {O : X → SH X} {P : Program}
/-- Back from the callee's names to the caller's. -/
theorem HSt.back {W0 : World} {B : Nat} {β β' : List Value} {im im' : Im} {H H' : SH X} {hR h1 h2 : Hp} {w' : World} {ks : List Nat} (hs : HS O im β H β (uni h1 h2)) (hlen : H.length = β.length)
    (hk : ∀ k ∈ ks, k < H.length) (dR : Dj h2 hR) (hi : ILe im im')
    (back : ∀ im' β0', ILe im im' → BLe id β β0' → ∀ As h1', As.length = ks.length → Dj h1' h2 → HS O im' β0' As (ks.map fun k => β.getD k undef) h1' → HS O im' β0' (sets H ks As) β (uni h1' h2))
    (hkeep : ∀ k, k < ks.length → β'[k]? = (ks.map fun k => β.getD k undef)[k]?) (st : HSt O W0 B β' im' H' (uni h2 hR) w') :
    ∃ β'', BLe id β β'' ∧ BLe (kap ks H.length) β' β'' ∧
      HSt O W0 B β'' im' (sets H ks ((H'.take ks.length).map (Atom.ren (kap ks H.length))) ++ (H'.drop ks.length).map (Atom.ren (kap ks H.length))) hR w' := by
  obtain ⟨hH, d, s, iv⟩ := st
  have hl' := s.len
  have hm : ks.length ≤ β'.length := by
    by_cases z : ks.length = 0
    · omega
    · have := hkeep (ks.length - 1) (by omega)
      have hl0 : ks.length - 1 < (ks.map fun k => β.getD k undef).length := by rw [List.length_map]; omega
      have := (List.getElem?_eq_some_iff.1 (this.trans (List.getElem?_eq_getElem hl0))).1
      omega
  have ht : β'.take ks.length = ks.map fun k => β.getD k undef := by
    apply List.ext_getElem?
    intro i
    by_cases hi : i < ks.length
    · rw [List.getElem?_take_of_lt hi]; exact hkeep i hi
    · rw [List.getElem?_eq_none (by rw [List.length_take]; omega), List.getElem?_eq_none (by rw [List.length_map]; omega)]
  have eβ : β' = (ks.map fun k => β.getD k undef) ++ β'.drop ks.length := by rw [← ht, List.take_append_drop]
  have eH : H' = H'.take ks.length ++ H'.drop ks.length := by rw [List.take_append_drop]
  have s2 : HS O im' β' (H'.take ks.length ++ H'.drop ks.length) ((ks.map fun k => β.getD k undef) ++ β'.drop ks.length) hH := by rw [← eH, ← eβ]; exact s
  obtain ⟨ha, he, dae, rfl, sa, se⟩ := HS.split _ _ s2 (by simp; omega)
  have hle : BLe (kap ks H.length) β' (β ++ β'.drop ks.length) := by
    intro i v hv
    by_cases hi : i < ks.length
    · rw [hkeep i hi, map_in, List.getElem?_eq_getElem hi] at hv
      simp only [Option.map_some, Option.some.injEq] at hv
      have hlt : ks[i] < β.length := by rw [← hlen]; exact hk _ (List.getElem_mem hi)
      have hg : β.getD ks[i] undef = β[ks[i]] := by rw [List.getD_eq_getElem?_getD, List.getElem?_eq_getElem hlt]; rfl
      rw [kap_in (List.getElem?_eq_getElem hi), List.getElem?_append_left hlt, List.getElem?_eq_getElem hlt, ← hv, hg]
    · rw [kap_out (by omega), hlen, List.getElem?_append_right (by omega), ← hv]
      simp only [List.getElem?_drop]
      congr 1; omega
  refine ⟨β ++ β'.drop ks.length, BLe.app β _, hle, ?_⟩
  have dd := Dj.uni_left.1 d
  have dx := Dj.uni_right.1 dd.1
  have dy := Dj.uni_right.1 dd.2
  have t1 := back im' (β ++ β'.drop ks.length) hi (BLe.app β _) ((H'.take ks.length).map (Atom.ren (kap ks H.length))) ha (by simp; omega) dx.1 (sa.renm hle (ILe.refl _))
  have t2 := se.renm hle (ILe.refl _)
  have d3 : Dj (uni ha h2) he := Dj.uni_left.2 ⟨dae, dy.1.symm⟩
  have e1 : uni (uni (uni ha h2) he) hR = uni (uni ha he) (uni h2 hR) := by
    rw [uni_assoc, uni_assoc, uni_assoc]
    congr 1
    rw [← uni_assoc, ← uni_assoc, uni_comm dy.1]
  refine ⟨uni (uni ha h2) he, ?_, t1.app t2 d3, ?_⟩
  · exact Dj.uni_left.2 ⟨Dj.uni_left.2 ⟨dx.2, dR⟩, dy.2⟩
  · rw [e1]; exact iv
theorem body_ret {fn : Func} {R : Ending → World → Prop} {a : Act} {w : World} {v : Value} (hr : (results fn a.tmps).run P w = .ok v w) (hd : a.defers = []) (hR : R (.returned v) w) : bodyPost P fn R .ret a w := ⟨hd, v, hr, hR⟩
theorem body_norm {fn : Func} {R : Ending → World → Prop} {a : Act} {w : World} {v : Value} (hr : (results fn a.tmps).run P w = .ok v w) (hd : a.defers = []) (hR : R (.returned v) w) : bodyPost P fn R .normal a w := ⟨hd, v, hr, hR⟩
theorem run_callFunc {f : FuncId} {fn : Func} {c : Code} {args : Array Value} {w : World} (hf : P.funcs[f]? = some fn) (hname : (fn.name == "runtime.NumGoroutine") = false) (hb : fn.body = some c) :
    (callFunc f args).run P w = .ok (.enter f args) w := by
  have : ¬fn.name = "runtime.NumGoroutine" := by simpa using hname
  simp [callFunc, hf, this, hb]
/-- What a function's text is. -/
def FnIs (P : Program) (f : FuncId) (m : MC) (rs : List RV) (nt : Nat) : Prop :=
  ∃ fn c, P.funcs[f]? = some fn ∧ (fn.name == "runtime.NumGoroutine") = false ∧ fn.body = some c ∧ cC P fn.ntmps c = some m ∧ fn.results.toList.mapM (cRV P) = some rs ∧ nt ≤ fn.ntmps
theorem FnIs.mk {f : FuncId} {fn : Func} {m : MC} {rs : List RV} {nt : Nat} (hf : P.funcs[f]? = some fn) (hname : (fn.name == "runtime.NumGoroutine") = false) (hc : cF P fn = some m)
    (hrs : fn.results.toList.mapM (cRV P) = some rs) (hn : Nat.ble nt fn.ntmps = true) : FnIs P f m rs nt := by
  unfold cF at hc
  cases hb : fn.body with
  | none => rw [hb] at hc; cases hc
  | some c => rw [hb] at hc; exact ⟨fn, c, hf, hname, hb, hc, hrs, Nat.le_of_ble_eq_true hn⟩
/-- A contract of a call from wherever. -/
def GC1 (O : X → SH X) (P : Program) (f : FuncId) (g : List SV → SH X → Out X) : Prop :=
  ∀ (W0 : World) (B : Nat) (args : List SV) (H : SH X) (K : SV → SH X → Prop) (β : List Value) (im : Im) (hR : Hp) (w : World) (vs : List Value), (g args H).sem K → RelL β im args vs → HSt O W0 B β im H hR w →
    ∀ (n : Nat), CallsIn (FF none) n P f vs.toArray w fun e w' => ∃ v, e = .returned v ∧ Yd O W0 B β im hR K (.ok v w')
/-- A contract out of the walk of the function's body. -/
theorem GC1.of {f : FuncId} {m : MC} {rs : List RV} {nt : Nat} {g : List SV → SH X → Out X} (hfn : FnIs P f m rs nt) (hP : P.follows .mixedOrders = true)
    (h : ∀ args H K, (g args H).sem K → ∃ (E : Env X) (ks : List Nat) (al : List SV) (Hl : SH X), E.O = O ∧ (∀ W0 B, GSound O W0 B P E.Γ) ∧ E.np = ks.length ∧ ks.Nodup ∧ (∀ k ∈ ks, k < H.length) ∧ al.length ≤ nt ∧
      LEq ⟨[], 0, 0⟩ args (renL (kap ks H.length) al) ∧ AEqs ⟨[], 0, 0⟩ (ks.map fun k => H.getD k .gone) (Hl.map (Atom.ren (kap ks H.length))) ∧
      LWp E m rs al Hl (fun v' H' => K (v'.ren (kap ks H.length)) (sets H ks ((H'.take ks.length).map (Atom.ren (kap ks H.length))) ++ (H'.drop ks.length).map (Atom.ren (kap ks H.length))))) :
    GC1 O P f g := by
  obtain ⟨fn, c, hf, hname, hb, hc, hrs, hnt⟩ := hfn
  intro W0 B args H K β im hR w vs hs ha st n
  obtain ⟨E, ks, al, Hl, rfl, hΓ, hnp, hnd, hk, hal, hargs, hats, ρ1, H1, hent, hwp⟩ := h args H K hs
  obtain ⟨hH, d, s, iv⟩ := st
  have hlen := s.len
  obtain ⟨h1, h2, d12, rfl, s1, back⟩ := s.pick ks hnd hk
  have hb0 : ∀ i, β[kap ks H.length i]? = (ks.map fun k => β.getD k undef)[i]? := fun i => by
    rw [hlen]; exact kap_get (fun k q => by rw [← hlen]; exact hk k q) i
  have hΦ : FzOk β im ⟨[], 0, 0⟩ := ⟨fun k s n g v e => by simp [fzk] at e, fun k _ q => by simp at q⟩
  have sl := HS.unren hb0 (AEqs.sound hΦ hats s1)
  have hal2 := RelL.unren hb0 al (LEq.sound hΦ _ _ hargs ha)
  have dd := Dj.uni_left.1 d
  have hstl : HSt E.O W0 B (ks.map fun k => β.getD k undef) im Hl (uni h2 hR) w := ⟨h1, Dj.uni_right.2 ⟨d12, dd.1⟩, sl, by rw [← uni_assoc]; exact iv⟩
  have hvl : vs.length ≤ fn.ntmps := by rw [← hal2.len]; exact Nat.le_trans hal hnt
  have hok : Ok E W0 B fn.ntmps (ks.map fun k => β.getD k undef) im (uni h2 hR) (frm 0 al) Hl { tmps := vs.toArray ++ Array.replicate (fn.ntmps - vs.toArray.size) undef, defers := [] } w := by
    refine ⟨_, im, fun _ _ => rfl, ILe.refl im, frm_rel 0 hal2 fun j v q => ?_, hstl, ?_, rfl⟩
    · have hj := (List.getElem?_eq_some_iff.1 q).1
      rw [Array.getElem?_append_left (by simp; omega)]
      simpa using q
    · simp; omega
  have hcode := code_sound (r := none) (n := n) (P := P) (N := fn.ntmps) (E := E) (W0 := W0) (B := B) (β0 := ks.map fun k => β.getD k undef) (im0 := im) (hR := uni h2 hR) (by rw [hnp]; simp) (hΓ W0 B)
    (drawn_ok hP (by rw [hnp]; simp) (hΓ W0 B)) c m hc _ _ _ _ _ hwp (hok.ent hent)
  obtain ⟨H0, hH0⟩ : ∃ H0, H0 = H := ⟨H, rfl⟩
  rw [← hH0] at hcode
  have hfin : ∀ a' w', (∃ ρ H, resA [] rs ρ H (fun v H1 => ∃ v' H', K (v'.ren (kap ks H0.length)) (sets H0 ks ((H'.take ks.length).map (Atom.ren (kap ks H0.length))) ++ (H'.drop ks.length).map (Atom.ren (kap ks H0.length))) ∧ Ent E.O E.np [(0, v)] H1 [(0, v')] H') ∧
      Ok E W0 B fn.ntmps (ks.map fun k => β.getD k undef) im (uni h2 hR) ρ H a' w') →
      a'.defers = [] ∧ ∃ v, (results fn a'.tmps).run P w' = .ok v w' ∧ Yd E.O W0 B β im hR K (.ok v w') := by
    subst hH0
    rintro a' w' ⟨ρ2, H2, hres, β2, im2, hk2, hi2, hf2, st2, hN2, hd2⟩
    obtain ⟨us, v, sv, H3, β3, im3, e3, ev, ⟨v', H', hK, hent2⟩, hb3, hi3, hr3, st3⟩ := resA_sound hrs hf2 .nil st2 hres
    obtain ⟨hH3, d3, s3, iv3⟩ := st3
    obtain ⟨β4, im4, h4, hi4, hm4, hsub4, s4, hk4, hf4⟩ := hent2 β3 im3 hH3 s3 fun b o v q => by
      have := iv3.dj b o v q
      unfold uni at this
      cases hx : hH3 b o with
      | none => rfl
      | some s => rw [hx] at this; cases this
    have hf5 := hf4 #[v] fun t => by
      by_cases e : (0 : Nat) = t
      · subst e; rw [lk_hit]; exact hr3
      · rw [lk_miss (by simpa using e), lk_nil]; exact .dead
    have hr4 : Rel β4 im4 v' v := by have := hf5 0; rwa [lk_hit] at this
    have st4 : HSt E.O W0 B β4 im4 H' (uni h2 hR) w' := HSt.ent s4 d3 iv3 hm4 hsub4
    have hkeep : ∀ k, k < ks.length → β4[k]? = (ks.map fun k => β.getD k undef)[k]? := fun k hk' => by
      have hl0 : k < (ks.map fun k => β.getD k undef).length := by rw [List.length_map]; exact hk'
      have q2 := hk2 k (by rw [hnp]; exact hk')
      rw [hk4 k (by rw [hnp]; exact hk'), List.getElem?_eq_getElem hl0]
      rw [List.getElem?_eq_getElem hl0] at q2
      exact hb3 k _ q2
    obtain ⟨β5, hb5, hle5, st5⟩ := HSt.back s hlen hk dd.2 (ILe.trans hi2 (ILe.trans hi3 hi4)) back hkeep st4
    refine ⟨hd2, v, ?_, v, w', _, _, β5, im4, rfl, hK, hb5, ILe.trans hi2 (ILe.trans hi3 hi4), hr4.ren hle5 (ILe.refl im4), st5⟩
    rw [results_run e3, ev]; rfl
  refine callsIn_of_wp (R := fun e w' => ∃ v, e = .returned v ∧ Yd E.O W0 B β im hR K (.ok v w')) hf hb trivial (wpIn_mono hcode fun e a' w' hq => ?_)
  cases e with
  | normal => obtain ⟨x1, x2, x3, x4⟩ := hfin a' w' hq; exact ⟨x1, x2, x3, x2, rfl, x4⟩
  | ret => obtain ⟨x1, x2, x3, x4⟩ := hfin a' w' hq; exact ⟨x1, x2, x3, x2, rfl, x4⟩
  | exit id => obtain ⟨_, _, q, _⟩ := hq; exact q.elim
  | _ => exact hq.elim
theorem GS1.of {f : FuncId} {m : MC} {rs : List RV} {nt : Nat} {g : List SV → SH X → Out X} (hfn : FnIs P f m rs nt) (h : GC1 O P f g) : GS1 O P f g := by
  obtain ⟨fn, c, hf, hname, hb, _⟩ := hfn
  intro W0 B args H K β im hR w vs hs ha st r n o a next Q hn
  rw [run_callFunc hf hname hb, Oper.uponIn_enter]
  refine ⟨by simp [FF], ?_⟩
  refine CallsIn.mono (callsIn_FF (h W0 B args H K β im hR w vs hs ha st (n - 1))) fun e w' hq => ?_
  obtain ⟨v, rfl, hy⟩ := hq
  exact hn v w' hy
end
end Go.Sy

/-! Which atom serves for which: found by what the frames and the cells name. -/
namespace Go.Sy
open Go.RowKit
inductive Asg | key (j k : Nat) | nil (j : Nat) | fz (k : Nat)
mutual
def asgV : SV → SV → List Asg
  | .key j, .key k => [.key j k]
  | .key j, .nils => [.nil j]
  | .off j _, .off k _ => [.key j k]
  | .offa j _ _ _ _, .offa k _ _ _ _ => [.key j k]
  | .elt j _ _ _, .elt k _ _ _ => [.key j k]
  | .sub j _ _ _, .sub k _ _ _ => [.key j k]
  | .sl j _ _ _ _, .sl k _ _ _ _ => [.key j k]
  | .ros _ _ _, .key k => [.fz k]
  | .ros _ _ _, .sub k _ _ _ => [.fz k]
  | .agg l, .agg l' => asgL l l'
  | .tup l, .tup l' => asgL l l'
  | .fn _ l, .fn _ l' => asgL l l'
  | _, _ => []
def asgL : List SV → List SV → List Asg
  | v :: l, v' :: l' => asgV v v' ++ asgL l l'
  | _, _ => []
end
def asgFr (ρ : Fr) : Fr → List Asg
  | [] => []
  | (t, v) :: r => asgV v (lk ρ t) ++ asgFr ρ r
def lkA : List Asg → Nat → Option (Option Nat)
  | [], _ => none
  | .key j k :: r, i => bif j == i then some (some k) else lkA r i
  | .nil j :: r, i => bif j == i then some none else lkA r i
  | .fz _ :: r, i => lkA r i
def memB (k : Nat) : List Nat → Bool
  | [] => false
  | j :: l => bif j == k then true else memB k l
theorem memB_eq {k : Nat} : ∀ {l : List Nat}, memB k l = true ↔ k ∈ l
  | [] => by simp [memB]
  | j :: l => by
    simp only [memB, List.mem_cons]
    by_cases e : j = k
    · subst e; simp
    · have : (j == k) = false := by simpa using e
      rw [this, cond_false, memB_eq (l := l)]
      constructor
      · exact .inr
      · rintro (q | q)
        · exact absurd q.symm e
        · exact q
def fzA : List Asg → List Nat → List Nat
  | [], l => l
  | .fz k :: r, l => fzA r (bif memB k l then l else k :: l)
  | _ :: r, l => fzA r l
def keyOr (o : Option (Option Nat)) (n : Nat) : Nat := match o with | some (some k) => k | _ => n
def rootOf (A : List Asg) (np n j : Nat) : Nat := if j < np then j else keyOr (lkA A j) (n + j)
section
variable {X : Type}
def asgM (B : SH X) (C : Option (Atom X)) : List Asg := match B, C with
  | .mem l :: _, some (.mem l') => asgL l l'
  | _, _ => []
def asgH (O : X → SH X) (H : SH X) (A : List Asg) (np n : Nat) : Nat → SH X → List Asg
  | _, [] => []
  | j, .mem l :: r => asgM [.mem (X := X) l] H[rootOf A np n j]? ++ asgH O H A np n (j + 1) r
  | j, _ :: r => asgH O H A np n (j + 1) r
def obKs (n j : Nat) (as : List Asg) : Nat → SH X → List Nat
  | _, [] => []
  | i, _ :: r => keyOr (lkA as i) (n + 100 * (j + 1) + i) :: obKs n j as (i + 1) r
def obPk (x : X) (B : SH X) (n j k : Nat) (as : List Asg) : Pk X := match B with
  | [] => .at k
  | _ :: r => .ob x (k :: obKs n j as 1 r)
def mkPk (O : X → SH X) (n j k : Nat) (A : Atom X) (C : Option (Atom X)) : Pk X := match A, C with
  | .obj x, some (.mem l) => obPk x (O x) n j k (asgM (O x) (some (.mem l)))
  | _, _ => .at k
def mkL (O : X → SH X) (H : SH X) (A : List Asg) (np n : Nat) : Nat → SH X → List (Pk X)
  | _, [] => []
  | j, a :: r => mkPk O n j (rootOf A np n j) a H[rootOf A np n j]? :: mkL O H A np n (j + 1) r
def mkFz (O : X → SH X) (H : SH X) (A : List Asg) (np n : Nat) : Nat → SH X → List Nat → List Nat
  | _, [], l => l
  | j, .obj x :: r, l => mkFz O H A np n (j + 1) r (fzA (asgM (O x) H[rootOf A np n j]?) l)
  | j, _ :: r, l => mkFz O H A np n (j + 1) r l
def allKs : List (Pk X) → List Nat → List Nat
  | [], l => l
  | .at k :: r, l => k :: allKs r l
  | .ob _ ks :: r, l => ks ++ allKs r l
def ndB : List Nat → Bool
  | [] => true
  | k :: l => !memB k l && ndB l
def ltB (n : Nat) : List Nat → Bool
  | [] => true
  | k :: l => decide (k < n) && ltB n l
def npB (n : Nat) : Nat → Nat → List (Pk X) → Bool
  | 0, _, _ => true
  | m + 1, i, p :: r => (p.root == i) && decide (i < n) && npB n m (i + 1) r
  | _ + 1, _, [] => false
def roots : List (Pk X) → List Nat
  | [] => []
  | p :: r => p.root :: roots r
/-- The conditions, once it is known which atom serves for which. -/
def EntS (O : X → SH X) (np : Nat) (ρ : Fr) (H : SH X) (ρ' : Fr) (H' : SH X) (L : List (Pk X)) (fz : List Nat) (n : Nat) : Prop :=
  (ndB (allKs L fz) && ltB (n + 4096) (allKs L fz) && npB n np 0 L) = true ∧
    PksOk O ⟨fzl H fz, n, n + 4096⟩ H (kap (roots L) (n + 4096)) (n + 4096) L H' ∧ FrOk ⟨fzl H fz, n, n + 4096⟩ (kap (roots L) (n + 4096)) ρ ρ'
def EntR (O : X → SH X) (np : Nat) (ρ : Fr) (H : SH X) (ρ' : Fr) (H' : SH X) (A : List Asg) (fz : List Nat) (n : Nat) : Prop :=
  EntS O np ρ H ρ' H' (mkL O H A np n 0 H') (mkFz O H A np n 0 H' (fzA A fz)) n
def EntQ (O : X → SH X) (np : Nat) (ρ : Fr) (H : SH X) (ρ' : Fr) (H' : SH X) (A : List Asg) (fz : List Nat) (n : Nat) : Prop :=
  EntR O np ρ H ρ' H' (A ++ asgH O H A np n 0 H') fz n
def EntOk (O : X → SH X) (np : Nat) (ρ : Fr) (H : SH X) (ρ' : Fr) (H' : SH X) (fz : List Nat) : Prop :=
  EntQ O np ρ H ρ' H' (asgFr ρ ρ') fz H.length
theorem roots_eq : ∀ {L : List (Pk X)}, roots L = L.map Pk.root
  | [] => rfl
  | _ :: r => by simp [roots, roots_eq (L := r)]
theorem allKs_eq {l : List Nat} : ∀ {L : List (Pk X)}, allKs L l = L.flatMap Pk.keys ++ l
  | [] => rfl
  | .at k :: r => by simp [allKs, Pk.keys, allKs_eq (L := r)]
  | .ob x ks :: r => by simp [allKs, Pk.keys, allKs_eq (L := r)]
theorem ndB_sound : ∀ {l : List Nat}, ndB l = true → l.Nodup
  | [], _ => List.nodup_nil
  | k :: l, h => by
    simp only [ndB, Bool.and_eq_true, Bool.not_eq_true'] at h
    refine List.nodup_cons.2 ⟨fun q => ?_, ndB_sound h.2⟩
    rw [memB_eq.2 q] at h; exact absurd h.1 (by simp)
theorem ltB_sound {n : Nat} : ∀ {l : List Nat}, ltB n l = true → ∀ k ∈ l, k < n
  | [], _ => by simp
  | j :: l, h => by
    simp [ltB] at h
    intro k hk
    rcases List.mem_cons.1 hk with rfl | hk
    · exact h.1
    · exact ltB_sound h.2 k hk
theorem npB_sound {n : Nat} : ∀ {m i : Nat} {L : List (Pk X)}, npB n m i L = true → ∀ k, k < m → i + k < n ∧ (L.map Pk.root)[k]? = some (i + k)
  | 0, _, _, _ => fun k hk => by omega
  | m + 1, i, [], h => by simp [npB] at h
  | m + 1, i, p :: r, h => by
    simp only [npB, Bool.and_eq_true, decide_eq_true_eq, beq_iff_eq] at h
    have h1 := h.1.1
    intro k hk
    cases k with
    | zero => exact ⟨h.1.2, by simp [h1]⟩
    | succ k =>
      have := npB_sound h.2 k (by omega)
      exact ⟨by omega, by rw [List.map_cons, List.getElem?_cons_succ, this.2]; congr 1; omega⟩
variable {O : X → SH X}
theorem Ent.auto {np : Nat} {ρ ρ' : Fr} {H H' : SH X} (fz : List Nat) (h : EntOk O np ρ H ρ' H' fz) : Ent O np ρ H ρ' H' := by
  unfold EntOk EntQ EntR EntS at h
  obtain ⟨hB, hP, hF⟩ := h
  simp only [Bool.and_eq_true] at hB
  refine Ent.of (cnt := 4096) _ _ ?_ ?_ (by rw [← roots_eq]; exact hP) (by rw [← roots_eq]; exact hF) (fun k hk => ?_)
  · rw [← allKs_eq]; exact ndB_sound hB.1.1
  · rw [← allKs_eq]; exact ltB_sound hB.1.2
  · have := npB_sound hB.2 k hk
    simpa using this
end
end Go.Sy

/-! Small lemmas for walks. -/
namespace Go.Sy
open Go.RowKit
section
variable {X : Type} {E : Env X} {Q : Post X} {ρ : Fr} {H : SH X}
theorem fin_ite {p : Prop} [Decidable p] {a b : Out X} {d r} : fin E (if p then a else b) d r Q ρ = ((p → fin E a d r Q ρ) ∧ (¬p → fin E b d r Q ρ)) := by
  by_cases h : p <;> simp [h]
theorem finD_ite {p : Prop} [Decidable p] {a b : Out X} {d r} : finD E (if p then a else b) d r Q ρ = ((p → finD E a d r Q ρ) ∧ (¬p → finD E b d r Q ρ)) := by
  by_cases h : p <;> simp [h]
theorem fin_allB {f : Bool → Out X} {d r} : fin E (.all f) d r Q ρ = (fin E (f true) d r Q ρ ∧ fin E (f false) d r Q ρ) := by
  rw [fin_all]; exact propext ⟨fun h => ⟨h true, h false⟩, fun h x => by cases x; exact h.2; exact h.1⟩
theorem finD_allB {f : Bool → Out X} {d r} : finD E (.all f) d r Q ρ = (finD E (f true) d r Q ρ ∧ finD E (f false) d r Q ρ) := by
  rw [finD_all]; exact propext ⟨fun h => ⟨h true, h false⟩, fun h x => by cases x; exact h.2; exact h.1⟩
theorem chkK_ite {p : Prop} [Decidable p] {a b : Out X} {v} : chkK (if p then a else b) v H = ((p → chkK a v H) ∧ (¬p → chkK b v H)) := by
  by_cases h : p <;> simp [h]
end
theorem upd_nil {i : Nat} : upd (fun _ => []) i [] = fun _ => [] := by funext k; unfold upd; split <;> rfl
theorem upd_cons {a : Nat → SV} {l : Nat → List SV} {i : Nat} {x : SV} {r : List SV} : upd (fun k => a k :: l k) i (x :: r) = fun k => (if k = i then x else a k) :: upd l i r k := by
  funext k; unfold upd; split <;> rfl
theorem apnd_nil {n : Nat} : apnd n (fun _ => []) (fun _ => []) = fun _ => [] := by funext k; unfold apnd; split <;> rfl
theorem apnd_cons {a b : Nat → SV} {l m : Nat → List SV} {n : Nat} : apnd n (fun k => a k :: l k) (fun k => b k :: m k) = fun k => (if k < n then a k else b (k - n)) :: apnd n l m k := by
  funext k; unfold apnd; split <;> rfl
theorem apnd_zero {g h : Nat → List SV} : apnd 0 g h = h := by funext k; simp [apnd]
theorem wrt_nil {lo n : Nat} : wrt lo n (fun _ => []) (fun _ => []) = fun _ => [] := by funext k; unfold wrt; split <;> rfl
theorem wrt_cons {a b : Nat → SV} {l m : Nat → List SV} {lo n : Nat} : wrt lo n (fun k => a k :: l k) (fun k => b k :: m k) = fun k => (if lo ≤ k ∧ k < lo + n then b (k - lo) else a k) :: wrt lo n l m k := by
  funext k; unfold wrt; split <;> rfl
theorem shft_fun {lo : Nat} {g : Nat → List SV} : shft lo g = fun i => g (lo + i) := rfl
theorem lst_one {r : List SV} : lst [r] = fun _ => r := by funext k; cases k <;> simp [lst]
theorem ite_int {p : Prop} [Decidable p] {K : IntKind} {x y : Int} : (if p then SV.int K x else SV.int K y) = SV.int K (if p then x else y) := by split <;> rfl
theorem ite_bool {p : Prop} [Decidable p] {x y : Bool} : (if p then SV.bool x else SV.bool y) = SV.bool (if p then x else y) := by split <;> rfl
theorem ite_str {p : Prop} [Decidable p] {x y : ByteArray} : (if p then SV.str x else SV.str y) = SV.str (if p then x else y) := by split <;> rfl
theorem ite_ros {p : Prop} [Decidable p] {s n n' : Nat} {g g' : Nat → List SV} : (if p then SV.ros s n g else SV.ros s n' g') = SV.ros s (if p then n else n') (fun i => if p then g i else g' i) := by split <;> rfl
theorem beqF {b : Bool} : (b == false) = !b := by cases b <;> rfl
theorem beqT {b : Bool} : (b == true) = b := by cases b <;> rfl
theorem stp_int {k n} : stp (SV.int k n) = (SV.int k n) := rfl
theorem vld_int {k n} : vld (SV.int k n) = true := rfl
theorem stp_bool {b} : stp (SV.bool b) = (SV.bool b) := rfl
theorem vld_bool {b} : vld (SV.bool b) = true := rfl
theorem stp_str {s} : stp (SV.str s) = (SV.str s) := rfl
theorem vld_str {s} : vld (SV.str s) = true := rfl
theorem stp_nilp : stp SV.nilp = SV.nilp := rfl
theorem vld_nilp : vld SV.nilp = true := rfl
theorem stp_nils : stp SV.nils = SV.nils := rfl
theorem vld_nils : vld SV.nils = true := rfl
theorem stp_nilf : stp SV.nilf = SV.nilf := rfl
theorem vld_nilf : vld SV.nilf = true := rfl
theorem stp_nilm : stp SV.nilm = SV.nilm := rfl
theorem vld_nilm : vld SV.nilm = true := rfl
theorem stp_und : stp SV.und = SV.und := rfl
theorem vld_und : vld SV.und = true := rfl
theorem stp_dead : stp SV.dead = SV.dead := rfl
theorem vld_dead : vld SV.dead = true := rfl
theorem stp_key {k} : stp (SV.key k) = (SV.key k) := rfl
theorem vld_key {k} : vld (SV.key k) = true := rfl
theorem stp_off {k o} : stp (SV.off k o) = (SV.off k o) := rfl
theorem vld_off {k o} : vld (SV.off k o) = true := rfl
theorem stp_offa {k o s i f} : stp (SV.offa k o s i f) = (SV.offa k o s i f) := rfl
theorem vld_offa {k o s i f} : vld (SV.offa k o s i f) = true := rfl
theorem stp_elt {k s i f} : stp (SV.elt k s i f) = (SV.elt k s i f) := rfl
theorem vld_elt {k s i f} : vld (SV.elt k s i f) = true := rfl
theorem stp_sub {k s l h} : stp (SV.sub k s l h) = (SV.sub k s l h) := rfl
theorem vld_sub {k s l h} : vld (SV.sub k s l h) = true := rfl
theorem stp_sl {k s l n c} : stp (SV.sl k s l n c) = (SV.sl k s l n c) := rfl
theorem vld_sl {k s l n c} : vld (SV.sl k s l n c) = true := rfl
theorem stp_ros {s n g} : stp (SV.ros s n g) = (SV.ros s n g) := rfl
theorem vld_ros {s n g} : vld (SV.ros s n g) = true := rfl
theorem stp_roe {s n g i f} : stp (SV.roe s n g i f) = (SV.roe s n g i f) := rfl
theorem vld_roe {s n g i f} : vld (SV.roe s n g i f) = true := rfl
theorem stp_fn {f l} : stp (SV.fn f l) = (SV.fn f l) := rfl
theorem vld_fn {f l} : vld (SV.fn f l) = true := rfl
theorem stp_agg {l} : stp (SV.agg l) = (SV.agg l) := rfl
theorem vld_agg {l} : vld (SV.agg l) = true := rfl
theorem stp_arr {s n g} : stp (SV.arr s n g) = (SV.arr s n g) := rfl
theorem vld_arr {s n g} : vld (SV.arr s n g) = true := rfl
theorem stp_tup {l} : stp (SV.tup l) = (SV.tup l) := rfl
theorem vld_tup {l} : vld (SV.tup l) = true := rfl
theorem stp_ifc {t v} : stp (SV.ifc t v) = (SV.ifc t v) := rfl
theorem vld_ifc {t v} : vld (SV.ifc t v) = true := rfl
theorem stp_un {v} : stp (SV.un v) = v := rfl
theorem vld_un {v} : vld (SV.un v) = false := rfl
theorem snoc_getD {α : Type} {L : List α} {a d : α} {k : Nat} (h : k < L.length + 1) : (L ++ [a]).getD k d = if k < L.length then L.getD k d else a := by
  rw [List.getD_eq_getElem?_getD, List.getD_eq_getElem?_getD]
  by_cases q : k < L.length
  · rw [if_pos q, List.getElem?_append_left q]
  · rw [if_neg q, List.getElem?_append_right (by omega)]
    have : k - L.length = 0 := by omega
    rw [this]; rfl
theorem pair_eta {α β : Type} (p : α × β) : (p.1, p.2) = p := rfl
/-- Loops' invariants, by number. -/
def lmL {X : Type} : List (Nat × LInv X) → Nat → Option (LInv X)
  | [], _ => none
  | (i, L) :: r, j => bif i == j then some L else lmL r j
theorem lmL_hit {X : Type} {i : Nat} {L : LInv X} {r : List (Nat × LInv X)} : lmL ((i, L) :: r) i = some L := by simp [lmL]
theorem lmL_miss {X : Type} {i j : Nat} {L : LInv X} {r : List (Nat × LInv X)} (h : (i == j) = false) : lmL ((i, L) :: r) j = lmL r j := by simp [lmL, h]
theorem wi64 {x : Int} (h1 : -9223372036854775808 ≤ x) (h2 : x ≤ 9223372036854775807) : IntKind.i64.wrap x = x := IntWalk.i64_in x ⟨h1, h2⟩
theorem wu64 {x : Int} (h1 : 0 ≤ x) (h2 : x ≤ 18446744073709551615) : IntKind.u64.wrap x = x := IntWalk.u64_in x ⟨h1, h2⟩
theorem wu8 {x : Int} (h1 : 0 ≤ x) (h2 : x ≤ 255) : IntKind.u8.wrap x = x := IntWalk.u8_in x ⟨h1, h2⟩
theorem wu16 {x : Int} (h1 : 0 ≤ x) (h2 : x ≤ 65535) : IntKind.u16.wrap x = x := IntWalk.u16_in x ⟨h1, h2⟩
theorem wu32 {x : Int} (h1 : 0 ≤ x) (h2 : x ≤ 4294967295) : IntKind.u32.wrap x = x := IntWalk.u32_in x ⟨h1, h2⟩
end Go.Sy

/-! Objects closed around a call, and opened behind it. -/
namespace Go.Sy
open Go.RowKit
section
variable {X : Type}
def Out.bind : Out X → (SV → SH X → Out X) → Out X
  | .bad, _ => .bad
  | .ok v H, k => k v H
  | .req p o, k => .req p (o.bind k)
  | .asm p o, k => .asm p (o.bind k)
  | .all f, k => .all fun x => (f x).bind k
theorem Out.sem_bind {K : SV → SH X → Prop} {k : SV → SH X → Out X} : ∀ {o : Out X}, (o.bind k).sem K ↔ o.sem fun v H => (k v H).sem K
  | .bad => Iff.rfl
  | .ok _ _ => Iff.rfl
  | .req p o => by simp only [Out.bind, Out.sem, Out.sem_bind (o := o)]
  | .asm p o => by simp only [Out.bind, Out.sem, Out.sem_bind (o := o)]
  | .all f => by
    simp only [Out.bind, Out.sem]
    exact ⟨fun h x => (Out.sem_bind (o := f x)).1 (h x), fun h x => (Out.sem_bind (o := f x)).2 (h x)⟩
def gones (H : SH X) : List Nat → SH X
  | [] => H
  | k :: r => (gones H r).set k .gone
def clH (H : SH X) (x : X) : List Nat → SH X
  | [] => H
  | k :: r => (gones H r).set k (.obj x)
/-- What closing asks. -/
def clOk (O : X → SH X) (H : SH X) (x : X) (ks : List Nat) (k n : Nat) : Prop :=
  (ndB ks && (ks.headD n == k) && decide (k < n) && hdMem (O x)) = true ∧ AOks ⟨[], n, n + 4096⟩ H ks ((O x).map (Atom.ren (kap ks (n + 4096))))
def opH (H : SH X) (k n : Nat) : SH X → SH X
  | [] => H
  | A0 :: As => H.set k (A0.ren (kap [k] n)) ++ As.map (Atom.ren (kap [k] n))
def reopen (O : X → SH X) (k : Nat) (v : SV) (H : SH X) : Out X := match H[k]? with
  | some (.obj x) => .ok v (opH H k H.length (O x))
  | _ => .ok v H
def opn1 (O : X → SH X) (dec : SH X → Nat → Option (X × List Nat)) (k : Nat) (o : SH X → Out X) (H : SH X) : Out X := match dec H k with
  | none => o H
  | some (x, ks) => .req (clOk O H x ks k H.length) ((o (clH H x ks)).bind (reopen O k))
def opnG (O : X → SH X) (dec : SH X → Nat → Option (X × List Nat)) : List SV → (SH X → Out X) → SH X → Out X
  | [], o, H => o H
  | .key k :: r, o, H => opn1 O dec k (opnG O dec r o) H
  | _ :: r, o, H => opnG O dec r o H
def opn (O : X → SH X) (dec : SH X → Nat → Option (X × List Nat)) (g : List SV → SH X → Out X) (args : List SV) (H : SH X) : Out X := opnG O dec args (g args) H
variable {O : X → SH X} {im : Im} {β : List Value} {W0 : World} {B : Nat} {hR : Hp} {w : World} {P : Program}
theorem gones_eq {H : SH X} : ∀ {ks : List Nat}, (∀ k ∈ ks, True) → gones H ks = sets H (ks.filter (· < H.length)) (List.replicate (ks.filter (· < H.length)).length .gone)
  | [], _ => by simp [gones, sets]
  | k :: ks, _ => by
    have ih := gones_eq (H := H) (ks := ks) (fun _ _ => trivial)
    simp only [gones, ih]
    by_cases h : k < H.length
    · rw [List.filter_cons_of_pos (by simpa using h)]
      simp [List.replicate_succ, sets]
    · rw [List.filter_cons_of_neg (by simpa using h)]
      rw [List.set_eq_of_length_le]
      rw [sets_len]; omega
def valN (β : List Value) (k : Nat) : Value := β.getD k (.slice none 0 0)
theorem HS.packN {H : SH X} {n : Nat} (hn : n = H.length) (hlen : H.length = β.length) : ∀ {ks : List Nat} {As : SH X} {h : Hp}, (∀ k ∈ ks, k < n + 4096) → AOks ⟨[], n, n + 4096⟩ H ks As →
    HS O im (β ++ List.replicate 4096 (.slice none 0 0)) ((ks.filter (· < H.length)).map fun k => H.getD k .gone) ((ks.filter (· < H.length)).map fun k => β.getD k undef) h →
      HS O im (β ++ List.replicate 4096 (.slice none 0 0)) As (ks.map (valN β)) h
  | [], [], _, _, _, _ => .nil
  | [], _ :: _, _, _, e, _ => by simp only [AOks] at e
  | _ :: _, [], _, _, e, _ => by simp only [AOks] at e
  | k :: ks, A :: As, h, hk, e, s => by
    simp only [AOks] at e
    have hΦ : FzOk (β ++ List.replicate 4096 (.slice none 0 0)) im ⟨[], n, n + 4096⟩ := by
      refine ⟨fun k s n g v q => by simp [fzk] at q, fun k q1 q2 => ?_⟩
      simp only at q1 q2
      rw [List.getElem?_append_right (by omega), List.getElem?_replicate, if_pos (by omega)]
    have ih := fun {h} => HS.packN hn hlen (h := h) (ks := ks) (As := As) (fun j hj => hk j (by simp [hj])) e.2
    by_cases hlt : k < H.length
    · rw [List.filter_cons_of_pos (by simpa using hlt)] at s
      simp only [List.map_cons] at s ⊢
      cases s with
      | cons hd hs t =>
        have hv : valN β k = β.getD k undef := by
          unfold valN
          rw [List.getD_eq_getElem?_getD, List.getD_eq_getElem?_getD, List.getElem?_eq_getElem (by omega)]; rfl
        rw [hv]
        refine .cons hd ?_ (ih t)
        have e1 := e.1
        unfold AOk at e1
        rw [List.getElem?_eq_getElem hlt] at e1
        have : H.getD k .gone = H[k] := by rw [List.getD_eq_getElem?_getD, List.getElem?_eq_getElem hlt]; rfl
        rw [this] at hs
        exact AEq.sound hΦ e1 hs
    · rw [List.filter_cons_of_neg (by simpa using hlt)] at s
      simp only [List.map_cons]
      have hv : valN β k = .slice none 0 0 := by
        unfold valN
        rw [List.getD_eq_getElem?_getD, List.getElem?_eq_none (by omega)]; rfl
      rw [hv]
      have e1 := e.1
      unfold AOk at e1
      rw [List.getElem?_eq_none (by omega)] at e1
      obtain ⟨_, _, e3⟩ := e1
      have := HS.cons (h1 := emp) (Dj.emp_left h) (O := O) (im := im) (β := β ++ List.replicate 4096 (.slice none 0 0)) (A := A) (v := .slice none 0 0)
        (by cases A <;> simp only at e3
            · exact .gone
            · subst e3; exact .vec0) (ih s)
      rwa [uni_emp] at this
theorem filter_nodup {ks : List Nat} {p : Nat → Bool} (h : ks.Nodup) : (ks.filter p).Nodup := List.Nodup.sublist List.filter_sublist h
theorem HSt.clo {H : SH X} {x : X} {ks : List Nat} {k : Nat} (st : HSt O W0 B β im H hR w) (hc : clOk O H x ks k H.length) (hks : ∀ k ∈ ks, k < H.length + 4096) : HSt O W0 B β im (clH H x ks) hR w := by
  obtain ⟨hB, ha⟩ := hc
  simp only [Bool.and_eq_true, decide_eq_true_eq, beq_iff_eq] at hB
  obtain ⟨⟨⟨hnd, hhd⟩, hlt⟩, hm⟩ := hB
  obtain ⟨hH, d, s, iv⟩ := st
  have hlen := s.len
  cases ks with
  | nil => simp at hhd; omega
  | cons k0 r =>
    simp at hhd; subst hhd
    have hnd' := ndB_sound hnd
    have hf : (k0 :: r).filter (· < H.length) = k0 :: r.filter (· < H.length) := List.filter_cons_of_pos (by simpa using hlt)
    obtain ⟨h1, h2, d12, rfl, s1, back⟩ := s.pick ((k0 :: r).filter (· < H.length)) (filter_nodup hnd') (fun j hj => by simpa using (List.mem_filter.1 hj).2)
    have s2 := HS.packN rfl hlen hks ha (HS.mono (BLe.app β _) (ILe.refl im) s1)
    have s3 : HS O im ((k0 :: r).map (valN β)) (O x) ((k0 :: r).map (valN β)) h1 := by
      refine HS.unren (σ := kap (k0 :: r) (H.length + 4096)) (fun i => ?_) s2
      have hkb : ∀ k ∈ (k0 :: r), k < (β ++ List.replicate 4096 (Value.slice none 0 0)).length := fun k hk => by have := hks k hk; rw [List.length_append, List.length_replicate]; omega
      have := kap_get hkb i
      rw [show (β ++ List.replicate 4096 (Value.slice none 0 0)).length = H.length + 4096 by rw [List.length_append, List.length_replicate]; omega] at this
      rw [this]
      simp only [List.getElem?_map]
      cases hi : (k0 :: r)[i]? with
      | none => rfl
      | some j =>
        simp only [Option.map_some, Option.some.injEq]
        unfold valN
        have := hkb j (List.mem_of_getElem? hi)
        rw [List.length_append, List.length_replicate] at this
        rw [List.getD_eq_getElem?_getD, List.getD_eq_getElem?_getD]
        by_cases q : j < β.length
        · rw [List.getElem?_append_left q, List.getElem?_eq_getElem q]; rfl
        · have e1 : β[j]? = none := List.getElem?_eq_none (by omega)
          rw [List.getElem?_append_right (by omega), e1, List.getElem?_replicate, if_pos (by omega)]; rfl
    have hr : ∃ a, β.getD k0 undef = .pointer (some a) ∧ ((k0 :: r).map (valN β))[0]? = some (.pointer (some a)) := by
      have hv : valN β k0 = β.getD k0 undef := by
        unfold valN
        rw [List.getD_eq_getElem?_getD, List.getD_eq_getElem?_getD, List.getElem?_eq_getElem (by omega)]; rfl
      cases ho : O x with
      | nil => rw [ho] at hm; simp [hdMem] at hm
      | cons B t =>
        rw [ho] at s3 hm
        simp only [List.map_cons] at s3 ⊢
        rw [hv] at s3 ⊢
        cases s3 with
        | cons hd hs tt =>
          cases B <;> simp [hdMem] at hm
          · generalize β.getD k0 undef = u at hs
            cases hs
            exact ⟨_, rfl, rfl⟩
          · generalize β.getD k0 undef = u at hs
            cases hs
            exact ⟨_, rfl, rfl⟩
    obtain ⟨a, ha1, ha2⟩ := hr
    have s4 := back im β (ILe.refl im) (BLe.refl β) (.obj x :: List.replicate (r.filter (· < H.length)).length .gone) h1 (by rw [hf]; simp) d12 (by
      rw [hf]
      simp only [List.map_cons]
      rw [ha1]
      have g := HS.cons (h1 := h1) (h2 := emp) (Dj.emp_left _).symm (O := O) (im := im) (β := β) (Sat.obj s3 ha2 fun _ _ _ q => q) (HS.gones (vs := (r.filter (· < H.length)).map fun k => β.getD k undef) (n := (r.filter (· < H.length)).length) (by simp))
      rwa [uni_comm (Dj.emp_left _).symm, uni_emp] at g)
    have e : sets H ((k0 :: r).filter (· < H.length)) (.obj x :: List.replicate (r.filter (· < H.length)).length .gone) = clH H x (k0 :: r) := by
      rw [hf]
      simp only [sets, clH]
      rw [gones_eq (fun _ _ => trivial)]
    rw [e] at s4
    exact ⟨uni h1 h2, d, s4, iv⟩
theorem HSt.opened {H : SH X} {k : Nat} {x : X} (hk : H[k]? = some (.obj x)) (st : HSt O W0 B β im H hR w) : ∃ β' im', BLe id β β' ∧ ILe im im' ∧ HSt O W0 B β' im' (opH H k H.length (O x)) hR w := by
  cases ho : O x with
  | nil => exact ⟨β, im, BLe.refl β, ILe.refl im, st⟩
  | cons A0 As =>
    obtain ⟨hH, d, s, iv⟩ := st
    have hlen := s.len
    obtain ⟨β', im', h', hi, him, hsub, hs', hk', hf⟩ := Ent.open (np := H.length) (ρ := []) hk ho (Nat.le_refl _) β im hH s fun b o v q => by
      have := iv.dj b o v q
      unfold uni at this
      cases hx : hH b o with
      | none => rfl
      | some s => rw [hx] at this; cases this
    refine ⟨β', im', fun i v e => ?_, hi, HSt.ent hs' d iv him hsub⟩
    have := (List.getElem?_eq_some_iff.1 e).1
    exact (hk' i (by omega)).trans e
/-- What a call's evaluation o promises. -/
def Snd (O : X → SH X) (P : Program) (f : FuncId) (args : List SV) (o : SH X → Out X) : Prop :=
  ∀ (W0 : World) (B : Nat) (H : SH X) (K : SV → SH X → Prop) (β : List Value) (im : Im) (hR : Hp) (w : World) (vs : List Value), (o H).sem K → RelL β im args vs → HSt O W0 B β im H hR w →
    ∀ (r : Option Nat) (n : Nat) (o : Oper) (a : Act) (next : Act → World → Prop) (Q : Exit → Act → World → Prop), (∀ v w', Yd O W0 B β im hR K (.ok v w') → next (a.put o.dst v) w') →
      o.uponIn (FF r) n P a next Q ((callFunc f vs.toArray).run P w)
theorem Yd.reopen {K : SV → SH X → Prop} {k : Nat} {r : Result Value} (h : Yd O W0 B β im hR (fun v H => (Sy.reopen O k v H).sem K) r) : Yd O W0 B β im hR K r := by
  obtain ⟨v, w', sv, H', β', im', e, hK, hb, hi, hr, st⟩ := h
  unfold Sy.reopen at hK
  split at hK
  · rename_i x hk
    obtain ⟨β2, im2, hb2, hi2, st2⟩ := HSt.opened hk st
    exact ⟨v, w', sv, _, β2, im2, e, hK, BLe.trans hb hb2, ILe.trans hi hi2, hr.mono hb2 hi2, st2⟩
  · exact ⟨v, w', sv, H', β', im', e, hK, hb, hi, hr, st⟩
theorem Snd.opn1 {dec : SH X → Nat → Option (X × List Nat)} (hd : ∀ H k x ks, dec H k = some (x, ks) → ∀ j ∈ ks, j < H.length + 4096) {f : FuncId} {args : List SV} {k : Nat} {o : SH X → Out X} (h : Snd O P f args o) : Snd O P f args (opn1 O dec k o) := by
  intro W0 B H K β im hR w vs hs hr st r n op a next Q hn
  unfold Sy.opn1 at hs
  split at hs
  · exact h W0 B H K β im hR w vs hs hr st r n op a next Q hn
  · rename_i x ks hdec
    obtain ⟨hc, hs⟩ := hs
    exact h W0 B _ _ β im hR w vs (Out.sem_bind.1 hs) hr (st.clo hc (hd H k x ks hdec)) r n op a next Q fun v w' hy => hn v w' hy.reopen
theorem GS1.opn {dec : SH X → Nat → Option (X × List Nat)} (hd : ∀ H k x ks, dec H k = some (x, ks) → ∀ j ∈ ks, j < H.length + 4096) {f : FuncId} {g : List SV → SH X → Out X} (h : GS1 O P f g) : GS1 O P f (opn O dec g) := by
  have go : ∀ (l args : List SV) (o : SH X → Out X), Snd O P f args o → Snd O P f args (opnG O dec l o) := by
    intro l
    induction l with
    | nil => intro args o ho; exact ho
    | cons v l ih =>
      intro args o ho
      cases v <;> first | exact ih args o ho | exact Snd.opn1 hd (ih args o ho)
  intro W0 B args H K β im hR w vs hs hr st
  exact go args args (g args) (fun W0 B H K β im hR w vs hs hr st => h W0 B args H K β im hR w vs hs hr st) W0 B H K β im hR w vs hs hr st
end
end Go.Sy

/-! Readings of arguments as symbolic values. -/
namespace Go.Sy
open Go.RowKit
inductive Ty
  | int (k : IntKind) | bool | str | sl (t : Ty) | st (ts : List Ty)
mutual
def Ty.n : Ty → Nat
  | .st ts => nL ts
  | _ => 1
def nL : List Ty → Nat
  | [] => 0
  | t :: ts => t.n + nL ts
end
mutual
def tyOk (P : Program) : Ty → TypeId → Bool
  | .int k, t => (match P.underlying t with | some (.int k') => k' == k | _ => false) && P.cellsOf t == 1
  | .bool, t => (match P.underlying t with | some .bool => true | _ => false) && P.cellsOf t == 1
  | .str, t => (match P.underlying t with | some .string => true | _ => false) && P.cellsOf t == 1
  | .sl D, t => (match P.underlying t with | some (.slice e) => tyOk P D e && P.cellsOf e == D.n && decide (0 < D.n) | _ => false) && P.cellsOf t == 1
  | .st ts, t => (match P.underlying t with | some (.struct fs) => fsOk P ts fs.toList 0 | _ => false) && P.cellsOf t == nL ts
def fsOk (P : Program) : List Ty → List Field → Nat → Bool
  | [], [], _ => true
  | D :: ts, f :: fs, o => f.offset == o && tyOk P D f.type && P.cellsOf f.type == D.n && fsOk P ts fs (o + D.n)
  | _, _, _ => false
end
mutual
/-- Cells of a type; nothing is longer than b. -/
def Is (b : Nat) : Ty → List SV → Prop
  | .int k, l => ∃ n, l = [.int k n] ∧ k.min ≤ n ∧ n ≤ k.max
  | .bool, l => ∃ x, l = [.bool x]
  | .str, l => ∃ s, l = [.str s] ∧ s.size ≤ b
  | .sl D, l => ∃ n g, l = [.ros D.n n g] ∧ n ≤ b ∧ ∀ i, i < n → Is b D (g i)
  | .st ts, l => IsL b ts l
def IsL (b : Nat) : List Ty → List SV → Prop
  | [], l => l = []
  | D :: ts, l => ∃ l1 l2, l = l1 ++ l2 ∧ Is b D l1 ∧ IsL b ts l2
end
/-- A measure of readings. -/
structure BkOk {H : Type} (bk : DataW H → Nat) : Prop where
  str : ∀ bytes, bytes.length ≤ bk (.lit (.string bytes))
  slen : ∀ es sp, es.length ≤ bk (.slice es sp)
  elem : ∀ es sp, ∀ e ∈ es, bk e ≤ bk (.slice es sp)
  agg : ∀ ps, ∀ p ∈ ps, bk p ≤ bk (.agg ps)
def imOf (W : World) : Im := fun b o => W.cell? ⟨b, o, none⟩
section
variable {P : Program} {W : World} {H : Type} {enc : TypeId × Value → H} {bk : DataW H → Nat}
theorem relC_app {β : List Value} {im : Im} : ∀ {l1 c1}, RelC β im l1 c1 → ∀ {l2 c2}, RelC β im l2 c2 → RelC β im (l1 ++ l2) (c1 ++ c2)
  | _, _, .nil, _, _, h2 => h2
  | _, _, .one h1 h t, _, _, h2 => .one h1 h (relC_app t h2)
  | _, _, .arr rows h hl t, _, _, h2 => by
    rw [List.cons_append, List.append_assoc]; exact .arr rows h hl (relC_app t h2)
theorem mapM_at {α γ : Type} {f : α → Option γ} : ∀ {l : List α} {r : List γ}, l.mapM f = some r → r.length = l.length ∧ ∀ (i : Nat) (y : α), l[i]? = some y → ∃ x, r[i]? = some x ∧ f y = some x
  | [], r, h => by simp at h; subst h; simp
  | a :: l, r, h => by
    rw [List.mapM_cons] at h
    cases ha : f a with
    | none => rw [ha] at h; simp at h
    | some x =>
      rw [ha] at h
      cases hl : l.mapM f with
      | none => rw [hl] at h; simp at h
      | some r' =>
        rw [hl] at h; simp at h; subst h
        obtain ⟨h1, h2⟩ := mapM_at hl
        refine ⟨by simp [h1], fun i y e => ?_⟩
        cases i with
        | zero => simp at e; subst e; exact ⟨x, rfl, ha⟩
        | succ i => simpa using h2 i y (by simpa using e)
theorem cells_spot {base : Nat} {a : Addr} {n : Nat} {cs : List Value} (hn : 0 < n) (h : W.cells? base a n = some cs) : a.spot = none := by
  unfold World.cells? at h
  split at h
  · obtain ⟨h1, h2⟩ := mapM_at h
    obtain ⟨x, _, hx⟩ := h2 0 0 (by rw [List.getElem?_range hn])
    simp only [Addr.add, if_true] at hx
    unfold World.cell? at hx
    split at hx
    · cases hs : a.spot with
      | none => rfl
      | some q => rw [hs] at hx; simp at hx
    · cases hx
  · cases h
theorem cells_at {base b p n : Nat} {cs : List Value} (h : W.cells? base ⟨b, p, none⟩ n = some cs) : cs.length = n ∧ ∀ j x, cs[j]? = some x → W.cell? ⟨b, p + j, none⟩ = some x := by
  unfold World.cells? at h
  split at h
  · obtain ⟨h1, h2⟩ := mapM_at h
    simp at h1
    refine ⟨h1, fun j x e => ?_⟩
    have hj : j < n := by have := (List.getElem?_eq_some_iff.1 e).1; omega
    obtain ⟨y, hy, he⟩ := h2 j j (by rw [List.getElem?_range hj])
    rw [e] at hy; injection hy with hy; subst hy
    rw [add_addr] at he; exact he
  · cases h
theorem fsOk_read {b : Nat} (fuel : Nat) (ih : ∀ {D : Ty} {t : TypeId} {cs : List Value} {d : DataW H} {ps : List MemPlace}, tyOk P D t = true → DataW.trod enc P W 0 (fun _ => true) true fuel t cs = some (d, ps) → bk d ≤ b → ∃ l, RelC [] (imOf W) l cs ∧ Is b D l) {cs : List Value} :
    ∀ {ts : List Ty} {fs : List Field} {o : Nat} {xs : List (DataW H × List MemPlace)}, fsOk P ts fs o = true → xs.length = fs.length →
      (∀ (i : Nat) (f : Field), fs[i]? = some f → DataW.trod enc P W 0 (fun _ => true) true fuel f.type ((cs.drop f.offset).take (P.cellsOf f.type)) = xs[i]?) → (∀ x ∈ xs, bk x.1 ≤ b) → ∃ l, RelC [] (imOf W) l ((cs.drop o).take (nL ts)) ∧ IsL b ts l
  | [], [], o, xs, _, _, _, _ => ⟨[], by simp [nL]; exact .nil, by simp only [IsL]⟩
  | [], _ :: _, _, _, h, _, _, _ => by simp [fsOk] at h
  | _ :: _, [], _, _, h, _, _, _ => by simp [fsOk] at h
  | D :: ts, f :: fs, o, [], _, hl, _, _ => by simp at hl
  | D :: ts, f :: fs, o, x :: xs, h, hl, hm, hb => by
    simp only [fsOk, Bool.and_eq_true, beq_iff_eq] at h
    obtain ⟨⟨⟨h1, h2⟩, h3⟩, h4⟩ := h
    have hx := hm 0 f rfl
    simp only [List.getElem?_cons_zero] at hx
    obtain ⟨l1, r1, i1⟩ := ih h2 hx (hb x (by simp))
    obtain ⟨l2, r2, i2⟩ := fsOk_read fuel ih (cs := cs) h4 (by simpa using hl) (fun i g hg => by have := hm (i + 1) g (by simpa using hg); simpa using this) (fun y hy => hb y (by simp [hy]))
    refine ⟨l1 ++ l2, ?_, by simp only [IsL]; exact ⟨l1, l2, rfl, i1, i2⟩⟩
    rw [h1, h3] at r1
    simp only [nL]
    rw [List.take_add, List.drop_drop]
    exact relC_app r1 r2
theorem read (hbk : BkOk bk) {b : Nat} : ∀ (fuel : Nat) {D : Ty} {t : TypeId} {cs : List Value} {d : DataW H} {ps : List MemPlace}, tyOk P D t = true →
    DataW.trod enc P W 0 (fun _ => true) true fuel t cs = some (d, ps) → bk d ≤ b → ∃ l, RelC [] (imOf W) l cs ∧ Is b D l
  | 0, _, _, _, _, _, _, h, _ => by simp [DataW.trod] at h
  | fuel + 1, D, t, cs, d, ps, hD, h, hb => by
    cases D with
    | int k =>
      simp only [tyOk, Bool.and_eq_true] at hD
      split at hD
      · rename_i k' hu
        have hk : k' = k := eq_of_beq hD.1
        subst hk
        obtain ⟨n, rfl, _, hw⟩ := DataW.trod_int hu h
        refine ⟨[.int k' n], .one rfl .int .nil, ?_⟩
        simp only [Is]
        simp only [Lit.wf, Bool.and_eq_true, decide_eq_true_eq] at hw
        exact ⟨n, rfl, hw.1, hw.2⟩
      · simp at hD
    | bool =>
      simp only [tyOk, Bool.and_eq_true] at hD
      split at hD
      · rename_i hu
        obtain ⟨n, rfl, _⟩ := DataW.trod_bool hu h
        exact ⟨[.bool n], .one rfl .bool .nil, by simp only [Is]; exact ⟨n, rfl⟩⟩
      · simp at hD
    | str =>
      simp only [tyOk, Bool.and_eq_true] at hD
      split at hD
      · rename_i hu
        obtain ⟨n, rfl, he, _⟩ := DataW.trod_string hu h
        simp only [Prod.mk.injEq] at he
        have := hbk.str n.data.toList
        rw [← he.1] at this
        have e : n.size = n.data.toList.length := rfl
        exact ⟨[.str n], .one rfl .str .nil, by simp only [Is]; exact ⟨n, rfl, Nat.le_trans (Nat.le_of_eq e) (Nat.le_trans this hb)⟩⟩
      · simp at hD
    | sl D =>
      simp only [tyOk, Bool.and_eq_true] at hD
      split at hD
      · rename_i e hu
        simp only [Bool.and_eq_true, beq_iff_eq, decide_eq_true_eq] at hD
        obtain ⟨⟨⟨hDe, hn⟩, hpos⟩, _⟩ := hD
        unfold DataW.trod at h
        rw [hu] at h
        split at h <;> try (simp_all; done)
        · -- nil
          refine ⟨[.ros D.n 0 (fun _ => [])], .one rfl .ros0 .nil, ?_⟩
          simp only [Is]
          exact ⟨0, _, rfl, Nat.zero_le _, fun i hi => by omega⟩
        · rename_i e' a len cap heq
          injection heq with heq; injection heq with heq; subst heq
          simp only at h
          split at h
          · rename_i hc
            cases hm : (List.range len).mapM (fun i => (W.cells? 0 (a.add (i * P.cellsOf e)) (P.cellsOf e)).bind (DataW.trod enc P W 0 (fun _ => true) true fuel e)) with
            | none => rw [hm] at h; simp at h
            | some es =>
              rw [hm] at h
              simp only [Option.bind_some] at h
              cases hr : (List.range (cap - len)).mapM (fun j => (W.cells? 0 (a.add ((len + j) * P.cellsOf e)) (P.cellsOf e)).bind (DataW.trod enc P W 0 (fun _ => true) true fuel e)) with
              | none => simp [hr] at h
              | some rs =>
                simp only [if_true, hr, Option.map_some, Option.some.injEq, Prod.mk.injEq] at h
                obtain ⟨hd, _⟩ := h
                obtain ⟨m1, m2⟩ := mapM_at hm
                obtain ⟨r1, r2⟩ := mapM_at hr
                simp at m1 r1
                have hlen : len ≤ b := by
                  have := hbk.slen (es.map (·.1)) (rs.map (·.1))
                  rw [hd] at this; simp at this; omega
                by_cases hcap : cap = 0
                · have h0 : len = 0 := by omega
                  subst h0 hcap
                  refine ⟨[.ros D.n 0 (fun _ => [])], .one rfl .ros0 .nil, ?_⟩
                  simp only [Is]
                  exact ⟨0, _, rfl, Nat.zero_le _, fun i hi => by omega⟩
                · have hsp : a.spot = none := by
                    by_cases h0 : 0 < len
                    · obtain ⟨x, _, hx⟩ := m2 0 0 (by rw [List.getElem?_range h0])
                      cases hc0 : W.cells? 0 (a.add (0 * P.cellsOf e)) (P.cellsOf e) with
                      | none => rw [hc0] at hx; cases hx
                      | some c0 =>
                        have := cells_spot (by omega) hc0
                        simpa [Addr.add] using this
                    · obtain ⟨x, _, hx⟩ := r2 0 0 (by rw [List.getElem?_range (by omega)])
                      have e0 : len = 0 := by omega
                      subst e0
                      cases hc0 : W.cells? 0 (a.add ((0 + 0) * P.cellsOf e)) (P.cellsOf e) with
                      | none => rw [hc0] at hx; cases hx
                      | some c0 =>
                        have := cells_spot (by omega) hc0
                        simpa [Addr.add] using this
                  obtain ⟨ab, ao, asp⟩ := a
                  simp only at hsp; subst hsp
                  have key : ∀ i, i < len → ∃ l cs, RelC [] (imOf W) l cs ∧ Is b D l ∧ cs.length = D.n ∧ ∀ j x, cs[j]? = some x → W.cell? ⟨ab, ao + (i * D.n + j), none⟩ = some x := by
                    intro i hi
                    obtain ⟨x, hx0, hx⟩ := m2 i i (by rw [List.getElem?_range hi])
                    cases hc0 : W.cells? 0 ((⟨ab, ao, none⟩ : Addr).add (i * P.cellsOf e)) (P.cellsOf e) with
                    | none => rw [hc0] at hx; cases hx
                    | some c0 =>
                      rw [hc0] at hx
                      simp only [Option.bind_some] at hx
                      rw [add_addr] at hc0
                      obtain ⟨q1, q2⟩ := cells_at hc0
                      have hxb : bk x.1 ≤ b := by
                        have := hbk.elem (es.map (·.1)) (rs.map (·.1)) x.1 (List.mem_map.2 ⟨x, List.mem_of_getElem? hx0, rfl⟩)
                        rw [hd] at this; omega
                      obtain ⟨l, rl, il⟩ := read hbk fuel hDe hx hxb
                      refine ⟨l, c0, rl, il, by rw [q1, hn], fun j y ey => ?_⟩
                      have := q2 j y ey
                      rw [hn] at this
                      rw [← this]; congr 2; omega
                  refine ⟨[.ros D.n len (fun i => if h : i < len then (key i h).choose else [])], .one rfl ?_ .nil, ?_⟩
                  · refine .ros (fun i => if h : i < len then (key i h).choose_spec.choose else []) (fun i hi => ?_) (fun i hi => ?_) hc.2.1 fun i hi j x ex => ?_
                    · simp only [hi, dif_pos]; exact (key i hi).choose_spec.choose_spec.1
                    · simp only [hi, dif_pos]; exact (key i hi).choose_spec.choose_spec.2.2.1
                    · simp only [hi, dif_pos] at ex; exact (key i hi).choose_spec.choose_spec.2.2.2 j x ex
                  · simp only [Is]
                    exact ⟨len, _, rfl, hlen, fun i hi => by simp only [hi, dif_pos]; exact (key i hi).choose_spec.choose_spec.2.1⟩
          · cases h
      · simp at hD
    | st ts =>
      simp only [tyOk, Bool.and_eq_true, beq_iff_eq] at hD
      split at hD
      · rename_i fs hu
        obtain ⟨xs, n, hfu, hxe, hl, hlen, hf⟩ := DataW.trod_struct hu h
        injection hfu with hfu; subst hfu
        simp only [Prod.mk.injEq] at hxe
        obtain ⟨l, r, i⟩ := fsOk_read (W := W) (enc := enc) (bk := bk) (b := b) fuel (fun {D t cs d ps} hD hx hb => read hbk fuel hD hx hb) (cs := cs) hD.1 (by simpa using hlen) (fun i f hf' => hf i f (by simpa using hf'))
          (fun x hx => by have := hbk.agg (xs.map (·.1)) x.1 (List.mem_map.2 ⟨x, hx, rfl⟩); rw [← hxe.1] at this; omega)
        refine ⟨l, ?_, by simp only [Is]; exact i⟩
        have e : (cs.drop 0).take (nL ts) = cs := by rw [List.drop_zero, List.take_of_length_le (by omega)]
        rwa [e] at r
      · simp at hD
end
end Go.Sy

/-! From a law's contract to its row. -/
namespace Go.Sy
open Go.RowKit Go.ChangeShapes
section
variable {X : Type} {O : X → SH X} {P : Program}
theorem inv_start (W : World) : Inv W W.heap.size (imOf W) (uni emp emp) W :=
  ⟨Below.refl _ _, Nat.le_refl _, fun b o v e => by simp [uni, emp] at e, fun b o x e => by simp [uni, emp] at e, fun b o s e => by simp [uni, emp] at e, fun b o v e => e, fun b o v e => rfl⟩
theorem law_calls {f : FuncId} {g : List SV → SH X → Out X} {args : List SV} {vs : List Value} {W : World} (h : GC1 O P f g) (hs : (g args []).sem fun v _ => v = .bool true) (hr : RelL [] (imOf W) args vs) :
    Calls P f vs.toArray W fun e W' => e = .returned (.bool true) ∧ Below W.heap.size W W' := by
  have := h W W.heap.size args [] (fun v _ => v = .bool true) [] (imOf W) emp W vs hs hr ⟨emp, Dj.emp_left _, .nil, inv_start W⟩ 0
  refine (CallsIn.calls this fun k d hd => by simp [FF] at hd).mono ?_
  rintro e W' ⟨v, rfl, v', w'', sv, H', β', im', e, hK, hb, hi, hrel, st⟩
  injection e with e1 e2; subst e1 e2
  subst hK
  cases hrel
  obtain ⟨hH, d, s, iv⟩ := st
  exact ⟨rfl, iv.below⟩
end
section
variable {H : Type} {enc : TypeId × Value → H} {P : Program} {W W' : World}
theorem Below.trodAll (hl : laidOutB P = true) (hb : Below W.heap.size W W') : ∀ {ts : List TypeId} {vs : List Value} {ds : List (DataW H)} {ps : List MemPlace}, ts.all (fun t => P.readableRec t && decide (t < P.types.size)) = true →
    DataW.TrodAll enc P W 0 (fun _ => true) true ts vs ds ps → (∀ x ∈ ps, x.block < W.heap.size) → DataW.TrodAll enc P W' 0 (fun b => decide (b < W.heap.size)) true ts vs ds ps
  | [], [], [], _, _, h, _ => h
  | t :: ts, v :: vs, d :: ds, ps, ht, h, hlt => by
    obtain ⟨p, q, h1, h2, rfl⟩ := h
    simp only [List.all_cons, Bool.and_eq_true, decide_eq_true_eq] at ht
    exact ⟨p, q, RowKit.Below.trod hl ht.1.1 ht.1.2 h1 hb (fun x hx => hlt x (List.mem_append_left _ hx)), Below.trodAll hl hb ht.2 h2 (fun x hx => hlt x (List.mem_append_right _ hx)), rfl⟩
  | [], _ :: _, _, _, _, h, _ => by simp [DataW.TrodAll] at h
  | [], [], _ :: _, _, _, h, _ => by simp [DataW.TrodAll] at h
  | _ :: _, [], _, _, _, h, _ => by simp [DataW.TrodAll] at h
  | _ :: _, _ :: _, [], _, _, h, _ => by simp [DataW.TrodAll] at h
theorem okWide_st {ts : List Ty} {t : TypeId} {r : Reach} {base : Nat} {v : Value} (h : tyOk P (.st ts) t = true) (hv : Value.okWide P W r base t v) : ∃ cs, v = .agg cs := by
  simp only [tyOk, Bool.and_eq_true] at h
  unfold Value.okWide at hv
  split at h
  · rename_i fs hu
    rw [hu] at hv
    obtain ⟨cs, rfl, _⟩ := hv
    exact ⟨cs, rfl⟩
  · simp at h
/-- A value of one cell. -/
theorem okWide_one {D : Ty} {t : TypeId} {r : Reach} {base : Nat} {v : Value} (h : tyOk P D t = true) (hD : ∀ ts, D ≠ .st ts) (hv : Value.okWide P W r base t v) : v.cells = #[v] := by
  cases D with
  | st ts => exact absurd rfl (hD ts)
  | _ =>
    simp only [tyOk, Bool.and_eq_true] at h
    unfold Value.okWide at hv
    split at h
    · rename_i hu
      rw [hu] at hv
      simp only at hv
      cases v <;> first | rfl | (simp [Cell.okWide, Cell.ok, hu] at hv)
    · simp at h
theorem law_post {f : Func} {s : ChangeSpec} {fresh handsOn : Bool} {args : Array Value} {ds : List (DataW H)} {before : List MemPlace} (hl : laidOutB P = true)
    (hps : f.params.toList.all (fun t => P.readableRec t && decide (t < P.types.size)) = true) (hres : (match f.resultTypes.toList with | [t] => (match P.underlying t with | some .bool => true | _ => false) | _ => false) = true) (hvars : s.vars = [])
    (hfn : s.fn H (ds ++ []) = { results := [.lit (.bool true)], args := ds }) (hW : DataW.Whole enc P f.params.toList s.vars false W args.toList ds [] before) (hb : Below W.heap.size W W') :
    s.post enc P f false fresh handsOn false W args (.bool true) W' := by
  have hW' := hW
  obtain ⟨tb, htl, htb⟩ : ∃ tb, f.resultTypes.toList = [tb] ∧ P.underlying tb = some .bool := by
    split at hres
    · rename_i t ht
      split at hres
      · rename_i hu; exact ⟨t, ht, hu⟩
      · cases hres
    · cases hres
  have hres : f.resultTypes = #[tb] := by rw [← Array.toList_inj, htl]
  obtain ⟨p, q, hA, hV, rfl, hfz, hnd⟩ := hW
  have hq : q = [] := by
    rw [hvars] at hV
    simpa [DataW.TrodVars] using hV
  subst hq
  have hlt : ∀ x ∈ p, x.block < W.heap.size := fun x hx => by simpa using hW'.lt x (List.mem_append_left _ hx)
  refine ⟨ds, [], p ++ [], [], p, [], hW', ?_, ?_, ?_, ?_, fun h => by cases h⟩
  · rw [hfn, hres]
    exact trodAll_mk1 (shut_bool htb true)
  · rw [hfn]
    exact Below.trodAll hl hb hps hA hlt
  · rw [hfn, hvars]
    simp [DataW.TrodVars]
  · exact hb.frame _
end
end Go.Sy
