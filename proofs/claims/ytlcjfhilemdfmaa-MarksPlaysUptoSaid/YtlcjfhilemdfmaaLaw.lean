/- The law's statement, proved: of whatever it reads, within the bound of the second form, the law returns true and leaves its arguments as they were. -/
import Derived.Test.YtlcjfhilemdfmaaSyP3
import Derived.Test.YtlcjfhilemdfmaaK1
import Derived.Test.YtlcjfhilemdfmaaRows
set_option linter.all false
set_option linter.unusedVariables false
set_option linter.unusedSimpArgs false
set_option linter.unusedVariables false
namespace Go.Proofs.Ytlcjfhilemdfmaa
open Go.ChangeShapes Go.WideShapes Go.ChangeAt Go.RowKit Go.Sy Go.Sy.S23
theorem own : ownKnob Try.prog.godebug = none := by kernel_rfl
theorem bulk_mem {H : Type} {d : DataW H} : ∀ {l : List (DataW H)}, d ∈ l → Rows.uptoBulk d ≤ Rows.uptoBulkAll l
  | x :: r, h => by
    simp only [Rows.uptoBulkAll]
    rcases List.mem_cons.1 h with e | e
    · subst e; omega
    · have := bulk_mem e; omega
theorem bulk_one {H : Type} (d : DataW H) : 1 ≤ Rows.uptoBulk d := by
  cases d with
  | lit l => cases l <;> simp [Rows.uptoBulk]
  | _ => simp [Rows.uptoBulk]
theorem bulk_len {H : Type} : ∀ (l : List (DataW H)), l.length ≤ Rows.uptoBulkAll l
  | [] => Nat.zero_le _
  | x :: r => by have := bulk_one x; have := bulk_len r; simp only [Rows.uptoBulkAll, List.length_cons]; omega
theorem bkOk {H : Type} : BkOk (Rows.uptoBulk (H := H)) where
  str := fun bytes => by simp [Rows.uptoBulk]
  slen := fun es sp => by have := bulk_len es; simp only [Rows.uptoBulk]; omega
  elem := fun es sp e he => by have := bulk_mem he; simp only [Rows.uptoBulk]; omega
  agg := fun ps p hp => by have := bulk_mem hp; simp only [Rows.uptoBulk]; omega
def opT : Ty := .st [.int .i64, .int .i64, .int .i64, .sl (.int .u64), .int .u64]
def caseT : Ty := .st [.int .i64, .int .i64, .int .i64, .sl opT]
theorem caseOk : Try.f3.params.toList.all (fun t => tyOk Try.prog caseT t) = true := by kernel_rfl
theorem op_is {b : Nat} {l : List SV} (h : Is b opT l) : CEq ⟨[], 0, 0⟩ l (opC (opD l)) ∧ (opD l).m ≤ b := by
  simp only [opT, Is, IsL] at h
  obtain ⟨_, _, rfl, ⟨a1, rfl, _⟩, _, _, rfl, ⟨a2, rfl, _⟩, _, _, rfl, ⟨a3, rfl, _⟩, _, _, rfl, ⟨m, g, rfl, hm, hg⟩, _, _, rfl, ⟨a5, rfl, _⟩, rfl⟩ := h
  simp only [List.cons_append, List.nil_append, opD, opC, CEq, VEq, SV.one, Ty.n, true_and, and_true]
  refine ⟨fun i hi => ?_, hm⟩
  obtain ⟨x, e, _⟩ := hg i hi
  rw [e]; simp [CEq, VEq, SV.one, iv]
theorem case_is {b : Nat} {l : List SV} (h : Is b caseT l) : ∃ f lg fr n ops, CEq ⟨[], 0, 0⟩ l (zC f lg fr n ops) ∧ n ≤ b ∧ ∀ i, i < n → (ops i).m ≤ b := by
  simp only [caseT, Is, IsL] at h
  obtain ⟨_, _, rfl, ⟨a1, rfl, _⟩, _, _, rfl, ⟨a2, rfl, _⟩, _, _, rfl, ⟨a3, rfl, _⟩, _, _, rfl, ⟨n, g, rfl, hn, hg⟩, rfl⟩ := h
  refine ⟨a1, a2, a3, n, fun i => opD (g i), ?_, hn, fun i hi => (op_is (by simpa only [opT, Is] using hg i hi)).2⟩
  simp only [List.cons_append, List.nil_append, zC, CEq, VEq, SV.one, Ty.n, nL, opT, true_and, and_true]
  exact fun i hi => (op_is (by simpa only [opT, Is] using hg i hi)).1
theorem contract (H : Type) (enc : TypeId × Value → H) (W : World) (base : Nat) (args : Array Value) (ds gs : List (DataW H)) (before : List MemPlace)
    (hval : ∀ (j : Nat) t v, Try.f3.params[j]? = some t → args[j]? = some v → Value.okWide Try.prog W .any base t v)
    (hW : DataW.Whole enc Try.prog Try.f3.params.toList Rows.marksPlaysSpec.vars false W args.toList ds gs before) (hk : Rows.uptoSmall H (ds ++ gs) = true) :
    Calls Try.prog 3 args W fun e W' => ∃ v, e = .returned v ∧ Rows.marksPlaysSpec.post enc Try.prog Try.f3 false true false false W args v W' := by
  have hW' := hW
  have hcase := caseOk
  obtain ⟨p, q, hA0, hV, rfl, hfz, hnd⟩ := hW
  have hA : DataW.TrodAll enc Try.prog W 0 (fun _ => true) true Try.f3.params.toList args.toList ds p := hA0
  rw [Try.params3] at hA hval hcase
  obtain ⟨v0, vs0, d0, ds0, p0, q0, hargs, rfl, rfl, h0, r0⟩ := trodAll_cons hA
  obtain ⟨rfl, rfl, rfl⟩ := trodAll_nil r0
  obtain rfl : args = #[v0] := by cases args; simp_all
  obtain ⟨rfl, rfl⟩ := trodVars_none hV
  clear hA0
  have hb : Rows.uptoBulk d0 ≤ 1048576 := by
    have := of_decide_eq_true hk
    simp only [List.append_nil, Rows.uptoBulkAll] at this
    omega
  obtain ⟨fuel, h0⟩ := h0
  simp only [List.all_cons, List.all_nil, Bool.and_true] at hcase
  obtain ⟨l, hrel, hIs⟩ := read bkOk fuel hcase h0 hb
  obtain ⟨cs, rfl⟩ := okWide_st hcase (hval 0 _ v0 rfl rfl)
  obtain ⟨f, lg, fr, n, ops, hceq, hn, hm⟩ := case_is hIs
  have hrel2 := CEq.sound ⟨fun k s n g v e => by simp [fzk] at e, fun k _ q => by simp at q⟩ _ _ hceq hrel
  have hr : RelL [] (imOf W) [.agg (zC f lg fr n ops)] [.agg cs] := .cons (by simpa [Value.cells] using Rel.agg hrel2) .nil
  have hs : (s3 [.agg (zC f lg fr n ops)] []).sem fun v _ => v = .bool true :=
    ⟨⟨by omega, fun i _ => rfl, fun i hi => Nat.lt_of_le_of_lt (hm i hi) (by omega)⟩, rfl⟩
  refine (law_calls g3 hs hr).mono fun e W' ⟨he, hbelow⟩ => ?_
  subst he
  exact ⟨_, rfl, law_post (by kernel_rfl) (by kernel_rfl) (by kernel_rfl) rfl rfl hW' hbelow⟩
set_option maxRecDepth 100000 in
theorem lifted (os : Os) (started : os.Started) (H : Type) (enc : TypeId × Value → H) (F : Stop.Interp) :
    ReturnsInHanded {} Try.checked os 3 .any ((Rows.OpenSpec.upto Rows.marksPlaysSpec).pre6 enc Try.prog Try.f3 Rows.marksPlaysUptoRow.domain false) (((Rows.OpenSpec.upto Rows.marksPlaysSpec).at F).post enc Try.prog Try.f3 false true false false) := by
  refine returnsInHanded_of_cond (C := Try.checked) (s := Rows.OpenSpec.upto Rows.marksPlaysSpec) (k := Rows.uptoSmall) rfl own started (by kernel_rfl) Try.func3
    (OpenSpec.witness (enc := enc) (C := Try.checked) (s := Rows.OpenSpec.upto Rows.marksPlaysSpec) (k := Rows.uptoSmall) rfl false ⟨#[], #[.agg #[.int .i64 0, .int .i64 0, .int .i64 0, .slice none 0 0]], []⟩ 8 (by kernel_rfl) (by kernel_rfl) (by kernel_rfl)
      (x := ([.agg [.lit (.int .i64 0), .lit (.int .i64 0), .lit (.int .i64 0), .nil]], [], [])) (by kernel_rfl) rfl (by kernel_rfl)) ?_
  intro W base args ds gs before hval hW _ hk _
  exact contract H enc W base args ds gs before hval hW hk
theorem over : Rows.marksPlaysUptoRow.holds Try.pinned (Rows.OpenSpec.upto Rows.marksPlaysSpec) :=
  OpenClaim.holds_of_cond 3 Try.f3 rfl rfl rfl rfl rfl rfl rfl ⟨rfl, rfl, rfl, rfl, rfl⟩ rfl rfl rfl rfl rfl (by kernel_rfl) Try.func3 (by kernel_rfl)
    (of_decide_eq_true (by kernel_rfl)) (by unfold Func.isWrapper; first | (rw [if_pos (by decide +kernel)]; kernel_rfl) | (rw [if_neg (by decide +kernel)]; exact ⟨rfl, rfl⟩))
    (fun os started H enc _ F => lifted os started H enc F)
theorem proved : Rows.MarksPlaysUptoSaid :=
  over
#print axioms proved
end Go.Proofs.Ytlcjfhilemdfmaa
