/- A part of the proof of the seat's law: an evaluator of the program's code over symbolic values, its soundness, and the contracts of the functions that the law reaches. -/
import Derived.Test.YtlcjfhilemdfmaaSyP3
import Derived.Test.YtlcjfhilemdfmaaW1
import Derived.Test.YtlcjfhilemdfmaaChecked
import Derived.KernelRfl
import Derived.Test.YtlcjfhilemdfmaaW2
set_option linter.all false
set_option linter.unusedVariables false
set_option linter.unusedSimpArgs false
namespace Go.Sy.S23
open Go.Sy Go.Proofs
theorem hP : Try.prog.follows .mixedOrders = true := by kernel_rfl
theorem c3 : cF Try.prog Try.f3 = some m3 := by kernel_rfl
theorem h3 : FnIs Try.prog 3 m3 [.t 2] 5 := FnIs.mk (fn := Try.f3) Try.func3 (by kernel_rfl) c3 (by kernel_rfl) (by kernel_rfl)
theorem c4 : cF Try.prog Try.f4 = some m4 := by kernel_rfl
theorem h4 : FnIs Try.prog 4 m4 [.t 2] 5 := FnIs.mk (fn := Try.f4) Try.func4 (by kernel_rfl) c4 (by kernel_rfl) (by kernel_rfl)
theorem c5 : cF Try.prog Try.f5 = some m5 := by kernel_rfl
theorem h5 : FnIs Try.prog 5 m5 [.t 2] 5 := FnIs.mk (fn := Try.f5) Try.func5 (by kernel_rfl) c5 (by kernel_rfl) (by kernel_rfl)
theorem c6 : cF Try.prog Try.f6 = some m6 := by kernel_rfl
theorem h6 : FnIs Try.prog 6 m6 [.t 0] 5 := FnIs.mk (fn := Try.f6) Try.func6 (by kernel_rfl) c6 (by kernel_rfl) (by kernel_rfl)
theorem c7 : cF Try.prog Try.f7 = some m7 := by kernel_rfl
theorem h7 : FnIs Try.prog 7 m7 [.t 6, .t 7] 5 := FnIs.mk (fn := Try.f7) Try.func7 (by kernel_rfl) c7 (by kernel_rfl) (by kernel_rfl)
theorem c8 : cF Try.prog Try.f8 = some m8 := by kernel_rfl
theorem h8 : FnIs Try.prog 8 m8 [.c 6 (some 27)] 5 := FnIs.mk (fn := Try.f8) Try.func8 (by kernel_rfl) c8 (by kernel_rfl) (by kernel_rfl)
theorem c9 : cF Try.prog Try.f9 = some m9 := by kernel_rfl
theorem h9 : FnIs Try.prog 9 m9 [.t 4] 5 := FnIs.mk (fn := Try.f9) Try.func9 (by kernel_rfl) c9 (by kernel_rfl) (by kernel_rfl)
theorem c10 : cF Try.prog Try.f10 = some m10 := by kernel_rfl
theorem h10 : FnIs Try.prog 10 m10 [.c 10 (some 27), .t 11] 5 := FnIs.mk (fn := Try.f10) Try.func10 (by kernel_rfl) c10 (by kernel_rfl) (by kernel_rfl)
theorem c11 : cF Try.prog Try.f11 = some m11 := by kernel_rfl
theorem h11 : FnIs Try.prog 11 m11 [.t 2] 5 := FnIs.mk (fn := Try.f11) Try.func11 (by kernel_rfl) c11 (by kernel_rfl) (by kernel_rfl)
theorem c12 : cF Try.prog Try.f12 = some m12 := by kernel_rfl
theorem h12 : FnIs Try.prog 12 m12 [.t 10] 5 := FnIs.mk (fn := Try.f12) Try.func12 (by kernel_rfl) c12 (by kernel_rfl) (by kernel_rfl)
theorem c13 : cF Try.prog Try.f13 = some m13 := by kernel_rfl
theorem h13 : FnIs Try.prog 13 m13 [.t 2] 5 := FnIs.mk (fn := Try.f13) Try.func13 (by kernel_rfl) c13 (by kernel_rfl) (by kernel_rfl)
theorem c14 : cF Try.prog Try.f14 = some m14 := by kernel_rfl
theorem h14 : FnIs Try.prog 14 m14 [.t 2] 5 := FnIs.mk (fn := Try.f14) Try.func14 (by kernel_rfl) c14 (by kernel_rfl) (by kernel_rfl)
theorem c15 : cF Try.prog Try.f15 = some m15 := by kernel_rfl
theorem h15 : FnIs Try.prog 15 m15 [.t 2] 5 := FnIs.mk (fn := Try.f15) Try.func15 (by kernel_rfl) c15 (by kernel_rfl) (by kernel_rfl)
theorem c16 : cF Try.prog Try.f16 = some m16 := by kernel_rfl
theorem h16 : FnIs Try.prog 16 m16 [.t 2] 5 := FnIs.mk (fn := Try.f16) Try.func16 (by kernel_rfl) c16 (by kernel_rfl) (by kernel_rfl)
theorem c17 : cF Try.prog Try.f17 = some m17 := by kernel_rfl
theorem h17 : FnIs Try.prog 17 m17 [.t 4] 5 := FnIs.mk (fn := Try.f17) Try.func17 (by kernel_rfl) c17 (by kernel_rfl) (by kernel_rfl)
theorem c18 : cF Try.prog Try.f18 = some m18 := by kernel_rfl
theorem h18 : FnIs Try.prog 18 m18 [.t 4] 5 := FnIs.mk (fn := Try.f18) Try.func18 (by kernel_rfl) c18 (by kernel_rfl) (by kernel_rfl)
theorem c19 : cF Try.prog Try.f19 = some m19 := by kernel_rfl
theorem h19 : FnIs Try.prog 19 m19 [.t 2] 5 := FnIs.mk (fn := Try.f19) Try.func19 (by kernel_rfl) c19 (by kernel_rfl) (by kernel_rfl)
theorem c20 : cF Try.prog Try.f20 = some m20 := by kernel_rfl
theorem h20 : FnIs Try.prog 20 m20 [.t 6] 5 := FnIs.mk (fn := Try.f20) Try.func20 (by kernel_rfl) c20 (by kernel_rfl) (by kernel_rfl)
theorem c21 : cF Try.prog Try.f21 = some m21 := by kernel_rfl
theorem h21 : FnIs Try.prog 21 m21 [] 5 := FnIs.mk (fn := Try.f21) Try.func21 (by kernel_rfl) c21 (by kernel_rfl) (by kernel_rfl)
theorem c22 : cF Try.prog Try.f22 = some m22 := by kernel_rfl
theorem h22 : FnIs Try.prog 22 m22 [] 5 := FnIs.mk (fn := Try.f22) Try.func22 (by kernel_rfl) c22 (by kernel_rfl) (by kernel_rfl)
theorem c23 : cF Try.prog Try.f23 = some m23 := by kernel_rfl
theorem h23 : FnIs Try.prog 23 m23 [.t 2] 5 := FnIs.mk (fn := Try.f23) Try.func23 (by kernel_rfl) c23 (by kernel_rfl) (by kernel_rfl)
end Go.Sy.S23

set_option linter.unusedSimpArgs false
set_option linter.unusedVariables false
set_option maxRecDepth 20000
namespace Go.Sy.S23
open Go.Sy Go.RowKit Go.Proofs
theorem set_same {X : Type} {H : SH X} {k : Nat} {A : Atom X} (h : H[k]? = some A) : H.set k A = H := by
  apply List.ext_getElem?
  intro i
  by_cases e : k = i
  · subst e; rw [List.getElem?_set_self (List.getElem?_eq_some_iff.1 h).1, h]
  · rw [List.getElem?_set_ne e]
theorem decB : ∀ (H : SH X) (k : Nat) (x : X) (ks : List Nat), dec H k = some (x, ks) → ∀ j ∈ ks, j < H.length + 4096 := by
  intro H k x ks h
  unfold dec at h
  split at h
  · rename_i lv g lg fr k1 hk
    split at h
    · rename_i n g2 hk1
      simp only [Option.some.injEq, Prod.mk.injEq] at h
      rw [← h.2]
      intro j hj
      have h1 := (List.getElem?_eq_some_iff.1 hk).1
      have h2 := (List.getElem?_eq_some_iff.1 hk1).1
      simp only [List.mem_cons, List.not_mem_nil, or_false] at hj
      omega
    · cases h
  · rename_i lv g lg fr hk
    simp only [Option.some.injEq, Prod.mk.injEq] at h
    rw [← h.2]
    intro j hj
    have h1 := (List.getElem?_eq_some_iff.1 hk).1
    simp only [List.mem_cons, List.not_mem_nil, or_false] at hj
    omega
  · cases h
theorem gs_nil : ∀ p ∈ ([] : List (Nat × (List SV → SH X → Out X))), GS1 O Try.prog p.1 p.2 := by simp
theorem gs_cons {f : Nat} {g : List SV → SH X → Out X} {l : List (Nat × (List SV → SH X → Out X))} (h : GS1 O Try.prog f g) (t : ∀ p ∈ l, GS1 O Try.prog p.1 p.2) : ∀ p ∈ (f, g) :: l, GS1 O Try.prog p.1 p.2 := by
  intro p hp
  rcases List.mem_cons.1 hp with rfl | hp
  · exact h
  · exact t p hp
theorem ceq_of_eq {Φ : Fz} {l l' : List SV} (h : l = l') (hr : CEq Φ l' l') : CEq Φ l l' := h ▸ hr
theorem ceq_opC {Φ : Fz} {o : OpD} : CEq Φ (opC o) (opC o) := by simp [opC, CEq, VEq, SV.one]
theorem ren_opC {σ : Nat → Nat} {o : OpD} : renL σ (opC o) = opC o := by simp [opC, renL, SV.ren]
theorem ceq_1 {Φ : Fz} {k : IntKind} {a : Int} : CEq Φ [.int k a] [.int k a] := by simp [CEq, VEq, SV.one]
theorem ceq_3 {Φ : Fz} {k1 k2 k3 : IntKind} {a b c : Int} : CEq Φ [.int k1 a, .int k2 b, .int k3 c] [.int k1 a, .int k2 b, .int k3 c] := by simp [CEq, VEq, SV.one]
theorem g22 : GC1 O Try.prog 22 s22 := GC1.of h22 hP fun args H K hs => by
  unfold s22 at hs
  split at hs <;> try exact hs.elim
  split at hs <;> try exact hs.elim
  rename_i k l a H' c hk
  obtain ⟨hn, hK⟩ := hs
  refine ⟨_, [k], _, _, ?_, ?_, ?_, ?_, ?_, ?_, ?_, ?_, w22 c l a hn _ ?_⟩
  · rfl
  · exact (fun W0 B => GSound.of gs_nil)
  · rfl
  · exact (by simp)
  · exact ((by intro j hj; simp only [List.mem_cons, List.not_mem_nil, or_false] at hj; subst hj; exact (List.getElem?_eq_some_iff.1 hk).1))
  · simp [zC, stC]
  · simp [LEq, VEq, CEq, AEqs, AEq, renL, SV.ren, Atom.ren, kap, SV.one, List.map_cons, List.map_nil, List.getD_eq_getElem?_getD, Option.getD_some, true_and, and_true, and_self]
  · simp [LEq, VEq, CEq, AEqs, AEq, renL, SV.ren, Atom.ren, kap, SV.one, List.map_cons, List.map_nil, List.getD_eq_getElem?_getD, Option.getD_some, true_and, and_true, and_self, hk]
  · simpa [Out.sem, SV.ren, renL, sets, kap, Atom.ren, List.take, List.drop, List.map_cons, List.map_nil, List.length_cons, List.length_nil, List.append_nil, Nat.add_zero, Nat.zero_add, List.set_eq_of_length_le] using hK
theorem G22 : GS1 O Try.prog 22 s22 := GS1.of h22 g22
theorem g19 : GC1 O Try.prog 19 s19 := GC1.of h19 hP fun args H K hs => by
  unfold s19 at hs
  split at hs <;> try exact hs.elim
  rename_i H' n
  refine ⟨_, [], _, _, ?_, ?_, ?_, ?_, ?_, ?_, ?_, ?_, w19 n _ ?_⟩
  · rfl
  · exact (fun W0 B => GSound.of gs_nil)
  · rfl
  · exact (by simp)
  · exact (by simp)
  · simp [zC, stC]
  · simp [LEq, VEq, CEq, AEqs, AEq, renL, SV.ren, Atom.ren, kap, SV.one, List.map_cons, List.map_nil, List.getD_eq_getElem?_getD, Option.getD_some, true_and, and_true, and_self]
  · simp [LEq, VEq, CEq, AEqs, AEq, renL, SV.ren, Atom.ren, kap, SV.one, List.map_cons, List.map_nil, List.getD_eq_getElem?_getD, Option.getD_some, true_and, and_true, and_self]
  · simpa [Out.sem, SV.ren, renL, sets, kap, Atom.ren, List.take, List.drop, List.map_cons, List.map_nil, List.length_cons, List.length_nil, List.append_nil, Nat.add_zero, Nat.zero_add, List.set_eq_of_length_le] using hs
theorem G19 : GS1 O Try.prog 19 s19 := GS1.of h19 g19
theorem g9 : GC1 O Try.prog 9 s9 := GC1.of h9 hP fun args H K hs => by
  unfold s9 at hs
  split at hs <;> try exact hs.elim
  rename_i H' a b
  refine ⟨_, [], _, _, ?_, ?_, ?_, ?_, ?_, ?_, ?_, ?_, w9 a b _ ?_⟩
  · rfl
  · exact (fun W0 B => GSound.of gs_nil)
  · rfl
  · exact (by simp)
  · exact (by simp)
  · simp [zC, stC]
  · simp [LEq, VEq, CEq, AEqs, AEq, renL, SV.ren, Atom.ren, kap, SV.one, List.map_cons, List.map_nil, List.getD_eq_getElem?_getD, Option.getD_some, true_and, and_true, and_self]
  · simp [LEq, VEq, CEq, AEqs, AEq, renL, SV.ren, Atom.ren, kap, SV.one, List.map_cons, List.map_nil, List.getD_eq_getElem?_getD, Option.getD_some, true_and, and_true, and_self]
  · simpa [Out.sem, SV.ren, renL, sets, kap, Atom.ren, List.take, List.drop, List.map_cons, List.map_nil, List.length_cons, List.length_nil, List.append_nil, Nat.add_zero, Nat.zero_add, List.set_eq_of_length_le] using hs
theorem G9 : GS1 O Try.prog 9 s9 := GS1.of h9 g9
theorem g15 : GC1 O Try.prog 15 s15 := GC1.of h15 hP fun args H K hs => by
  unfold s15 at hs
  split at hs <;> try exact hs.elim
  split at hs <;> try exact hs.elim
  rename_i k H' c hk
  refine ⟨_, [k], _, _, ?_, ?_, ?_, ?_, ?_, ?_, ?_, ?_, w15 c _ ?_⟩
  · rfl
  · exact (fun W0 B => GSound.of gs_nil)
  · rfl
  · exact (by simp)
  · exact ((by intro j hj; simp only [List.mem_cons, List.not_mem_nil, or_false] at hj; subst hj; exact (List.getElem?_eq_some_iff.1 hk).1))
  · simp [zC, stC]
  · simp [LEq, VEq, CEq, AEqs, AEq, renL, SV.ren, Atom.ren, kap, SV.one, List.map_cons, List.map_nil, List.getD_eq_getElem?_getD, Option.getD_some, true_and, and_true, and_self]
  · simp [LEq, VEq, CEq, AEqs, AEq, renL, SV.ren, Atom.ren, kap, SV.one, List.map_cons, List.map_nil, List.getD_eq_getElem?_getD, Option.getD_some, true_and, and_true, and_self, hk]
  · simpa [Out.sem, SV.ren, renL, sets, kap, Atom.ren, List.take, List.drop, List.map_cons, List.map_nil, List.length_cons, List.length_nil, List.append_nil, Nat.add_zero, Nat.zero_add, List.set_eq_of_length_le, set_same hk] using hs
theorem G15 : GS1 O Try.prog 15 s15 := GS1.of h15 g15
theorem g17 : GC1 O Try.prog 17 s17 := GC1.of h17 hP fun args H K hs => by
  unfold s17 at hs
  split at hs <;> try exact hs.elim
  split at hs <;> try exact hs.elim
  rename_i k n H' c hk
  refine ⟨_, [k], _, _, ?_, ?_, ?_, ?_, ?_, ?_, ?_, ?_, w17 c n _ ?_⟩
  · rfl
  · exact (fun W0 B => GSound.of gs_nil)
  · rfl
  · exact (by simp)
  · exact ((by intro j hj; simp only [List.mem_cons, List.not_mem_nil, or_false] at hj; subst hj; exact (List.getElem?_eq_some_iff.1 hk).1))
  · simp [zC, stC]
  · simp [LEq, VEq, CEq, AEqs, AEq, renL, SV.ren, Atom.ren, kap, SV.one, List.map_cons, List.map_nil, List.getD_eq_getElem?_getD, Option.getD_some, true_and, and_true, and_self]
  · simp [LEq, VEq, CEq, AEqs, AEq, renL, SV.ren, Atom.ren, kap, SV.one, List.map_cons, List.map_nil, List.getD_eq_getElem?_getD, Option.getD_some, true_and, and_true, and_self, hk]
  · simpa [Out.sem, SV.ren, renL, sets, kap, Atom.ren, List.take, List.drop, List.map_cons, List.map_nil, List.length_cons, List.length_nil, List.append_nil, Nat.add_zero, Nat.zero_add, List.set_eq_of_length_le, set_same hk] using hs
theorem G17 : GS1 O Try.prog 17 s17 := GS1.of h17 g17
theorem g13 : GC1 O Try.prog 13 s13 := GC1.of h13 hP fun args H K hs => by
  unfold s13 at hs
  split at hs <;> try exact hs.elim
  split at hs <;> try exact hs.elim
  rename_i k H' c hk
  obtain ⟨hn, hK⟩ := hs
  refine ⟨_, [k], _, _, ?_, ?_, ?_, ?_, ?_, ?_, ?_, ?_, w13 c hn _ ?_⟩
  · rfl
  · exact (fun W0 B => GSound.of (gs_cons (GS1.opn decB G22) gs_nil))
  · rfl
  · exact (by simp)
  · exact ((by intro j hj; simp only [List.mem_cons, List.not_mem_nil, or_false] at hj; subst hj; exact (List.getElem?_eq_some_iff.1 hk).1))
  · simp [zC, stC]
  · simp [LEq, VEq, CEq, AEqs, AEq, renL, SV.ren, Atom.ren, kap, SV.one, List.map_cons, List.map_nil, List.getD_eq_getElem?_getD, Option.getD_some, true_and, and_true, and_self]
  · simp [LEq, VEq, CEq, AEqs, AEq, renL, SV.ren, Atom.ren, kap, SV.one, List.map_cons, List.map_nil, List.getD_eq_getElem?_getD, Option.getD_some, true_and, and_true, and_self, hk]
  · simpa [Out.sem, SV.ren, renL, sets, kap, Atom.ren, List.take, List.drop, List.map_cons, List.map_nil, List.length_cons, List.length_nil, List.append_nil, Nat.add_zero, Nat.zero_add, List.set_eq_of_length_le] using hK
theorem G13 : GS1 O Try.prog 13 s13 := GS1.of h13 g13
theorem g14 : GC1 O Try.prog 14 s14 := GC1.of h14 hP fun args H K hs => by
  unfold s14 at hs
  split at hs <;> try exact hs.elim
  split at hs <;> try exact hs.elim
  rename_i k H' c hk
  obtain ⟨hn, hK⟩ := hs
  refine ⟨_, [k], _, _, ?_, ?_, ?_, ?_, ?_, ?_, ?_, ?_, w14 c hn _ ?_⟩
  · rfl
  · exact (fun W0 B => GSound.of (gs_cons (GS1.opn decB G22) gs_nil))
  · rfl
  · exact (by simp)
  · exact ((by intro j hj; simp only [List.mem_cons, List.not_mem_nil, or_false] at hj; subst hj; exact (List.getElem?_eq_some_iff.1 hk).1))
  · simp [zC, stC]
  · simp [LEq, VEq, CEq, AEqs, AEq, renL, SV.ren, Atom.ren, kap, SV.one, List.map_cons, List.map_nil, List.getD_eq_getElem?_getD, Option.getD_some, true_and, and_true, and_self]
  · simp [LEq, VEq, CEq, AEqs, AEq, renL, SV.ren, Atom.ren, kap, SV.one, List.map_cons, List.map_nil, List.getD_eq_getElem?_getD, Option.getD_some, true_and, and_true, and_self, hk]
  · simpa [Out.sem, SV.ren, renL, sets, kap, Atom.ren, List.take, List.drop, List.map_cons, List.map_nil, List.length_cons, List.length_nil, List.append_nil, Nat.add_zero, Nat.zero_add, List.set_eq_of_length_le] using hK
theorem G14 : GS1 O Try.prog 14 s14 := GS1.of h14 g14
theorem g21 : GC1 O Try.prog 21 s21 := GC1.of h21 hP fun args H K hs => by
  unfold s21 at hs
  split at hs <;> try exact hs.elim
  split at hs <;> try exact hs.elim
  rename_i k now H' c hk
  obtain ⟨⟨hn, h0, h8⟩, hK⟩ := hs
  refine ⟨_, [k], _, _, ?_, ?_, ?_, ?_, ?_, ?_, ?_, ?_, w21 c now hn h0 h8 _ ?_⟩
  · rfl
  · exact (fun W0 B => GSound.of (gs_cons (GS1.opn decB G22) gs_nil))
  · rfl
  · exact (by simp)
  · exact ((by intro j hj; simp only [List.mem_cons, List.not_mem_nil, or_false] at hj; subst hj; exact (List.getElem?_eq_some_iff.1 hk).1))
  · simp [zC, stC]
  · simp [LEq, VEq, CEq, AEqs, AEq, renL, SV.ren, Atom.ren, kap, SV.one, List.map_cons, List.map_nil, List.getD_eq_getElem?_getD, Option.getD_some, true_and, and_true, and_self]
  · simp [LEq, VEq, CEq, AEqs, AEq, renL, SV.ren, Atom.ren, kap, SV.one, List.map_cons, List.map_nil, List.getD_eq_getElem?_getD, Option.getD_some, true_and, and_true, and_self, hk]
  · simpa [Out.sem, SV.ren, renL, sets, kap, Atom.ren, List.take, List.drop, List.map_cons, List.map_nil, List.length_cons, List.length_nil, List.append_nil, Nat.add_zero, Nat.zero_add, List.set_eq_of_length_le] using hK
theorem G21 : GS1 O Try.prog 21 s21 := GS1.of h21 g21
theorem g23 : GC1 O Try.prog 23 s23 := GC1.of h23 hP fun args H K hs => by
  unfold s23 at hs
  split at hs <;> try exact hs.elim
  split at hs <;> try exact hs.elim
  rename_i k H' n g hk
  obtain ⟨⟨hn, hr⟩, hK⟩ := hs
  refine ⟨_, [k], _, _, ?_, ?_, ?_, ?_, ?_, ?_, ?_, ?_, w23 n (fun i => (iv (g i) 0, iv (g i) 1, iv (g i) 2)) hn _ ?_⟩
  · rfl
  · exact (fun W0 B => GSound.of gs_nil)
  · rfl
  · exact (by simp)
  · exact ((by intro j hj; simp only [List.mem_cons, List.not_mem_nil, or_false] at hj; subst hj; exact (List.getElem?_eq_some_iff.1 hk).1))
  · simp [zC, stC]
  · simp [LEq, VEq, CEq, AEqs, AEq, renL, SV.ren, Atom.ren, kap, SV.one, List.map_cons, List.map_nil, List.getD_eq_getElem?_getD, Option.getD_some, true_and, and_true, and_self]
  · (simp only [LEq, VEq, CEq, AEqs, AEq, renL, SV.ren, Atom.ren, kap, SV.one, List.map_cons, List.map_nil, List.getD_eq_getElem?_getD, Option.getD_some, true_and, and_true, and_self, hk]; exact fun i hi => ceq_of_eq (hr i hi) ceq_3)
  · simpa [Out.sem, SV.ren, renL, sets, kap, Atom.ren, List.take, List.drop, List.map_cons, List.map_nil, List.length_cons, List.length_nil, List.append_nil, Nat.add_zero, Nat.zero_add, List.set_eq_of_length_le] using hK
theorem G23 : GS1 O Try.prog 23 s23 := GS1.of h23 g23
theorem g16 : GC1 O Try.prog 16 s16 := GC1.of h16 hP fun args H K hs => by
  unfold s16 at hs
  split at hs <;> try exact hs.elim
  split at hs <;> try exact hs.elim
  rename_i k H' c hk
  obtain ⟨hn, hK⟩ := hs
  refine ⟨_, [k], _, _, ?_, ?_, ?_, ?_, ?_, ?_, ?_, ?_, w16 c hn _ ?_⟩
  · rfl
  · exact (fun W0 B => GSound.of (gs_cons G23 gs_nil))
  · rfl
  · exact (by simp)
  · exact ((by intro j hj; simp only [List.mem_cons, List.not_mem_nil, or_false] at hj; subst hj; exact (List.getElem?_eq_some_iff.1 hk).1))
  · simp [zC, stC]
  · simp [LEq, VEq, CEq, AEqs, AEq, renL, SV.ren, Atom.ren, kap, SV.one, List.map_cons, List.map_nil, List.getD_eq_getElem?_getD, Option.getD_some, true_and, and_true, and_self]
  · simp [LEq, VEq, CEq, AEqs, AEq, renL, SV.ren, Atom.ren, kap, SV.one, List.map_cons, List.map_nil, List.getD_eq_getElem?_getD, Option.getD_some, true_and, and_true, and_self, hk]
  · simpa [Out.sem, SV.ren, renL, sets, kap, Atom.ren, List.take, List.drop, List.map_cons, List.map_nil, List.length_cons, List.length_nil, List.append_nil, Nat.add_zero, Nat.zero_add, List.set_eq_of_length_le, set_same hk] using hK
theorem G16 : GS1 O Try.prog 16 s16 := GS1.of h16 g16
theorem g20 : GC1 O Try.prog 20 s20 := GC1.of h20 hP fun args H K hs => by
  unfold s20 at hs
  split at hs <;> try exact hs.elim
  rename_i H' t p l
  refine ⟨_, [], _, _, ?_, ?_, ?_, ?_, ?_, ?_, ?_, ?_, w20 t p l _ ?_⟩
  · rfl
  · exact (fun W0 B => GSound.of gs_nil)
  · rfl
  · exact (by simp)
  · exact (by simp)
  · simp [zC, stC]
  · simp [LEq, VEq, CEq, AEqs, AEq, renL, SV.ren, Atom.ren, kap, SV.one, List.map_cons, List.map_nil, List.getD_eq_getElem?_getD, Option.getD_some, true_and, and_true, and_self]
  · simp [LEq, VEq, CEq, AEqs, AEq, renL, SV.ren, Atom.ren, kap, SV.one, List.map_cons, List.map_nil, List.getD_eq_getElem?_getD, Option.getD_some, true_and, and_true, and_self]
  · simpa [Out.sem, SV.ren, renL, sets, kap, Atom.ren, List.take, List.drop, List.map_cons, List.map_nil, List.length_cons, List.length_nil, List.append_nil, Nat.add_zero, Nat.zero_add, List.set_eq_of_length_le] using hs
theorem G20 : GS1 O Try.prog 20 s20 := GS1.of h20 g20
theorem g8 : GC1 O Try.prog 8 s8 := GC1.of h8 hP fun args H K hs => by
  unfold s8 at hs
  split at hs <;> try exact hs.elim
  rename_i H' f l fr
  refine ⟨_, [], _, _, ?_, ?_, ?_, ?_, ?_, ?_, ?_, ?_, w8 f l fr _ ?_⟩
  · rfl
  · exact (fun W0 B => GSound.of gs_nil)
  · rfl
  · exact (by simp)
  · exact (by simp)
  · simp [zC, stC]
  · simp [LEq, VEq, CEq, AEqs, AEq, renL, SV.ren, Atom.ren, kap, SV.one, List.map_cons, List.map_nil, List.getD_eq_getElem?_getD, Option.getD_some, true_and, and_true, and_self]
  · simp [LEq, VEq, CEq, AEqs, AEq, renL, SV.ren, Atom.ren, kap, SV.one, List.map_cons, List.map_nil, List.getD_eq_getElem?_getD, Option.getD_some, true_and, and_true, and_self]
  · simpa [Out.sem, SV.ren, renL, sets, kap, Atom.ren, List.take, List.drop, List.map_cons, List.map_nil, List.length_cons, List.length_nil, List.append_nil, Nat.add_zero, Nat.zero_add, List.set_eq_of_length_le, stC] using hs
theorem G8 : GS1 O Try.prog 8 s8 := GS1.of h8 g8
def s3 : List SV → SH X → Out X
  | [.agg [.int .i64 f, .int .i64 l, .int .i64 fr, .ros 5 n g]], H => .req (n < 2097152 ∧ (∀ i, i < n → g i = opC (opD (g i))) ∧ ∀ i, i < n → (opD (g i)).m < 2097152) (.ok (.bool true) H)
  | _, _ => .bad
theorem g7 : GC1 O Try.prog 7 s7 := GC1.of h7 hP fun args H K hs => by
  unfold s7 at hs
  split at hs <;> try exact hs.elim
  rename_i H' f l fr
  refine ⟨_, [], _, _, ?_, ?_, ?_, ?_, ?_, ?_, ?_, ?_, w7 f l fr _ ?_⟩
  · rfl
  · exact (fun W0 B => GSound.of gs_nil)
  · rfl
  · exact (by simp)
  · exact (by simp)
  · simp [zC, stC]
  · simp [LEq, VEq, CEq, AEqs, AEq, renL, SV.ren, Atom.ren, kap, SV.one, List.map_cons, List.map_nil, List.getD_eq_getElem?_getD, Option.getD_some, true_and, and_true, and_self]
  · simp [LEq, VEq, CEq, AEqs, AEq, renL, SV.ren, Atom.ren, kap, SV.one, List.map_cons, List.map_nil, List.getD_eq_getElem?_getD, Option.getD_some, true_and, and_true, and_self]
  · (by_cases hb : rightP f l fr = true; (rw [if_pos hb] at hs ⊢; simpa [Out.sem, SV.ren, renL, sets, kap, Atom.ren, List.take, List.drop, List.map_cons, List.map_nil, List.length_cons, List.length_nil, List.append_nil, Nat.add_zero, Nat.zero_add, List.set_eq_of_length_le] using hs); (rw [if_neg hb] at hs ⊢; simpa [Out.sem, SV.ren, renL, sets, kap, Atom.ren, List.take, List.drop, List.map_cons, List.map_nil, List.length_cons, List.length_nil, List.append_nil, Nat.add_zero, Nat.zero_add, List.set_eq_of_length_le] using hs))
theorem G7 : GS1 O Try.prog 7 s7 := GS1.of h7 g7
theorem g18 : GC1 O Try.prog 18 s18 := GC1.of h18 hP fun args H K hs => by
  unfold s18 at hs
  split at hs <;> try exact hs.elim
  rename_i H' lv gw gu gj lg fr n
  obtain ⟨hr, hK⟩ := hs
  refine ⟨_, [], _, _, ?_, ?_, ?_, ?_, ?_, ?_, ?_, ?_, w18 ⟨lv, fun i => iv (gw i) 0, fun i => iv (gu i) 0, fun i => iv (gj i) 0, lg, fr, 0, fun _ => (0, 0, 0)⟩ n _ ?_⟩
  · rfl
  · exact (fun W0 B => GSound.of gs_nil)
  · rfl
  · exact (by simp)
  · exact (by simp)
  · simp [zC, stC]
  · (simp only [LEq, VEq, CEq, AEqs, AEq, renL, SV.ren, Atom.ren, kap, SV.one, List.map_cons, List.map_nil, List.getD_eq_getElem?_getD, Option.getD_some, true_and, and_true, and_self, eq_self, zC, stC, ren_opC, SV.ren, renL]; repeat' (first | exact trivial | refine And.intro ?_ ?_ | exact fun i hi => ceq_of_eq (hr i hi).1 ceq_1 | exact fun i hi => ceq_of_eq (hr i hi).2.1 ceq_1 | exact fun i hi => ceq_of_eq (hr i hi).2.2 ceq_1))
  · simp [LEq, VEq, CEq, AEqs, AEq, renL, SV.ren, Atom.ren, kap, SV.one, List.map_cons, List.map_nil, List.getD_eq_getElem?_getD, Option.getD_some, true_and, and_true, and_self]
  · simpa [Out.sem, SV.ren, renL, sets, kap, Atom.ren, List.take, List.drop, List.map_cons, List.map_nil, List.length_cons, List.length_nil, List.append_nil, Nat.add_zero, Nat.zero_add, List.set_eq_of_length_le, untilF] using hK
theorem G18 : GS1 O Try.prog 18 s18 := GS1.of h18 g18
theorem g11 : GC1 O Try.prog 11 s11 := GC1.of h11 hP fun args H K hs => by
  unfold s11 at hs
  split at hs <;> try exact hs.elim
  rename_i H' m g
  obtain ⟨⟨hm, hr⟩, hK⟩ := hs
  refine ⟨_, [], _, _, ?_, ?_, ?_, ?_, ?_, ?_, ?_, ?_, w11 m (fun i => iv (g i) 0) hm _ ?_⟩
  · rfl
  · exact (fun W0 B => GSound.of gs_nil)
  · rfl
  · exact (by simp)
  · exact (by simp)
  · simp [zC, stC]
  · (simp only [LEq, VEq, CEq, AEqs, AEq, renL, SV.ren, Atom.ren, kap, SV.one, List.map_cons, List.map_nil, List.getD_eq_getElem?_getD, Option.getD_some, true_and, and_true, and_self, eq_self, zC, stC, ren_opC, SV.ren, renL]; repeat' (first | exact trivial | refine And.intro ?_ ?_ | exact fun i hi => ceq_of_eq (hr i hi) ceq_1))
  · simp [LEq, VEq, CEq, AEqs, AEq, renL, SV.ren, Atom.ren, kap, SV.one, List.map_cons, List.map_nil, List.getD_eq_getElem?_getD, Option.getD_some, true_and, and_true, and_self]
  · simpa [Out.sem, SV.ren, renL, sets, kap, Atom.ren, List.take, List.drop, List.map_cons, List.map_nil, List.length_cons, List.length_nil, List.append_nil, Nat.add_zero, Nat.zero_add, List.set_eq_of_length_le] using hK
theorem G11 : GS1 O Try.prog 11 s11 := GS1.of h11 g11
theorem g10 : GC1 O Try.prog 10 s10 := GC1.of h10 hP fun args H K hs => by
  unfold s10 at hs
  split at hs <;> try exact hs.elim
  split at hs <;> try exact hs.elim
  rename_i lv gw gu gj lg fr n q own now H' m g hk
  obtain ⟨⟨h0, h8, hr, hw⟩, hK⟩ := hs
  refine ⟨_, [q], _, _, ?_, ?_, ?_, ?_, ?_, ?_, ?_, ?_, w10 ⟨lv, fun i => iv (gw i) 0, fun i => iv (gu i) 0, fun i => iv (gj i) 0, lg, fr, 0, fun _ => (0, 0, 0)⟩ n m (fun i => iv (g i) 0) own now h0 h8 _ ?_⟩
  · rfl
  · exact (fun W0 B => GSound.of gs_nil)
  · rfl
  · exact (by simp)
  · exact ((by intro j hj; simp only [List.mem_cons, List.not_mem_nil, or_false] at hj; subst hj; exact (List.getElem?_eq_some_iff.1 hk).1))
  · simp [zC, stC]
  · (simp only [LEq, VEq, CEq, AEqs, AEq, renL, SV.ren, Atom.ren, kap, SV.one, List.map_cons, List.map_nil, List.getD_eq_getElem?_getD, Option.getD_some, true_and, and_true, and_self, eq_self, zC, stC, ren_opC, SV.ren, renL]; repeat' (first | exact trivial | refine And.intro ?_ ?_ | exact fun i hi => ceq_of_eq (hw i hi).1 ceq_1 | exact fun i hi => ceq_of_eq (hw i hi).2.1 ceq_1 | exact fun i hi => ceq_of_eq (hw i hi).2.2 ceq_1))
  · (simp only [LEq, VEq, CEq, AEqs, AEq, renL, SV.ren, Atom.ren, kap, SV.one, List.map_cons, List.map_nil, List.getD_eq_getElem?_getD, Option.getD_some, true_and, and_true, and_self, hk]; exact fun i hi => ceq_of_eq (hr i hi) ceq_1)
  · simpa [Out.sem, SV.ren, renL, sets, kap, Atom.ren, List.take, List.drop, List.map_cons, List.map_nil, List.length_cons, List.length_nil, List.append_nil, Nat.add_zero, Nat.zero_add, List.set_eq_of_length_le, stC] using hK
theorem G10 : GS1 O Try.prog 10 s10 := GS1.of h10 g10
theorem g4 : GC1 O Try.prog 4 s4 := GC1.of h4 hP fun args H K hs => by
  unfold s4 at hs
  split at hs <;> try exact hs.elim
  rename_i H' f l fr n g
  obtain ⟨hr, hK⟩ := hs
  refine ⟨_, [], _, _, ?_, ?_, ?_, ?_, ?_, ?_, ?_, ?_, w4 f l fr n (fun i => opD (g i)) _ ?_⟩
  · rfl
  · exact (fun W0 B => GSound.of gs_nil)
  · rfl
  · exact (by simp)
  · exact (by simp)
  · simp [zC, stC]
  · (simp only [LEq, VEq, CEq, AEqs, AEq, renL, SV.ren, Atom.ren, kap, SV.one, List.map_cons, List.map_nil, List.getD_eq_getElem?_getD, Option.getD_some, true_and, and_true, and_self, eq_self, zC, stC, ren_opC, SV.ren, renL]; repeat' (first | exact trivial | refine And.intro ?_ ?_ | exact fun i hi => ceq_of_eq (hr i hi) ceq_opC))
  · simp [LEq, VEq, CEq, AEqs, AEq, renL, SV.ren, Atom.ren, kap, SV.one, List.map_cons, List.map_nil, List.getD_eq_getElem?_getD, Option.getD_some, true_and, and_true, and_self]
  · simpa [Out.sem, SV.ren, renL, sets, kap, Atom.ren, List.take, List.drop, List.map_cons, List.map_nil, List.length_cons, List.length_nil, List.append_nil, Nat.add_zero, Nat.zero_add, List.set_eq_of_length_le] using hK
theorem G4 : GS1 O Try.prog 4 s4 := GS1.of h4 g4
theorem g5 : GC1 O Try.prog 5 s5 := GC1.of h5 hP fun args H K hs => by
  unfold s5 at hs
  split at hs <;> try exact hs.elim
  rename_i H' f l fr n g
  obtain ⟨⟨hn, hr, hm⟩, hK⟩ := hs
  refine ⟨_, [], _, _, ?_, ?_, ?_, ?_, ?_, ?_, ?_, ?_, w5 f l fr n (fun i => opD (g i)) hn hm _ ?_⟩
  · rfl
  · exact (fun W0 B => GSound.of gs_nil)
  · rfl
  · exact (by simp)
  · exact (by simp)
  · simp [zC, stC]
  · (simp only [LEq, VEq, CEq, AEqs, AEq, renL, SV.ren, Atom.ren, kap, SV.one, List.map_cons, List.map_nil, List.getD_eq_getElem?_getD, Option.getD_some, true_and, and_true, and_self, eq_self, zC, stC, ren_opC, SV.ren, renL]; repeat' (first | exact trivial | refine And.intro ?_ ?_ | exact fun i hi => ceq_of_eq (hr i hi) ceq_opC))
  · simp [LEq, VEq, CEq, AEqs, AEq, renL, SV.ren, Atom.ren, kap, SV.one, List.map_cons, List.map_nil, List.getD_eq_getElem?_getD, Option.getD_some, true_and, and_true, and_self]
  · simpa [Out.sem, SV.ren, renL, sets, kap, Atom.ren, List.take, List.drop, List.map_cons, List.map_nil, List.length_cons, List.length_nil, List.append_nil, Nat.add_zero, Nat.zero_add, List.set_eq_of_length_le] using hK
theorem G5 : GS1 O Try.prog 5 s5 := GS1.of h5 g5
theorem g12 : GC1 O Try.prog 12 s12 := GC1.of h12 hP fun args H K hs => by
  unfold s12 at hs
  split at hs
  · split at hs <;> try exact hs.elim
    rename_i k n m g own now H' c hk
    obtain ⟨⟨hn, h0, h8, hr⟩, hK⟩ := hs
    refine ⟨_, [k], _, _, ?_, ?_, ?_, ?_, ?_, ?_, ?_, ?_, w12 c n m (fun i => iv (g i) 0) own now hn h0 h8 _ ?_⟩
    · rfl
    · exact (fun W0 B => GSound.of (gs_cons (GS1.opn decB G21) (gs_cons (GS1.opn decB G22) gs_nil)))
    · rfl
    · simp
    · exact (by intro j hj; simp only [List.mem_cons, List.not_mem_nil, or_false] at hj; subst hj; exact (List.getElem?_eq_some_iff.1 hk).1)
    · simp
    · (simp only [LEq, VEq, CEq, AEqs, AEq, renL, SV.ren, Atom.ren, kap, SV.one, List.map_cons, List.map_nil, List.getD_eq_getElem?_getD, Option.getD_some, true_and, and_true, and_self, eq_self, zC, stC, ren_opC, SV.ren, renL]; repeat' (first | exact trivial | refine And.intro ?_ ?_ | exact fun i hi => ceq_of_eq (hr i hi) ceq_1))
    · simp [LEq, VEq, CEq, AEqs, AEq, renL, SV.ren, Atom.ren, kap, SV.one, List.map_cons, List.map_nil, List.getD_eq_getElem?_getD, Option.getD_some, true_and, and_true, and_self, hk]
    · simpa [Out.sem, SV.ren, renL, sets, kap, Atom.ren, List.take, List.drop, List.map_cons, List.map_nil, List.length_cons, List.length_nil, List.append_nil, Nat.add_zero, Nat.zero_add, List.set_eq_of_length_le] using hK
  · split at hs <;> try exact hs.elim
    rename_i k n q own now H' H2 c m g hk hq
    obtain ⟨⟨hn, h0, h8, hr⟩, hK⟩ := hs
    have hne : ¬k = q := by rintro rfl; rw [hk] at hq; cases hq
    refine ⟨_, [k, q], _, _, ?_, ?_, ?_, ?_, ?_, ?_, ?_, ?_, w12v c n m (fun i => iv (g i) 0) own now hn h0 h8 _ ?_⟩
    · rfl
    · exact (fun W0 B => GSound.of (gs_cons (GS1.opn decB G21) (gs_cons (GS1.opn decB G22) gs_nil)))
    · rfl
    · simp [hne]
    · exact (by intro j hj; simp only [List.mem_cons, List.not_mem_nil, or_false] at hj; rcases hj with rfl | rfl; exact (List.getElem?_eq_some_iff.1 hk).1; exact (List.getElem?_eq_some_iff.1 hq).1)
    · simp
    · simp [LEq, VEq, CEq, AEqs, AEq, renL, SV.ren, Atom.ren, kap, SV.one, List.map_cons, List.map_nil, List.getD_eq_getElem?_getD, Option.getD_some, true_and, and_true, and_self]
    · simp only [LEq, VEq, CEq, AEqs, AEq, renL, SV.ren, Atom.ren, kap, SV.one, List.map_cons, List.map_nil, List.getD_eq_getElem?_getD, Option.getD_some, true_and, and_true, and_self, hk, hq]; exact fun i hi => ceq_of_eq (hr i hi) ceq_1
    · simpa [Out.sem, SV.ren, renL, sets, kap, Atom.ren, List.take, List.drop, List.map_cons, List.map_nil, List.length_cons, List.length_nil, List.append_nil, Nat.add_zero, Nat.zero_add, List.set_eq_of_length_le] using hK
  · exact hs.elim
theorem G12 : GS1 O Try.prog 12 s12 := GS1.of h12 g12
theorem g6 : GC1 O Try.prog 6 s6 := GC1.of h6 hP fun args H K hs => by
  unfold s6 at hs
  split at hs <;> try exact hs.elim
  refine ⟨_, [], _, _, ?_, ?_, ?_, ?_, ?_, ?_, ?_, ?_, w6 _ ?_⟩
  · rfl
  · exact (fun W0 B => GSound.of (gs_cons G7 (gs_cons G12 (gs_cons G13 (gs_cons G15 (gs_cons G17 (gs_cons G19 (gs_cons G20 gs_nil))))))))
  · rfl
  · exact (by simp)
  · exact (by simp)
  · simp [zC, stC]
  · simp [LEq, VEq, CEq, AEqs, AEq, renL, SV.ren, Atom.ren, kap, SV.one, List.map_cons, List.map_nil, List.getD_eq_getElem?_getD, Option.getD_some, true_and, and_true, and_self]
  · simp [LEq, VEq, CEq, AEqs, AEq, renL, SV.ren, Atom.ren, kap, SV.one, List.map_cons, List.map_nil, List.getD_eq_getElem?_getD, Option.getD_some, true_and, and_true, and_self]
  · simpa [Out.sem, SV.ren, renL, sets, kap, Atom.ren, List.take, List.drop, List.map_cons, List.map_nil, List.length_cons, List.length_nil, List.append_nil, Nat.add_zero, Nat.zero_add, List.set_eq_of_length_le] using hs
theorem G6 : GS1 O Try.prog 6 s6 := GS1.of h6 g6
theorem g3 : GC1 O Try.prog 3 s3 := GC1.of h3 hP fun args H K hs => by
  unfold s3 at hs
  split at hs <;> try exact hs.elim
  rename_i H' f l fr n g
  obtain ⟨⟨hn, hr, hm⟩, hK⟩ := hs
  refine ⟨_, [], _, _, ?_, ?_, ?_, ?_, ?_, ?_, ?_, ?_, w3 f l fr n (fun i => opD (g i)) hn hm _ ?_⟩
  · rfl
  · exact (fun W0 B => GSound.of (gs_cons G4 (gs_cons G5 (gs_cons G6 (gs_cons G7 (gs_cons G8 (gs_cons G9 (gs_cons G10 (gs_cons G11 (gs_cons G12 (gs_cons G13 (gs_cons G14 (gs_cons G15 (gs_cons G16 (gs_cons G17 (gs_cons G18 gs_nil))))))))))))))))
  · rfl
  · exact (by simp)
  · exact (by simp)
  · simp [zC, stC]
  · (simp only [LEq, VEq, CEq, AEqs, AEq, renL, SV.ren, Atom.ren, kap, SV.one, List.map_cons, List.map_nil, List.getD_eq_getElem?_getD, Option.getD_some, true_and, and_true, and_self, eq_self, zC, stC, ren_opC, SV.ren, renL]; repeat' (first | exact trivial | refine And.intro ?_ ?_ | exact fun i hi => ceq_of_eq (hr i hi) ceq_opC))
  · simp [LEq, VEq, CEq, AEqs, AEq, renL, SV.ren, Atom.ren, kap, SV.one, List.map_cons, List.map_nil, List.getD_eq_getElem?_getD, Option.getD_some, true_and, and_true, and_self]
  · simpa [Out.sem, SV.ren, renL, sets, kap, Atom.ren, List.take, List.drop, List.map_cons, List.map_nil, List.length_cons, List.length_nil, List.append_nil, Nat.add_zero, Nat.zero_add, List.set_eq_of_length_le] using hK
theorem G3 : GS1 O Try.prog 3 s3 := GS1.of h3 g3
end Go.Sy.S23
