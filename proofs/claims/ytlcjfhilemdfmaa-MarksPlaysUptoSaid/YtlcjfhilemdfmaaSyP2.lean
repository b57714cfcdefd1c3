/- A part of the proof of the seat's law: an evaluator of the program's code over symbolic values, its soundness, and the contracts of the functions that the law reaches. -/
import Derived.Test.YtlcjfhilemdfmaaSyP1
import Derived.Laws.BytesString
import Derived.Laws.BitsLemmas
import Derived.OrdersIn
set_option linter.all false
set_option linter.unusedVariables false
set_option linter.unusedSimpArgs false
/-! Comparisons and conversions, joined. -/
namespace Go.Sy
open Go.RowKit
section
variable {X : Type} {O : X → SH X} {W0 : World} {B : Nat} {P : Program} {β : List Value} {im : Im} {H : SH X} {hR : Hp} {w : World} {K : SV → SH X → Prop}
def EqOk (P : Program) (t : TypeId) : EqK → Prop
  | .int => ∃ k, P.underlying t = some (.int k)
  | .str => P.underlying t = some .string
  | .bool => P.underlying t = some .bool
  | .ptr => ∃ e, P.underlying t = some (.pointer e)
  | .slc => ∃ e, P.underlying t = some (.slice e)
  | .agg n => allInts P t = some n
theorem eq_plain {neg : Bool} {t : TypeId} {x y : Operand} {a b : Value} {c : Bool} (hg : (∀ l m, ¬(a = .agg l ∧ b = .agg m))) (hg2 : ¬(a = .nilIface ∧ b = .nilIface))
    (h : ∀ op, (op = .eql ∧ (binOp op t a b).run P w = .ok (.bool c) w) ∨ (op = .neq ∧ (binOp op t a b).run P w = .ok (.bool (!c)) w) ∨ (op ≠ .eql ∧ op ≠ .neq)) :
    (eqRun neg t x y a b).run P w = .ok (.bool (c != neg)) w := by
  refine fitEq (fun op => run_eqGuard_plain hg hg2) ?_ ?_
  · rcases h .eql with ⟨_, h⟩ | ⟨h, _⟩ | ⟨h, _⟩
    · exact h
    · cases h
    · exact absurd rfl h
  · rcases h .neq with ⟨h, _⟩ | ⟨_, h⟩ | ⟨_, h⟩
    · cases h
    · exact h
    · exact absurd rfl h
theorem eq_equal {neg : Bool} {t : TypeId} {x y : Operand} {a b : Value} {c : Bool} (hg : (∀ l m, ¬(a = .agg l ∧ b = .agg m))) (hg2 : ¬(a = .nilIface ∧ b = .nilIface))
    (hb1 : binOp .eql t a b = (do pure (.bool (← Op.equal t a b)))) (hb2 : binOp .neq t a b = (do pure (.bool (!(← Op.equal t a b))))) (h : (Op.equalIn 10000 t a b).run P w = .ok c w) :
    (eqRun neg t x y a b).run P w = .ok (.bool (c != neg)) w := by
  refine fitEq (fun op => run_eqGuard_plain hg hg2) ?_ ?_
  · rw [hb1]; simp [Op.equal, Op.maxDepth, h]
  · rw [hb2]; simp [Op.equal, Op.maxDepth, h]
theorem equalIn_bool {d : Nat} {t : TypeId} {a b : Bool} (hu : P.underlying t = some .bool) : (Op.equalIn (d + 1) t (.bool a) (.bool b)).run P w = .ok (a == b) w := by simp [Op.equalIn, run_underlying hu]
theorem equalIn_ptr0 {d : Nat} {t e : TypeId} (hu : P.underlying t = some (.pointer e)) : (Op.equalIn (d + 1) t (.pointer none) (.pointer none)).run P w = .ok true w := by simp [Op.equalIn, run_underlying hu]
theorem equalIn_ptr1 {d : Nat} {t e : TypeId} {q : Addr} (hu : P.underlying t = some (.pointer e)) : (Op.equalIn (d + 1) t (.pointer (some q)) (.pointer none)).run P w = .ok false w := by simp [Op.equalIn, run_underlying hu]
theorem equalIn_slc0 {d : Nat} {t e : TypeId} (hu : P.underlying t = some (.slice e)) : (Op.equalIn (d + 1) t (.slice none 0 0) (.slice none 0 0)).run P w = .ok true w := by simp [Op.equalIn, run_underlying hu]
theorem equalIn_slc1 {d : Nat} {t e : TypeId} {q : Addr} {n c : Nat} (hu : P.underlying t = some (.slice e)) : (Op.equalIn (d + 1) t (.slice (some q) n c) (.slice none 0 0)).run P w = .ok false w := by simp [Op.equalIn, run_underlying hu]
theorem eq_sound {neg : Bool} {k : EqK} {t : TypeId} {ox oy : Operand} {x y : SV} {a b : Value} (hk : EqOk P t k) (hx : Rel β im x a) (hy : Rel β im y b) (hs : (evEq neg k x y H).sem K) (st : HSt O W0 B β im H hR w) :
    Yd O W0 B β im hR K ((eqRun neg t ox oy a b).run P w) := by
  cases k with
  | int =>
    cases hx <;> cases hy <;> simp only [evEq] at hs <;> try exact hs.elim
    case int.int k n k' m =>
      split at hs
      · rename_i e; subst e
        refine .same ?_ (eqB_sem hs) .bool st
        refine eq_plain (fun _ _ h => by cases h.1) (fun h => by cases h.1) (fun op => ?_)
        cases op <;> first
          | exact .inr (.inr ⟨of_decide_eq_true rfl, of_decide_eq_true rfl⟩)
          | exact .inl ⟨rfl, by simp [binOp, Op.intCmp, int_beq]⟩
          | exact .inr (.inl ⟨rfl, by simp [binOp, Op.intCmp, int_beq, bne]⟩)
      · exact hs.elim
  | str =>
    cases hx <;> cases hy <;> simp only [evEq] at hs <;> try exact hs.elim
    case str.str s s' =>
      refine .same ?_ (eqB_sem hs) .bool st
      refine eq_plain (fun _ _ h => by cases h.1) (fun h => by cases h.1) (fun op => ?_)
      cases op <;> first
        | exact .inr (.inr ⟨of_decide_eq_true rfl, of_decide_eq_true rfl⟩)
        | exact .inl ⟨rfl, by simp [binOp, Op.stringOp, bytes_beq]⟩
        | exact .inr (.inl ⟨rfl, by simp [binOp, Op.stringOp, bytes_beq]⟩)
  | bool =>
    cases hx <;> cases hy <;> simp only [evEq] at hs <;> try exact hs.elim
    case bool.bool u v =>
      refine .same ?_ (eqB_sem hs) .bool st
      refine eq_equal (fun _ _ h => by cases h.1) (fun h => by cases h.1) (by rfl) (by rfl) ?_
      exact equalIn_bool (d := 9999) hk
  | ptr =>
    obtain ⟨e, hu⟩ : ∃ e, P.underlying t = some (.pointer e) := hk
    have no : ∀ {x a}, isPtr x H = true → Rel β im x a → (∀ {b}, Rel β im .nilp b → (eqRun neg t ox oy a b).run P w = .ok (.bool (false != neg)) w) := by
      intro x a hp hx b hy
      obtain ⟨q, rfl⟩ := isPtr_sound hx hp st
      cases hy
      exact eq_equal (fun _ _ h => by cases h.1) (fun h => by cases h.1) (by rfl) (by rfl) (equalIn_ptr1 (d := 9999) hu)
    cases y <;> try (cases x <;> exact hs.elim)
    case nilp =>
      by_cases hxn : x = .nilp
      · subst hxn
        cases hx; cases hy
        simp only [evEq] at hs
        refine .same ?_ (eqB_sem hs) .bool st
        exact eq_equal (fun _ _ h => by cases h.1) (fun h => by cases h.1) (by rfl) (by rfl) (equalIn_ptr0 (d := 9999) hu)
      · have hs' : (if isPtr x H then eqB neg false H else .bad : Out X).sem K := by
          cases x <;> first | exact absurd rfl hxn | exact hs
        split at hs'
        · rename_i hp
          exact .same (no hp hx hy) (eqB_sem hs') .bool st
        · exact hs'.elim
  | slc =>
    obtain ⟨e, hu⟩ : ∃ e, P.underlying t = some (.slice e) := hk
    have yes : (eqRun neg t ox oy (.slice none 0 0) (.slice none 0 0)).run P w = .ok (.bool (true != neg)) w := by
      exact eq_equal (fun _ _ h => by cases h.1) (fun h => by cases h.1) (by rfl) (by rfl) (equalIn_slc0 (d := 9999) hu)
    have no : ∀ {q : Addr} {n c}, (eqRun neg t ox oy (.slice (some q) n c) (.slice none 0 0)).run P w = .ok (.bool (false != neg)) w := by
      intro q n c
      exact eq_equal (fun _ _ h => by cases h.1) (fun h => by cases h.1) (by rfl) (by rfl) (equalIn_slc1 (d := 9999) hu)
    cases y <;> try (cases x <;> exact hs.elim)
    case nils =>
      cases hy
      cases hx <;> simp only [evEq] at hs <;> try exact hs.elim
      case nils => exact .same yes (eqB_sem hs) .bool st
      case key k hk _ =>
        split at hs
        · rename_i s n g hm
          obtain ⟨v, g1, g2, e1, _, _, sa, _⟩ := st.take hm
          rw [hk] at e1; injection e1 with e1; subst e1
          cases sa with
          | vec => exact .same no (eqB_sem (hs false (by simp))) .bool st
          | vec0 => exact .same yes (eqB_sem (hs true (by simp))) .bool st
        · exact hs.elim
      case ros => exact .same no (eqB_sem (hs false (by simp))) .bool st
      case ros0 s g a0 =>
        cases a0 with
        | none => exact .same yes (eqB_sem (hs true (by simp))) .bool st
        | some q => exact .same no (eqB_sem (hs false (by simp))) .bool st
  | agg n =>
    cases hx <;> cases hy <;> simp only [evEq] at hs <;> try exact hs.elim
    case agg.agg l xs hl m ys hm =>
      split at hs
      · rename_i hn
        split at hs
        · rename_i c he
          obtain ⟨ps, rfl, rfl, rfl, hlen⟩ := eqInts_sound hl hm he
          exact .same (eqAgg_sound hk (by omega)) (eqB_sem hs) .bool st
        · exact hs.elim
      · exact hs.elim
theorem conv_sound {s d : TypeId} {k ks : IntKind} {x : SV} {a : Value} (h1 : P.underlying s = some (.int ks)) (h2 : P.underlying d = some (.int k)) (hx : Rel β im x a)
    (hs : (evConv k x H).sem K) (st : HSt O W0 B β im H hR w) : Yd O W0 B β im hR K ((convert s d a).run P w) := by
  cases hx <;> simp only [evConv] at hs <;> try exact hs.elim
  case int => exact .same (by simp [convert, run_underlying h1, run_underlying h2, Conv.intToInt]) hs .int st
theorem same_sound {s d : TypeId} {x : SV} {a : Value} (h1 : P.underlying s = some .string) (h2 : P.underlying d = some .string) (hx : Rel β im x a)
    (hs : (evSame x H).sem K) (st : HSt O W0 B β im H hR w) : Yd O W0 B β im hR K ((convert s d a).run P w) := by
  cases hx <;> simp only [evSame] at hs <;> try exact hs.elim
  case str => exact .same (by simp [convert, run_underlying h1, run_underlying h2]) hs .str st
theorem push_fold (l : List Int) : ∀ s : ByteArray, l.foldl (fun r n => r.push (UInt8.ofNat n.toNat)) s = ⟨s.data ++ (l.map fun n => UInt8.ofNat n.toNat).toArray⟩ := by
  induction l with
  | nil => intro s; simp
  | cons n l ih => intro s; rw [List.foldl_cons, ih]; simp [ByteArray.push]
/-- Rows of one byte each, as numbers. -/
theorem bytes_rows {n : Nat} {g : Nat → List SV} {rows : Nat → List Value} (hb : isBytes n g) (hr : ∀ i, i < n → RelC β im (g i) (rows i)) :
    ∃ ns : List Int, ns.length = n ∧ (∀ i, i < n → rows i = [.int .u8 (ns.getD i 0)]) ∧ mkStr n g = ⟨(ns.map fun x => UInt8.ofNat x.toNat).toArray⟩ := by
  refine ⟨(List.range n).map fun i => match g i with | [.int .u8 x] => x | _ => 0, by simp, fun i hi => ?_, ?_⟩
  · obtain ⟨x, hx⟩ := hb i hi
    have := hr i hi
    rw [hx] at this
    generalize rows i = r at this
    cases this with
    | one _ h t => cases t; cases h; simp [hi, hx]
  · unfold mkStr
    congr 2
    rw [List.map_map]
    refine List.map_congr_left fun i hi => ?_
    obtain ⟨x, hx⟩ := hb i (List.mem_range.1 hi)
    simp [hx, byteOf]
theorem run_b2s {s d e : TypeId} {n c b p : Nat} {g : Nat → List SV} {rows : Nat → List Value} (h1 : P.underlying s = some (.slice e)) (h2 : P.underlying d = some .string) (h3 : P.underlying e = some (.int .u8))
    (hb : isBytes n g) (hr : ∀ i, i < n → RelC β im (g i) (rows i)) (hc : ∀ i, i < n → ∀ j x, (rows i)[j]? = some x → w.cell? ⟨b, p + (i * 1 + j), none⟩ = some x) :
    (convert s d (.slice (some ⟨b, p, none⟩) n c)).run P w = .ok (.string (mkStr n g)) w := by
  obtain ⟨ns, e1, e2, e3⟩ := bytes_rows hb hr
  rw [run_convert_bytes_string w s d e _ _ _ h1 h3 h2]
  have hl := run_loadCells (P := P) (w := w) (b := b) (p := p) (ns.map (Value.int .u8)) (fun j x ex => by
    have hj : j < n := by have := (List.getElem?_eq_some_iff.1 ex).1; simp at this; omega
    have := hc j hj 0 x (by
      rw [e2 j hj]
      simp at ex
      obtain ⟨y, hy, rfl⟩ := ex
      simp [List.getD, hy])
    simpa using this)
  rw [List.length_map, e1] at hl
  rw [run_bytesToString w _ n c ns hl, push_fold, e3]
  simp [ByteArray.empty, ByteArray.emptyWithCapacity]; rfl
theorem b2s_sound {s d e : TypeId} {x : SV} {a : Value} (h1 : P.underlying s = some (.slice e)) (h2 : P.underlying d = some .string) (h3 : P.underlying e = some (.int .u8)) (hx : Rel β im x a)
    (hs : (evB2s x H).sem K) (st : HSt O W0 B β im H hR w) : Yd O W0 B β im hR K ((convert s d a).run P w) := by
  have nil : ∀ {sv}, sv = SV.str ⟨#[]⟩ → K sv H → Yd O W0 B β im hR K ((convert s d (.slice none 0 0)).run P w) := by
    intro sv e hK; subst e
    exact .same (by rw [run_convert_bytes_string w s d e _ _ _ h1 h3 h2]; rfl) hK .str st
  have nil0 : ∀ g, mkStr 0 g = ⟨#[]⟩ := fun g => rfl
  cases hx <;> simp only [evB2s] at hs <;> try exact hs.elim
  case nils => exact nil rfl hs
  case key k hk _ =>
    split at hs
    · rename_i s' n g hm
      split at hs
      · rename_i hss; subst hss
        obtain ⟨hb, hs⟩ := hs
        obtain ⟨v, g1, g2, e1, _, iv, sa, _⟩ := st.take hm
        rw [hk] at e1; injection e1 with e1; subst e1
        cases sa with
        | vec hc rows hr hl hh =>
          refine .same (run_b2s h1 h2 h3 hb hr (fun i hi j x ex => ?_)) hs .str st
          exact (iv.cell _ _ _ (uni_left (h2 := g2) (hh i (by omega) j x ex))).1
        | vec0 => exact nil (by rw [nil0]) hs
      · exact hs.elim
    · exact hs.elim
  case ros sz n g b p c rows hr hl hc hm =>
    split at hs
    · rename_i hss; subst hss
      obtain ⟨hb, hs⟩ := hs
      exact .same (run_b2s h1 h2 h3 hb hr (fun i hi j x ex => st.imm (hm i hi j x ex))) hs .str st
    · exact hs.elim
  case ros0 sz g a0 =>
    split at hs
    · obtain ⟨hb, hs⟩ := hs
      cases a0 with
      | none => exact nil (by rw [nil0]) hs
      | some q =>
        refine .same (v := .string ⟨#[]⟩) ?_ hs (by rw [nil0]; exact .str) st
        rw [run_convert_bytes_string w s d e _ _ _ h1 h3 h2]
        rw [run_bytesToString w q 0 0 [] (by simp [loadCells, loadCellsFrom])]
        rfl
    · exact hs.elim
  case sub k sz lo hi b p n c b' pq hk q1 q2 ha =>
    split at hs
    · rename_i s' m g hm
      split at hs
      · rename_i hss
        obtain ⟨rfl, rfl⟩ := hss
        obtain ⟨⟨hb0, hb⟩, hs⟩ := hs
        obtain ⟨v, g1, g2, e1, _, iv, sa, _⟩ := st.take hm
        rw [hk] at e1; injection e1 with e1; subst e1
        cases sa with
        | vec hc rows hr hl hh =>
          rcases ha with ha | ha
          · have : hi - lo = 0 := by omega
            rw [this] at hs ⊢
            exact .same (by
              rw [run_convert_bytes_string w s d e _ _ _ h1 h3 h2, run_bytesToString w _ 0 _ [] (by simp [loadCells, loadCellsFrom])]; rfl) hs .str st
          · obtain ⟨rfl, rfl⟩ := ha
            refine .same (run_b2s (rows := fun i => rows (lo + i)) h1 h2 h3 hb (fun i hi => hr _ (by omega)) (fun i hi j x ex => ?_)) hs .str st
            have := (iv.cell _ _ _ (uni_left (h2 := g2) (hh (lo + i) (by omega) j x ex))).1
            rw [show p + lo * 1 + (i * 1 + j) = p + ((lo + i) * 1 + j) by omega]; exact this
      · exact hs.elim
    · exact hs.elim
  case sub0 k sz hk =>
    split at hs
    · split at hs
      · obtain ⟨_, hs⟩ := hs
        exact nil (by rw [nil0]) hs
      · exact hs.elim
    · exact hs.elim
theorem RelL.map {ρ : Fr} {a : Act} (l : List Opd) (vs : List Value) (h : ∀ (i : Nat) (x : Opd), l[i]? = some x → ∃ v, vs[i]? = some v ∧ Rel β im (x.ev ρ) v) (hl : l.length = vs.length) : RelL β im (evs ρ l) vs := by
  induction l generalizing vs with
  | nil => cases vs with
    | nil => exact .nil
    | cons => simp at hl
  | cons x l ih =>
    cases vs with
    | nil => simp at hl
    | cons v vs =>
      obtain ⟨u, hu, r⟩ := h 0 x rfl
      simp at hu; subst hu
      exact .cons r (ih vs (fun i y e => by simpa using h (i + 1) y (by simpa using e)) (by simpa using hl))
end
end Go.Sy

/-! New memory: boxes, variables, structs and slices that are built. -/
namespace Go.Sy
open Go.RowKit
section
variable {X : Type} {O : X → SH X} {W0 : World} {B : Nat} {P : Program} {β : List Value} {im : Im} {H : SH X} {hR : Hp} {w : World} {K : SV → SH X → Prop}
theorem cells_rel {v : SV} {x : Value} (hv : Rel β im v x) (h : okCells v = true) : RelC β im (cellsOf v) x.cells.toList := by
  by_cases ha : ∃ l, v = .agg l
  · obtain ⟨l, rfl⟩ := ha
    cases hv with | agg hl => simpa [cellsOf, Value.cells] using hl
  · have h1 : v.one = true := by cases v <;> first | exact absurd ⟨_, rfl⟩ ha | exact h
    have e : cellsOf v = [v] := by cases v <;> first | exact absurd ⟨_, rfl⟩ ha | rfl
    rw [e, cells_one (hv.oneCell h1)]
    exact .one h1 hv .nil
/-- A new memory object. -/
theorem new_mem {vs : List SV} {cs : List Value} {e : TypeId} (hr : RelC β im vs cs) (hK : K (.key H.length) (H ++ [.mem vs])) (st : HSt O W0 B β im H hR w) :
    Yd O W0 B β im hR K (.ok (.pointer (some ⟨w.heap.size, 0, none⟩)) { w with heap := w.heap.push (.cells cs.toArray e) }) := by
  have hb := BLe.app β [.pointer (some ⟨w.heap.size, 0, none⟩)]
  refine ⟨_, _, _, _, _, im, rfl, hK, hb, ILe.refl im, .key (by rw [st.len]; simp) rfl, st.alloc cs e (.mem (RelC.mono hb (ILe.refl im) hr) (fun j x ex => by rw [Nat.zero_add]; exact newCells_get ex))⟩
theorem box_sound {t : TypeId} {n : Nat} {v : SV} {x : Value} (hv : Rel β im v x) (hs : (evBox v n H).sem K) (st : HSt O W0 B β im H hR w) : Yd O W0 B β im hR K ((Instr.box t x).run P w) := by
  unfold evBox at hs
  split at hs
  · rename_i hc
    simp at hc
    have := new_mem (e := t) (cells_rel hv hc.1) hs st
    simpa [Instr.box, newVar, newRow] using this
  · exact hs.elim
theorem CV.ofVal_val {v : Value} {c : CV} (h : CV.ofVal v = some c) : c.val = v := by
  unfold CV.ofVal at h
  split at h <;> first | (injection h with h; subst h; rfl) | skip
  · rename_i s
    injection h with h; subst h
    simp only [CV.val]
    have : (s.data.toList.map UInt8.toNat).map UInt8.ofNat = s.data.toList := by
      rw [List.map_map]; conv => rhs; rw [← List.map_id s.data.toList]
      exact List.map_congr_left fun x _ => by simp
    rw [this]
  · split at h
    · rename_i hc
      injection h with h; subst h
      simp at hc
      simp [CV.val, hc.1, hc.2]
    · cases h
  · split at h
    · rename_i hc
      injection h with h; subst h
      simp at hc
      simp [CV.val, hc, undef]
    · cases h
  · cases h
theorem CV.rel (c : CV) : Rel β im c.sv c.val := by
  cases c <;> first | exact .int | exact .bool | exact .str | exact .nilp | exact .nils | exact .nilf | exact .nilm | exact .und | exact .fn .nil
theorem CV.one_sv {c : CV} (h : c ≠ .und) : c.sv.one = true := by cases c <;> first | rfl | exact absurd rfl h
theorem cvs_rel : ∀ (l : List CV), (∀ c ∈ l, c ≠ .und) → RelC β im (l.map CV.sv) (l.map CV.val)
  | [], _ => .nil
  | c :: l, h => .one (CV.one_sv (h c (by simp))) c.rel (cvs_rel l fun d hd => h d (by simp [hd]))
theorem zvs_rel : ∀ (z : List ZV), z.all ZV.ok = true → (z.flatMap ZV.flat).all (· != .und) = true → RelC β im (zsv z) ((z.flatMap ZV.flat).map CV.val)
  | [], _, _ => .nil
  | .one c :: z, h, hu => by
    simp only [List.all_cons, Bool.and_eq_true] at h
    simp only [List.flatMap_cons, ZV.flat, List.singleton_append, List.all_cons, Bool.and_eq_true] at hu
    exact .one (CV.one_sv (by simpa using hu.1)) c.rel (zvs_rel z h.2 hu.2)
  | .arr sz n row :: z, h, hu => by
    simp only [List.all_cons, Bool.and_eq_true, ZV.ok, beq_iff_eq] at h
    simp only [List.flatMap_cons, ZV.flat, List.all_append, Bool.and_eq_true] at hu
    have hz := zvs_rel z h.2 hu.2
    simp only [List.flatMap_cons, ZV.flat, List.map_append]
    rw [show ((List.range n).flatMap fun _ => row).map CV.val = (List.range n).flatMap fun _ => row.map CV.val by rw [List.map_flatMap]]
    refine .arr (fun _ => row.map CV.val) (fun i hi => cvs_rel row ?_) (fun i hi => by simp [h.1]) hz
    intro c hc
    have := hu.1
    simp only [List.all_eq_true, List.mem_flatMap, List.mem_range] at this
    simpa using this c ⟨i, hi, hc⟩
theorem mapM_ofVal : ∀ {vs : List Value} {cs : List CV}, vs.mapM CV.ofVal = some cs → vs = cs.map CV.val
  | [], cs, h => by simp at h; subst h; rfl
  | v :: vs, cs, h => by
    simp only [List.mapM_cons] at h
    cases hv : CV.ofVal v with
    | none => rw [hv] at h; cases h
    | some c =>
      rw [hv] at h
      cases hr : vs.mapM CV.ofVal with
      | none => rw [hr] at h; cases h
      | some ds =>
        rw [hr] at h; simp at h; subst h
        rw [mapM_ofVal hr, ← CV.ofVal_val hv]; rfl
theorem zOf_spec {t : TypeId} {z : List ZV} (h : zOf P t = some z) : ∃ v n, (∀ w, (zeroValue t).run P w = .ok v w) ∧ (∀ β im, RelC β im (zsv z) v.cells.toList) ∧ tSize P t = some n ∧ v.cells.toList.length = n := by
  unfold zOf at h
  cases hz : zsh P 8 t with
  | none => rw [hz] at h; cases h
  | some z' =>
    rw [hz] at h
    cases hi : P.info? t with
    | none => simp [hi] at h
    | some i =>
      cases hv : i.zero with
      | none => simp [hi, hv] at h
      | some v =>
        simp only [hi, tSize, hv, Option.bind_eq_bind, Option.bind_some, Option.map_some] at h
        split at h
        · rename_i hc
          injection h with h; subst h
          obtain ⟨c1, c2, c3, c4⟩ := hc
          have := mapM_ofVal c1
          refine ⟨v, i.size, fun w => by simp [zeroValue, run_typeInfo' hi, hv], fun β im => ?_, by simp [tSize, hi], by rw [this]; simpa using c2⟩
          rw [this]; exact zvs_rel z' c4 c3
        · cases h
theorem alc_sound {t : TypeId} {z : List ZV} (hz : zOf P t = some z) (hK : K (.key H.length) (H ++ [.mem (zsv z)])) (st : HSt O W0 B β im H hR w) :
    Yd O W0 B β im hR K ((Instr.alloc t true (.tuple #[])).run P w) := by
  obtain ⟨v, n, h1, h2, h3, h4⟩ := zOf_spec hz
  have := new_mem (e := t) (h2 β im) hK st
  simpa [Instr.alloc, h1, newVar, newRow] using this
/-! ### Structs that are built -/
theorem foldl_set (xs : List Value) (off : Nat) : ∀ (j : Nat) (cs : List Value), off + j + xs.length ≤ cs.length →
    ((xs.zipIdx j).foldl (fun (cs : Array Value) (p : Value × Nat) => cs.setIfInBounds (off + p.2) p.1) cs.toArray).toList = cs.take (off + j) ++ xs ++ cs.drop (off + j + xs.length) := by
  induction xs with
  | nil => intro j cs h; simp
  | cons x xs ih =>
    intro j cs h
    simp only [List.zipIdx_cons, List.foldl_cons, List.setIfInBounds_toArray]
    rw [ih (j + 1) _ (by simp at h ⊢; omega)]
    simp at h
    rw [set_eq_mid _ _ _ (by omega)]
    have tl : (List.take (off + j) cs ++ [x]).length = off + j + 1 := by simp; omega
    rw [show off + (j + 1) = off + j + 1 by omega, List.take_append_of_le_length (by omega), List.take_of_length_le (by omega)]
    rw [List.drop_append, tl, List.drop_eq_nil_of_le (by omega)]
    simp
    congr 1; omega
theorem fillA_sound {ρ : Fr} {a : Act} {place : Nat → Option (Nat × Nat)} : ∀ (ps : List (Nat × Nat × Opd)) (is : List (Nat × Value)) (z : List SV) (zs : List Value) {l : List SV}, RelC β im z zs →
    ps.length = is.length → (∀ (j : Nat) (p : Nat × Nat × Opd), ps[j]? = some p → ∃ q, is[j]? = some q ∧ place q.1 = some (p.1, p.2.1) ∧ Rel β im (p.2.2.ev ρ) q.2) →
    fillA z ρ ps = some l → ∃ cs, Instr.fill place zs.toArray is = some cs.toArray ∧ RelC β im l cs
  | [], is, z, zs, l, hz, hl, _, e => by
    cases is with
    | nil => simp [fillA] at e; subst e; exact ⟨zs, rfl, hz⟩
    | cons => simp at hl
  | (o, n, x) :: ps, is, z, zs, l, hz, hl, h, e => by
    cases is with
    | nil => simp at hl
    | cons q is =>
      obtain ⟨q', e1, e2, e3⟩ := h 0 (o, n, x) rfl
      simp at e1; subst e1
      simp only [fillA] at e
      split at e
      · rename_i hc
        simp at hc
        split at e
        · rename_i z' hz'
          obtain ⟨a1, a2, a3, a4⟩ := stV_sound hz e3 hz'
          obtain ⟨cs, r1, r2⟩ := fillA_sound (place := place) (a := a) ps is z' _ a3 (by simpa using hl) (fun j p ep => by simpa using h (j + 1) p (by simpa using ep)) e
          refine ⟨cs, ?_, r2⟩
          have hsz : q.2.cells.size = n := by simpa using a1
          have hle : ¬ (o + q.2.cells.size > zs.toArray.size) := by simp; omega
          simp only [Instr.fill, e2, hsz]
          rw [hsz] at hle
          simp only [ne_eq, not_true_eq_false, decide_false, Bool.false_or, decide_eq_true_eq, hle, if_false]
          have hf := foldl_set q.2.cells.toList o 0 zs (by simp at a1 ⊢; omega)
          rw [Nat.add_zero] at hf
          simp only [Bool.false_eq_true, if_false]
          rw [← r1]
          rw [a1] at hf
          have hz2 : Array.foldl (fun cs x => cs.setIfInBounds (o + x.snd) x.fst) zs.toArray q.2.cells.zipIdx = (List.take o zs ++ q.2.cells.toList ++ List.drop (o + n) zs).toArray := by
            rw [← Array.toList_inj, ← hf, ← Array.foldl_toList]
            simp [Array.toList_zipIdx]
          rw [← hz2]
        · cases e
      · cases e
end
end Go.Sy

/-! Slices that are built, made, appended to, copied and cleared. -/
namespace Go.Sy
open Go.RowKit
section
variable {X : Type} {O : X → SH X} {W0 : World} {B : Nat} {P : Program} {β : List Value} {im : Im} {H : SH X} {hR : Hp} {w : World} {K : SV → SH X → Prop}
theorem run_mapM {α γ : Type} (f : α → Sem γ) (g : α → γ) : ∀ (l : List α), (∀ x ∈ l, (f x).run P w = .ok (g x) w) → (l.mapM f).run P w = .ok (l.map g) w
  | [], _ => by simp
  | x :: l, h => by
    simp only [List.mapM_cons, Sem.run_bind, h x (by simp), Result.andThen_ok, run_mapM f g l (fun y hy => h y (by simp [hy])), Sem.run_pure, List.map_cons]
theorem run_mapM_array {α γ : Type} (f : α → Sem γ) (g : α → γ) (a : Array α) (h : ∀ x ∈ a.toList, (f x).run P w = .ok (g x) w) : (a.mapM f).run P w = .ok (a.map g) w := by
  rw [Array.mapM_eq_mapM_toList]
  simp only [Sem.run_map, run_mapM f g a.toList h, Result.andThen_ok]
  have e : (a.toList.map g).toArray = a.map g := Array.toList_inj.1 (by simp)
  rw [e]
theorem evs_parts {ρ : Fr} {a : Act} (hfr : FrRel β im ρ a.tmps) {x : Operand} {y : Opd} (h : cOpd x = some y) : Rel β im (y.ev ρ) (a.eval x) := by
  cases x with
  | tmp t => simp [cOpd] at h; subst h; exact hfr t
  | const v =>
    simp only [cOpd] at h
    cases hv : CV.ofVal v with
    | none => rw [hv] at h; cases h
    | some c => rw [hv] at h; simp at h; subst h; rw [← CV.ofVal_val hv]; exact c.rel
  | func f => simp [cOpd] at h; subst h; exact .fn .nil
  | global g => simp [cOpd] at h
/-- A list of operands, compiled. -/
theorem mapM_get {α γ : Type} {f : α → Option γ} : ∀ {l : List α} {r : List γ}, l.mapM f = some r → r.length = l.length ∧ ∀ (i : Nat) (y : γ), r[i]? = some y → ∃ x, l[i]? = some x ∧ f x = some y
  | [], r, h => by simp at h; subst h; simp
  | x :: l, r, h => by
    simp only [List.mapM_cons] at h
    cases hx : f x with
    | none => rw [hx] at h; cases h
    | some y =>
      rw [hx] at h
      cases hr : l.mapM f with
      | none => rw [hr] at h; cases h
      | some r' =>
        rw [hr] at h; simp at h; subst h
        obtain ⟨a, b⟩ := mapM_get hr
        refine ⟨by simp [a], fun i z hz => ?_⟩
        cases i with
        | zero => simp at hz; subst hz; exact ⟨x, rfl, hx⟩
        | succ i => simpa using b i z (by simpa using hz)
theorem bld_sound {ρ : Fr} {a : Act} {t : TypeId} {z : List ZV} {ps : Array (Nat × Operand)} {qs : List (Nat × Nat × Opd)} (hz : zOf P t = some z) (hfr : FrRel β im ρ a.tmps)
    (hp : (∃ fs, P.underlying t = some (.struct fs) ∧ (fs.toList.all fun f => (tSize P f.type).isSome) = true ∧ cParts ps.toList (fun i => do let f ← fs[i]?; some (f.offset, ← tSize P f.type)) = some qs) ∨
      (∃ n e sz, P.underlying t = some (.array n e) ∧ tSize P e = some sz ∧ cParts ps.toList (fun i => some (i * sz, sz)) = some qs))
    (hs : (evBld z qs ρ H).sem K) (st : HSt O W0 B β im H hR w) : Yd O W0 B β im hR K ((Instr.build t (ps.map fun (i, x) => (i, a.eval x))).run P w) := by
  obtain ⟨v, n, h1, h2, h3, h4⟩ := zOf_spec hz
  unfold evBld at hs
  split at hs
  · rename_i l hl
    have main : ∀ (place : Nat → Option (Nat × Nat)), cParts ps.toList place = some qs → ∃ cs, Instr.fill place v.cells (ps.map fun (i, x) => (i, a.eval x)).toList = some cs.toArray ∧ RelC β im l cs := by
      intro place hc
      obtain ⟨g1, g2⟩ := mapM_get hc
      obtain ⟨cs, r1, r2⟩ := fillA_sound (a := a) (place := place) qs (ps.map fun (i, x) => (i, a.eval x)).toList (zsv z) v.cells.toList (h2 β im) (by simp; simpa using g1) (fun j p ep => by
        obtain ⟨x, hx, hf⟩ := g2 j p ep
        obtain ⟨i, o⟩ := x
        simp only [Option.bind_eq_bind] at hf
        cases hpl : place i with
        | none => rw [hpl] at hf; cases hf
        | some on =>
          rw [hpl] at hf
          cases hco : cOpd o with
          | none => rw [hco] at hf; cases hf
          | some y =>
            rw [hco] at hf; simp at hf; subst hf
            exact ⟨(i, a.eval o), by simp at hx; simp [hx], hpl, evs_parts hfr hco⟩) hl
      exact ⟨cs, by simpa using r1, r2⟩
    rcases hp with ⟨fs, hu, hall, hc⟩ | ⟨m, e, sz, hu, hsz, hc⟩
    · have hpl : (fs.mapM (fun (f : Field) => do pure (f.offset, ← sizeOf f.type)) : Sem (Array (Nat × Nat))).run P w = .ok (fs.map fun f => (f.offset, (tSize P f.type).getD 0)) w :=
        run_mapM_array _ _ fs (fun f hf => by
          have := List.all_eq_true.1 hall f hf
          cases hts : tSize P f.type with
          | none => rw [hts] at this; cases this
          | some q => simp [run_sizeOf hts])
      have hplace : (fun i : Nat => (fs.map fun f => (f.offset, (tSize P f.type).getD 0))[i]?) = fun i : Nat => (do let f ← (fs[i]? : Option Field); some (f.offset, ← tSize P f.type) : Option (Nat × Nat)) := by
        funext i
        rw [Array.getElem?_map]
        cases hfi : fs[i]? with
        | none => rfl
        | some f =>
          have := List.all_eq_true.1 hall f (by have := Array.mem_of_getElem? hfi; simpa using this)
          cases hts : tSize P f.type with
          | none => rw [hts] at this; cases this
          | some q => simp [hts]
      obtain ⟨cs, r1, r2⟩ := main _ hc
      rw [← hplace] at r1
      refine .same (v := .agg cs.toArray) ?_ hs (.agg r2) st
      simp only [Instr.build, Sem.run_bind, h1, Result.andThen_ok, run_underlying hu, hpl, r1, Sem.run_pure]
    · obtain ⟨cs, r1, r2⟩ := main _ hc
      refine .same (v := .agg cs.toArray) ?_ hs (.agg r2) st
      simp only [Instr.build, Sem.run_bind, h1, Result.andThen_ok, run_underlying hu, run_sizeOf hsz, r1, Sem.run_pure]
  · exact hs.elim
/-- The same zero cells again and again. -/
theorem zero_rows (z : Array Value) (n : Nat) (hz : 0 < z.size) : ((Array.range (n * z.size)).map fun i => z[i % z.size]!).toList = (List.range n).flatMap fun _ => z.toList := by
  have hl : ∀ i, i < n → ((fun _ => z.toList) i : List Value).length = z.size := fun i _ => by simp
  apply List.ext_getElem?
  intro p
  by_cases hp : p < z.size * n
  · obtain ⟨d1, d2, d3⟩ := div_mod_split hp
    have := flatMap_get (rows := fun _ => z.toList) hl d1 d2
    rw [d3] at this
    rw [this]
    have hp' : p < n * z.size := by rw [Nat.mul_comm]; exact hp
    simp [hp', d2]
  · rw [List.getElem?_eq_none (by simp; rw [Nat.mul_comm]; omega), List.getElem?_eq_none (by rw [flatMap_len hl]; omega)]
/-- A new slice of n rows in a block of c. -/
theorem new_vec {sz n c : Nat} {g : Nat → List SV} {rows : Nat → List Value} {e : TypeId} (hn : n ≤ c) (hr : ∀ i, i < n → RelC β im (g i) (rows i)) (hl : ∀ i, i < c → (rows i).length = sz)
    (hK : K (.key H.length) (H ++ [.vec sz n g])) (st : HSt O W0 B β im H hR w) :
    Yd O W0 B β im hR K (.ok (.slice (some ⟨w.heap.size, 0, none⟩) n c) { w with heap := w.heap.push (.cells ((List.range c).flatMap rows).toArray e) }) := by
  have hb := BLe.app β [.slice (some ⟨w.heap.size, 0, none⟩) n c]
  refine ⟨_, _, _, _, _, im, rfl, hK, hb, ILe.refl im, .key (by rw [st.len]; simp) rfl, st.alloc _ e (.vec hn rows (fun i hi => RelC.mono hb (ILe.refl im) (hr i hi)) hl (fun i hi j x ex => ?_))⟩
  have hj : j < sz := by have := (List.getElem?_eq_some_iff.1 ex).1; rw [hl i hi] at this; exact this
  rw [Nat.zero_add]
  exact newCells_get (by rw [flatMap_get hl hi hj]; exact ex)
theorem fillR_sound {ρ : Fr} {sz len : Nat} : ∀ (ps : List (Nat × Opd)) (is : List (Nat × Value)) (rows : List (List SV)) (vr : Nat → List Value) {rows' : List (List SV)}, rows.length = len →
    (∀ i, i < len → RelC β im (rows.getD i []) (vr i) ∧ (vr i).length = sz) → ps.length = is.length →
    (∀ (j : Nat) (p : Nat × Opd), ps[j]? = some p → ∃ q, is[j]? = some q ∧ q.1 = p.1 ∧ Rel β im (p.2.ev ρ) q.2) → fillR rows sz ρ ps = some rows' →
    ∃ vr' : Nat → List Value, Instr.fill (fun i => some (i * sz, sz)) ((List.range len).flatMap vr).toArray is = some ((List.range len).flatMap vr').toArray ∧ rows'.length = len ∧
      ∀ i, i < len → RelC β im (rows'.getD i []) (vr' i) ∧ (vr' i).length = sz
  | [], is, rows, vr, rows', hrl, hr, hl, _, e => by
    cases is with
    | nil => simp [fillR] at e; subst e; exact ⟨vr, rfl, hrl, hr⟩
    | cons => simp at hl
  | (i, x) :: ps, is, rows, vr, rows', hrl, hr, hl, h, e => by
    cases is with
    | nil => simp at hl
    | cons q is =>
      obtain ⟨q', e1, e2, e3⟩ := h 0 (i, x) rfl
      simp at e1; subst e1
      simp only [fillR] at e
      split at e
      · rename_i hc
        simp at hc
        obtain ⟨⟨c1, c2⟩, c3⟩ := hc
        have hil : i < len := by omega
        have hcells := cells_rel e3 c1
        have hsz : q.2.cells.toList.length = sz := by rw [hcells.len]; exact c2
        have hlen := flatMap_len (n := len) (fun j hj => (hr j hj).2)
        have hmul : (i + 1) * sz ≤ len * sz := Nat.mul_le_mul_right _ hil
        rw [Nat.succ_mul] at hmul
        have hms : sz * len = len * sz := Nat.mul_comm _ _
        obtain ⟨vr', r1, r2, r3⟩ := fillR_sound ps is (rows.set i (cellsOf (x.ev ρ))) (fun j => if j = i then q.2.cells.toList else vr j) (by simpa using hrl) (fun j hj => by
          by_cases c : j = i
          · subst c
            rw [if_pos rfl]
            exact ⟨by simp [List.getD, hrl, hj]; simpa using hcells, hsz⟩
          · rw [if_neg c]
            have := hr j hj
            refine ⟨?_, this.2⟩
            simp only [List.getD] at this ⊢
            rw [List.getElem?_set_ne (by omega)]; exact this.1) (by simpa using hl) (fun j p ep => by simpa using h (j + 1) p (by simpa using ep)) e
        refine ⟨vr', ?_, r2, r3⟩
        rw [← r1]
        have hle : ¬ (i * sz + q.2.cells.size > ((List.range len).flatMap vr).toArray.size) := by simp at hsz; simp [hlen, hsz] ; simp [hlen] at *; omega
        have hsz' : q.2.cells.size = sz := by simpa using hsz
        simp only [Instr.fill, e2, hsz']
        rw [hsz'] at hle
        simp only [ne_eq, not_true_eq_false, decide_false, Bool.false_or, hle]
        simp only [Bool.false_eq_true, if_false]
        have hf := foldl_set q.2.cells.toList (i * sz) 0 ((List.range len).flatMap vr) (by rw [hsz, hlen]; omega)
        rw [Nat.add_zero, hsz] at hf
        have hz2 : Array.foldl (fun cs x => cs.setIfInBounds (i * sz + x.snd) x.fst) ((List.range len).flatMap vr).toArray q.2.cells.zipIdx = ((List.range len).flatMap fun j => if j = i then q.2.cells.toList else vr j).toArray := by
          rw [flatMap_set (fun j hj => (hr j hj).2) hil hsz]
          rw [← Array.toList_inj, ← hf, ← Array.foldl_toList]
          simp [Array.toList_zipIdx]
        rw [← hz2]
      · cases e
end
end Go.Sy

/-! Making slices, appending, copying, clearing. -/
namespace Go.Sy
open Go.RowKit
section
variable {X : Type} {O : X → SH X} {W0 : World} {B : Nat} {P : Program} {β : List Value} {im : Im} {H : SH X} {hR : Hp} {w : World} {K : SV → SH X → Prop}
theorem bsl_sound {ρ : Fr} {a : Act} {t e : TypeId} {sz len : Nat} {z : List ZV} {ps : Array (Nat × Operand)} {qs : List (Nat × Opd)} (hu : P.underlying t = some (.slice e)) (hsz : tSize P e = some sz) (hz : zOf P e = some z)
    (hpos : 0 < sz) (hmax : len * sz ≤ 16777216) (hfr : FrRel β im ρ a.tmps) (hp : ps.toList.mapM (fun (i, x) => do some (i, ← cOpd x)) = some qs)
    (hs : (evBsl sz len z qs ρ H).sem K) (st : HSt O W0 B β im H hR w) : Yd O W0 B β im hR K ((Instr.buildSlice t len (ps.map fun (i, x) => (i, a.eval x))).run P w) := by
  obtain ⟨v, n, h1, h2, h3, h4⟩ := zOf_spec hz
  have hn : n = sz := by rw [hsz] at h3; injection h3 with h3; exact h3.symm
  subst hn
  unfold evBsl at hs
  split at hs
  · rename_i rows' hl
    have hvs : v.cells.size = n := by simpa using h4
    obtain ⟨g1, g2⟩ := mapM_get hp
    obtain ⟨vr, r1, r2, r3⟩ := fillR_sound (β := β) (im := im) (len := len) qs (ps.map fun (i, x) => (i, a.eval x)).toList (List.replicate len (zsv z)) (fun _ => v.cells.toList) (by simp) (fun i hi => by
      exact ⟨by simp [List.getD, hi]; simpa using h2 β im, h4⟩) (by simp; simpa using g1) (fun j p ep => by
        obtain ⟨x, hx, hf⟩ := g2 j p ep
        obtain ⟨i, o⟩ := x
        cases hco : cOpd o with
        | none => simp [hco] at hf
        | some y =>
          simp [hco] at hf; subst hf
          exact ⟨(i, a.eval o), by simp at hx; simp [hx], rfl, evs_parts hfr hco⟩) hl
    have zr : ∀ q, q = len * n → ((Array.range q).map fun i => v.cells[i % v.cells.size]!) = ((List.range len).flatMap fun _ => v.cells.toList).toArray := fun q hq => by
      rw [← Array.toList_inj, hq, ← hvs, zero_rows v.cells len (by omega)]
    have r4 : ∀ i, i < len → rows'.getD i [] = lst rows' i := fun i hi => by
      unfold lst
      rw [List.getD_eq_getElem?_getD, List.getD_eq_getElem?_getD, List.getElem?_eq_getElem (by omega)]; rfl
    have := new_vec (e := e) (c := len) (Nat.le_refl len) (fun i hi => by rw [← r4 i hi]; exact (r3 i hi).1) (fun i hi => (r3 i hi).2) (show K (.key H.length) (H ++ [.vec n len (lst rows')]) from hs) st
    have hmax' : ¬ (len * n > 2 ^ 24) := by simp; omega
    simp only [Instr.buildSlice, Sem.run_bind, run_underlying hu, Result.andThen_ok, run_sizeOf hsz]
    by_cases h0 : len * n = 0
    · have hl0 : len = 0 := by rcases Nat.mul_eq_zero.1 h0 with q | q <;> omega
      subst hl0
      have r1' : Instr.fill (fun i => some (i * n, n)) #[] (List.map (fun x => (x.fst, a.eval x.snd)) ps.toList) = some (((List.range 0).flatMap vr).toArray) := by simpa using r1
      simp only [hmax', if_false, h0, if_true, Sem.run_pure, Result.andThen_ok]
      have e1 : ∀ f : Nat → Value, Array.map f (Array.range 0) = #[] := fun f => Array.eq_empty_of_size_eq_zero (by simp)
      simp [e1, r1', newRow]
      simpa [newRow] using this
    · simp only [hmax', if_false, h0, Sem.run_bind, h1, Result.andThen_ok, Sem.run_pure, zr _ rfl, r1]
      simpa [newRow] using this
  · exact hs.elim
theorem wrap_i64 {n : Int} (h0 : 0 ≤ n) (h1 : n ≤ 9223372036854775807) : IntKind.i64.wrap n = n := by
  rw [IntKind.wrap_i64]; omega
theorem mks_sound {t e : TypeId} {sz bytes : Nat} {z : List ZV} {n c : SV} {a b : Value} (hu : P.underlying t = some (.slice e)) (hsz : tSize P e = some sz) (hby : tBytes P e = some bytes) (hz : zOf P e = some z) (hpos : 0 < sz)
    (hn : Rel β im n a) (hc : Rel β im c b) (hs : (evMks sz bytes z n c H).sem K) (st : HSt O W0 B β im H hR w) : Yd O W0 B β im hR K ((Instr.makeSlice t a b).run P w) := by
  obtain ⟨v, m, h1, h2, h3, h4⟩ := zOf_spec hz
  have hm : m = sz := by rw [hsz] at h3; injection h3 with h3; exact h3.symm
  subst hm
  obtain ⟨i, hi, hib⟩ := run_bytes hby
  cases hn <;> cases hc <;> simp only [evMks] at hs <;> try exact hs.elim
  case int.int k n k' c =>
    cases k <;> cases k' <;> try exact hs.elim
    obtain ⟨⟨q1, q2, q3, q4⟩, hs⟩ := hs
    have hvs : v.cells.size = m := by simpa using h4
    have w1 := wrap_i64 q1 (by omega : n ≤ _)
    have w2 := wrap_i64 (by omega : 0 ≤ c) q4
    have tc : ¬ (c < 0 ∨ (2 : Int) ^ 48 < i.bytes * c) := by
      rw [hib, Int.mul_comm]
      have : (2 : Int) ^ 48 = 281474976710656 := by decide
      rw [this]; omega
    have := new_vec (e := e) (n := n.toNat) (c := c.toNat) (g := fun _ => zsv z) (rows := fun _ => v.cells.toList) (by omega) (fun i hi => h2 β im) (fun i hi => h4) hs st
    have zr : ∀ q, q = c.toNat * m → ((Array.range q).map fun i => v.cells[i % v.cells.size]!) = ((List.range c.toNat).flatMap fun _ => v.cells.toList).toArray := fun q hq => by
      rw [← Array.toList_inj, hq, ← hvs, zero_rows v.cells c.toNat (by omega)]
    by_cases h0 : c.toNat * m = 0
    · have hl0 : c.toNat = 0 := by rcases Nat.mul_eq_zero.1 h0 with q | q <;> omega
      have hc0 : c = 0 := by omega
      have hn0 : n = 0 := by omega
      subst hc0 hn0
      have e0 : ((Array.range ((0 : Int).toNat * m)).map fun i => (#[] : Array Value)[i % (#[] : Array Value).size]!) = ((List.range (0 : Int).toNat).flatMap fun _ => v.cells.toList).toArray := by simp
      simp only [e0, Instr.makeSlice, Sem.run_bind, run_underlying hu, Result.andThen_ok, asInt, asIntOf, Sem.run_pure, run_typeInfo' hi, w1, run_askRoom, run_sizeOf hsz, Sem.run_ite]
      simpa [newRow] using this
    · simp only [Instr.makeSlice, Sem.run_bind, run_underlying hu, Result.andThen_ok, asInt, asIntOf, Sem.run_pure, run_typeInfo' hi, w1, w2, run_askRoom, run_sizeOf hsz, Sem.run_ite]
      have c1 : (decide (c < 0) || decide ((i.bytes : Int) * c > 2 ^ 48)) = false := by simp; omega
      have c2 : ((decide (c < 0) || decide ((i.bytes : Int) * c > 2 ^ 48)) || decide (n < 0) || decide (n > c)) = false := by rw [c1]; simp; omega
      simp only [c2, Bool.false_eq_true, if_false, Result.andThen_ok, h0, Sem.run_bind, h1, Sem.run_pure, zr _ rfl]
      simpa [newRow] using this
end
end Go.Sy

/-! Appending, copying, clearing. -/
namespace Go.Sy
open Go.RowKit
section
variable {X : Type} {O : X → SH X} {W0 : World} {B : Nat} {P : Program} {β : List Value} {im : Im} {H : SH X} {hR : Hp} {w : World} {K : SV → SH X → Prop}
/-- The rows that a value offers to be read. -/
structure Reads (P : Program) (w : World) (sz m : Nat) (rows : Nat → List Value) (v : Value) : Prop where
  len : (Builtin.lenOf v).run P w = .ok m w
  cells : ∀ n, n ≤ m → (Builtin.firstCells sz n v).run P w = .ok ((List.range n).flatMap rows).toArray w
  sz : ∀ i, i < m → (rows i).length = sz
theorem run_loadRows {b p n sz : Nat} {rows : Nat → List Value} (hl : ∀ i, i < n → (rows i).length = sz)
    (hc : ∀ i, i < n → ∀ j x, (rows i)[j]? = some x → w.cell? ⟨b, p + (i * sz + j), none⟩ = some x) : (loadCells ⟨b, p, none⟩ (n * sz)).run P w = .ok ((List.range n).flatMap rows).toArray w := by
  have hlen := flatMap_len hl
  have := run_loadCells (P := P) (w := w) (b := b) (p := p) ((List.range n).flatMap rows) (fun j x e => by
    have hj : j < sz * n := by have := (List.getElem?_eq_some_iff.1 e).1; rw [hlen] at this; exact this
    obtain ⟨d1, d2, d3⟩ := div_mod_split hj
    have := flatMap_get (rows := rows) hl d1 d2
    rw [d3, e] at this
    have := hc _ d1 _ x this.symm
    rw [d3] at this; exact this)
  rw [hlen, Nat.mul_comm] at this; exact this
theorem reads_cells {b p c m sz : Nat} {rows : Nat → List Value} (hl : ∀ i, i < m → (rows i).length = sz)
    (hc : ∀ i, i < m → ∀ j x, (rows i)[j]? = some x → w.cell? ⟨b, p + (i * sz + j), none⟩ = some x) : Reads P w sz m rows (.slice (some ⟨b, p, none⟩) m c) :=
  ⟨by simp [Builtin.lenOf], fun n hn => by
    simp only [Builtin.firstCells]
    exact run_loadRows (fun i hi => hl i (by omega)) (fun i hi => hc i (by omega)), hl⟩
theorem reads_none {sz c : Nat} {rows : Nat → List Value} : Reads P w sz 0 rows (.slice none 0 c) :=
  ⟨by simp [Builtin.lenOf], fun n hn => by (have : n = 0 := by omega); subst this; simp [Builtin.firstCells], fun i hi => by omega⟩
theorem reads_zero {sz c : Nat} {a : Addr} {rows : Nat → List Value} : Reads P w sz 0 rows (.slice (some a) 0 c) :=
  ⟨by simp [Builtin.lenOf], fun n hn => by (have : n = 0 := by omega); subst this; simp [Builtin.firstCells, loadCells, loadCellsFrom], fun i hi => by omega⟩
theorem reads_str {s : ByteArray} : Reads P w 1 s.size (fun i => [.int .u8 (bt s i)]) (.string s) :=
  ⟨by simp [Builtin.lenOf], fun n hn => by
    simp only [Builtin.firstCells, Sem.run_pure]
    congr 1
    apply Array.toList_inj.1
    apply List.ext_getElem?
    intro i
    simp only [Array.toList_map, List.getElem?_map]
    by_cases hi : i < n
    · have := flatMap_get (sz := 1) (n := n) (rows := fun i => [Value.int .u8 (bt s i)]) (by simp) hi (Nat.zero_lt_one)
      simp only [Nat.mul_one, Nat.add_zero, List.getElem?_cons_zero] at this
      rw [this]
      have hn' : n ≤ s.data.size := hn
      have hi' : i < s.data.size := by omega
      simp [bt, ByteArray.data_extract, hi]
      exact ⟨s.data[i], Array.getElem?_eq_getElem hi', by rw [Array.getElem?_eq_getElem hi']; rfl⟩
    · have hl := flatMap_len (sz := 1) (n := n) (rows := fun i => [Value.int .u8 (bt s i)]) (by simp)
      have hn' : n ≤ s.data.size := hn
      rw [List.getElem?_eq_none (l := List.flatMap _ _) (by omega)]
      simp [ByteArray.data_extract]; omega, fun i hi => rfl⟩
theorem cell_heap {w w' : World} (hw : w'.heap = w.heap) (b o : Nat) : w'.cell? ⟨b, o, none⟩ = w.cell? ⟨b, o, none⟩ := by simp [World.cell?, hw]
/-- What rowsOf says is what is read. -/
theorem rows_read {y : SV} {v : Value} {sz m : Nat} {g : Nat → List SV} (hy : Rel β im y v) (e : rowsOf y sz H = some (m, g)) (hb : inB y H) (st : HSt O W0 B β im H hR w) :
    ∃ rows : Nat → List Value, (∀ i, i < m → RelC β im (g i) (rows i)) ∧ ∀ w' : World, w'.heap = w.heap → Reads P w' sz m rows v := by
  cases hy <;> simp only [rowsOf] at e <;> try cases e
  case nils => exact ⟨fun _ => [], fun i hi => by omega, fun _ _ => reads_none⟩
  case str s =>
    split at e
    · rename_i h1; subst h1; simp at e; obtain ⟨rfl, rfl⟩ := e
      exact ⟨_, fun i _ => .one rfl .int .nil, fun _ _ => reads_str⟩
    · cases e
  case key k hk h1 =>
    split at e
    · rename_i s n g' hm
      split at e
      · rename_i hss; subst hss; simp at e; obtain ⟨rfl, rfl⟩ := e
        obtain ⟨v', g1, g2, e1, _, iv, sa, _⟩ := st.take hm
        rw [hk] at e1; injection e1 with e1; subst e1
        cases sa with
        | vec hc rows hr hl hh => exact ⟨rows, hr, fun w' hw => reads_cells (fun i hi => hl i (by omega)) (fun i hi j x ex => (cell_heap hw _ _).trans (iv.cell _ _ _ (uni_left (hh i (by omega) j x ex))).1)⟩
        | vec0 => exact ⟨fun _ => [], fun i hi => by omega, fun _ _ => reads_none⟩
      · cases e
    · cases e
  case ros s n g' b p c rows hr hl hc hm =>
    split at e
    · rename_i hss; subst hss; simp at e; obtain ⟨rfl, rfl⟩ := e
      exact ⟨rows, hr, fun w' hw => reads_cells hl (fun i hi j x ex => (cell_heap hw _ _).trans (st.imm (hm i hi j x ex)))⟩
    · cases e
  case ros0 s g' a0 =>
    split at e
    · simp at e; obtain ⟨rfl, rfl⟩ := e
      refine ⟨fun _ => [], fun i hi => by omega, fun _ _ => ?_⟩
      cases a0 with
      | none => exact reads_none
      | some q => exact reads_zero
    · cases e
  case sub k s lo hi b p n c b' q hk q1 q2 ha =>
    split at e
    · rename_i s' m' g' hm
      split at e
      · rename_i hss; obtain ⟨rfl, rfl⟩ := hss; simp at e; obtain ⟨rfl, rfl⟩ := e
        simp only [inB, hm] at hb
        obtain ⟨v', g1, g2, e1, _, iv, sa, _⟩ := st.take hm
        rw [hk] at e1; injection e1 with e1; subst e1
        cases sa with
        | vec hc rows hr hl hh =>
          rcases ha with ha | ⟨rfl, rfl⟩
          · have : hi - lo = 0 := by omega
            rw [this]
            exact ⟨fun _ => [], fun i hi => by omega, fun _ _ => reads_zero⟩
          · refine ⟨fun i => rows (lo + i), fun i hi => hr _ (by omega), fun w' hw => reads_cells (fun i hi => hl _ (by omega)) (fun i hi j x ex => (cell_heap hw _ _).trans ?_)⟩
            have := (iv.cell _ _ _ (uni_left (h2 := g2) (hh (lo + i) (by omega) j x ex))).1
            rw [Nat.add_mul] at this
            rw [show p + lo * s' + (i * s' + j) = p + (lo * s' + i * s' + j) by omega]; exact this
      · cases e
    · cases e
  case sub0 k s hk =>
    split at e
    · split at e
      · simp at e; obtain ⟨rfl, rfl⟩ := e
        exact ⟨fun _ => [], fun i hi => by omega, fun _ _ => reads_none⟩
      · cases e
    · cases e
/-- Atom k is given up; what it had goes into a new atom. -/
theorem HSt.takeMove (s : HSt O W0 B β im H hR w) {k A} (hk : H[k]? = some A) :
    ∃ v h1 h2, β[k]? = some v ∧ Dj h1 h2 ∧ Inv W0 B im (uni h1 h2) w ∧ Sat O im β A v h1 ∧
      ∀ w' A' v' h1', Dj h1' h2 → Sat O im (β ++ [v']) A' v' h1' → Inv W0 B im (uni h1' h2) w' → HSt O W0 B (β ++ [v']) im (H.set k .gone ++ [A']) hR w' := by
  obtain ⟨hH, d, hs, i⟩ := s
  obtain ⟨v, a, b, e, dab, rfl, sa, back⟩ := hs.take hk
  have dd := Dj.uni_left.1 d
  refine ⟨v, a, uni b hR, e, Dj.uni_right.2 ⟨dab, dd.1⟩, by rw [← uni_assoc]; exact i, sa, ?_⟩
  intro w' A' v' h1' d' s' i'
  have d2 := Dj.uni_right.1 d'
  have hb := back .gone emp (Dj.emp_left b) .gone
  rw [uni_emp] at hb
  exact ⟨uni h1' b, Dj.uni_left.2 ⟨d2.2, dd.2⟩, (HS.mono (BLe.app β [v']) (ILe.refl im) hb).snoc d2.1 s', by rw [uni_assoc]; exact i'⟩
end
end Go.Sy

/-! Appending. -/
namespace Go.Sy
open Go.RowKit
section
variable {X : Type} {O : X → SH X} {W0 : World} {B : Nat} {P : Program} {β : List Value} {im : Im} {H : SH X} {hR : Hp} {w : World} {K : SV → SH X → Prop}
theorem flatMap_add {α : Type} (a b : Nat) (f : Nat → List α) : (List.range (a + b)).flatMap f = (List.range a).flatMap f ++ (List.range b).flatMap (fun i => f (a + i)) := by
  rw [List.range_add, List.flatMap_append, List.flatMap_map]
theorem flatMap_congr_range {α : Type} {n : Nat} {f g : Nat → List α} (h : ∀ i, i < n → f i = g i) : (List.range n).flatMap f = (List.range n).flatMap g :=
  by
    simp only [List.flatMap_def]
    congr 1
    exact List.map_congr_left fun i hi => h i (List.mem_range.1 hi)
/-- Rows, then others, then the zero's. -/
def rows3 (n m : Nat) (f g : Nat → List Value) (z : List Value) : Nat → List Value := fun i => if i < n then f i else if i < n + m then g (i - n) else z
theorem rows3_flat {n m c : Nat} {f g : Nat → List Value} {z : List Value} (h : n + m ≤ c) :
    (List.range c).flatMap (rows3 n m f g z) = (List.range n).flatMap f ++ (List.range m).flatMap g ++ (List.range (c - (n + m))).flatMap (fun _ => z) := by
  have e : c = n + m + (c - (n + m)) := by omega
  conv => lhs; rw [e]
  rw [flatMap_add, flatMap_add]
  congr 1
  · congr 1
    · exact flatMap_congr_range fun i hi => by simp [rows3, hi]
    · exact flatMap_congr_range fun i hi => by simp only [rows3]; rw [if_neg (by omega), if_pos (by omega)]; congr 1; omega
  · exact flatMap_congr_range fun i hi => by
      simp only [rows3]
      rw [if_neg (by omega), if_neg (by omega)]
theorem run_append_grow' {t u e ty : TypeId} {du : TypeDesc} {sz bytes n c m : Nat} {z : Value} {base : Option Addr} {x : Value} {fr fx : Nat → List Value}
    (hu : P.underlying t = some (.slice e)) (hd : P.underlying u = some du) (hk : (∃ e', du = .slice e') ∨ du = .string) (hsz : tSize P e = some sz) (hby : tBytes P e = some bytes) (hb0 : 0 < bytes)
    (hz : ∀ w, (zeroValue e).run P w = .ok z w) (hzs : z.cells.toList.length = sz) (h0 : 0 < sz) (hg : c < n + m) (hB : (n + m) * bytes ≤ 140737488355328)
    (hs : ∀ w' : World, w'.heap = w.heap → (Builtin.firstCells sz n (.slice base n c)).run P w' = .ok ((List.range n).flatMap fr).toArray w') (hx : ∀ w' : World, w'.heap = w.heap → Reads P w' sz m fx x) :
    ∃ c', n + m ≤ c' ∧ (Builtin.append_ #[t, u] ty #[.slice base n c, x]).run P w =
      .ok (.slice (some ⟨w.heap.size, 0, none⟩) (n + m) c') (w.drew.alloc (.cells ((List.range c').flatMap (rows3 n m fr fx z.cells.toList)).toArray e)) := by
  obtain ⟨i, hi, rfl⟩ := run_bytes hby
  have hge : n + m ≤ (Question.appendCap (n + m) c e).cut (w.tape w.drawn (.appendCap (n + m) c e)) := grownCap_ge w (n + m) c e
  have hng : ¬ (n + m ≤ c) := by omega
  have h48 : ¬ (281474976710656 < Builtin.nextslicecap (n + m) c * i.bytes) := by have := growslice_fits (need := n + m) (old := c) (bytes := i.bytes) hg hB; omega
  have hbz : ¬ (i.bytes = 0) := by omega
  have hq : (Question.appendCap (n + m) c e).forced = false := rfl
  refine ⟨_, hge, ?_⟩
  rcases hk with ⟨e', rfl⟩ | rfl
  all_goals
    have hvs : z.cells.size = sz := by simpa using hzs
    have hx' := hx w.drew rfl
    have zr := zero_rows z.cells ((Question.appendCap (n + m) c e).cut (w.tape w.drawn (.appendCap (n + m) c e)) - (n + m)) (by omega)
    have e3 := rows3_flat (n := n) (m := m) (f := fr) (g := fx) (z := z.cells.toList) hge
    have e4 : (((List.range n).flatMap fr).toArray ++ ((List.range m).flatMap fx).toArray ++ Builtin.zeroCells z.cells ((Question.appendCap (n + m) c e).cut (w.tape w.drawn (.appendCap (n + m) c e)) - (n + m)))
      = ((List.range ((Question.appendCap (n + m) c e).cut (w.tape w.drawn (.appendCap (n + m) c e)))).flatMap (rows3 n m fr fx z.cells.toList)).toArray := by
      rw [← Array.toList_inj, e3]
      rw [← zr]; simp [Builtin.zeroCells]
    simp [Builtin.append_, run_underlying hu, run_underlying hd, run_sizeOf hsz, run_typeInfo' hi, (hx w rfl).len, hng, h48, hbz, hq, hs w.drew rfl, hx'.cells m (Nat.le_refl m), hz, newRow]
    rw [← Array.append_assoc, e4]
theorem run_append_room' {t u e ty : TypeId} {du : TypeDesc} {sz n c m : Nat} {b p : Nat} {x : Value} {fx : Nat → List Value} {h : Hp}
    (hu : P.underlying t = some (.slice e)) (hd : P.underlying u = some du) (hk : (∃ e', du = .slice e') ∨ du = .string) (hsz : tSize P e = some sz)
    (hg : n + m ≤ c) (hx : Reads P w sz m fx x) (hi : Inv W0 B im h w) (hc : ∀ j, j < sz * m → ∃ v, h b (p + (n * sz + j)) = some (.cell v)) (ho : ∀ i, i < m → ∀ y ∈ fx i, oneCell y = true) :
    ∃ w', (Builtin.append_ #[t, u] ty #[.slice (some ⟨b, p, none⟩) n c, x]).run P w = .ok (.slice (some ⟨b, p, none⟩) (n + m) c) w' ∧ Inv W0 B im (setsHp h b (p + n * sz) ((List.range m).flatMap fx)) w' := by
  have hlen := flatMap_len hx.sz
  obtain ⟨w', r1, r2⟩ := run_storeCells (P := P) (b := b) (p := p + n * sz) ((List.range m).flatMap fx) 0 hi (fun j hj => by
    obtain ⟨v, hv⟩ := hc j (by rw [hlen] at hj; exact hj)
    exact ⟨v, by rw [show p + n * sz + (0 + j) = p + (n * sz + j) by omega]; exact hv⟩) (fun y hy => by
    obtain ⟨i, hi, hy⟩ := List.mem_flatMap.1 hy
    exact ho i (List.mem_range.1 hi) y hy)
  refine ⟨w', ?_, r2⟩
  rcases hk with ⟨e', rfl⟩ | rfl <;>
    simp [Builtin.append_, run_underlying hu, run_underlying hd, run_sizeOf hsz, hx.len, hg, hx.cells m (Nat.le_refl m), add_addr, r1]
/-- Rows of a run of rows are written. -/
theorem setsHp_rows {h : Hp} {b p sz n m c : Nat} {f g : Nat → List Value} (hl : ∀ i, i < c → (f i).length = sz) (hg : ∀ i, i < m → (g i).length = sz)
    (hh : ∀ i, i < c → ∀ j x, (f i)[j]? = some x → h b (p + (i * sz + j)) = some (.cell x)) (_ : n + m ≤ c) :
    ∀ i, i < c → ∀ j y, (if i < n then f i else if i < n + m then g (i - n) else f i)[j]? = some y → setsHp h b (p + n * sz) ((List.range m).flatMap g) b (p + (i * sz + j)) = some (.cell y) := by
  intro i hi j y ey
  have hlen := flatMap_len hg
  have hms : sz * m = m * sz := Nat.mul_comm _ _
  by_cases c1 : i < n
  · rw [if_pos c1] at ey
    have hj : j < sz := by have := (List.getElem?_eq_some_iff.1 ey).1; rw [hl i hi] at this; exact this
    have := Nat.mul_le_mul_right sz (show i + 1 ≤ n from c1)
    rw [Nat.add_mul] at this
    rw [setsHp_old (by rintro ⟨_, q, _⟩; omega)]
    exact hh i hi j y ey
  · rw [if_neg c1] at ey
    by_cases c2 : i < n + m
    · rw [if_pos c2] at ey
      have hj : j < sz := by have := (List.getElem?_eq_some_iff.1 ey).1; rw [hg _ (by omega)] at this; exact this
      rw [← flatMap_get hg (by omega) hj] at ey
      have := setsHp_get (h := h) (b := b) (p := p + n * sz) ey
      have e : n * sz + (i - n) * sz = i * sz := by rw [← Nat.add_mul]; congr 1; omega
      rw [show p + (i * sz + j) = p + n * sz + ((i - n) * sz + j) by omega]
      exact this
    · rw [if_neg c2] at ey
      have := Nat.mul_le_mul_right sz (show n + m ≤ i by omega)
      rw [Nat.add_mul] at this
      rw [setsHp_old (by rintro ⟨_, _, q⟩; rw [hlen] at q; omega)]
      exact hh i hi j y ey
/-- A slice of an atom grows at its end: the atom is given up, its cells or new ones are the new atom's. -/
theorem app_move {t u e ty : TypeId} {du : TypeDesc} {sz bytes lo hi n c m k : Nat} {b p b' q : Nat} {x : Value} {fx : Nat → List Value} {g gx : Nat → List SV} {z : List ZV}
    (hu : P.underlying t = some (.slice e)) (hd : P.underlying u = some du) (hk : (∃ e', du = .slice e') ∨ du = .string) (hsz : tSize P e = some sz) (hby : tBytes P e = some bytes) (hb0 : 0 < bytes) (hz : zOf P e = some z) (h0 : 0 < sz)
    (hkk : H[k]? = some (.vec sz n g)) (hβ : β[k]? = some (.slice (some ⟨b, p, none⟩) n c)) (h1 : lo ≤ hi) (h2 : hi ≤ n) (ha : c = lo ∨ (b' = b ∧ q = p + lo * sz)) (hB : ((hi - lo) + m) * bytes ≤ 140737488355328)
    (hrx : ∀ i, i < m → RelC β im (gx i) (fx i)) (hx : Reads P w sz m fx x) (hxd : ∀ w' : World, w'.heap = w.heap → Reads P w' sz m fx x)
    (hK : K (.key H.length) (H.set k .gone ++ [.vec sz ((hi - lo) + m) (apnd (hi - lo) (shft lo g) gx)])) (st : HSt O W0 B β im H hR w) :
    Yd O W0 B β im hR K ((Builtin.append_ #[t, u] ty #[.slice (some ⟨b', q, none⟩) (hi - lo) (c - lo), x]).run P w) := by
  obtain ⟨zv, zn, hz1, hz2, hz3, hz4⟩ := zOf_spec hz
  have hzn : zn = sz := by rw [hsz] at hz3; injection hz3 with q; exact q.symm
  subst hzn
  obtain ⟨v, hp1, hp2, e1, dj, iv, sa, back⟩ := st.takeMove hkk
  rw [hβ] at e1; injection e1 with e1; subst e1
  cases sa with
  | vec hc rows hr hl hh =>
    have hrows : ∀ i, i < hi - lo → RelC β im (shft lo g i) (rows (lo + i)) := fun i hi => hr _ (by omega)
    have hnew : ∀ {v'} (fz : Nat → List Value), (∀ i, i < (hi - lo) + m → fz i = if i < hi - lo then rows (lo + i) else fx (i - (hi - lo))) → ∀ i, i < (hi - lo) + m → RelC (β ++ [v']) im (apnd (hi - lo) (shft lo g) gx i) (fz i) := by
      intro v' fz hf i hi'
      refine RelC.mono (BLe.app β [v']) (ILe.refl im) ?_
      rw [hf i hi']
      simp only [apnd]
      by_cases ci : i < hi - lo
      · rw [if_pos ci, if_pos ci]; exact hrows i ci
      · rw [if_neg ci, if_neg ci]; exact hrx _ (by omega)
    by_cases hroom : (hi - lo) + m ≤ c - lo
    · -- in place
      by_cases hcl : c = lo
      · -- no room at all, nothing comes
        have hm0 : m = 0 := by omega
        have hhl : hi - lo = 0 := by omega
        subst hm0
        obtain ⟨w', r1, r2⟩ := run_append_room' (ty := ty) (b := b') (p := q) (n := hi - lo) (c := c - lo) (h := uni hp1 hp2) hu hd hk hsz hroom hx iv (fun j hj => by simp at hj) (fun i hi => by omega)
        refine ⟨_, w', _, _, β ++ [.slice (some ⟨b', q, none⟩) (hi - lo + 0) (c - lo)], im, r1, hK, BLe.app _ _, ILe.refl im, .key (by rw [st.len]; simp) rfl, ?_⟩
        refine back w' _ _ emp (Dj.emp_left _) (.vec (by omega) (fun _ => []) (fun i hi => by omega) (fun i hi => by omega) (fun i hi => by omega)) ?_
        have : setsHp (uni hp1 hp2) b' (q + (hi - lo) * zn) ((List.range 0).flatMap fx) = uni hp1 hp2 := by simp [setsHp_nil]
        rw [this] at r2
        rw [uni_emp]
        exact r2.sub fun b o s hs => uni_right dj hs
      · have hbq : b' = b ∧ q = p + lo * zn := ha.resolve_left hcl
        obtain ⟨rfl, rfl⟩ := hbq
        have own : ∀ j, j < zn * m → ∃ v, hp1 b' (p + lo * zn + (hi - lo) * zn + j) = some (.cell v) := by
          intro j hj
          obtain ⟨d1, d2, d3⟩ := div_mod_split hj
          have hrl := hl (hi + j / zn) (by omega)
          have := hh (hi + j / zn) (by omega) (j % zn) ((rows (hi + j / zn))[j % zn]'(by rw [hrl]; exact d2)) (List.getElem?_eq_getElem _)
          refine ⟨(rows (hi + j / zn))[j % zn]'(by rw [hrl]; exact d2), ?_⟩
          · rw [← this]
            congr 1
            have e5 : (hi - lo) * zn + lo * zn = hi * zn := by rw [← Nat.add_mul]; congr 1; omega
            rw [Nat.add_mul]; omega
        obtain ⟨w', r1, r2⟩ := run_append_room' (ty := ty) (b := b') (p := p + lo * zn) (n := hi - lo) (c := c - lo) (h := uni hp1 hp2) hu hd hk hsz hroom hx iv (fun j hj => by
          obtain ⟨v, hv⟩ := own j hj
          exact ⟨v, uni_left (by rw [← Nat.add_assoc]; exact hv)⟩) (fun i hi y hy => (hrx i hi).ones y hy)
        refine ⟨_, w', _, _, β ++ [.slice (some ⟨b', p + lo * zn, none⟩) (hi - lo + m) (c - lo)], im, r1, hK, BLe.app _ _, ILe.refl im, .key (by rw [st.len]; simp) rfl, ?_⟩
        have hlen := flatMap_len hx.sz
        rw [setsHp_uni] at r2
        refine back w' _ _ _ (Dj.sets dj (fun j hj => by rw [hlen] at hj; obtain ⟨v, hv⟩ := own j hj; exact ⟨_, hv⟩)) ?_ r2
        refine .vec hroom (fun i => if i < hi - lo then rows (lo + i) else if i < hi - lo + m then fx (i - (hi - lo)) else rows (lo + i)) (hnew _ (fun i hi' => by
          by_cases ci : i < hi - lo
          · simp only [if_pos ci]
          · simp only [if_neg ci, if_pos hi'])) (fun i hi' => ?_) (fun i hi' j y ey => ?_)
        · by_cases ci : i < hi - lo
          · simp only [if_pos ci]; exact hl _ (by omega)
          · by_cases cj : i < hi - lo + m
            · simp only [if_neg ci, if_pos cj]; exact hx.sz _ (by omega)
            · simp only [if_neg ci, if_neg cj]; exact hl _ (by omega)
        · exact setsHp_rows (n := hi - lo) (m := m) (c := c - lo) (f := fun i => rows (lo + i)) (g := fx) (fun i hi' => hl _ (by omega)) hx.sz (fun i hi' j x ex => by
            have := hh (lo + i) (by omega) j x ex
            rw [Nat.add_mul] at this
            rw [show p + lo * zn + (i * zn + j) = p + (lo * zn + i * zn + j) by omega]; exact this) hroom i hi' j y ey
    · -- a new block
      have hs : ∀ w' : World, w'.heap = w.heap → (Builtin.firstCells zn (hi - lo) (.slice (some ⟨b', q, none⟩) (hi - lo) (c - lo))).run P w' = .ok ((List.range (hi - lo)).flatMap (fun i => rows (lo + i))).toArray w' := by
        intro w' hw
        rcases ha with hcl | ⟨rfl, rfl⟩
        · have : hi - lo = 0 := by omega
          rw [this]; exact reads_zero.cells 0 (Nat.le_refl 0)
        · refine (reads_cells (m := hi - lo) (fun i hi => hl _ (by omega)) (fun i hi' j y ey => ?_)).cells _ (Nat.le_refl _)
          have := (iv.cell _ _ _ (uni_left (h2 := hp2) (hh (lo + i) (by omega) j y ey))).1
          rw [Nat.add_mul] at this
          rw [show p + lo * zn + (i * zn + j) = p + (lo * zn + i * zn + j) by omega]
          simpa [World.cell?, hw] using this
      obtain ⟨c', hc', r1⟩ := run_append_grow' (ty := ty) (n := hi - lo) (c := c - lo) (fr := fun i => rows (lo + i)) hu hd hk hsz hby hb0 hz1 (by simpa using hz4) h0 (by omega) hB hs hxd
      refine ⟨_, _, _, _, β ++ [.slice (some ⟨w.heap.size, 0, none⟩) (hi - lo + m) c'], im, r1, hK, BLe.app _ _, ILe.refl im, .key (by rw [st.len]; simp) rfl, ?_⟩
      have al := (iv.sub (h' := hp2) fun b o s hs => uni_right dj hs).drew.alloc ((List.range c').flatMap (rows3 (hi - lo) m (fun i => rows (lo + i)) fx zv.cells.toList)) e
      have lens : ∀ i, i < c' → (rows3 (hi - lo) m (fun i => rows (lo + i)) fx zv.cells.toList i).length = zn := by
        intro i hi'
        simp only [rows3]
        split
        · exact hl _ (by omega)
        · split
          · exact hx.sz _ (by omega)
          · simpa using hz4
      refine back _ _ _ _ al.1 (.vec hc' (rows3 (hi - lo) m (fun i => rows (lo + i)) fx zv.cells.toList) (hnew _ (fun i hi' => by
        by_cases ci : i < hi - lo
        · simp only [rows3, if_pos ci]
        · simp only [rows3, if_neg ci, if_pos hi'])) ?lens (fun i hi' j y ey => ?_)) al.2
      case lens => exact lens
      · have hj : j < zn := by have := (List.getElem?_eq_some_iff.1 ey).1; rw [lens i hi'] at this; exact this
        rw [Nat.zero_add]
        exact newCells_get (by rw [flatMap_get lens hi' hj]; exact ey)
/-- Appending upon nil. -/
theorem app_nil {t u e ty : TypeId} {du : TypeDesc} {sz bytes m : Nat} {x : Value} {fx : Nat → List Value} {gx : Nat → List SV} {z : List ZV}
    (hu : P.underlying t = some (.slice e)) (hd : P.underlying u = some du) (hk : (∃ e', du = .slice e') ∨ du = .string) (hsz : tSize P e = some sz) (hby : tBytes P e = some bytes) (hb0 : 0 < bytes) (hz : zOf P e = some z) (h0 : 0 < sz)
    (hB : m * bytes ≤ 140737488355328) (hrx : ∀ i, i < m → RelC β im (gx i) (fx i)) (hx : Reads P w sz m fx x) (hxd : ∀ w' : World, w'.heap = w.heap → Reads P w' sz m fx x) :
    ∃ v w', (Builtin.append_ #[t, u] ty #[.slice none 0 0, x]).run P w = .ok v w' ∧ oneCell v = true ∧
      ((m = 0 ∧ v = .slice none 0 0 ∧ w' = w) ∨ ∃ c cs, m ≤ c ∧ v = .slice (some ⟨w.heap.size, 0, none⟩) m c ∧ w' = w.drew.alloc (.cells cs e) ∧
        ∃ f : Nat → List Value, cs = ((List.range c).flatMap f).toArray ∧ (∀ i, i < m → RelC β im (gx i) (f i)) ∧ ∀ i, i < c → (f i).length = sz) := by
  obtain ⟨zv, zn, hz1, hz2, hz3, hz4⟩ := zOf_spec hz
  have hzn : zn = sz := by rw [hsz] at hz3; injection hz3 with q; exact q.symm
  subst hzn
  by_cases hm : m = 0
  · subst hm
    refine ⟨.slice none 0 0, w, ?_, rfl, .inl ⟨rfl, rfl, rfl⟩⟩
    rcases hk with ⟨e', rfl⟩ | rfl <;>
      simp [Builtin.append_, run_underlying hu, run_underlying hd, run_sizeOf hsz, hx.len, hx.cells 0 (Nat.le_refl 0)]
  · obtain ⟨c', hc', r1⟩ := run_append_grow' (ty := ty) (n := 0) (c := 0) (base := none) (fr := fun _ => []) hu hd hk hsz hby hb0 hz1 (by simpa using hz4) h0 (by omega) (by simpa using hB)
      (fun w' _ => reads_none.cells 0 (Nat.le_refl 0)) hxd
    simp only [Nat.zero_add] at hc' r1
    refine ⟨_, _, r1, rfl, .inr ⟨c', _, hc', rfl, rfl, _, rfl, fun i hi => ?_, fun i hi => ?_⟩⟩
    · simp only [rows3, Nat.not_lt_zero, if_false, Nat.zero_add, if_pos hi, Nat.sub_zero]; exact hrx i hi
    · simp only [rows3, Nat.not_lt_zero, if_false, Nat.zero_add, Nat.sub_zero]
      split
      · exact hx.sz _ (by assumption)
      · simpa using hz4
theorem app_sound {t u e ty : TypeId} {du : TypeDesc} {sz bytes : Nat} {x y : SV} {a v : Value} {z : List ZV}
    (hu : P.underlying t = some (.slice e)) (hd : P.underlying u = some du) (hk : (∃ e', du = .slice e') ∨ du = .string) (hsz : tSize P e = some sz) (hby : tBytes P e = some bytes) (hb0 : 0 < bytes) (hz : zOf P e = some z) (h0 : 0 < sz)
    (hx : Rel β im x a) (hy : Rel β im y v) (hs : (evApp sz bytes x y H).sem K) (st : HSt O W0 B β im H hR w) : Yd O W0 B β im hR K ((Builtin.append_ #[t, u] ty #[a, v]).run P w) := by
  unfold evApp at hs
  split at hs
  · exact hs.elim
  · rename_i m gy hrow
    have nil : ∀ {k : Nat} {s : Nat} {g : Nat → List SV} {n : Nat}, a = .slice none 0 0 → inB y H → m * bytes ≤ 140737488355328 → H[k]? = some (.vec s n g) → β[k]? = some (.slice none 0 0) → (∀ g', K (.key H.length) (H.set k .gone ++ [.vec sz m g']) ∨ True) →
        K (.key H.length) (H.set k .gone ++ [.vec sz m gy]) → Yd O W0 B β im hR K ((Builtin.append_ #[t, u] ty #[a, v]).run P w) := by
      intro k s g n ha hb hB hkk hβ _ hK
      subst ha
      obtain ⟨fx, hrx, hxd⟩ := rows_read (P := P) hy hrow hb st
      obtain ⟨v', w', r1, r2, r3⟩ := app_nil (ty := ty) hu hd hk hsz hby hb0 hz h0 hB hrx (hxd w rfl) hxd
      obtain ⟨v0, hp1, hp2, e1, dj, iv, sa, back⟩ := st.takeMove hkk
      have iv2 := iv.sub (h' := hp2) fun b o s hs => uni_right dj hs
      refine ⟨v', w', _, _, β ++ [v'], im, r1, hK, BLe.app _ _, ILe.refl im, .key (by rw [st.len]; simp) r2, ?_⟩
      rcases r3 with ⟨rfl, rfl, rfl⟩ | ⟨c, cs, hc, rfl, rfl, f, rfl, hf1, hf2⟩
      · exact back _ _ _ emp (Dj.emp_left _) .vec0 (by rw [uni_emp]; exact iv2)
      · have al := iv2.drew.alloc ((List.range c).flatMap f) e
        refine back _ _ _ _ al.1 (.vec hc f (fun i hi => RelC.mono (BLe.app _ _) (ILe.refl im) (hf1 i hi)) hf2 (fun i hi' j y ey => ?_)) al.2
        have hj : j < sz := by have := (List.getElem?_eq_some_iff.1 ey).1; rw [hf2 i hi'] at this; exact this
        rw [Nat.zero_add]
        exact newCells_get (by rw [flatMap_get hf2 hi' hj]; exact ey)
    cases hx <;> try exact hs.elim
    case nils =>
      obtain ⟨⟨hb, hB⟩, hs⟩ := hs
      obtain ⟨fx, hrx, hxd⟩ := rows_read (P := P) hy hrow hb st
      obtain ⟨v', w', r1, r2, r3⟩ := app_nil (ty := ty) hu hd hk hsz hby hb0 hz h0 hB hrx (hxd w rfl) hxd
      refine ⟨v', w', _, _, β ++ [v'], im, r1, hs, BLe.app _ _, ILe.refl im, .key (by rw [st.len]; simp) r2, ?_⟩
      rcases r3 with ⟨rfl, rfl, rfl⟩ | ⟨c, cs, hc, rfl, rfl, f, rfl, hf1, hf2⟩
      · exact st.push (h1 := emp) (fun _ _ _ => Dj.emp_left _) .vec0 (fun _ _ i => by rw [uni_emp]; exact i)
      · refine st.drew.alloc _ e (.vec hc f (fun i hi => RelC.mono (BLe.app _ _) (ILe.refl im) (hf1 i hi)) hf2 (fun i hi' j y ey => ?_))
        have hj : j < sz := by have := (List.getElem?_eq_some_iff.1 ey).1; rw [hf2 i hi'] at this; exact this
        rw [Nat.zero_add]
        exact newCells_get (by rw [flatMap_get hf2 hi' hj]; exact ey)
    case key k hβ h1 =>
      dsimp only at hs
      split at hs
      · rename_i s n g hkk
        split at hs
        · rename_i hss; subst hss
          obtain ⟨⟨hb, hB⟩, hs⟩ := hs
          obtain ⟨v0, g1, g2, e1, _, iv, sa, _⟩ := st.take hkk
          rw [hβ] at e1; injection e1 with e1; subst e1
          cases sa with
          | @vec _ _ _ _ b p c _ hc rows hr hl hh =>
            obtain ⟨fx, hrx, hxd⟩ := rows_read (P := P) hy hrow hb st
            have := app_move (ty := ty) (lo := 0) (hi := n) (b' := b) (q := p) hu hd hk hsz hby hb0 hz h0 hkk hβ (Nat.zero_le _) (Nat.le_refl _) (.inr ⟨rfl, by simp⟩) (by simpa using hB) hrx (hxd w rfl) hxd (by
              have e0 : shft 0 g = g := by funext i; simp [shft]
              simpa [e0, Out.sem] using hs) st
            simpa using this
          | vec0 => exact nil rfl hb (by simpa using hB) hkk hβ (fun _ => .inr trivial) (by
              have e0 : apnd 0 g gy = gy := by funext i; simp [apnd]
              simpa [e0, Out.sem] using hs)
        · exact hs.elim
      · exact hs.elim
    case sub k s lo hi b p n c b' q hβ q1 q2 ha =>
      dsimp only at hs
      split at hs
      · rename_i s' n' g hkk
        split at hs
        · rename_i hss; obtain ⟨rfl, rfl⟩ := hss
          obtain ⟨⟨hb, hn, hB⟩, hs⟩ := hs
          obtain ⟨v0, g1, g2, e1, _, iv, sa, _⟩ := st.take hkk
          rw [hβ] at e1; injection e1 with e1; subst e1
          cases sa with
          | vec hc rows hr hl hh =>
            obtain ⟨fx, hrx, hxd⟩ := rows_read (P := P) hy hrow hb st
            exact app_move (ty := ty) hu hd hk hsz hby hb0 hz h0 hkk hβ q1 hn ha hB hrx (hxd w rfl) hxd hs st
        · exact hs.elim
      · exact hs.elim
    case sub0 k s hβ =>
      dsimp only at hs
      split at hs
      · rename_i s' n' g hkk
        split at hs
        · rename_i hss; obtain ⟨rfl, rfl⟩ := hss
          obtain ⟨⟨hb, hn, hB⟩, hs⟩ := hs
          exact nil rfl hb (by simpa using hB) hkk hβ (fun _ => .inr trivial) (by
              have e0 : apnd 0 (shft 0 g) gy = gy := by funext i; simp [apnd]
              simpa [e0, Out.sem] using hs)
        · exact hs.elim
      · exact hs.elim
end
end Go.Sy

/-! Copying and clearing. -/
namespace Go.Sy
open Go.RowKit
section
variable {X : Type} {O : X → SH X} {W0 : World} {B : Nat} {P : Program} {β : List Value} {im : Im} {H : SH X} {hR : Hp} {w : World} {K : SV → SH X → Prop}
theorem write_rows {sz n k lo cnt b p c b' q : Nat} {g g' : Nat → List SV} {f : Nat → List Value} (hkk : H[k]? = some (.vec sz n g)) (hβ : β[k]? = some (.slice (some ⟨b, p, none⟩) n c)) (hc : lo + cnt ≤ n)
    (ha : cnt = 0 ∨ (b' = b ∧ q = p + lo * sz)) (hf : ∀ i, i < cnt → RelC β im (g' i) (f i)) (hfl : ∀ i, i < cnt → (f i).length = sz) (st : HSt O W0 B β im H hR w) :
    ∃ w', (storeCells ⟨b', q, none⟩ ((List.range cnt).flatMap f)).run P w = .ok () w' ∧ HSt O W0 B β im (H.set k (.vec sz n (wrt lo cnt g g'))) hR w' := by
  obtain ⟨v, hp1, hp2, e1, dj, iv, sa, back⟩ := st.take hkk
  rw [hβ] at e1; injection e1 with e1; subst e1
  cases sa with
  | vec hcn rows hr hl hh =>
    by_cases h0 : cnt = 0
    · subst h0
      refine ⟨w, by simp [storeCells], back w _ hp1 dj (.vec hcn rows (fun i hi => ?_) hl hh) iv⟩
      simp only [wrt]; rw [if_neg (by omega)]; exact hr i hi
    · obtain ⟨rfl, rfl⟩ := ha.resolve_left h0
      have hlen := flatMap_len hfl
      have own : ∀ j, j < ((List.range cnt).flatMap f).length → ∃ v, hp1 b' (p + lo * sz + j) = some (.cell v) := by
        intro j hj
        rw [hlen] at hj
        obtain ⟨d1, d2, d3⟩ := div_mod_split hj
        have hrl := hl (lo + j / sz) (by omega)
        have := hh (lo + j / sz) (by omega) (j % sz) ((rows (lo + j / sz))[j % sz]'(by rw [hrl]; exact d2)) (List.getElem?_eq_getElem _)
        refine ⟨(rows (lo + j / sz))[j % sz]'(by rw [hrl]; exact d2), ?_⟩
        rw [← this]
        congr 1
        rw [Nat.add_mul]; omega
      obtain ⟨w', r1, r2⟩ := run_storeCells (P := P) (b := b') (p := p + lo * sz) ((List.range cnt).flatMap f) 0 iv (fun j hj => by
        obtain ⟨v, hv⟩ := own j hj
        exact ⟨v, by rw [Nat.zero_add]; exact uni_left hv⟩) (fun y hy => by
        obtain ⟨i, hi, hy⟩ := List.mem_flatMap.1 hy
        exact (hf i (List.mem_range.1 hi)).ones y hy)
      refine ⟨w', r1, back w' _ _ (Dj.sets dj (fun j hj => by obtain ⟨v, hv⟩ := own j hj; exact ⟨_, hv⟩)) ?_ (by rw [Nat.add_zero, setsHp_uni] at r2; exact r2)⟩
      refine .vec hcn (fun i => if i < lo then rows i else if i < lo + cnt then f (i - lo) else rows i) (fun i hi => ?_) (fun i hi => ?_) (setsHp_rows hl hfl hh (by omega))
      · simp only [wrt]
        by_cases c1 : i < lo
        · rw [if_neg (by omega), if_pos c1]; exact hr i hi
        · by_cases c2 : i < lo + cnt
          · rw [if_pos (by omega), if_neg c1, if_pos c2]; exact hf _ (by omega)
          · rw [if_neg (by omega), if_neg c1, if_neg c2]; exact hr i hi
      · try dsimp only
        split
        · exact hl i hi
        · split
          · exact hfl _ (by omega)
          · exact hl i hi
theorem run_copy' {t u e ty : TypeId} {sz n c m : Nat} {b p : Nat} {x : Value} {fx : Nat → List Value} {w' : World} (hu : P.underlying t = some (.slice e)) (hsz : tSize P e = some sz)
    (hx : Reads P w sz m fx x) (hs : (storeCells ⟨b, p, none⟩ ((List.range (min m n)).flatMap fx)).run P w = .ok () w') :
    (Builtin.copy_ #[t, u] ty #[.slice (some ⟨b, p, none⟩) n c, x]).run P w = .ok (.int .i64 (min m n : Nat)) w' := by
  simp [Builtin.copy_, run_underlying hu, hx.len, run_sizeOf hsz, hx.cells (min m n) (Nat.min_le_left _ _), hs, goInt]
theorem run_copy0 {t u e ty : TypeId} {sz c m : Nat} {x : Value} {fx : Nat → List Value} (hu : P.underlying t = some (.slice e)) (hsz : tSize P e = some sz)
    (hx : Reads P w sz m fx x) : (Builtin.copy_ #[t, u] ty #[.slice none 0 c, x]).run P w = .ok (.int .i64 0) w := by
  simp [Builtin.copy_, run_underlying hu, hx.len, run_sizeOf hsz, hx.cells 0 (Nat.zero_le _), goInt]
theorem copy_sound {t u e ty : TypeId} {sz : Nat} {x y : SV} {a v : Value} (hu : P.underlying t = some (.slice e)) (hsz : tSize P e = some sz)
    (hx : Rel β im x a) (hy : Rel β im y v) (hs : (evCopy sz x y H).sem K) (st : HSt O W0 B β im H hR w) : Yd O W0 B β im hR K ((Builtin.copy_ #[t, u] ty #[a, v]).run P w) := by
  unfold evCopy at hs
  split at hs
  · exact hs.elim
  · rename_i m gy hrow
    cases hx <;> try exact hs.elim
    case nils =>
      obtain ⟨hb, hs⟩ := hs
      obtain ⟨fx, hrx, hxd⟩ := rows_read (P := P) hy hrow hb st
      exact ⟨_, w, _, _, β, im, run_copy0 hu hsz (hxd w rfl), hs, BLe.refl β, ILe.refl im, by simpa using Rel.int, st⟩
    case key k hβ h1 =>
      try dsimp only at hs
      split at hs
      · rename_i s n g hkk
        split at hs
        · rename_i hss; subst hss
          obtain ⟨hb, hs⟩ := hs
          obtain ⟨fx, hrx, hxd⟩ := rows_read (P := P) hy hrow hb st
          obtain ⟨v0, g1, g2, e1, _, iv, sa, _⟩ := st.take hkk
          rw [hβ] at e1; injection e1 with e1; subst e1
          cases sa with
          | @vec _ _ _ _ b p c _ hc rows hr hl hh =>
            obtain ⟨w', r1, r2⟩ := write_rows (P := P) (lo := 0) (cnt := min m n) (b' := b) (q := p) hkk hβ (by omega) (.inr ⟨rfl, by simp⟩) (fun i hi => hrx i (by omega)) (fun i hi => (hxd w rfl).sz i (by omega)) st
            exact ⟨_, w', _, _, β, im, run_copy' hu hsz (hxd w rfl) r1, hs, BLe.refl β, ILe.refl im, .int, r2⟩
          | vec0 =>
            obtain ⟨v', hp1, hp2, e1', dj, iv', sa', back⟩ := st.take hkk
            rw [hβ] at e1'; injection e1' with e1'; subst e1'
            exact ⟨_, w, _, _, β, im, run_copy0 hu hsz (hxd w rfl), hs, BLe.refl β, ILe.refl im, by simpa using Rel.int, back w _ hp1 dj (.vec0) iv'⟩
        · exact hs.elim
      · exact hs.elim
    case sub k s lo hi b p n c b' q hβ q1 q2 ha =>
      try dsimp only at hs
      split at hs
      · rename_i s' n' g hkk
        split at hs
        · rename_i hss; obtain ⟨rfl, rfl⟩ := hss
          obtain ⟨⟨hb, hn⟩, hs⟩ := hs
          obtain ⟨fx, hrx, hxd⟩ := rows_read (P := P) hy hrow hb st
          obtain ⟨v0, g1, g2, e1, _, iv, sa, _⟩ := st.take hkk
          rw [hβ] at e1; injection e1 with e1; subst e1
          cases sa with
          | vec hc rows hr hl hh =>
            obtain ⟨w', r1, r2⟩ := write_rows (P := P) (lo := lo) (cnt := min m (hi - lo)) (b' := b') (q := q) hkk hβ (by omega) (ha.imp (fun h => by omega) id) (fun i hi' => hrx i (by omega)) (fun i hi' => (hxd w rfl).sz i (by omega)) st
            exact ⟨_, w', _, _, β, im, run_copy' hu hsz (hxd w rfl) r1, hs, BLe.refl β, ILe.refl im, .int, r2⟩
        · exact hs.elim
      · exact hs.elim
    case sub0 k s hβ =>
      try dsimp only at hs
      split at hs
      · rename_i s' n' g hkk
        split at hs
        · rename_i hss; obtain ⟨rfl, rfl⟩ := hss
          obtain ⟨⟨hb, hn⟩, hs⟩ := hs
          obtain ⟨fx, hrx, hxd⟩ := rows_read (P := P) hy hrow hb st
          obtain ⟨v', hp1, hp2, e1', dj, iv', sa', back⟩ := st.take hkk
          rw [hβ] at e1'; injection e1' with e1'; subst e1'
          cases sa' with
          | vec0 => exact ⟨_, w, _, _, β, im, run_copy0 hu hsz (hxd w rfl), hs, BLe.refl β, ILe.refl im, by simpa using Rel.int, back w _ hp1 dj (.vec0) iv'⟩
        · exact hs.elim
      · exact hs.elim
theorem run_clear' {t e ty : TypeId} {sz n c : Nat} {a : Addr} {z : Value} {w' : World} (hu : P.underlying t = some (.slice e)) (hz : ∀ w, (zeroValue e).run P w = .ok z w) (hzs : z.cells.toList.length = sz) (h0 : 0 < sz)
    (hs : (storeCells a ((List.range n).flatMap fun _ => z.cells.toList)).run P w = .ok () w') : (Builtin.clear_ #[t] ty #[.slice (some a) n c]).run P w = .ok (.tuple #[]) w' := by
  have hvs : z.cells.size = sz := by simpa using hzs
  have zr := zero_rows z.cells n (by omega)
  by_cases hn : n = 0
  · subst hn
    simp [storeCells] at hs; subst hs
    simp [Builtin.clear_, run_underlying hu]
  · have : (Builtin.zeroCells z.cells n).toList = (List.range n).flatMap fun _ => z.cells.toList := zr
    simp [Builtin.clear_, run_underlying hu, hn, hz, this, hs]
theorem run_clear0 {t e ty : TypeId} {n c : Nat} (hu : P.underlying t = some (.slice e)) : (Builtin.clear_ #[t] ty #[.slice none n c]).run P w = .ok (.tuple #[]) w := by
  simp [Builtin.clear_, run_underlying hu]
theorem clear_sound {t e ty : TypeId} {sz : Nat} {x : SV} {a : Value} {z : List ZV} (hu : P.underlying t = some (.slice e)) (hsz : tSize P e = some sz) (hz : zOf P e = some z) (h0 : 0 < sz)
    (hx : Rel β im x a) (hs : (evClear sz z x H).sem K) (st : HSt O W0 B β im H hR w) : Yd O W0 B β im hR K ((Builtin.clear_ #[t] ty #[a]).run P w) := by
  obtain ⟨zv, zn, hz1, hz2, hz3, hz4⟩ := zOf_spec hz
  have hzn : zn = sz := by rw [hsz] at hz3; injection hz3 with q; exact q.symm
  subst hzn
  unfold evClear at hs
  cases hx <;> try exact hs.elim
  case nils => exact .same (run_clear0 hu) hs (.tup .nil) st
  case key k hβ h1 =>
    try dsimp only at hs
    split at hs
    · rename_i s n g hkk
      split at hs
      · rename_i hss; subst hss
        obtain ⟨v0, g1, g2, e1, _, iv, sa, _⟩ := st.take hkk
        rw [hβ] at e1; injection e1 with e1; subst e1
        cases sa with
        | @vec _ _ _ _ b p c _ hc rows hr hl hh =>
          obtain ⟨w', r1, r2⟩ := write_rows (P := P) (lo := 0) (cnt := n) (b' := b) (q := p) (g' := fun _ => zsv z) (f := fun _ => zv.cells.toList) hkk hβ (by omega) (.inr ⟨rfl, by simp⟩) (fun i hi => hz2 β im) (fun i hi => hz4) st
          refine ⟨_, w', _, _, β, im, run_clear' hu hz1 hz4 h0 r1, hs, BLe.refl β, ILe.refl im, .tup .nil, ?_⟩
          obtain ⟨v', hp1, hp2, e1', dj, iv', sa', back⟩ := r2.take (k := k) (A := .vec s n (wrt 0 n g fun _ => zsv z)) (by
            rw [List.getElem?_set_self]
            have := (List.getElem?_eq_some_iff.1 hkk).1; exact this)
          rw [hβ] at e1'; injection e1' with e1'; subst e1'
          have hset : ∀ A' : Atom X, (H.set k (.vec s n (wrt 0 n g fun _ => zsv z))).set k A' = H.set k A' := fun A' => by simp
          rw [← hset]
          cases sa' with
          | vec hc' rows' hr' hl' hh' => exact back w' _ hp1 dj (.vec hc' rows' (fun i hi => by have := hr' i hi; simp only [wrt] at this; rw [if_pos (by omega)] at this; exact this) hl' hh') iv'
        | vec0 =>
          obtain ⟨v', hp1, hp2, e1', dj, iv', sa', back⟩ := st.take hkk
          rw [hβ] at e1'; injection e1' with e1'; subst e1'
          exact ⟨_, w, _, _, β, im, run_clear0 hu, hs, BLe.refl β, ILe.refl im, .tup .nil, back w _ hp1 dj .vec0 iv'⟩
      · exact hs.elim
    · exact hs.elim
  case sub k s lo hi b p n c b' q hβ q1 q2 ha =>
    try dsimp only at hs
    split at hs
    · rename_i s' n' g hkk
      split at hs
      · rename_i hss; obtain ⟨rfl, rfl⟩ := hss
        obtain ⟨hn, hs⟩ := hs
        obtain ⟨v0, g1, g2, e1, _, iv, sa, _⟩ := st.take hkk
        rw [hβ] at e1; injection e1 with e1; subst e1
        cases sa with
        | vec hc rows hr hl hh =>
          obtain ⟨w', r1, r2⟩ := write_rows (P := P) (lo := lo) (cnt := hi - lo) (b' := b') (q := q) (g' := fun _ => zsv z) (f := fun _ => zv.cells.toList) hkk hβ (by omega) (ha.imp (fun h => by omega) id) (fun i hi' => hz2 β im) (fun i hi' => hz4) st
          exact ⟨_, w', _, _, β, im, run_clear' hu hz1 hz4 h0 r1, hs, BLe.refl β, ILe.refl im, .tup .nil, r2⟩
      · exact hs.elim
    · exact hs.elim
  case sub0 k s hβ =>
    try dsimp only at hs
    split at hs
    · rename_i s' n' g hkk
      split at hs
      · rename_i hss; obtain ⟨rfl, rfl⟩ := hss
        obtain ⟨hn, hs⟩ := hs
        obtain ⟨v', hp1, hp2, e1', dj, iv', sa', back⟩ := st.take hkk
        rw [hβ] at e1'; injection e1' with e1'; subst e1'
        cases sa' with
        | vec0 => exact ⟨_, w, _, _, β, im, run_clear0 hu, hs, BLe.refl β, ILe.refl im, .tup .nil, back w _ hp1 dj .vec0 iv'⟩
      · exact hs.elim
    · exact hs.elim
/-- The mark behind a row's last cell. -/
theorem Inv.freeze {h : Hp} (i : Inv W0 B im h w) {b o : Nat} {v : Value} (hv : h b o = some (.cell v)) {ty : TypeId} {n : Nat} (hs : w.shape? b = some (ty, n)) : Inv W0 B im h (w.freeze ⟨b, n, none⟩ 1) := by
  obtain ⟨hc, c, e, lo, hi, hb, hl⟩ := i.cell b o v hv
  have hn : n = c.size := by simp [World.shape?, hb] at hs; exact hs.2.symm
  subst hn
  have hheap : ∀ b', (w.freeze ⟨b, c.size, none⟩ 1).heap[b']? = if b' = b then some (.cells c e (if lo == hi then (c.size, c.size + 1) else (min lo c.size, max hi (c.size + 1)))) else w.heap[b']? := by
    intro b'
    simp only [World.freeze, Nat.one_ne_zero, if_false, Array.getElem?_modify]
    by_cases hbb : b' = b
    · subst hbb; simp [hb]
    · rw [if_neg (fun q => hbb q.symm), if_neg hbb]
  have hcell : ∀ b' o', (w.freeze ⟨b, c.size, none⟩ 1).cell? ⟨b', o', none⟩ = w.cell? ⟨b', o', none⟩ := by
    intro b' o'
    simp only [World.cell?, hheap]
    by_cases hbb : b' = b
    · subst hbb; simp [hb]
    · rw [if_neg hbb]
  refine ⟨i.below.trans ⟨by simp [World.freeze], by simp [World.freeze], by simp [World.freeze], by simp [World.freeze], fun k hk => ?_⟩, i.hB, ?_, ?_, i.own, fun b' o' v' e' => by rw [hcell]; exact i.imm _ _ _ e', i.dj⟩
  · rw [hheap, if_neg]; have := i.own b o _ hv; omega
  · intro b' o' v' hv'
    obtain ⟨h1, c', e', lo', hi', h2, h3⟩ := i.cell b' o' v' hv'
    refine ⟨by rw [hcell]; exact h1, ?_⟩
    by_cases hbb : b' = b
    · subst hbb
      by_cases hll : lo = hi
      · exact ⟨c, e, c.size, c.size + 1, by rw [hheap, if_pos rfl]; simp [hll], .inr (Nat.le_refl _)⟩
      · exact ⟨c, e, min lo c.size, max hi (c.size + 1), by rw [hheap, if_pos rfl]; simp [hll], .inr (by rcases hl with q | q <;> omega)⟩
    · exact ⟨c', e', lo', hi', by rw [hheap, if_neg hbb]; exact h2, h3⟩
  · intro b' o' x hx
    obtain ⟨h1, h2, h3⟩ := i.obj b' o' x hx
    refine ⟨h1, ?_, h3⟩
    rw [hheap]
    by_cases hbb : b' = b
    · subst hbb; rw [hb] at h2; injection h2 with h2; exact absurd h2.symm (h3 _ _ _)
    · rw [if_neg hbb]; exact h2
theorem slsl_sound {s d e : TypeId} {u : TypeId} {x : SV} {a : Value} (h1 : P.underlying s = some (.slice u)) (h2 : P.underlying d = some (.slice e)) (h3 : P.underlying e = some (.int .u8)) (hsd : (s == d) = true)
    (hx : Rel β im x a) (hs : (evSlsl x H).sem K) (st : HSt O W0 B β im H hR w) : Yd O W0 B β im hR K ((convert s d a).run P w) := by
  unfold evSlsl at hs
  cases hx <;> try exact hs.elim
  case key k hβ ho =>
    try dsimp only at hs
    split at hs
    · rename_i sz n g hkk
      obtain ⟨⟨hp0, hn⟩, hs⟩ := hs
      obtain ⟨v', hp1, hp2, e1', dj, iv', sa', back⟩ := st.take hkk
      rw [hβ] at e1'; injection e1' with e1'; subst e1'
      cases sa' with
      | @vec _ _ _ _ b p c _ hc rows hr hl hh =>
        have hl0 := hl 0 (by omega)
        have hc0 := hh 0 (by omega) 0 ((rows 0)[0]'(by omega)) (List.getElem?_eq_getElem _)
        have hcell := iv'.cell _ _ _ (uni_left (h2 := hp2) hc0)
        obtain ⟨_, cs, ce, lo, hi, hb, _⟩ := hcell
        have hsh : w.shape? b = some (ce, cs.size) := by simp [World.shape?, hb]
        refine ⟨_, w.freeze ⟨b, cs.size, none⟩ 1, _, _, β, im, ?_, hs, BLe.refl β, ILe.refl im, .key hβ ho, ?_⟩
        · simp [convert, run_underlying h1, run_underlying h2, run_underlying h3, hsd, markStringish, hsh]
        · have := back _ _ hp1 dj (.vec hc rows hr hl hh) (iv'.freeze (uni_left (h2 := hp2) hc0) hsh)
          have e5 : H.set k (.vec sz n g) = H := by
            obtain ⟨hlt, hge⟩ := List.getElem?_eq_some_iff.1 hkk
            rw [← hge]; exact List.set_getElem_self hlt
          rwa [e5] at this
      | vec0 => omega
    · exact hs.elim
end
end Go.Sy

/-! One operation. -/
namespace Go.Sy
open Go.RowKit
/-- No fence; r: the round that the code runs in. -/
def FF (r : Option Nat) : Fence := { fn := fun _ => True, depth := none, alive := false, round := r }
section
variable {X : Type} {O : X → SH X} {W0 : World} {B : Nat} {P : Program} {β : List Value} {im : Im} {H : SH X} {hR : Hp} {w : World} {K : SV → SH X → Prop}
/-- What Γ says of calls is so. -/
def GSound (O : X → SH X) (W0 : World) (B : Nat) (P : Program) (Γ : Gam X) : Prop :=
  ∀ (f : FuncId) (args : List SV) (H : SH X) (K : SV → SH X → Prop) (β : List Value) (im : Im) (hR : Hp) (w : World) (vs : List Value), (Γ f args H).sem K → RelL β im args vs → HSt O W0 B β im H hR w →
    ∀ (r : Option Nat) (n : Nat) (o : Oper) (a : Act) (next : Act → World → Prop) (Q : Exit → Act → World → Prop), (∀ v w', Yd O W0 B β im hR K (.ok v w') → next (a.put o.dst v) w') →
      o.uponIn (FF r) n P a next Q ((callFunc f vs.toArray).run P w)
variable {r : Option Nat} {n : Nat} {o : Oper} {a : Act} {next : Act → World → Prop} {Q : Exit → Act → World → Prop} {Γ : Gam X} {ρ : Fr}
theorem up {s : Sem Value} (h : Yd O W0 B β im hR K (s.run P w)) (hn : ∀ v w', Yd O W0 B β im hR K (.ok v w') → next (a.put o.dst v) w') :
    o.uponIn (FF r) n P a next Q ((do pure (.value (← s)) : Sem Next).run P w) := by
  obtain ⟨v, w', sv, H', β', im', e, h1, h2⟩ := h
  simp only [Sem.run_bind, e, Result.andThen_ok, Sem.run_pure, Oper.uponIn_value]
  exact hn v w' ⟨v, w', sv, H', β', im', rfl, h1, h2⟩
theorem upU {s : Sem Unit} (h : YdU O W0 B β im hR K (s.run P w)) (hn : ∀ v w', Yd O W0 B β im hR K (.ok v w') → next (a.put o.dst v) w') :
    o.uponIn (FF r) n P a next Q ((do s; pure .skip : Sem Next).run P w) := by
  obtain ⟨w', H', β', im', e, h1, h2, h3, h4⟩ := h
  simp only [Sem.run_bind, e, Result.andThen_ok, Sem.run_pure, Oper.uponIn_skip]
  exact hn _ w' ⟨_, w', _, H', β', im', rfl, h1, h2, h3, .und, h4⟩
theorem upV {v : Value} {sv : SV} (h : K sv H) (hr : Rel β im sv v) (st : HSt O W0 B β im H hR w) (hn : ∀ v w', Yd O W0 B β im hR K (.ok v w') → next (a.put o.dst v) w') :
    o.uponIn (FF r) n P a next Q ((pure (.value v) : Sem Next).run P w) := by
  simp only [Sem.run_pure, Oper.uponIn_value]
  exact hn v w (.same rfl h hr st)
theorem opd (hfr : FrRel β im ρ a.tmps) {x : Operand} {y : Opd} (h : cOpd x = some y) : Rel β im (y.ev ρ) (a.eval x) := evs_parts hfr h
theorem bind_some {α γ : Type} {x : Option α} {f : α → Option γ} {y : γ} (h : x.bind f = some y) : ∃ z, x = some z ∧ f z = some y := by
  cases x with
  | none => cases h
  | some z => exact ⟨z, rfl, h⟩
theorem opds (hfr : FrRel β im ρ a.tmps) {xs : Array Operand} {ys : List Opd} (h : xs.toList.mapM cOpd = some ys) : RelL β im (evs ρ ys) (xs.map a.eval).toList := by
  obtain ⟨h1, h2⟩ := mapM_get h
  refine RelL.map (a := a) ys _ (fun i y e => ?_) (by simpa using h1)
  obtain ⟨x, e1, e2⟩ := h2 i y e
  refine ⟨a.eval x, ?_, opd hfr e2⟩
  simp at e1
  simp [e1]
theorem run_call_func {c : Call} {x : Operand} {f : FuncId} {caps : Array Value} {t : TypeId} {ρ : Operand → Value} (h : c.callee = .value x) (hx : ρ x = .func (.func f) #[] caps) :
    (do let d ← resolve ρ c t; invoke d.target d.args : Sem Next).run P w = (callFunc f (c.args.map ρ ++ caps)).run P w := by
  simp [resolve, h, hx, Deferred.ofValue, invoke]
end
end Go.Sy

/-! One operation: all of them. -/
namespace Go.Sy
open Go.RowKit
section
variable {X : Type} {O : X → SH X} {W0 : World} {B : Nat} {P : Program} {β : List Value} {im : Im} {H : SH X} {hR : Hp} {w : World} {K : SV → SH X → Prop}
variable {r : Option Nat} {n : Nat} {o : Oper} {a : Act} {next : Act → World → Prop} {Q : Exit → Act → World → Prop} {Γ : Gam X} {ρ : Fr}
theorem stp_vld {v : SV} (h : vld v = true) : stp v = v := by cases v <;> simp [vld, stp] at h ⊢
theorem pick2_t {a b : SV} (h : (evPick2 true a b H).sem K) : K a H := by
  unfold evPick2 at h
  split at h
  · exact h
  · split at h
    · exact h
    · exact h.elim
  · exact h
theorem pick2_f {a b : SV} (h : (evPick2 false a b H).sem K) : K b H := by
  unfold evPick2 at h
  split at h
  · exact h
  · split at h
    · rename_i e; subst e; exact h
    · exact h.elim
  · exact h
theorem orel (hfr : FrRel β im ρ a.tmps) {x : Option Operand} {y : Option Opd} (h : cOO x = some y) : ORel β im ρ y (x.map a.eval) := by
  cases x with
  | none => simp [cOO] at h; subst h; trivial
  | some x =>
    simp only [cOO] at h
    cases hx : cOpd x with
    | none => rw [hx] at h; cases h
    | some z => rw [hx] at h; simp at h; subst h; exact opd hfr hx
theorem call_sound {c : Call} {i : MI} (hc : cCall P c = some i) (ho : o.op = .call c) (hfr : FrRel β im ρ a.tmps) (hs : (evI Γ ρ H i).sem K) (st : HSt O W0 B β im H hR w) (hΓ : GSound O W0 B P Γ)
    (hn : ∀ v w', Yd O W0 B β im hR K (.ok v w') → next (a.put o.dst v) w') : o.uponIn (FF r) n P a next Q ((execOp a.eval o).run P w) := by
  unfold cCall at hc
  obtain ⟨args, hargs, hc⟩ := bind_some hc
  have hA := opds hfr hargs
  split at hc
  · rename_i f hcal
    injection hc with hc; subst hc
    simp only [evI] at hs
    have := hΓ _ _ _ _ _ _ _ _ _ hs hA st r n o a next Q hn
    simp only [execOp, ho]
    rw [run_call_func (caps := #[]) hcal rfl]
    have e : (c.args.map a.eval).toList.toArray = c.args.map a.eval ++ #[] := by simp only [Array.toArray_toList, Array.append_empty]
    rw [e] at this; exact this
  · rename_i t hcal
    injection hc with hc; subst hc
    simp only [evI, evCallv, Opd.ev] at hs
    have ht := hfr t
    split at hs
    · rename_i f caps hf
      rw [hf] at ht
      generalize hv : a.tmps.getD t undef = tv at ht
      cases ht with
      | @fn _ _ vs hcaps =>
        have hAll : RelL β im (evs ρ args ++ caps) ((c.args.map a.eval).toList ++ vs) := by
          clear hs hargs
          generalize evs ρ args = l at hA
          generalize (c.args.map a.eval).toList = ys at hA
          induction l generalizing ys with
          | nil => cases hA; exact hcaps
          | cons x l ih => cases hA with | cons h t => exact .cons h (ih _ t)
        have := hΓ _ _ _ _ _ _ _ _ _ hs hAll st r n o a next Q hn
        simp only [execOp, ho]
        rw [run_call_func (f := f) (caps := vs.toArray) hcal (by simp [Act.eval, hv])]
        have e : ((c.args.map a.eval).toList ++ vs).toArray = c.args.map a.eval ++ vs.toArray := by rw [← Array.toList_inj]; simp only [Array.toList_append]
        rw [e] at this; exact this
    · exact hs.elim
  · cases hc
  · cases hc
  · rename_i b hcal
    have hb : ∀ {s : Sem Value}, (builtin b c.argTypes o.type (c.args.map fun | .const _ => true | _ => false) (c.args.map a.eval)) = (do pure (.value (← s)) : Sem Next) → Yd O W0 B β im hR K (s.run P w) →
        o.uponIn (FF r) n P a next Q ((execOp a.eval o).run P w) := by
      intro s e hy
      simp only [execOp, ho]
      have : (do let d ← resolve a.eval c o.type; invoke d.target d.args : Sem Next).run P w = (do pure (.value (← s)) : Sem Next).run P w := by
        rw [← e]; simp only [resolve, hcal, Sem.run_bind, Sem.run_pure, Result.andThen_ok, invoke]; rfl
      rw [this]; exact up hy hn
    have one : ∀ {x : Opd}, args = [x] → ∃ v, c.args.map a.eval = #[v] ∧ Rel β im (x.ev ρ) v := by
      intro x e
      subst e
      simp only [evs, List.map_cons, List.map_nil] at hA
      generalize hl : (c.args.map a.eval).toList = l at hA
      cases hA with
      | cons h t => cases t with | nil => exact ⟨_, Array.toList_inj.1 hl, h⟩
    have two : ∀ {x y : Opd}, args = [x, y] → ∃ u v, c.args.map a.eval = #[u, v] ∧ Rel β im (x.ev ρ) u ∧ Rel β im (y.ev ρ) v := by
      intro x y e
      subst e
      simp only [evs, List.map_cons, List.map_nil] at hA
      generalize hl : (c.args.map a.eval).toList = l at hA
      cases hA with
      | cons h t => cases t with | cons h' t => cases t with | nil => exact ⟨_, _, Array.toList_inj.1 hl, h, h'⟩
    split at hc
    · -- len
      rename_i x t hty
      obtain ⟨v, hv, hr⟩ := one rfl
      have ht : c.argTypes[0]? = some t := by have : c.argTypes.toList[0]? = some t := by rw [hty]; rfl
                                              simpa using this
      split at hc
      · rename_i e hu
        injection hc with hc; subst hc
        simp only [evI] at hs
        refine hb (s := Builtin.len_ c.argTypes o.type #[v]) (by rw [hv]; rfl) (len_sound ht (.inr ⟨rfl, e, hu⟩) hr hs st)
      · rename_i hu
        injection hc with hc; subst hc
        simp only [evI] at hs
        refine hb (s := Builtin.len_ c.argTypes o.type #[v]) (by rw [hv]; rfl) (len_sound ht (.inl ⟨rfl, hu⟩) hr hs st)
      · cases hc
    · -- cap
      rename_i x t hty
      obtain ⟨v, hv, hr⟩ := one rfl
      have ht : c.argTypes[0]? = some t := by have : c.argTypes.toList[0]? = some t := by rw [hty]; rfl
                                              simpa using this
      split at hc
      · rename_i e hu
        injection hc with hc; subst hc
        simp only [evI] at hs
        exact hb (s := Builtin.cap_ c.argTypes o.type #[v]) (by rw [hv]; rfl) (cap_sound ht hu hr hs st)
      · cases hc
    · -- append
      rename_i x y t u hty
      obtain ⟨v, v', hv, hr, hr'⟩ := two rfl
      have hty' : c.argTypes = #[t, u] := Array.toList_inj.1 hty
      have main : ∀ {e : TypeId} {du : TypeDesc}, P.underlying t = some (.slice e) → P.underlying u = some du → ((∃ e', du = .slice e') ∨ du = .string) →
          (do let n ← tSize P e; let b ← tBytes P e; let z ← zOf P e; if 0 < b ∧ 0 < z.length ∧ 0 < n then some (MI.app n b x y) else none : Option MI) = some i →
          o.uponIn (FF r) n P a next Q ((execOp a.eval o).run P w) := by
        intro e du hu hd hk hc
        obtain ⟨sz, hsz, hc⟩ := bind_some hc
        obtain ⟨by', hby, hc⟩ := bind_some hc
        obtain ⟨z, hz, hc⟩ := bind_some hc
        split at hc
        · rename_i hcond
          injection hc with hc; subst hc
          simp only [evI] at hs
          exact hb (s := Builtin.append_ #[t, u] o.type #[v, v']) (by rw [hv, hty']; rfl) (app_sound hu hd hk hsz hby hcond.1 hz hcond.2.2 hr hr' hs st)
        · cases hc
      split at hc
      · rename_i e e' hu hd
        exact main hu hd (.inl ⟨e', rfl⟩) hc
      · rename_i e hu hd
        exact main hu hd (.inr rfl) hc
      · cases hc
    · -- copy
      rename_i x y t ts hty
      obtain ⟨v, v', hv, hr, hr'⟩ := two rfl
      split at hc
      · rename_i e hu
        obtain ⟨sz, hsz, hc⟩ := bind_some hc
        injection hc with hc; subst hc
        simp only [evI] at hs
        have ht : c.argTypes[0]? = some t := by have : c.argTypes.toList[0]? = some t := by rw [hty]; rfl
                                                simpa using this
        refine hb (s := Builtin.copy_ c.argTypes o.type #[v, v']) (by rw [hv]; rfl) ?_
        have := copy_sound (t := t) (u := t) (ty := o.type) hu hsz hr hr' hs st
        have e1 : Builtin.copy_ c.argTypes o.type #[v, v'] = Builtin.copy_ #[t, t] o.type #[v, v'] := by simp [Builtin.copy_, ht]
        rw [e1]; exact this
      · cases hc
    · -- clear
      rename_i x t hty
      obtain ⟨v, hv, hr⟩ := one rfl
      have hty' : c.argTypes = #[t] := Array.toList_inj.1 hty
      split at hc
      · rename_i e hu
        obtain ⟨sz, hsz, hc⟩ := bind_some hc
        obtain ⟨z, hz, hc⟩ := bind_some hc
        split at hc
        · rename_i h0
          injection hc with hc; subst hc
          simp only [evI] at hs
          exact hb (s := Builtin.clear_ #[t] o.type #[v]) (by rw [hv, hty']; rfl) (clear_sound hu hsz hz h0 hr hs st)
        · cases hc
      · cases hc
    · rename_i x y _
      obtain ⟨v, v', hv, hr, hr'⟩ := two rfl
      injection hc with hc; subst hc
      simp only [evI] at hs
      exact hb (s := Builtin.min_ c.argTypes o.type #[v, v']) (by rw [hv]; rfl) (mm_sound (mx := false) (t := c.argTypes) (u := o.type) hr hr' hs st)
    · rename_i x y _
      obtain ⟨v, v', hv, hr, hr'⟩ := two rfl
      injection hc with hc; subst hc
      simp only [evI] at hs
      exact hb (s := Builtin.max_ c.argTypes o.type #[v, v']) (by rw [hv]; rfl) (mm_sound (mx := true) (t := c.argTypes) (u := o.type) hr hr' hs st)
    · cases hc
theorem cEq_eq {neg : Bool} {t : TypeId} {x y : Opd} {i : MI} (h : cEq P neg t x y = some i) : ∃ k, i = .eq neg k x y ∧ EqOk P t k := by
  unfold cEq at h
  split at h
  · rename_i k hu; injection h with h; exact ⟨.int, h.symm, k, hu⟩
  · rename_i hu; injection h with h; exact ⟨.str, h.symm, hu⟩
  · rename_i hu; injection h with h; exact ⟨.bool, h.symm, hu⟩
  · rename_i e hu; injection h with h; exact ⟨.ptr, h.symm, e, hu⟩
  · rename_i e hu; injection h with h; exact ⟨.slc, h.symm, e, hu⟩
  · cases hn : allInts P t with
    | none => rw [hn] at h; cases h
    | some n => rw [hn] at h; simp at h; exact ⟨.agg n, h.symm, hn⟩
theorem exec_sound {i : MI} (hc : cI P o.op = some i) (hfr : FrRel β im ρ a.tmps) (hs : (evI Γ ρ H i).sem K) (st : HSt O W0 B β im H hR w) (hΓ : GSound O W0 B P Γ)
    (hn : ∀ v w', Yd O W0 B β im hR K (.ok v w') → next (a.put o.dst v) w') : o.uponIn (FF r) n P a next Q ((execOp a.eval o).run P w) := by
  cases ho : o.op <;> simp only [cI, ho] at hc <;> try cases hc
  case call c => exact call_sound hc ho hfr hs st hΓ hn
  all_goals simp only [execOp, ho]
  case move x =>
    obtain ⟨y, hy, rfl⟩ := Option.map_eq_some_iff.1 hc
    exact upV hs (opd hfr hy) st hn
  case assign x =>
    obtain ⟨y, hy, rfl⟩ := Option.map_eq_some_iff.1 hc
    exact upV hs (opd hfr hy) st hn
  case pick c x y =>
    obtain ⟨c', hc', hc⟩ := bind_some hc
    obtain ⟨x', hx', hc⟩ := bind_some hc
    obtain ⟨y', hy', hc⟩ := bind_some hc
    injection hc with hc; subst hc
    simp only [evI] at hs
    have h1 := opd hfr hc'
    have h2 := opd hfr hx'
    have h3 := opd hfr hy'
    generalize hcv : a.eval c = v at h1
    cases hh : c'.ev ρ <;> rw [hh] at hs h1 <;> simp only [evPick] at hs <;> try exact hs.elim
    rename_i b
    cases h1
    simp only [Sem.run_bind, hcv, asBool, Sem.run_pure, Result.andThen_ok]
    obtain ⟨⟨g1, g2⟩, hs⟩ := hs
    cases b
    · have e := stp_vld (g2 rfl)
      rw [e] at hs
      exact upV (v := a.eval y) (pick2_f hs) h3 st hn
    · have e := stp_vld (g1 rfl)
      rw [e] at hs
      exact upV (v := a.eval x) (pick2_t hs) h2 st hn
  case alloc t =>
    obtain ⟨z, hz, hc⟩ := bind_some hc
    injection hc with hc; subst hc
    exact up (alc_sound hz hs st) hn
  case box t x =>
    obtain ⟨y, hy, hc⟩ := bind_some hc
    obtain ⟨m, hm, hc⟩ := bind_some hc
    injection hc with hc; subst hc
    exact up (box_sound (opd hfr hy) hs st) hn
  case build t ps =>
    obtain ⟨z, hz, hc⟩ := bind_some hc
    split at hc
    · rename_i fs hu
      split at hc
      · rename_i hall
        obtain ⟨l, hl, hc⟩ := bind_some hc
        injection hc with hc; subst hc
        exact up (bld_sound hz hfr (.inl ⟨fs, hu, hall, hl⟩) hs st) hn
      · cases hc
    · rename_i m e hu
      obtain ⟨sz, hsz, hc⟩ := bind_some hc
      obtain ⟨l, hl, hc⟩ := bind_some hc
      injection hc with hc; subst hc
      exact up (bld_sound hz hfr (.inr ⟨m, e, sz, hu, hsz, hl⟩) hs st) hn
    · cases hc
  case buildSlice t len ps =>
    split at hc
    · rename_i e hu
      obtain ⟨sz, hsz, hc⟩ := bind_some hc
      obtain ⟨z, hz, hc⟩ := bind_some hc
      obtain ⟨l, hl, hc⟩ := bind_some hc
      split at hc
      · rename_i hcond
        injection hc with hc; subst hc
        exact up (bsl_sound hu hsz hz hcond.1 hcond.2 hfr hl hs st) hn
      · cases hc
    · cases hc
  case load t x =>
    obtain ⟨y, hy, hc⟩ := bind_some hc
    obtain ⟨m, hm, hc⟩ := bind_some hc
    injection hc with hc; subst hc
    exact up (ld_sound (opd hfr hy) hs st hm) hn
  case store t x v =>
    obtain ⟨y, hy, hc⟩ := bind_some hc
    obtain ⟨u, hv, hc⟩ := bind_some hc
    obtain ⟨m, hm, hc⟩ := bind_some hc
    injection hc with hc; subst hc
    exact upU (st_sound (opd hfr hy) (opd hfr hv) hs st hm) hn
  case nilCheck x =>
    obtain ⟨y, hy, hc⟩ := bind_some hc
    injection hc with hc; subst hc
    simp only [evI] at hs
    obtain ⟨sv, h1, h2, h3⟩ := nilc_sound (opd hfr hy) hs st
    generalize a.eval x = v at h2 h3 ⊢
    cases v
    case pointer p =>
      cases p
      · exact h3.elim
      · exact upV h1 h2 st hn
    case func f l m =>
      cases f <;> first | exact upV h1 h2 st hn | exact h3.elim
    all_goals first | exact upV h1 h2 st hn | exact h3.elim
  case binOp op t x y fl =>
    obtain ⟨x', hx', hc⟩ := bind_some hc
    obtain ⟨y', hy', hc⟩ := bind_some hc
    have eqq : ∀ neg, cEq P neg t x' y' = some i → op = (if neg then .neq else .eql) → o.uponIn (FF r) n P a next Q ((do pure (.value (← (do eqGuard op t x y (a.eval x) (a.eval y); binOp op t (a.eval x) (a.eval y)))) : Sem Next).run P w) := by
      intro neg he hop
      obtain ⟨k, rfl, hk⟩ := cEq_eq he
      have := eq_sound (neg := neg) (ox := x) (oy := y) hk (opd hfr hx') (opd hfr hy') hs st
      subst hop
      exact up this hn
    have arith : op ≠ .eql → op ≠ .neq → i = .bin op x' y' → o.uponIn (FF r) n P a next Q ((do pure (.value (← (do eqGuard op t x y (a.eval x) (a.eval y); binOp op t (a.eval x) (a.eval y)))) : Sem Next).run P w) := by
      intro h1 h2 he
      subst he
      have := bin_sound (P := P) (t := t) (opd hfr hx') (opd hfr hy') hs st h1 h2
      refine up (K := K) ?_ hn
      have hg : eqGuard op t x y (a.eval x) (a.eval y) = pure () := by
        cases op <;> first | exact absurd rfl h1 | exact absurd rfl h2 | rfl
      rw [hg]; simpa using this
    cases op <;> simp only [cBin] at hc
    case eql => exact eqq false hc rfl
    case neq => exact eqq true hc rfl
    all_goals
      refine arith (by simp) (by simp) ?_
      split at hc
      · injection hc with hc; exact hc.symm
      · injection hc with hc; exact hc.symm
      · cases hc
  case unOp op t x =>
    obtain ⟨y, hy, hc⟩ := bind_some hc
    injection hc with hc; subst hc
    exact up (un_sound (opd hfr hy) hs st) hn
  case convert s d x =>
    obtain ⟨y, hy, hc⟩ := bind_some hc
    unfold cConv at hc
    split at hc
    · rename_i ks k h1 h2
      injection hc with hc; subst hc
      exact up (conv_sound h1 h2 (opd hfr hy) hs st) hn
    · rename_i h1 h2
      injection hc with hc; subst hc
      exact up (same_sound h1 h2 (opd hfr hy) hs st) hn
    · rename_i e h1 h2
      split at hc
      · rename_i h3
        injection hc with hc; subst hc
        exact up (b2s_sound h1 h2 h3 (opd hfr hy) hs st) hn
      · cases hc
    · rename_i u e h1 h2
      split at hc
      · rename_i hsd
        split at hc
        · rename_i h3
          injection hc with hc; subst hc
          exact up (slsl_sound h1 h2 h3 hsd (opd hfr hy) hs st) hn
        · cases hc
      · cases hc
    · cases hc
  case makeInterface t x =>
    split at hc
    · cases hc
    · rename_i d hne hu
      obtain ⟨y, hy, hc⟩ := bind_some hc
      injection hc with hc; subst hc
      refine up (.same ?_ hs (.ifc (opd hfr hy)) st) hn
      unfold Instr.makeInterface
      simp only [Sem.run_bind, run_underlying hu, Result.andThen_ok]
      cases d <;> first | exact absurd rfl (hne _) | simp
    · cases hc
  case makeFunc fn first caps =>
    cases fn <;> simp only at hc <;> try cases hc
    rename_i f
    split at hc
    · rename_i hfe
      obtain ⟨l, hl, hc⟩ := bind_some hc
      injection hc with hc; subst hc
      have h1 := opds hfr hl
      refine up (K := K) (.same (v := .func (.func f) #[] (caps.map a.eval).toList.toArray) ?_ hs (.fn h1) st) hn
      have : first = #[] := by simpa using hfe
      subst this
      simp [Instr.makeFunc]
      rw [← Array.toList_inj]; simp
    · cases hc
  case makeSlice t len cap =>
    split at hc
    · rename_i e hu
      obtain ⟨sz, hsz, hc⟩ := bind_some hc
      obtain ⟨by', hby, hc⟩ := bind_some hc
      obtain ⟨z, hz, hc⟩ := bind_some hc
      obtain ⟨l, hl, hc⟩ := bind_some hc
      obtain ⟨c, hcc, hc⟩ := bind_some hc
      split at hc
      · rename_i h0
        injection hc with hc; subst hc
        exact up (mks_sound hu hsz hby hz h0 (opd hfr hl) (opd hfr hcc) hs st) hn
      · cases hc
    · cases hc
  case slice t x lo hi mx =>
    split at hc
    · rename_i e hu
      split at hc
      · cases hc
      · rename_i hcond
        obtain ⟨y, hy, hc⟩ := bind_some hc
        obtain ⟨sz, hsz, hc⟩ := bind_some hc
        obtain ⟨lo', hlo, hc⟩ := bind_some hc
        obtain ⟨hi', hhi, hc⟩ := bind_some hc
        obtain ⟨mx', hmx, hc⟩ := bind_some hc
        injection hc with hc; subst hc
        exact up (slc_sound hu hsz (orel hfr hlo) (orel hfr hhi) (orel hfr hmx) (by cases hi <;> cases mx <;> simp_all [cOO] <;> (first | (cases hhi; simp) | (obtain ⟨_, _, rfl⟩ := hhi; simp) | skip)) (opd hfr hy) hs st) hn
    · rename_i hu
      split at hc
      · rename_i hm
        obtain ⟨y, hy, hc⟩ := bind_some hc
        obtain ⟨lo', hlo, hc⟩ := bind_some hc
        obtain ⟨hi', hhi, hc⟩ := bind_some hc
        injection hc with hc; subst hc
        have : mx = none := by simpa using hm
        subst this
        exact up (slS_sound hu (orel hfr hlo) (orel hfr hhi) (opd hfr hy) hs st) hn
      · cases hc
    · cases hc
  case fieldAddr s x ix =>
    split at hc
    · rename_i fs hu
      obtain ⟨f, hf, hc⟩ := bind_some hc
      obtain ⟨m, hm, hc⟩ := bind_some hc
      split at hc
      · cases hc
      · rename_i hne
        obtain ⟨y, hy, hc⟩ := bind_some hc
        injection hc with hc; subst hc
        exact up (fadr_sound hu hf hm hne (opd hfr hy) hs st) hn
    · cases hc
  case field s x ix =>
    split at hc
    · rename_i fs hu
      obtain ⟨f, hf, hc⟩ := bind_some hc
      obtain ⟨y, hy, hc⟩ := bind_some hc
      obtain ⟨m, hm, hc⟩ := bind_some hc
      injection hc with hc; subst hc
      exact up (fld_sound hu hf hm (opd hfr hy) hs st) hn
    · cases hc
  case indexAddr t x ix =>
    split at hc
    · rename_i e hu
      obtain ⟨y, hy, hc⟩ := bind_some hc
      obtain ⟨j, hj, hc⟩ := bind_some hc
      obtain ⟨sz, hsz, hc⟩ := bind_some hc
      injection hc with hc; subst hc
      exact up (iadr_sound hu hsz (opd hfr hy) (opd hfr hj) hs st) hn
    · rename_i len e hu
      obtain ⟨y, hy, hc⟩ := bind_some hc
      obtain ⟨j, hj, hc⟩ := bind_some hc
      obtain ⟨sz, hsz, hc⟩ := bind_some hc
      injection hc with hc; subst hc
      exact up (iadrA_sound hu hsz (opd hfr hy) (opd hfr hj) hs st) hn
    · cases hc
  case index t x ix =>
    split at hc
    · rename_i len e hu
      obtain ⟨y, hy, hc⟩ := bind_some hc
      obtain ⟨j, hj, hc⟩ := bind_some hc
      obtain ⟨sz, hsz, hc⟩ := bind_some hc
      obtain ⟨m, hm, hc⟩ := bind_some hc
      injection hc with hc; subst hc
      exact up (idxA_sound hu hsz hm (opd hfr hy) (opd hfr hj) hs st) hn
    · rename_i hu
      obtain ⟨y, hy, hc⟩ := bind_some hc
      obtain ⟨j, hj, hc⟩ := bind_some hc
      injection hc with hc; subst hc
      exact up (idxS_sound hu (opd hfr hy) (opd hfr hj) hs st) hn
    · cases hc
  case extract x ix =>
    obtain ⟨y, hy, hc⟩ := bind_some hc
    injection hc with hc; subst hc
    exact up (ext_sound (opd hfr hy) hs st) hn
  case panic x =>
    exact hs.elim
end
end Go.Sy

/-! Regions in the order that they are told in. -/
namespace Go.Sy
open Go.RowKit
section
variable {X : Type} {W0 : World} {B N : Nat} {P : Program} {E : Env X} {β0 : List Value} {im0 : Im} {hR : Hp} {r : Option Nat} {n : Nat}
/-- A frame and a world that fit (ρ, H). -/
def Ok (E : Env X) (W0 : World) (B N : Nat) (β0 : List Value) (im0 : Im) (hR : Hp) (ρ : Fr) (H : SH X) (a : Act) (w : World) : Prop :=
  ∃ β im, (∀ k, k < E.np → β[k]? = β0[k]?) ∧ ILe im0 im ∧ FrRel β im ρ a.tmps ∧ HSt E.O W0 B β im H hR w ∧ a.tmps.size = N ∧ a.defers = []
def MP (E : Env X) (W0 : World) (B N : Nat) (β0 : List Value) (im0 : Im) (hR : Hp) (Q : Post X) : Exit → Act → World → Prop
  | .normal, a, w => ∃ ρ H, Q .normal ρ H ∧ Ok E W0 B N β0 im0 hR ρ H a w
  | .exit id, a, w => ∃ ρ H, Q (.exit id) ρ H ∧ Ok E W0 B N β0 im0 hR ρ H a w
  | .ret, a, w => ∃ ρ H, Q .ret ρ H ∧ Ok E W0 B N β0 im0 hR ρ H a w
  | _, _, _ => False
theorem FrRel.put {β : List Value} {im : Im} {ρ : Fr} {tm : Array Value} (h : FrRel β im ρ tm) {d : Nat} {v : Value} {sv : SV} (hv : Rel β im sv v) (hd : d < tm.size) :
    FrRel β im ((d, sv) :: ρ) (tm.setIfInBounds d v) := by
  intro t
  by_cases ht : d = t
  · subst ht; rw [lk_hit]; simpa [Array.getD, hd] using hv
  · rw [lk_miss (by simpa using ht)]
    have := h t
    have e : (tm.setIfInBounds d v).getD t undef = tm.getD t undef := by
      simp only [Array.getD_eq_getD_getElem?, Array.getElem?_setIfInBounds_ne ht]
    rw [e]; exact this
theorem FrRel.learn {β : List Value} {im : Im} {ρ : Fr} {tm : Array Value} (h : FrRel β im ρ tm) {d : Nat} {sv : SV} (hv : lk ρ d = sv) : FrRel β im ((d, sv) :: ρ) tm := by
  intro t
  by_cases ht : d = t
  · subst ht; rw [lk_hit, ← hv]; exact h d
  · rw [lk_miss (by simpa using ht)]; exact h t
theorem FrRel.mono {β β' : List Value} {im im' : Im} {ρ : Fr} {tm : Array Value} (h : FrRel β im ρ tm) (hb : BLe id β β') (hi : ILe im im') : FrRel β' im' ρ tm := fun t => Rel.mono hb hi (h t)
theorem Ok.step {ρ : Fr} {a : Act} {K : SV → SH X → Prop} {β : List Value} {im : Im} (hnp : E.np ≤ β0.length) (h0 : ∀ k, k < E.np → β[k]? = β0[k]?) (hi : ILe im0 im) (hfr : FrRel β im ρ a.tmps) (hN : a.tmps.size = N) (hd : a.defers = [])
    {v : Value} {w' : World} (hy : Yd E.O W0 B β im hR K (.ok v w')) {d : Option Nat} (hdN : ∀ d', d = some d' → d' < N) : ∃ sv H', K sv H' ∧ Ok E W0 B N β0 im0 hR (setD ρ d sv) H' (a.put d v) w' := by
  obtain ⟨v', w'', sv, H', β', im', e, hK, hb, hi', hr, st⟩ := hy
  injection e with e1 e2; subst e1 e2
  refine ⟨sv, H', hK, β', im', fun k hk => ?_, ILe.trans hi hi', ?_, st, ?_, ?_⟩
  · have hlt : k < β0.length := by omega
    have := h0 k hk
    rw [List.getElem?_eq_getElem hlt] at this
    rw [List.getElem?_eq_getElem hlt]
    exact hb _ _ this
  · cases d with
    | none => exact hfr.mono hb hi'
    | some d => exact (hfr.mono hb hi').put hr (by rw [hN]; exact hdN d rfl)
  · cases d <;> simp [Act.put, hN]
  · cases d <;> simp [Act.put, hd]
theorem getD_some {tm : Array Value} {d : Nat} {v : Value} (h : tm.getD d undef = v) (hv : v ≠ undef) : tm[d]? = some v := by
  rw [Array.getD_eq_getD_getElem?] at h
  cases hx : tm[d]? with
  | none => rw [hx] at h; exact absurd h.symm hv
  | some x => rw [hx] at h; simp at h; rw [h]
/-- One guarded operation. -/
theorem guard_sound {β : List Value} {im : Im} {ρ : Fr} {a : Act} {ops : Array Oper} {o : Oper} {j d : Nat} {want : Bool} {yes no : Fr → Prop} (hg : o.guard = some (j, want)) (hj : (ops[j]?).bind (·.dst) = some d) (hfr : FrRel β im ρ a.tmps)
    (h : gK (lk ρ d) d want yes no ρ) :
    (Region.wanted o (yielded ops a.tmps) = true ∧ ∃ ρ', FrRel β im ρ' a.tmps ∧ yes ρ') ∨ (Region.wanted o (yielded ops a.tmps) = false ∧ ∃ ρ', FrRel β im ρ' a.tmps ∧ no ρ') := by
  have hr := hfr d
  cases hl : lk ρ d <;> rw [hl] at h hr <;> simp only [gK] at h <;> try exact h.elim
  case bool b =>
    have hv : a.tmps[d]? = some (.bool b) := by
      generalize hx : a.tmps.getD d undef = x at hr
      cases hr
      exact getD_some hx (by simp [undef])
    have hy : yielded ops a.tmps j = some b := by simp [yielded, hj, hv]
    by_cases hbw : b = want
    · left
      subst hbw
      exact ⟨by simp [Region.wanted, hg, hy], _, hfr.learn hl, h.1 rfl⟩
    · right
      have hbn : b = !want := by cases b <;> cases want <;> simp_all
      subst hbn
      exact ⟨by simp [Region.wanted, hg, hy], _, hfr.learn hl, h.2 rfl⟩
  case un v0 =>
    right
    refine ⟨?_, ρ, hfr, h⟩
    have hv : a.tmps.getD d undef = undef := by
      generalize hx : a.tmps.getD d undef = x at hr
      cases hr; rfl
    have hy : yielded ops a.tmps j = none := by
      simp only [yielded, hj, Option.bind_some]
      cases hx : a.tmps[d]? with
      | none => rfl
      | some x =>
        have : x = undef := by simpa [Array.getD_eq_getD_getElem?, hx] using hv
        subst this; rfl
    simp [Region.wanted, hg, hy]
  case und =>
    right
    refine ⟨?_, ρ, hfr, h⟩
    have hv : a.tmps.getD d undef = undef := by
      generalize hx : a.tmps.getD d undef = x at hr
      cases hr; rfl
    have hy : yielded ops a.tmps j = none := by
      simp only [yielded, hj, Option.bind_some]
      cases hx : a.tmps[d]? with
      | none => rfl
      | some x =>
        have : x = undef := by simpa [Array.getD_eq_getD_getElem?, hx] using hv
        subst this; rfl
    simp [Region.wanted, hg, hy]
theorem stpF_rel {β : List Value} {im : Im} {ρ : Fr} {tm : Array Value} (hfr : FrRel β im ρ tm) : ∀ {l : List Nat}, vOk true ρ l → FrRel β im (stpF ρ l ++ ρ) tm
  | [], _ => hfr
  | t :: l, h => fun k => by
    simp only [vOk] at h
    simp only [stpF, List.cons_append]
    by_cases e : t = k
    · subst e; rw [lk_hit, stp_vld (h.1 trivial)]; exact hfr t
    · rw [lk_miss (by simpa using e)]; exact stpF_rel hfr h.2 k
/-- A guard that only decides whether a look is taken. -/
theorem gN_sound {β : List Value} {im : Im} {ρ : Fr} {a : Act} {ops : Array Oper} {o : Oper} {j d : Nat} {want : Bool} {k : Bool → Prop} (hg : o.guard = some (j, want)) (hj : (ops[j]?).bind (·.dst) = some d) (hfr : FrRel β im ρ a.tmps)
    (h : gN (lk ρ d) want k) : ∃ c, Region.wanted o (yielded ops a.tmps) = c ∧ k c := by
  have hr := hfr d
  have hun : a.tmps.getD d undef = undef → Region.wanted o (yielded ops a.tmps) = false := by
    intro hv
    have hy : yielded ops a.tmps j = none := by
      simp only [yielded, hj, Option.bind_some]
      cases hx : a.tmps[d]? with
      | none => rfl
      | some x =>
        have : x = undef := by simpa [Array.getD_eq_getD_getElem?, hx] using hv
        subst this; rfl
    simp [Region.wanted, hg, hy]
  cases hl : lk ρ d <;> rw [hl] at h hr <;> simp only [gN, stp] at h <;> try exact h.elim
  case bool b =>
    have hv : a.tmps[d]? = some (.bool b) := by
      generalize hx : a.tmps.getD d undef = x at hr
      cases hr
      exact getD_some hx (by simp [undef])
    have hy : yielded ops a.tmps j = some b := by simp [yielded, hj, hv]
    refine ⟨_, rfl, ?_⟩
    have : Region.wanted o (yielded ops a.tmps) = (vld (.bool b) && (b == want)) := by
      simp [Region.wanted, hg, hy, vld]
    rw [this]; exact h
  case und =>
    refine ⟨false, hun ?_, h⟩
    generalize hx : a.tmps.getD d undef = x at hr
    cases hr; rfl
  case un v0 =>
    have hv : a.tmps.getD d undef = undef := by
      generalize hx : a.tmps.getD d undef = x at hr
      cases hr; rfl
    cases v0 <;> simp only [vld, Bool.false_and] at h <;> first | exact ⟨false, hun hv, h⟩ | exact h.elim
theorem gdO_true {X : Type} {K : SV → SH X → Prop} {H : SH X} : ∀ {o : Out X}, (gdO true H o).sem K → o.sem K
  | .bad, h => by simp [gdO, Out.sem] at h
  | .ok v H', h => by simp [gdO, Out.sem, mkO] at h; obtain ⟨rfl, h⟩ := h; exact h
  | .req p o, h => by simp only [gdO, Out.sem] at h; exact ⟨h.1 trivial, gdO_true h.2⟩
  | .asm p o, h => by simp [gdO, Out.sem] at h
  | .all f, h => by simp [gdO, Out.sem] at h
theorem gdO_false {X : Type} {K : SV → SH X → Prop} {H : SH X} : ∀ {o : Out X}, (gdO false H o).sem K → ∃ v, K (.un v) H
  | .bad, h => by simp only [gdO, Out.sem] at h; exact ⟨_, h.2⟩
  | .ok v H', h => by simp only [gdO, Out.sem] at h; exact ⟨_, h.2⟩
  | .req p o, h => by simp only [gdO, Out.sem] at h; exact gdO_false h.2
  | .asm p o, h => by simp only [gdO, Out.sem] at h; exact ⟨_, h.2⟩
  | .all f, h => by simp only [gdO, Out.sem] at h; exact ⟨_, h.2⟩
theorem cO_spec {ops : Array Oper} {o : Oper} {m : MO} (h : cO P N ops o = some m) :
    ∃ i, cI P o.op = some i ∧ m.i = i ∧ m.d = o.dst ∧ (∀ d, o.dst = some d → d < N) ∧ ((o.guard = none ∧ m.g = none) ∨ ∃ j want d, o.guard = some (j, want) ∧ (ops[j]?).bind (·.dst) = some d ∧ m.g = some (d, want)) := by
  unfold cO at h
  obtain ⟨i, hi, h⟩ := bind_some h
  obtain ⟨g, hg, h⟩ := bind_some h
  have hgg : (o.guard = none ∧ g = none) ∨ ∃ j want d, o.guard = some (j, want) ∧ (ops[j]?).bind (·.dst) = some d ∧ g = some (d, want) := by
    unfold cG at hg
    split at hg
    · rename_i hn; injection hg with hg; exact .inl ⟨hn, hg.symm⟩
    · rename_i j want hn
      obtain ⟨d, hd, hg⟩ := bind_some hg
      injection hg with hg
      exact .inr ⟨j, want, d, hn, hd, hg.symm⟩
  split at h
  · rename_i hd
    injection h with h; subst h
    exact ⟨i, hi, rfl, hd.symm, fun d hd' => (by rw [hd] at hd'; cases hd'), hgg⟩
  · rename_i d hd
    split at h
    · rename_i hlt
      injection h with h; subst h
      exact ⟨i, hi, rfl, hd.symm, fun d' hd' => (by rw [hd] at hd'; injection hd' with hd'; rw [← hd']; assumption), hgg⟩
    · cases h
theorem MP_panic {Q : Post X} {c : List PanicEntry} {a : Act} {w : World} : MP E W0 B N β0 im0 hR Q (.panic c) a w = False := rfl
/-- One operation, from a state that fits. -/
theorem oper_sound {o : Oper} {i : MI} {ρ : Fr} {H : SH X} {a : Act} {w : World} {K : SV → SH X → Prop} {next : Act → World → Prop} {Q : Exit → Act → World → Prop} (hnp : E.np ≤ β0.length) (hΓ : GSound E.O W0 B P E.Γ) (hc : cI P o.op = some i) (hdN : ∀ d, o.dst = some d → d < N)
    (hok : Ok E W0 B N β0 im0 hR ρ H a w) (hs : (evI E.Γ ρ H i).sem K) (hn : ∀ sv H' a' w', K sv H' → Ok E W0 B N β0 im0 hR (setD ρ o.dst sv) H' a' w' → next a' w') : o.wpIn (FF r) n P a w next Q := by
  obtain ⟨β, im, h0, hi, hfr, st, hN, hd⟩ := hok
  refine ⟨fun _ _ => trivial, ?_⟩
  rw [Oper.semAt_eq _ _ _ (fun c e => by rw [e] at hc; cases hc)]
  exact exec_sound hc hfr hs st hΓ fun v w' hy => by
    obtain ⟨sv, H', hK, hok'⟩ := Ok.step hnp h0 hi hfr hN hd hy hdN
    exact hn sv H' _ _ hK hok'
/-- The same, seen by another frame. -/
theorem oper_sound2 {o : Oper} {i : MI} {ρ ρ1 : Fr} {H : SH X} {a : Act} {w : World} {K : SV → SH X → Prop} {next : Act → World → Prop} {Q : Exit → Act → World → Prop} (hnp : E.np ≤ β0.length) (hΓ : GSound E.O W0 B P E.Γ) (hc : cI P o.op = some i) (hdN : ∀ d, o.dst = some d → d < N)
    (hok : Ok E W0 B N β0 im0 hR ρ H a w) (h1 : ∀ β im, FrRel β im ρ a.tmps → FrRel β im ρ1 a.tmps) (hs : (evI E.Γ ρ1 H i).sem K) (hn : ∀ sv H' a' w', K sv H' → Ok E W0 B N β0 im0 hR (setD ρ o.dst sv) H' a' w' → next a' w') : o.wpIn (FF r) n P a w next Q := by
  obtain ⟨β, im, h0, hi, hfr, st, hN, hd⟩ := hok
  refine ⟨fun _ _ => trivial, ?_⟩
  rw [Oper.semAt_eq _ _ _ (fun c e => by rw [e] at hc; cases hc)]
  exact exec_sound hc (h1 β im hfr) hs st hΓ fun v w' hy => by
    obtain ⟨sv, H', hK, hok'⟩ := Ok.step hnp h0 hi hfr hN hd hy hdN
    exact hn sv H' _ _ hK hok'
theorem Ok.un {ρ : Fr} {H : SH X} {a : Act} {w : World} {β : List Value} {im : Im} {v : SV} (h0 : ∀ k, k < E.np → β[k]? = β0[k]?) (hi : ILe im0 im) (hfr : FrRel β im ρ a.tmps) (st : HSt E.O W0 B β im H hR w) (hN : a.tmps.size = N) (hd : a.defers = [])
    {d : Option Nat} (hdN : ∀ d', d = some d' → d' < N) : Ok E W0 B N β0 im0 hR (setD ρ d (.un v)) H (a.put d undef) w := by
  refine ⟨β, im, h0, hi, ?_, st, ?_, ?_⟩
  · cases d with
    | none => exact hfr
    | some d => exact hfr.put .un (by rw [hN]; exact hdN d rfl)
  · cases d <;> simp [Act.put, hN]
  · cases d <;> simp [Act.put, hd]
theorem Ok.und {ρ : Fr} {H : SH X} {a : Act} {w : World} {β : List Value} {im : Im} (h0 : ∀ k, k < E.np → β[k]? = β0[k]?) (hi : ILe im0 im) (hfr : FrRel β im ρ a.tmps) (st : HSt E.O W0 B β im H hR w) (hN : a.tmps.size = N) (hd : a.defers = [])
    {d : Option Nat} (hdN : ∀ d', d = some d' → d' < N) : Ok E W0 B N β0 im0 hR (setD ρ d .und) H (a.put d undef) w := by
  refine ⟨β, im, h0, hi, ?_, st, ?_, ?_⟩
  · cases d with
    | none => exact hfr
    | some d => exact hfr.put .und (by rw [hN]; exact hdN d rfl)
  · cases d <;> simp [Act.put, hN]
  · cases d <;> simp [Act.put, hd]
theorem ops_sound {ops : Array Oper} {mos : List MO} {Q : Post X} (hnp : E.np ≤ β0.length) (hΓ : GSound E.O W0 B P E.Γ) (hc : ops.toList.mapM (cO P N ops) = some mos) :
    ∀ (k i : Nat), i + k = ops.size → ∀ (ρ : Fr) (H : SH X) (a : Act) (w : World), wpO E (mos.drop i) Q ρ H → Ok E W0 B N β0 im0 hR ρ H a w →
      wpOpsIn (FF r) n P ops (MP E W0 B N β0 im0 hR Q) (List.range' i k) a w := by
  obtain ⟨hlen, hget⟩ := mapM_get hc
  have hlen' : mos.length = ops.size := by simpa using hlen
  intro k
  induction k with
  | zero =>
    intro i hik ρ H a w h hok
    rw [List.drop_eq_nil_of_le (by omega), wpO_nil] at h
    exact ⟨ρ, H, h, hok⟩
  | succ k ih =>
    intro i hik ρ H a w h hok
    have hi : i < mos.length := by omega
    rw [List.drop_eq_getElem_cons hi] at h
    obtain ⟨o, ho, hco⟩ := hget i mos[i] (List.getElem?_eq_getElem hi)
    obtain ⟨mi, hci, he, hd, hdN, hgd⟩ := cO_spec hco
    have ho' : ops[i]? = some o := by simpa using ho
    rw [List.range'_succ, wpOpsIn_cons]
    simp only [wpOpIn, ho']
    generalize hmo : mos[i] = m at h he hd hgd
    obtain ⟨md, mg, mm⟩ := m
    simp only at he hd hgd
    subst he hd
    have hb : ∀ (ρ' : Fr) (a : Act) (w : World), Ok E W0 B N β0 im0 hR ρ' H a w → ((evI E.Γ ρ' H mm).sem fun v H' => wpO E (mos.drop (i + 1)) Q (setD ρ' o.dst v) H') →
        o.wpIn (FF r) n P a w (wpOpsIn (FF r) n P ops (MP E W0 B N β0 im0 hR Q) (List.range' (i + 1) k)) (MP E W0 B N β0 im0 hR Q) := fun ρ' a w hok' hh =>
      oper_sound hnp hΓ hci hdN hok' hh fun sv H' a' w' hK hok'' => ih (i + 1) (by omega) _ _ a' w' hK hok''
    rcases hgd with ⟨hg, hmg⟩ | ⟨j, want, d, hg, hj, hmg⟩
    · subst hmg
      rw [wpO] at h
      rw [if_pos (by simp [Region.wanted, hg])]
      exact hb ρ a w hok h
    · subst hmg
      rw [wpO] at h
      simp only at h
      obtain ⟨β, im, h0, hii, hfr, st, hN, hdf⟩ := hok
      cases heff : effect mm with
      | true =>
        simp only [heff] at h
        rcases guard_sound hg hj hfr h with ⟨hw, ρ', hfr', hv, hy⟩ | ⟨hw, ρ', hfr', hy⟩
        · rw [if_pos hw]
          exact oper_sound2 (ρ := ρ') hnp hΓ hci hdN ⟨β, im, h0, hii, hfr', st, hN, hdf⟩ (fun _ _ q => stpF_rel q hv) hy fun sv H' a' w' hK hok'' => ih (i + 1) (by omega) _ _ a' w' hK hok''
        · rw [if_neg (by simp [hw])]
          exact ⟨fun _ _ => trivial, ih (i + 1) (by omega) _ _ _ _ hy (Ok.und h0 hii hfr' st hN hdf hdN)⟩
      | false =>
        simp only [heff] at h
        obtain ⟨c, hw, hv, hy⟩ := gN_sound hg hj hfr h
        cases c with
        | true =>
          rw [if_pos hw]
          exact oper_sound2 (ρ := ρ) hnp hΓ hci hdN ⟨β, im, h0, hii, hfr, st, hN, hdf⟩ (fun _ _ q => stpF_rel q hv) (gdO_true hy) fun sv H' a' w' hK hok'' => ih (i + 1) (by omega) _ _ a' w' hK hok''
        | false =>
          rw [if_neg (by simp [hw])]
          obtain ⟨v0, hy⟩ := gdO_false hy
          exact ⟨fun _ _ => trivial, ih (i + 1) (by omega) _ _ _ _ hy (Ok.un h0 hii hfr st hN hdf hdN)⟩
end
end Go.Sy

/-! Code: its control. -/
namespace Go.Sy
open Go.RowKit
section
variable {X : Type} {W0 : World} {B N : Nat} {P : Program} {E : Env X} {β0 : List Value} {im0 : Im} {hR : Hp} {r : Option Nat} {n : Nat}
theorem exists_min (p : Nat → Prop) (h : ∃ j, p j) : ∃ j, p j ∧ ∀ k, p k → j ≤ k := by
  obtain ⟨j, hj⟩ := h
  induction j using Nat.strongRecOn with
  | _ j ih =>
    by_cases hx : ∃ k, k < j ∧ p k
    · obtain ⟨k, hk, hp⟩ := hx; exact ih k hk hp
    · exact ⟨j, hj, fun k hk => Nat.le_of_not_lt fun hlt => hx ⟨k, hlt, hk⟩⟩
theorem HSt.ent {O : X → SH X} {β' : List Value} {im im' : Im} {H' : SH X} {hH h' : Hp} {w : World} (hs' : HS O im' β' H' β' h') (dj : Dj hH hR) (iv : Inv W0 B im (uni hH hR) w)
    (him : ∀ b o v, im' b o = some v → im b o = some v ∨ (hH b o = some (.cell v) ∧ h' b o = none)) (hsub : ∀ b o s, h' b o = some s → hH b o = some s) : HSt O W0 B β' im' H' hR w := by
  have hsub' : ∀ b o s, uni h' hR b o = some s → uni hH hR b o = some s := by
    intro b o s q
    unfold uni at q ⊢
    cases hx : h' b o with
    | some s' => rw [hx] at q; rw [hsub b o s' hx]; exact q
    | none =>
      rw [hx] at q
      simp only at q
      rcases dj b o with z | z
      · rw [z]; exact q
      · rw [z] at q; cases q
  have i2 := iv.sub hsub'
  refine ⟨h', fun b o => ?_, hs', ⟨i2.below, i2.hB, i2.cell, i2.obj, i2.own, fun b o v e => ?_, fun b o v e => ?_⟩⟩
  · rcases dj b o with q | q
    · left
      cases hx : h' b o with
      | none => rfl
      | some s => rw [hsub b o s hx] at q; cases q
    · exact .inr q
  · rcases him b o v e with q | ⟨q, _⟩
    · exact iv.imm _ _ _ q
    · exact (iv.cell b o v (uni_left q)).1
  · rcases him b o v e with q | ⟨q1, q2⟩
    · exact i2.dj _ _ _ q
    · unfold uni; rw [q2]; simp only
      rcases dj b o with z | z
      · rw [z] at q1; cases q1
      · exact z
theorem Ok.ent {ρ ρ' : Fr} {H H' : SH X} {a : Act} {w : World} (h : Ok E W0 B N β0 im0 hR ρ H a w) (e : Ent E.O E.np ρ H ρ' H') : Ok E W0 B N β0 im0 hR ρ' H' a w := by
  obtain ⟨β, im, h0, hi, hfr, ⟨hH, dj, hs, iv⟩, hN, hd⟩ := h
  obtain ⟨β', im', h', hii, him, hsub, hs', hk, hf⟩ := e β im hH hs fun b o v q => by
    have := iv.dj b o v q
    unfold uni at this
    cases hx : hH b o with
    | none => rfl
    | some s => rw [hx] at this; cases this
  exact ⟨β', im', fun k hk' => (hk k hk').trans (h0 k hk'), ILe.trans hi hii, hf _ hfr, HSt.ent hs' dj iv him hsub, hN, hd⟩
/-- What is asked of regions that draw their order. -/
def DrawnOK (E : Env X) (W0 : World) (B N : Nat) (P : Program) (β0 : List Value) (im0 : Im) (hR : Hp) (r : Option Nat) (n : Nat) : Prop :=
  ∀ (id : Nat) (ops : Array Oper) (m : MC), cR P N ops true = some m → ∀ (Q : Post X) (ρ : Fr) (H : SH X) (a : Act) (w : World), wp E m Q ρ H → Ok E W0 B N β0 im0 hR ρ H a w →
    (Code.region id ops true).wpIn (FF r) n P (MP E W0 B N β0 im0 hR Q) a w
theorem loop_rank {F : Fence} {c : Code} {Q : Exit → Act → World → Prop} {a : Act} {w : World} (I : Nat → Act → World → Prop) {j0 : Nat} (h0 : I j0 a w)
    (round : ∀ j a w, I j a w → c.wpIn F n P (Exit.then (fun a' w' => ∃ j', j' < j ∧ I j' a' w') Q) a w) : (Code.loop c).wpIn F n P Q a w := by
  have hm : ∀ a w, (∃ j, I j a w) → ∃ j, I j a w ∧ ∀ k, I k a w → j ≤ k := fun a w h => exists_min (fun j => I j a w) h
  classical
  let μ : Act → World → Nat := fun a w => if h : ∃ j, I j a w then Classical.choose (hm a w h) else 0
  have hμ : ∀ a w, (∃ j, I j a w) → I (μ a w) a w ∧ ∀ k, I k a w → μ a w ≤ k := fun a w h => by
    simp only [μ, dif_pos h]; exact Classical.choose_spec (hm a w h)
  refine wpIn_loop (fun a w => ∃ j, I j a w) μ ⟨_, h0⟩ fun a w h => ?_
  refine wpIn_mono (round _ a w (hμ a w h).1) fun e a' w' hq => ?_
  cases e <;> try exact hq
  obtain ⟨j', hlt, hI⟩ := hq
  exact ⟨⟨j', hI⟩, Nat.lt_of_le_of_lt ((hμ a' w' ⟨j', hI⟩).2 _ hI) hlt⟩
theorem code_sound (hnp : E.np ≤ β0.length) (hΓ : GSound E.O W0 B P E.Γ) (hD : DrawnOK E W0 B N P β0 im0 hR r n) :
    ∀ (c : Code) (m : MC), cC P N c = some m → ∀ (Q : Post X) (ρ : Fr) (H : SH X) (a : Act) (w : World), wp E m Q ρ H → Ok E W0 B N β0 im0 hR ρ H a w →
      c.wpIn (FF r) n P (MP E W0 B N β0 im0 hR Q) a w := by
  intro c
  induction c with
  | skip =>
    intro m hc Q ρ H a w h hok
    simp only [cC] at hc; injection hc with hc; subst hc
    rw [sw_skip] at h
    exact wpIn_skip ⟨ρ, H, h, hok⟩
  | region id ops draw =>
    intro m hc Q ρ H a w h hok
    simp only [cC] at hc
    cases draw with
    | true => exact hD id ops m hc Q ρ H a w h hok
    | false =>
      unfold cR at hc
      obtain ⟨mos, hm, hc⟩ := bind_some hc
      simp at hc; subst hc
      rw [sw_ops] at h
      refine wpIn_region ?_
      rw [List.range_eq_range']
      exact ops_sound hnp hΓ hm ops.size 0 (by omega) ρ H a w h hok
  | seq x y ihx ihy =>
    intro m hc Q ρ H a w h hok
    simp only [cC] at hc
    obtain ⟨mx, hx, hc⟩ := bind_some hc
    obtain ⟨my, hy, hc⟩ := bind_some hc
    injection hc with hc; subst hc
    rw [sw_seq] at h
    refine wpIn_seq (wpIn_mono (ihx mx hx _ ρ H a w h hok) fun e a' w' hq => ?_)
    cases e with
    | normal => obtain ⟨ρ', H', hq, hok'⟩ := hq; rw [Then_n] at hq; exact ihy my hy Q ρ' H' a' w' hq hok'
    | exit id => obtain ⟨ρ', H', hq, hok'⟩ := hq; rw [Then_x] at hq; exact ⟨ρ', H', hq, hok'⟩
    | ret => obtain ⟨ρ', H', hq, hok'⟩ := hq; rw [Then_r] at hq; exact ⟨ρ', H', hq, hok'⟩
    | _ => exact hq.elim
  | cond c x y ihx ihy =>
    intro m hc Q ρ H a w h hok
    simp only [cC] at hc
    obtain ⟨mc, hcc, hc⟩ := bind_some hc
    obtain ⟨mx, hx, hc⟩ := bind_some hc
    obtain ⟨my, hy, hc⟩ := bind_some hc
    injection hc with hc; subst hc
    rw [sw_cond, ifC] at h
    obtain ⟨β, im, h0, hi, hfr, rest⟩ := id hok
    have hr := opd hfr hcc
    cases hv : mc.ev ρ <;> rw [hv] at h hr <;> simp only [ifK] at h <;> try exact h.elim
    rename_i t
    generalize he : a.eval c = v at hr
    cases hr
    refine wpIn_cond he ?_
    cases t with
    | true => exact ihx mx hx Q ρ H a w (h.1 rfl) hok
    | false => exact ihy my hy Q ρ H a w (h.2 rfl) hok
  | block id x ih =>
    intro m hc Q ρ H a w h hok
    simp only [cC] at hc
    obtain ⟨mx, hx, hc⟩ := bind_some hc
    injection hc with hc; subst hc
    rw [sw_blk] at h
    refine wpIn_block (wpIn_mono (ih mx hx _ ρ H a w h hok) fun e a' w' hq => ?_)
    cases e with
    | normal => obtain ⟨ρ', H', hq, hok'⟩ := hq; rw [InB_n] at hq; exact ⟨ρ', H', hq, hok'⟩
    | exit j =>
      obtain ⟨ρ', H', hq, hok'⟩ := hq
      simp only [InB] at hq
      simp only [Exit.inBlock]
      split at hq
      · rename_i hj; rw [if_pos hj]; exact ⟨ρ', H', hq, hok'⟩
      · rename_i hj; rw [if_neg hj]; exact ⟨ρ', H', hq, hok'⟩
    | ret => obtain ⟨ρ', H', hq, hok'⟩ := hq; rw [InB_r] at hq; exact ⟨ρ', H', hq, hok'⟩
    | _ => exact hq.elim
  | loop x ih =>
    intro m hc Q ρ H a w h hok
    simp only [cC] at hc
    obtain ⟨mx, hx, hc⟩ := bind_some hc
    injection hc with hc; subst hc
    rw [sw_loop] at h
    cases hL : E.Λ (firstId x) with
    | none => rw [hL] at h; exact h.elim
    | some L =>
      rw [hL, lpC_some] at h
      obtain ⟨⟨x0, hx0, he0⟩, hbody⟩ := h
      refine loop_rank (fun j a w => ∃ y, L.ok y ∧ L.rk y = j ∧ Ok E W0 B N β0 im0 hR (L.fr y) (L.hp y) a w) ⟨x0, hx0, rfl, hok.ent he0⟩ ?_
      rintro j a' w' ⟨y, hy, rfl, hok'⟩
      refine wpIn_mono (ih mx hx _ _ _ a' w' (hbody y hy) hok') fun e a'' w'' hq => ?_
      cases e with
      | normal =>
        obtain ⟨ρ', H', hq, hok''⟩ := hq
        rw [LpQ_n] at hq
        obtain ⟨y', hy', hlt, he⟩ := hq
        exact ⟨L.rk y', hlt, y', hy', rfl, hok''.ent he⟩
      | exit j => obtain ⟨ρ', H', hq, hok'⟩ := hq; rw [LpQ_x] at hq; exact ⟨ρ', H', hq, hok'⟩
      | ret => obtain ⟨ρ', H', hq, hok'⟩ := hq; rw [LpQ_r] at hq; exact ⟨ρ', H', hq, hok'⟩
      | _ => exact hq.elim
  | rangeFunc f ps x y ihx ihy =>
    intro m hc Q ρ H a w h hok
    simp only [cC] at hc
    obtain ⟨_, _, hc⟩ := bind_some hc
    obtain ⟨_, _, hc⟩ := bind_some hc
    obtain ⟨_, _, hc⟩ := bind_some hc
    injection hc with hc; subst hc
    rw [wp] at h; exact h.elim
  | exit id =>
    intro m hc Q ρ H a w h hok
    simp only [cC] at hc; injection hc with hc; subst hc
    rw [sw_exit] at h
    exact wpIn_exit ⟨ρ, H, h, hok⟩
  | ret =>
    intro m hc Q ρ H a w h hok
    simp only [cC] at hc; injection hc with hc; subst hc
    rw [sw_ret] at h
    exact wpIn_ret ⟨ρ, H, h, hok⟩
  | scope x ih => intro m hc; simp [cC] at hc
  | label l => intro m hc; simp [cC] at hc
  | goto l => intro m hc; simp [cC] at hc
  | refuse why => intro m hc; simp [cC] at hc
end
end Go.Sy

/-! What an operation reads; what looks and reckons comes to one thing alone. -/
namespace Go.Sy
open Go.RowKit
section
variable {X : Type} {Γ : Gam X} {ρ ρ' : Fr} {H H2 : SH X}
theorem ev_congr {x : Opd} (h : ∀ t ∈ x.rd, lk ρ t = lk ρ' t) : x.ev ρ = x.ev ρ' := by
  cases x with
  | t n => exact h n (by simp [Opd.rd])
  | c v => rfl
theorem evs_congr {l : List Opd} (h : ∀ t ∈ l.flatMap Opd.rd, lk ρ t = lk ρ' t) : evs ρ l = evs ρ' l :=
  List.map_congr_left fun x hx => ev_congr fun t ht => h t (List.mem_flatMap.2 ⟨x, hx, ht⟩)
theorem bdO_congr {x : Option Opd} {d : Int} (h : ∀ t ∈ oRd x, lk ρ t = lk ρ' t) : bdO ρ d x = bdO ρ' d x := by
  cases x with
  | none => rfl
  | some x => simp only [bdO]; rw [ev_congr (fun t ht => h t (by simpa [oRd] using ht))]
theorem fillA_congr : ∀ {ps : List (Nat × Nat × Opd)} {z : List SV}, (∀ t ∈ ps.flatMap fun p => p.2.2.rd, lk ρ t = lk ρ' t) → fillA z ρ ps = fillA z ρ' ps
  | [], _, _ => rfl
  | (o, n, x) :: r, z, h => by
    have hx : x.ev ρ = x.ev ρ' := ev_congr fun t ht => h t (by simp [ht])
    simp only [fillA, hx]
    have hr : ∀ z, fillA z ρ r = fillA z ρ' r := fun z => fillA_congr fun t ht => h t (by simp only [List.flatMap_cons, List.mem_append]; exact .inr ht)
    simp only [hr]
theorem fillR_congr {sz : Nat} : ∀ {ps : List (Nat × Opd)} {rows : List (List SV)}, (∀ t ∈ ps.flatMap fun p => p.2.rd, lk ρ t = lk ρ' t) → fillR rows sz ρ ps = fillR rows sz ρ' ps
  | [], _, _ => rfl
  | (i, x) :: r, rows, h => by
    have hx : x.ev ρ = x.ev ρ' := ev_congr fun t ht => h t (by simp [ht])
    simp only [fillR, hx]
    have hr : ∀ rows, fillR rows sz ρ r = fillR rows sz ρ' r := fun z => fillR_congr fun t ht => h t (by simp only [List.flatMap_cons, List.mem_append]; exact .inr ht)
    simp only [hr]
theorem evI_congr {i : MI} (h : ∀ t ∈ i.rd, lk ρ t = lk ρ' t) : evI Γ ρ H i = evI Γ ρ' H i := by
  cases i
  case bld z ps => simp only [evI, evBld]; rw [fillA_congr (by simpa [MI.rd] using h)]
  case bsl sz len z ps => simp only [evI, evBsl]; rw [fillR_congr (by simpa [MI.rd] using h)]
  case call f l => simp only [evI]; rw [evs_congr (by simpa [MI.rd] using h)]
  case mkf f l => simp only [evI]; rw [evs_congr (by simpa [MI.rd] using h)]
  case callv x l =>
    simp only [evI]
    rw [ev_congr (x := x) (fun t ht => h t (by simp [MI.rd, ht])), evs_congr (l := l) (fun t ht => h t (by simp only [MI.rd, List.mem_append]; exact .inr ht))]
  case slc x sz u v y =>
    have e1 := ev_congr (x := x) (fun t ht => h t (by simp [MI.rd, ht]))
    have e2 : ∀ d, bdO ρ d u = bdO ρ' d u := fun d => bdO_congr (fun t ht => h t (by simp [MI.rd, ht]))
    have e3 : ∀ d, bdO ρ d v = bdO ρ' d v := fun d => bdO_congr (fun t ht => h t (by simp [MI.rd, ht]))
    have e4 : ∀ d, bdO ρ d y = bdO ρ' d y := fun d => bdO_congr (fun t ht => h t (by simp [MI.rd, ht]))
    simp only [evI, evSlc, e1, e2, e3, e4]
  case slS x u v =>
    have e1 := ev_congr (x := x) (fun t ht => h t (by simp [MI.rd, ht]))
    have e2 : ∀ d, bdO ρ d u = bdO ρ' d u := fun d => bdO_congr (fun t ht => h t (by simp [MI.rd, ht]))
    have e3 : ∀ d, bdO ρ d v = bdO ρ' d v := fun d => bdO_congr (fun t ht => h t (by simp [MI.rd, ht]))
    simp only [evI, evSlS, e1, e2, e3]
  case pick c a b =>
    simp only [evI]
    rw [ev_congr (x := c) (fun t ht => h t (by simp [MI.rd, ht])), ev_congr (x := a) (fun t ht => h t (by simp [MI.rd, ht])), ev_congr (x := b) (fun t ht => h t (by simp [MI.rd, ht]))]
  case alc => rfl
  case pan => rfl
  all_goals simp only [evI]
  all_goals first
    | rw [ev_congr (by simpa [MI.rd] using h)]
    | (rename_i x y; rw [ev_congr (x := x) (fun t ht => h t (by simp [MI.rd, ht])), ev_congr (x := y) (fun t ht => h t (by simp [MI.rd, ht]))])
    | (rename_i x y _; rw [ev_congr (x := x) (fun t ht => h t (by simp [MI.rd, ht])), ev_congr (x := y) (fun t ht => h t (by simp [MI.rd, ht]))])
    | (rename_i x y _ _; rw [ev_congr (x := x) (fun t ht => h t (by simp [MI.rd, ht])), ev_congr (x := y) (fun t ht => h t (by simp [MI.rd, ht]))])
    | (rename_i x y _ _ _; rw [ev_congr (x := x) (fun t ht => h t (by simp [MI.rd, ht])), ev_congr (x := y) (fun t ht => h t (by simp [MI.rd, ht]))])
    | (rename_i x _; rw [ev_congr (x := x) (fun t ht => h t (by simp [MI.rd, ht]))])
    | (rename_i x _ _; rw [ev_congr (x := x) (fun t ht => h t (by simp [MI.rd, ht]))])
/-- Comes to one value, and leaves the heap. -/
def Det (H : SH X) (o : Out X) : Prop := ∀ K, o.sem K → ∃ v, K v H ∧ o.sem fun u H' => u = v ∧ H' = H
theorem Det.bad : Det H (.bad : Out X) := fun _ h => h.elim
theorem Det.ok {v : SV} : Det H (.ok v H) := fun _ h => ⟨v, h, rfl, rfl⟩
theorem Det.req {p : Prop} {o : Out X} (d : Det H o) : Det H (.req p o) := fun K h => by
  obtain ⟨v, h1, h2⟩ := d K h.2; exact ⟨v, h1, h.1, h2⟩
theorem Det.bnd {j : Int} {n : Nat} {o : Out X} (d : Det H o) : Det H (bnd j n o) := Det.req d
theorem Det.one {v : Option SV} : Det H (one? v H) := by cases v <;> first | exact .bad | exact .ok
theorem Det.eqB {n b : Bool} : Det H (eqB n b H : Out X) := by cases n <;> cases b <;> exact .ok
theorem Det.pick2 {g : Bool} {a b : SV} : Det H (evPick2 g a b H : Out X) := by
  unfold evPick2
  split
  · exact Det.ok
  · split
    · exact Det.ok
    · exact Det.bad
  · cases g <;> exact Det.ok
theorem look {i : MI} (h : effect i = false) : Det H (evI Γ ρ H i) := by
  cases i <;> try (simp [effect] at h; done)
  case eq neg k x y =>
    cases k <;> try (simp [effect] at h; done)
    all_goals
      simp only [evI]
      generalize x.ev ρ = a
      generalize y.ev ρ = b
      cases a <;> cases b <;> simp only [evEq]
      all_goals repeat' split
      all_goals first | exact Det.bad | exact Det.ok | exact Det.eqB
  all_goals simp only [evI]
  all_goals try exact Det.ok
  all_goals try simp only [evPick, evBin, evUn, evConv, evB2s, evSame, evExt, evFld, evIdxS, evIdxA, evFadr, evIadr, evIadrA, evNilc, evLd, evBld, evSlc, evSlS, evLen, evCap, evMM]
  all_goals repeat' split
  all_goals repeat (first | exact Det.bad | exact Det.ok | exact Det.one | exact Det.pick2 | apply Det.req | apply Det.bnd)
/-- What does not look at the heap comes to the same at another. -/
def Same (H H2 : SH X) (o o2 : Out X) : Prop := ∀ v, (o.sem fun u H' => u = v ∧ H' = H) → o2.sem fun u H' => u = v ∧ H' = H2
theorem Same.bad {o2 : Out X} : Same H H2 .bad o2 := fun _ h => h.elim
theorem Same.ok {v : SV} : Same H H2 (.ok v H : Out X) (.ok v H2) := fun _ h => ⟨h.1, rfl⟩
theorem Same.req {p : Prop} {o o2 : Out X} (d : Same H H2 o o2) : Same H H2 (.req p o) (.req p o2) := fun v h => ⟨h.1, d v h.2⟩
theorem Same.bnd {j : Int} {n : Nat} {o o2 : Out X} (d : Same H H2 o o2) : Same H H2 (bnd j n o) (bnd j n o2) := Same.req d
theorem Same.one {v : Option SV} : Same H H2 (one? v H : Out X) (one? v H2) := by cases v <;> first | exact .bad | exact .ok
theorem Same.eqB {n b : Bool} : Same H H2 (eqB n b H : Out X) (eqB n b H2) := by cases n <;> cases b <;> exact .ok
theorem Same.pick2 {g : Bool} {a b : SV} : Same H H2 (evPick2 g a b H : Out X) (evPick2 g a b H2) := by
  unfold evPick2
  split
  · exact Same.ok
  · split
    · exact Same.ok
    · exact Same.bad
  · cases g <;> exact Same.ok
theorem blind {i : MI} (h : blindI i = true) : Same H H2 (evI Γ ρ H i) (evI Γ ρ H2 i) := by
  cases i <;> try (simp [blindI] at h; done)
  case eq neg k x y =>
    cases k <;> try (simp [blindI] at h; done)
    all_goals
      simp only [evI]
      generalize x.ev ρ = a
      generalize y.ev ρ = b
      cases a <;> cases b <;> simp only [evEq]
      all_goals repeat' split
      all_goals first | exact Same.bad | exact Same.ok | exact Same.eqB
  all_goals simp only [evI]
  all_goals try exact Same.ok
  all_goals try simp only [evPick, evBin, evUn, evConv, evB2s, evSame, evExt, evFld, evIdxS, evIdxA, evFadr, evIadr, evIadrA, evNilc, evLd, evBld, evSlc, evSlS, evLen, evCap, evMM]
  all_goals repeat' split
  all_goals repeat (first | exact Same.bad | exact Same.ok | exact Same.one | exact Same.pick2 | apply Same.req | apply Same.bnd)
end
end Go.Sy
