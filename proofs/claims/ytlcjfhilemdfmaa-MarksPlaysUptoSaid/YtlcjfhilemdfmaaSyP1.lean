/- A part of the proof of the seat's law: an evaluator of the program's code over symbolic values, its soundness, and the contracts of the functions that the law reaches. -/
import Derived.Below
import Derived.OrdersIn
import Derived.Laws.World
import Derived.Laws.Sem
import Derived.Laws.Entries
import Derived.Laws.StructEq
set_option linter.all false
set_option linter.unusedVariables false
set_option linter.unusedSimpArgs false
/-! Symbolic values, symbolic heaps and what they say of a world. -/
namespace Go.Sy
open Go.RowKit

/-- Symbolic values. 'key k': the root value of object k; the others are built over it. -/
inductive SV : Type
  | int (k : IntKind) (n : Int)
  | bool (b : Bool)
  | str (s : ByteArray)
  | nilp | nils | nilf | nilm | und | dead
  | key (k : Nat)
  | off (k o : Nat)
  | offa (k o sz i f : Nat)
  | elt (k sz i f : Nat)
  | sub (k sz lo hi : Nat)
  | sl (k sz lo len cap : Nat)
  | ros (sz n : Nat) (g : Nat → List SV)
  | roe (sz n : Nat) (g : Nat → List SV) (i f : Nat)
  | fn (f : Nat) (caps : List SV)
  | agg (l : List SV)
  | arr (sz n : Nat) (g : Nat → List SV)
  | tup (l : List SV)
  | ifc (t : Nat) (v : SV)
  | un (v : SV)

mutual
def SV.ren (σ : Nat → Nat) : SV → SV
  | .key k => .key (σ k)
  | .off k o => .off (σ k) o
  | .offa k o sz i f => .offa (σ k) o sz i f
  | .elt k sz i f => .elt (σ k) sz i f
  | .sub k sz lo hi => .sub (σ k) sz lo hi
  | .sl k sz lo len cap => .sl (σ k) sz lo len cap
  | .ros sz n g => .ros sz n (fun i => renL σ (g i))
  | .roe sz n g i f => .roe sz n (fun i => renL σ (g i)) i f
  | .fn f caps => .fn f (renL σ caps)
  | .agg l => .agg (renL σ l)
  | .arr sz n g => .arr sz n (fun i => renL σ (g i))
  | .tup l => .tup (renL σ l)
  | .ifc t v => .ifc t (v.ren σ)
  | .un v => .un (v.ren σ)
  | .int k n => .int k n
  | .bool b => .bool b
  | .str s => .str s
  | .nilp => .nilp | .nils => .nils | .nilf => .nilf | .nilm => .nilm | .und => .und | .dead => .dead
def renL (σ : Nat → Nat) : List SV → List SV
  | [] => []
  | v :: l => v.ren σ :: renL σ l
end

/-- One cell's value. -/
def SV.one : SV → Bool
  | .agg _ | .arr .. | .tup _ | .dead | .und | .un _ => false
  | _ => true
/-- A value of one cell. -/
def oneCell : Value → Bool
  | .agg _ | .tuple _ => false
  | _ => true

abbrev Im := Nat → Nat → Option Value

mutual
inductive Rel (β : List Value) (im : Im) : SV → Value → Prop
  | int {k n} : Rel β im (.int k n) (.int k n)
  | bool {b} : Rel β im (.bool b) (.bool b)
  | str {s} : Rel β im (.str s) (.string s)
  | nilp : Rel β im .nilp (.pointer none)
  | nils : Rel β im .nils (.slice none 0 0)
  | nilf : Rel β im .nilf .nilFunc
  | nilm : Rel β im .nilm (.map none)
  | und : Rel β im .und undef
  | dead {v} : Rel β im .dead v
  | key {k v} (h : β[k]? = some v) (h1 : oneCell v = true) : Rel β im (.key k) v
  | off {k o b p} (h : β[k]? = some (.pointer (some ⟨b, p, none⟩))) : Rel β im (.off k o) (.pointer (some ⟨b, p + o, none⟩))
  | offa {k o sz i f b p} (h : β[k]? = some (.pointer (some ⟨b, p, none⟩))) : Rel β im (.offa k o sz i f) (.pointer (some ⟨b, p + (o + (i * sz + f)), none⟩))
  | elt {k sz i f b p n c} (h : β[k]? = some (.slice (some ⟨b, p, none⟩) n c)) : Rel β im (.elt k sz i f) (.pointer (some ⟨b, p + (i * sz + f), none⟩))
  | sub {k sz lo hi b p n c b' q} (h : β[k]? = some (.slice (some ⟨b, p, none⟩) n c)) (h1 : lo ≤ hi) (h2 : hi ≤ c) (ha : c = lo ∨ (b' = b ∧ q = p + lo * sz)) :
      Rel β im (.sub k sz lo hi) (.slice (some ⟨b', q, none⟩) (hi - lo) (c - lo))
  | sub0 {k sz} (h : β[k]? = some (.slice none 0 0)) : Rel β im (.sub k sz 0 0) (.slice none 0 0)
  | sl {k sz lo len cap b p a} (h : β[k]? = some (.pointer (some ⟨b, p, none⟩))) (ha : cap = 0 ∨ a = ⟨b, p + lo * sz, none⟩) (hl : len ≤ cap) :
      Rel β im (.sl k sz lo len cap) (.slice (some a) len cap)
  | ros {sz n g b p c} (rows : Nat → List Value) (h : ∀ i, i < n → RelC β im (g i) (rows i)) (hl : ∀ i, i < n → (rows i).length = sz) (hc : n ≤ c)
      (hm : ∀ i, i < n → ∀ j x, (rows i)[j]? = some x → im b (p + (i * sz + j)) = some x) : Rel β im (.ros sz n g) (.slice (some ⟨b, p, none⟩) n c)
  | ros0 {sz g a} : Rel β im (.ros sz 0 g) (.slice a 0 0)
  | roe {sz n g i f b p} (rows : Nat → List Value) (h : ∀ i, i < n → RelC β im (g i) (rows i)) (hl : ∀ i, i < n → (rows i).length = sz) (hi : i < n)
      (hm : ∀ i, i < n → ∀ j x, (rows i)[j]? = some x → im b (p + (i * sz + j)) = some x) : Rel β im (.roe sz n g i f) (.pointer (some ⟨b, p + (i * sz + f), none⟩))
  | fn {f l vs} (h : RelL β im l vs) : Rel β im (.fn f l) (.func (.func f) #[] vs.toArray)
  | agg {l cs} (h : RelC β im l cs) : Rel β im (.agg l) (.agg cs.toArray)
  | tup {l vs} (h : RelL β im l vs) : Rel β im (.tup l) (.tuple vs.toArray)
  | ifc {t v x} (h : Rel β im v x) : Rel β im (.ifc t v) (.iface t x)
  | un {v} : Rel β im (.un v) undef
/-- Values one by one. -/
inductive RelL (β : List Value) (im : Im) : List SV → List Value → Prop
  | nil : RelL β im [] []
  | cons {v x l xs} (h : Rel β im v x) (t : RelL β im l xs) : RelL β im (v :: l) (x :: xs)
/-- Cells: a scalar is one cell, an array its rows. -/
inductive RelC (β : List Value) (im : Im) : List SV → List Value → Prop
  | nil : RelC β im [] []
  | one {v x l xs} (h1 : v.one = true) (h : Rel β im v x) (t : RelC β im l xs) : RelC β im (v :: l) (x :: xs)
  | arr {sz n g l xs} (rows : Nat → List Value) (h : ∀ i, i < n → RelC β im (g i) (rows i)) (hl : ∀ i, i < n → (rows i).length = sz) (t : RelC β im l xs) :
      RelC β im (.arr sz n g :: l) ((List.range n).flatMap rows ++ xs)
end

/-- What a heaplet has: a cell, or a whole object that is no row of cells. -/
inductive Slot
  | cell (v : Value)
  | obj (o : Obj)
abbrev Hp := Nat → Nat → Option Slot
def Dj (h1 h2 : Hp) : Prop := ∀ b o, h1 b o = none ∨ h2 b o = none
def uni (h1 h2 : Hp) : Hp := fun b o => match h1 b o with | some s => some s | none => h2 b o
def emp : Hp := fun _ _ => none

theorem Dj.symm {h1 h2 : Hp} (h : Dj h1 h2) : Dj h2 h1 := fun b o => (h b o).symm
theorem uni_comm {h1 h2 : Hp} (h : Dj h1 h2) : uni h1 h2 = uni h2 h1 := by
  funext b o
  have := h b o
  unfold uni
  cases e1 : h1 b o <;> cases e2 : h2 b o <;> simp_all
theorem uni_assoc (h1 h2 h3 : Hp) : uni (uni h1 h2) h3 = uni h1 (uni h2 h3) := by
  funext b o; unfold uni; cases h1 b o <;> simp
theorem Dj.uni_left {h1 h2 h3 : Hp} : Dj (uni h1 h2) h3 ↔ Dj h1 h3 ∧ Dj h2 h3 := by
  constructor
  · intro h
    refine ⟨fun b o => ?_, fun b o => ?_⟩ <;> have := h b o <;> unfold uni at this <;> cases e1 : h1 b o <;> simp_all
  · rintro ⟨a, c⟩ b o
    have := a b o; have := c b o
    unfold uni; cases e1 : h1 b o <;> simp_all
theorem Dj.uni_right {h1 h2 h3 : Hp} : Dj h1 (uni h2 h3) ↔ Dj h1 h2 ∧ Dj h1 h3 := by
  constructor
  · intro h; have := (Dj.uni_left.1 h.symm); exact ⟨this.1.symm, this.2.symm⟩
  · rintro ⟨a, c⟩; exact (Dj.uni_left.2 ⟨a.symm, c.symm⟩).symm
theorem uni_left {h1 h2 : Hp} {b o s} (h : h1 b o = some s) : uni h1 h2 b o = some s := by unfold uni; rw [h]
theorem uni_right {h1 h2 : Hp} (d : Dj h1 h2) {b o s} (h : h2 b o = some s) : uni h1 h2 b o = some s := by
  rw [uni_comm d]; exact uni_left h
theorem Dj.emp_left (h : Hp) : Dj emp h := fun _ _ => .inl rfl
theorem uni_emp (h : Hp) : uni emp h = h := rfl

inductive Atom (X : Type) where
  | gone
  | mem (vs : List SV)
  | vec (sz n : Nat) (g : Nat → List SV)
  | obj (x : X)
abbrev SH (X : Type) := List (Atom X)

/-- A row of n elements of sz cells each lies from (b, p) on. -/
def RowAt (β : List Value) (im : Im) (sz n : Nat) (g : Nat → List SV) (b p : Nat) (h : Hp) : Prop :=
  ∃ rows : Nat → List Value, (∀ i, i < n → RelC β im (g i) (rows i) ∧ (rows i).length = sz) ∧ ∀ i, i < n → ∀ j x, (rows i)[j]? = some x → h b (p + (i * sz + j)) = some (.cell x)

section
variable {X : Type} (O : X → SH X) (im : Im)
mutual
inductive Sat : List Value → Atom X → Value → Hp → Prop
  | gone {β v h} : Sat β .gone v h
  | mem {β vs cs b p h} (hr : RelC β im vs cs) (hh : ∀ j x, cs[j]? = some x → h b (p + j) = some (.cell x)) : Sat β (.mem vs) (.pointer (some ⟨b, p, none⟩)) h
  | vec {β sz n g b p c h} (hc : n ≤ c) (rows : Nat → List Value) (hr : ∀ i, i < n → RelC β im (g i) (rows i)) (hl : ∀ i, i < c → (rows i).length = sz)
      (hh : ∀ i, i < c → ∀ j x, (rows i)[j]? = some x → h b (p + (i * sz + j)) = some (.cell x)) : Sat β (.vec sz n g) (.slice (some ⟨b, p, none⟩) n c) h
  | vec0 {β sz g h} : Sat β (.vec sz 0 g) (.slice none 0 0) h
  | obj {β β' x a h h'} (hs : HS β' (O x) β' h') (h0 : β'[0]? = some (.pointer (some a))) (hh : ∀ b o s, h' b o = some s → h b o = some s) : Sat β (.obj x) (.pointer (some a)) h
inductive HS : List Value → List (Atom X) → List Value → Hp → Prop
  | nil {β h} : HS β [] [] h
  | cons {β A l v vs h1 h2} (hd : Dj h1 h2) (h : Sat β A v h1) (t : HS β l vs h2) : HS β (A :: l) (v :: vs) (uni h1 h2)
end
end
end Go.Sy

namespace Go.Sy
open Go.RowKit

/-- β' has, at σ k, what β has at k. -/
def BLe (σ : Nat → Nat) (β β' : List Value) : Prop := ∀ k v, β[k]? = some v → β'[σ k]? = some v
def ILe (im im' : Im) : Prop := ∀ b o v, im b o = some v → im' b o = some v
theorem ILe.refl (im : Im) : ILe im im := fun _ _ _ h => h
theorem ILe.trans {a b c : Im} (h : ILe a b) (k : ILe b c) : ILe a c := fun _ _ _ e => k _ _ _ (h _ _ _ e)
theorem BLe.refl (β : List Value) : BLe id β β := fun _ _ h => h
theorem BLe.app (β e : List Value) : BLe id β (β ++ e) := fun k v h => by
  have hk : k < β.length := (List.getElem?_eq_some_iff.1 h).1
  simp only [id]; rw [List.getElem?_append_left hk]; exact h
theorem BLe.trans {σ τ : Nat → Nat} {a b c : List Value} (h : BLe σ a b) (k : BLe τ b c) : BLe (τ ∘ σ) a c := fun _ _ e => k _ _ (h _ _ e)

theorem SV.one_ren (σ : Nat → Nat) (v : SV) : (v.ren σ).one = v.one := by cases v <;> simp [SV.ren, SV.one]

mutual
theorem Rel.ren {σ β β' im im'} (hb : BLe σ β β') (hi : ILe im im') : ∀ {s v}, Rel β im s v → Rel β' im' (s.ren σ) v
  | _, _, .int => .int
  | _, _, .bool => .bool
  | _, _, .str => .str
  | _, _, .nilp => .nilp
  | _, _, .nils => .nils
  | _, _, .nilf => .nilf
  | _, _, .nilm => .nilm
  | _, _, .und => .und
  | _, _, .dead => .dead
  | _, _, .key h h1 => .key (hb _ _ h) h1
  | _, _, .off h => .off (hb _ _ h)
  | _, _, .offa h => .offa (hb _ _ h)
  | _, _, .elt h => .elt (hb _ _ h)
  | _, _, .sub h h1 h2 ha => .sub (hb _ _ h) h1 h2 ha
  | _, _, .sub0 h => .sub0 (hb _ _ h)
  | _, _, .sl h ha hl => .sl (hb _ _ h) ha hl
  | _, _, .ros rows h hl hc hm => .ros rows (fun i q => RelC.ren hb hi (h i q)) hl hc (fun i q j x e => hi _ _ _ (hm i q j x e))
  | _, _, .ros0 => .ros0
  | _, _, .roe rows h hl hx hm => .roe rows (fun i q => RelC.ren hb hi (h i q)) hl hx (fun i q j x e => hi _ _ _ (hm i q j x e))
  | _, _, .fn h => .fn (RelL.ren hb hi h)
  | _, _, .agg h => .agg (RelC.ren hb hi h)
  | _, _, .tup h => .tup (RelL.ren hb hi h)
  | _, _, .ifc h => .ifc (Rel.ren hb hi h)
  | _, _, .un => .un
theorem RelL.ren {σ β β' im im'} (hb : BLe σ β β') (hi : ILe im im') : ∀ {l vs}, RelL β im l vs → RelL β' im' (renL σ l) vs
  | _, _, .nil => .nil
  | _, _, .cons h t => .cons (Rel.ren hb hi h) (RelL.ren hb hi t)
theorem RelC.ren {σ β β' im im'} (hb : BLe σ β β') (hi : ILe im im') : ∀ {l vs}, RelC β im l vs → RelC β' im' (renL σ l) vs
  | _, _, .nil => .nil
  | _, _, .one h1 h t => .one (by rw [SV.one_ren]; exact h1) (Rel.ren hb hi h) (RelC.ren hb hi t)
  | _, _, .arr rows h hl t => .arr rows (fun i q => RelC.ren hb hi (h i q)) hl (RelC.ren hb hi t)
end

mutual
theorem SV.ren_id : ∀ v : SV, v.ren id = v
  | .key _ | .off .. | .offa .. | .elt .. | .sub .. | .sl .. | .int .. | .bool _ | .str _ | .nilp | .nils | .nilf | .nilm | .und | .dead => by simp [SV.ren]
  | .ros sz n g => by simp only [SV.ren]; congr 1; funext i; exact renL_id (g i)
  | .roe sz n g i f => by simp only [SV.ren]; congr 1; funext i; exact renL_id (g i)
  | .fn f l => by simp only [SV.ren]; rw [renL_id l]
  | .agg l => by simp only [SV.ren]; rw [renL_id l]
  | .arr sz n g => by simp only [SV.ren]; congr 1; funext i; exact renL_id (g i)
  | .tup l => by simp only [SV.ren]; rw [renL_id l]
  | .ifc t v => by simp only [SV.ren]; rw [SV.ren_id v]
  | .un v => by simp only [SV.ren]; rw [SV.ren_id v]
theorem renL_id : ∀ l : List SV, renL id l = l
  | [] => rfl
  | v :: l => by simp only [renL]; rw [SV.ren_id v, renL_id l]
end

theorem Rel.mono {β β' im im'} (hb : BLe id β β') (hi : ILe im im') {s v} (h : Rel β im s v) : Rel β' im' s v := by
  have := Rel.ren hb hi h; rwa [SV.ren_id] at this
theorem RelL.mono {β β' im im'} (hb : BLe id β β') (hi : ILe im im') {s v} (h : RelL β im s v) : RelL β' im' s v := by
  have := RelL.ren hb hi h; rwa [renL_id] at this
theorem RelC.mono {β β' im im'} (hb : BLe id β β') (hi : ILe im im') {s v} (h : RelC β im s v) : RelC β' im' s v := by
  have := RelC.ren hb hi h; rwa [renL_id] at this

def Atom.ren {X} (σ : Nat → Nat) : Atom X → Atom X
  | .gone => .gone
  | .mem vs => .mem (renL σ vs)
  | .vec sz n g => .vec sz n (fun i => renL σ (g i))
  | .obj x => .obj x
theorem Atom.ren_id {X} (A : Atom X) : A.ren id = A := by
  cases A with
  | gone => rfl
  | mem vs => simp [Atom.ren, renL_id]
  | vec sz n g => simp only [Atom.ren]; congr 1; funext i; exact renL_id _
  | obj x => rfl

section
variable {X : Type} {O : X → SH X} {im im' : Im}
mutual
theorem Sat.ren {σ β β'} (hb : BLe σ β β') (hi : ILe im im') : ∀ {A v h}, Sat O im β A v h → Sat O im' β' (A.ren σ) v h
  | _, _, _, .gone => .gone
  | _, _, _, .mem hr hh => .mem (RelC.ren hb hi hr) hh
  | _, _, _, .vec hc rows hr hl hh => .vec hc rows (fun i q => RelC.ren hb hi (hr i q)) hl hh
  | _, _, _, .vec0 => .vec0
  | _, _, _, .obj hs h0 hh => .obj (HS.mono (fun _ _ e => e) hi hs) h0 hh
theorem HS.mono {β β'} (hb : BLe id β β') (hi : ILe im im') : ∀ {l vs h}, HS O im β l vs h → HS O im' β' l vs h
  | _, _, _, .nil => .nil
  | _, _, _, .cons hd h t => .cons hd (by have := Sat.ren hb hi h; rwa [Atom.ren_id] at this) (HS.mono hb hi t)
end
theorem Sat.mono {β β'} (hb : BLe id β β') (hi : ILe im im') {A v h} (s : Sat O im β A v h) : Sat O im' β' A v h := by
  have := Sat.ren hb hi s; rwa [Atom.ren_id] at this
/-- More memory does no harm to one atom. -/
theorem Sat.more {β A v h h'} (s : Sat O im β A v h) (hh : ∀ b o x, h b o = some x → h' b o = some x) : Sat O im β A v h' := by
  cases s with
  | gone => exact .gone
  | mem hr hc => exact .mem hr fun j x e => hh _ _ _ (hc j x e)
  | vec hc rows hr hl hm => exact .vec hc rows hr hl fun i q j x e => hh _ _ _ (hm i q j x e)
  | vec0 => exact .vec0
  | obj hs h0 hx => exact .obj hs h0 fun b o s e => hh _ _ _ (hx b o s e)

theorem HS.len {β l vs h} (s : HS O im β l vs h) : l.length = vs.length := by
  induction l generalizing vs h with
  | nil => cases s; rfl
  | cons A l ih => cases s with | cons hd h t => simp [ih t]
/-- Atom k taken out, and another put in its place. -/
theorem HS.take {β l vs h k A} (s : HS O im β l vs h) (hk : l[k]? = some A) :
    ∃ v h1 h2, vs[k]? = some v ∧ Dj h1 h2 ∧ h = uni h1 h2 ∧ Sat O im β A v h1 ∧
      ∀ A' h1', Dj h1' h2 → Sat O im β A' v h1' → HS O im β (l.set k A') vs (uni h1' h2) := by
  induction l generalizing vs h k with
  | nil => simp at hk
  | cons B l ih =>
    cases s with
    | @cons _ _ _ v vs g1 g2 hd hb ht =>
      cases k with
      | zero =>
        simp at hk; subst hk
        exact ⟨v, g1, g2, rfl, hd, rfl, hb, fun A' h1' d' s' => by simpa using HS.cons d' s' ht⟩
      | succ k =>
        simp at hk
        obtain ⟨u, h1, h2, e, d, rfl, sa, back⟩ := ih ht hk
        have hd' := Dj.uni_right.1 hd
        refine ⟨u, h1, uni g1 h2, by simpa using e, Dj.uni_right.2 ⟨hd'.1.symm, d⟩, ?_, sa, ?_⟩
        · rw [← uni_assoc, ← uni_assoc, uni_comm hd'.1]
        · intro A' h1' d' s'
          have dd := Dj.uni_right.1 d'
          have := back A' h1' dd.2 s'
          have e2 : uni h1' (uni g1 h2) = uni g1 (uni h1' h2) := by rw [← uni_assoc, ← uni_assoc, uni_comm dd.1]
          rw [e2, List.set_cons_succ]
          exact .cons (Dj.uni_right.2 ⟨dd.1.symm, hd'.2⟩) hb this
theorem HS.snoc {β l vs h A v h1} (s : HS O im β l vs h) (d : Dj h1 h) (a : Sat O im β A v h1) : HS O im β (l ++ [A]) (vs ++ [v]) (uni h1 h) := by
  induction l generalizing vs h with
  | nil =>
    cases s with
    | nil => exact .cons d a .nil
  | cons B l ih =>
    cases s with
    | @cons _ _ _ v vs g1 g2 hd hb ht =>
      have dd := Dj.uni_right.1 d
      have := ih ht dd.2
      have e2 : uni h1 (uni g1 g2) = uni g1 (uni h1 g2) := by rw [← uni_assoc, ← uni_assoc, uni_comm dd.1]
      rw [e2]
      exact .cons (Dj.uni_right.2 ⟨dd.1.symm, hd⟩) hb this
end

/-- A block of the call's own: its mark of frozen cells is empty, or lies behind its cells. -/
def Loose (w : World) (b : Nat) : Prop := ∃ c e lo hi, w.heap[b]? = some (.cells c e (lo, hi)) ∧ (lo = hi ∨ c.size ≤ lo)
/-- The world W0 has become w; below block B nothing has turned; h is owned, im never turns any more. -/
structure Inv (W0 : World) (B : Nat) (im : Im) (h : Hp) (w : World) : Prop where
  below : Below B W0 w
  hB : B ≤ W0.heap.size
  cell : ∀ b o v, h b o = some (.cell v) → w.cell? ⟨b, o, none⟩ = some v ∧ Loose w b
  obj : ∀ b o x, h b o = some (.obj x) → o = 0 ∧ w.heap[b]? = some x ∧ ∀ c e f, x ≠ .cells c e f
  own : ∀ b o s, h b o = some s → B ≤ b
  imm : ∀ b o v, im b o = some v → w.cell? ⟨b, o, none⟩ = some v
  dj : ∀ b o v, im b o = some v → h b o = none

theorem Loose.frozen {w : World} {b o : Nat} {v : Value} (h : Loose w b) (hc : w.cell? ⟨b, o, none⟩ = some v) : w.frozen? ⟨b, o, none⟩ = false := by
  obtain ⟨c, e, lo, hi, hb, hl⟩ := h
  simp only [World.cell?, hb] at hc
  simp only [World.frozen?, hb]
  have : o < c.size := by
    have := (Array.getElem?_eq_some_iff.1 (by simpa using hc)).1; exact this
  simp; omega

section
variable {W0 : World} {B : Nat} {im : Im} {h : Hp} {w : World}
theorem Inv.lt (i : Inv W0 B im h w) {b o s} (e : h b o = some s) : b < w.heap.size := by
  cases s with
  | cell v => exact World.block_lt_of_cell? _ _ (i.cell b o v e).1
  | obj x => exact (Array.getElem?_eq_some_iff.1 (i.obj b o x e).2.1).1
theorem Inv.ilt (i : Inv W0 B im h w) {b o v} (e : im b o = some v) : b < w.heap.size := World.block_lt_of_cell? _ _ (i.imm b o v e)
theorem Inv.drew (i : Inv W0 B im h w) : Inv W0 B im h { w with drawn := w.drawn + 1 } :=
  ⟨i.below.drew, i.hB, fun b o v e => i.cell b o v e, fun b o x e => i.obj b o x e, i.own, fun b o v e => i.imm b o v e, i.dj⟩
theorem Inv.sub (i : Inv W0 B im h w) {h' : Hp} (hh : ∀ b o s, h' b o = some s → h b o = some s) : Inv W0 B im h' w :=
  ⟨i.below, i.hB, fun b o v e => i.cell b o v (hh _ _ _ e), fun b o x e => i.obj b o x (hh _ _ _ e), fun b o s e => i.own b o s (hh _ _ _ e), i.imm,
   fun b o v e => by cases e2 : h' b o with | none => rfl | some s => have := i.dj b o v e; rw [hh _ _ _ e2] at this; cases this⟩
/-- The cells of a new block. -/
def newCells (b : Nat) (cs : List Value) : Hp := fun b' o => if b' = b then (cs[o]?).map Slot.cell else none
theorem newCells_get {b : Nat} {cs : List Value} {o : Nat} {x : Value} (e : cs[o]? = some x) : newCells b cs b o = some (.cell x) := by simp [newCells, e]
theorem Inv.alloc (i : Inv W0 B im h w) (cs : List Value) (e : TypeId) :
    Dj (newCells w.heap.size cs) h ∧ Inv W0 B im (uni (newCells w.heap.size cs) h) { w with heap := w.heap.push (.cells cs.toArray e) } := by
  have hd : Dj (newCells w.heap.size cs) h := by
    intro b o
    by_cases hb : b = w.heap.size
    · right
      cases hx : h b o with
      | none => rfl
      | some s => have := i.lt hx; omega
    · left; simp [newCells, hb]
  have hsz : B ≤ w.heap.size := Nat.le_trans i.hB i.below.size
  have hold : ∀ b o, b < w.heap.size → World.cell? { w with heap := w.heap.push (.cells cs.toArray e) } ⟨b, o, none⟩ = w.cell? ⟨b, o, none⟩ := fun b o hb => World.cell?_alloc_lt w (.cells cs.toArray e) ⟨b, o, none⟩ hb
  have hhp : ∀ b, b < w.heap.size → (w.heap.push (.cells cs.toArray e))[b]? = w.heap[b]? := fun b hb => by rw [Array.getElem?_push]; simp [Nat.ne_of_lt hb]
  refine ⟨hd, ⟨i.below.alloc hsz _, i.hB, ?_, ?_, ?_, ?_, ?_⟩⟩
  · intro b o v hv
    unfold uni at hv
    by_cases hb : b = w.heap.size
    · subst hb
      have hn : h w.heap.size o = none := by cases hx : h w.heap.size o with | none => rfl | some s => have := i.lt hx; omega
      simp only [newCells, if_true] at hv
      cases hc : cs[o]? with
      | none => rw [hc] at hv; simp [hn] at hv
      | some x =>
        rw [hc] at hv; simp at hv; subst hv
        refine ⟨?_, cs.toArray, e, 0, 0, by simp, .inl rfl⟩
        simp [World.cell?, hc]
    · have hv' : h b o = some (.cell v) := by simpa [newCells, hb] using hv
      have hlt := i.lt hv'
      obtain ⟨h1, c, e', lo, hi, h2, h3⟩ := i.cell b o v hv'
      exact ⟨by rw [hold b o hlt]; exact h1, c, e', lo, hi, by rw [← h2]; exact hhp b hlt, h3⟩
  · intro b o x hx
    unfold uni at hx
    have hx' : h b o = some (.obj x) := by
      by_cases hb : b = w.heap.size
      · cases hc : cs[o]? <;> simp [newCells, hb, hc] at hx
        rw [hb]; exact hx
      · simpa [newCells, hb] using hx
    have hlt := i.lt hx'
    obtain ⟨h1, h2, h3⟩ := i.obj b o x hx'
    exact ⟨h1, by rw [← h2]; exact hhp b hlt, h3⟩
  · intro b o s hs
    unfold uni at hs
    by_cases hb : b = w.heap.size
    · omega
    · exact i.own b o s (by simpa [newCells, hb] using hs)
  · intro b o v hv
    rw [hold b o (i.ilt hv)]; exact i.imm b o v hv
  · intro b o v hv
    have hlt := i.ilt hv
    unfold uni
    simp [newCells, Nat.ne_of_lt hlt, i.dj b o v hv]
/-- h with another value in one cell. -/
def setHp (h : Hp) (b o : Nat) (v : Value) : Hp := fun b' o' => if b' = b ∧ o' = o then some (.cell v) else h b' o'
theorem Inv.setCell (i : Inv W0 B im h w) {b o : Nat} {v u : Value} (hv : h b o = some (.cell v)) : Inv W0 B im (setHp h b o u) (w.setCell ⟨b, o, none⟩ u) := by
  obtain ⟨hc, c, e, lo, hi, hb, hl⟩ := i.cell b o v hv
  have hheap : ∀ b', (w.setCell ⟨b, o, none⟩ u).heap[b']? = if b' = b then some (.cells (c.setIfInBounds o u) e (lo, hi)) else w.heap[b']? := by
    intro b'
    simp only [World.setCell, Array.getElem?_modify]
    by_cases hbb : b' = b
    · subst hbb; simp [hb]
    · rw [if_neg (fun q => hbb q.symm), if_neg hbb]
  refine ⟨i.below.setCell (p := ⟨b, o, none⟩) (i.own b o _ hv) u, i.hB, ?_, ?_, ?_, ?_, ?_⟩
  · intro b' o' v' hv'
    unfold setHp at hv'
    by_cases hh : b' = b ∧ o' = o
    · obtain ⟨rfl, rfl⟩ := hh
      simp at hv'; subst hv'
      exact ⟨World.cell?_setCell_same _ _ _ hc, _, _, _, _, (hheap b').trans (if_pos rfl), by simpa using hl⟩
    · rw [if_neg hh] at hv'
      obtain ⟨h1, c', e', lo', hi', h2, h3⟩ := i.cell b' o' v' hv'
      refine ⟨?_, ?_⟩
      · rw [World.cell?_setCell_other]; exact h1
        intro q; injection q with q1 q2; exact hh ⟨q1.symm, q2.symm⟩
      · by_cases hbb : b' = b
        · subst hbb; exact ⟨_, _, _, _, (hheap b').trans (if_pos rfl), by simpa using hl⟩
        · exact ⟨c', e', lo', hi', by rw [hheap, if_neg hbb]; exact h2, h3⟩
  · intro b' o' x hx
    unfold setHp at hx
    by_cases hh : b' = b ∧ o' = o
    · rw [if_pos hh] at hx; cases hx
    · rw [if_neg hh] at hx
      obtain ⟨h1, h2, h3⟩ := i.obj b' o' x hx
      refine ⟨h1, ?_, h3⟩
      by_cases hbb : b' = b
      · subst hbb; rw [hb] at h2; injection h2 with h2; exact absurd h2.symm (h3 _ _ _)
      · rw [hheap, if_neg hbb]; exact h2
  · intro b' o' s hs
    unfold setHp at hs
    by_cases hh : b' = b ∧ o' = o
    · obtain ⟨rfl, rfl⟩ := hh; exact i.own _ _ _ hv
    · rw [if_neg hh] at hs; exact i.own _ _ _ hs
  · intro b' o' v' hv'
    rw [World.cell?_setCell_other]; exact i.imm _ _ _ hv'
    intro q; injection q with q1 q2
    have := i.dj b' o' v' hv'; rw [← q1, ← q2, hv] at this; cases this
  · intro b' o' v' hv'
    have hn := i.dj b' o' v' hv'
    unfold setHp
    by_cases hh : b' = b ∧ o' = o
    · obtain ⟨rfl, rfl⟩ := hh; rw [hv] at hn; cases hn
    · rw [if_neg hh]; exact hn
end
end Go.Sy

/-! The small language, and its symbolic evaluator. -/
namespace Go.Sy
open Go.RowKit

/-- Constants. -/
inductive CV
  | int (k : IntKind) (n : Int) | bool (b : Bool) | str (l : List Nat) | nilp | nils | nilf | nilm | fn (f : Nat) | und
  deriving DecidableEq, Repr, Inhabited
def CV.val : CV → Value
  | .int k n => .int k n
  | .bool b => .bool b
  | .str l => .string ⟨(l.map UInt8.ofNat).toArray⟩
  | .nilp => .pointer none
  | .nils => .slice none 0 0
  | .nilf => .nilFunc
  | .nilm => .map none
  | .fn f => .func (.func f) #[] #[]
  | .und => undef
def CV.sv : CV → SV
  | .int k n => .int k n
  | .bool b => .bool b
  | .str l => .str ⟨(l.map UInt8.ofNat).toArray⟩
  | .nilp => .nilp
  | .nils => .nils
  | .nilf => .nilf
  | .nilm => .nilm
  | .fn f => .fn f []
  | .und => .und
def CV.ofVal : Value → Option CV
  | .int k n => some (.int k n)
  | .bool b => some (.bool b)
  | .string s => some (.str (s.data.toList.map UInt8.toNat))
  | .pointer none => some .nilp
  | .slice none 0 0 => some .nils
  | .nilFunc => some .nilf
  | .map none => some .nilm
  | .func (.func f) a b => if a.isEmpty && b.isEmpty then some (.fn f) else none
  | .tuple a => if a.isEmpty then some .und else none
  | _ => none
/-- Zero cells: a scalar, or an array's rows. -/
inductive ZV
  | one (c : CV) | arr (sz n : Nat) (row : List CV)
  deriving DecidableEq, Repr, Inhabited
def ZV.sv : ZV → SV
  | .one c => c.sv
  | .arr sz n row => .arr sz n (fun _ => row.map CV.sv)
def ZV.flat : ZV → List CV
  | .one c => [c]
  | .arr _ n row => (List.range n).flatMap fun _ => row

/-- Its rows are as long as told. -/
def ZV.ok : ZV → Bool
  | .one _ => true
  | .arr sz _ row => row.length == sz

inductive Opd | t (n : Nat) | c (v : CV)
  deriving DecidableEq, Repr, Inhabited
inductive EqK | int | str | bool | ptr | slc | agg (n : Nat)
  deriving DecidableEq, Repr, Inhabited
inductive MI
  | mv (x : Opd) | pick (c a b : Opd)
  | bin (o : BinOp) (x y : Opd) | eq (neg : Bool) (k : EqK) (x y : Opd) | un (o : UnOp) (x : Opd)
  | conv (k : IntKind) (x : Opd) | b2s (x : Opd) | slsl (x : Opd) | same (x : Opd)
  | ext (x : Opd) (i : Nat) | fld (x : Opd) (o : Nat) (n : Option Nat)
  | idxS (x i : Opd) | idxA (x i : Opd) (len sz : Nat) (n : Option Nat)
  | fadr (x : Opd) (o : Nat) | iadr (x i : Opd) (sz : Nat) | iadrA (x i : Opd) (len sz : Nat)
  | nilc (x : Opd) | ld (x : Opd) (n : Option Nat) | st (x v : Opd) (n : Nat)
  | alc (z : List ZV) | box (x : Opd) (n : Nat)
  | bld (z : List ZV) (ps : List (Nat × Nat × Opd)) | bsl (sz len : Nat) (z : List ZV) (ps : List (Nat × Opd))
  | mks (sz bytes : Nat) (z : List ZV) (len cap : Opd)
  | slc (x : Opd) (sz : Nat) (lo hi mx : Option Opd) | slS (x : Opd) (lo hi : Option Opd)
  | call (f : Nat) (args : List Opd) | callv (x : Opd) (args : List Opd)
  | len (s : Bool) (x : Opd) | cap (x : Opd)
  | app (sz bytes : Nat) (x y : Opd) | copy (sz : Nat) (x y : Opd) | clear (sz : Nat) (z : List ZV) (x : Opd)
  | mn (x y : Opd) | mx (x y : Opd)
  | mkf (f : Nat) (caps : List Opd) | ifc (t : Nat) (x : Opd) | pan
  deriving Repr, Inhabited
/-- An operation: the slot that it writes (one past the frame: none), its guard (a slot and what it must hold), a re-check or not. -/
structure MO where
  d : Option Nat
  g : Option (Nat × Bool)
  i : MI
  deriving Repr, Inhabited
/-- A region that draws its order: one order of what acts after another, from branch to branch; 'op true': a look again. -/
inductive DT
  | nil | bad | op (c : Bool) (o : MO) (t : DT) | br (l r : DT)
  deriving Repr, Inhabited
inductive MC
  | skip | ret | exit (id : Nat) | seq (a b : MC) | ops (l : List MO) | dops (t : DT) | cond (c : Opd) (a b : MC) | blk (id : Nat) (c : MC) | loop (id : Nat) (c : MC)
  | rfunc (id : Nat) (f : Opd) (ps : List Nat) (a c : MC)
  deriving Repr, Inhabited

abbrev Fr := List (Nat × SV)
def lk : Fr → Nat → SV
  | [], _ => .dead
  | (k, v) :: ρ, t => bif k == t then v else lk ρ t
def Opd.ev (ρ : Fr) : Opd → SV
  | .t n => lk ρ n
  | .c v => v.sv
def setD (ρ : Fr) (d : Option Nat) (v : SV) : Fr := match d with | some d => (d, v) :: ρ | none => ρ

/-- What an operation comes to: v and the heap H; 'req': to be shown; 'asm': may be used. -/
inductive Out (X : Type) : Type 1
  | bad
  | ok (v : SV) (H : SH X)
  | req (p : Prop) (o : Out X)
  | asm (p : Prop) (o : Out X)
  | all {τ : Type} (f : τ → Out X)
def Out.sem {X} : Out X → (SV → SH X → Prop) → Prop
  | .bad, _ => False
  | .ok v H, k => k v H
  | .req p o, k => p ∧ o.sem k
  | .asm p o, k => p → o.sem k
  | .all f, k => ∀ x, (f x).sem k

/-! ### Cells of a list -/
def SV.sz : SV → Nat
  | .arr s n _ => s * n
  | _ => 1
def szL : List SV → Nat
  | [] => 0
  | v :: l => v.sz + szL l
def upd (g : Nat → List SV) (i : Nat) (r : List SV) : Nat → List SV := fun j => if j = i then r else g j
def lst (rows : List (List SV)) : Nat → List SV := fun i => rows.getD i (rows.headD [])
def apnd (n : Nat) (g g' : Nat → List SV) : Nat → List SV := fun i => if i < n then g i else g' (i - n)
def shft (lo : Nat) (g : Nat → List SV) : Nat → List SV := fun i => g (lo + i)
/-- Cell o. -/
def getC : List SV → Nat → Option SV
  | [], _ => none
  | .arr s n g :: l, o => if o < s * n then getC1 (g (o / s)) (o % s) else getC l (o - s * n)
  | v :: l, 0 => if v.one then some v else none
  | _ :: l, o + 1 => getC l o
where
  getC1 : List SV → Nat → Option SV
  | [], _ => none
  | v :: _, 0 => if v.one then some v else none
  | v :: l, o + 1 => if v.one then getC1 l o else none
/-- What lies behind o cells. -/
def dropC : List SV → Nat → Option (List SV)
  | l, 0 => some l
  | [], _ + 1 => none
  | v :: l, o + 1 => if v.sz ≤ o + 1 then dropC l (o + 1 - v.sz) else none
def takeC : List SV → Nat → Option (List SV)
  | _, 0 => some []
  | [], _ + 1 => none
  | v :: l, o + 1 => if v.sz ≤ o + 1 then (takeC l (o + 1 - v.sz)).map (v :: ·) else none
def ldV (vs : List SV) (o : Nat) : Option Nat → Option SV
  | none => getC vs o
  | some n => ((dropC vs o).bind (takeC · n)).map SV.agg
/-- Cells from o on replaced by as many others. -/
def putC (vs : List SV) (o : Nat) (l : List SV) : Option (List SV) :=
  match takeC vs o, dropC vs (o + szL l) with
  | some a, some b => some (a ++ l ++ b)
  | _, _ => none
def setC : List SV → Nat → SV → Option (List SV)
  | [], _, _ => none
  | .arr s n g :: l, o, v => if o < s * n then (setC1 (g (o / s)) (o % s) v).map (fun r => .arr s n (upd g (o / s) r) :: l) else (setC l (o - s * n) v).map (.arr s n g :: ·)
  | u :: l, 0, v => if u.one then some (v :: l) else none
  | u :: l, o + 1, v => (setC l o v).map (u :: ·)
where
  setC1 : List SV → Nat → SV → Option (List SV)
  | [], _, _ => none
  | u :: l, 0, v => if u.one then some (v :: l) else none
  | u :: l, o + 1, v => if u.one then (setC1 l o v).map (u :: ·) else none
def cellsOf : SV → List SV
  | .agg l => l
  | v => [v]
def okCells : SV → Bool
  | .agg _ => true
  | v => v.one
def stV (vs : List SV) (o : Nat) (v : SV) (n : Nat) : Option (List SV) :=
  match v with
  | .agg l => if szL l = n then putC vs o l else none
  | v => if v.one && n == 1 then setC vs o v else none
/-- The array that begins at cell o. -/
def getA : List SV → Nat → Option (Nat × Nat × (Nat → List SV))
  | .arr s n g :: l, o => if o = 0 then some (s, n, g) else if s * n ≤ o then getA l (o - s * n) else none
  | _ :: l, o + 1 => getA l o
  | _, _ => none
def setA : List SV → Nat → (Nat → List SV) → List SV
  | .arr s n g :: l, o, g' => if o = 0 then .arr s n g' :: l else .arr s n g :: setA l (o - s * n) g'
  | v :: l, o + 1, g' => v :: setA l o g'
  | l, _, _ => l

section
variable {X : Type}
def one? (v : Option SV) (H : SH X) : Out X := match v with | some v => .ok v H | none => .bad
def evLd (p : SV) (n : Option Nat) (H : SH X) : Out X :=
  match p with
  | .key k => match H[k]? with | some (.mem vs) => one? (ldV vs 0 n) H | _ => .bad
  | .off k o => match H[k]? with | some (.mem vs) => one? (ldV vs o n) H | _ => .bad
  | .offa k o sz i f => match H[k]? with
    | some (.mem vs) => (match getA vs o with
      | some (s, m, g) => if s = sz then .req (i < m) (one? (ldV (g i) f n) H) else .bad
      | none => one? (ldV vs (o + (i * sz + f)) n) H)
    | _ => .bad
  | .elt k sz i f => match H[k]? with | some (.vec s m g) => if s = sz then .req (i < m) (one? (ldV (g i) f n) H) else .bad | _ => .bad
  | .roe _ _ g i f => one? (ldV (g i) f n) H
  | _ => .bad
def put? (v : Option (List SV)) (k : Nat) (H : SH X) (f : List SV → Atom X) : Out X := match v with | some vs => .ok .und (H.set k (f vs)) | none => .bad
def evSt (p v : SV) (n : Nat) (H : SH X) : Out X :=
  match p with
  | .key k => match H[k]? with | some (.mem vs) => put? (stV vs 0 v n) k H .mem | _ => .bad
  | .off k o => match H[k]? with | some (.mem vs) => put? (stV vs o v n) k H .mem | _ => .bad
  | .offa k o sz i f => match H[k]? with
    | some (.mem vs) => (match getA vs o with
      | some (s, m, g) => if s = sz then .req (i < m) (put? (stV (g i) f v n) k H (fun r => .mem (setA vs o (upd g i r)))) else .bad
      | none => put? (stV vs (o + (i * sz + f)) v n) k H .mem)
    | _ => .bad
  | .elt k sz i f => match H[k]? with | some (.vec s m g) => if s = sz then .req (i < m) (put? (stV (g i) f v n) k H (fun r => .vec s m (upd g i r))) else .bad | _ => .bad
  | _ => .bad
/-- What a value is, if it is any. -/
def stp : SV → SV
  | .un v => v
  | v => v
def vld : SV → Bool
  | .un _ => false
  | _ => true
/-- A value that is there where c holds. -/
def mkO (c : Bool) (v : SV) : SV := match c with
  | true => v
  | false => .un (stp v)
def evPick2 (g : Bool) (a b : SV) (H : SH X) : Out X := match a, b with
  | .bool x, .bool y => .ok (.bool (cond g x y)) H
  | .int k x, .int k' y => if k = k' then .ok (.int k (cond g x y)) H else .bad
  | x, y => match g with | true => .ok x H | false => .ok y H
def evPick (c a b : SV) (H : SH X) : Out X := match c with
  | .bool g => .req ((g = true → vld a = true) ∧ (g = false → vld b = true)) (evPick2 g (stp a) (stp b) H)
  | _ => .bad
def evBin (o : BinOp) (x y : SV) (H : SH X) : Out X :=
  match x, y with
  | .int k a, .int k' b => match o with
    | .shl => .req (0 ≤ b) (.ok (.int k (k.wrap (a * 2 ^ (min b.toNat k.bits)))) H)
    | .shr => .req (0 ≤ b) (.ok (.int k (a.fdiv (2 ^ (min b.toNat k.bits)))) H)
    | o => if k = k' then (match o with
      | .add => .ok (.int k (k.wrap (a + b))) H
      | .sub => .ok (.int k (k.wrap (a - b))) H
      | .mul => .ok (.int k (k.wrap (a * b))) H
      | .quo => .req (b ≠ 0) (.ok (.int k (k.wrap (a.tdiv b))) H)
      | .rem => .req (b ≠ 0) (.ok (.int k (a.tmod b)) H)
      | .lss => .ok (.bool (decide (a < b))) H
      | .leq => .ok (.bool (decide (a ≤ b))) H
      | .gtr => .ok (.bool (decide (b < a))) H
      | .geq => .ok (.bool (decide (b ≤ a))) H
      | .and => .ok (.int k (k.wrap (BitVec.ofInt k.bits a &&& BitVec.ofInt k.bits b).toNat)) H
      | .or => .ok (.int k (k.wrap (BitVec.ofInt k.bits a ||| BitVec.ofInt k.bits b).toNat)) H
      | .xor => .ok (.int k (k.wrap (BitVec.ofInt k.bits a ^^^ BitVec.ofInt k.bits b).toNat)) H
      | .andNot => .ok (.int k (k.wrap (BitVec.ofInt k.bits a &&& ~~~ BitVec.ofInt k.bits b).toNat)) H
      | _ => .bad) else .bad
  | .str a, .str b => match o with
    | .add => .req (a.size + b.size ≤ 9223372036854775807) (.ok (.str (a ++ b)) H)
    | _ => .bad
  | _, _ => .bad
def eqInts : List SV → List SV → Option Bool
  | [], [] => some true
  | .int k x :: l, .int k' y :: l' => if k = k' then (eqInts l l').map (fun b => decide (x = y) && b) else none
  | _, _ => none
def isPtr (v : SV) (H : SH X) : Bool :=
  match v with
  | .key k => match H[k]? with | some (.mem _) => true | some (.obj _) => true | _ => false
  | .off .. | .offa .. | .elt .. | .roe .. => true
  | _ => false
def eqB (neg : Bool) (b : Bool) (H : SH X) : Out X := match neg with | true => .ok (.bool (!b)) H | false => .ok (.bool b) H
def evEq (neg : Bool) (k : EqK) (x y : SV) (H : SH X) : Out X :=
  match k, x, y with
  | .int, .int k a, .int k' b => if k = k' then eqB neg (decide (a = b)) H else .bad
  | .str, .str a, .str b => eqB neg (decide (a = b)) H
  | .bool, .bool a, .bool b => eqB neg (a == b) H
  | .ptr, .nilp, .nilp => eqB neg true H
  | .ptr, v, .nilp => if isPtr v H then eqB neg false H else .bad
  | .slc, .nils, .nils => eqB neg true H
  | .slc, .key k, .nils => match H[k]? with | some (.vec _ n _) => .all fun b : Bool => .asm (b = true → n = 0) (eqB neg b H) | _ => .bad
  | .slc, .ros _ n _, .nils => .all fun b : Bool => .asm (b = true → n = 0) (eqB neg b H)
  | .agg n, .agg a, .agg b => if a.length = n then (match eqInts a b with | some t => eqB neg t H | none => .bad) else .bad
  | _, _, _ => .bad
def evUn (o : UnOp) (x : SV) (H : SH X) : Out X :=
  match o, x with
  | .not, .bool b => .ok (.bool (!b)) H
  | .neg, .int k n => .ok (.int k (k.wrap (0 - n))) H
  | .xor, .int k n => .ok (.int k (k.wrap (BitVec.ofInt k.bits (if k.signed then -1 else k.max) ^^^ BitVec.ofInt k.bits n).toNat)) H
  | _, _ => .bad
def byteOf : List SV → UInt8
  | [.int .u8 n] => UInt8.ofNat n.toNat
  | _ => 0
def isBytes (n : Nat) (g : Nat → List SV) : Prop := ∀ i, i < n → ∃ x, g i = [.int .u8 x]
def mkStr (n : Nat) (g : Nat → List SV) : ByteArray := ⟨((List.range n).map fun i => byteOf (g i)).toArray⟩
def evB2s (x : SV) (H : SH X) : Out X :=
  match x with
  | .nils => .ok (.str ⟨#[]⟩) H
  | .key k => match H[k]? with | some (.vec s n g) => if s = 1 then .req (isBytes n g) (.ok (.str (mkStr n g)) H) else .bad | _ => .bad
  | .ros s n g => if s = 1 then .req (isBytes n g) (.ok (.str (mkStr n g)) H) else .bad
  | .sub k s lo hi => match H[k]? with | some (.vec s' n g) => if s = 1 ∧ s' = 1 then .req (hi ≤ n ∧ isBytes (hi - lo) (shft lo g)) (.ok (.str (mkStr (hi - lo) (shft lo g))) H) else .bad | _ => .bad
  | _ => .bad
def bt (s : ByteArray) (j : Int) : Int := ((s.data.toList.getD j.toNat 0).toNat : Int)
def bnd (j : Int) (n : Nat) (o : Out X) : Out X := .req (0 ≤ j ∧ j < n) o
def evIdxS (x i : SV) (H : SH X) : Out X := match x, i with | .str s, .int _ j => bnd j s.size (.ok (.int .u8 (bt s j)) H) | _, _ => .bad
def evIdxA (x i : SV) (len sz : Nat) (n : Option Nat) (H : SH X) : Out X :=
  match x, i with
  | .agg [.arr s m g], .int _ j => if s = sz then bnd j len (.req (len ≤ m) (one? (ldV (g j.toNat) 0 n) H)) else .bad
  | .agg l, .int _ j => bnd j len (one? (ldV l (j.toNat * sz) n) H)
  | _, _ => .bad
def evFadr (x : SV) (o : Nat) (H : SH X) : Out X :=
  match x with
  | .key k => match H[k]? with | some (.mem _) => .ok (.off k o) H | _ => .bad
  | .off k p => .ok (.off k (p + o)) H
  | .offa k p sz i f => .ok (.offa k p sz i (f + o)) H
  | .elt k sz i f => .ok (.elt k sz i (f + o)) H
  | .roe sz n g i f => .ok (.roe sz n g i (f + o)) H
  | _ => .bad
def evIadr (x i : SV) (sz : Nat) (H : SH X) : Out X :=
  match x, i with
  | .key k, .int _ j => match H[k]? with | some (.vec s n _) => if s = sz then bnd j n (.ok (.elt k sz j.toNat 0) H) else .bad | _ => .bad
  | .ros s n g, .int _ j => if s = sz then bnd j n (.ok (.roe sz n g j.toNat 0) H) else .bad
  | .sub k s lo hi, .int _ j => if s = sz then bnd j (hi - lo) (.ok (.elt k sz (lo + j.toNat) 0) H) else .bad
  | .sl k s lo len _, .int _ j => if s = sz then bnd j len (.ok (.offa k 0 sz (lo + j.toNat) 0) H) else .bad
  | _, _ => .bad
def evIadrA (x i : SV) (len sz : Nat) (H : SH X) : Out X :=
  match i with
  | .int _ j => bnd j len (match x with
    | .key k => (match H[k]? with | some (.mem _) => .ok (.offa k 0 sz j.toNat 0) H | _ => .bad)
    | .off k o => .ok (.offa k o sz j.toNat 0) H
    | .elt k s i f => .ok (.elt k s i (f + j.toNat * sz)) H
    | .roe s n g i f => .ok (.roe s n g i (f + j.toNat * sz)) H
    | _ => .bad)
  | _ => .bad
def evNilc (x : SV) (H : SH X) : Out X := match x with | .fn f l => .ok (.fn f l) H | v => if isPtr v H then .ok v H else .bad
def evBox (x : SV) (n : Nat) (H : SH X) : Out X := if okCells x && szL (cellsOf x) == n then .ok (.key H.length) (H ++ [.mem (cellsOf x)]) else .bad
def zsv (z : List ZV) : List SV := z.map ZV.sv
def fillA (z : List SV) (ρ : Fr) : List (Nat × Nat × Opd) → Option (List SV)
  | [] => some z
  | (o, n, x) :: r => if okCells (x.ev ρ) && szL (cellsOf (x.ev ρ)) == n then (match stV z o (x.ev ρ) n with | some z' => fillA z' ρ r | none => none) else none
def fillR (rows : List (List SV)) (sz : Nat) (ρ : Fr) : List (Nat × Opd) → Option (List (List SV))
  | [] => some rows
  | (i, x) :: r => if okCells (x.ev ρ) && szL (cellsOf (x.ev ρ)) == sz && decide (i < rows.length) then fillR (rows.set i (cellsOf (x.ev ρ))) sz ρ r else none
def evBld (z : List ZV) (ps : List (Nat × Nat × Opd)) (ρ : Fr) (H : SH X) : Out X := match fillA (zsv z) ρ ps with | some l => .ok (.agg l) H | none => .bad
def evBsl (sz len : Nat) (z : List ZV) (ps : List (Nat × Opd)) (ρ : Fr) (H : SH X) : Out X :=
  match fillR (List.replicate len (zsv z)) sz ρ ps with | some rows => .ok (.key H.length) (H ++ [.vec sz len (lst rows)]) | none => .bad
def evMks (sz bytes : Nat) (z : List ZV) (n c : SV) (H : SH X) : Out X :=
  match n, c with
  | .int .i64 n, .int .i64 c => .req (0 ≤ n ∧ n ≤ c ∧ c * bytes ≤ 140737488355328 ∧ c ≤ 9223372036854775807) (.ok (.key H.length) (H ++ [.vec sz n.toNat (fun _ => zsv z)]))
  | _, _ => .bad
def bdO (ρ : Fr) (d : Int) : Option Opd → Option Int
  | none => some d
  | some x => match x.ev ρ with | .int _ j => some j | _ => none
def evSlc (x : SV) (sz : Nat) (lo hi mx : Option Opd) (ρ : Fr) (H : SH X) : Out X :=
  match x with
  | .key k => match H[k]?, mx with
    | some (.vec s n _), none => if s = sz then (match bdO ρ 0 lo, bdO ρ n hi with
      | some l, some h => .req (0 ≤ l ∧ l ≤ h ∧ h ≤ n) (.ok (.sub k sz l.toNat h.toNat) H) | _, _ => .bad) else .bad
    | _, _ => .bad
  | .sub k s a b => match mx with
    | none => if s = sz then (match bdO ρ 0 lo, bdO ρ ((b - a : Nat) : Int) hi with
      | some l, some h => .req (0 ≤ l ∧ l ≤ h ∧ h ≤ ((b - a : Nat) : Int)) (.ok (.sub k sz (a + l.toNat) (a + h.toNat)) H) | _, _ => .bad) else .bad
    | _ => .bad
  | .ros s n g => match mx with
    | none => if s = sz then (match bdO ρ 0 lo, bdO ρ n hi with
      | some l, some h => .req (0 ≤ l ∧ l ≤ h ∧ h ≤ n) (.ok (.ros sz (h.toNat - l.toNat) (shft l.toNat g)) H) | _, _ => .bad) else .bad
    | _ => .bad
  | .nils => match bdO ρ 0 lo, bdO ρ 0 hi, bdO ρ 0 mx with
    | some l, some h, some m => .req (l = 0 ∧ h = 0 ∧ m = 0) (.ok .nils H) | _, _, _ => .bad
  | .sl k s a n c => if s = sz then (match bdO ρ 0 lo, bdO ρ n hi, bdO ρ c mx with
      | some l, some h, some m => .req (0 ≤ l ∧ l ≤ h ∧ h ≤ m ∧ m ≤ c) (.ok (.sl k sz (a + l.toNat) (h.toNat - l.toNat) (m.toNat - l.toNat)) H) | _, _, _ => .bad) else .bad
  | _ => .bad
def evSlS (x : SV) (lo hi : Option Opd) (ρ : Fr) (H : SH X) : Out X :=
  match x with
  | .str s => match bdO ρ 0 lo, bdO ρ s.size hi with
    | some l, some h => .req (0 ≤ l ∧ l ≤ h ∧ h ≤ s.size) (.ok (.str (s.extract l.toNat h.toNat)) H) | _, _ => .bad
  | _ => .bad
def evLen (s : Bool) (x : SV) (H : SH X) : Out X :=
  match s, x with
  | false, .nils => .ok (.int .i64 0) H
  | false, .key k => match H[k]? with | some (.vec _ n _) => .ok (.int .i64 n) H | _ => .bad
  | false, .ros _ n _ => .ok (.int .i64 n) H
  | false, .sub _ _ lo hi => .ok (.int .i64 ((hi - lo : Nat) : Int)) H
  | false, .sl _ _ _ n _ => .ok (.int .i64 n) H
  | true, .str s => .ok (.int .i64 s.size) H
  | _, _ => .bad
def evCap (x : SV) (H : SH X) : Out X := match x with | .sl _ _ _ _ c => .ok (.int .i64 c) H | .nils => .ok (.int .i64 0) H | _ => .bad
/-- Rows that are read. -/
def rowsOf (x : SV) (sz : Nat) (H : SH X) : Option (Nat × (Nat → List SV)) :=
  match x with
  | .nils => some (0, fun _ => [])
  | .key k => match H[k]? with | some (.vec s n g) => if s = sz then some (n, g) else none | _ => none
  | .ros s n g => if s = sz then some (n, g) else none
  | .str s => if sz = 1 then some (s.size, fun i => [.int .u8 (bt s i)]) else none
  | .sub k s lo hi => match H[k]? with | some (.vec s' _ g) => if s = sz ∧ s' = sz then some (hi - lo, shft lo g) else none | _ => none
  | _ => none
def inB (x : SV) (H : SH X) : Prop := match x with | .sub k _ _ hi => (match H[k]? with | some (.vec _ n _) => hi ≤ n | _ => False) | _ => True
def keyOf : SV → Option Nat | .key k => some k | .sub k _ _ _ => some k | _ => none
def evApp (sz bytes : Nat) (x y : SV) (H : SH X) : Out X :=
  match rowsOf y sz H with
  | none => .bad
  | some (m, gy) => match x with
    | .nils => .req (inB y H ∧ m * bytes ≤ 140737488355328) (.ok (.key H.length) (H ++ [.vec sz m gy]))
    | .key k => match H[k]? with
      | some (.vec s n g) => if s = sz then .req (inB y H ∧ (n + m) * bytes ≤ 140737488355328) (.ok (.key H.length) (H.set k .gone ++ [.vec sz (n + m) (apnd n g gy)])) else .bad
      | _ => .bad
    | .sub k s lo hi => match H[k]? with
      | some (.vec s' n g) => if s = sz ∧ s' = sz then .req (inB y H ∧ hi ≤ n ∧ ((hi - lo) + m) * bytes ≤ 140737488355328)
          (.ok (.key H.length) (H.set k .gone ++ [.vec sz ((hi - lo) + m) (apnd (hi - lo) (shft lo g) gy)])) else .bad
      | _ => .bad
    | _ => .bad
def wrt (lo cnt : Nat) (g g' : Nat → List SV) : Nat → List SV := fun i => if lo ≤ i ∧ i < lo + cnt then g' (i - lo) else g i
def evCopy (sz : Nat) (x y : SV) (H : SH X) : Out X :=
  match rowsOf y sz H with
  | none => .bad
  | some (m, gy) => match x with
    | .nils => .req (inB y H) (.ok (.int .i64 0) H)
    | .key k => match H[k]? with
      | some (.vec s n g) => if s = sz then .req (inB y H) (.ok (.int .i64 (min m n : Nat)) (H.set k (.vec sz n (wrt 0 (min m n) g gy)))) else .bad
      | _ => .bad
    | .sub k s lo hi => match H[k]? with
      | some (.vec s' n g) => if s = sz ∧ s' = sz then .req (inB y H ∧ hi ≤ n) (.ok (.int .i64 (min m (hi - lo) : Nat)) (H.set k (.vec sz n (wrt lo (min m (hi - lo)) g gy)))) else .bad
      | _ => .bad
    | _ => .bad
def evClear (sz : Nat) (z : List ZV) (x : SV) (H : SH X) : Out X :=
  match x with
  | .nils => .ok (.tup []) H
  | .key k => match H[k]? with | some (.vec s n _) => if s = sz then .ok (.tup []) (H.set k (.vec sz n (fun _ => zsv z))) else .bad | _ => .bad
  | .sub k s lo hi => match H[k]? with
    | some (.vec s' n g) => if s = sz ∧ s' = sz then .req (hi ≤ n) (.ok (.tup []) (H.set k (.vec sz n (wrt lo (hi - lo) g (fun _ => zsv z))))) else .bad
    | _ => .bad
  | _ => .bad
def evMM (mx : Bool) (x y : SV) (H : SH X) : Out X :=
  match x, y with
  | .int k a, .int _ b => .ok (.int k (if mx then max a b else min a b)) H
  | _, _ => .bad
def evSlsl (x : SV) (H : SH X) : Out X := match x with | .key k => (match H[k]? with | some (.vec s n _) => .req (0 < s ∧ 0 < n) (.ok (.key k) H) | _ => .bad) | _ => .bad
abbrev Gam (X : Type) := Nat → List SV → SH X → Out X
def evCallv (Γ : Gam X) (x : SV) (args : List SV) (H : SH X) : Out X := match x with | .fn f caps => Γ f (args ++ caps) H | _ => .bad
def evConv (k : IntKind) (x : SV) (H : SH X) : Out X := match x with | .int _ n => .ok (.int k (k.wrap n)) H | _ => .bad
def evSame (x : SV) (H : SH X) : Out X := match x with | .str s => .ok (.str s) H | _ => .bad
def evExt (x : SV) (i : Nat) (H : SH X) : Out X := match x with | .tup l => one? l[i]? H | _ => .bad
def evFld (x : SV) (o : Nat) (n : Option Nat) (H : SH X) : Out X := match x with | .agg l => one? (ldV l o n) H | _ => .bad
def evs (ρ : Fr) (l : List Opd) : List SV := l.map (Opd.ev ρ)
def evI (Γ : Gam X) (ρ : Fr) (H : SH X) : MI → Out X
  | .mv x => .ok (x.ev ρ) H
  | .pick c a b => evPick (c.ev ρ) (a.ev ρ) (b.ev ρ) H
  | .bin o x y => evBin o (x.ev ρ) (y.ev ρ) H
  | .eq neg k x y => evEq neg k (x.ev ρ) (y.ev ρ) H
  | .un o x => evUn o (x.ev ρ) H
  | .conv k x => evConv k (x.ev ρ) H
  | .b2s x => evB2s (x.ev ρ) H
  | .slsl x => evSlsl (x.ev ρ) H
  | .same x => evSame (x.ev ρ) H
  | .ext x i => evExt (x.ev ρ) i H
  | .fld x o n => evFld (x.ev ρ) o n H
  | .idxS x i => evIdxS (x.ev ρ) (i.ev ρ) H
  | .idxA x i len sz n => evIdxA (x.ev ρ) (i.ev ρ) len sz n H
  | .fadr x o => evFadr (x.ev ρ) o H
  | .iadr x i sz => evIadr (x.ev ρ) (i.ev ρ) sz H
  | .iadrA x i len sz => evIadrA (x.ev ρ) (i.ev ρ) len sz H
  | .nilc x => evNilc (x.ev ρ) H
  | .ld x n => evLd (x.ev ρ) n H
  | .st x v n => evSt (x.ev ρ) (v.ev ρ) n H
  | .alc z => .ok (.key H.length) (H ++ [.mem (zsv z)])
  | .box x n => evBox (x.ev ρ) n H
  | .bld z ps => evBld z ps ρ H
  | .bsl sz len z ps => evBsl sz len z ps ρ H
  | .mks sz bytes z n c => evMks sz bytes z (n.ev ρ) (c.ev ρ) H
  | .slc x sz lo hi mx => evSlc (x.ev ρ) sz lo hi mx ρ H
  | .slS x lo hi => evSlS (x.ev ρ) lo hi ρ H
  | .call f args => Γ f (evs ρ args) H
  | .callv x args => evCallv Γ (x.ev ρ) (evs ρ args) H
  | .len s x => evLen s (x.ev ρ) H
  | .cap x => evCap (x.ev ρ) H
  | .app sz bytes x y => evApp sz bytes (x.ev ρ) (y.ev ρ) H
  | .copy sz x y => evCopy sz (x.ev ρ) (y.ev ρ) H
  | .clear sz z x => evClear sz z (x.ev ρ) H
  | .mn x y => evMM false (x.ev ρ) (y.ev ρ) H
  | .mx x y => evMM true (x.ev ρ) (y.ev ρ) H
  | .mkf f caps => .ok (.fn f (evs ρ caps)) H
  | .ifc t x => .ok (.ifc t (x.ev ρ)) H
  | .pan => .bad
end
/-! ### What acts; what is read -/
def effect : MI → Bool
  | .st .. | .alc .. | .box .. | .bsl .. | .mks .. | .call .. | .callv .. | .app .. | .copy .. | .clear .. | .slsl .. | .eq _ .slc .. | .pan => true
  | _ => false
def Opd.rd : Opd → List Nat
  | .t n => [n]
  | .c _ => []
def oRd : Option Opd → List Nat
  | some x => x.rd
  | none => []
def MI.rd : MI → List Nat
  | .mv x | .un _ x | .conv _ x | .b2s x | .slsl x | .same x | .ext x _ | .fld x _ _ | .fadr x _ | .nilc x | .ld x _ | .box x _ | .len _ x | .cap x | .clear _ _ x | .ifc _ x => x.rd
  | .pick c a b => c.rd ++ a.rd ++ b.rd
  | .bin _ x y | .eq _ _ x y | .idxS x y | .idxA x y _ _ _ | .iadr x y _ | .iadrA x y _ _ | .st x y _ | .mks _ _ _ x y | .app _ _ x y | .copy _ x y | .mn x y | .mx x y => x.rd ++ y.rd
  | .alc _ | .pan => []
  | .bld _ ps => ps.flatMap fun p => p.2.2.rd
  | .bsl _ _ _ ps => ps.flatMap fun p => p.2.rd
  | .slc x _ u v y => x.rd ++ oRd u ++ oRd v ++ oRd y
  | .slS x u v => x.rd ++ oRd u ++ oRd v
  | .call _ l | .mkf _ l => l.flatMap Opd.rd
  | .callv x l => x.rd ++ l.flatMap Opd.rd
end Go.Sy

/-! The symbolic run of code, as a proposition; the lemmas by which simp carries it out. -/
namespace Go.Sy
open Go.RowKit
inductive Ex | normal | exit (id : Nat) | ret
abbrev Post (X : Type) := Ex → Fr → SH X → Prop
/-- What holds at a loop's head: of x, the slots, the heap; a number that falls. -/
structure LInv (X : Type) where
  τ : Type
  ok : τ → Prop
  fr : τ → Fr
  hp : τ → SH X
  rk : τ → Nat
def FrRel (β : List Value) (im : Im) (ρ : Fr) (tm : Array Value) : Prop := ∀ t, Rel β im (lk ρ t) (tm.getD t undef)
/-- Whoever fits (ρ, H) fits (ρ', H'), by other names of the objects; the first np keep theirs. What is left out may leak, or freeze. -/
def Ent {X : Type} (O : X → SH X) (np : Nat) (ρ : Fr) (H : SH X) (ρ' : Fr) (H' : SH X) : Prop :=
  ∀ β im h, HS O im β H β h → (∀ b o v, im b o = some v → h b o = none) → ∃ β' im' h', ILe im im' ∧ (∀ b o v, im' b o = some v → im b o = some v ∨ (h b o = some (.cell v) ∧ h' b o = none)) ∧
    (∀ b o s, h' b o = some s → h b o = some s) ∧ HS O im' β' H' β' h' ∧ (∀ k, k < np → β'[k]? = β[k]?) ∧ ∀ tm, FrRel β im ρ tm → FrRel β' im' ρ' tm
structure Env (X : Type) where
  O : X → SH X
  Γ : Gam X
  Λ : Nat → Option (LInv X)
  np : Nat
section
variable {X : Type} (E : Env X)
def LpQ (L : LInv X) (x : L.τ) (Q : Post X) : Post X := fun e ρ H => match e with
  | .normal => ∃ x', L.ok x' ∧ L.rk x' < L.rk x ∧ Ent E.O E.np ρ H (L.fr x') (L.hp x')
  | e => Q e ρ H
def lpK (L : Option (LInv X)) (body : Post X → Fr → SH X → Prop) (Q : Post X) (ρ : Fr) (H : SH X) : Prop := match L with
  | none => False
  | some L => (∃ x, L.ok x ∧ Ent E.O E.np ρ H (L.fr x) (L.hp x)) ∧ ∀ x, L.ok x → body (LpQ E L x Q) (L.fr x) (L.hp x)
def InB (id : Nat) (Q : Post X) : Post X := fun e ρ H => match e with
  | .exit j => if j = id then Q .normal ρ H else Q (.exit j) ρ H
  | e => Q e ρ H
def gK (v : SV) (j : Nat) (want : Bool) (yes : Fr → Prop) (no : Fr → Prop) (ρ : Fr) : Prop := match v with
  | .bool b => (b = want → yes ((j, .bool want) :: ρ)) ∧ (b = !want → no ((j, .bool (!want)) :: ρ))
  | .und => no ρ
  | .un _ => no ρ
  | _ => False
/-- Is what is read there, where c holds? -/
def vOk (c : Bool) (ρ : Fr) : List Nat → Prop
  | [] => True
  | t :: r => (c = true → vld (lk ρ t) = true) ∧ vOk c ρ r
def stpF (ρ : Fr) : List Nat → Fr
  | [] => []
  | t :: r => (t, stp (lk ρ t)) :: stpF ρ r
/-- An operation that only looks, done where c holds. -/
def gdO (c : Bool) (H : SH X) : Out X → Out X
  | .ok v H' => .req (c = true → H' = H) (.ok (mkO c v) H)
  | .req p o => .req (c = true → p) (gdO c H o)
  | _ => .req (c = false) (.ok (mkO c .dead) H)
def gN (v : SV) (want : Bool) (k : Bool → Prop) : Prop := match stp v with
  | .bool b => k (vld v && (b == want))
  | .und => k false
  | _ => False
def wpO : List MO → Post X → Fr → SH X → Prop
  | [], Q, ρ, H => Q .normal ρ H
  | o :: r, Q, ρ, H => match o.g with
    | none => (evI E.Γ ρ H o.i).sem fun v H' => wpO r Q (setD ρ o.d v) H'
    | some (j, want) => match effect o.i with
      | true => gK (lk ρ j) j want (fun ρ => vOk true ρ o.i.rd ∧ (evI E.Γ (stpF ρ o.i.rd ++ ρ) H o.i).sem fun v H' => wpO r Q (setD ρ o.d v) H') (fun ρ => wpO r Q (setD ρ o.d .und) H) ρ
      | false => gN (lk ρ j) want fun c => vOk c ρ o.i.rd ∧ (gdO c H (evI E.Γ (stpF ρ o.i.rd ++ ρ) H o.i)).sem fun v H' => wpO r Q (setD ρ o.d v) H'
/-- A re-check: the operation still comes to what its slot holds. -/
def chkK (o : Out X) (v : Option SV) (H : SH X) : Prop := o.sem fun u H' => (∀ v', v = some v' → u = v') ∧ H' = H
def lkD (ρ : Fr) (d : Option Nat) : Option SV := match d with | some d => some (lk ρ d) | none => none
def wpD : DT → Post X → Fr → SH X → Prop
  | .nil, Q, ρ, H => Q .normal ρ H
  | .bad, _, _, _ => False
  | .br l r, Q, ρ, H => wpD l Q ρ H ∧ wpD r Q ρ H
  | .op true o r, Q, ρ, H => (match o.g with
    | none => chkK (evI E.Γ ρ H o.i) (lkD ρ o.d) H
    | some (j, want) => gK (lk ρ j) j want (fun ρ => chkK (evI E.Γ ρ H o.i) (lkD ρ o.d) H) (fun _ => True) ρ) ∧ wpD r Q ρ H
  | .op false o r, Q, ρ, H => match o.g with
    | none => (evI E.Γ ρ H o.i).sem fun v H' => wpD r Q (setD ρ o.d v) H'
    | some (j, want) => gK (lk ρ j) j want (fun ρ => (evI E.Γ ρ H o.i).sem fun v H' => wpD r Q (setD ρ o.d v) H') (fun ρ => wpD r Q (setD ρ o.d .und) H) ρ
def ifK (v : SV) (a b : Prop) : Prop := match v with
  | .bool t => (t = true → a) ∧ (t = false → b)
  | _ => False
def wp : MC → Post X → Fr → SH X → Prop
  | .skip, Q, ρ, H => Q .normal ρ H
  | .ret, Q, ρ, H => Q .ret ρ H
  | .exit id, Q, ρ, H => Q (.exit id) ρ H
  | .seq a b, Q, ρ, H => wp a (fun e ρ' H' => match e with | .normal => wp b Q ρ' H' | e => Q e ρ' H') ρ H
  | .ops l, Q, ρ, H => wpO E l Q ρ H
  | .dops l, Q, ρ, H => wpD E l Q ρ H
  | .cond c a b, Q, ρ, H => ifK (c.ev ρ) (wp a Q ρ H) (wp b Q ρ H)
  | .blk id c, Q, ρ, H => wp c (InB id Q) ρ H
  | .loop id c, Q, ρ, H => lpK E (E.Λ id) (fun Q ρ H => wp c Q ρ H) Q ρ H
  | .rfunc _ _ _ _ _, _, _, _ => False
def Then (b : MC) (Q : Post X) : Post X := fun e ρ' H' => match e with | .normal => wp E b Q ρ' H' | e => Q e ρ' H'
def fin (o : Out X) (d : Option Nat) (r : List MO) (Q : Post X) (ρ : Fr) : Prop := o.sem fun v H' => wpO E r Q (setD ρ d v) H'
def finD (o : Out X) (d : Option Nat) (r : DT) (Q : Post X) (ρ : Fr) : Prop := o.sem fun v H' => wpD E r Q (setD ρ d v) H'
def ifC (v : SV) (a b : MC) (Q : Post X) (ρ : Fr) (H : SH X) : Prop := ifK v (wp E a Q ρ H) (wp E b Q ρ H)
def gO (v : SV) (j : Nat) (want : Bool) (d : Option Nat) (i : MI) (r : List MO) (Q : Post X) (ρ : Fr) (H : SH X) : Prop :=
  gK v j want (fun ρ => vOk true ρ i.rd ∧ fin E (evI E.Γ (stpF ρ i.rd ++ ρ) H i) d r Q ρ) (fun ρ => wpO E r Q (setD ρ d .und) H) ρ
/-- A guarded look. -/
def gL (c : Bool) (d : Option Nat) (i : MI) (r : List MO) (Q : Post X) (ρ : Fr) (H : SH X) : Prop :=
  vOk c ρ i.rd ∧ fin E (gdO c H (evI E.Γ (stpF ρ i.rd ++ ρ) H i)) d r Q ρ
def gD (v : SV) (j : Nat) (want : Bool) (d : Option Nat) (i : MI) (r : DT) (Q : Post X) (ρ : Fr) (H : SH X) : Prop :=
  gK v j want (fun ρ => (evI E.Γ ρ H i).sem fun v H' => wpD E r Q (setD ρ d v) H') (fun ρ => wpD E r Q (setD ρ d .und) H) ρ
def gX (v : SV) (j : Nat) (want : Bool) (d : Option Nat) (i : MI) (ρ : Fr) (H : SH X) : Prop :=
  gK v j want (fun ρ => chkK (evI E.Γ ρ H i) (lkD ρ d) H) (fun _ => True) ρ
def lpC (L : Option (LInv X)) (c : MC) (Q : Post X) (ρ : Fr) (H : SH X) : Prop := lpK E L (fun Q ρ H => wp E c Q ρ H) Q ρ H
end
section
variable {X : Type} {E : Env X} {Q : Post X} {ρ : Fr} {H : SH X}
theorem sw_skip : wp E .skip Q ρ H = Q .normal ρ H := by rw [wp]
theorem sw_ret : wp E .ret Q ρ H = Q .ret ρ H := by rw [wp]
theorem sw_exit {id} : wp E (.exit id) Q ρ H = Q (.exit id) ρ H := by rw [wp]
theorem sw_seq {a b} : wp E (.seq a b) Q ρ H = wp E a (Then E b Q) ρ H := by rw [wp]; rfl
theorem sw_ops {l} : wp E (.ops l) Q ρ H = wpO E l Q ρ H := by rw [wp]
theorem sw_dops {t} : wp E (.dops t) Q ρ H = wpD E t Q ρ H := by rw [wp]
theorem sw_cond {c a b} : wp E (.cond c a b) Q ρ H = ifC E (c.ev ρ) a b Q ρ H := by rw [wp]; rfl
theorem sw_blk {id c} : wp E (.blk id c) Q ρ H = wp E c (InB id Q) ρ H := by rw [wp]
theorem sw_loop {id c} : wp E (.loop id c) Q ρ H = lpC E (E.Λ id) c Q ρ H := by rw [wp]; rfl
theorem Then_n {b} : Then E b Q .normal ρ H = wp E b Q ρ H := by rw [Then]
theorem Then_r {b} : Then E b Q .ret ρ H = Q .ret ρ H := by rw [Then]; simp
theorem Then_x {b id} : Then E b Q (.exit id) ρ H = Q (.exit id) ρ H := by rw [Then]; simp
theorem InB_n {id} : InB id Q .normal ρ H = Q .normal ρ H := by rw [InB]; simp
theorem InB_r {id} : InB id Q .ret ρ H = Q .ret ρ H := by rw [InB]; simp
theorem InB_x {id} : InB id Q (.exit id) ρ H = Q .normal ρ H := by simp [InB]
theorem InB_y {id j} (h : (j == id) = false) : InB id Q (.exit j) ρ H = Q (.exit j) ρ H := by simp at h; simp [InB, h]
theorem LpQ_r {L : LInv X} {x} : LpQ E L x Q .ret ρ H = Q .ret ρ H := by rw [LpQ]; simp
theorem LpQ_x {L : LInv X} {x id} : LpQ E L x Q (.exit id) ρ H = Q (.exit id) ρ H := by rw [LpQ]; simp
theorem LpQ_n {L : LInv X} {x} : LpQ E L x Q .normal ρ H = ∃ x', L.ok x' ∧ L.rk x' < L.rk x ∧ Ent E.O E.np ρ H (L.fr x') (L.hp x') := by rw [LpQ]
theorem lpC_some {L : LInv X} {c} : lpC E (some L) c Q ρ H = ((∃ x, L.ok x ∧ Ent E.O E.np ρ H (L.fr x) (L.hp x)) ∧ ∀ x, L.ok x → wp E c (LpQ E L x Q) (L.fr x) (L.hp x)) := by rw [lpC, lpK]
theorem ifC_t {a b} : ifC E (.bool true) a b Q ρ H = wp E a Q ρ H := by simp [ifC, ifK]
theorem ifC_f {a b} : ifC E (.bool false) a b Q ρ H = wp E b Q ρ H := by simp [ifC, ifK]
theorem ifC_d {a b p} [Decidable p] : ifC E (.bool (decide p)) a b Q ρ H = ((p → wp E a Q ρ H) ∧ (¬p → wp E b Q ρ H)) := by simp [ifC, ifK]
theorem ifC_nd {a b p} [Decidable p] : ifC E (.bool (!decide p)) a b Q ρ H = ((¬p → wp E a Q ρ H) ∧ (p → wp E b Q ρ H)) := by simp [ifC, ifK]
theorem ifC_b {a b t} : ifC E (.bool t) a b Q ρ H = ((t = true → wp E a Q ρ H) ∧ (t = false → wp E b Q ρ H)) := by simp [ifC, ifK]
theorem wpO_nil : wpO E [] Q ρ H = Q .normal ρ H := by rw [wpO]
theorem wpO_cons {d i r} : wpO E (⟨d, none, i⟩ :: r) Q ρ H = fin E (evI E.Γ ρ H i) d r Q ρ := by rw [wpO]; rfl
def gW (E : Env X) (f : Bool) (v : SV) (j : Nat) (want : Bool) (d : Option Nat) (i : MI) (r : List MO) (Q : Post X) (ρ : Fr) (H : SH X) : Prop := match f with
  | true => gO E v j want d i r Q ρ H
  | false => gN v want fun c => gL E c d i r Q ρ H
theorem wpO_g {d i r j want} : wpO E (⟨d, some (j, want), i⟩ :: r) Q ρ H = gW E (effect i) (lk ρ j) j want d i r Q ρ H := by
  rw [wpO]
  cases h : effect i <;> simp only [h] <;> rfl
theorem gW_t {v j want d i r} : gW E true v j want d i r Q ρ H = gO E v j want d i r Q ρ H := rfl
theorem gW_f {v j want d i r} : gW E false v j want d i r Q ρ H = gN v want fun c => gL E c d i r Q ρ H := rfl
theorem gN_bool {b want} {k : Bool → Prop} : gN (.bool b) want k = k (b == want) := by simp [gN, stp, vld]
theorem gN_und {want} {k : Bool → Prop} : gN .und want k = k false := by simp [gN, stp]
theorem gN_un {v want} {k : Bool → Prop} : gN (.un (.bool v)) want k = k false := by simp [gN, stp, vld]
theorem stp_mkO {c v} : stp (mkO c v) = stp v := by
  cases c
  · cases v <;> simp [mkO, stp]
  · simp [mkO]
theorem vld_mkO {c v} : vld (mkO c v) = (c && vld v) := by cases c <;> simp [mkO, vld]
theorem mkO_t {v} : mkO true v = v := rfl
theorem gN_mkO {c b want} {k : Bool → Prop} : gN (mkO c (.bool b)) want k = k (c && (b == want)) := by
  unfold gN; rw [stp_mkO, vld_mkO]; simp [stp, vld]
theorem fin_ok {v d r} : fin E (.ok v H) d r Q ρ = wpO E r Q (setD ρ d v) H := by simp [fin, Out.sem]
theorem fin_req {p o d r} : fin E (.req p o) d r Q ρ = (p ∧ fin E o d r Q ρ) := by simp [fin, Out.sem]
theorem fin_asm {p o d r} : fin E (.asm p o) d r Q ρ = (p → fin E o d r Q ρ) := by simp [fin, Out.sem]
theorem fin_all {τ : Type} {f : τ → Out X} {d r} : fin E (.all f) d r Q ρ = (∀ x, fin E (f x) d r Q ρ) := by simp [fin, Out.sem]
theorem fin_bad {d r} : fin E .bad d r Q ρ = False := by simp [fin, Out.sem]
theorem wpD_nil : wpD E .nil Q ρ H = Q .normal ρ H := by rw [wpD]
theorem wpD_bad : wpD E .bad Q ρ H = False := by rw [wpD]
theorem wpD_br {l r} : wpD E (.br l r) Q ρ H = (wpD E l Q ρ H ∧ wpD E r Q ρ H) := by rw [wpD]
theorem wpD_cons {d i r} : wpD E (.op false ⟨d, none, i⟩ r) Q ρ H = finD E (evI E.Γ ρ H i) d r Q ρ := by rw [wpD]; rfl
theorem wpD_g {d i r j want} : wpD E (.op false ⟨d, some (j, want), i⟩ r) Q ρ H = gD E (lk ρ j) j want d i r Q ρ H := by rw [wpD]; rfl
theorem wpD_c {d i r} : wpD E (.op true ⟨d, none, i⟩ r) Q ρ H = (chkK (evI E.Γ ρ H i) (lkD ρ d) H ∧ wpD E r Q ρ H) := by rw [wpD]
theorem wpD_cg {d i r j want} : wpD E (.op true ⟨d, some (j, want), i⟩ r) Q ρ H = (gX E (lk ρ j) j want d i ρ H ∧ wpD E r Q ρ H) := by rw [wpD]; rfl
theorem finD_ok {v d r} : finD E (.ok v H) d r Q ρ = wpD E r Q (setD ρ d v) H := by simp [finD, Out.sem]
theorem finD_req {p o d r} : finD E (.req p o) d r Q ρ = (p ∧ finD E o d r Q ρ) := by simp [finD, Out.sem]
theorem finD_asm {p o d r} : finD E (.asm p o) d r Q ρ = (p → finD E o d r Q ρ) := by simp [finD, Out.sem]
theorem finD_all {τ : Type} {f : τ → Out X} {d r} : finD E (.all f) d r Q ρ = (∀ x, finD E (f x) d r Q ρ) := by simp [finD, Out.sem]
theorem finD_bad {d r} : finD E .bad d r Q ρ = False := by simp [finD, Out.sem]
theorem chkK_ok {u v H' } : chkK (.ok u H') (some v) H = (u = v ∧ H' = H) := by simp [chkK, Out.sem]
theorem chkK_none {u H' } : chkK (.ok u H') none H = (H' = H) := by simp [chkK, Out.sem]
theorem chkK_req {p o v} : chkK (.req p o) v H = (p ∧ chkK o v H) := by simp [chkK, Out.sem]
theorem chkK_bad {v} : chkK (.bad : Out X) v H = False := by simp [chkK, Out.sem]
/-- A guarded act. -/
def gY (E : Env X) (b : SV) (j : Nat) (d : Option Nat) (i : MI) (r : List MO) (Q : Post X) (ρ : Fr) (H : SH X) : Prop := vOk true ((j, b) :: ρ) i.rd ∧ fin E (evI E.Γ (stpF ((j, b) :: ρ) i.rd ++ (j, b) :: ρ) H i) d r Q ((j, b) :: ρ)
theorem gO_tt {j d i r} : gO E (.bool true) j true d i r Q ρ H = gY E (.bool true) j d i r Q ρ H := by simp [gO, gK, gY]
theorem gO_ff {j d i r} : gO E (.bool false) j false d i r Q ρ H = gY E (.bool false) j d i r Q ρ H := by simp [gO, gK, gY]
theorem gO_tf {j d i r} : gO E (.bool true) j false d i r Q ρ H = wpO E r Q (setD ((j, .bool true) :: ρ) d .und) H := by simp [gO, gK, gY]
theorem gO_ft {j d i r} : gO E (.bool false) j true d i r Q ρ H = wpO E r Q (setD ((j, .bool false) :: ρ) d .und) H := by simp [gO, gK, gY]
theorem gO_u {j d i r want} : gO E .und j want d i r Q ρ H = wpO E r Q (setD ρ d .und) H := by simp [gO, gK, gY]
theorem gO_dt {j d i r p} [Decidable p] : gO E (.bool (decide p)) j true d i r Q ρ H = ((p → gY E (.bool true) j d i r Q ρ H) ∧ (¬p → wpO E r Q (setD ((j, .bool false) :: ρ) d .und) H)) := by simp [gO, gK, gY]
theorem gO_df {j d i r p} [Decidable p] : gO E (.bool (decide p)) j false d i r Q ρ H = ((¬p → gY E (.bool false) j d i r Q ρ H) ∧ (p → wpO E r Q (setD ((j, .bool true) :: ρ) d .und) H)) := by simp [gO, gK, gY]
theorem gO_ndt {j d i r p} [Decidable p] : gO E (.bool (!decide p)) j true d i r Q ρ H = ((¬p → gY E (.bool true) j d i r Q ρ H) ∧ (p → wpO E r Q (setD ((j, .bool false) :: ρ) d .und) H)) := by simp [gO, gK, gY]
theorem gO_ndf {j d i r p} [Decidable p] : gO E (.bool (!decide p)) j false d i r Q ρ H = ((p → gY E (.bool false) j d i r Q ρ H) ∧ (¬p → wpO E r Q (setD ((j, .bool true) :: ρ) d .und) H)) := by simp [gO, gK, gY]
theorem gO_b {j d i r b want} : gO E (.bool b) j want d i r Q ρ H = ((b = want → gY E (.bool want) j d i r Q ρ H) ∧ (b = !want → wpO E r Q (setD ((j, .bool (!want)) :: ρ) d .und) H)) := by simp [gO, gK, gY]
theorem gD_tt {j d i r} : gD E (.bool true) j true d i r Q ρ H = finD E (evI E.Γ ((j, .bool true) :: ρ) H i) d r Q ((j, .bool true) :: ρ) := by simp [gD, gK, finD]
theorem gD_ff {j d i r} : gD E (.bool false) j false d i r Q ρ H = finD E (evI E.Γ ((j, .bool false) :: ρ) H i) d r Q ((j, .bool false) :: ρ) := by simp [gD, gK, finD]
theorem gD_tf {j d i r} : gD E (.bool true) j false d i r Q ρ H = wpD E r Q (setD ((j, .bool true) :: ρ) d .und) H := by simp [gD, gK]
theorem gD_ft {j d i r} : gD E (.bool false) j true d i r Q ρ H = wpD E r Q (setD ((j, .bool false) :: ρ) d .und) H := by simp [gD, gK]
theorem gD_u {j d i r want} : gD E .und j want d i r Q ρ H = wpD E r Q (setD ρ d .und) H := by simp [gD, gK]
theorem gD_dt {j d i r p} [Decidable p] : gD E (.bool (decide p)) j true d i r Q ρ H = ((p → finD E (evI E.Γ ((j, .bool true) :: ρ) H i) d r Q ((j, .bool true) :: ρ)) ∧ (¬p → wpD E r Q (setD ((j, .bool false) :: ρ) d .und) H)) := by simp [gD, gK, finD]
theorem gD_df {j d i r p} [Decidable p] : gD E (.bool (decide p)) j false d i r Q ρ H = ((¬p → finD E (evI E.Γ ((j, .bool false) :: ρ) H i) d r Q ((j, .bool false) :: ρ)) ∧ (p → wpD E r Q (setD ((j, .bool true) :: ρ) d .und) H)) := by simp [gD, gK, finD]
theorem gD_ndt {j d i r p} [Decidable p] : gD E (.bool (!decide p)) j true d i r Q ρ H = ((¬p → finD E (evI E.Γ ((j, .bool true) :: ρ) H i) d r Q ((j, .bool true) :: ρ)) ∧ (p → wpD E r Q (setD ((j, .bool false) :: ρ) d .und) H)) := by simp [gD, gK, finD]
theorem gD_ndf {j d i r p} [Decidable p] : gD E (.bool (!decide p)) j false d i r Q ρ H = ((p → finD E (evI E.Γ ((j, .bool false) :: ρ) H i) d r Q ((j, .bool false) :: ρ)) ∧ (¬p → wpD E r Q (setD ((j, .bool true) :: ρ) d .und) H)) := by simp [gD, gK, finD]
theorem gD_b {j d i r b want} : gD E (.bool b) j want d i r Q ρ H = ((b = want → finD E (evI E.Γ ((j, .bool want) :: ρ) H i) d r Q ((j, .bool want) :: ρ)) ∧ (b = !want → wpD E r Q (setD ((j, .bool (!want)) :: ρ) d .und) H)) := by simp [gD, gK, finD]
theorem ifC_or {a b} {x y : Bool} : ifC E (.bool (x || y)) a b Q ρ H = (((x || y) = true → wp E a Q ρ H) ∧ ((x || y) = false → wp E b Q ρ H)) := ifC_b
theorem gO_or {j d i r want} {x y : Bool} : gO E (.bool (x || y)) j want d i r Q ρ H = (((x || y) = want → gY E (.bool want) j d i r Q ρ H) ∧ ((x || y) = !want → wpO E r Q (setD ((j, .bool (!want)) :: ρ) d .und) H)) := gO_b
theorem gD_or {j d i r want} {x y : Bool} : gD E (.bool (x || y)) j want d i r Q ρ H = (((x || y) = want → finD E (evI E.Γ ((j, .bool want) :: ρ) H i) d r Q ((j, .bool want) :: ρ)) ∧ ((x || y) = !want → wpD E r Q (setD ((j, .bool (!want)) :: ρ) d .und) H)) := gD_b
theorem ifC_and {a b} {x y : Bool} : ifC E (.bool (x && y)) a b Q ρ H = (((x && y) = true → wp E a Q ρ H) ∧ ((x && y) = false → wp E b Q ρ H)) := ifC_b
theorem gO_and {j d i r want} {x y : Bool} : gO E (.bool (x && y)) j want d i r Q ρ H = (((x && y) = want → gY E (.bool want) j d i r Q ρ H) ∧ ((x && y) = !want → wpO E r Q (setD ((j, .bool (!want)) :: ρ) d .und) H)) := gO_b
theorem gD_and {j d i r want} {x y : Bool} : gD E (.bool (x && y)) j want d i r Q ρ H = (((x && y) = want → finD E (evI E.Γ ((j, .bool want) :: ρ) H i) d r Q ((j, .bool want) :: ρ)) ∧ ((x && y) = !want → wpD E r Q (setD ((j, .bool (!want)) :: ρ) d .und) H)) := gD_b
theorem ifC_beq {a b} {x y : Bool} : ifC E (.bool (x == y)) a b Q ρ H = (((x == y) = true → wp E a Q ρ H) ∧ ((x == y) = false → wp E b Q ρ H)) := ifC_b
theorem gO_beq {j d i r want} {x y : Bool} : gO E (.bool (x == y)) j want d i r Q ρ H = (((x == y) = want → gY E (.bool want) j d i r Q ρ H) ∧ ((x == y) = !want → wpO E r Q (setD ((j, .bool (!want)) :: ρ) d .und) H)) := gO_b
theorem gD_beq {j d i r want} {x y : Bool} : gD E (.bool (x == y)) j want d i r Q ρ H = (((x == y) = want → finD E (evI E.Γ ((j, .bool want) :: ρ) H i) d r Q ((j, .bool want) :: ρ)) ∧ ((x == y) = !want → wpD E r Q (setD ((j, .bool (!want)) :: ρ) d .und) H)) := gD_b
theorem ifC_nor {a b} {x y : Bool} : ifC E (.bool (!(x || y))) a b Q ρ H = (((!(x || y)) = true → wp E a Q ρ H) ∧ ((!(x || y)) = false → wp E b Q ρ H)) := ifC_b
theorem gO_nor {j d i r want} {x y : Bool} : gO E (.bool (!(x || y))) j want d i r Q ρ H = (((!(x || y)) = want → gY E (.bool want) j d i r Q ρ H) ∧ ((!(x || y)) = !want → wpO E r Q (setD ((j, .bool (!want)) :: ρ) d .und) H)) := gO_b
theorem gD_nor {j d i r want} {x y : Bool} : gD E (.bool (!(x || y))) j want d i r Q ρ H = (((!(x || y)) = want → finD E (evI E.Γ ((j, .bool want) :: ρ) H i) d r Q ((j, .bool want) :: ρ)) ∧ ((!(x || y)) = !want → wpD E r Q (setD ((j, .bool (!want)) :: ρ) d .und) H)) := gD_b
theorem ifC_nand {a b} {x y : Bool} : ifC E (.bool (!(x && y))) a b Q ρ H = (((!(x && y)) = true → wp E a Q ρ H) ∧ ((!(x && y)) = false → wp E b Q ρ H)) := ifC_b
theorem gO_nand {j d i r want} {x y : Bool} : gO E (.bool (!(x && y))) j want d i r Q ρ H = (((!(x && y)) = want → gY E (.bool want) j d i r Q ρ H) ∧ ((!(x && y)) = !want → wpO E r Q (setD ((j, .bool (!want)) :: ρ) d .und) H)) := gO_b
theorem gD_nand {j d i r want} {x y : Bool} : gD E (.bool (!(x && y))) j want d i r Q ρ H = (((!(x && y)) = want → finD E (evI E.Γ ((j, .bool want) :: ρ) H i) d r Q ((j, .bool want) :: ρ)) ∧ ((!(x && y)) = !want → wpD E r Q (setD ((j, .bool (!want)) :: ρ) d .und) H)) := gD_b
theorem ifC_nbeq {a b} {x y : Bool} : ifC E (.bool (!(x == y))) a b Q ρ H = (((!(x == y)) = true → wp E a Q ρ H) ∧ ((!(x == y)) = false → wp E b Q ρ H)) := ifC_b
theorem gO_nbeq {j d i r want} {x y : Bool} : gO E (.bool (!(x == y))) j want d i r Q ρ H = (((!(x == y)) = want → gY E (.bool want) j d i r Q ρ H) ∧ ((!(x == y)) = !want → wpO E r Q (setD ((j, .bool (!want)) :: ρ) d .und) H)) := gO_b
theorem gD_nbeq {j d i r want} {x y : Bool} : gD E (.bool (!(x == y))) j want d i r Q ρ H = (((!(x == y)) = want → finD E (evI E.Γ ((j, .bool want) :: ρ) H i) d r Q ((j, .bool want) :: ρ)) ∧ ((!(x == y)) = !want → wpD E r Q (setD ((j, .bool (!want)) :: ρ) d .und) H)) := gD_b
theorem ifC_cnd {a b} {z x y : Bool} : ifC E (.bool (cond z x y)) a b Q ρ H = (((cond z x y) = true → wp E a Q ρ H) ∧ ((cond z x y) = false → wp E b Q ρ H)) := ifC_b
theorem gO_cnd {j d i r want} {z x y : Bool} : gO E (.bool (cond z x y)) j want d i r Q ρ H = (((cond z x y) = want → gY E (.bool want) j d i r Q ρ H) ∧ ((cond z x y) = !want → wpO E r Q (setD ((j, .bool (!want)) :: ρ) d .und) H)) := gO_b
theorem gD_cnd {j d i r want} {z x y : Bool} : gD E (.bool (cond z x y)) j want d i r Q ρ H = (((cond z x y) = want → finD E (evI E.Γ ((j, .bool want) :: ρ) H i) d r Q ((j, .bool want) :: ρ)) ∧ ((cond z x y) = !want → wpD E r Q (setD ((j, .bool (!want)) :: ρ) d .und) H)) := gD_b
theorem gX_tt {j d i} : gX E (.bool true) j true d i ρ H = chkK (evI E.Γ ((j, .bool true) :: ρ) H i) (lkD ((j, .bool true) :: ρ) d) H := by simp [gX, gK]
theorem gX_ff {j d i} : gX E (.bool false) j false d i ρ H = chkK (evI E.Γ ((j, .bool false) :: ρ) H i) (lkD ((j, .bool false) :: ρ) d) H := by simp [gX, gK]
theorem gX_tf {j d i} : gX E (.bool true) j false d i ρ H = True := by simp [gX, gK]
theorem gX_ft {j d i} : gX E (.bool false) j true d i ρ H = True := by simp [gX, gK]
theorem gX_u {j d i want} : gX E .und j want d i ρ H = True := by simp [gX, gK]
theorem lk_hit {t v ρ} : lk ((t, v) :: ρ) t = v := by simp [lk]
theorem lk_miss {k t v ρ} (h : (k == t) = false) : lk ((k, v) :: ρ) t = lk ρ t := by simp [lk, h]
theorem lk_nil {t} : lk [] t = .dead := by rw [lk]
theorem ev_t {n} : Opd.ev ρ (.t n) = lk ρ n := by rw [Opd.ev]
theorem ev_c {v} : Opd.ev ρ (.c v) = v.sv := by rw [Opd.ev]
theorem setD_s {d v} : setD ρ (some d) v = (d, v) :: ρ := by rw [setD]
theorem setD_n {v} : setD ρ none v = ρ := by rw [setD]
theorem lkD_s {d} : lkD ρ (some d) = some (lk ρ d) := by rw [lkD]
theorem lkD_n : lkD ρ none = none := by rw [lkD]
theorem evs_cons {x l} : evs ρ (x :: l) = x.ev ρ :: evs ρ l := by simp [evs]
theorem evs_nil : evs ρ [] = [] := by simp [evs]
end
end Go.Sy

/-! From the model's code to the small language. -/
namespace Go.Sy
open Go.RowKit
section
variable (P : Program)
def tSize (t : TypeId) : Option Nat := (P.info? t).map (·.size)
def tBytes (t : TypeId) : Option Nat := (P.info? t).map (·.bytes)
def aggN (t : TypeId) : Option (Option Nat) :=
  match P.underlying t with
  | some (.struct _) => (tSize P t).map some
  | some (.array _ _) => (tSize P t).map some
  | some _ => some none
  | none => none
def zsh : Nat → TypeId → Option (List ZV)
  | 0, _ => none
  | n + 1, t => match P.underlying t with
    | some (.struct fs) => (fs.toList.mapM fun f => zsh n f.type).map List.flatten
    | some (.array len e) => do
      let z ← zsh n e
      let row ← z.mapM fun | .one c => some c | _ => none
      some [.arr row.length len row]
    | some _ => ((P.info? t).bind (·.zero)).bind fun v => (CV.ofVal v).map fun c => [.one c]
    | none => none
def zOf (t : TypeId) : Option (List ZV) := do
  let z ← zsh P 8 t
  let v ← (P.info? t).bind (·.zero)
  let n ← tSize P t
  if v.cells.toList.mapM CV.ofVal = some (z.flatMap ZV.flat) ∧ (z.flatMap ZV.flat).length = n ∧ (z.flatMap ZV.flat).all (· != .und) = true ∧ z.all ZV.ok = true then some z else none
def cOpd : Operand → Option Opd
  | .tmp t => some (.t t)
  | .const v => (CV.ofVal v).map .c
  | .func f => some (.c (.fn f))
  | .global _ => none
def cOO : Option Operand → Option (Option Opd)
  | none => some none
  | some x => (cOpd x).map some
def isInt (t : TypeId) : Bool := match P.underlying t with | some (.int _) => true | _ => false
/-- All that is compared are whole numbers, in one row without a gap: so many. -/
def allInts (t : TypeId) : Option Nat :=
  match P.underlying t with
  | some (.struct fs) => if fs.toList.all (fun f => isInt P f.type && f.name != "_") && (fs.toList.map (·.offset) == List.range fs.size) && !P.stoodInHeld t && !P.eqGuardType P.depth t then some fs.size else none
  | some (.array n e) => if isInt P e && tSize P e == some 1 && !P.eqGuardType P.depth t then some n else none
  | _ => none
def cEq (neg : Bool) (t : TypeId) (x y : Opd) : Option MI :=
  match P.underlying t with
  | some (.int _) => some (.eq neg .int x y)
  | some .string => some (.eq neg .str x y)
  | some .bool => some (.eq neg .bool x y)
  | some (.pointer _) => some (.eq neg .ptr x y)
  | some (.slice _) => some (.eq neg .slc x y)
  | _ => (allInts P t).map fun n => .eq neg (.agg n) x y
def cBin (op : BinOp) (t : TypeId) (x y : Opd) : Option MI :=
  match op with
  | .eql => cEq P false t x y
  | .neq => cEq P true t x y
  | op => match P.underlying t with
    | some (.int _) => some (.bin op x y)
    | some .string => some (.bin op x y)
    | _ => none
def cConv (s d : TypeId) (x : Opd) : Option MI :=
  match P.underlying s, P.underlying d with
  | some (.int _), some (.int k) => some (.conv k x)
  | some .string, some .string => some (.same x)
  | some (.slice e), some .string => match P.underlying e with | some (.int .u8) => some (.b2s x) | _ => none
  | some (.slice _), some (.slice e) => if s == d then (match P.underlying e with | some (.int .u8) => some (.slsl x) | _ => none) else none
  | _, _ => none
def cParts (ps : List (Nat × Operand)) (pl : Nat → Option (Nat × Nat)) : Option (List (Nat × Nat × Opd)) :=
  ps.mapM fun (i, x) => do let (o, n) ← pl i; some (o, n, ← cOpd x)
def cCall (c : Call) : Option MI := do
  let args ← c.args.toList.mapM cOpd
  match c.callee with
  | .value (.func f) => some (.call f args)
  | .value (.tmp t) => some (.callv (.t t) args)
  | .value _ => none
  | .invoke .. => none
  | .builtin b =>
    match b, args, c.argTypes.toList with
    | .len, [x], [t] => (match P.underlying t with | some (.slice _) => some (.len false x) | some .string => some (.len true x) | _ => none)
    | .cap, [x], [t] => (match P.underlying t with | some (.slice _) => some (.cap x) | _ => none)
    | .append, [x, y], [t, u] => (match P.underlying t, P.underlying u with
      | some (.slice e), some (.slice _) | some (.slice e), some .string => do
        let n ← tSize P e
        let b ← tBytes P e
        let z ← zOf P e
        if 0 < b ∧ 0 < z.length ∧ 0 < n then some (.app n b x y) else none
      | _, _ => none)
    | .copy, [x, y], t :: _ => (match P.underlying t with | some (.slice e) => do some (.copy (← tSize P e) x y) | _ => none)
    | .clear, [x], [t] => (match P.underlying t with
      | some (.slice e) => do
        let n ← tSize P e
        let z ← zOf P e
        if 0 < n then some (.clear n z x) else none
      | _ => none)
    | .min, [x, y], _ => some (.mn x y)
    | .max, [x, y], _ => some (.mx x y)
    | _, _, _ => none
def cI : Op → Option MI
  | .move x | .assign x => (cOpd x).map .mv
  | .pick c a b => do some (.pick (← cOpd c) (← cOpd a) (← cOpd b))
  | .alloc t => do some (.alc (← zOf P t))
  | .box t x => do some (.box (← cOpd x) (← tSize P t))
  | .build t ps => do
    let z ← zOf P t
    match P.underlying t with
    | some (.struct fs) => if fs.toList.all fun f => (tSize P f.type).isSome then do some (.bld z (← cParts ps.toList fun i => do let f ← fs[i]?; some (f.offset, ← tSize P f.type))) else none
    | some (.array _ e) => do let n ← tSize P e; some (.bld z (← cParts ps.toList fun i => some (i * n, n)))
    | _ => none
  | .buildSlice t len ps => match P.underlying t with
    | some (.slice e) => do
      let n ← tSize P e
      let z ← zOf P e
      let l ← ps.toList.mapM fun (i, x) => do some (i, ← cOpd x)
      if 0 < n ∧ len * n ≤ 16777216 then some (.bsl n len z l) else none
    | _ => none
  | .load t a => do some (.ld (← cOpd a) (← aggN P t))
  | .store t a x => do some (.st (← cOpd a) (← cOpd x) (← tSize P t))
  | .nilCheck x => do some (.nilc (← cOpd x))
  | .binOp op t x y _ => do cBin P op t (← cOpd x) (← cOpd y)
  | .unOp op _ x => do some (.un op (← cOpd x))
  | .convert s d x => do cConv P s d (← cOpd x)
  | .makeInterface t x => match P.underlying t with | some (.interface _) => none | some _ => do some (.ifc t (← cOpd x)) | none => none
  | .makeFunc (.func f) first caps => if first.isEmpty then do some (.mkf f (← caps.toList.mapM cOpd)) else none
  | .makeSlice t len cap => match P.underlying t with
    | some (.slice e) => do
      let n ← tSize P e
      let b ← tBytes P e
      let z ← zOf P e
      let l ← cOpd len
      let c ← cOpd cap
      if 0 < n then some (.mks n b z l c) else none
    | _ => none
  | .slice t x lo hi mx => match P.underlying t with
    | some (.slice e) => if mx.isSome && hi.isNone then none else do some (.slc (← cOpd x) (← tSize P e) (← cOO lo) (← cOO hi) (← cOO mx))
    | some .string => if mx.isNone then do some (.slS (← cOpd x) (← cOO lo) (← cOO hi)) else none
    | _ => none
  | .fieldAddr s x i => match P.underlying s with
    | some (.struct fs) => do
      let f ← fs[i]?
      let n ← tSize P f.type
      if n = 0 then none else some (.fadr (← cOpd x) f.offset)
    | _ => none
  | .field s x i => match P.underlying s with
    | some (.struct fs) => do let f ← fs[i]?; some (.fld (← cOpd x) f.offset (← aggN P f.type))
    | _ => none
  | .indexAddr t x i => match P.underlying t with
    | some (.slice e) => do some (.iadr (← cOpd x) (← cOpd i) (← tSize P e))
    | some (.array len e) => do some (.iadrA (← cOpd x) (← cOpd i) len (← tSize P e))
    | _ => none
  | .index t x i => match P.underlying t with
    | some (.array len e) => do some (.idxA (← cOpd x) (← cOpd i) len (← tSize P e) (← aggN P e))
    | some .string => do some (.idxS (← cOpd x) (← cOpd i))
    | _ => none
  | .extract x i => do some (.ext (← cOpd x) i)
  | .call c => cCall P c
  | .panic _ => some .pan
  | _ => none
def cG (ops : Array Oper) : Option (Nat × Bool) → Option (Option (Nat × Bool))
  | none => some none
  | some (j, w) => do let d ← (ops[j]?).bind (·.dst); some (some (d, w))
/-- An operation of a region; n: how many slots the frame has. -/
def cO (n : Nat) (ops : Array Oper) (o : Oper) : Option MO := do
  let i ← cI P o.op
  let g ← cG ops o.guard
  match o.dst with
  | none => some ⟨none, g, i⟩
  | some d => if d < n then some ⟨some d, g, i⟩ else none
/-! ### Regions that draw their order -/
/-- What does not look at the heap. -/
def blindI : MI → Bool
  | .mv .. | .pick .. | .bin .. | .un .. | .conv .. | .same .. | .ext .. | .fld .. | .idxS .. | .idxA .. | .bld .. | .mkf .. | .ifc .. | .mn .. | .mx .. | .slS .. => true
  | .eq _ .int .. | .eq _ .str .. | .eq _ .bool .. | .eq _ (.agg _) .. => true
  | _ => false
/-- The operations that an operation waits for, told. -/
def ddOf (o : Oper) : List Nat := (o.after.toList.filter (Region.binds .any)).map (·.on)
/-- All that must have been done ahead of each operation. -/
def anc (ops : List Oper) : List (List Nat) :=
  ops.foldl (fun acc o => acc ++ [((ddOf o).foldl (fun l e => (e :: acc.getD e []) ++ l) []).eraseDups]) []
/-- A region as its compiler sees it. -/
structure Rg where
  n : Nat
  mos : List MO
  dd : List (List Nat)
  an : List (List Nat)
def Rg.mo (R : Rg) (i : Nat) : MO := R.mos.getD i ⟨none, none, .pan⟩
def Rg.anc (R : Rg) (i : Nat) : List Nat := R.an.getD i []
def Rg.eff (R : Rg) (i : Nat) : Bool := effect (R.mo i).i
def Rg.bl (R : Rg) (i : Nat) : Bool := blindI (R.mo i).i
def brs : List DT → DT
  | [] => .bad
  | [t] => t
  | t :: ts => .br t (brs ts)
def chks (R : Rg) (l : List Nat) (t : DT) : DT := l.foldr (fun r t => .op true (R.mo r) t) t
/-- What looks or reckons, as early as can be; what acts in each order that can be, behind each the looks again that might come behind it. -/
def mkT (R : Rg) : Nat → List Nat → List Nat → DT
  | 0, _, _ => .bad
  | k + 1, es, done =>
    match (List.range R.n).find? fun i => !done.contains i && !R.eff i && (R.anc i).all done.contains with
    | some i => .op false (R.mo i) (mkT R k es (i :: done))
    | none => if es.isEmpty then (if (List.range R.n).all done.contains then .nil else .bad) else
      brs ((es.filter fun e => es.all fun f => !(R.anc e).contains f).map fun e =>
        .op false (R.mo e) (chks R (done.reverse.filter fun r => !R.eff r && !R.bl r && !(R.anc e).contains r) (mkT R k (es.filter (· != e)) (e :: done))))
def MO.rd (m : MO) : List Nat := (match m.g with | some (j, _) => [j] | none => []) ++ m.i.rd
/-- What the soundness of mkT asks of a region. -/
def Rg.ok (R : Rg) : Bool :=
  (List.range R.n).all fun i =>
    ((R.dd.getD i []).all fun j => decide (j < i)) &&
    ((R.anc i).all fun j => decide (j < i) && ((R.dd.getD i []).contains j || (R.dd.getD i []).any fun k => (R.anc k).contains j)) &&
    ((List.range R.n).all fun j => match (R.mo j).d with
      | none => true
      | some d => (i == j || (R.mo i).d != some d) && (!(R.mo i).rd.contains d || (R.anc i).contains j || ((i == j || (R.anc j).contains i) && (R.eff i || R.bl i))))
def cR (n : Nat) (ops : Array Oper) (draw : Bool) : Option MC := do
  let mos ← ops.toList.mapM (cO P n ops)
  if !draw then some (.ops mos) else
  let R : Rg := ⟨ops.size, mos, ops.toList.map ddOf, anc ops.toList⟩
  if R.ok then some (.dops (mkT R (ops.size + 1) ((List.range R.n).filter fun i => R.eff i) [])) else none
/-- Some number by which a loop is called: its first region's. -/
def firstId : Code → Nat
  | .region id _ _ => id
  | .seq a _ => firstId a
  | .block _ c | .loop c | .scope c => firstId c
  | .cond _ a _ => firstId a
  | _ => 0
def cC (n : Nat) : Code → Option MC
  | .skip => some .skip
  | .region _ ops draw => cR P n ops draw
  | .seq a b => do some (.seq (← cC n a) (← cC n b))
  | .cond c a b => do some (.cond (← cOpd c) (← cC n a) (← cC n b))
  | .block id c => do some (.blk id (← cC n c))
  | .loop c => do some (.loop (firstId c) (← cC n c))
  | .exit id => some (.exit id)
  | .ret => some .ret
  | .rangeFunc f ps a c => do some (.rfunc (firstId c) (← cOpd f) ps.toList (← cC n a) (← cC n c))
  | _ => none
def cF (f : Func) : Option MC := f.body.bind (cC P f.ntmps)
end
end Go.Sy

/-! Lists of cells; loads and stores. -/
namespace Go.Sy
open Go.RowKit
section
variable {β : List Value} {im : Im}
theorem flatMap_len {sz : Nat} {rows : Nat → List Value} : ∀ {n : Nat}, (∀ i, i < n → (rows i).length = sz) → ((List.range n).flatMap rows).length = sz * n
  | 0, _ => by simp
  | n + 1, h => by
    rw [List.range_succ, List.flatMap_append, List.length_append, flatMap_len (fun i q => h i (by omega))]
    simp [h n (by omega), Nat.mul_succ]
theorem flatMap_get {sz : Nat} {rows : Nat → List Value} : ∀ {n : Nat}, (∀ i, i < n → (rows i).length = sz) → ∀ {i j : Nat}, i < n → j < sz →
    ((List.range n).flatMap rows)[i * sz + j]? = (rows i)[j]?
  | 0, _, i, j, hi, _ => by omega
  | n + 1, h, i, j, hi, hj => by
    rw [List.range_succ, List.flatMap_append]
    have hl := flatMap_len (sz := sz) (rows := rows) (n := n) (fun i q => h i (by omega))
    by_cases q : i < n
    · have hlt : i * sz + j < sz * n := by
        have : (i + 1) * sz ≤ n * sz := Nat.mul_le_mul_right _ q
        rw [Nat.mul_comm sz n]; rw [Nat.succ_mul] at this; omega
      rw [List.getElem?_append_left (by omega)]
      exact flatMap_get (fun i q => h i (by omega)) q hj
    · have : i = n := by omega
      subst this
      rw [List.getElem?_append_right (by rw [hl, Nat.mul_comm]; omega), hl, Nat.mul_comm sz i]
      simp
theorem div_mod_split {o s n : Nat} (h : o < s * n) : o / s < n ∧ o % s < s ∧ o / s * s + o % s = o := by
  have hs : 0 < s := Nat.pos_of_ne_zero fun e => by simp [e] at h
  exact ⟨Nat.div_lt_of_lt_mul h, Nat.mod_lt _ hs, by rw [Nat.mul_comm]; exact Nat.div_add_mod o s⟩

theorem Rel.oneCell {v x} (h : Rel β im v x) (h1 : v.one = true) : Sy.oneCell x = true := by
  cases h <;> first | rfl | assumption | simp [SV.one] at h1
theorem RelC.len {vs cs} (h : RelC β im vs cs) : cs.length = szL vs := by
  induction vs generalizing cs with
  | nil => cases h; rfl
  | cons v vs ih =>
    cases h with
    | one h1 h t =>
      have : v.sz = 1 := by cases v <;> simp [SV.one] at h1 <;> rfl
      simp [szL, this, ih t]; omega
    | arr rows h hl t => simp [szL, SV.sz, flatMap_len hl, ih t]
theorem getC1_sound {vs cs o v} (h : RelC β im vs cs) (e : getC.getC1 vs o = some v) : ∃ x, cs[o]? = some x ∧ Rel β im v x ∧ v.one = true := by
  induction vs generalizing cs o with
  | nil => simp [getC.getC1] at e
  | cons u vs ih =>
    cases o with
    | zero =>
      simp only [getC.getC1] at e
      split at e
      · rename_i hu
        injection e with e; subst e
        cases h with
        | one h1 h t => exact ⟨_, rfl, h, hu⟩
        | arr rows h hl t => simp [SV.one] at hu
      · cases e
    | succ o =>
      simp only [getC.getC1] at e
      split at e
      · rename_i hu
        cases h with
        | one h1 h t => simpa using ih t e
        | arr rows h hl t => simp [SV.one] at hu
      · cases e
theorem getC_sound {vs cs o v} (h : RelC β im vs cs) (e : getC vs o = some v) : ∃ x, cs[o]? = some x ∧ Rel β im v x ∧ v.one = true := by
  induction vs generalizing cs o with
  | nil => simp [getC] at e
  | cons u vs ih =>
    cases h with
    | arr rows hr hl t =>
      rename_i s n g xs
      simp only [getC] at e
      split at e
      · rename_i hlt
        obtain ⟨d1, d2, d3⟩ := div_mod_split hlt
        obtain ⟨x, hx, r⟩ := getC1_sound (hr _ d1) e
        refine ⟨x, ?_, r⟩
        rw [List.getElem?_append_left (by rw [flatMap_len hl]; exact hlt), ← d3, flatMap_get hl d1 d2]
        exact hx
      · rename_i hge
        obtain ⟨x, hx, r⟩ := ih t e
        refine ⟨x, ?_, r⟩
        rw [List.getElem?_append_right (by rw [flatMap_len hl]; omega), flatMap_len hl]; exact hx
    | one h1 h t =>
      cases o with
      | zero =>
        have e' : (if u.one then some u else none) = some v := by cases u <;> simp [SV.one] at h1 <;> simpa [getC] using e
        rw [if_pos h1] at e'; injection e' with e'; subst e'
        exact ⟨_, rfl, h, h1⟩
      | succ o =>
        have e' : getC vs o = some v := by cases u <;> simp [SV.one] at h1 <;> simpa [getC] using e
        simpa using ih t e'
theorem dropC_sound {vs cs o ds} (h : RelC β im vs cs) (e : dropC vs o = some ds) : o ≤ cs.length ∧ RelC β im ds (cs.drop o) := by
  induction vs generalizing cs o with
  | nil => cases o <;> simp [dropC] at e; subst e; exact ⟨Nat.zero_le _, by simpa using h⟩
  | cons u vs ih =>
    cases o with
    | zero => simp [dropC] at e; subst e; exact ⟨Nat.zero_le _, by simpa using h⟩
    | succ o =>
      simp only [dropC] at e
      split at e
      · rename_i hle
        cases h with
        | one h1 h t =>
          have hz : u.sz = 1 := by cases u <;> simp [SV.one] at h1 <;> rfl
          rw [hz] at e
          obtain ⟨a, b⟩ := ih t e
          exact ⟨by simp; omega, by simpa using b⟩
        | arr rows hr hl t =>
          rename_i s n g xs
          simp only [SV.sz] at e hle
          obtain ⟨a, b⟩ := ih t e
          refine ⟨by simp [flatMap_len hl]; omega, ?_⟩
          rw [List.drop_append, flatMap_len hl, List.drop_eq_nil_of_le (by rw [flatMap_len hl]; exact hle)]
          simpa using b
      · cases e
theorem takeC_sound {vs cs o ts} (h : RelC β im vs cs) (e : takeC vs o = some ts) : o ≤ cs.length ∧ RelC β im ts (cs.take o) := by
  induction vs generalizing cs o ts with
  | nil => cases o <;> simp [takeC] at e; subst e; exact ⟨Nat.zero_le _, by simpa using RelC.nil⟩
  | cons u vs ih =>
    cases o with
    | zero => simp [takeC] at e; subst e; exact ⟨Nat.zero_le _, by simpa using RelC.nil⟩
    | succ o =>
      simp only [takeC] at e
      split at e
      · rename_i hle
        cases hq : takeC vs (o + 1 - u.sz) with
        | none => rw [hq] at e; cases e
        | some ts' =>
          rw [hq] at e; simp at e; subst e
          cases h with
          | one h1 h t =>
            have hz : u.sz = 1 := by cases u <;> simp [SV.one] at h1 <;> rfl
            rw [hz] at hq
            obtain ⟨a, b⟩ := ih t hq
            exact ⟨by simp; omega, by simpa using RelC.one h1 h b⟩
          | arr rows hr hl t =>
            simp only [SV.sz] at hq hle
            obtain ⟨a, b⟩ := ih t hq
            refine ⟨by simp [flatMap_len hl]; omega, ?_⟩
            rw [List.take_append, flatMap_len hl, List.take_of_length_le (by rw [flatMap_len hl]; exact hle)]
            exact RelC.arr rows hr hl b
      · cases e
theorem RelC.append {vs cs us ds} (h : RelC β im vs cs) (k : RelC β im us ds) : RelC β im (vs ++ us) (cs ++ ds) := by
  induction vs generalizing cs with
  | nil => cases h; simpa using k
  | cons v vs ih =>
    cases h with
    | one h1 h t => exact .one h1 h (ih t)
    | arr rows hr hl t => rw [List.cons_append, List.append_assoc]; exact .arr rows hr hl (ih t)
theorem putC_sound {vs cs o l xs vs'} (h : RelC β im vs cs) (k : RelC β im l xs) (e : putC vs o l = some vs') :
    o + xs.length ≤ cs.length ∧ RelC β im vs' (cs.take o ++ xs ++ cs.drop (o + xs.length)) := by
  unfold putC at e
  rw [← k.len] at e
  cases ha : takeC vs o with
  | none => rw [ha] at e; cases e
  | some a =>
    cases hb : dropC vs (o + xs.length) with
    | none => rw [ha, hb] at e; cases e
    | some b =>
      rw [ha, hb] at e; simp at e; subst e
      obtain ⟨_, q1⟩ := takeC_sound h ha
      obtain ⟨q2, q3⟩ := dropC_sound h hb
      exact ⟨q2, by simpa using (q1.append (k.append q3))⟩
theorem setC1_sound {vs cs o v x vs'} (h : RelC β im vs cs) (hv : Rel β im v x) (h1 : v.one = true) (e : setC.setC1 vs o v = some vs') :
    o < cs.length ∧ RelC β im vs' (cs.set o x) := by
  induction vs generalizing cs o vs' with
  | nil => simp [setC.setC1] at e
  | cons u vs ih =>
    cases o with
    | zero =>
      simp only [setC.setC1] at e
      split at e
      · rename_i hu
        injection e with e; subst e
        cases h with
        | one _ h t => exact ⟨by simp, by simpa using RelC.one h1 hv t⟩
        | arr rows h hl t => simp [SV.one] at hu
      · cases e
    | succ o =>
      simp only [setC.setC1] at e
      split at e
      · rename_i hu
        cases h with
        | one hu1 h t =>
          cases hq : setC.setC1 vs o v with
          | none => rw [hq] at e; cases e
          | some w =>
            rw [hq] at e; simp at e; subst e
            obtain ⟨a, b⟩ := ih t hq
            exact ⟨by simp; omega, by simpa using RelC.one hu1 h b⟩
        | arr rows h hl t => simp [SV.one] at hu
      · cases e
theorem upd_same (g : Nat → List SV) (i : Nat) (r : List SV) : upd g i r i = r := by simp [upd]
theorem upd_ne {g : Nat → List SV} {i j : Nat} {r : List SV} (h : j ≠ i) : upd g i r j = g j := by simp [upd, h]
theorem flatMap_set {sz : Nat} {rows : Nat → List Value} {r : List Value} : ∀ {n i : Nat}, (∀ i, i < n → (rows i).length = sz) → i < n → r.length = sz →
    (List.range n).flatMap (fun j => if j = i then r else rows j) = ((List.range n).flatMap rows).take (i * sz) ++ r ++ ((List.range n).flatMap rows).drop (i * sz + sz)
  | 0, i, _, hi, _ => by omega
  | n + 1, i, h, hi, hr => by
    have hl := flatMap_len (sz := sz) (rows := rows) (n := n) (fun i q => h i (by omega))
    have hn := h n (by omega)
    rw [List.range_succ, List.flatMap_append, List.flatMap_append]
    simp only [List.flatMap_cons, List.flatMap_nil, List.append_nil]
    by_cases q : i < n
    · have hlt : i * sz + sz ≤ sz * n := by
        have : (i + 1) * sz ≤ n * sz := Nat.mul_le_mul_right _ q
        rw [Nat.mul_comm sz n]; rw [Nat.succ_mul] at this; exact this
      rw [flatMap_set (fun i q => h i (by omega)) q hr, if_neg (by omega)]
      rw [List.take_append_of_le_length (by omega), List.drop_append_of_le_length (by omega)]
      simp
    · have : i = n := by omega
      subst this
      have e1 : (List.range i).flatMap (fun j => if j = i then r else rows j) = (List.range i).flatMap rows := by
        rw [List.flatMap_def, List.flatMap_def]; congr 1
        exact List.map_congr_left fun j hj => if_neg (by have := List.mem_range.1 hj; omega)
      rw [e1, if_pos rfl, List.take_append_of_le_length (by rw [hl, Nat.mul_comm]; exact Nat.le_refl _), List.take_of_length_le (by rw [hl, Nat.mul_comm]; exact Nat.le_refl _)]
      rw [List.drop_eq_nil_of_le (by simp [hl, hn, Nat.mul_comm])]
      simp
theorem set_eq_mid {α : Type} (l : List α) (o : Nat) (x : α) (h : o < l.length) : l.set o x = l.take o ++ [x] ++ l.drop (o + 1) := by
  rw [List.set_eq_take_append_cons_drop, if_pos h]; simp
theorem setC_sound {vs cs o v x vs'} (h : RelC β im vs cs) (hv : Rel β im v x) (h1 : v.one = true) (e : setC vs o v = some vs') :
    o < cs.length ∧ RelC β im vs' (cs.set o x) := by
  induction vs generalizing cs o vs' with
  | nil => simp [setC] at e
  | cons u vs ih =>
    cases h with
    | arr rows hr hl t =>
      rename_i s n g xs
      simp only [setC] at e
      split at e
      · rename_i hlt
        obtain ⟨d1, d2, d3⟩ := div_mod_split hlt
        cases hq : setC.setC1 (g (o / s)) (o % s) v with
        | none => rw [hq] at e; cases e
        | some r =>
          rw [hq] at e; simp at e; subst e
          obtain ⟨a, b⟩ := setC1_sound (hr _ d1) hv h1 hq
          have hlen := flatMap_len hl
          refine ⟨by simp [hlen]; omega, ?_⟩
          rw [List.set_append_left _ _ (by rw [hlen]; exact hlt)]
          have key : ((List.range n).flatMap rows).set o x = (List.range n).flatMap (fun j => if j = o / s then (rows (o / s)).set (o % s) x else rows j) := by
            rw [flatMap_set hl d1 (by simp [hl _ d1])]
            apply List.ext_getElem?
            intro p
            have hlr := hl _ d1
            by_cases c1 : p < o / s * s
            · rw [List.append_assoc, List.getElem?_append_left (by simp [hlen]; omega), List.getElem?_set_ne (by omega), List.getElem?_take, if_pos c1]
            · by_cases c2 : p < o / s * s + s
              · have tl : (((List.range n).flatMap rows).take (o / s * s)).length = o / s * s := by simp [hlen]; omega
                rw [List.append_assoc, List.getElem?_append_right (by omega), tl, List.getElem?_append_left (by simp [hlr]; omega)]
                have hp : p = o / s * s + (p - o / s * s) := by omega
                by_cases c3 : p = o
                · subst c3
                  rw [List.getElem?_set_self (by rw [hlen]; exact hlt)]
                  have : p - p / s * s = p % s := by omega
                  rw [this, List.getElem?_set_self (by rw [hlr]; exact d2)]
                · rw [List.getElem?_set_ne (by omega), List.getElem?_set_ne (by omega)]
                  have := flatMap_get hl d1 (j := p - o / s * s) (by omega)
                  rw [← this, ← hp]
              · have tl : (((List.range n).flatMap rows).take (o / s * s) ++ (rows (o / s)).set (o % s) x).length = o / s * s + s := by simp [hlen, hlr]; omega
                rw [List.getElem?_append_right (by omega), tl, List.getElem?_drop, List.getElem?_set_ne (by omega)]
                congr 1; omega
          rw [key]
          refine .arr _ (fun i q => ?_) (fun i q => ?_) t
          · by_cases c : i = o / s
            · subst c; rw [upd_same, if_pos rfl]; exact b
            · rw [upd_ne c, if_neg c]; exact hr i q
          · by_cases c : i = o / s
            · subst c; rw [if_pos rfl]; simp [hl _ d1]
            · rw [if_neg c]; exact hl i q
      · rename_i hge
        cases hq : setC vs (o - s * n) v with
        | none => rw [hq] at e; cases e
        | some r =>
          rw [hq] at e; simp at e; subst e
          obtain ⟨a, b⟩ := ih t hq
          have hlen := flatMap_len hl
          refine ⟨by simp [hlen]; omega, ?_⟩
          rw [List.set_append_right _ _ (by rw [hlen]; omega), hlen]
          exact .arr rows hr hl b
    | one hu1 h t =>
      cases o with
      | zero =>
        have e' : (if u.one then some (v :: vs) else none) = some vs' := by cases u <;> simp [SV.one] at hu1 <;> simpa [setC] using e
        rw [if_pos hu1] at e'; injection e' with e'; subst e'
        exact ⟨by simp, by simpa using RelC.one h1 hv t⟩
      | succ o =>
        have e' : (setC vs o v).map (u :: ·) = some vs' := by cases u <;> simp [SV.one] at hu1 <;> simpa [setC] using e
        cases hq : setC vs o v with
        | none => rw [hq] at e'; cases e'
        | some r =>
          rw [hq] at e'; simp at e'; subst e'
          obtain ⟨a, b⟩ := ih t hq
          exact ⟨by simp; omega, by simpa using RelC.one hu1 h b⟩
/-- The array at cell o, and another in its place. -/
theorem getA_sound {vs cs o s n g} (h : RelC β im vs cs) (e : getA vs o = some (s, n, g)) :
    ∃ rows : Nat → List Value, (∀ i, i < n → RelC β im (g i) (rows i)) ∧ (∀ i, i < n → (rows i).length = s) ∧ o + s * n ≤ cs.length ∧
      (∀ i, i < n → ∀ j, j < s → cs[o + (i * s + j)]? = (rows i)[j]?) ∧
      ∀ g' rows', (∀ i, i < n → RelC β im (g' i) (rows' i)) → (∀ i, i < n → (rows' i).length = s) →
        RelC β im (setA vs o g') (cs.take o ++ (List.range n).flatMap rows' ++ cs.drop (o + s * n)) := by
  induction vs generalizing cs o with
  | nil => simp [getA] at e
  | cons u vs ih =>
    cases h with
    | arr rows hr hl t =>
      rename_i s' n' g0 xs
      have hlen := flatMap_len hl
      simp only [getA] at e
      split at e
      · rename_i h0; subst h0
        injection e with e; injection e with e1 e2; injection e2 with e2 e3; subst e1 e2 e3
        refine ⟨rows, hr, hl, by simp [hlen], fun i hi j hj => ?_, fun g' rows' hr' hl' => ?_⟩
        · rw [Nat.zero_add, List.getElem?_append_left, flatMap_get hl hi hj]
          rw [hlen]
          have : (i + 1) * s' ≤ n' * s' := Nat.mul_le_mul_right _ hi
          rw [Nat.mul_comm s' n']; rw [Nat.succ_mul] at this; omega
        · simp only [setA, if_true, List.take_zero, List.nil_append, Nat.zero_add]
          rw [List.drop_append, hlen, List.drop_eq_nil_of_le (by rw [hlen]; exact Nat.le_refl _)]
          simpa using RelC.arr rows' hr' hl' t
      · rename_i h0
        split at e
        · rename_i hle
          obtain ⟨rows2, a1, a2, a3, a4, a5⟩ := ih t e
          refine ⟨rows2, a1, a2, by simp [hlen]; omega, fun i hi j hj => ?_, fun g' rows' hr' hl' => ?_⟩
          · rw [List.getElem?_append_right (by rw [hlen]; omega), hlen, ← a4 i hi j hj]; congr 1; omega
          · have := a5 g' rows' hr' hl'
            simp only [setA, if_neg h0]
            rw [List.take_append, List.drop_append, hlen, List.take_of_length_le (by rw [hlen]; exact hle), List.drop_eq_nil_of_le (by rw [hlen]; omega)]
            have := RelC.arr rows hr hl this
            rw [show o + s * n - s' * n' = o - s' * n' + s * n by omega]
            simpa using this
        · cases e
    | one hu1 h t =>
      cases o with
      | zero => cases u <;> simp [SV.one] at hu1 <;> simp [getA] at e
      | succ o =>
        have e' : getA vs o = some (s, n, g) := by cases u <;> simp [SV.one] at hu1 <;> simpa [getA] using e
        obtain ⟨rows2, a1, a2, a3, a4, a5⟩ := ih t e'
        refine ⟨rows2, a1, a2, by simp; omega, fun i hi j hj => ?_, fun g' rows' hr' hl' => ?_⟩
        · rw [show o + 1 + (i * s + j) = o + (i * s + j) + 1 by omega, List.getElem?_cons_succ]; exact a4 i hi j hj
        · have := a5 g' rows' hr' hl'
          have q : setA (u :: vs) (o + 1) g' = u :: setA vs o g' := by cases u <;> simp [SV.one] at hu1 <;> simp [setA]
          rw [q, show o + 1 + s * n = o + s * n + 1 by omega, List.take_succ_cons, List.drop_succ_cons]
          exact .one hu1 h this
end
end Go.Sy

/-! The heap's steps: looking into an atom, laying a new one, loads and stores. -/
namespace Go.Sy
open Go.RowKit
section
variable {X : Type} {O : X → SH X} {W0 : World} {B : Nat} {P : Program}
/-- The objects H lie in the world, beside hR. -/
def HSt (O : X → SH X) (W0 : World) (B : Nat) (β : List Value) (im : Im) (H : SH X) (hR : Hp) (w : World) : Prop :=
  ∃ hH, Dj hH hR ∧ HS O im β H β hH ∧ Inv W0 B im (uni hH hR) w
variable {β : List Value} {im : Im} {H : SH X} {hR : Hp} {w : World}
theorem HSt.len (s : HSt O W0 B β im H hR w) : H.length = β.length := by obtain ⟨_, _, h, _⟩ := s; exact h.len
theorem HSt.imm (s : HSt O W0 B β im H hR w) {b o v} (e : im b o = some v) : w.cell? ⟨b, o, none⟩ = some v := by obtain ⟨_, _, _, i⟩ := s; exact i.imm _ _ _ e
theorem HSt.take (s : HSt O W0 B β im H hR w) {k A} (hk : H[k]? = some A) :
    ∃ v h1 h2, β[k]? = some v ∧ Dj h1 h2 ∧ Inv W0 B im (uni h1 h2) w ∧ Sat O im β A v h1 ∧
      ∀ w' A' h1', Dj h1' h2 → Sat O im β A' v h1' → Inv W0 B im (uni h1' h2) w' → HSt O W0 B β im (H.set k A') hR w' := by
  obtain ⟨hH, d, hs, i⟩ := s
  obtain ⟨v, a, b, e, dab, rfl, sa, back⟩ := hs.take hk
  have dd := Dj.uni_left.1 d
  refine ⟨v, a, uni b hR, e, Dj.uni_right.2 ⟨dab, dd.1⟩, by rw [← uni_assoc]; exact i, sa, ?_⟩
  intro w' A' h1' d' s' i'
  have d2 := Dj.uni_right.1 d'
  exact ⟨uni h1' b, Dj.uni_left.2 ⟨d2.2, dd.2⟩, back A' h1' d2.1 s', by rw [uni_assoc]; exact i'⟩
/-- A new atom, of new memory. -/
theorem HSt.push (s : HSt O W0 B β im H hR w) {A v h1 w'} (hd : ∀ hH, HS O im β H β hH → Inv W0 B im (uni hH hR) w → Dj h1 (uni hH hR))
    (sa : Sat O im (β ++ [v]) A v h1) (i' : ∀ hH, HS O im β H β hH → Inv W0 B im (uni hH hR) w → Inv W0 B im (uni h1 (uni hH hR)) w') :
    HSt O W0 B (β ++ [v]) im (H ++ [A]) hR w' := by
  obtain ⟨hH, dj, hs, i⟩ := s
  have d1 := Dj.uni_right.1 (hd hH hs i)
  exact ⟨uni h1 hH, Dj.uni_left.2 ⟨d1.2, dj⟩, (HS.mono (BLe.app β [v]) (ILe.refl im) hs).snoc d1.1 sa, by rw [uni_assoc]; exact i' hH hs i⟩
/-- New cells in a new block. -/
theorem HSt.alloc (s : HSt O W0 B β im H hR w) (cs : List Value) (e : TypeId) {A v}
    (sa : Sat O im (β ++ [v]) A v (newCells w.heap.size cs)) : HSt O W0 B (β ++ [v]) im (H ++ [A]) hR { w with heap := w.heap.push (.cells cs.toArray e) } :=
  s.push (fun _ _ i => (i.alloc cs e).1) sa (fun _ _ i => (i.alloc cs e).2)
theorem HSt.drew (s : HSt O W0 B β im H hR w) : HSt O W0 B β im H hR { w with drawn := w.drawn + 1 } := by
  obtain ⟨hH, d, hs, i⟩ := s; exact ⟨hH, d, hs, i.drew⟩

theorem add_addr (b o i : Nat) : (⟨b, o, none⟩ : Addr).add i = ⟨b, o + i, none⟩ := by
  unfold Addr.add; split
  · rename_i h; subst h; rfl
  · rfl
theorem run_load_cell {a : Addr} {v : Value} (h : w.cell? a = some v) : (load a).run P w = .ok v w := by rw [run_load]; simp [h]
theorem run_loadCellsFrom {b p : Nat} : ∀ (xs : List Value) (i : Nat) (acc : Array Value), (∀ j x, xs[j]? = some x → w.cell? ⟨b, p + (i + j), none⟩ = some x) →
    (loadCellsFrom ⟨b, p, none⟩ i xs.length acc).run P w = .ok (acc ++ xs.toArray) w
  | [], i, acc, _ => by simp [loadCellsFrom]
  | x :: xs, i, acc, h => by
    have h0 := h 0 x rfl
    simp only [List.length_cons, loadCellsFrom, Sem.run_bind]
    rw [add_addr, run_load_cell (by simpa using h0)]
    simp only [Result.andThen_ok]
    rw [run_loadCellsFrom xs (i + 1) (acc.push x) (fun j y e => by have := h (j + 1) y (by simpa using e); rw [show p + (i + 1 + j) = p + (i + (j + 1)) by omega]; exact this)]
    simp
theorem run_loadCells {b p : Nat} (xs : List Value) (h : ∀ j x, xs[j]? = some x → w.cell? ⟨b, p + j, none⟩ = some x) :
    (loadCells ⟨b, p, none⟩ xs.length).run P w = .ok xs.toArray w := by
  have := run_loadCellsFrom (P := P) xs 0 #[] (fun j x e => by simpa using h j x e)
  simpa [loadCells] using this
/-- h with a list of values from a cell on. -/
def setsHp (h : Hp) (b p : Nat) (xs : List Value) : Hp := fun b' o' => if b' = b ∧ p ≤ o' ∧ o' < p + xs.length then (xs[o' - p]?).map Slot.cell else h b' o'
theorem setsHp_nil (h : Hp) (b p : Nat) : setsHp h b p [] = h := by funext b' o'; unfold setsHp; rw [if_neg]; rintro ⟨_, q1, q2⟩; simp at q2; omega
theorem setsHp_cons (h : Hp) (b p : Nat) (x : Value) (xs : List Value) : setsHp (setHp h b p x) b (p + 1) xs = setsHp h b p (x :: xs) := by
  funext b' o'
  unfold setsHp setHp
  by_cases hb : b' = b
  · subst hb
    by_cases c1 : o' = p
    · subst c1
      rw [if_neg (by rintro ⟨_, q, _⟩; omega), if_pos ⟨rfl, rfl⟩, if_pos ⟨rfl, Nat.le_refl _, by simp⟩]; simp
    · by_cases c2 : p + 1 ≤ o' ∧ o' < p + 1 + xs.length
      · rw [if_pos ⟨rfl, c2⟩, if_pos ⟨rfl, by simp; omega⟩]
        have : o' - p = (o' - (p + 1)) + 1 := by omega
        rw [this, List.getElem?_cons_succ]
      · rw [if_neg (by rintro ⟨_, q⟩; exact c2 q), if_neg (by rintro ⟨_, q⟩; exact c1 q), if_neg (by rintro ⟨_, q1, q2⟩; simp at q2; omega)]
  · simp [hb]
theorem setsHp_get {h : Hp} {b p : Nat} {xs : List Value} {j : Nat} {x : Value} (e : xs[j]? = some x) : setsHp h b p xs b (p + j) = some (.cell x) := by
  have : j < xs.length := (List.getElem?_eq_some_iff.1 e).1
  unfold setsHp; rw [if_pos ⟨rfl, by omega, by omega⟩]; simp [e]
theorem setsHp_old {h : Hp} {b p : Nat} {xs : List Value} {b' o' : Nat} (e : ¬(b' = b ∧ p ≤ o' ∧ o' < p + xs.length)) : setsHp h b p xs b' o' = h b' o' := by
  unfold setsHp; rw [if_neg e]
theorem run_store_cell {h : Hp} (i : Inv W0 B im h w) {b o : Nat} {u v : Value} (hv : h b o = some (.cell v)) (hu : oneCell u = true) :
    (store ⟨b, o, none⟩ u).run P w = .ok () (w.setCell ⟨b, o, none⟩ u) := by
  obtain ⟨hc, hl⟩ := i.cell b o v hv
  have hf := hl.frozen hc
  cases u <;> simp [oneCell] at hu <;> simp [store, Sem.run, hc, hf]
theorem run_storeCells {b p : Nat} : ∀ (xs : List Value) (i : Nat) {h : Hp} {w : World}, Inv W0 B im h w → (∀ j, j < xs.length → ∃ u, h b (p + (i + j)) = some (.cell u)) → (∀ x ∈ xs, oneCell x = true) →
    ∃ w', (storeCells ⟨b, p, none⟩ xs i).run P w = .ok () w' ∧ Inv W0 B im (setsHp h b (p + i) xs) w'
  | [], i, h, w, hi, _, _ => ⟨w, by simp [storeCells], by rw [setsHp_nil]; exact hi⟩
  | x :: xs, i, h, w, hi, hc, ho => by
    obtain ⟨u, hu⟩ := hc 0 (by simp)
    have hx := ho x (by simp)
    obtain ⟨w', h1, h2⟩ := run_storeCells xs (i + 1) (hi.setCell (u := x) (by simpa using hu))
      (fun j hj => by
        obtain ⟨v, hv⟩ := hc (j + 1) (by simpa using hj)
        refine ⟨v, ?_⟩
        unfold setHp
        have hn : ¬(b = b ∧ p + (i + 1 + j) = p + i) := by rintro ⟨_, q⟩; omega
        rw [if_neg hn, show p + (i + 1 + j) = p + (i + (j + 1)) by omega]; exact hv)
      (fun y hy => ho y (by simp [hy]))
    refine ⟨w', ?_, ?_⟩
    · simp only [storeCells, Sem.run_bind]
      rw [add_addr, run_store_cell hi (by simpa using hu) hx]
      exact h1
    · rw [← setsHp_cons]; exact h2
theorem setsHp_uni {h1 h2 : Hp} {b p : Nat} {xs : List Value} : setsHp (uni h1 h2) b p xs = uni (setsHp h1 b p xs) h2 := by
  funext b' o'
  by_cases c : b' = b ∧ p ≤ o' ∧ o' < p + xs.length
  · have : o' - p < xs.length := by omega
    simp only [setsHp, uni, if_pos c, List.getElem?_eq_getElem this, Option.map_some]
  · simp only [setsHp, uni, if_neg c]
theorem Dj.sets {h1 h2 : Hp} {b p : Nat} {xs : List Value} (d : Dj h1 h2) (hc : ∀ j, j < xs.length → ∃ u, h1 b (p + j) = some u) : Dj (setsHp h1 b p xs) h2 := by
  intro b' o'
  by_cases c : b' = b ∧ p ≤ o' ∧ o' < p + xs.length
  · right
    obtain ⟨rfl, c1, c2⟩ := c
    obtain ⟨u, hu⟩ := hc (o' - p) (by omega)
    rw [show p + (o' - p) = o' by omega] at hu
    rcases d b' o' with q | q
    · rw [hu] at q; cases q
    · exact q
  · rw [setsHp_old c]; exact d b' o'
theorem RelC.ones : ∀ {vs cs}, RelC β im vs cs → ∀ x ∈ cs, oneCell x = true
  | _, _, .nil => by simp
  | _, _, .one h1 h t => fun x hx => by
    rcases List.mem_cons.1 hx with rfl | hx
    · exact h.oneCell h1
    · exact RelC.ones t x hx
  | _, _, .arr rows hr hl t => fun x hx => by
    rcases List.mem_append.1 hx with hx | hx
    · obtain ⟨i, hi, hx⟩ := List.mem_flatMap.1 hx
      exact RelC.ones (hr i (List.mem_range.1 hi)) x hx
    · exact RelC.ones t x hx
end
end Go.Sy

/-! Operations that look, load and store. -/
namespace Go.Sy
open Go.RowKit
section
variable {P : Program} {w : World}
theorem run_typeInfo' {t : TypeId} {i : TypeInfo} (h : P.info? t = some i) : (typeInfo t).run P w = .ok i w := by simp [typeInfo, h]
theorem run_sizeOf {t : TypeId} {m : Nat} (h : tSize P t = some m) : (sizeOf t).run P w = .ok m w := by
  unfold tSize at h
  cases hi : P.info? t with
  | none => rw [hi] at h; cases h
  | some i => rw [hi] at h; simp at h; subst h; simp [sizeOf, run_typeInfo' hi]
theorem run_bytes {t : TypeId} {m : Nat} (h : tBytes P t = some m) : ∃ i, P.info? t = some i ∧ i.bytes = m := by
  unfold tBytes at h
  cases hi : P.info? t with
  | none => rw [hi] at h; cases h
  | some i => rw [hi] at h; simp at h; exact ⟨i, rfl, h⟩
theorem run_isAgg_none {t : TypeId} (h : aggN P t = some none) : (isAgg t).run P w = .ok false w := by
  unfold aggN at h
  cases hu : P.underlying t with
  | none => rw [hu] at h; cases h
  | some d =>
    rw [hu] at h
    cases d <;> simp at h <;> simp [isAgg, run_underlying hu]
theorem run_isAgg_some {t : TypeId} {m : Nat} (h : aggN P t = some (some m)) : (isAgg t).run P w = .ok true w ∧ tSize P t = some m := by
  unfold aggN at h
  cases hu : P.underlying t with
  | none => rw [hu] at h; cases h
  | some d =>
    rw [hu] at h
    cases d <;> simp at h <;> exact ⟨by simp [isAgg, run_underlying hu], h⟩
end
section
variable {X : Type} {O : X → SH X} {W0 : World} {B : Nat} {P : Program} {β : List Value} {im : Im} {H : SH X} {hR : Hp} {w : World} {K : SV → SH X → Prop}
/-- A run that ends in a value and a world that fit one of K's. -/
def Yd (O : X → SH X) (W0 : World) (B : Nat) (β : List Value) (im : Im) (hR : Hp) (K : SV → SH X → Prop) (r : Result Value) : Prop :=
  ∃ v w' sv H' β' im', r = .ok v w' ∧ K sv H' ∧ BLe id β β' ∧ ILe im im' ∧ Rel β' im' sv v ∧ HSt O W0 B β' im' H' hR w'
theorem Yd.same {r : Result Value} {v sv} (e : r = .ok v w) (k : K sv H) (hr : Rel β im sv v) (s : HSt O W0 B β im H hR w) : Yd O W0 B β im hR K r :=
  ⟨v, w, sv, H, β, im, e, k, BLe.refl β, ILe.refl im, hr, s⟩

theorem run_loadVar {t : TypeId} {n : Option Nat} {vs cs b p o sv} (ht : aggN P t = some n) (hr : RelC β im vs cs)
    (hc : ∀ j x, cs[j]? = some x → w.cell? ⟨b, p + j, none⟩ = some x) (e : ldV vs o n = some sv) :
    ∃ v, (loadVar t ⟨b, p + o, none⟩).run P w = .ok v w ∧ Rel β im sv v := by
  cases n with
  | none =>
    obtain ⟨x, hx, hv, _⟩ := getC_sound hr e
    exact ⟨x, by simp [loadVar, run_isAgg_none ht, hc o x hx], hv⟩
  | some m =>
    obtain ⟨h1, h2⟩ := run_isAgg_some (w := w) ht
    simp only [ldV] at e
    cases hd : dropC vs o with
    | none => rw [hd] at e; cases e
    | some ds =>
      rw [hd] at e; simp only [Option.bind_some] at e
      cases hk : takeC ds m with
      | none => rw [hk] at e; cases e
      | some ts =>
        rw [hk] at e; simp at e; subst e
        obtain ⟨a1, a2⟩ := dropC_sound hr hd
        obtain ⟨b1, b2⟩ := takeC_sound a2 hk
        have hlen : ((cs.drop o).take m).length = m := by simp at b1 ⊢; omega
        have := run_loadCells (P := P) (w := w) (b := b) (p := p + o) ((cs.drop o).take m) (fun j x ex => by
          rw [List.getElem?_take] at ex
          split at ex
          · rw [List.getElem?_drop] at ex; rw [Nat.add_assoc]; exact hc _ _ ex
          · cases ex)
        rw [hlen] at this
        exact ⟨_, by simp [loadVar, h1, run_sizeOf h2, this], Rel.agg b2⟩
theorem run_loadAt {t : TypeId} {a : Addr} {r : Result Value} (h : (loadVar t a).run P w = r) : (Instr.loadAt t (.pointer (some a))).run P w = r := by
  simp [Instr.loadAt, Instr.sureAddr, h]
theorem one?_sem {v : Option SV} (h : (one? v H).sem K) : ∃ sv, v = some sv ∧ K sv H := by
  cases v with
  | none => simp [one?, Out.sem] at h
  | some sv => exact ⟨sv, rfl, by simpa [one?, Out.sem] using h⟩
theorem Inv.cells {h : Hp} (i : Inv W0 B im h w) {cs : List Value} {b p : Nat} (hh : ∀ j x, cs[j]? = some x → h b (p + j) = some (.cell x)) :
    ∀ j x, cs[j]? = some x → w.cell? ⟨b, p + j, none⟩ = some x := fun j x e => (i.cell b _ x (hh j x e)).1

theorem ld_sound {t : TypeId} {n : Option Nat} {p : SV} {pv : Value} (hp : Rel β im p pv) (hs : (evLd p n H).sem K) (st : HSt O W0 B β im H hR w) (ht : aggN P t = some n) :
    Yd O W0 B β im hR K ((Instr.loadAt t pv).run P w) := by
  have mem : ∀ {k : Nat} {vs : List SV} {b q o : Nat} {sv : SV}, H[k]? = some (Atom.mem vs) → β[k]? = some (Value.pointer (some ⟨b, q, none⟩)) → ldV vs o n = some sv → K sv H → pv = Value.pointer (some ⟨b, q + o, none⟩) →
      Yd O W0 B β im hR K ((Instr.loadAt t pv).run P w) := by
    intro k vs b q o sv hk hb e hK hpv
    obtain ⟨v, h1, h2, e1, d, i, sa, _⟩ := st.take hk
    cases sa with
    | mem hr hh =>
      rw [hb] at e1; injection e1 with e1; injection e1 with e1; injection e1 with e1; injection e1 with e1 e2; subst e1 e2
      obtain ⟨x, hx, rx⟩ := run_loadVar (w := w) ht hr (i.cells fun j y ey => uni_left (hh j y ey)) e
      subst hpv
      exact .same (run_loadAt hx) hK rx st
  cases hp <;> simp only [evLd] at hs <;> try exact hs.elim
  case key k hk h1 =>
    split at hs
    · rename_i vs hm
      obtain ⟨sv, e, hK⟩ := one?_sem hs
      obtain ⟨v, h1, h2, e1, d, i, sa, _⟩ := st.take hm
      cases sa with
      | mem hr hh => rw [hk] at e1; injection e1 with e1; exact mem hm (by rw [hk, e1]) e hK (by rw [e1]; rfl)
    · exact hs.elim
  case off k o b p hk =>
    split at hs
    · rename_i vs hm
      obtain ⟨sv, e, hK⟩ := one?_sem hs
      exact mem hm hk e hK rfl
    · exact hs.elim
  case offa k o sz i f b p hk =>
    split at hs
    · rename_i vs hm
      split at hs
      · rename_i s m g hg
        split at hs
        · rename_i hsz; subst hsz
          obtain ⟨him, hs⟩ := hs
          obtain ⟨sv, e, hK⟩ := one?_sem hs
          obtain ⟨v, h1, h2, e1, d, iv, sa, _⟩ := st.take hm
          cases sa with
          | mem hr hh =>
            rw [hk] at e1; injection e1 with e1; injection e1 with e1; injection e1 with e1; injection e1 with e1 e2; subst e1 e2
            obtain ⟨rows, r1, r2, r3, r4, _⟩ := getA_sound hr hg
            obtain ⟨x, hx, rx⟩ := run_loadVar (P := P) (w := w) (b := b) (p := p + (o + i * s)) (o := f) ht (r1 i him) (fun j y ey => by
              have hj : j < s := by have := (List.getElem?_eq_some_iff.1 ey).1; rw [r2 i him] at this; exact this
              rw [← r4 i him j hj] at ey
              have := iv.cells (fun j y ey => uni_left (h2 := h2) (hh j y ey)) _ _ ey
              rw [show p + (o + i * s) + j = p + (o + (i * s + j)) by omega]; exact this) e
            rw [show p + (o + i * s) + f = p + (o + (i * s + f)) by omega] at hx
            exact .same (run_loadAt hx) hK rx st
        · exact hs.elim
      · obtain ⟨sv, e, hK⟩ := one?_sem hs
        exact mem hm hk e hK rfl
    · exact hs.elim
  case elt k sz i f b p c n' hk =>
    split at hs
    · rename_i s m g hm
      split at hs
      · rename_i hsz; subst hsz
        obtain ⟨him, hs⟩ := hs
        obtain ⟨sv, e, hK⟩ := one?_sem hs
        obtain ⟨v, h1, h2, e1, d, iv, sa, _⟩ := st.take hm
        cases sa with
        | vec hc rows hr hl hh =>
          rw [hk] at e1; injection e1 with e1; injection e1 with e1; injection e1 with e1; injection e1 with e1 e2; subst e1 e2
          obtain ⟨x, hx, rx⟩ := run_loadVar (P := P) (w := w) (b := b) (p := p + i * s) (o := f) ht (hr i him) (fun j y ey => by
            have := (iv.cell _ _ _ (uni_left (h2 := h2) (hh i (by omega) j y ey))).1
            rw [show p + i * s + j = p + (i * s + j) by omega]; exact this) e
          rw [show p + i * s + f = p + (i * s + f) by omega] at hx
          exact .same (run_loadAt hx) hK rx st
        | vec0 => omega
      · exact hs.elim
    · exact hs.elim
  case roe sz n' g i f b p rows hr hl hi hm =>
    obtain ⟨sv, e, hK⟩ := one?_sem hs
    obtain ⟨x, hx, rx⟩ := run_loadVar (P := P) (w := w) (b := b) (p := p + i * sz) (o := f) ht (hr i hi) (fun j y ey => by
      have := st.imm (hm i hi j y ey)
      rw [show p + i * sz + j = p + (i * sz + j) by omega]; exact this) e
    rw [show p + i * sz + f = p + (i * sz + f) by omega] at hx
    exact .same (run_loadAt hx) hK rx st
end
end Go.Sy

/-! Stores. -/
namespace Go.Sy
open Go.RowKit
section
variable {X : Type} {O : X → SH X} {W0 : World} {B : Nat} {P : Program} {β : List Value} {im : Im} {H : SH X} {hR : Hp} {w : World} {K : SV → SH X → Prop}
def YdU (O : X → SH X) (W0 : World) (B : Nat) (β : List Value) (im : Im) (hR : Hp) (K : SV → SH X → Prop) (r : Result Unit) : Prop :=
  ∃ w' H' β' im', r = .ok () w' ∧ K .und H' ∧ BLe id β β' ∧ ILe im im' ∧ HSt O W0 B β' im' H' hR w'
theorem cells_one {x : Value} (h : oneCell x = true) : x.cells = #[x] := by cases x <;> simp [oneCell] at h <;> rfl
theorem stV_sound {vs cs o v n vs' x} (h : RelC β im vs cs) (hv : Rel β im v x) (e : stV vs o v n = some vs') :
    x.cells.toList.length = n ∧ o + n ≤ cs.length ∧ RelC β im vs' (cs.take o ++ x.cells.toList ++ cs.drop (o + n)) ∧ ∀ y ∈ x.cells.toList, oneCell y = true := by
  have other : (if v.one && n == 1 then setC vs o v else none) = some vs' →
      x.cells.toList.length = n ∧ o + n ≤ cs.length ∧ RelC β im vs' (cs.take o ++ x.cells.toList ++ cs.drop (o + n)) ∧ ∀ y ∈ x.cells.toList, oneCell y = true := by
    intro e2
    split at e2
    · rename_i hc
      simp at hc
      obtain ⟨h1, rfl⟩ := hc
      obtain ⟨a, b⟩ := setC_sound h hv h1 e2
      have ho := hv.oneCell h1
      rw [cells_one ho]
      refine ⟨by simp, by omega, ?_, by simpa using ho⟩
      rw [set_eq_mid _ _ _ a] at b
      simpa using b
    · cases e2
  cases v <;> first | exact other e | skip
  case agg l =>
    cases hv with
    | agg hl =>
      rename_i ds
      simp only [stV] at e
      split at e
      · rename_i hn
        obtain ⟨a, b⟩ := putC_sound h hl e
        have hlen := hl.len
        simp only [Value.cells]
        refine ⟨by rw [hlen, hn], by omega, ?_, by simpa using hl.ones⟩
        rw [hlen, hn] at b; exact b
      · cases e
/-- The cells behind a store. -/
theorem mid_get {cs xs : List Value} {o n j : Nat} {y : Value} (hn : xs.length = n) (ho : o + n ≤ cs.length) (e : (cs.take o ++ xs ++ cs.drop (o + n))[j]? = some y) :
    (o ≤ j ∧ j < o + n ∧ xs[j - o]? = some y) ∨ (¬(o ≤ j ∧ j < o + n) ∧ cs[j]? = some y) := by
  have tl : (cs.take o).length = o := by simp; omega
  by_cases c1 : j < o
  · right
    refine ⟨by omega, ?_⟩
    rw [List.append_assoc, List.getElem?_append_left (by omega), List.getElem?_take, if_pos c1] at e; exact e
  · by_cases c2 : j < o + n
    · left
      refine ⟨by omega, c2, ?_⟩
      rw [List.append_assoc, List.getElem?_append_right (by omega), tl, List.getElem?_append_left (by omega)] at e; exact e
    · right
      refine ⟨by omega, ?_⟩
      rw [List.getElem?_append_right (by simp; omega), List.getElem?_drop] at e
      simp only [List.length_append, tl, hn] at e
      rw [show o + n + (j - (o + n)) = j by omega] at e; exact e
theorem run_storeAt {t : TypeId} {m : Nat} {a : Addr} {x : Value} {r : Result Unit} (ht : tSize P t = some m) (hx : x.cells.size = m) (h : (storeCells a x.cells.toList).run P w = r) :
    (Instr.storeAt t (.pointer (some a)) x).run P w = r := by
  simp [Instr.storeAt, Instr.sureAddr, storeVar, run_sizeOf ht, hx, h]
/-- A store into cells from (b, p) on, which lie in h1. -/
theorem st_core {t : TypeId} {n : Nat} {h1 h2 : Hp} {vs cs vs' : List _} {b p o : Nat} {v : SV} {x : Value} (ht : tSize P t = some n) (hr : RelC β im vs cs) (hv : Rel β im v x)
    (e : stV vs o v n = some vs') (hh : ∀ j y, cs[j]? = some y → h1 b (p + j) = some (.cell y)) (d : Dj h1 h2) (i : Inv W0 B im (uni h1 h2) w) :
    ∃ w' h1' cs', (Instr.storeAt t (.pointer (some ⟨b, p + o, none⟩)) x).run P w = .ok () w' ∧ Dj h1' h2 ∧ Inv W0 B im (uni h1' h2) w' ∧ RelC β im vs' cs' ∧
      cs'.length = cs.length ∧ (∀ j y, cs'[j]? = some y → h1' b (p + j) = some (.cell y)) ∧ (∀ b' o', ¬(b' = b ∧ p ≤ o' ∧ o' < p + cs.length) → h1' b' o' = h1 b' o') := by
  obtain ⟨a1, a2, a3, a4⟩ := stV_sound hr hv e
  have hcell : ∀ j, j < x.cells.toList.length → ∃ u, h1 b (p + o + j) = some (.cell u) := fun j hj => by
    have : o + j < cs.length := by omega
    exact ⟨cs[o + j], by rw [Nat.add_assoc]; exact hh _ _ (List.getElem?_eq_getElem this)⟩
  obtain ⟨w', r1, r2⟩ := run_storeCells (P := P) (b := b) (p := p + o) x.cells.toList 0 i (fun j hj => by
    obtain ⟨u, hu⟩ := hcell j hj
    exact ⟨u, uni_left (by simpa using hu)⟩) a4
  rw [Nat.add_zero, setsHp_uni] at r2
  refine ⟨w', _, _, run_storeAt ht (by simpa using a1) r1, d.sets (fun j hj => let ⟨u, hu⟩ := hcell j hj; ⟨_, hu⟩), r2, a3, by simp only [List.length_append, List.length_take, List.length_drop]; omega, ?_, ?_⟩
  · intro j y ey
    rcases mid_get a1 a2 ey with ⟨c1, c2, c3⟩ | ⟨c1, c2⟩
    · have := setsHp_get (h := h1) (b := b) (p := p + o) c3
      rw [show p + o + (j - o) = p + j by omega] at this; exact this
    · rw [setsHp_old (by rintro ⟨_, q1, q2⟩; omega)]; exact hh j y c2
  · intro b' o' hn
    apply setsHp_old
    rintro ⟨q0, q1, q2⟩
    exact hn ⟨q0, by omega, by omega⟩
theorem put?_sem {v : Option (List SV)} {k : Nat} {f : List SV → Atom X} (h : (put? v k H f).sem K) : ∃ vs, v = some vs ∧ K .und (H.set k (f vs)) := by
  cases v with
  | none => simp [put?, Out.sem] at h
  | some vs => exact ⟨vs, rfl, by simpa [put?, Out.sem] using h⟩
theorem ptr_inj {b b' p p' : Nat} {v : Value} (h : β[b']? = some (.pointer (some ⟨b, p, none⟩))) (h' : β[b']? = some v) (hv : v = .pointer (some ⟨p', b, none⟩)) : b = p' := by
  rw [h] at h'; injection h' with h'; rw [← h'] at hv; injection hv with hv; injection hv with hv; injection hv

theorem st_sound {t : TypeId} {n : Nat} {p v : SV} {pv x : Value} (hp : Rel β im p pv) (hv : Rel β im v x) (hs : (evSt p v n H).sem K) (st : HSt O W0 B β im H hR w) (ht : tSize P t = some n) :
    YdU O W0 B β im hR K ((Instr.storeAt t pv x).run P w) := by
  have mem : ∀ {k : Nat} {vs vs' : List SV} {b q o : Nat}, H[k]? = some (Atom.mem vs) → β[k]? = some (Value.pointer (some ⟨b, q, none⟩)) → stV vs o v n = some vs' → K .und (H.set k (.mem vs')) →
      pv = Value.pointer (some ⟨b, q + o, none⟩) → YdU O W0 B β im hR K ((Instr.storeAt t pv x).run P w) := by
    intro k vs vs' b q o hk hb e hK hpv
    obtain ⟨u, h1, h2, e1, d, i, sa, back⟩ := st.take hk
    cases sa with
    | mem hr hh =>
      rw [hb] at e1; injection e1 with e1; injection e1 with e1; injection e1 with e1; injection e1 with e1 e2; subst e1 e2
      obtain ⟨w', h1', cs', r1, r2, r3, r4, _, r6, _⟩ := st_core (P := P) ht hr hv e hh d i
      subst hpv
      exact ⟨w', _, β, im, r1, hK, BLe.refl β, ILe.refl im, back w' _ h1' r2 (.mem r4 r6) r3⟩
  cases hp <;> simp only [evSt] at hs <;> try exact hs.elim
  case key k hk h1 =>
    split at hs
    · rename_i vs hm
      obtain ⟨vs', e, hK⟩ := put?_sem hs
      obtain ⟨u, h1, h2, e1, d, i, sa, _⟩ := st.take hm
      cases sa with
      | mem hr hh => rw [hk] at e1; injection e1 with e1; exact mem hm (by rw [hk, e1]) e hK (by rw [e1]; rfl)
    · exact hs.elim
  case off k o b q hk =>
    split at hs
    · rename_i vs hm
      obtain ⟨vs', e, hK⟩ := put?_sem hs
      exact mem hm hk e hK rfl
    · exact hs.elim
  case offa k o sz i f b q hk =>
    split at hs
    · rename_i vs hm
      split at hs
      · rename_i s m g hg
        split at hs
        · rename_i hsz; subst hsz
          obtain ⟨him, hs⟩ := hs
          obtain ⟨r', e, hK⟩ := put?_sem hs
          obtain ⟨u, h1, h2, e1, d, iv, sa, back⟩ := st.take hm
          cases sa with
          | mem hr hh =>
            rename_i cs _ _
            rw [hk] at e1; injection e1 with e1; injection e1 with e1; injection e1 with e1; injection e1 with e1 e2; subst e1 e2
            obtain ⟨rows, r1, r2, r3, r4, r5⟩ := getA_sound hr hg
            have hrow : ∀ j y, (rows i)[j]? = some y → h1 b (q + (o + i * s) + j) = some (.cell y) := fun j y ey => by
              have hj : j < s := by have := (List.getElem?_eq_some_iff.1 ey).1; rw [r2 i him] at this; exact this
              rw [← r4 i him j hj] at ey
              rw [show q + (o + i * s) + j = q + (o + (i * s + j)) by omega]; exact hh _ _ ey
            obtain ⟨w', h1', cs', q1, q2, q3, q4, q5, q6, q7⟩ := st_core (P := P) ht (r1 i him) hv e hrow d iv
            rw [show q + (o + i * s) + f = q + (o + (i * s + f)) by omega] at q1
            have hsr := r2 i him
            have hfm : (i + 1) * s ≤ m * s := Nat.mul_le_mul_right _ him
            rw [Nat.succ_mul] at hfm
            have hms : s * m = m * s := Nat.mul_comm s m
            have hl2 : ∀ j, j < m → (if j = i then cs' else rows j).length = s := fun j hj => by
              by_cases c : j = i
              · rw [if_pos c, q5, hsr]
              · rw [if_neg c]; exact r2 j hj
            have new := r5 (upd g i r') (fun j => if j = i then cs' else rows j) (fun j hj => by
              by_cases c : j = i
              · subst c; rw [upd_same, if_pos rfl]; exact q4
              · rw [upd_ne c, if_neg c]; exact r1 j hj) hl2
            refine ⟨w', _, β, im, q1, hK, BLe.refl β, ILe.refl im, back w' _ h1' q2 (.mem new ?_) q3⟩
            intro j y ey
            have hfl := flatMap_len (n := m) hl2
            rw [show o + s * m = o + (s * m) from rfl] at ey
            rcases mid_get hfl r3 ey with ⟨c1, c2, c3⟩ | ⟨c1, c2⟩
            · -- inside the array
              have hlt : j - o < s * m := by omega
              obtain ⟨d1, d2, d3⟩ := div_mod_split hlt
              rw [← d3, flatMap_get hl2 d1 d2] at c3
              by_cases c : (j - o) / s = i
              · rw [if_pos c] at c3
                have := q6 _ _ c3
                rw [show q + (o + i * s) + (j - o) % s = q + j by rw [← c]; omega] at this; exact this
              · rw [if_neg c] at c3
                rw [← r4 _ d1 _ d2] at c3
                rw [show o + ((j - o) / s * s + (j - o) % s) = j by omega] at c3
                rw [q7 _ _ (by
                  rintro ⟨_, z1, z2⟩
                  rw [hsr] at z2
                  have z3 : i * s ≤ j - o := by omega
                  have z4 : j - o < (i + 1) * s := by rw [Nat.succ_mul]; omega
                  have hs0 : 0 < s := Nat.lt_of_le_of_lt (Nat.zero_le _) d2
                  exact c (Nat.div_eq_of_lt_le z3 z4))]
                exact hh _ _ c3
            · rw [q7 _ _ (by rintro ⟨_, z1, z2⟩; rw [hsr] at z2; omega)]
              exact hh _ _ c2
        · exact hs.elim
      · obtain ⟨vs', e, hK⟩ := put?_sem hs
        exact mem hm hk e hK rfl
    · exact hs.elim
  case elt k sz i f b q n' c hk =>
    split at hs
    · rename_i s m g hm
      split at hs
      · rename_i hsz; subst hsz
        obtain ⟨him, hs⟩ := hs
        obtain ⟨r', e, hK⟩ := put?_sem hs
        obtain ⟨u, h1, h2, e1, d, iv, sa, back⟩ := st.take hm
        cases sa with
        | vec hc rows hr hl hh =>
          rw [hk] at e1; injection e1 with e1; injection e1 with e1 e3 e4; injection e1 with e1; injection e1 with e1 e2; subst e1 e2 e3 e4
          have hrow : ∀ j y, (rows i)[j]? = some y → h1 b (q + i * s + j) = some (.cell y) := fun j y ey => by
            rw [show q + i * s + j = q + (i * s + j) by omega]; exact hh i (by omega) j y ey
          obtain ⟨w', h1', cs', q1, q2, q3, q4, q5, q6, q7⟩ := st_core (P := P) ht (hr i him) hv e hrow d iv
          rw [show q + i * s + f = q + (i * s + f) by omega] at q1
          have hsr := hl i (by omega)
          refine ⟨w', _, β, im, q1, hK, BLe.refl β, ILe.refl im, back w' _ h1' q2 (.vec hc (fun j => if j = i then cs' else rows j) (fun j hj => ?_) (fun j hj => ?_) (fun j hj p' y ey => ?_)) q3⟩
          · by_cases c : j = i
            · subst c; rw [upd_same, if_pos rfl]; exact q4
            · rw [upd_ne c, if_neg c]; exact hr j hj
          · by_cases c : j = i
            · rw [if_pos c, q5, hsr]
            · rw [if_neg c]; exact hl j hj
          · by_cases c : j = i
            · subst c
              rw [if_pos rfl] at ey
              have := q6 _ _ ey
              rw [show q + j * s + p' = q + (j * s + p') by omega] at this; exact this
            · rw [if_neg c] at ey
              have hp' : p' < s := by have := (List.getElem?_eq_some_iff.1 ey).1; rw [hl j hj] at this; exact this
              rw [q7 _ _ (by
                rintro ⟨_, z1, z2⟩
                rw [hsr] at z2
                have z3 : i * s ≤ j * s + p' := by omega
                have z4 : j * s + p' < (i + 1) * s := by rw [Nat.succ_mul]; omega
                have a1 := Nat.div_eq_of_lt_le z3 z4
                have a2 : (j * s + p') / s = j := by rw [Nat.mul_comm, Nat.mul_add_div (by omega), Nat.div_eq_of_lt hp', Nat.add_zero]
                omega)]
              exact hh j hj p' y ey
        | vec0 => omega
      · exact hs.elim
    · exact hs.elim
end
end Go.Sy

/-! Operations that only reckon or look. -/
namespace Go.Sy
open Go.RowKit
section
variable {X : Type} {O : X → SH X} {W0 : World} {B : Nat} {P : Program} {β : List Value} {im : Im} {H : SH X} {hR : Hp} {w : World} {K : SV → SH X → Prop}
theorem bin_sound {o : BinOp} {t : TypeId} {x y : SV} {a b : Value} (hx : Rel β im x a) (hy : Rel β im y b) (hs : (evBin o x y H).sem K) (st : HSt O W0 B β im H hR w) (ho : o ≠ .eql) (hn : o ≠ .neq) :
    Yd O W0 B β im hR K ((binOp o t a b).run P w) := by
  cases hx <;> cases hy <;> simp only [evBin, Out.sem] at hs <;> try exact hs.elim
  case int.int k n k' m =>
    by_cases hk : k = k'
    · subst hk
      cases o <;> simp only [if_true, Out.sem] at hs <;> first
        | exact absurd rfl ho
        | exact absurd rfl hn
        | (refine .same ?_ hs .int st; simp only [binOp, ne_eq, not_true_eq_false, if_false]; rfl)
        | (refine .same ?_ hs .bool st; simp only [binOp, ne_eq, not_true_eq_false, if_false]; rfl)
        | (obtain ⟨h1, h2⟩ := hs; refine .same ?_ h2 .int st; simp only [binOp, ne_eq, not_true_eq_false, if_false, Op.intDiv, if_neg h1]; rfl)
        | (obtain ⟨h1, h2⟩ := hs; refine .same ?_ h2 .int st; simp only [binOp, Op.shift, if_neg (show ¬ m < 0 by omega)]; rfl)
    · cases o <;> simp only [if_neg hk, Out.sem] at hs <;> first
        | exact hs.elim
        | (obtain ⟨h1, h2⟩ := hs; refine .same ?_ h2 .int st; simp only [binOp, Op.shift, if_neg (show ¬ m < 0 by omega)]; rfl)
  case str.str s s' =>
    cases o <;> simp only [Out.sem] at hs <;> try exact hs.elim
    obtain ⟨h1, h2⟩ := hs
    refine .same ?_ h2 .str st
    have e : IntKind.i64.max = 9223372036854775807 := by decide
    simp [binOp, Op.stringOp, e]; omega
theorem un_sound {o : UnOp} {x : SV} {a : Value} (hx : Rel β im x a) (hs : (evUn o x H).sem K) (st : HSt O W0 B β im H hR w) :
    Yd O W0 B β im hR K ((Op.unary o a).run P w) := by
  cases hx <;> cases o <;> simp only [evUn, Out.sem] at hs <;> first
    | exact hs.elim
    | (refine .same ?_ hs .int st; simp only [Op.unary]; rfl)
    | (refine .same ?_ hs .bool st; simp only [Op.unary]; rfl)
theorem mm_sound {mx : Bool} {x y : SV} {a b : Value} {t : Array TypeId} {u : TypeId} (hx : Rel β im x a) (hy : Rel β im y b) (hs : (evMM mx x y H).sem K) (st : HSt O W0 B β im H hR w) :
    Yd O W0 B β im hR K ((if mx then Builtin.max_ t u #[a, b] else Builtin.min_ t u #[a, b]).run P w) := by
  cases hx <;> cases hy <;> simp only [evMM, Out.sem] at hs <;> try exact hs.elim
  case int.int k n k' m =>
    cases mx
    · refine .same (v := .int k (min n m)) ?_ hs .int st
      simp [Builtin.min_, Builtin.min2]; omega
    · refine .same (v := .int k (max n m)) ?_ hs .int st
      simp [Builtin.max_, Builtin.max2]; omega
theorem RelL.get {l : List SV} {vs : List Value} {i : Nat} {v : SV} (h : RelL β im l vs) (e : l[i]? = some v) : ∃ x, vs[i]? = some x ∧ Rel β im v x := by
  induction l generalizing vs i with
  | nil => simp at e
  | cons u l ih =>
    cases h with
    | cons h t =>
      cases i with
      | zero => simp at e; subst e; exact ⟨_, rfl, h⟩
      | succ i => simpa using ih t (by simpa using e)
theorem ext_sound {x : SV} {a : Value} {i : Nat} (hx : Rel β im x a) (hs : (evExt x i H).sem K) (st : HSt O W0 B β im H hR w) :
    Yd O W0 B β im hR K ((Instr.extract a i).run P w) := by
  cases hx <;> simp only [evExt] at hs <;> try exact hs.elim
  case tup l vs h =>
    obtain ⟨sv, e, hK⟩ := one?_sem hs
    obtain ⟨x, hx, r⟩ := h.get e
    exact .same (v := x) (by simp [Instr.extract, hx]) hK r st
theorem part_sound {t : TypeId} {n : Option Nat} {l cs o sv} (ht : aggN P t = some n) (hr : RelC β im l cs) (e : ldV l o n = some sv) :
    ∃ v, (part t cs.toArray o).run P w = .ok v w ∧ Rel β im sv v := by
  cases n with
  | none =>
    obtain ⟨x, hx, hv, _⟩ := getC_sound hr e
    exact ⟨x, by simp [part, run_isAgg_none ht, hx], hv⟩
  | some m =>
    obtain ⟨h1, h2⟩ := run_isAgg_some (w := w) ht
    simp only [ldV] at e
    cases hd : dropC l o with
    | none => rw [hd] at e; cases e
    | some ds =>
      rw [hd] at e; simp only [Option.bind_some] at e
      cases hk : takeC ds m with
      | none => rw [hk] at e; cases e
      | some ts =>
        rw [hk] at e; simp at e; subst e
        obtain ⟨a1, a2⟩ := dropC_sound hr hd
        obtain ⟨b1, b2⟩ := takeC_sound a2 hk
        exact ⟨.agg (List.take m (List.drop o cs)).toArray, by simp [part, h1, run_sizeOf h2], Rel.agg b2⟩
theorem fld_sound {x : SV} {a : Value} {s : TypeId} {fs : Array Field} {i : Nat} {f : Field} {n : Option Nat} (hu : P.underlying s = some (.struct fs)) (hf : fs[i]? = some f) (ht : aggN P f.type = some n)
    (hx : Rel β im x a) (hs : (evFld x f.offset n H).sem K) (st : HSt O W0 B β im H hR w) :
    Yd O W0 B β im hR K ((Instr.field s a i).run P w) := by
  cases hx <;> simp only [evFld] at hs <;> try exact hs.elim
  case agg l cs h =>
    obtain ⟨sv, e, hK⟩ := one?_sem hs
    obtain ⟨v, hv, r⟩ := part_sound (w := w) ht h e
    exact .same (by simp [Instr.field, run_underlying hu, hf, asAgg, hv]) hK r st
theorem bnd_sem {j : Int} {n : Nat} {o : Out X} (h : (bnd j n o).sem K) : (0 ≤ j ∧ j < n) ∧ o.sem K := h
theorem idxS_sound {x i : SV} {a b : Value} {t : TypeId} (hu : P.underlying t = some .string) (hx : Rel β im x a) (hi : Rel β im i b) (hs : (evIdxS x i H).sem K) (st : HSt O W0 B β im H hR w) :
    Yd O W0 B β im hR K ((Instr.index t a b).run P w) := by
  cases hx <;> cases hi <;> simp only [evIdxS, Out.sem] at hs <;> try exact hs.elim
  case str.int s k j =>
    obtain ⟨⟨h0, h1⟩, hs⟩ := bnd_sem hs
    refine .same (v := .int .u8 (bt s j)) ?_ hs .int st
    have hlt : j.toNat < s.size := by omega
    have e1 : s[j.toNat]? = some s[j.toNat] := by simp [getElem?_pos, hlt]
    have e2 : s.data[j.toNat]?.getD 0 = s[j.toNat] := by
      have : j.toNat < s.data.size := hlt
      rw [Array.getElem?_eq_getElem this]; rfl
    simp [Instr.index, asIntOf, run_underlying hu, h0, e1, bt, e2]
theorem idxA_sound {x i : SV} {a b : Value} {t e : TypeId} {len sz : Nat} {n : Option Nat} (hu : P.underlying t = some (.array len e)) (hsz : tSize P e = some sz) (ht : aggN P e = some n)
    (hx : Rel β im x a) (hi : Rel β im i b) (hs : (evIdxA x i len sz n H).sem K) (st : HSt O W0 B β im H hR w) :
    Yd O W0 B β im hR K ((Instr.index t a b).run P w) := by
  have core : ∀ {l cs : List _} {o : Nat} {k : IntKind} {j : Int} {sv : SV}, RelC β im l cs → (0 ≤ j ∧ j < len) → ldV l o n = some sv → K sv H → (∀ w, (part e cs.toArray (j.toNat * sz)).run P w = (part e cs.toArray o).run P w) →
      a = .agg cs.toArray → b = .int k j → Yd O W0 B β im hR K ((Instr.index t a b).run P w) := by
    intro l cs o k j sv hr hj el hK hp ha hb
    subst ha hb
    obtain ⟨v, hv, r⟩ := part_sound (w := w) ht hr el
    refine .same (v := v) ?_ hK r st
    simp [Instr.index, asIntOf, run_underlying hu, hj, run_sizeOf hsz, hp, hv]
  cases hi <;> cases hx <;> simp only [evIdxA, Out.sem] at hs <;> try exact hs.elim
  case int.agg k j l cs h =>
    have expl : (bnd j len (one? (ldV l (j.toNat * sz) n) H)).sem K → Yd O W0 B β im hR K ((Instr.index t (.agg cs.toArray) (.int k j)).run P w) := by
      intro hs
      obtain ⟨hj, hs⟩ := bnd_sem hs
      obtain ⟨sv, el, hK⟩ := one?_sem hs
      exact core h hj el hK (fun _ => rfl) rfl rfl
    by_cases hc : ∃ s m g, l = [.arr s m g]
    · obtain ⟨s, m, g, rfl⟩ := hc
      by_cases hss : s = sz
      · subst hss
        simp only [if_true] at hs
        obtain ⟨hj, hlm, hs⟩ := bnd_sem hs
        obtain ⟨sv, el, hK⟩ := one?_sem hs
        cases h with
        | one h1 => simp [SV.one] at h1
        | arr rows hr hl tt =>
          cases tt
          have hjm : j.toNat < m := by omega
          obtain ⟨v, hv, r⟩ := part_sound (P := P) (w := w) (o := 0) ht (hr _ hjm) el
          refine .same (v := v) ?_ hK r st
          have hlen := flatMap_len hl
          have hrow := hl _ hjm
          have hfm : (j.toNat + 1) * s ≤ m * s := Nat.mul_le_mul_right _ hjm
          rw [Nat.succ_mul] at hfm
          have key : ∀ o, o < s → ((List.range m).flatMap rows)[j.toNat * s + o]? = (rows j.toNat)[o]? := fun o ho => flatMap_get hl hjm ho
          have same : (part e ((List.range m).flatMap rows).toArray (j.toNat * s)).run P w = (part e (rows j.toNat).toArray 0).run P w := by
            cases n with
            | none =>
              have hs0 : 0 < s := by
                obtain ⟨x, hx, _⟩ := getC_sound (hr _ hjm) el
                have := (List.getElem?_eq_some_iff.1 hx).1; omega
              have := key 0 hs0
              simp only [Nat.add_zero] at this
              simp [part, run_isAgg_none ht, ← this]
            | some q =>
              obtain ⟨h1, h2⟩ := run_isAgg_some (w := w) ht
              have hq : q = s := by rw [hsz] at h2; injection h2 with h2; exact h2.symm
              subst hq
              have : (List.drop (j.toNat * q) ((List.range m).flatMap rows)).take q = rows j.toNat := by
                apply List.ext_getElem?
                intro p
                rw [List.getElem?_take]
                by_cases c : p < q
                · rw [if_pos c, List.getElem?_drop]; exact key p c
                · rw [if_neg c, List.getElem?_eq_none (by omega)]
              simp [part, h1, run_sizeOf h2, this, List.take_of_length_le (Nat.le_of_eq hrow)]
          rw [List.append_nil]
          simp [Instr.index, asIntOf, run_underlying hu, hj, run_sizeOf hsz]
          rw [same, hv]
      · simp only [if_neg hss] at hs; exact hs.elim
    · have e1 : evIdxA (.agg l) (.int k j) len sz n H = bnd j len (one? (ldV l (j.toNat * sz) n) H) := by
        unfold evIdxA
        split
        · rename_i s' m' g' k' j' q1 q2; injection q1 with q1; exact absurd ⟨_, _, _, q1⟩ hc
        · rename_i q1 q2; injection q1 with q1; injection q2 with q2 q3; subst q1 q3; rfl
        · rename_i q; exact absurd rfl (q l k j rfl)
      have hs' : (evIdxA (.agg l) (.int k j) len sz n H).sem K := hs
      rw [e1] at hs'
      exact expl hs'
end
end Go.Sy

/-! Addresses, lengths, slices, comparisons. -/
namespace Go.Sy
open Go.RowKit
section
variable {X : Type} {O : X → SH X} {W0 : World} {B : Nat} {P : Program} {β : List Value} {im : Im} {H : SH X} {hR : Hp} {w : World} {K : SV → SH X → Prop}
theorem isPtr_sound {v : SV} {x : Value} (hv : Rel β im v x) (h : isPtr v H = true) (st : HSt O W0 B β im H hR w) : ∃ a, x = .pointer (some a) := by
  cases hv <;> simp [isPtr] at h <;> first | exact ⟨_, rfl⟩ | skip
  case key k hk h1 =>
    split at h
    · rename_i vs hm
      obtain ⟨u, g1, g2, e1, _, _, sa, _⟩ := st.take hm
      rw [hk] at e1; injection e1 with e1; subst e1
      cases sa with | mem => exact ⟨_, rfl⟩
    · rename_i y hm
      obtain ⟨u, g1, g2, e1, _, _, sa, _⟩ := st.take hm
      rw [hk] at e1; injection e1 with e1; subst e1
      cases sa with | obj => exact ⟨_, rfl⟩
    · cases h
/-- The root of a memory object begins a block's row without a spot. -/
theorem root_mem {k : Nat} {vs : List SV} {v : Value} (hm : H[k]? = some (.mem vs)) (hk : β[k]? = some v) (st : HSt O W0 B β im H hR w) : ∃ b p, v = .pointer (some ⟨b, p, none⟩) := by
  obtain ⟨u, g1, g2, e1, _, _, sa, _⟩ := st.take hm
  rw [hk] at e1; injection e1 with e1; subst e1
  cases sa with | mem => exact ⟨_, _, rfl⟩
theorem run_fieldAt {s : TypeId} {fs : Array Field} {i : Nat} {f : Field} {n : Nat} {b p : Nat} (hu : P.underlying s = some (.struct fs)) (hf : fs[i]? = some f) (hz : tSize P f.type = some n) (hn : n ≠ 0) :
    (Instr.fieldAt s (.pointer (some ⟨b, p, none⟩)) i).run P w = .ok (.pointer (some ⟨b, p + f.offset, none⟩)) w := by
  simp [Instr.fieldAt, run_underlying hu, hf, Instr.sureAddr, fieldPlace, run_sizeOf hz, hn, add_addr]
theorem fadr_sound {s : TypeId} {fs : Array Field} {i : Nat} {f : Field} {n : Nat} {x : SV} {a : Value} (hu : P.underlying s = some (.struct fs)) (hf : fs[i]? = some f) (hz : tSize P f.type = some n) (hn : n ≠ 0)
    (hx : Rel β im x a) (hs : (evFadr x f.offset H).sem K) (st : HSt O W0 B β im H hR w) : Yd O W0 B β im hR K ((Instr.fieldAt s a i).run P w) := by
  cases hx <;> simp only [evFadr] at hs <;> try exact hs.elim
  case key k hk h1 =>
    split at hs
    · rename_i vs hm
      obtain ⟨b, p, rfl⟩ := root_mem hm hk st
      exact .same (run_fieldAt hu hf hz hn) hs (.off hk) st
    · exact hs.elim
  case off k o b p hk => exact .same (run_fieldAt hu hf hz hn) hs (by rw [Nat.add_assoc]; exact .off hk) st
  case offa k o sz i' f' b p hk =>
    exact .same (run_fieldAt hu hf hz hn) hs (by rw [show p + (o + (i' * sz + f')) + f.offset = p + (o + (i' * sz + (f' + f.offset))) by omega]; exact .offa hk) st
  case elt k sz i' f' b p n' c hk =>
    exact .same (run_fieldAt hu hf hz hn) hs (by rw [show p + (i' * sz + f') + f.offset = p + (i' * sz + (f' + f.offset)) by omega]; exact .elt hk) st
  case roe sz n' g i' f' b p rows hr hl hi hm =>
    exact .same (run_fieldAt hu hf hz hn) hs (by rw [show p + (i' * sz + f') + f.offset = p + (i' * sz + (f' + f.offset)) by omega]; exact .roe rows hr hl hi hm) st
def notNil : Value → Prop | .pointer none | .nilIface | .nilFunc => False | .func (.method _) _ _ => False | _ => True
theorem nilc_sound {x : SV} {a : Value} (hx : Rel β im x a) (hs : (evNilc x H).sem K) (st : HSt O W0 B β im H hR w) :
    ∃ sv, K sv H ∧ Rel β im sv a ∧ notNil a := by
  cases x <;> simp only [evNilc] at hs <;> first
    | (split at hs
       · rename_i h
         obtain ⟨q, rfl⟩ := isPtr_sound hx h st
         exact ⟨_, hs, hx, trivial⟩
       · exact hs.elim)
    | (cases hx; exact ⟨_, hs, .fn (by assumption), trivial⟩)
theorem run_indexAt_slice {t e : TypeId} {sz : Nat} {b p len cap : Nat} {k : IntKind} {j : Int} (hu : P.underlying t = some (.slice e)) (hz : tSize P e = some sz) (h0 : 0 ≤ j) (h1 : j < len) :
    (Instr.indexAt t (.slice (some ⟨b, p, none⟩) len cap) (.int k j)).run P w = .ok (.pointer (some ⟨b, p + j.toNat * sz, none⟩)) w := by
  simp [Instr.indexAt, asIntOf, run_underlying hu, run_sizeOf hz, h0, h1, add_addr]
theorem iadr_sound {t e : TypeId} {sz : Nat} {x i : SV} {a c : Value} (hu : P.underlying t = some (.slice e)) (hz : tSize P e = some sz)
    (hx : Rel β im x a) (hi : Rel β im i c) (hs : (evIadr x i sz H).sem K) (st : HSt O W0 B β im H hR w) : Yd O W0 B β im hR K ((Instr.indexAt t a c).run P w) := by
  cases hi <;> cases hx <;> simp only [evIadr] at hs <;> try exact hs.elim
  case int.key kk j k hk _ =>
    split at hs
    · rename_i s n g hm
      split at hs
      · rename_i hss; subst hss
        obtain ⟨⟨h0, h1⟩, hs⟩ := bnd_sem hs
        obtain ⟨u, g1, g2, e1, _, _, sa, _⟩ := st.take hm
        rw [hk] at e1; injection e1 with e1; subst e1
        cases sa with
        | vec hc rows hr hl hh =>
          refine .same (run_indexAt_slice hu hz h0 h1) hs ?_ st
          have := Rel.elt (im := im) (sz := s) (i := j.toNat) (f := 0) hk
          simpa using this
        | vec0 => omega
      · exact hs.elim
    · exact hs.elim
  case int.ros kk j s n g b p cp rows hr hl hc hm =>
    split at hs
    · rename_i hss; subst hss
      obtain ⟨⟨h0, h1⟩, hs⟩ := bnd_sem hs
      refine .same (run_indexAt_slice hu hz h0 h1) hs ?_ st
      have := Rel.roe (i := j.toNat) (f := 0) rows hr hl (by omega) hm
      simpa using this
    · exact hs.elim
  case int.ros0 kk j s g a0 =>
    split at hs
    · obtain ⟨⟨h0, h1⟩, hs⟩ := bnd_sem hs; omega
    · exact hs.elim
  case int.sub kk j k s lo hi b p n cp b' pq hk h1 h2 ha =>
    split at hs
    · rename_i hss; subst hss
      obtain ⟨⟨h0, h3⟩, hs⟩ := bnd_sem hs
      have ha' : b' = b ∧ pq = p + lo * s := by
        rcases ha with q | q
        · omega
        · exact q
      obtain ⟨rfl, rfl⟩ := ha'
      refine .same (run_indexAt_slice hu hz h0 h3) hs ?_ st
      have := Rel.elt (im := im) (sz := s) (i := lo + j.toNat) (f := 0) hk
      rw [Nat.add_zero, Nat.add_mul, ← Nat.add_assoc] at this
      exact this
    · exact hs.elim
  case int.sub0 kk j k s hk =>
    split at hs
    · obtain ⟨⟨h0, h1⟩, hs⟩ := bnd_sem hs; omega
    · exact hs.elim
  case int.sl kk j k s lo len cap b p a hk ha hlc =>
    split at hs
    · rename_i hss; subst hss
      obtain ⟨⟨h0, h3⟩, hs⟩ := bnd_sem hs
      have ha' : a = ⟨b, p + lo * s, none⟩ := by
        rcases ha with q | q
        · omega
        · exact q
      subst ha'
      refine .same (run_indexAt_slice hu hz h0 h3) hs ?_ st
      have := Rel.offa (im := im) (o := 0) (sz := s) (i := lo + j.toNat) (f := 0) hk
      rw [Nat.add_zero, Nat.zero_add, Nat.add_mul, ← Nat.add_assoc] at this
      exact this
    · exact hs.elim
theorem run_indexAt_array {t e : TypeId} {sz len : Nat} {b p : Nat} {k : IntKind} {j : Int} (hu : P.underlying t = some (.array len e)) (hz : tSize P e = some sz) (h0 : 0 ≤ j) (h1 : j < len) :
    (Instr.indexAt t (.pointer (some ⟨b, p, none⟩)) (.int k j)).run P w = .ok (.pointer (some ⟨b, p + j.toNat * sz, none⟩)) w := by
  simp [Instr.indexAt, asIntOf, run_underlying hu, run_sizeOf hz, h0, h1, add_addr, Instr.sureAddr]
theorem iadrA_sound {t e : TypeId} {sz len : Nat} {x i : SV} {a c : Value} (hu : P.underlying t = some (.array len e)) (hz : tSize P e = some sz)
    (hx : Rel β im x a) (hi : Rel β im i c) (hs : (evIadrA x i len sz H).sem K) (st : HSt O W0 B β im H hR w) : Yd O W0 B β im hR K ((Instr.indexAt t a c).run P w) := by
  cases hi <;> simp only [evIadrA] at hs <;> try exact hs.elim
  case int kk j =>
    have hb := bnd_sem hs
    clear hs
    obtain ⟨⟨h0, h1⟩, hs⟩ := hb
    cases hx <;> simp only [] at hs <;> try exact hs.elim
    case key k hk _ =>
      split at hs
      · rename_i vs hm
        obtain ⟨b, p, rfl⟩ := root_mem hm hk st
        refine .same (run_indexAt_array hu hz h0 h1) hs ?_ st
        have := Rel.offa (im := im) (o := 0) (sz := sz) (i := j.toNat) (f := 0) hk
        simpa using this
      · exact hs.elim
    case off k o b p hk =>
      refine .same (run_indexAt_array hu hz h0 h1) hs ?_ st
      have := Rel.offa (im := im) (o := o) (sz := sz) (i := j.toNat) (f := 0) hk
      rw [Nat.add_zero, ← Nat.add_assoc] at this; exact this
    case elt k s i' f' b p n' cp hk =>
      exact .same (run_indexAt_array hu hz h0 h1) hs (by rw [show p + (i' * s + f') + j.toNat * sz = p + (i' * s + (f' + j.toNat * sz)) by omega]; exact .elt hk) st
    case roe s n' g i' f' b p rows hr hl hi' hm =>
      exact .same (run_indexAt_array hu hz h0 h1) hs (by rw [show p + (i' * s + f') + j.toNat * sz = p + (i' * s + (f' + j.toNat * sz)) by omega]; exact .roe rows hr hl hi' hm) st
theorem len_sound {t : TypeId} {ts : Array TypeId} {u : TypeId} {x : SV} {a : Value} {str : Bool} (ht : ts[0]? = some t) (hu : (str = true ∧ P.underlying t = some .string) ∨ (str = false ∧ ∃ e, P.underlying t = some (.slice e)))
    (hx : Rel β im x a) (hs : (evLen str x H).sem K) (st : HSt O W0 B β im H hR w) : Yd O W0 B β im hR K ((Builtin.len_ ts u #[a]).run P w) := by
  have hslice : ∀ {q n c}, str = false → a = .slice q n c → (Builtin.len_ ts u #[a]).run P w = .ok (.int .i64 n) w := by
    intro q n c hst ha
    rcases hu with ⟨h, _⟩ | ⟨_, e, hu⟩
    · rw [hst] at h; cases h
    · subst ha; simp [Builtin.len_, ht, run_underlying hu, goInt]
  cases str <;> cases hx <;> simp only [evLen] at hs <;> try exact hs.elim
  case false.nils => exact .same (hslice rfl rfl) hs .int st
  case false.key k hk _ =>
    split at hs
    · rename_i s n g hm
      obtain ⟨v, g1, g2, e1, _, _, sa, _⟩ := st.take hm
      rw [hk] at e1; injection e1 with e1; subst e1
      cases sa with
      | vec => exact .same (hslice rfl rfl) hs .int st
      | vec0 => exact .same (hslice rfl rfl) hs .int st
    · exact hs.elim
  case false.sub => exact .same (hslice rfl rfl) hs .int st
  case false.sub0 => exact .same (hslice rfl rfl) hs .int st
  case false.sl => exact .same (hslice rfl rfl) hs .int st
  case false.ros => exact .same (hslice rfl rfl) hs .int st
  case false.ros0 => exact .same (hslice rfl rfl) hs .int st
  case true.str s =>
    rcases hu with ⟨_, hu⟩ | ⟨h, _⟩
    · exact .same (by simp [Builtin.len_, ht, run_underlying hu, goInt]) hs .int st
    · cases h
theorem cap_sound {t e : TypeId} {ts : Array TypeId} {u : TypeId} {x : SV} {a : Value} (ht : ts[0]? = some t) (hu : P.underlying t = some (.slice e))
    (hx : Rel β im x a) (hs : (evCap x H).sem K) (st : HSt O W0 B β im H hR w) : Yd O W0 B β im hR K ((Builtin.cap_ ts u #[a]).run P w) := by
  cases hx <;> simp only [evCap] at hs <;> try exact hs.elim
  case nils => exact .same (by simp [Builtin.cap_, ht, run_underlying hu, goInt]) hs .int st
  case sl => exact .same (by simp [Builtin.cap_, ht, run_underlying hu, goInt]) hs .int st
end
end Go.Sy

/-! Slicing; comparisons; conversions. -/
namespace Go.Sy
open Go.RowKit
section
variable {X : Type} {O : X → SH X} {W0 : World} {B : Nat} {P : Program} {β : List Value} {im : Im} {H : SH X} {hR : Hp} {w : World} {K : SV → SH X → Prop}
/-- An operand that may lack. -/
def ORel (β : List Value) (im : Im) (ρ : Fr) : Option Opd → Option Value → Prop
  | none, none => True
  | some x, some v => Rel β im (x.ev ρ) v
  | _, _ => False
theorem run_sliceBound {k : IntKind} {j : Int} {y : Nat} {code : BoundsCode} (h0 : 0 ≤ j) (h1 : j ≤ y) : (Instr.sliceBound (.int k j) y code).run P w = .ok j.toNat w := by
  simp [Instr.sliceBound, asIntOf, h0, h1]
theorem bdO_int {ρ : Fr} {d l : Int} {x : Option Opd} {v : Option Value} (h : ORel β im ρ x v) (e : bdO ρ d x = some l) :
    (v = none ∧ l = d) ∨ ∃ k, v = some (.int k l) := by
  cases x <;> cases v <;> simp only [ORel] at h
  · left; simp [bdO] at e; exact ⟨rfl, e.symm⟩
  · right
    simp only [bdO] at e
    cases h2 : Opd.ev ρ _ <;> rw [h2] at e h <;> simp at e
    subst e; cases h; exact ⟨_, rfl⟩
theorem run_sliceBounds {ρ : Fr} {isS : Bool} {len cap : Nat} {lo hi mx : Option Opd} {lv hv mv : Option Value} {l h m : Int}
    (rl : ORel β im ρ lo lv) (rh : ORel β im ρ hi hv) (rm : ORel β im ρ mx mv) (el : bdO ρ 0 lo = some l) (eh : bdO ρ len hi = some h) (em : bdO ρ cap mx = some m)
    (hx : mx.isSome = true → hi.isSome = true) (h0 : 0 ≤ l) (h1 : l ≤ h) (h2 : h ≤ m) (h3 : m ≤ cap) :
    (Instr.sliceBounds isS len cap lv hv mv).run P w = .ok (l.toNat, h.toNat, m.toNat) w := by
  have hxv : mv.isSome = true → hv.isSome = true := by
    cases mx <;> cases mv <;> simp only [ORel] at rm <;> cases hi <;> cases hv <;> simp only [ORel] at rh <;> simp_all
  rcases bdO_int rm em with ⟨rfl, rfl⟩ | ⟨k1, rfl⟩
  · rcases bdO_int rh eh with ⟨rfl, rfl⟩ | ⟨k2, rfl⟩
    · rcases bdO_int rl el with ⟨rfl, rfl⟩ | ⟨k3, rfl⟩
      · simp [Instr.sliceBounds]
      · simp [Instr.sliceBounds, run_sliceBound h0 h1]
    · have hh : h = (h.toNat : Int) := by omega
      rcases bdO_int rl el with ⟨rfl, rfl⟩ | ⟨k3, rfl⟩
      · simp [Instr.sliceBounds, run_sliceBound (show 0 ≤ h by omega) (show h ≤ cap by omega)]
      · simp [Instr.sliceBounds, run_sliceBound (show 0 ≤ h by omega) (show h ≤ cap by omega), run_sliceBound (y := h.toNat) h0 (by omega)]
  · rcases bdO_int rh eh with ⟨rfl, rfl⟩ | ⟨k2, rfl⟩
    · simp at hxv
    · rcases bdO_int rl el with ⟨rfl, rfl⟩ | ⟨k3, rfl⟩
      · simp [Instr.sliceBounds, run_sliceBound (show 0 ≤ m by omega) h3, run_sliceBound (y := m.toNat) (show 0 ≤ h by omega) (by omega)]
      · simp [Instr.sliceBounds, run_sliceBound (show 0 ≤ m by omega) h3, run_sliceBound (y := m.toNat) (show 0 ≤ h by omega) (by omega), run_sliceBound (y := h.toNat) h0 (by omega)]
theorem run_sliceAt {ρ : Fr} {t e : TypeId} {sz len cap : Nat} {a : Option Addr} {lo hi mx : Option Opd} {lv hv mv : Option Value} {l h m : Int} (hu : P.underlying t = some (.slice e)) (hz : tSize P e = some sz)
    (rl : ORel β im ρ lo lv) (rh : ORel β im ρ hi hv) (rm : ORel β im ρ mx mv) (el : bdO ρ 0 lo = some l) (eh : bdO ρ len hi = some h) (em : bdO ρ cap mx = some m)
    (hx : mx.isSome = true → hi.isSome = true) (h0 : 0 ≤ l) (h1 : l ≤ h) (h2 : h ≤ m) (h3 : m ≤ cap) :
    (Instr.sliceAt t (.slice a len cap) lv hv mv).run P w = .ok (.slice (if m.toNat = l.toNat then a else a.map (·.add (l.toNat * sz))) (h.toNat - l.toNat) (m.toNat - l.toNat)) w := by
  simp [Instr.sliceAt, run_underlying hu, Instr.slice, run_sliceBounds rl rh rm el eh em hx h0 h1 h2 h3, run_sizeOf hz]
theorem bdO_none {ρ : Fr} {d : Int} : bdO ρ d none = some d := by simp [bdO]
theorem slc_sound {ρ : Fr} {t e : TypeId} {sz : Nat} {x : SV} {a : Value} {lo hi mx : Option Opd} {lv hv mv : Option Value} (hu : P.underlying t = some (.slice e)) (hz : tSize P e = some sz)
    (rl : ORel β im ρ lo lv) (rh : ORel β im ρ hi hv) (rm : ORel β im ρ mx mv) (hx : mx.isSome = true → hi.isSome = true)
    (hr : Rel β im x a) (hs : (evSlc x sz lo hi mx ρ H).sem K) (st : HSt O W0 B β im H hR w) : Yd O W0 B β im hR K ((Instr.sliceAt t a lv hv mv).run P w) := by
  cases hr <;> simp only [evSlc] at hs <;> try exact hs.elim
  case nils =>
    split at hs
    · rename_i l h m el eh em
      obtain ⟨⟨q1, q2, q3⟩, hs⟩ := hs
      subst q1 q2 q3
      exact .same (run_sliceAt hu hz rl rh rm el (by simpa using eh) (by simpa using em) hx (by omega) (by omega) (by omega) (by simp)) hs (by simpa using Rel.nils) st
    · exact hs.elim
  case key k hk _ =>
    split at hs
    · rename_i s n g hm
      split at hs
      · rename_i hss; subst hss
        split at hs
        · rename_i l h el eh
          obtain ⟨⟨h0, h1, h2⟩, hs⟩ := hs
          obtain ⟨v, g1, g2, e1, _, _, sa, _⟩ := st.take hm
          rw [hk] at e1; injection e1 with e1; subst e1
          cases sa with
          | @vec _ _ _ _ b p c _ hc rows hr hl hh =>
            refine .same (run_sliceAt hu hz rl rh rm el eh bdO_none hx h0 h1 (by omega) (by omega)) hs ?_ st
            simp only [Int.toNat_natCast]
            by_cases q : c = l.toNat
            · rw [if_pos q]; exact .sub hk (by omega) (by omega) (.inl q)
            · rw [if_neg q]; simp only [Option.map_some, add_addr]; exact .sub hk (by omega) (by omega) (.inr ⟨rfl, rfl⟩)
          | vec0 =>
            have hl0 : l = 0 := by omega
            have hh0 : h = 0 := by omega
            subst hl0 hh0
            exact .same (run_sliceAt hu hz rl rh rm el eh bdO_none hx h0 h1 (by omega) (by omega)) hs (by simpa using Rel.sub0 hk) st
        · exact hs.elim
      · exact hs.elim
    · exact hs.elim
  case sub k s lo' hi' b p n c b' pq hk q1 q2 ha =>
    split at hs
    · split at hs
      · rename_i hss; subst hss
        split at hs
        · rename_i l h el eh
          obtain ⟨⟨h0, h1, h2⟩, hs⟩ := hs
          refine .same (run_sliceAt hu hz rl rh rm el eh bdO_none hx h0 h1 (by omega) (by omega)) hs ?_ st
          simp only [Int.toNat_natCast]
          rw [show h.toNat - l.toNat = (lo' + h.toNat) - (lo' + l.toNat) by omega, show c - lo' - l.toNat = c - (lo' + l.toNat) by omega]
          by_cases q : c - lo' = l.toNat
          · rw [if_pos q]; exact .sub hk (by omega) (by omega) (.inl (by omega))
          · rw [if_neg q]
            have ha' : b' = b ∧ pq = p + lo' * s := by
              rcases ha with z | z
              · omega
              · exact z
            obtain ⟨rfl, rfl⟩ := ha'
            simp only [Option.map_some, add_addr]
            exact .sub hk (by omega) (by omega) (.inr ⟨rfl, by rw [Nat.add_mul, ← Nat.add_assoc]⟩)
        · exact hs.elim
      · exact hs.elim
    · exact hs.elim
  case sub0 k s hk =>
    split at hs
    · split at hs
      · rename_i hss; subst hss
        split at hs
        · rename_i l h el eh
          obtain ⟨⟨h0, h1, h2⟩, hs⟩ := hs
          have hl0 : l = 0 := by omega
          have hh0 : h = 0 := by omega
          subst hl0 hh0
          exact .same (run_sliceAt hu hz rl rh rm el (by simpa using eh) (bdO_none (d := 0)) hx h0 h1 (by omega) (by omega)) hs (by simpa using Rel.sub0 hk) st
        · exact hs.elim
      · exact hs.elim
    · exact hs.elim
  case ros s n g b p c rows hr hl hc hm =>
    split at hs
    · split at hs
      · rename_i hss; subst hss
        split at hs
        · rename_i l h el eh
          obtain ⟨⟨h0, h1, h2⟩, hs⟩ := hs
          refine .same (run_sliceAt hu hz rl rh rm el eh bdO_none hx h0 h1 (by omega) (by omega)) hs ?_ st
          simp only [Int.toNat_natCast]
          by_cases q : c = l.toNat
          · rw [if_pos q, show h.toNat - l.toNat = 0 by omega]
            exact .ros (fun _ => []) (fun i hi => by omega) (fun i hi => by omega) (by omega) (fun i hi => by omega)
          · rw [if_neg q]; simp only [Option.map_some, add_addr]
            exact .ros (fun i => rows (l.toNat + i)) (fun i hi => hr _ (by omega)) (fun i hi => hl _ (by omega)) (by omega) (fun i hi j x e => by
              have := hm (l.toNat + i) (by omega) j x e
              rw [Nat.add_mul] at this
              rw [show p + l.toNat * s + (i * s + j) = p + (l.toNat * s + i * s + j) by omega]; exact this)
        · exact hs.elim
      · exact hs.elim
    · exact hs.elim
  case ros0 s g a0 =>
    split at hs
    · split at hs
      · rename_i hss; subst hss
        split at hs
        · rename_i l h el eh
          obtain ⟨⟨h0, h1, h2⟩, hs⟩ := hs
          have hl0 : l = 0 := by omega
          have hh0 : h = 0 := by omega
          subst hl0 hh0
          exact .same (run_sliceAt hu hz rl rh rm el eh (bdO_none (d := 0)) hx h0 h1 (by omega) (by omega)) hs (by simpa using Rel.ros0) st
        · exact hs.elim
      · exact hs.elim
    · exact hs.elim
  case sl k s lo' len cap b p a hk ha hlc =>
    split at hs
    · rename_i hss; subst hss
      split at hs
      · rename_i l h m el eh em
        obtain ⟨⟨h0, h1, h2, h3⟩, hs⟩ := hs
        refine .same (run_sliceAt hu hz rl rh rm el eh em hx h0 h1 h2 h3) hs ?_ st
        by_cases q : m.toNat = l.toNat
        · rw [if_pos q]; exact .sl hk (.inl (by omega)) (by omega)
        · rw [if_neg q]
          have ha' : a = ⟨b, p + lo' * s, none⟩ := by
            rcases ha with z | z
            · omega
            · exact z
          subst ha'
          simp only [Option.map_some, add_addr]
          exact .sl hk (.inr (by rw [Nat.add_mul, ← Nat.add_assoc])) (by omega)
      · exact hs.elim
    · exact hs.elim
theorem slS_sound {ρ : Fr} {t : TypeId} {x : SV} {a : Value} {lo hi : Option Opd} {lv hv : Option Value} (hu : P.underlying t = some .string)
    (rl : ORel β im ρ lo lv) (rh : ORel β im ρ hi hv) (hr : Rel β im x a) (hs : (evSlS x lo hi ρ H).sem K) (st : HSt O W0 B β im H hR w) : Yd O W0 B β im hR K ((Instr.sliceAt t a lv hv none).run P w) := by
  cases hr <;> simp only [evSlS] at hs <;> try exact hs.elim
  case str s =>
    split at hs
    · rename_i l h el eh
      obtain ⟨⟨h0, h1, h2⟩, hs⟩ := hs
      refine .same ?_ hs .str st
      have := run_sliceBounds (P := P) (w := w) (isS := false) (cap := s.size) (mx := none) (mv := none) rl rh trivial el eh bdO_none (by simp) h0 h1 (by omega) (by omega)
      simp [Instr.sliceAt, run_underlying hu, Instr.slice, this]
    · exact hs.elim
end
end Go.Sy

/-! Comparisons and conversions. -/
namespace Go.Sy
open Go.RowKit
section
variable {X : Type} {O : X → SH X} {W0 : World} {B : Nat} {P : Program} {β : List Value} {im : Im} {H : SH X} {hR : Hp} {w : World} {K : SV → SH X → Prop}
/-- The whole of a comparison's run: the guard ahead of it, then it. -/
def eqRun (neg : Bool) (t : TypeId) (x y : Operand) (a b : Value) : Sem Value := do
  eqGuard (if neg then .neq else .eql) t x y a b
  binOp (if neg then .neq else .eql) t a b
theorem eqB_sem {neg b : Bool} (h : (eqB neg b H).sem K) : K (.bool (b != neg)) H := by cases neg <;> cases b <;> exact h
theorem run_eqGuard_plain {op : BinOp} {t : TypeId} {x y : Operand} {a b : Value} (h : ∀ l m, ¬(a = .agg l ∧ b = .agg m)) (h2 : ¬(a = .nilIface ∧ b = .nilIface)) : (eqGuard op t x y a b).run P w = .ok () w := by
  cases a <;> cases b <;> cases op <;> first | rfl | exact absurd ⟨rfl, rfl⟩ h2 | exact absurd ⟨rfl, rfl⟩ (h _ _)
theorem fitEq {neg : Bool} {t : TypeId} {x y : Operand} {a b : Value} {c : Bool} (hg : ∀ op, (eqGuard op t x y a b).run P w = .ok () w) (h1 : (binOp .eql t a b).run P w = .ok (.bool c) w) (h2 : (binOp .neq t a b).run P w = .ok (.bool (!c)) w) :
    (eqRun neg t x y a b).run P w = .ok (.bool (c != neg)) w := by
  cases neg <;> simp [eqRun, hg, h1, h2]
theorem int_beq (x y : Int) : (x == y) = decide (x = y) := by by_cases h : x = y <;> simp [h]
theorem bytes_beq (s s' : ByteArray) : (s.toList == s'.toList) = decide (s = s') := by
  rw [ByteArray.toList_eq, ByteArray.toList_eq]
  obtain ⟨⟨x⟩⟩ := s
  obtain ⟨⟨y⟩⟩ := s'
  by_cases h : x = y
  · simp [h]
  · simp [h]
theorem eqInts_sound {l m : List SV} {xs ys : List Value} {b : Bool} (hx : RelC β im l xs) (hy : RelC β im m ys) (e : eqInts l m = some b) :
    ∃ ps : List (IntKind × Int × Int), xs = ps.map (fun p => .int p.1 p.2.1) ∧ ys = ps.map (fun p => .int p.1 p.2.2) ∧ (b = ps.all fun p => p.2.1 == p.2.2) ∧ ps.length = l.length := by
  induction l generalizing m xs ys b with
  | nil =>
    cases m with
    | nil => simp [eqInts] at e; subst e; cases hx; cases hy; exact ⟨[], rfl, rfl, rfl, rfl⟩
    | cons => simp [eqInts] at e
  | cons v l ih =>
    cases v <;> try (simp [eqInts] at e; done)
    case int k x =>
      cases m with
      | nil => simp [eqInts] at e
      | cons u m =>
        cases u <;> try (simp [eqInts] at e; done)
        case int k' y =>
          simp only [eqInts] at e
          split at e
          · rename_i hk; subst hk
            cases hb : eqInts l m with
            | none => rw [hb] at e; cases e
            | some b' =>
              rw [hb] at e; simp only [Option.map_some] at e; injection e with e; subst e
              cases hx with
              | one _ h t => cases hy with
                | one _ h' t' =>
                  cases h; cases h'
                  obtain ⟨ps, rfl, rfl, rfl, hl⟩ := ih t t' hb
                  exact ⟨(k, x, y) :: ps, rfl, rfl, by simp only [List.all_cons, int_beq], by simp [hl]⟩
          · cases e
theorem isInt_spec {t : TypeId} (h : isInt P t = true) : ∃ k, P.underlying t = some (.int k) := by
  unfold isInt at h; split at h
  · exact ⟨_, by assumption⟩
  · cases h
theorem part_int {t : TypeId} {cs : Array Value} {o : Nat} {k : IntKind} {x : Int} (h : isInt P t = true) (hc : cs[o]? = some (.int k x)) : (part t cs o).run P w = .ok (.int k x) w := by
  obtain ⟨k', hu⟩ := isInt_spec h
  simp [part, isAgg, run_underlying hu, hc]
theorem run_equal_int {d : Nat} {t : TypeId} {k : IntKind} {x y : Int} (h : isInt P t = true) : (Op.equalIn (d + 1) t (.int k x) (.int k y)).run P w = .ok (x == y) w := by
  obtain ⟨k', hu⟩ := isInt_spec h
  exact run_equalIn_int w d t k k' x y hu
theorem eqFields_ints {d : Nat} {qs : List (IntKind × Int × Int)} : ∀ (fs : List Field) (ps pre : List (IntKind × Int × Int)), qs = pre ++ ps → fs.all (fun f => isInt P f.type && f.name != "_") = true → fs.map (·.offset) = List.range' pre.length ps.length →
    (Op.eqFields (d + 1) (qs.map fun p => Value.int p.1 p.2.1).toArray (qs.map fun p => Value.int p.1 p.2.2).toArray fs).run P w = .ok (ps.all fun p => p.2.1 == p.2.2) w
  | [], ps, pre, _, _, h => by
    cases ps with
    | nil => simp [Op.eqFields]
    | cons p ps => simp [List.range'_succ] at h
  | f :: fs, ps, pre, hq, hf, h => by
    cases ps with
    | nil => simp at h
    | cons p ps =>
      simp [List.range'_succ] at h
      obtain ⟨h1, h2⟩ := h
      simp at hf
      obtain ⟨⟨f1, f2⟩, f3⟩ := hf
      have hn : f.name ≠ "_" := f2
      have g1 : (qs.map fun p => Value.int p.1 p.2.1).toArray[f.offset]? = some (.int p.1 p.2.1) := by rw [h1, hq]; simp
      have g2 : (qs.map fun p => Value.int p.1 p.2.2).toArray[f.offset]? = some (.int p.1 p.2.2) := by rw [h1, hq]; simp
      simp only [Op.eqFields, ne_eq, hn, not_false_eq_true, if_true, Sem.run_bind, part_int f1 g1, part_int f1 g2, Result.andThen_ok, run_equal_int f1, Sem.run_ite]
      have ih := eqFields_ints (d := d) (qs := qs) fs ps (pre ++ [p]) (by simp [hq]) (by simpa using f3) (by simpa using h2)
      by_cases c : p.2.1 = p.2.2
      · simp [c, ih]
      · simp [c]
theorem arr_loop {d : Nat} {e : TypeId} {xs ys : Array Value} {ps : List (IntKind × Int × Int)} (he : isInt P e = true) : ∀ (l : List Nat) , (∀ i ∈ l, ∃ p, ps[i]? = some p ∧ xs[i]? = some (.int p.1 p.2.1) ∧ ys[i]? = some (.int p.1 p.2.2)) →
    (forIn l ((none, ()) : Option Bool × Unit) (fun i _ => (do if !(← Op.equalIn (d + 1) e (← part e xs (i * 1)) (← part e ys (i * 1))) then pure (ForInStep.done (some false, ())) else pure (ForInStep.yield (none, ())) : Sem (ForInStep (Option Bool × Unit))))).run P w =
      .ok (if l.all (fun i => match ps[i]? with | some p => p.2.1 == p.2.2 | none => true) then none else some false, ()) w
  | [], _ => by simp
  | i :: l, h => by
    obtain ⟨p, h1, h2, h3⟩ := h i (by simp)
    have ih := arr_loop (d := d) he l (fun j hj => h j (by simp [hj]))
    simp only [List.forIn_cons, Nat.mul_one, Sem.run_bind, part_int he h2, part_int he h3, Result.andThen_ok, run_equal_int he, Sem.run_ite]
    simp only [Nat.mul_one] at ih
    by_cases c : p.2.1 = p.2.2
    · simp only [c, beq_self_eq_true, Bool.not_true, Bool.false_eq_true, if_false, Sem.run_pure, Result.andThen_ok, List.all_cons, h1, Bool.true_and]; exact ih
    · simp [c, h1]
theorem run_equal_array {d n : Nat} {t e : TypeId} {ps : List (IntKind × Int × Int)} (hu : P.underlying t = some (.array n e)) (he : isInt P e = true) (hz : tSize P e = some 1) (hn : ps.length = n) :
    (Op.equalIn (d + 2) t (.agg (ps.map fun p => Value.int p.1 p.2.1).toArray) (.agg (ps.map fun p => Value.int p.1 p.2.2).toArray)).run P w = .ok (ps.all fun p => p.2.1 == p.2.2) w := by
  have loop := arr_loop (P := P) (w := w) (d := d) (e := e) (xs := (ps.map fun p => Value.int p.1 p.2.1).toArray) (ys := (ps.map fun p => Value.int p.1 p.2.2).toArray) (ps := ps) he (List.range' 0 n) (fun i hi => by
    have hi' : i < ps.length := by simp at hi; omega
    exact ⟨ps[i], by simp [hi'], by simp [hi'], by simp [hi']⟩)
  unfold Op.equalIn
  simp only [Sem.run_bind, run_underlying hu, Result.andThen_ok, run_sizeOf hz, Std.Legacy.Range.forIn_eq_forIn_range']
  have hs : ([:n] : Std.Legacy.Range).size = n := by simp [Std.Legacy.Range.size]
  rw [hs, loop]
  have hall : ((List.range' 0 n).all fun i => match ps[i]? with | some p => p.2.1 == p.2.2 | none => true) = ps.all fun p => p.2.1 == p.2.2 := by
    rw [Bool.eq_iff_iff]
    simp only [List.all_eq_true]
    constructor
    · intro h p hp
      obtain ⟨i, hi, rfl⟩ := List.mem_iff_getElem.1 hp
      have := h i (by simp; omega)
      simpa [hi] using this
    · intro h i hi
      have hi' : i < ps.length := by simp at hi; omega
      simp only [List.getElem?_eq_getElem hi']
      exact h _ (List.getElem_mem hi')
  rw [hall]
  cases (ps.all fun p => p.2.1 == p.2.2) <;> simp
theorem eqAgg_sound {t : TypeId} {n : Nat} {x y : Operand} {neg : Bool} {ps : List (IntKind × Int × Int)} (h : allInts P t = some n) (hn : ps.length = n) :
    (eqRun neg t x y (.agg (ps.map fun p => Value.int p.1 p.2.1).toArray) (.agg (ps.map fun p => Value.int p.1 p.2.2).toArray)).run P w = .ok (.bool ((ps.all fun p => p.2.1 == p.2.2) != neg)) w := by
  unfold allInts at h
  split at h
  · rename_i fs hu
    split at h
    · rename_i hc
      injection h with h
      simp only [Bool.and_eq_true, Bool.not_eq_true'] at hc
      obtain ⟨⟨⟨c1, c2⟩, c3⟩, c4⟩ := hc
      have hf : P.fieldsOf t = fs := by simp [Program.fieldsOf, hu]
      have he := run_equalIn_struct (P := P) w 9999 t (ps.map fun p => Value.int p.1 p.2.1).toArray (ps.map fun p => Value.int p.1 p.2.2).toArray (by rw [hf]; exact hu) c3
      rw [hf, eqFields_ints (qs := ps) fs.toList ps [] rfl c1 (by simp only [beq_iff_eq] at c2; rw [c2, hn, ← h]; simp [List.range_eq_range'])] at he
      refine fitEq (fun op => run_eqGuard_agg w op t x y _ _ c4) ?_ ?_
      · rw [run_eql_struct, he]; rfl
      · rw [run_neq_struct, he]; rfl
    · cases h
  · rename_i m e hu
    split at h
    · rename_i hc
      injection h with h
      simp only [Bool.and_eq_true, Bool.not_eq_true', beq_iff_eq] at hc
      obtain ⟨⟨c1, c2⟩, c4⟩ := hc
      have he := run_equal_array (P := P) (w := w) (d := 9998) hu c1 c2 (by omega : ps.length = m)
      refine fitEq (fun op => run_eqGuard_agg w op t x y _ _ c4) ?_ ?_
      · rw [run_eql_struct, he]; rfl
      · rw [run_neq_struct, he]; rfl
    · cases h
  · cases h
end
end Go.Sy
