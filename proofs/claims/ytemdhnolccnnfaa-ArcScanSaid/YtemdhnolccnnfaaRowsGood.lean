/- The rows, plainly: links, free places, the map and the rows' places. No program here. -/
import Derived.Test.YtemdhnolccnnfaaRowsSpec
namespace Go.Proofs.Ytemdhnolccnnfaa
set_option linter.unusedVariables false
structure Lnk where
  id : Int
  row : Nat
  before : Nat
  after : Nat
def iv (n : Int) : Value := .int .i64 n
def lcells (lk : List Lnk) : List Value := lk.flatMap fun x => [iv x.id, iv x.row, iv x.before, iv x.after]
def lI (lk : List Lnk) (k : Nat) : Int := ((lk[k]?).map Lnk.id).getD 0
def lR (lk : List Lnk) (k : Nat) : Nat := ((lk[k]?).map Lnk.row).getD 0
def lB (lk : List Lnk) (k : Nat) : Nat := ((lk[k]?).map Lnk.before).getD 0
def lA (lk : List Lnk) (k : Nat) : Nat := ((lk[k]?).map Lnk.after).getD 0
/-- All holds together: n rows, their places Ps. -/
structure Good (n : Nat) (lk : List Lnk) (free : List Nat) (l : List (Int × Value)) (Ps : Nat → List Nat) : Prop where
  len : n ≤ lk.length
  ring : ∀ r, r < n → Path (lA lk) (lB lk) r (Ps r) r
  nodup : ∀ r, r < n → (Ps r).Nodup
  place : ∀ r, r < n → ∀ p, p ∈ Ps r → n ≤ p ∧ p < lk.length ∧ lR lk p = r ∧ 0 ≤ lI lk p ∧ lI lk p ≤ 4194303 ∧ p ∉ free ∧ aget l (lI lk p) = some (iv p)
  head : ∀ r, r < n → lI lk r = -1
  fnodup : free.Nodup
  fplace : ∀ p, p ∈ free → n ≤ p ∧ p < lk.length
  keys : Keys l
  at_ : ∀ id v, aget l id = some v → ∃ r, r < n ∧ ∃ p, p ∈ Ps r ∧ v = iv p ∧ lI lk p = id
  none_ : ∀ r, n ≤ r → Ps r = []
/-- What stands in a row. -/
def Ls (lk : List Lnk) (Ps : Nat → List Nat) (r : Nat) : List Int := (Ps r).map (lI lk)
theorem Good.ringNodup {n : Nat} {lk : List Lnk} {free : List Nat} {l : List (Int × Value)} {Ps : Nat → List Nat} (h : Good n lk free l Ps) {r : Nat} (hr : r < n) : (r :: Ps r).Nodup :=
  List.nodup_cons.2 ⟨fun hm => by have := (h.place r hr r hm).1; omega, h.nodup r hr⟩
theorem Good.same {n : Nat} {lk : List Lnk} {free : List Nat} {l : List (Int × Value)} {Ps : Nat → List Nat} (h : Good n lk free l Ps) {r s p q : Nat} (hr : r < n) (hs : s < n) (hp : p ∈ Ps r) (hq : q ∈ Ps s) (e : lI lk p = lI lk q) : p = q ∧ r = s := by
  have h1 := (h.place r hr p hp).2.2.2.2.2.2
  have h2 := (h.place s hs q hq).2.2.2.2.2.2
  rw [e, h2] at h1
  simp [iv] at h1
  have h3 : p = q := by omega
  subst h3
  exact ⟨rfl, (h.place r hr p hp).2.2.1.symm.trans (h.place s hs p hq).2.2.1⟩
def setA (lk : List Lnk) (k a : Nat) : List Lnk := lk.modify k fun x => { x with after := a }
def setB (lk : List Lnk) (k b : Nat) : List Lnk := lk.modify k fun x => { x with before := b }
theorem setA_len (lk : List Lnk) (k a : Nat) : (setA lk k a).length = lk.length := by simp [setA]
theorem setB_len (lk : List Lnk) (k a : Nat) : (setB lk k a).length = lk.length := by simp [setB]
theorem lA_setA {lk : List Lnk} {k : Nat} (hk : k < lk.length) (a j : Nat) : lA (setA lk k a) j = if j = k then a else lA lk j := by
  unfold lA setA
  rw [List.getElem?_modify]
  by_cases e : k = j
  · subst e; simp [List.getElem?_eq_getElem hk]
  · rw [if_neg (fun q => e q.symm)]; simp [e]
theorem lB_setB {lk : List Lnk} {k : Nat} (hk : k < lk.length) (a j : Nat) : lB (setB lk k a) j = if j = k then a else lB lk j := by
  unfold lB setB
  rw [List.getElem?_modify]
  by_cases e : k = j
  · subst e; simp [List.getElem?_eq_getElem hk]
  · rw [if_neg (fun q => e q.symm)]; simp [e]
theorem l_setA (lk : List Lnk) (k a j : Nat) : lB (setA lk k a) j = lB lk j ∧ lI (setA lk k a) j = lI lk j ∧ lR (setA lk k a) j = lR lk j := by
  unfold lB lI lR setA
  simp only [List.getElem?_modify]
  by_cases e : k = j
  · subst e; cases lk[k]? <;> simp
  · simp [e]
theorem l_setB (lk : List Lnk) (k a j : Nat) : lA (setB lk k a) j = lA lk j ∧ lI (setB lk k a) j = lI lk j ∧ lR (setB lk k a) j = lR lk j := by
  unfold lA lI lR setB
  simp only [List.getElem?_modify]
  by_cases e : k = j
  · subst e; cases lk[k]? <;> simp
  · simp [e]
end Go.Proofs.Ytemdhnolccnnfaa
