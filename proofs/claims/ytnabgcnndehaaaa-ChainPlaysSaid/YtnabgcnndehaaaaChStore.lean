/- Layer 9 (chain) in memory: what stores turn. -/
import Derived.Test.YtnabgcnndehaaaaCh1
namespace Go.Proofs.Ytnabgcnndehaaaa
open Go.RowKit
set_option linter.unusedVariables false
section
variable {w w' : World} {S S' : Nat → Prop} {t rb ob : Nat} {s : ChS} {xs ys : List Value} {mvv : Int} {k : ByteArray} {a : Addr} {v' : Value} {pre suf suf2 : List KN}
theorem keys_off (hW : ChW s) (hfd : Fnd w S rb ob s k a v' pre suf) {k1 : ByteArray} (h1 : k1 ∈ ks pre) : k1 ∉ ks suf := by
  have hn := home_nodup hW k
  rw [hfd.1, ks_app] at hn
  exact fun h2 => (List.nodup_append.1 hn).2.2 _ h1 _ h2 rfl
theorem chn_ptr : ∀ {es : List KN} {v : Value}, Chn w S v es → ∃ x, v = .pointer x
  | [], _, h => ⟨_, h⟩
  | _ :: _, _, ⟨_, _, h, _⟩ => ⟨_, h⟩
theorem chn_drewN {es : List KN} {v : Value} (h : Chn w S v es) (q : Nat) : Chn (w.drewN q) S v es := chn_keep h (fun _ _ _ _ _ _ _ => rfl) (fun _ _ q => q)
theorem fnd_drewN (h : Fnd w S rb ob s k a v' pre suf) (q : Nat) : Fnd (w.drewN q) S rb ob s k a v' pre suf := by
  obtain ⟨h1, h2, h3, h4, h5, v, vs, h6, h7, h8, h9⟩ := h
  exact ⟨h1, h2, chn_drewN h3 q, h4, h5, v, vs, h6, h7, h8, hole_keep h9 (fun _ _ _ _ _ _ _ => rfl)⟩
/-- The place that find found is written. -/
theorem fnd_put (hW : ChW s) (h : ChO w S t s rb ob xs ys mvv) (hfd : Fnd w S rb ob s k a v' pre suf) {u : Value} (hc : Chn (w.setCell a u) S u suf2) :
    ∃ xs' ys', ChO (w.setCell a u) S t (put s k (pre ++ suf2)) rb ob xs' ys' mvv := by
  obtain ⟨h1, h2, h3, h4, h5, v, vs, h6, h7, h8, h9⟩ := hfd
  by_cases hp : pre = []
  · subst hp
    obtain ⟨e1, e2⟩ := h9
    subst e1
    refine put_at hW h k (fun b _ q => q) (fun b _ hb hne => Or.inl (heap_setCell_other hne u)) h6 (v' := u) ((heap_setCell_same h6 _ u).trans (by simp)) ?_
    simpa using hc
  · obtain ⟨b', k', n', e1, e2, e3, e4⟩ := hole_block h9 hp
    have hhome : k' ∈ ks (home s k) := by rw [h1, ks_app]; exact List.mem_append_left _ e3
    have hn := home_nodup hW k
    rw [h1, ks_app] at hn
    have hf := hole_fill (u := u) h9 hp (List.nodup_append.1 hn).1 hc
    subst e1
    have hne : slotB s k rb ob ≠ b' := fun q => by rw [q, e4] at h6; exact not_entB (by decide) (Option.some.inj h6).symm
    refine put_at hW h k (fun b _ q => q) (fun b _ hb hne2 => ?_) h6 (v' := v) ((heap_setCell_other (p := ⟨b', 3, none⟩) hne u).trans (h6.trans ?_)) hf
    · by_cases q : b = b'
      · exact Or.inr ⟨k', n', v', by rw [q]; exact e4, hhome⟩
      · exact Or.inl (heap_setCell_other (p := ⟨b', 3, none⟩) q u)
    · have : vs.set (slotI s k) v = vs := by
        obtain ⟨hi, hv⟩ := List.getElem?_eq_some_iff.1 h7
        rw [← hv]; exact List.set_getElem_self hi
      rw [this]
/-- Entries behind the place stay where the place is written. -/
theorem fnd_behind (hW : ChW s) (hfd : Fnd w S rb ob s k a v' pre suf) {u nx : Value} {suf3 : List KN} (hsub : ∀ k1, k1 ∈ ks suf3 → k1 ∈ ks suf) (hc : Chn w S nx suf3) : Chn (w.setCell a u) S nx suf3 := by
  have hoff := fun k1 => keys_off hW hfd (k1 := k1)
  obtain ⟨h1, h2, h3, h4, h5, v, vs, h6, h7, h8, h9⟩ := hfd
  refine chn_keep hc (fun b k1 n1 nx1 e q1 q2 => heap_setCell_other (fun eb => ?_) u) (fun b _ q => q)
  by_cases hp : pre = []
  · subst hp
    rw [h9.1] at eb
    have eb' : b = slotB s k rb ob := eb
    rw [eb', h6] at e
    exact not_entB (by decide) (Option.some.inj e)
  · obtain ⟨b', k', n', e1, e2, e3, e4⟩ := hole_block h9 hp
    rw [e1] at eb
    have eb' : b = b' := eb
    rw [eb', e4] at e
    have := entB_key (Option.some.inj e)
    subst this
    exact hoff _ e3 (hsub _ q2)
/-- The found entry's number is written. -/
theorem fnd_num (hW : ChW s) (h : ChO w S t s rb ob xs ys mvv) {n n' : Int} {b : Nat} {nx : Value} (hfd : Fnd w S rb ob s k a v' pre ((k, n) :: suf)) (hv : v' = .pointer (some ⟨b, 0, none⟩)) (hS : S b) (hb : w.heap[b]? = some (entB k n nx)) (hc : Chn w S nx suf) :
    ∃ xs' ys', ChO (w.setCell ⟨b, 2, none⟩ (.int .i64 n')) S t (put s k (pre ++ (k, n') :: suf)) rb ob xs' ys' mvv := by
  have hn := home_nodup hW k
  have hoff := fun k1 => keys_off hW hfd (k1 := k1)
  obtain ⟨h1, h2, h3, h4, h5, v, vs, h6, h7, h8, h9⟩ := hfd
  have hhome : k ∈ ks (home s k) := by rw [h1, ks_app]; exact List.mem_append_right _ (by simp [ks])
  have hne : slotB s k rb ob ≠ b := fun q => by rw [q, hb] at h6; exact not_entB (by decide) (Option.some.inj h6).symm
  have hsuf : k ∉ ks suf := by
    rw [h1, ks_app] at hn
    exact (List.nodup_cons.1 (List.nodup_append.1 hn).2.1).1
  have hoth : ∀ b1 k1 n1 nx1, w.heap[b1]? = some (entB k1 n1 nx1) → k1 ≠ k → (w.setCell ⟨b, 2, none⟩ (.int .i64 n')).heap[b1]? = w.heap[b1]? := fun b1 k1 n1 nx1 e q => heap_setCell_other (p := ⟨b, 2, none⟩) (fun eb => by
    have eb' : b1 = b := eb
    rw [eb', hb] at e
    exact q (entB_key (Option.some.inj e)).symm) _
  refine put_at hW h k (fun b _ q => q) (fun b1 _ hb1 hne2 => ?_) h6 (v' := v) ((heap_setCell_other (p := ⟨b, 2, none⟩) hne _).trans (h6.trans ?_)) ?_
  · by_cases q : b1 = b
    · exact Or.inr ⟨k, n, nx, by rw [q]; exact hb, hhome⟩
    · exact Or.inl (heap_setCell_other (p := ⟨b, 2, none⟩) q _)
  · have : vs.set (slotI s k) v = vs := by
      obtain ⟨hi, hv⟩ := List.getElem?_eq_some_iff.1 h7
      rw [← hv]; exact List.set_getElem_self hi
    rw [this]
  · refine hole_chn (hole_keep h9 fun b1 k1 n1 nx1 e _ q => hoth b1 k1 n1 nx1 e (fun e2 => h2 (e2 ▸ q))) ?_
    exact ⟨b, nx, hv, hS, (heap_setCell_same hb 2 _).trans (by simp [entB]), chn_keep hc (fun b1 k1 n1 nx1 e _ q => hoth b1 k1 n1 nx1 e (fun e2 => hsuf (e2 ▸ q))) (fun b _ q => q)⟩
/-- A new entry at the front. -/
theorem cons_put (hW : ChW s) (h : ChO w S t s rb ob xs ys mvv) (k : ByteArray) (n : Int) {v : Value} {vs : List Value} (hv : w.heap[slotB s k rb ob]? = some (.cells (List.toArray vs) 59 (0, 0))) (hvi : vs[slotI s k]? = some v) (hc : Chn w S v (home s k)) :
    ∃ xs' ys', ChO ((w.alloc (entB k n v)).setCell ⟨slotB s k rb ob, slotI s k, none⟩ (.pointer (some ⟨w.heap.size, 0, none⟩))) (fun b => S b ∨ b = w.heap.size) t (put s k ((k, n) :: home s k)) rb ob xs' ys' mvv := by
  have hl := lt_of_heap hv
  have hold : ∀ b, b < w.heap.size → b ≠ slotB s k rb ob → ((w.alloc (entB k n v)).setCell ⟨slotB s k rb ob, slotI s k, none⟩ (.pointer (some ⟨w.heap.size, 0, none⟩))).heap[b]? = w.heap[b]? := fun b hb hne =>
    (heap_setCell_other (p := ⟨slotB s k rb ob, slotI s k, none⟩) hne _).trans (heap_alloc_old _ hb)
  refine put_at hW h k (fun b _ q => Or.inl q) (fun b _ hb hne => Or.inl (hold b hb hne)) hv (v' := .pointer (some ⟨w.heap.size, 0, none⟩)) ((heap_setCell_same ((heap_alloc_old _ hl).trans hv) _ _).trans (by simp)) ?_
  refine ⟨w.heap.size, v, rfl, Or.inr rfl, (heap_setCell_other (p := ⟨slotB s k rb ob, slotI s k, none⟩) (by intro e; have e' : w.heap.size = slotB s k rb ob := e; omega) _).trans (heap_alloc_new _ _), ?_⟩
  exact chn_keep hc (fun b k1 n1 nx1 e _ _ => hold b (lt_of_heap e) (fun eb => by rw [eb, hv] at e; exact not_entB (by decide) (Option.some.inj e))) (fun b _ q => Or.inl q)
/-- A field of the table is written. -/
theorem ChO.off_t (h : ChO w S t s rb ob xs ys mvv) (i : Nat) (u : Value) : (∀ (b : Nat) (k : ByteArray) (n : Int) (nx : Value), w.heap[b]? = some (entB k n nx) → (w.setCell ⟨t, i, none⟩ u).heap[b]? = w.heap[b]?) ∧ (∀ (b : Nat) (vs : List Value), w.heap[b]? = some (Obj.cells (List.toArray vs) 59 (0, 0)) → (w.setCell ⟨t, i, none⟩ u).heap[b]? = w.heap[b]?) := by
  refine ⟨fun b k n nx e => heap_setCell_other (p := ⟨t, i, none⟩) (fun eb => ?_) u, fun b vs e => heap_setCell_other (p := ⟨t, i, none⟩) (fun eb => ?_) u⟩
  · have eb' : b = t := eb
    rw [eb', h.hp] at e; exact not_entB (by decide) (Option.some.inj e)
  · have eb' : b = t := eb
    rw [eb', h.hp] at e; simp at e
theorem ChO.setN (h : ChO w S t s rb ob xs ys mvv) (n : Int) : ChO (w.setCell ⟨t, 4, none⟩ (.int .i64 n)) S t { s with n := n } rb ob xs ys mvv := by
  obtain ⟨o1, o2⟩ := h.off_t 4 (.int .i64 n)
  exact ⟨h.hSt, h.hSr, (heap_setCell_same h.hp 4 _).trans (by simp), (o2 _ _ h.hr).trans h.hr, h.hxl, fun i v q => chn_keep (h.hx i v q) (fun b k n nx e _ _ => o1 b k n nx e) (fun b _ q => q), fun g => by
    obtain ⟨g1, g2, g3, g4, g5, g6⟩ := h.hg g
    exact ⟨g1, g2, g3, (o2 _ _ g4).trans g4, g5, fun i v q => chn_keep (g6 i v q) (fun b k n nx e _ _ => o1 b k n nx e) (fun b _ q => q)⟩⟩
/-- The table begins to grow. -/
theorem growth_at (hW : ChW s) (h : ChO w S t s rb ob xs ys mvv) (hg : s.g = false) (hp : s.pw < 20) {nb : Nat} (hnb : w.heap.size ≤ nb) (hS : ∀ b, S b → S' b) (hSn : S' nb)
    (ht : w'.heap[t]? = some (Obj.cells #[.int .i64 ((s.pw : Int) + 1), .slice (some ⟨rb, 0, none⟩) (2 ^ s.pw) (2 ^ s.pw), .slice (some ⟨nb, 0, none⟩) (2 * 2 ^ s.pw) (2 * 2 ^ s.pw), .int .i64 0, .int .i64 s.n] 58 (0, 0)))
    (hn : w'.heap[nb]? = some (Obj.cells (List.replicate (2 * 2 ^ s.pw) (Value.pointer none)).toArray 59 (0, 0)))
    (hf : ∀ b, b < w.heap.size → b ≠ t → w'.heap[b]? = w.heap[b]?) : ChAt w' S' t ⟨s.pw + 1, true, 0, s.R, fun _ => [], s.n⟩ := by
  have hne : ∀ b k n nx, w.heap[b]? = some (entB k n nx) → w'.heap[b]? = w.heap[b]? := fun b k n nx e => hf b (lt_of_heap e) (fun eb => by rw [eb, h.hp] at e; exact not_entB (by decide) (Option.some.inj e))
  have hrt : rb ≠ t := fun e => by have := h.hr; rw [e, h.hp] at this; simp at this
  have e2 : 2 ^ (s.pw + 1) = 2 * 2 ^ s.pw := by rw [Nat.pow_succ, Nat.mul_comm]
  refine ⟨⟨by have := hW.p2; show 2 ≤ s.pw + 1; omega, by show s.pw + 1 ≤ 20; omega, fun _ => Nat.pow_pos (by decide), fun _ => List.nodup_nil, fun i k q => (by simp [ks] at q), fun _ i k q => (by simp [ks] at q), fun _ => hW.R1, fun _ i k q => hW.R2 i k q, fun _ i q => absurd q (Nat.not_lt_zero _)⟩, nb, rb, List.replicate (2 * 2 ^ s.pw) (.pointer none), xs, 0, ⟨hS t h.hSt, hSn, ?_, hn, ?_, ?_, fun _ => ⟨rfl, hS rb h.hSr, ?_, (hf rb (lt_of_heap h.hr) hrt).trans h.hr, h.hxl, ?_⟩⟩⟩
  · rw [ht]
    show _ = some (Obj.cells #[.int .i64 ((s.pw + 1 : Nat) : Int), .slice (some ⟨rb, 0, none⟩) (2 ^ (s.pw + 1 - 1)) (2 ^ (s.pw + 1 - 1)), .slice (some ⟨nb, 0, none⟩) (2 ^ (s.pw + 1)) (2 ^ (s.pw + 1)), .int .i64 0, .int .i64 s.n] _ _)
    rw [e2]; rfl
  · rw [List.length_replicate]; exact e2.symm
  · intro i v hv
    exact (List.mem_replicate.1 (List.mem_of_getElem? hv)).2
  · intro e; have := lt_of_heap h.hr; omega
  · intro i v hv
    exact chn_keep (h.hx i v hv) (fun b k n nx e _ _ => hne b k n nx e) (fun b _ q => hS b q)
end
theorem ChW.setN {s : ChS} (h : ChW s) (n : Int) : ChW { s with n := n } := ⟨h.p2, h.p20, h.m, h.R1, h.R2, h.RG, h.O1, h.O2, h.OG⟩
/-- A key's number set, a key deleted, in a list. -/
def setL : List KN → ByteArray → Int → List KN
  | [], _, _ => []
  | e :: l, k, n => if e.1 = k then (k, n) :: l else e :: setL l k n
def delL : List KN → ByteArray → List KN
  | [], _ => []
  | e :: l, k => if e.1 = k then l else e :: delL l k
theorem setL_at {k : ByteArray} {n n' : Int} {suf : List KN} : ∀ {pre : List KN}, k ∉ ks pre → setL (pre ++ (k, n) :: suf) k n' = pre ++ (k, n') :: suf
  | [], _ => by simp [setL]
  | e :: l, h => by
    have h1 : e.1 ≠ k := fun q => h (by rw [ks_cons, q]; simp)
    show setL (e :: (l ++ (k, n) :: suf)) k n' = e :: (l ++ (k, n') :: suf)
    unfold setL
    rw [if_neg h1, setL_at fun q => h (by rw [ks_cons]; exact List.mem_cons_of_mem _ q)]
theorem delL_at {k : ByteArray} {n : Int} {suf : List KN} : ∀ {pre : List KN}, k ∉ ks pre → delL (pre ++ (k, n) :: suf) k = pre ++ suf
  | [], _ => by simp [delL]
  | e :: l, h => by
    have h1 : e.1 ≠ k := fun q => h (by rw [ks_cons, q]; simp)
    show delL (e :: (l ++ (k, n) :: suf)) k = e :: (l ++ suf)
    unfold delL
    rw [if_neg h1, delL_at fun q => h (by rw [ks_cons]; exact List.mem_cons_of_mem _ q)]
/-- Delete, Set, off memory. -/
def delS (s : ChS) (k : ByteArray) : ChS := if (look s k).isSome then { put s k (delL (home s k) k) with n := s.n - 1 } else s
def growS (s : ChS) : ChS := if s.g = false ∧ (3 * 2 ^ s.pw : Int) < 2 * s.n ∧ s.pw < 20 then ⟨s.pw + 1, true, 0, s.R, fun _ => [], s.n⟩ else s
def setS (s : ChS) (k : ByteArray) (n : Int) : ChS := if (look s k).isSome then put s k (setL (home s k) k n) else growS { put s k ((k, n) :: home s k) with n := s.n + 1 }
end Go.Proofs.Ytnabgcnndehaaaa
