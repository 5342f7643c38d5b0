/- The stand-in disk's files in plain Lean: a list of entries, no name twice; no condition. -/
import Derived.Maps.RangeWalk
import Derived.Maps.Views
namespace Go.Proofs.Ytdgjglocgdccbaa
open Go

/-- a file: its name, its block, what is seen of it, what is kept -/
structure Fe where
  nm : ByteArray
  fb : Nat
  seen : List Int
  kept : List Int
def kOf (s : ByteArray) : List UInt8 := s.data.toList
theorem kOf_inj {s s' : ByteArray} (h : kOf s = kOf s') : s = s' := by
  cases s; cases s'; simp [kOf] at h; simp [h]
def findF (fs : List Fe) (k : List UInt8) : Option Fe := fs.find? fun e => kOf e.nm == k
theorem findF_some {fs : List Fe} {k : List UInt8} {e : Fe} (h : findF fs k = some e) : e ∈ fs ∧ kOf e.nm = k := by
  unfold findF at h
  exact ⟨List.mem_of_find?_eq_some h, by simpa using List.find?_some h⟩
theorem findF_none {fs : List Fe} {k : List UInt8} (h : findF fs k = none) : ∀ e ∈ fs, kOf e.nm ≠ k := by
  unfold findF at h
  intro e he
  simpa using List.find?_eq_none.1 h e he
def Names (fs : List Fe) : Prop := fs.Pairwise fun x y => kOf x.nm ≠ kOf y.nm
theorem Names.find {fs : List Fe} (h : Names fs) {e : Fe} (he : e ∈ fs) : findF fs (kOf e.nm) = some e := by
  unfold findF
  induction fs with
  | nil => simp at he
  | cons x fs ih =>
    obtain ⟨h1, h2⟩ := List.pairwise_cons.1 h
    rcases List.mem_cons.1 he with rfl | he'
    · simp
    · have := h1 e he'
      rw [List.find?_cons_of_neg (by simpa using this)]
      exact ih h2 he'
/-- the entry at e's name is e now; behind all where there was none -/
def putF (fs : List Fe) (e : Fe) : List Fe := match fs with
  | [] => [e]
  | x :: r => if kOf x.nm = kOf e.nm then e :: r else x :: putF r e
theorem putF_find (fs : List Fe) (e : Fe) (k : List UInt8) : findF (putF fs e) k = if kOf e.nm = k then some e else findF fs k := by
  induction fs with
  | nil =>
    unfold putF findF
    by_cases h : kOf e.nm = k <;> simp [h]
  | cons x r ih =>
    unfold putF
    by_cases h : kOf x.nm = kOf e.nm
    · rw [if_pos h]
      unfold findF
      by_cases hk : kOf e.nm = k
      · simp [hk]
      · simp [hk, h]
    · rw [if_neg h]
      unfold findF at ih ⊢
      by_cases hk : kOf x.nm = k
      · have : kOf e.nm ≠ k := fun q => h (hk.trans q.symm)
        simp [hk, this]
      · simp only [List.find?_cons, show (kOf x.nm == k) = false by simpa using hk]
        exact ih
theorem putF_mem {fs : List Fe} {e x : Fe} (h : x ∈ putF fs e) : x = e ∨ (x ∈ fs ∧ (Names fs → kOf x.nm ≠ kOf e.nm)) := by
  induction fs with
  | nil => simp [putF] at h; exact .inl h
  | cons y r ih =>
    unfold putF at h
    split at h
    · rename_i hy
      rcases List.mem_cons.1 h with rfl | hx
      · exact .inl rfl
      · refine .inr ⟨List.mem_cons_of_mem _ hx, fun hn => ?_⟩
        have := (List.pairwise_cons.1 hn).1 x hx
        rw [hy] at this
        exact fun q => this q.symm
    · rename_i hy
      rcases List.mem_cons.1 h with rfl | hx
      · exact .inr ⟨List.mem_cons_self .., fun _ => hy⟩
      · rcases ih hx with rfl | ⟨hm, hn⟩
        · exact .inl rfl
        · exact .inr ⟨List.mem_cons_of_mem _ hm, fun q => hn (List.pairwise_cons.1 q).2⟩
theorem putF_names {fs : List Fe} (h : Names fs) (e : Fe) : Names (putF fs e) := by
  induction fs with
  | nil => simp [putF, Names]
  | cons y r ih =>
    obtain ⟨h1, h2⟩ := List.pairwise_cons.1 h
    unfold putF
    split
    · rename_i hy
      exact List.pairwise_cons.2 ⟨fun x hx => by rw [← hy]; exact h1 x hx, h2⟩
    · rename_i hy
      refine List.pairwise_cons.2 ⟨fun x hx => ?_, ih h2⟩
      rcases putF_mem hx with rfl | ⟨hm, _⟩
      · exact hy
      · exact h1 x hm
theorem putF_len (fs : List Fe) (e : Fe) : (putF fs e).length ≤ fs.length + 1 ∧ fs.length ≤ (putF fs e).length := by
  induction fs with
  | nil => simp [putF]
  | cons y r ih =>
    unfold putF
    split
    · simp
    · simp; omega
theorem putF_len_old {fs : List Fe} {e x : Fe} (h : findF fs (kOf e.nm) = some x) : (putF fs e).length = fs.length := by
  induction fs with
  | nil => simp [findF] at h
  | cons y r ih =>
    unfold putF
    split
    · simp
    · rename_i hy
      have : findF r (kOf e.nm) = some x := by
        unfold findF at h ⊢
        rwa [List.find?_cons_of_neg (by simpa using hy)] at h
      simp [ih this]
/-- how many bytes the files have that were met -/
def restSum (left : List UInt8 → Bool) : List Fe → Nat
  | [] => 0
  | e :: r => (if left (kOf e.nm) then 0 else e.seen.length) + restSum left r
theorem restSum_same {l l' : List UInt8 → Bool} {fs : List Fe} (h : ∀ e ∈ fs, l (kOf e.nm) = l' (kOf e.nm)) : restSum l fs = restSum l' fs := by
  induction fs with
  | nil => rfl
  | cons x r ih =>
    simp only [restSum]
    rw [h x (List.mem_cons_self ..), ih fun e he => h e (List.mem_cons_of_mem _ he)]
theorem restSum_step {fs : List Fe} (hn : Names fs) {left : List UInt8 → Bool} {e : Fe} (he : e ∈ fs) (hl : left (kOf e.nm) = true) :
    restSum (fun z => left z && !(z == kOf e.nm)) fs = restSum left fs + e.seen.length := by
  induction fs with
  | nil => simp at he
  | cons x r ih =>
    obtain ⟨h1, h2⟩ := List.pairwise_cons.1 hn
    simp only [restSum]
    rcases List.mem_cons.1 he with rfl | he'
    · rw [restSum_same (l' := left) (fun y hy => by
        have := h1 y hy
        have e : (kOf y.nm == kOf e.nm) = false := by simpa using fun q => this q.symm
        simp [e])]
      simp [hl]; omega
    · rw [ih h2 he']
      have := h1 e he'
      have e2 : (kOf x.nm == kOf e.nm) = false := by simpa using this
      simp [e2]; omega
theorem restSum_none {left : List UInt8 → Bool} {fs : List Fe} (h : ∀ e ∈ fs, left (kOf e.nm) = true) : restSum left fs = 0 := by
  induction fs with
  | nil => rfl
  | cons x r ih =>
    simp only [restSum]
    rw [h x (List.mem_cons_self ..), ih fun e he => h e (List.mem_cons_of_mem _ he)]
    simp
def allSum (fs : List Fe) : Nat := (fs.map (·.seen.length)).sum
theorem restSum_all {left : List UInt8 → Bool} {fs : List Fe} (h : ∀ e ∈ fs, left (kOf e.nm) = false) : restSum left fs = allSum fs := by
  induction fs with
  | nil => rfl
  | cons x r ih =>
    simp only [restSum]
    rw [h x (List.mem_cons_self ..), ih fun e he => h e (List.mem_cons_of_mem _ he)]
    simp [allSum]
theorem restSum_le (left : List UInt8 → Bool) (fs : List Fe) (m : Nat) (h : ∀ e ∈ fs, e.seen.length ≤ m) : restSum left fs ≤ fs.length * m := by
  induction fs with
  | nil => simp [restSum]
  | cons x r ih =>
    simp only [restSum, List.length_cons, Nat.add_mul, Nat.one_mul]
    have h1 := h x (List.mem_cons_self ..)
    have h2 := ih fun e he => h e (List.mem_cons_of_mem _ he)
    split <;> omega

/-! ### the map in memory: each name leads to the file's block -/
def ptrV (b : Nat) : Value := .pointer (some ⟨b, 0, none⟩)
def Rp : Value → Option (DataW Value × List MemPlace)
  | .pointer p => some (.held (.pointer p), [])
  | _ => none
theorem Rp_inv {v : Value} {y : DataW Value × List MemPlace} (h : Rp v = some y) : ∃ p, v = .pointer p ∧ y = (.held (.pointer p), []) := by
  cases v <;> simp [Rp] at h
  exact ⟨_, rfl, h.symm⟩
def foundV (fs : List Fe) (k : List UInt8) : Value := match findF fs k with | some e => ptrV e.fb | none => .pointer none
structure MpD (D : DataW Value) (fs : List Fe) : Prop where
  at_ : ∀ k z, D.atKey (.string k) z = match findF fs k with | some e => .held (ptrV e.fb) | none => z
theorem MpD.nil : MpD (.map []) [] := ⟨fun k z => by simp [findF, DataW.atKey]⟩
theorem MpD.has {D : DataW Value} {fs : List Fe} (h : MpD D fs) (k : List UInt8) : Maps.has D (.string k) = (findF fs k).isSome := by
  cases hf : findF fs k with
  | none => exact Maps.has_false_of_atKey fun z => by rw [h.at_, hf]
  | some e => exact Maps.has_true_of_atKey (y := .held (ptrV e.fb)) fun z => by rw [h.at_, hf]
theorem MpD.put {D : DataW Value} {fs : List Fe} (h : MpD D fs) (hm : Maps.IsMap D) (e : Fe) (hw : WideAt.IsKeyLit (.string (kOf e.nm))) : MpD (D.put (.string (kOf e.nm)) (.held (ptrV e.fb))) (putF fs e) :=
  ⟨fun k z => by
    rw [putF_find]
    by_cases hk : kOf e.nm = k
    · subst hk
      rw [if_pos rfl, Maps.atKey_put_same hm hw]
    · rw [if_neg hk, Maps.atKey_put_other (fun q => hk (by injection q with q; exact q.symm)), h.at_]⟩
/-- another reading of the same files: only what is seen or kept has turned -/
theorem MpD.same {D : DataW Value} {fs fs' : List Fe} (h : MpD D fs) (hs : ∀ k, (findF fs' k).map (·.fb) = (findF fs k).map (·.fb)) : MpD D fs' :=
  ⟨fun k z => by
    have := hs k
    rw [h.at_]
    cases h1 : findF fs k <;> cases h2 : findF fs' k <;> rw [h1, h2] at this <;> simp at this
    simp [this]⟩
end Go.Proofs.Ytdgjglocgdccbaa
