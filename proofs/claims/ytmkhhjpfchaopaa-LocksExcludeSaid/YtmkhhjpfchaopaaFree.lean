/- What the table of locks is in memory, and what its inner closure answers; no condition. -/
import Derived.Test.YtmkhhjpfchaopaaLib
import Derived.Test.YtmkhhjpfchaopaaProg
import Derived.Deep.DeepFit
namespace Go.Proofs.Ytmkhhjpfchaopaa
open Go.RowKit

theorem is_nil (w : World) : Calls Try.prog 19 #[.pointer none] w fun e w' => e = .returned (.bool false) ∧ w = w' := by
  go_enter Try.func19, Try.ntmps19
  go_wp2
  go_ret
  exact ⟨rfl, rfl⟩

/-- the cells of a table: what each connection holds, and that it is ready -/
def tabCells (hs : List Int) : Array Value := ((hs.map (Value.int .i64)) ++ [Value.int .i64 1]).toArray
def Tab (w : World) (b : Nat) (hs : List Int) : Prop := hs.length = 8 ∧ w.heap[b]? = some (.cells (tabCells hs) 46 (0, 0))

theorem Tab.ready {w : World} {b : Nat} {hs : List Int} (h : Tab w b hs) : w.cell? ⟨b, 8, none⟩ = some (.int .i64 1) := by
  rw [cell_of_row w b 8 _ _ _ h.2]; simp [tabCells, h.1]
theorem Tab.cell {w : World} {b : Nat} {hs : List Int} (h : Tab w b hs) (k : Nat) (hk : k < 8) : w.cell? ⟨b, k, none⟩ = some (.int .i64 (hs.getD k 0)) := by
  rw [cell_of_row w b k _ _ _ h.2]; simp [tabCells, List.getElem?_append, h.1, hk]
theorem Tab.sub {w : World} {b : Nat} {hs : List Int} (h : Tab w b hs) : Sub w b 0 (hs.map (Value.int .i64)) := by
  intro j v hj
  have hj8 : j < 8 := by have := (List.getElem?_eq_some_iff.1 hj).1; simp [h.1] at this; exact this
  rw [Nat.zero_add, h.cell j hj8, ← hj]
  simp [h.1, hj8]

theorem is_ok (w : World) (b : Nat) (hc : w.cell? ⟨b, 8, none⟩ = some (.int .i64 1)) : Calls Try.prog 19 #[.pointer (some ⟨b, 0, none⟩)] w fun e w' => e = .returned (.bool true) ∧ w = w' := by
  go_enter Try.func19, Try.ntmps19
  go_wp2
  go_ret
  exact ⟨rfl, rfl⟩

/-- does another one hold that much, among the connections from k on? -/
def others (hs : List Int) (c l : Int) (k : Nat) : Bool := (List.range' k (8 - k)).any fun o => decide ((o : Int) ≠ c) && decide (l ≤ hs.getD o 0)

theorem others_step (hs : List Int) (c l : Int) (k : Nat) (hk : k < 8) : others hs c l k = ((decide ((k : Int) ≠ c) && decide (l ≤ hs.getD k 0)) || others hs c l (k + 1)) := by
  unfold others
  rw [show 8 - k = (8 - (k + 1)) + 1 from by omega, List.range'_succ, List.any_cons]
theorem others_skip (hs : List Int) (c l : Int) (k : Nat) (hk : k < 8) (h : (k : Int) = c ∨ hs[k]?.getD 0 < l) : others hs c l k = others hs c l (k + 1) := by
  rw [others_step _ _ _ _ hk]
  rcases h with h | h <;> simp [h]
  intro _ h2; omega
theorem others_hit (hs : List Int) (c l : Int) (k : Nat) (hk : k < 8) (h : ¬ (k : Int) = c) (h' : l ≤ hs[k]?.getD 0) : others hs c l k = true := by
  rw [others_step _ _ _ _ hk]
  simp [h, h']
theorem others_end (hs : List Int) (c l : Int) : others hs c l 8 = false := rfl

set_option maxHeartbeats 400000 in
theorem others_any (w : World) (b bt bc : Nat) (c l : Int) (hs : List Int) (hT : Tab w b hs)
  (h1 : w.cell? ⟨bt, 0, none⟩ = some (.pointer (some ⟨b, 0, none⟩))) (h2 : w.cell? ⟨bc, 0, none⟩ = some (.int .i64 c)) :
   Calls Try.prog 20 #[.int .i64 l, .pointer (some ⟨bt, 0, none⟩), .pointer (some ⟨bc, 0, none⟩)] w fun e w' => e = .returned (.bool (others hs c l 0)) ∧ w = w' := by
  have hix : ∀ (k : Nat), k < 8 → ∀ w, (Instr.index 44 (.agg (hs.map (Value.int .i64)).toArray) (.int .i64 k)).run Try.prog w = .ok (.int .i64 (hs.getD k 0)) w := by
    intro k hk w
    obtain ⟨i, hi, hi1⟩ : ∃ i, Try.prog.info? 35 = some i ∧ i.size = 1 := ⟨_, rfl, by kernel_rfl⟩
    exact run_index_arr w 44 35 8 _ i Try.underlying44 Try.underlying35 rfl hi hi1 _ k hk _ (by simp [hT.1, hk])
  have HT := Lib.hid hT
  have Hix := Lib.hid hix
  clear hT hix
  go_enter Try.func20, Try.ntmps20
  go_wp2_with (refine wpList_load_sub rfl 44 (.tmp 9) rfl b 0 rfl (hs.map (Value.int .i64)) _ HT.out.sub Try.underlying44 rfl ?_ ?_)
  case refine_1 => rw [List.length_map, HT.out.1]; kernel_rfl
  go_loop [11] (fun i => ∃ k : Nat, k ≤ 8 ∧ i = .int .i64 k ∧ others hs c l 0 = others hs c l k) (fun i => 8 - (intOf i).toNat)
  case atStart => exact ⟨0, by omega, rfl, rfl⟩
  case round =>
    obtain ⟨k, hk, rfl, ho⟩ := hrel
    have HO := Lib.hid ho
    clear ho
    by_cases hlt : k < 8
    · have hix := Hix.out k hlt
      go_wp2
      · refine ⟨⟨k + 1, by omega, by congr 1; omega, HO.out.trans (others_skip _ _ _ _ hlt (.inl ‹_›))⟩, by simp [intOf]; omega⟩
      · rename_i h _
        go_ret
        exact ⟨by rw [HO.out, others_hit _ _ _ _ hlt ‹_› h.2]; rfl, rfl⟩
      · rename_i hn h
        refine ⟨⟨k + 1, by omega, by congr 1, HO.out.trans (others_skip _ _ _ _ hlt (.inr (h.resolve_left (by simp [hn])))) ⟩, by simp [intOf]; omega⟩
    · obtain rfl : k = 8 := by omega
      go_wp2
      go_ret
      exact ⟨by rw [HO.out, others_end]; rfl, rfl⟩
end Go.Proofs.Ytmkhhjpfchaopaa
