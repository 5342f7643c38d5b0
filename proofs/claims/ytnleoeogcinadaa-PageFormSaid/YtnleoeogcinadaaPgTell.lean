/- The program's Check, Kind, Count, Link and Cell, of any 256 bytes; no condition. -/
import Derived.Test.YtnleoeogcinadaaPgCell
namespace Go.Proofs.Ytnleoeogcinadaa
open Go.RowKit
attribute [local go_sem ↓] load26 store26 alloc26 build26 slice26lo load62 store62

def checkF : Option (Int × Int × List ByteArray) → Int
  | none => 8
  | some _ => 0
def kindF : Option (Int × Int × List ByteArray) → Int
  | none => 0
  | some (k, _, _) => k
def linkF : Option (Int × Int × List ByteArray) → Int
  | none => 0
  | some (_, k, _) => k
def countF : Option (Int × Int × List ByteArray) → Int
  | none => 0
  | some (_, _, cs) => cs.length
set_option maxRecDepth 100000 in
set_option maxHeartbeats 1600000 in
theorem Check_ok (w : World) (l : List Int) (hB : Bytes l) : Calls Try.prog 13 #[.agg (bytesV l)] w fun e w' => e = .returned (.int .i64 (checkF (readF l))) ∧ Kp NoB w w' := by
  have HB := Lib.hid hB
  have hb1 : Blk (w.alloc (.cells (bytesV l) 26)) w.heap.size 26 (bytesV l) := Blk.new _ _ _
  have t1 := hb1.thereAll 256 (by rw [bytesV_size]; exact hB.len)
  have r1 := hb1.readAll 256 (by rw [bytesV_size]; exact hB.len)
  clear hB hb1
  obtain ⟨r, hr⟩ : ∃ r, readF l = r := ⟨_, rfl⟩
  have HR := Lib.hid hr
  rw [hr]
  clear hr
  have on3 : ones #[.int .u8 0, .int .u32 0, .slice none 0 0] := by unfold ones; simp [Value.oneCell']
  rcases r with _ | ⟨kind, link, cs⟩
  · go_enter Try.func13, Try.ntmps13
    go_wp2_with (go_at_call 32; go_must (refine (read_ok _ l HB.out).mono ?_); rintro e w2 hq; rw [HR.out] at hq; obtain ⟨hk2, rfl⟩ := hq.none; clear hq; have HK := Lib.hid hk2; have th := (Blk.new w2 62 #[.int .u8 0, .int .u32 0, .slice none 0 0]).thereAll 3 rfl; clear hk2)
    go_ret
    exact ⟨rfl, Kp.setCells (.inl (by have := HK.out.size; simp at this; omega)) _ _ _ ((((Kp.refl _ _).alloc _).trans HK.out (fun _ _ q => q)).alloc _)⟩
  · have HF := Lib.hid (readF_facts HB.out HR.out)
    go_enter Try.func13, Try.ntmps13
    go_wp2_with (go_at_call 32; go_must (refine (read_ok _ l HB.out).mono ?_); rintro e w2 hq; rw [HR.out] at hq; obtain ⟨hk2, A, cap, rfl, ho, hs⟩ := hq.some; clear hq ho; have HK := Lib.hid hk2; have HS := Lib.hid hs; have hb := (Blk.new w2 62 #[.int .u8 0, .int .u32 0, .slice none 0 0]); have th := hb.thereAll 3 rfl; have hb3 := hb.whole (body3 kind link A cs.length cap) rfl; have HB3 := Lib.hid hb3; have c0 := hb3.cell 0; have c1 := hb3.cell 1; have c2 := hb3.cell 2; have th3 := hb3.thereAll 3 rfl; have rd3 := hb3.readAll 3 rfl; have on4 : ones (body3 kind link A cs.length cap) := (by unfold ones body3; simp [Value.oneCell']); unfold body3 at th3 rd3 on4 c0 c1 c2; clear hk2 hs hb hb3)
    go_ret
    exact ⟨rfl, ((((Kp.refl _ _).alloc _).trans HK.out (fun _ _ q => q)).trans (Kp.setCells (S := NoB) (.inl (Nat.le_refl _)) _ _ _ ((Kp.refl NoB _).alloc _)) (fun _ _ q => q))⟩
set_option maxRecDepth 100000 in
set_option maxHeartbeats 1600000 in
theorem Kind_ok (w : World) (l : List Int) (hB : Bytes l) : Calls Try.prog 14 #[.agg (bytesV l)] w fun e w' => e = .returned (.int .u8 (kindF (readF l))) ∧ Kp NoB w w' := by
  have HB := Lib.hid hB
  have hb1 : Blk (w.alloc (.cells (bytesV l) 26)) w.heap.size 26 (bytesV l) := Blk.new _ _ _
  have t1 := hb1.thereAll 256 (by rw [bytesV_size]; exact hB.len)
  have r1 := hb1.readAll 256 (by rw [bytesV_size]; exact hB.len)
  clear hB hb1
  obtain ⟨r, hr⟩ : ∃ r, readF l = r := ⟨_, rfl⟩
  have HR := Lib.hid hr
  rw [hr]
  clear hr
  have on3 : ones #[.int .u8 0, .int .u32 0, .slice none 0 0] := by unfold ones; simp [Value.oneCell']
  rcases r with _ | ⟨kind, link, cs⟩
  · go_enter Try.func14, Try.ntmps14
    go_wp2_with (go_at_call 32; go_must (refine (read_ok _ l HB.out).mono ?_); rintro e w2 hq; rw [HR.out] at hq; obtain ⟨hk2, rfl⟩ := hq.none; clear hq; have HK := Lib.hid hk2; have th := (Blk.new w2 62 #[.int .u8 0, .int .u32 0, .slice none 0 0]).thereAll 3 rfl; clear hk2)
    go_ret
    exact ⟨rfl, Kp.setCells (.inl (by have := HK.out.size; simp at this; omega)) _ _ _ ((((Kp.refl _ _).alloc _).trans HK.out (fun _ _ q => q)).alloc _)⟩
  · have HF := Lib.hid (readF_facts HB.out HR.out)
    go_enter Try.func14, Try.ntmps14
    go_wp2_with (go_at_call 32; go_must (refine (read_ok _ l HB.out).mono ?_); rintro e w2 hq; rw [HR.out] at hq; obtain ⟨hk2, A, cap, rfl, ho, hs⟩ := hq.some; clear hq ho; have HK := Lib.hid hk2; have HS := Lib.hid hs; have hb := (Blk.new w2 62 #[.int .u8 0, .int .u32 0, .slice none 0 0]); have th := hb.thereAll 3 rfl; have hb3 := hb.whole (body3 kind link A cs.length cap) rfl; have HB3 := Lib.hid hb3; have c0 := hb3.cell 0; have c1 := hb3.cell 1; have c2 := hb3.cell 2; have th3 := hb3.thereAll 3 rfl; have rd3 := hb3.readAll 3 rfl; have on4 : ones (body3 kind link A cs.length cap) := (by unfold ones body3; simp [Value.oneCell']); unfold body3 at th3 rd3 on4 c0 c1 c2; clear hk2 hs hb hb3)
    go_ret
    exact ⟨rfl, ((((Kp.refl _ _).alloc _).trans HK.out (fun _ _ q => q)).trans (Kp.setCells (S := NoB) (.inl (Nat.le_refl _)) _ _ _ ((Kp.refl NoB _).alloc _)) (fun _ _ q => q))⟩
set_option maxRecDepth 100000 in
set_option maxHeartbeats 1600000 in
theorem Count_ok (w : World) (l : List Int) (hB : Bytes l) : Calls Try.prog 15 #[.agg (bytesV l)] w fun e w' => e = .returned (.int .i64 (countF (readF l))) ∧ Kp NoB w w' := by
  have HB := Lib.hid hB
  have hb1 : Blk (w.alloc (.cells (bytesV l) 26)) w.heap.size 26 (bytesV l) := Blk.new _ _ _
  have t1 := hb1.thereAll 256 (by rw [bytesV_size]; exact hB.len)
  have r1 := hb1.readAll 256 (by rw [bytesV_size]; exact hB.len)
  clear hB hb1
  obtain ⟨r, hr⟩ : ∃ r, readF l = r := ⟨_, rfl⟩
  have HR := Lib.hid hr
  rw [hr]
  clear hr
  have on3 : ones #[.int .u8 0, .int .u32 0, .slice none 0 0] := by unfold ones; simp [Value.oneCell']
  rcases r with _ | ⟨kind, link, cs⟩
  · go_enter Try.func15, Try.ntmps15
    go_wp2_with (go_at_call 32; go_must (refine (read_ok _ l HB.out).mono ?_); rintro e w2 hq; rw [HR.out] at hq; obtain ⟨hk2, rfl⟩ := hq.none; clear hq; have HK := Lib.hid hk2; have th := (Blk.new w2 62 #[.int .u8 0, .int .u32 0, .slice none 0 0]).thereAll 3 rfl; clear hk2)
    go_ret
    exact ⟨rfl, Kp.setCells (.inl (by have := HK.out.size; simp at this; omega)) _ _ _ ((((Kp.refl _ _).alloc _).trans HK.out (fun _ _ q => q)).alloc _)⟩
  · have HF := Lib.hid (readF_facts HB.out HR.out)
    go_enter Try.func15, Try.ntmps15
    go_wp2_with (go_at_call 32; go_must (refine (read_ok _ l HB.out).mono ?_); rintro e w2 hq; rw [HR.out] at hq; obtain ⟨hk2, A, cap, rfl, ho, hs⟩ := hq.some; clear hq ho; have HK := Lib.hid hk2; have HS := Lib.hid hs; have hb := (Blk.new w2 62 #[.int .u8 0, .int .u32 0, .slice none 0 0]); have th := hb.thereAll 3 rfl; have hb3 := hb.whole (body3 kind link A cs.length cap) rfl; have HB3 := Lib.hid hb3; have c0 := hb3.cell 0; have c1 := hb3.cell 1; have c2 := hb3.cell 2; have th3 := hb3.thereAll 3 rfl; have rd3 := hb3.readAll 3 rfl; have on4 : ones (body3 kind link A cs.length cap) := (by unfold ones body3; simp [Value.oneCell']); unfold body3 at th3 rd3 on4 c0 c1 c2; clear hk2 hs hb hb3)
    go_ret
    exact ⟨rfl, ((((Kp.refl _ _).alloc _).trans HK.out (fun _ _ q => q)).trans (Kp.setCells (S := NoB) (.inl (Nat.le_refl _)) _ _ _ ((Kp.refl NoB _).alloc _)) (fun _ _ q => q))⟩
set_option maxRecDepth 100000 in
set_option maxHeartbeats 1600000 in
theorem Link_ok (w : World) (l : List Int) (hB : Bytes l) : Calls Try.prog 16 #[.agg (bytesV l)] w fun e w' => e = .returned (.int .u32 (linkF (readF l))) ∧ Kp NoB w w' := by
  have HB := Lib.hid hB
  have hb1 : Blk (w.alloc (.cells (bytesV l) 26)) w.heap.size 26 (bytesV l) := Blk.new _ _ _
  have t1 := hb1.thereAll 256 (by rw [bytesV_size]; exact hB.len)
  have r1 := hb1.readAll 256 (by rw [bytesV_size]; exact hB.len)
  clear hB hb1
  obtain ⟨r, hr⟩ : ∃ r, readF l = r := ⟨_, rfl⟩
  have HR := Lib.hid hr
  rw [hr]
  clear hr
  have on3 : ones #[.int .u8 0, .int .u32 0, .slice none 0 0] := by unfold ones; simp [Value.oneCell']
  rcases r with _ | ⟨kind, link, cs⟩
  · go_enter Try.func16, Try.ntmps16
    go_wp2_with (go_at_call 32; go_must (refine (read_ok _ l HB.out).mono ?_); rintro e w2 hq; rw [HR.out] at hq; obtain ⟨hk2, rfl⟩ := hq.none; clear hq; have HK := Lib.hid hk2; have th := (Blk.new w2 62 #[.int .u8 0, .int .u32 0, .slice none 0 0]).thereAll 3 rfl; clear hk2)
    go_ret
    exact ⟨rfl, Kp.setCells (.inl (by have := HK.out.size; simp at this; omega)) _ _ _ ((((Kp.refl _ _).alloc _).trans HK.out (fun _ _ q => q)).alloc _)⟩
  · have HF := Lib.hid (readF_facts HB.out HR.out)
    go_enter Try.func16, Try.ntmps16
    go_wp2_with (go_at_call 32; go_must (refine (read_ok _ l HB.out).mono ?_); rintro e w2 hq; rw [HR.out] at hq; obtain ⟨hk2, A, cap, rfl, ho, hs⟩ := hq.some; clear hq ho; have HK := Lib.hid hk2; have HS := Lib.hid hs; have hb := (Blk.new w2 62 #[.int .u8 0, .int .u32 0, .slice none 0 0]); have th := hb.thereAll 3 rfl; have hb3 := hb.whole (body3 kind link A cs.length cap) rfl; have HB3 := Lib.hid hb3; have c0 := hb3.cell 0; have c1 := hb3.cell 1; have c2 := hb3.cell 2; have th3 := hb3.thereAll 3 rfl; have rd3 := hb3.readAll 3 rfl; have on4 : ones (body3 kind link A cs.length cap) := (by unfold ones body3; simp [Value.oneCell']); unfold body3 at th3 rd3 on4 c0 c1 c2; clear hk2 hs hb hb3)
    go_ret
    exact ⟨rfl, ((((Kp.refl _ _).alloc _).trans HK.out (fun _ _ q => q)).trans (Kp.setCells (S := NoB) (.inl (Nat.le_refl _)) _ _ _ ((Kp.refl NoB _).alloc _)) (fun _ _ q => q))⟩

set_option maxRecDepth 100000 in
set_option maxHeartbeats 1600000 in
theorem Cell_ok (w : World) (l : List Int) (hB : Bytes l) (i : Int) : Calls Try.prog 18 #[.agg (bytesV l), .int .i64 i] w fun e w' => e = .returned (.tuple #[.string (cellF (readF l) i).1, .int .i64 (cellF (readF l) i).2]) ∧ Kp NoB w w' := by
  have HB := Lib.hid hB
  have hb1 : Blk (w.alloc (.cells (bytesV l) 26)) w.heap.size 26 (bytesV l) := Blk.new _ _ _
  have t1 := hb1.thereAll 256 (by rw [bytesV_size]; exact hB.len)
  have r1 := hb1.readAll 256 (by rw [bytesV_size]; exact hB.len)
  clear hB hb1
  obtain ⟨r, hr⟩ : ∃ r, readF l = r := ⟨_, rfl⟩
  have HR := Lib.hid hr
  rw [hr]
  clear hr
  have on3 : ones #[.int .u8 0, .int .u32 0, .slice none 0 0] := by unfold ones; simp [Value.oneCell']
  rcases r with _ | ⟨kind, link, cs⟩
  · go_enter Try.func18, Try.ntmps18
    go_wp2_with (go_at_call 32; go_must (refine (read_ok _ l HB.out).mono ?_); rintro e w2 hq; rw [HR.out] at hq; obtain ⟨hk2, rfl⟩ := hq.none; clear hq; have HK := Lib.hid hk2; have th := (Blk.new w2 62 #[.int .u8 0, .int .u32 0, .slice none 0 0]).thereAll 3 rfl; clear hk2)
    go_ret2
    exact ⟨rfl, Kp.setCells (.inl (by have := HK.out.size; simp at this; omega)) _ _ _ ((((Kp.refl _ _).alloc _).trans HK.out (fun _ _ q => q)).alloc _)⟩
  · have HF := Lib.hid (readF_facts HB.out HR.out)
    obtain ⟨e, he⟩ : ∃ e, cellF (some (kind, link, cs)) i = e := ⟨_, rfl⟩
    rw [he]
    have HE := Lib.hid he
    clear he
    rcases (show i < 0 ∨ (0 ≤ i ∧ (cs.length : Int) ≤ i) ∨ (0 ≤ i ∧ i < (cs.length : Int)) by omega) with q | ⟨q0, q⟩ | ⟨q0, q⟩
    · obtain rfl : e = (ByteArray.empty, 4) := by rw [← HE.out]; unfold cellF; exact if_pos (.inl q)
      go_enter Try.func18, Try.ntmps18
      go_wp2_with (go_at_call 32; go_must (refine (read_ok _ l HB.out).mono ?_); rintro e w2 hq; rw [HR.out] at hq; obtain ⟨hk2, A, cap, rfl, ho, hs⟩ := hq.some; clear hq ho; have HK := Lib.hid hk2; have HS := Lib.hid hs; have hb := (Blk.new w2 62 #[.int .u8 0, .int .u32 0, .slice none 0 0]); have th := hb.thereAll 3 rfl; have hb3 := hb.whole (body3 kind link A cs.length cap) rfl; have HB3 := Lib.hid hb3; have c0 := hb3.cell 0; have c1 := hb3.cell 1; have c2 := hb3.cell 2; have th3 := hb3.thereAll 3 rfl; have rd3 := hb3.readAll 3 rfl; have on4 : ones (body3 kind link A cs.length cap) := (by unfold ones body3; simp [Value.oneCell']); unfold body3 at th3 rd3 on4 c0 c1 c2; clear hk2 hs hb hb3)
      go_ret2
      exact ⟨rfl, ((((Kp.refl _ _).alloc _).trans HK.out (fun _ _ q => q)).trans (Kp.setCells (S := NoB) (.inl (Nat.le_refl _)) _ _ _ ((Kp.refl NoB _).alloc _)) (fun _ _ q => q))⟩
    · obtain rfl : e = (ByteArray.empty, 4) := by rw [← HE.out]; unfold cellF; exact if_pos (.inr q)
      go_enter Try.func18, Try.ntmps18
      go_wp2_with (go_at_call 32; go_must (refine (read_ok _ l HB.out).mono ?_); rintro e w2 hq; rw [HR.out] at hq; obtain ⟨hk2, A, cap, rfl, ho, hs⟩ := hq.some; clear hq ho; have HK := Lib.hid hk2; have HS := Lib.hid hs; have hb := (Blk.new w2 62 #[.int .u8 0, .int .u32 0, .slice none 0 0]); have th := hb.thereAll 3 rfl; have hb3 := hb.whole (body3 kind link A cs.length cap) rfl; have HB3 := Lib.hid hb3; have c0 := hb3.cell 0; have c1 := hb3.cell 1; have c2 := hb3.cell 2; have th3 := hb3.thereAll 3 rfl; have rd3 := hb3.readAll 3 rfl; have on4 : ones (body3 kind link A cs.length cap) := (by unfold ones body3; simp [Value.oneCell']); unfold body3 at th3 rd3 on4 c0 c1 c2; clear hk2 hs hb hb3)
      go_ret2
      exact ⟨rfl, ((((Kp.refl _ _).alloc _).trans HK.out (fun _ _ q => q)).trans (Kp.setCells (S := NoB) (.inl (Nat.le_refl _)) _ _ _ ((Kp.refl NoB _).alloc _)) (fun _ _ q => q))⟩
    · obtain rfl : e = (cs.getD i.toNat ByteArray.empty, 0) := by rw [← HE.out]; unfold cellF; exact if_neg (by omega)
      obtain ⟨k, rfl⟩ := Int.eq_ofNat_of_zero_le q0
      have qk : k < cs.length := by omega
      go_enter Try.func18, Try.ntmps18
      go_wp2_with (go_at_call 32; go_must (refine (read_ok _ l HB.out).mono ?_); rintro e w2 hq; rw [HR.out] at hq; obtain ⟨hk2, A, cap, rfl, ho, hs⟩ := hq.some; clear hq ho; obtain ⟨g, o, rfl, hg, hc⟩ := hs.2 (by omega); have HK := Lib.hid hk2; have HS := Lib.hid hs; have hb := (Blk.new w2 62 #[.int .u8 0, .int .u32 0, .slice none 0 0]); have th := hb.thereAll 3 rfl; have hb3 := hb.whole (body3 kind link (some ⟨g, o, none⟩) cs.length cap) rfl; have HB3 := Lib.hid hb3; have c0 := hb3.cell 0; have c1 := hb3.cell 1; have c2 := hb3.cell 2; have th3 := hb3.thereAll 3 rfl; have rd3 := hb3.readAll 3 rfl; have on4 : ones (body3 kind link (some ⟨g, o, none⟩) cs.length cap) := (by unfold ones body3; simp [Value.oneCell']); have hck := ((Kp.setCells (S := NoB) (g := w2.heap.size) (.inl (Nat.le_refl _)) (body3 kind link (some ⟨g, o, none⟩) cs.length cap).toList 0 _ ((Kp.refl NoB w2).alloc (.cells #[.int .u8 0, .int .u32 0, .slice none 0 0] 62))).cell hg (fun q => q)).trans (hc k qk); unfold body3 at th3 rd3 on4 c0 c1 c2 hck; clear hk2 hs hb hb3 hc)
      go_ret2
      exact ⟨by simp [qk], ((((Kp.refl _ _).alloc _).trans HK.out (fun _ _ q => q)).trans (Kp.setCells (S := NoB) (.inl (Nat.le_refl _)) _ _ _ ((Kp.refl NoB _).alloc _)) (fun _ _ q => q))⟩
end Go.Proofs.Ytnleoeogcinadaa
