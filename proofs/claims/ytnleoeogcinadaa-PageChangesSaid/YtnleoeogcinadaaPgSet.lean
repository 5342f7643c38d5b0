/- The program's SetLink; no condition. -/
import Derived.Test.YtnleoeogcinadaaPgA
namespace Go.Proofs.Ytnleoeogcinadaa
open Go.RowKit
attribute [local go_sem ↓] load26 store26 alloc26 build26 slice26lo load62 store62
attribute [local go_sem] size_setCells

def setF (l : List Int) (link : Int) : Array Value × Int :=
  match readF l with
  | none => (zero256, 8)
  | some (k, _, cs) => toldR k link cs
set_option maxRecDepth 100000 in
set_option maxHeartbeats 4000000 in
theorem SetLink_none (w : World) (l : List Int) (hB : Bytes l) (link : Int) (hr : readF l = none) : Calls Try.prog 26 #[.agg (bytesV l), .int .u32 link] w (PagePost w (zero256, 8)) := by
  have HB := Lib.hid hB
  have hb1 := (Blk.new w 26 (bytesV l)).alloc (.cells zero256 26)
  have hz1 : Blk ((w.alloc (.cells (bytesV l) 26)).alloc (.cells zero256 26)) (w.heap.size + 1) 26 zero256 := Blk.newAt _ _ _ _ (by simp)
  have HZ1 := Lib.hid hz1
  have t1 := hb1.thereAll 256 (by rw [bytesV_size]; exact hB.len)
  have r1 := hb1.readAll 256 (by rw [bytesV_size]; exact hB.len)
  have HR := Lib.hid hr
  have zsz := zero256_size
  have zon := zero256_one
  have on3 : ones #[.int .u8 0, .int .u32 0, .slice none 0 0] := by unfold ones; simp [Value.oneCell']
  clear hb1 hz1 hB hr
  go_enter Try.func26, Try.ntmps26
  go_wp2_with (go_at_call 32; go_must (refine (read_ok _ l HB.out).mono ?_); rintro e w2 hq; rw [HR.out] at hq; obtain ⟨hk, rfl⟩ := hq.none; have kk := Kp.setCells (S := NoB) (g := w2.heap.size) (.inl (Nat.le_refl _)) (#[.int .u8 0, .int .u32 0, .slice none 0 0] : Array Value).toList 0 _ ((Kp.refl NoB w2).alloc (.cells #[.int .u8 0, .int .u32 0, .slice none 0 0] 62)); have hb := Blk.new w2 62 #[.int .u8 0, .int .u32 0, .slice none 0 0]; have thn := hb.thereAll 3 rfl; have HKK := Lib.hid (hk.trans kk (fun _ _ q => q)); have tz := (HZ1.out.keep (hk.trans kk (fun _ _ q => q)) (fun q => q)).thereAll 256 zsz; clear hk kk hb)
  refine bodyPost_ret (ret_cell_tmp rfl _ _ _ _ _ _ rfl ((HZ1.out.keep HKK.out (fun q => q)).whole zero256 rfl) Try.underlying26 rfl (by rw [zero256_size]; exact info26) _ rfl) rfl ?_
  exact ⟨rfl, Kp.setCells (.inl (by omega)) _ _ _ ((((Kp.refl NoB w).alloc _).alloc _).trans HKK.out (fun _ _ q => q))⟩
set_option maxRecDepth 100000 in
set_option maxHeartbeats 4000000 in
theorem SetLink_some (w : World) (l : List Int) (hB : Bytes l) (link : Int) {k l0 : Int} {cs : List ByteArray} (hr : readF l = some (k, l0, cs)) : Calls Try.prog 26 #[.agg (bytesV l), .int .u32 link] w (PagePost w (toldR k link cs)) := by
  have HB := Lib.hid hB
  have hb1 := (Blk.new w 26 (bytesV l)).alloc (.cells zero256 26)
  have hz1 : Blk ((w.alloc (.cells (bytesV l) 26)).alloc (.cells zero256 26)) (w.heap.size + 1) 26 zero256 := Blk.newAt _ _ _ _ (by simp)
  have HZ1 := Lib.hid hz1
  have t1 := hb1.thereAll 256 (by rw [bytesV_size]; exact hB.len)
  have r1 := hb1.readAll 256 (by rw [bytesV_size]; exact hB.len)
  have hfa := readF_facts hB hr
  have hc250 := hfa.1
  have HFA := Lib.hid hfa
  have HR := Lib.hid hr
  have zsz := zero256_size
  have zon := zero256_one
  have hpg := PgA.told k link cs
  obtain ⟨Z, code, hT⟩ : ∃ Z code, toldR k link cs = (Z, code) := ⟨_, _, rfl⟩
  rw [hT] at hpg ⊢
  have HT := Lib.hid hT
  have sZ := hpg.s
  have oZ := hpg.o
  have on3 : ones #[.int .u8 0, .int .u32 0, .slice none 0 0] := by unfold ones; simp [Value.oneCell']
  clear hb1 hz1 hB hr hfa hT
  go_enter Try.func26, Try.ntmps26
  go_wp2_with (first
    | (go_at_call 32; go_must (refine (read_ok _ l HB.out).mono ?_); rintro e w2 hq; rw [HR.out] at hq; obtain ⟨hk, A, cap, rfl, ho, hs⟩ := hq.some; have hb := Blk.new w2 62 #[.int .u8 0, .int .u32 0, .slice none 0 0]; have thn := hb.thereAll 3 rfl; have hb3 := hb.whole (body3 k l0 A cs.length cap) rfl; have on4 : ones (body3 k l0 A cs.length cap) := (by unfold ones body3; simp [Value.oneCell']); have c1 := cellAt (v := .int .u32 l0) hb3 1 rfl; have f1 := hb3.frozen 1; have hb4 := hb3.set_ 1 (.int .u32 link); have t4 := hb4.thereAll 3 rfl; have r4 : readRow _ w2.heap.size 0 3 = body3 k link A cs.length cap := hb4.readAll 3 rfl;
       have kk := (Kp.setCells (S := NoB) (g := w2.heap.size) (.inl (Nat.le_refl _)) (body3 k l0 A cs.length cap).toList 0 _ ((Kp.refl NoB w2).alloc (.cells #[.int .u8 0, .int .u32 0, .slice none 0 0] 62))).setCell (p := ⟨w2.heap.size, 1, none⟩) (.inl (Nat.le_refl _)) (.int .u32 link); have HKK := Lib.hid (hk.trans kk (fun _ _ q => q)); have HS := Lib.hid (hs.keep kk); unfold body3 at on4 c1 f1 t4 r4; clear hk hb hb3 hb4 kk hs ho)
    | (go_at_call 31; go_must (refine (told_ok _ k link A cs.length cap cs (by omega) HFA.out.2.1 HS.out).mono ?_); rintro e w5 hq; rw [HT.out] at hq; obtain ⟨rfl, hk5⟩ := hq; have HK5 := Lib.hid (HKK.out.trans hk5 (fun _ _ q => q)); have tz := (HZ1.out.keep (HKK.out.trans hk5 (fun _ _ q => q)) (fun q => q)).thereAll 256 zsz; clear hk5))
  refine bodyPost_ret (ret_cell_tmp rfl _ _ _ _ _ _ rfl ((HZ1.out.keep HK5.out (fun q => q)).whole Z (by rw [zero256_size, sZ])) Try.underlying26 rfl (by rw [sZ]; exact info26) _ rfl) rfl ?_
  exact ⟨rfl, Kp.setCells (.inl (by omega)) _ _ _ ((((Kp.refl NoB w).alloc _).alloc _).trans HK5.out (fun _ _ q => q))⟩
theorem SetLink_ok (w : World) (l : List Int) (hB : Bytes l) (link : Int) : Calls Try.prog 26 #[.agg (bytesV l), .int .u32 link] w (PagePost w (setF l link)) := by
  rcases hr : readF l with _ | ⟨k, l0, cs⟩
  · rw [show setF l link = (zero256, 8) by unfold setF; rw [hr]]
    exact SetLink_none w l hB link hr
  · rw [show setF l link = toldR k link cs by unfold setF; rw [hr]]
    exact SetLink_some w l hB link hr
end Go.Proofs.Ytnleoeogcinadaa
