/- The program's Join: two pages as one; no condition. -/
import Derived.Test.YtnleoeogcinadaaPgCat
import Derived.Test.YtnleoeogcinadaaPgEq
namespace Go.Proofs.Ytnleoeogcinadaa
open Go.RowKit
attribute [local go_sem ↓] load26 store26 alloc26 build26 slice26lo load62 store62

def joinF (l m : List Int) : Array Value × Int :=
  match readF l, readF m with
  | some (k, _, cs), some (k', lk, ds) => if k = k' then toldR k lk (cs ++ ds) else (zero256, 2)
  | _, _ => (zero256, 8)
def RdF (r : Option (Int × Int × List ByteArray)) (k lk : Int) (A : Option Addr) (n ca : Nat) (ok : Bool) (w' : World) : Prop :=
  match r with
  | none => ok = false
  | some (k0, l0, cs) => ok = true ∧ k = k0 ∧ lk = l0 ∧ n = cs.length ∧ Sl w' A n cs ∧ (A = none → n = 0 ∧ ca = 0)
theorem read_any (w : World) (l : List Int) (hB : Bytes l) : Calls Try.prog 32 #[.agg (bytesV l)] w fun e w' =>
    ∃ k lk A n ca ok, e = .returned (.tuple #[.agg #[.int .u8 k, .int .u32 lk, .slice A n ca], .bool ok]) ∧ Kp NoB w w' ∧ RdF (readF l) k lk A n ca ok w' := by
  refine (read_ok w l hB).mono ?_
  intro e w' hq
  rcases hr : readF l with _ | ⟨k, lk, cs⟩
  · rw [hr] at hq
    obtain ⟨hk, rfl⟩ := hq.none
    exact ⟨_, _, _, _, _, _, rfl, hk, rfl⟩
  · rw [hr] at hq
    obtain ⟨hk, A, cap, rfl, ho, hs⟩ := hq.some
    exact ⟨_, _, _, _, _, _, rfl, hk, rfl, rfl, rfl, rfl, hs, own_nil ho⟩
structure JA (w : World) (g6 : Nat) (b : Array Value) (m : List Int) (W : World) : Prop where
  kp : Kp NoB w W
  q : Blk W (w.heap.size + 1) 26 (bytesV m)
  z : Blk W (w.heap.size + 1 + 1) 26 zero256
  b6 : Blk W g6 62 b
structure JW (w : World) (g6 g8 : Nat) (b c : Array Value) (W : World) : Prop where
  kp : Kp NoB w W
  z : Blk W (w.heap.size + 1 + 1) 26 zero256
  b6 : Blk W g6 62 b
  b8 : Blk W g8 62 c
theorem JW.keep {w : World} {g6 g8 : Nat} {b c : Array Value} {W W' : World} (h : JW w g6 g8 b c W) (k : Kp NoB W W') : JW w g6 g8 b c W' :=
  ⟨h.kp.trans k (fun _ _ q => q), h.z.keep k (fun q => q), h.b6.keep k (fun q => q), h.b8.keep k (fun q => q)⟩
set_option maxRecDepth 100000 in
set_option maxHeartbeats 4000000 in
theorem Join_bad1 (w : World) (l m : List Int) (hL : Bytes l) (hM : Bytes m) {r2 : Option (Int × Int × List ByteArray)} (hr1 : readF l = none) (hr2 : readF m = r2) : Calls Try.prog 21 #[.agg (bytesV l), .agg (bytesV m)] w (PagePost w (zero256, 8)) := by
  have HBP := Lib.hid hL
  have HBQ := Lib.hid hM
  have hb0 := ((Blk.new w 26 (bytesV l)).alloc (.cells (bytesV m) 26)).alloc (.cells zero256 26)
  have hq0 : Blk (((w.alloc (.cells (bytesV l) 26)).alloc (.cells (bytesV m) 26)).alloc (.cells zero256 26)) (w.heap.size + 1) 26 (bytesV m) := (Blk.newAt _ _ _ _ (by simp)).alloc _
  have hz0 : Blk (((w.alloc (.cells (bytesV l) 26)).alloc (.cells (bytesV m) 26)).alloc (.cells zero256 26)) (w.heap.size + 1 + 1) 26 zero256 := Blk.newAt _ _ _ _ (by simp)
  have HQ0 := Lib.hid hq0
  have HZ0 := Lib.hid hz0
  have HK0 := Lib.hid ((((Kp.refl NoB w).alloc (.cells (bytesV l) 26)).alloc (.cells (bytesV m) 26)).alloc (.cells zero256 26))
  have tp := hb0.thereAll 256 (by rw [bytesV_size]; exact hL.len)
  have rp := hb0.readAll 256 (by rw [bytesV_size]; exact hL.len)
  clear hb0 hq0 hz0
  have hmq := hM.len
  clear hL hM
  have HR1 := Lib.hid hr1
  have HR2 := Lib.hid hr2
  clear hr1 hr2
  have on3 : ones #[.int .u8 0, .int .u32 0, .slice none 0 0] := by unfold ones; simp [Value.oneCell']
  have zsz := zero256_size
  have zon := zero256_one
  go_enter Try.func21, Try.ntmps21
  go_wp2_with (have hG := HQ0; clear hG; go_at_call 32; go_must (refine (read_any _ l HBP.out).mono ?_); rintro e w2 ⟨k1, lk1, A1, n1, ca1, ok1, rfl, hk, hf⟩; have HK1 := Lib.hid hk; rw [HR1.out] at hf; obtain rfl := hf; have hb := Blk.new w2 62 #[.int .u8 0, .int .u32 0, .slice none 0 0]; have thn1 := hb.thereAll 3 rfl; have hb3 := hb.whole (body3 k1 lk1 A1 n1 ca1) rfl; have HBN1 := Lib.hid hb3; have ths1 := hb3.thereAll 3 rfl; have rds1 := hb3.readAll 3 rfl; have ona1 : ones (body3 k1 lk1 A1 n1 ca1) := (by unfold ones body3; simp [Value.oneCell']); have kk := Kp.setCells (S := NoB) (g := w2.heap.size) (.inl (Nat.le_refl _)) (body3 k1 lk1 A1 n1 ca1).toList 0 _ ((Kp.refl NoB w2).alloc (.cells #[.int .u8 0, .int .u32 0, .slice none 0 0] 62)); have HKK1 := Lib.hid (hk.trans kk (fun _ _ q => q)); have hkk := hk.trans kk (fun _ _ q => q); have hq3 := HQ0.out.keep hkk (fun q => q); have HQ3 := Lib.hid hq3; have HZ3 := Lib.hid (HZ0.out.keep hkk (fun q => q)); have tq := hq3.thereAll 256 (by rw [bytesV_size]; exact hmq); have rq := hq3.readAll 256 (by rw [bytesV_size]; exact hmq); clear hq3; unfold body3 at ths1 rds1 ona1 tq rq; clear hk hb hb3 kk hkk; clear HQ0)
  refine forget (p := fun wx => Calls _ _ _ wx _) (fun W' => JA w w2.heap.size (body3 k1 lk1 A1 n1 ca1) m W' ∧ w2.heap.size < W'.heap.size) ⟨⟨HK0.out.trans HKK1.out (fun _ _ q => q), HQ3.out, HZ3.out, HBN1.out⟩, HBN1.out.lt⟩ ?_
  rintro W ⟨hJ, hlt⟩
  obtain ⟨g6, hg6⟩ : ∃ g, w2.heap.size = g := ⟨_, rfl⟩
  rw [hg6] at hJ hlt ⊢
  have HJ := Lib.hid hJ
  clear hJ hg6 tq rq thn1 ths1 rds1
  go_must (refine (read_any _ m HBQ.out).mono ?_); rintro e w4 ⟨k2, lk2, A2, n2, ca2, ok2, rfl, hk, hf⟩; have HK2 := Lib.hid hk; rw [HR2.out] at hf; skip; have hb := Blk.new w4 62 #[.int .u8 0, .int .u32 0, .slice none 0 0]; have thn2 := hb.thereAll 3 rfl; have hb3 := hb.whole (body3 k2 lk2 A2 n2 ca2) rfl; have HBN2 := Lib.hid hb3; have ths2 := hb3.thereAll 3 rfl; have rds2 := hb3.readAll 3 rfl; have ona2 : ones (body3 k2 lk2 A2 n2 ca2) := (by unfold ones body3; simp [Value.oneCell']); have kk := Kp.setCells (S := NoB) (g := w4.heap.size) (.inl (Nat.le_refl _)) (body3 k2 lk2 A2 n2 ca2).toList 0 _ ((Kp.refl NoB w4).alloc (.cells #[.int .u8 0, .int .u32 0, .slice none 0 0] 62)); have HKK2 := Lib.hid (hk.trans kk (fun _ _ q => q)); have hkk := hk.trans kk (fun _ _ q => q); have c60 := (HJ.out.b6.keep hkk (fun q => q)).cell 0; have c80 := hb3.cell 0; have tz := (HJ.out.z.keep hkk (fun q => q)).thereAll 256 zero256_size; unfold body3 at ths2 rds2 ona2 c60 c80 tz; clear hk hb hb3 kk hkk
  go_wp2_with fail
  refine bodyPost_ret (ret_cell_tmp rfl _ _ _ _ _ _ rfl ((HJ.out.z.keep HKK2.out (fun q => q)).whole zero256 rfl) Try.underlying26 rfl (by rw [zero256_size]; exact info26) _ rfl) rfl ?_
  exact ⟨rfl, Kp.setCells (.inl (by omega)) _ _ _ (HJ.out.kp.trans HKK2.out (fun _ _ q => q))⟩
set_option maxRecDepth 100000 in
set_option maxHeartbeats 4000000 in
theorem Join_bad2 (w : World) (l m : List Int) (hL : Bytes l) (hM : Bytes m) {k l0 : Int} {cs : List ByteArray} (hr1 : readF l = some (k, l0, cs)) (hr2 : readF m = none) : Calls Try.prog 21 #[.agg (bytesV l), .agg (bytesV m)] w (PagePost w (zero256, 8)) := by
  have HBP := Lib.hid hL
  have HBQ := Lib.hid hM
  have hb0 := ((Blk.new w 26 (bytesV l)).alloc (.cells (bytesV m) 26)).alloc (.cells zero256 26)
  have hq0 : Blk (((w.alloc (.cells (bytesV l) 26)).alloc (.cells (bytesV m) 26)).alloc (.cells zero256 26)) (w.heap.size + 1) 26 (bytesV m) := (Blk.newAt _ _ _ _ (by simp)).alloc _
  have hz0 : Blk (((w.alloc (.cells (bytesV l) 26)).alloc (.cells (bytesV m) 26)).alloc (.cells zero256 26)) (w.heap.size + 1 + 1) 26 zero256 := Blk.newAt _ _ _ _ (by simp)
  have HQ0 := Lib.hid hq0
  have HZ0 := Lib.hid hz0
  have HK0 := Lib.hid ((((Kp.refl NoB w).alloc (.cells (bytesV l) 26)).alloc (.cells (bytesV m) 26)).alloc (.cells zero256 26))
  have tp := hb0.thereAll 256 (by rw [bytesV_size]; exact hL.len)
  have rp := hb0.readAll 256 (by rw [bytesV_size]; exact hL.len)
  clear hb0 hq0 hz0
  have hmq := hM.len
  clear hL hM
  have HR1 := Lib.hid hr1
  have HR2 := Lib.hid hr2
  clear hr1 hr2
  have on3 : ones #[.int .u8 0, .int .u32 0, .slice none 0 0] := by unfold ones; simp [Value.oneCell']
  have zsz := zero256_size
  have zon := zero256_one
  go_enter Try.func21, Try.ntmps21
  go_wp2_with (have hG := HQ0; clear hG; go_at_call 32; go_must (refine (read_any _ l HBP.out).mono ?_); rintro e w2 ⟨k1, lk1, A1, n1, ca1, ok1, rfl, hk, hf⟩; have HK1 := Lib.hid hk; rw [HR1.out] at hf; obtain ⟨rfl, rfl, rfl, rfl, hs1, hn1⟩ := hf; have HS1 := Lib.hid hs1; have HN1 := Lib.hid hn1; clear hs1 hn1; have hb := Blk.new w2 62 #[.int .u8 0, .int .u32 0, .slice none 0 0]; have thn1 := hb.thereAll 3 rfl; have hb3 := hb.whole (body3 k1 lk1 A1 cs.length ca1) rfl; have HBN1 := Lib.hid hb3; have ths1 := hb3.thereAll 3 rfl; have rds1 := hb3.readAll 3 rfl; have ona1 : ones (body3 k1 lk1 A1 cs.length ca1) := (by unfold ones body3; simp [Value.oneCell']); have kk := Kp.setCells (S := NoB) (g := w2.heap.size) (.inl (Nat.le_refl _)) (body3 k1 lk1 A1 cs.length ca1).toList 0 _ ((Kp.refl NoB w2).alloc (.cells #[.int .u8 0, .int .u32 0, .slice none 0 0] 62)); have HKK1 := Lib.hid (hk.trans kk (fun _ _ q => q)); have hkk := hk.trans kk (fun _ _ q => q); have hq3 := HQ0.out.keep hkk (fun q => q); have HQ3 := Lib.hid hq3; have HZ3 := Lib.hid (HZ0.out.keep hkk (fun q => q)); have tq := hq3.thereAll 256 (by rw [bytesV_size]; exact hmq); have rq := hq3.readAll 256 (by rw [bytesV_size]; exact hmq); clear hq3; unfold body3 at ths1 rds1 ona1 tq rq; clear hk hb hb3 kk hkk; clear HQ0)
  refine forget (p := fun wx => Calls _ _ _ wx _) (fun W' => JA w w2.heap.size (body3 k1 lk1 A1 cs.length ca1) m W' ∧ w.heap.size + 1 + 1 < w2.heap.size ∧ Sl W' A1 cs.length cs) ⟨⟨HK0.out.trans HKK1.out (fun _ _ q => q), HQ3.out, HZ3.out, HBN1.out⟩, by have := HK1.out.size; simp at this; omega, HS1.out.keep ((Kp.setCells (S := NoB) (g := w2.heap.size) (.inl (Nat.le_refl _)) (body3 k1 lk1 A1 cs.length ca1).toList 0 _ ((Kp.refl NoB w2).alloc (.cells #[.int .u8 0, .int .u32 0, .slice none 0 0] 62))))⟩ ?_
  rintro W ⟨hJ, hlt, hsl⟩
  have HSL := Lib.hid hsl
  clear hsl
  obtain ⟨g6, hg6⟩ : ∃ g, w2.heap.size = g := ⟨_, rfl⟩
  rw [hg6] at hJ hlt ⊢
  have HJ := Lib.hid hJ
  clear hJ hg6 tq rq thn1 ths1 rds1
  go_must (refine (read_any _ m HBQ.out).mono ?_); rintro e w4 ⟨k2, lk2, A2, n2, ca2, ok2, rfl, hk, hf⟩; have HK2 := Lib.hid hk; rw [HR2.out] at hf; obtain rfl := hf; have hb := Blk.new w4 62 #[.int .u8 0, .int .u32 0, .slice none 0 0]; have thn2 := hb.thereAll 3 rfl; have hb3 := hb.whole (body3 k2 lk2 A2 n2 ca2) rfl; have HBN2 := Lib.hid hb3; have ths2 := hb3.thereAll 3 rfl; have rds2 := hb3.readAll 3 rfl; have ona2 : ones (body3 k2 lk2 A2 n2 ca2) := (by unfold ones body3; simp [Value.oneCell']); have kk := Kp.setCells (S := NoB) (g := w4.heap.size) (.inl (Nat.le_refl _)) (body3 k2 lk2 A2 n2 ca2).toList 0 _ ((Kp.refl NoB w4).alloc (.cells #[.int .u8 0, .int .u32 0, .slice none 0 0] 62)); have HKK2 := Lib.hid (hk.trans kk (fun _ _ q => q)); have hkk := hk.trans kk (fun _ _ q => q); have c60 := (HJ.out.b6.keep hkk (fun q => q)).cell 0; have c80 := hb3.cell 0; have tz := (HJ.out.z.keep hkk (fun q => q)).thereAll 256 zero256_size; unfold body3 at ths2 rds2 ona2 c60 c80 tz; clear hk hb hb3 kk hkk
  go_wp2_with fail
  refine bodyPost_ret (ret_cell_tmp rfl _ _ _ _ _ _ rfl ((HJ.out.z.keep HKK2.out (fun q => q)).whole zero256 rfl) Try.underlying26 rfl (by rw [zero256_size]; exact info26) _ rfl) rfl ?_
  exact ⟨rfl, Kp.setCells (.inl (by omega)) _ _ _ (HJ.out.kp.trans HKK2.out (fun _ _ q => q))⟩
set_option maxRecDepth 100000 in
set_option maxHeartbeats 4000000 in
theorem Join_ne (w : World) (l m : List Int) (hL : Bytes l) (hM : Bytes m) {k l0 : Int} {cs : List ByteArray} {k' l0' : Int} {ds : List ByteArray} (hr1 : readF l = some (k, l0, cs)) (hr2 : readF m = some (k', l0', ds)) (hne : k ≠ k') : Calls Try.prog 21 #[.agg (bytesV l), .agg (bytesV m)] w (PagePost w (zero256, 2)) := by
  have HBP := Lib.hid hL
  have HBQ := Lib.hid hM
  have hb0 := ((Blk.new w 26 (bytesV l)).alloc (.cells (bytesV m) 26)).alloc (.cells zero256 26)
  have hq0 : Blk (((w.alloc (.cells (bytesV l) 26)).alloc (.cells (bytesV m) 26)).alloc (.cells zero256 26)) (w.heap.size + 1) 26 (bytesV m) := (Blk.newAt _ _ _ _ (by simp)).alloc _
  have hz0 : Blk (((w.alloc (.cells (bytesV l) 26)).alloc (.cells (bytesV m) 26)).alloc (.cells zero256 26)) (w.heap.size + 1 + 1) 26 zero256 := Blk.newAt _ _ _ _ (by simp)
  have HQ0 := Lib.hid hq0
  have HZ0 := Lib.hid hz0
  have HK0 := Lib.hid ((((Kp.refl NoB w).alloc (.cells (bytesV l) 26)).alloc (.cells (bytesV m) 26)).alloc (.cells zero256 26))
  have tp := hb0.thereAll 256 (by rw [bytesV_size]; exact hL.len)
  have rp := hb0.readAll 256 (by rw [bytesV_size]; exact hL.len)
  clear hb0 hq0 hz0
  have hmq := hM.len
  clear hL hM
  have HR1 := Lib.hid hr1
  have HR2 := Lib.hid hr2
  clear hr1 hr2
  have on3 : ones #[.int .u8 0, .int .u32 0, .slice none 0 0] := by unfold ones; simp [Value.oneCell']
  have zsz := zero256_size
  have zon := zero256_one
  go_enter Try.func21, Try.ntmps21
  go_wp2_with (have hG := HQ0; clear hG; go_at_call 32; go_must (refine (read_any _ l HBP.out).mono ?_); rintro e w2 ⟨k1, lk1, A1, n1, ca1, ok1, rfl, hk, hf⟩; have HK1 := Lib.hid hk; rw [HR1.out] at hf; obtain ⟨rfl, rfl, rfl, rfl, hs1, hn1⟩ := hf; have HS1 := Lib.hid hs1; have HN1 := Lib.hid hn1; clear hs1 hn1; have hb := Blk.new w2 62 #[.int .u8 0, .int .u32 0, .slice none 0 0]; have thn1 := hb.thereAll 3 rfl; have hb3 := hb.whole (body3 k1 lk1 A1 cs.length ca1) rfl; have HBN1 := Lib.hid hb3; have ths1 := hb3.thereAll 3 rfl; have rds1 := hb3.readAll 3 rfl; have ona1 : ones (body3 k1 lk1 A1 cs.length ca1) := (by unfold ones body3; simp [Value.oneCell']); have kk := Kp.setCells (S := NoB) (g := w2.heap.size) (.inl (Nat.le_refl _)) (body3 k1 lk1 A1 cs.length ca1).toList 0 _ ((Kp.refl NoB w2).alloc (.cells #[.int .u8 0, .int .u32 0, .slice none 0 0] 62)); have HKK1 := Lib.hid (hk.trans kk (fun _ _ q => q)); have hkk := hk.trans kk (fun _ _ q => q); have hq3 := HQ0.out.keep hkk (fun q => q); have HQ3 := Lib.hid hq3; have HZ3 := Lib.hid (HZ0.out.keep hkk (fun q => q)); have tq := hq3.thereAll 256 (by rw [bytesV_size]; exact hmq); have rq := hq3.readAll 256 (by rw [bytesV_size]; exact hmq); clear hq3; unfold body3 at ths1 rds1 ona1 tq rq; clear hk hb hb3 kk hkk; clear HQ0)
  refine forget (p := fun wx => Calls _ _ _ wx _) (fun W' => JA w w2.heap.size (body3 k1 lk1 A1 cs.length ca1) m W' ∧ w.heap.size + 1 + 1 < w2.heap.size ∧ Sl W' A1 cs.length cs) ⟨⟨HK0.out.trans HKK1.out (fun _ _ q => q), HQ3.out, HZ3.out, HBN1.out⟩, by have := HK1.out.size; simp at this; omega, HS1.out.keep ((Kp.setCells (S := NoB) (g := w2.heap.size) (.inl (Nat.le_refl _)) (body3 k1 lk1 A1 cs.length ca1).toList 0 _ ((Kp.refl NoB w2).alloc (.cells #[.int .u8 0, .int .u32 0, .slice none 0 0] 62))))⟩ ?_
  rintro W ⟨hJ, hlt, hsl⟩
  have HSL := Lib.hid hsl
  clear hsl
  obtain ⟨g6, hg6⟩ : ∃ g, w2.heap.size = g := ⟨_, rfl⟩
  rw [hg6] at hJ hlt ⊢
  have HJ := Lib.hid hJ
  clear hJ hg6 tq rq thn1 ths1 rds1
  go_must (refine (read_any _ m HBQ.out).mono ?_); rintro e w4 ⟨k2, lk2, A2, n2, ca2, ok2, rfl, hk, hf⟩; have HK2 := Lib.hid hk; rw [HR2.out] at hf; obtain ⟨rfl, rfl, rfl, rfl, hs2, hn2⟩ := hf; have HS2 := Lib.hid hs2; have HN2 := Lib.hid hn2; clear hs2 hn2; have hb := Blk.new w4 62 #[.int .u8 0, .int .u32 0, .slice none 0 0]; have thn2 := hb.thereAll 3 rfl; have hb3 := hb.whole (body3 k2 lk2 A2 ds.length ca2) rfl; have HBN2 := Lib.hid hb3; have ths2 := hb3.thereAll 3 rfl; have rds2 := hb3.readAll 3 rfl; have ona2 : ones (body3 k2 lk2 A2 ds.length ca2) := (by unfold ones body3; simp [Value.oneCell']); have kk := Kp.setCells (S := NoB) (g := w4.heap.size) (.inl (Nat.le_refl _)) (body3 k2 lk2 A2 ds.length ca2).toList 0 _ ((Kp.refl NoB w4).alloc (.cells #[.int .u8 0, .int .u32 0, .slice none 0 0] 62)); have HKK2 := Lib.hid (hk.trans kk (fun _ _ q => q)); have hkk := hk.trans kk (fun _ _ q => q); have c60 := (HJ.out.b6.keep hkk (fun q => q)).cell 0; have c80 := hb3.cell 0; have tz := (HJ.out.z.keep hkk (fun q => q)).thereAll 256 zero256_size; unfold body3 at ths2 rds2 ona2 c60 c80 tz; clear hk hb hb3 kk hkk
  go_wp2_with fail
  refine bodyPost_ret (ret_cell_tmp rfl _ _ _ _ _ _ rfl ((HJ.out.z.keep HKK2.out (fun q => q)).whole zero256 rfl) Try.underlying26 rfl (by rw [zero256_size]; exact info26) _ rfl) rfl ?_
  exact ⟨rfl, Kp.setCells (.inl (by omega)) _ _ _ (HJ.out.kp.trans HKK2.out (fun _ _ q => q))⟩
end Go.Proofs.Ytnleoeogcinadaa
