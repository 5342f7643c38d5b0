/- The program's told, cell and New: pages are made of any kind, link and cells; no condition. -/
import Derived.Test.YtnleoeogcinadaaPgLay
namespace Go.Proofs.Ytnleoeogcinadaa
open Go.RowKit
attribute [local go_sem ↓] load26 store26 alloc26 build26 slice26lo

/-- what told answers -/
def toldR (kind link : Int) (xs : List ByteArray) : Array Value × Int := if roomI xs < 0 then (zero256, 5) else (bytesV (layI kind link xs), 0)
def PagePost (w : World) (r : Array Value × Int) (e : Ending) (w' : World) : Prop :=
  e = .returned (.tuple #[.agg r.1, .int .i64 r.2]) ∧ Kp NoB w w'
theorem layI_len (kind link : Int) (xs : List ByteArray) (h : 0 ≤ roomI xs) : (layI kind link xs).length = 256 := layK_len kind link xs xs.length (Nat.le_refl _) h
theorem layR_size (kind link : Int) (xs : List ByteArray) : (layR kind link xs).1.size = 256 := by
  unfold layR
  split
  · exact zero256_size
  · rw [bytesV_size]; exact layI_len kind link xs (by omega)
theorem layR_one (kind link : Int) (xs : List ByteArray) : ones (layR kind link xs).1 := by
  unfold layR
  split
  · exact zero256_one
  · exact bytesV_one _

set_option maxRecDepth 100000 in
set_option maxHeartbeats 1600000 in
theorem told_ok (w : World) (kind link : Int) (A : Option Addr) (n cap : Nat) (xs : List ByteArray) (hn : n ≤ 4000) (h60 : ∀ c ∈ xs, 1 ≤ c.size ∧ c.size ≤ 60) (hS : Sl w A n xs) :
    Calls Try.prog 31 #[.agg #[.int .u8 kind, .int .u32 link, .slice A n cap]] w (PagePost w (toldR kind link xs)) := by
  have HS := Lib.hid (hS.keep (((Kp.refl NoB w).alloc (.cells #[.int .u8 kind, .int .u32 link, .slice A n cap] 62)).alloc (.cells zero256 26)))
  have HB2 : Hid (Blk ((w.alloc (.cells #[.int .u8 kind, .int .u32 link, .slice A n cap] 62)).alloc (.cells zero256 26)) (w.heap.size + 1) 26 zero256) := Lib.hid (Blk.newAt _ _ _ _ (by simp))
  have H6 := Lib.hid h60
  clear hS h60
  by_cases hr : roomI xs < 0
  · have HR := Lib.hid (show layR kind link xs = (zero256, false) from (if_pos hr))
    have HT := Lib.hid (show toldR kind link xs = (zero256, 5) from (if_pos hr))
    have HP1 : Hid (zero256.size = 256) := Lib.hid (by have := layR_size kind link xs; rw [HR.out] at this; exact this)
    have HP2 : Hid (ones zero256) := Lib.hid (by have := layR_one kind link xs; rw [HR.out] at this; exact this)
    clear hr
    go_enter Try.func31, Try.ntmps31
    go_wp2_with (first
      | (go_at_call 38; go_must (refine (lay_ok _ kind link A n cap xs hn H6.out HS.out).mono ?_); rintro e w2 hq; unfold LayPost at hq; rw [HR.out] at hq; obtain ⟨rfl, hk2⟩ := hq; have HB := Lib.hid (HB2.out.keep hk2 (fun q => q)); have HK := Lib.hid ((((Kp.refl NoB w).alloc _).alloc _).trans hk2 (fun _ _ q => q)); clear hk2)
      | (show wpList _ _ _ (⟨none, .store _ (.tmp 4) _, _, _, _, _⟩ :: _) _ _; go_must (refine wpList_store_row rfl 26 (.tmp 4) _ rfl w2.heap.size zero256 rfl rfl 26 _ (heap_alloc_new _ _) (by rw [HP1.out]; exact info26) (zero256_size.trans HP1.out.symm) HP2.out ?_); refine forget (p := fun wx => wpList _ _ _ _ _ wx) (fun wx => Kp NoB w2 wx ∧ Blk wx w2.heap.size 26 zero256) ⟨((Kp.refl _ _).alloc _).setRow (.inl (Nat.le_refl _)) _, (Blk.new _ _ _).row _⟩ ?_; rintro w3 ⟨hk3, hb3⟩; have HB3 := Lib.hid hb3; have HBr := Lib.hid (HB.out.keep hk3 (fun q => q)); have HK3 := Lib.hid (HK.out.trans hk3 (fun _ _ q => q)); have t2 := HBr.out.thereAll 256 zero256_size; have t4 := HB3.out.thereAll 256 HP1.out; have r4 := HB3.out.readAll 256 HP1.out; have p1 := HP1.out; have p2 := HP2.out; clear hk3 hb3))
    refine bodyPost_ret (ret_cell_tmp rfl _ _ _ _ _ _ rfl (HBr.out.whole zero256 (zero256_size.trans HP1.out.symm)) Try.underlying26 rfl (by rw [HP1.out]; exact info26) _ rfl) rfl ?_
    exact ⟨by rw [HT.out]; rfl, Kp.setCells (.inl (by omega)) _ _ _ HK3.out⟩
  · have HR := Lib.hid (show layR kind link xs = ((bytesV (layI kind link xs)), true) from (if_neg hr))
    have HT := Lib.hid (show toldR kind link xs = ((bytesV (layI kind link xs)), 0) from (if_neg hr))
    have HP1 : Hid ((bytesV (layI kind link xs)).size = 256) := Lib.hid (by have := layR_size kind link xs; rw [HR.out] at this; exact this)
    have HP2 : Hid (ones (bytesV (layI kind link xs))) := Lib.hid (by have := layR_one kind link xs; rw [HR.out] at this; exact this)
    clear hr
    go_enter Try.func31, Try.ntmps31
    go_wp2_with (first
      | (go_at_call 38; go_must (refine (lay_ok _ kind link A n cap xs hn H6.out HS.out).mono ?_); rintro e w2 hq; unfold LayPost at hq; rw [HR.out] at hq; obtain ⟨rfl, hk2⟩ := hq; have HB := Lib.hid (HB2.out.keep hk2 (fun q => q)); have HK := Lib.hid ((((Kp.refl NoB w).alloc _).alloc _).trans hk2 (fun _ _ q => q)); clear hk2)
      | (show wpList _ _ _ (⟨none, .store _ (.tmp 4) _, _, _, _, _⟩ :: _) _ _; go_must (refine wpList_store_row rfl 26 (.tmp 4) _ rfl w2.heap.size (bytesV (layI kind link xs)) rfl rfl 26 _ (heap_alloc_new _ _) (by rw [HP1.out]; exact info26) (zero256_size.trans HP1.out.symm) HP2.out ?_); refine forget (p := fun wx => wpList _ _ _ _ _ wx) (fun wx => Kp NoB w2 wx ∧ Blk wx w2.heap.size 26 (bytesV (layI kind link xs))) ⟨((Kp.refl _ _).alloc _).setRow (.inl (Nat.le_refl _)) _, (Blk.new _ _ _).row _⟩ ?_; rintro w3 ⟨hk3, hb3⟩; have HB3 := Lib.hid hb3; have HBr := Lib.hid (HB.out.keep hk3 (fun q => q)); have HK3 := Lib.hid (HK.out.trans hk3 (fun _ _ q => q)); have t2 := HBr.out.thereAll 256 zero256_size; have t4 := HB3.out.thereAll 256 HP1.out; have r4 := HB3.out.readAll 256 HP1.out; have p1 := HP1.out; have p2 := HP2.out; clear hk3 hb3))
    refine bodyPost_ret (ret_cell_tmp rfl _ _ _ _ _ _ rfl (HBr.out.whole (bytesV (layI kind link xs)) (zero256_size.trans HP1.out.symm)) Try.underlying26 rfl (by rw [HP1.out]; exact info26) _ rfl) rfl ?_
    exact ⟨by rw [HT.out]; rfl, Kp.setCells (.inl (by omega)) _ _ _ HK3.out⟩

/-- may a cell be? -/
def cellE (c : ByteArray) : Int := if c.size = 0 then 2 else if 60 < c.size then 3 else 0
theorem isEmpty_size (c : ByteArray) : c.toList.isEmpty = decide (c.size = 0) := by
  have h : c.toList = c.data.toList := ByteArray.toList_eq c
  rw [h]
  have : c.size = c.data.toList.length := by simp
  rw [this]
  cases c.data.toList <;> simp
theorem cell_ok (w : World) (c : ByteArray) (hc : c.size ≤ 9223372036854775807) : Calls Try.prog 30 #[.string c] w fun e w' => e = .returned (.int .i64 (cellE c)) ∧ w = w' := by
  by_cases h0 : c.size = 0
  · have HE := Lib.hid (show cellE c = 2 from if_pos h0)
    have he : c.toList.isEmpty = true := by rw [isEmpty_size]; simp [h0]
    clear h0
    go_enter Try.func30, Try.ntmps30
    go_wp2
    go_ret
    exact ⟨ret_int HE.out.symm, rfl⟩
  · have he : c.toList.isEmpty = false := by rw [isEmpty_size]; simp [h0]
    by_cases h6 : 60 < c.size
    · have HE := Lib.hid (show cellE c = 3 by unfold cellE; rw [if_neg h0, if_pos h6])
      have hz : (60 : Int) < (c.size : Int) := by omega
      clear h0 h6
      go_enter Try.func30, Try.ntmps30
      go_wp2
      go_ret
      exact ⟨ret_int HE.out.symm, rfl⟩
    · have HE := Lib.hid (show cellE c = 0 by unfold cellE; rw [if_neg h0, if_neg h6])
      have hz : (c.size : Int) ≤ 60 := by omega
      clear h0 h6
      go_enter Try.func30, Try.ntmps30
      go_wp2
      go_ret
      exact ⟨ret_int HE.out.symm, rfl⟩
end Go.Proofs.Ytnleoeogcinadaa
