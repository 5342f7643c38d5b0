/- PageReads: the walk of the law; no condition. -/
import Derived.Test.YtnleoeogcinadaaPgA
import Derived.Test.YtnleoeogcinadaaPgGone
import Derived.Test.YtnleoeogcinadaaPgRefG
import Derived.Test.YtnleoeogcinadaaInto4
namespace Go.Proofs.Ytnleoeogcinadaa
open Go.RowKit
attribute [local go_sem ↓] load26 store26 alloc26 build26 slice26lo load34 store34 eql26 neq26
attribute [local go_sem] size_setCells

/-- what is known behind the reading -/
structure RS (w : World) (l : List Int) (g9 : Nat) (is : Bool) (kd lk : Int) (A : Option Addr) (n cap : Nat) (cs : List ByteArray) (W : World) : Prop where
  k : Kp NoB w W
  b3 : Blk W w.heap.size 26 (bytesV l)
  b9 : Blk W g9 34 (rBody4 is kd lk A n cap)
  sl : Sl W A n cs
theorem RS.keep {w : World} {l : List Int} {g9 : Nat} {is : Bool} {kd lk : Int} {A : Option Addr} {n cap : Nat} {cs : List ByteArray} {W W' : World} (h : RS w l g9 is kd lk A n cap cs W) (k : Kp NoB W W') : RS w l g9 is kd lk A n cap cs W' :=
  ⟨h.k.trans k (fun _ _ q => q), h.b3.keep k (fun q => q), h.b9.keep k (fun q => q), h.sl.keep k⟩
def RSp (w : World) (l : List Int) (g9 : Nat) (kd lk : Int) (A : Option Addr) (n cap : Nat) (W : World) : Prop :=
  W.rangeAt w.heap.size 0 (l.map (Value.int .u8)) ∧ W.cell? ⟨g9, 1, none⟩ = some (.int .i64 kd) ∧ W.cell? ⟨g9, 2, none⟩ = some (.int .u32 lk) ∧ W.cell? ⟨g9, 3, none⟩ = some (.slice A n cap)
theorem RS.sp {w : World} {l : List Int} {g9 : Nat} {is : Bool} {kd lk : Int} {A : Option Addr} {n cap : Nat} {cs : List ByteArray} {W : World} (h : RS w l g9 is kd lk A n cap cs W) : RSp w l g9 kd lk A n cap W :=
  ⟨Blk.range (xa := []) (xd := []) (by rw [List.nil_append, List.append_nil]; exact h.b3) 0 rfl, h.b9.cell 1, h.b9.cell 2, h.b9.cell 3⟩
theorem slAt {w : World} {g o n : Nat} {cs : List ByteArray} (h : Sl w (some ⟨g, o, none⟩) n cs) {j : Nat} (hj : j < n) {s : ByteArray} (hs : cs.getD j ByteArray.empty = s) : w.cell? ⟨g, o + j, none⟩ = some (.string s) := by
  obtain ⟨g', o', e, _, hc⟩ := h.2 (by omega)
  cases e
  rw [hc j hj, hs]
theorem none_facts : checkF none = 8 ∧ kindF none = 0 ∧ linkF none = 0 ∧ countF none = ((0 : Nat) : Int) ∧ roomF none = 0 ∧ cellsF none = [] := ⟨rfl, rfl, rfl, rfl, rfl, rfl⟩

set_option maxRecDepth 100000 in
set_option maxHeartbeats 8000000 in
theorem reads_ok (w : World) (l : List Int) (hB : Bytes l) (i early : Int) :
    Calls Try.prog 4 #[.agg (bytesV l), .int .i64 i, .int .i64 early] w fun e w' => e = .returned (.bool true) ∧ Kp NoB w w' := by
  have HB := Lib.hid hB
  have l256 := hB.len
  have hi1 : (Try.prog.info? 26).map (·.size) = some (l.map (Value.int .u8)).length := by rw [List.length_map, hB.len]; exact info26
  have hu26 := Try.underlying26
  have hb0 := Blk.new w 26 (bytesV l)
  have HB0 := Lib.hid hb0
  have t1 := hb0.thereAll 256 (by rw [bytesV_size]; exact l256)
  have r1 := hb0.readAll 256 (by rw [bytesV_size]; exact l256)
  obtain ⟨cv, ce, hcv⟩ : ∃ cv ce, cellF (readF l) i = (cv, ce) := ⟨_, _, rfl⟩
  have HCV := Lib.hid hcv
  clear hB hb0 hcv
  rcases hr : readF l with _ | ⟨k, lk, cs⟩
  · have HR := Lib.hid hr
    clear hr
    go_enter Try.func4, Try.ntmps4
    go_wp2_with (first
      | (have hG := HB0; clear hG; go_at_call 11; go_must (refine (rread4 _ l HB.out).mono ?_); rintro e w2 ⟨v, rfl, hf, hk⟩; have HF := Lib.hid hf; rw [HR.out] at hf; obtain rfl := hf; have hsl : Sl w2 none 0 [] := ⟨rfl, fun h => absurd h (by omega)⟩; obtain ⟨th9, kk, hb9, hs9⟩ := after19 w2 w2.heap.size (rBody4 false 0 0 none 0 0) rfl rfl; have s9 : (rBody4 false 0 0 none 0 0).size = 4 := rfl; have o9 : ones (rBody4 false 0 0 none 0 0) := body4_one _ _ _ _ _ _; have hkk := hk.trans kk (fun _ _ q => q); have HRS := Lib.hid (show RS w l w2.heap.size false 0 0 none 0 0 [] _ from ⟨((Kp.refl NoB w).alloc _).trans hkk (fun _ _ q => q), HB0.out.keep hkk (fun q => q), hb9, hsl.keep kk⟩); have c90 := cellAt (v := .bool false) HRS.out.b9 0 rfl; have t9 := HRS.out.b9.thereAll 4 rfl; have r9 := HRS.out.b9.readAll 4 rfl; clear hk kk hb9 hs9 hkk hsl HB0 t1 r1)
      | (go_at_call 12; go_must (refine (rroom_ok _ false 0 0 none 0 0 [] (by omega) (fun c h => absurd h (by simp)) HRS.out.sl).mono ?_); rintro e w3 ⟨rfl, hk3⟩; have HR3 := Lib.hid (HRS.out.keep hk3); have c90b := cellAt (v := .bool false) HR3.out.b9 0 rfl; clear hk3))
    have h0 := HR3.out.keep (Kp.refl NoB w3).drew
    generalize w2.heap.size = g9 at h0 ⊢
    clear th9 t9 r9 c90 c90b HRS HR3
    have hwr : IntKind.i64.wrap 0 = 0 := by rw [IntKind.wrap_i64]; omega
    refine wp_region_held_drew (S := (RSp w l g9 0 0 none 0 0)) (by kernel_rfl) h0.sp (fun hHeld => ?_)
    generalize w3.drew = W0 at h0 hHeld ⊢
    refine wpAnyH_takeL (i := 0) (v := .agg (bytesV l)) rfl (by kernel_rfl) (by kernel_rfl) (by kernel_rfl) (fun _ _ _ h => h) (yieldsIf_load_mid (by rfl) _ _ rfl _ _ rfl (l.map (Value.int .u8)) _ (fun _ q => q.1) hu26 rfl hi1) h0.sp ?_
    simp only [Act.put, List.setIfInBounds_toArray, List.set_cons_zero, List.set_cons_succ]
    refine wpAnyH_takeL (i := 2) (v := (.int .i64 8)) rfl (by kernel_rfl) (by kernel_rfl) (by kernel_rfl) (fun _ _ _ h => h) (Or.inl ⟨by rfl, fun w' hq => by obtain ⟨q1, q2, q3, q4⟩ := hq; go_simp⟩) h0.sp ?_
    simp only [Act.put, List.setIfInBounds_toArray, List.set_cons_zero, List.set_cons_succ]
    refine wpAnyH_ready (rs := [1]) (by kernel_rfl) (by simp) ?_
    refine AllReadyH.callR (fun x W' => x = (.int .i64 8) ∧ RS w l g9 false 0 0 none 0 0 [] W') rfl (by rfl) 13 #[.agg (bytesV l)] (by go_simp) (fun _ _ q => q.2.sp) ((Check_ok W0 l HB.out).mono (by rintro e w9 ⟨rfl, hk⟩; exact ⟨_, rfl, by rw [HR.out]; rfl, h0.keep hk⟩)) ?_ AllReadyH.nil
    rintro _ W1 ⟨rfl, h1⟩
    simp only [Act.put, List.setIfInBounds_toArray, List.set_cons_zero, List.set_cons_succ]
    refine wpAnyH_takeL (i := 3) (v := (.bool false)) rfl (by kernel_rfl) (by kernel_rfl) (by kernel_rfl) (fun _ _ _ h => h) (Or.inl ⟨by rfl, fun w' hq => by obtain ⟨q1, q2, q3, q4⟩ := hq; go_simp⟩) h1.sp ?_
    simp only [Act.put, List.setIfInBounds_toArray, List.set_cons_zero, List.set_cons_succ]
    refine wpAnyH_takeL (i := 4) (v := (.bool false)) rfl (by kernel_rfl) (by kernel_rfl) (by kernel_rfl) (fun _ _ _ h => h) (Or.inl ⟨by rfl, fun w' hq => by obtain ⟨q1, q2, q3, q4⟩ := hq; go_simp⟩) h1.sp ?_
    simp only [Act.put, List.setIfInBounds_toArray, List.set_cons_zero, List.set_cons_succ]
    refine wpAnyH_takeL (i := 5) (v := .agg (bytesV l)) rfl (by kernel_rfl) (by kernel_rfl) (by kernel_rfl) (fun _ _ _ h => h) (yieldsIf_load_mid (by rfl) _ _ rfl _ _ rfl (l.map (Value.int .u8)) _ (fun _ q => q.1) hu26 rfl hi1) h1.sp ?_
    simp only [Act.put, List.setIfInBounds_toArray, List.set_cons_zero, List.set_cons_succ]
    refine wpAnyH_takeL (i := 8) (v := (.pointer (some ⟨g9, 1, none⟩))) rfl (by kernel_rfl) (by kernel_rfl) (by kernel_rfl) (fun _ _ _ h => h) (Or.inl ⟨by rfl, fun w' hq => by obtain ⟨q1, q2, q3, q4⟩ := hq; go_simp⟩) h1.sp ?_
    simp only [Act.put, List.setIfInBounds_toArray, List.set_cons_zero, List.set_cons_succ]
    refine wpAnyH_takeL (i := 9) (v := (.int .i64 0)) rfl (by kernel_rfl) (by kernel_rfl) (by kernel_rfl) (fun _ _ _ h => h) (Or.inl ⟨by rfl, fun w' hq => by obtain ⟨q1, q2, q3, q4⟩ := hq; go_simp⟩) h1.sp ?_
    simp only [Act.put, List.setIfInBounds_toArray, List.set_cons_zero, List.set_cons_succ]
    refine wpAnyH_ready (rs := [6]) (by kernel_rfl) (by simp) ?_
    refine AllReadyH.callR (fun x W' => x = (.int .u8 0) ∧ RS w l g9 false 0 0 none 0 0 [] W') rfl (by rfl) 14 #[.agg (bytesV l)] (by go_simp) (fun _ _ q => q.2.sp) ((Kind_ok W1 l HB.out).mono (by rintro e w9 ⟨rfl, hk⟩; exact ⟨_, rfl, by rw [HR.out]; rfl, h1.keep hk⟩)) ?_ AllReadyH.nil
    rintro _ W2 ⟨rfl, h2⟩
    simp only [Act.put, List.setIfInBounds_toArray, List.set_cons_zero, List.set_cons_succ]
    refine wpAnyH_takeL (i := 7) (v := (.int .i64 0)) rfl (by kernel_rfl) (by kernel_rfl) (by kernel_rfl) (fun _ _ _ h => h) (Or.inl ⟨by rfl, fun w' hq => by obtain ⟨q1, q2, q3, q4⟩ := hq; go_simp⟩) h2.sp ?_
    simp only [Act.put, List.setIfInBounds_toArray, List.set_cons_zero, List.set_cons_succ]
    refine wpAnyH_takeL (i := 10) (v := (.bool false)) rfl (by kernel_rfl) (by kernel_rfl) (by kernel_rfl) (fun _ _ _ h => h) (Or.inl ⟨by rfl, fun w' hq => by obtain ⟨q1, q2, q3, q4⟩ := hq; go_simp⟩) h2.sp ?_
    simp only [Act.put, List.setIfInBounds_toArray, List.set_cons_zero, List.set_cons_succ]
    refine wpAnyH_takeL (i := 11) (v := (.bool false)) rfl (by kernel_rfl) (by kernel_rfl) (by kernel_rfl) (fun _ _ _ h => h) (Or.inl ⟨by rfl, fun w' hq => by obtain ⟨q1, q2, q3, q4⟩ := hq; go_simp⟩) h2.sp ?_
    simp only [Act.put, List.setIfInBounds_toArray, List.set_cons_zero, List.set_cons_succ]
    refine wpAnyH_takeL (i := 12) (v := (.bool false)) rfl (by kernel_rfl) (by kernel_rfl) (by kernel_rfl) (fun _ _ _ h => h) (Or.inl ⟨by rfl, fun w' hq => by obtain ⟨q1, q2, q3, q4⟩ := hq; go_simp⟩) h2.sp ?_
    simp only [Act.put, List.setIfInBounds_toArray, List.set_cons_zero, List.set_cons_succ]
    refine wpAnyH_takeL (i := 13) (v := .agg (bytesV l)) rfl (by kernel_rfl) (by kernel_rfl) (by kernel_rfl) (fun _ _ _ h => h) (yieldsIf_load_mid (by rfl) _ _ rfl _ _ rfl (l.map (Value.int .u8)) _ (fun _ q => q.1) hu26 rfl hi1) h2.sp ?_
    simp only [Act.put, List.setIfInBounds_toArray, List.set_cons_zero, List.set_cons_succ]
    refine wpAnyH_takeL (i := 15) (v := (.pointer (some ⟨g9, 3, none⟩))) rfl (by kernel_rfl) (by kernel_rfl) (by kernel_rfl) (fun _ _ _ h => h) (Or.inl ⟨by rfl, fun w' hq => by obtain ⟨q1, q2, q3, q4⟩ := hq; go_simp⟩) h2.sp ?_
    simp only [Act.put, List.setIfInBounds_toArray, List.set_cons_zero, List.set_cons_succ]
    refine wpAnyH_takeL (i := 16) (v := (.slice none 0 0)) rfl (by kernel_rfl) (by kernel_rfl) (by kernel_rfl) (fun _ _ _ h => h) (Or.inl ⟨by rfl, fun w' hq => by obtain ⟨q1, q2, q3, q4⟩ := hq; go_simp⟩) h2.sp ?_
    simp only [Act.put, List.setIfInBounds_toArray, List.set_cons_zero, List.set_cons_succ]
    refine wpAnyH_takeL (i := 17) (v := (.int .i64 (0 : Nat))) rfl (by kernel_rfl) (by kernel_rfl) (by kernel_rfl) (fun _ _ _ h => h) (Or.inl ⟨by rfl, fun w' hq => by obtain ⟨q1, q2, q3, q4⟩ := hq; go_simp⟩) h2.sp ?_
    simp only [Act.put, List.setIfInBounds_toArray, List.set_cons_zero, List.set_cons_succ]
    refine wpAnyH_ready (rs := [14]) (by kernel_rfl) (by simp) ?_
    refine AllReadyH.callR (fun x W' => x = (.int .i64 (0 : Nat)) ∧ RS w l g9 false 0 0 none 0 0 [] W') rfl (by rfl) 15 #[.agg (bytesV l)] (by go_simp) (fun _ _ q => q.2.sp) ((Count_ok W2 l HB.out).mono (by rintro e w9 ⟨rfl, hk⟩; exact ⟨_, rfl, by rw [HR.out]; rfl, h2.keep hk⟩)) ?_ AllReadyH.nil
    rintro _ W3 ⟨rfl, h3⟩
    simp only [Act.put, List.setIfInBounds_toArray, List.set_cons_zero, List.set_cons_succ]
    refine wpAnyH_takeL (i := 18) (v := (.bool false)) rfl (by kernel_rfl) (by kernel_rfl) (by kernel_rfl) (fun _ _ _ h => h) (Or.inl ⟨by rfl, fun w' hq => by obtain ⟨q1, q2, q3, q4⟩ := hq; go_simp⟩) h3.sp ?_
    simp only [Act.put, List.setIfInBounds_toArray, List.set_cons_zero, List.set_cons_succ]
    refine wpAnyH_takeL (i := 19) (v := (.bool false)) rfl (by kernel_rfl) (by kernel_rfl) (by kernel_rfl) (fun _ _ _ h => h) (Or.inl ⟨by rfl, fun w' hq => by obtain ⟨q1, q2, q3, q4⟩ := hq; go_simp⟩) h3.sp ?_
    simp only [Act.put, List.setIfInBounds_toArray, List.set_cons_zero, List.set_cons_succ]
    refine wpAnyH_takeL (i := 20) (v := (.bool false)) rfl (by kernel_rfl) (by kernel_rfl) (by kernel_rfl) (fun _ _ _ h => h) (Or.inl ⟨by rfl, fun w' hq => by obtain ⟨q1, q2, q3, q4⟩ := hq; go_simp⟩) h3.sp ?_
    simp only [Act.put, List.setIfInBounds_toArray, List.set_cons_zero, List.set_cons_succ]
    refine wpAnyH_takeL (i := 21) (v := .agg (bytesV l)) rfl (by kernel_rfl) (by kernel_rfl) (by kernel_rfl) (fun _ _ _ h => h) (yieldsIf_load_mid (by rfl) _ _ rfl _ _ rfl (l.map (Value.int .u8)) _ (fun _ q => q.1) hu26 rfl hi1) h3.sp ?_
    simp only [Act.put, List.setIfInBounds_toArray, List.set_cons_zero, List.set_cons_succ]
    refine wpAnyH_takeL (i := 23) (v := (.pointer (some ⟨g9, 2, none⟩))) rfl (by kernel_rfl) (by kernel_rfl) (by kernel_rfl) (fun _ _ _ h => h) (Or.inl ⟨by rfl, fun w' hq => by obtain ⟨q1, q2, q3, q4⟩ := hq; go_simp⟩) h3.sp ?_
    simp only [Act.put, List.setIfInBounds_toArray, List.set_cons_zero, List.set_cons_succ]
    refine wpAnyH_takeL (i := 24) (v := (.int .u32 0)) rfl (by kernel_rfl) (by kernel_rfl) (by kernel_rfl) (fun _ _ _ h => h) (Or.inl ⟨by rfl, fun w' hq => by obtain ⟨q1, q2, q3, q4⟩ := hq; go_simp⟩) h3.sp ?_
    simp only [Act.put, List.setIfInBounds_toArray, List.set_cons_zero, List.set_cons_succ]
    refine wpAnyH_ready (rs := [22]) (by kernel_rfl) (by simp) ?_
    refine AllReadyH.callR (fun x W' => x = (.int .u32 0) ∧ RS w l g9 false 0 0 none 0 0 [] W') rfl (by rfl) 16 #[.agg (bytesV l)] (by go_simp) (fun _ _ q => q.2.sp) ((Link_ok W3 l HB.out).mono (by rintro e w9 ⟨rfl, hk⟩; exact ⟨_, rfl, by rw [HR.out]; rfl, h3.keep hk⟩)) ?_ AllReadyH.nil
    rintro _ W4 ⟨rfl, h4⟩
    simp only [Act.put, List.setIfInBounds_toArray, List.set_cons_zero, List.set_cons_succ]
    refine wpAnyH_takeL (i := 25) (v := (.bool false)) rfl (by kernel_rfl) (by kernel_rfl) (by kernel_rfl) (fun _ _ _ h => h) (Or.inl ⟨by rfl, fun w' hq => by obtain ⟨q1, q2, q3, q4⟩ := hq; go_simp⟩) h4.sp ?_
    simp only [Act.put, List.setIfInBounds_toArray, List.set_cons_zero, List.set_cons_succ]
    refine wpAnyH_takeL (i := 26) (v := (.bool false)) rfl (by kernel_rfl) (by kernel_rfl) (by kernel_rfl) (fun _ _ _ h => h) (Or.inl ⟨by rfl, fun w' hq => by obtain ⟨q1, q2, q3, q4⟩ := hq; go_simp⟩) h4.sp ?_
    simp only [Act.put, List.setIfInBounds_toArray, List.set_cons_zero, List.set_cons_succ]
    refine wpAnyH_takeL (i := 27) (v := (.bool false)) rfl (by kernel_rfl) (by kernel_rfl) (by kernel_rfl) (fun _ _ _ h => h) (Or.inl ⟨by rfl, fun w' hq => by obtain ⟨q1, q2, q3, q4⟩ := hq; go_simp⟩) h4.sp ?_
    simp only [Act.put, List.setIfInBounds_toArray, List.set_cons_zero, List.set_cons_succ]
    refine wpAnyH_takeL (i := 28) (v := .agg (bytesV l)) rfl (by kernel_rfl) (by kernel_rfl) (by kernel_rfl) (fun _ _ _ h => h) (yieldsIf_load_mid (by rfl) _ _ rfl _ _ rfl (l.map (Value.int .u8)) _ (fun _ q => q.1) hu26 rfl hi1) h4.sp ?_
    simp only [Act.put, List.setIfInBounds_toArray, List.set_cons_zero, List.set_cons_succ]
    refine wpAnyH_takeL (i := 30) (v := (.int .i64 0)) rfl (by kernel_rfl) (by kernel_rfl) (by kernel_rfl) (fun _ _ _ h => h) (Or.inl ⟨by rfl, fun w' hq => by obtain ⟨q1, q2, q3, q4⟩ := hq; go_simp⟩) h4.sp ?_
    simp only [Act.put, List.setIfInBounds_toArray, List.set_cons_zero, List.set_cons_succ]
    refine wpAnyH_ready (rs := [29]) (by kernel_rfl) (by simp) ?_
    refine AllReadyH.callR (fun x W' => x = (.int .i64 0) ∧ RS w l g9 false 0 0 none 0 0 [] W') rfl (by rfl) 17 #[.agg (bytesV l)] (by go_simp) (fun _ _ q => q.2.sp) ((Room_ok W4 l HB.out).mono (by rintro e w9 ⟨rfl, hk⟩; exact ⟨_, rfl, by rw [HR.out]; rfl, h4.keep hk⟩)) ?_ AllReadyH.nil
    rintro _ W5 ⟨rfl, h5⟩
    simp only [Act.put, List.setIfInBounds_toArray, List.set_cons_zero, List.set_cons_succ]
    refine wpAnyH_takeL (i := 31) (v := (.bool false)) rfl (by kernel_rfl) (by kernel_rfl) (by kernel_rfl) (fun _ _ _ h => h) (Or.inl ⟨by rfl, fun w' hq => by obtain ⟨q1, q2, q3, q4⟩ := hq; go_simp⟩) h5.sp ?_
    simp only [Act.put, List.setIfInBounds_toArray, List.set_cons_zero, List.set_cons_succ]
    refine wpAnyH_takeL (i := 32) (v := (.bool false)) rfl (by kernel_rfl) (by kernel_rfl) (by kernel_rfl) (fun _ _ _ h => h) (Or.inl ⟨by rfl, fun w' hq => by obtain ⟨q1, q2, q3, q4⟩ := hq; go_simp⟩) h5.sp ?_
    simp only [Act.put, List.setIfInBounds_toArray, List.set_cons_zero, List.set_cons_succ]
    refine wpAnyH_done (by kernel_rfl) ?_ _
    have t3 := h5.b3.thereAll 256 (by rw [bytesV_size]; exact l256)
    have r3 := h5.b3.readAll 256 (by rw [bytesV_size]; exact l256)
    have HS5 := Lib.hid h5
    clear hHeld h0 h1 h2 h3 h4 h5
    have hc := HCV.out
    rw [HR.out] at hc
    obtain ⟨rfl, rfl⟩ := Prod.mk.inj (show ((⟨#[]⟩ : ByteArray), (8 : Int)) = (cv, ce) from hc)
    clear hc
    go_wp2_with (first
      | (go_at_call 18; go_must (refine (Cell_ok _ l HB.out _).mono ?_); rw [HCV.out]; rintro e w6 ⟨rfl, hk6⟩; have HS6 := Lib.hid (HS5.out.keep hk6); have c90 := cellAt (v := .bool false) HS6.out.b9 0 rfl; have c93 := cellAt (v := .slice none 0 0) HS6.out.b9 3 rfl; have t3b := HS6.out.b3.thereAll 256 (by rw [bytesV_size]; exact l256); have r3b := HS6.out.b3.readAll 256 (by rw [bytesV_size]; exact l256); clear hk6)
      | (go_at_call 19; go_must (refine (gone_ok _ l HB.out none 0 0 [] (by rw [HR.out]; rfl) (by simp) rfl HS6.out.sl early).mono ?_); rintro e w7 ⟨rfl, hk7⟩; have HK7 := Lib.hid hk7; clear hk7)
      | (go_at_call 8; go_must (refine (awake_ok _).mono ?_); rintro e w99 ⟨rfl, hk9⟩; have HK9 := Lib.hid hk9; clear hk9))
    go_ret
    exact ⟨rfl, (HS6.out.k.trans HK7.out (fun _ _ q => q)).trans HK9.out (fun _ _ q => q)⟩
  · have HR := Lib.hid hr
    clear hr
    have hfa := readF_facts HB.out HR.out
    have HFA := Lib.hid hfa
    have HRM := Lib.hid (readF_room HB.out HR.out)
    clear hfa
    go_enter Try.func4, Try.ntmps4
    go_wp2_with (first
      | (have hG := HB0; clear hG; go_at_call 11; go_must (refine (rread4 _ l HB.out).mono ?_); rintro e w2 ⟨v, rfl, hf, hk⟩; rw [HR.out] at hf; obtain ⟨A, cap, rfl, hsl, hnA, hform, hcap⟩ := hf.form; obtain ⟨th9, kk, hb9, hs9⟩ := after19 w2 w2.heap.size (rBody4 true k lk A cs.length cap) rfl rfl; have s9 : (rBody4 true k lk A cs.length cap).size = 4 := rfl; have o9 : ones (rBody4 true k lk A cs.length cap) := body4_one _ _ _ _ _ _; have hkk := hk.trans kk (fun _ _ q => q); have HRS := Lib.hid (show RS w l w2.heap.size true k lk A cs.length cap cs _ from ⟨((Kp.refl NoB w).alloc _).trans hkk (fun _ _ q => q), HB0.out.keep hkk (fun q => q), hb9, hsl.keep kk⟩); have c90 := cellAt (v := .bool true) HRS.out.b9 0 rfl; have t9 := HRS.out.b9.thereAll 4 rfl; have r9 := HRS.out.b9.readAll 4 rfl; clear hk kk hb9 hs9 hkk hsl HB0 t1 r1)
      | (go_at_call 12; go_must (refine (rroom_ok _ true k lk A cs.length cap cs (by have := HFA.out.1; omega) (fun c hc => (HFA.out.2.1 c hc).2) HRS.out.sl).mono ?_); rintro e w3 ⟨rfl, hk3⟩; have HR3 := Lib.hid (HRS.out.keep hk3); have c90b := cellAt (v := .bool true) HR3.out.b9 0 rfl; clear hk3))
    have h0 := HR3.out.keep (Kp.refl NoB w3).drew
    generalize w2.heap.size = g9 at h0 ⊢
    clear th9 t9 r9 c90 c90b HRS HR3
    have hwr : IntKind.i64.wrap k = k := by rw [IntKind.wrap_i64]; have := HFA.out.2.2; omega
    refine wp_region_held_drew (S := (RSp w l g9 k lk A cs.length cap)) (by kernel_rfl) h0.sp (fun hHeld => ?_)
    generalize w3.drew = W0 at h0 hHeld ⊢
    refine wpAnyH_takeL (i := 0) (v := .agg (bytesV l)) rfl (by kernel_rfl) (by kernel_rfl) (by kernel_rfl) (fun _ _ _ h => h) (yieldsIf_load_mid (by rfl) _ _ rfl _ _ rfl (l.map (Value.int .u8)) _ (fun _ q => q.1) hu26 rfl hi1) h0.sp ?_
    simp only [Act.put, List.setIfInBounds_toArray, List.set_cons_zero, List.set_cons_succ]
    refine wpAnyH_takeL (i := 2) (v := (.int .i64 0)) rfl (by kernel_rfl) (by kernel_rfl) (by kernel_rfl) (fun _ _ _ h => h) (Or.inl ⟨by rfl, fun w' hq => by obtain ⟨q1, q2, q3, q4⟩ := hq; go_simp⟩) h0.sp ?_
    simp only [Act.put, List.setIfInBounds_toArray, List.set_cons_zero, List.set_cons_succ]
    refine wpAnyH_ready (rs := [1]) (by kernel_rfl) (by simp) ?_
    refine AllReadyH.callR (fun x W' => x = (.int .i64 0) ∧ RS w l g9 true k lk A cs.length cap cs W') rfl (by rfl) 13 #[.agg (bytesV l)] (by go_simp) (fun _ _ q => q.2.sp) ((Check_ok W0 l HB.out).mono (by rintro e w9 ⟨rfl, hk⟩; exact ⟨_, rfl, by rw [HR.out]; rfl, h0.keep hk⟩)) ?_ AllReadyH.nil
    rintro _ W1 ⟨rfl, h1⟩
    simp only [Act.put, List.setIfInBounds_toArray, List.set_cons_zero, List.set_cons_succ]
    refine wpAnyH_takeL (i := 3) (v := (.bool false)) rfl (by kernel_rfl) (by kernel_rfl) (by kernel_rfl) (fun _ _ _ h => h) (Or.inl ⟨by rfl, fun w' hq => by obtain ⟨q1, q2, q3, q4⟩ := hq; go_simp⟩) h1.sp ?_
    simp only [Act.put, List.setIfInBounds_toArray, List.set_cons_zero, List.set_cons_succ]
    refine wpAnyH_takeL (i := 4) (v := (.bool false)) rfl (by kernel_rfl) (by kernel_rfl) (by kernel_rfl) (fun _ _ _ h => h) (Or.inl ⟨by rfl, fun w' hq => by obtain ⟨q1, q2, q3, q4⟩ := hq; go_simp⟩) h1.sp ?_
    simp only [Act.put, List.setIfInBounds_toArray, List.set_cons_zero, List.set_cons_succ]
    refine wpAnyH_takeL (i := 5) (v := .agg (bytesV l)) rfl (by kernel_rfl) (by kernel_rfl) (by kernel_rfl) (fun _ _ _ h => h) (yieldsIf_load_mid (by rfl) _ _ rfl _ _ rfl (l.map (Value.int .u8)) _ (fun _ q => q.1) hu26 rfl hi1) h1.sp ?_
    simp only [Act.put, List.setIfInBounds_toArray, List.set_cons_zero, List.set_cons_succ]
    refine wpAnyH_takeL (i := 8) (v := (.pointer (some ⟨g9, 1, none⟩))) rfl (by kernel_rfl) (by kernel_rfl) (by kernel_rfl) (fun _ _ _ h => h) (Or.inl ⟨by rfl, fun w' hq => by obtain ⟨q1, q2, q3, q4⟩ := hq; go_simp⟩) h1.sp ?_
    simp only [Act.put, List.setIfInBounds_toArray, List.set_cons_zero, List.set_cons_succ]
    refine wpAnyH_takeL (i := 9) (v := (.int .i64 k)) rfl (by kernel_rfl) (by kernel_rfl) (by kernel_rfl) (fun _ _ _ h => h) (Or.inl ⟨by rfl, fun w' hq => by obtain ⟨q1, q2, q3, q4⟩ := hq; go_simp⟩) h1.sp ?_
    simp only [Act.put, List.setIfInBounds_toArray, List.set_cons_zero, List.set_cons_succ]
    refine wpAnyH_ready (rs := [6]) (by kernel_rfl) (by simp) ?_
    refine AllReadyH.callR (fun x W' => x = (.int .u8 k) ∧ RS w l g9 true k lk A cs.length cap cs W') rfl (by rfl) 14 #[.agg (bytesV l)] (by go_simp) (fun _ _ q => q.2.sp) ((Kind_ok W1 l HB.out).mono (by rintro e w9 ⟨rfl, hk⟩; exact ⟨_, rfl, by rw [HR.out]; rfl, h1.keep hk⟩)) ?_ AllReadyH.nil
    rintro _ W2 ⟨rfl, h2⟩
    simp only [Act.put, List.setIfInBounds_toArray, List.set_cons_zero, List.set_cons_succ]
    refine wpAnyH_takeL (i := 7) (v := (.int .i64 k)) rfl (by kernel_rfl) (by kernel_rfl) (by kernel_rfl) (fun _ _ _ h => h) (Or.inl ⟨by rfl, fun w' hq => by obtain ⟨q1, q2, q3, q4⟩ := hq; go_simp⟩) h2.sp ?_
    simp only [Act.put, List.setIfInBounds_toArray, List.set_cons_zero, List.set_cons_succ]
    refine wpAnyH_takeL (i := 10) (v := (.bool false)) rfl (by kernel_rfl) (by kernel_rfl) (by kernel_rfl) (fun _ _ _ h => h) (Or.inl ⟨by rfl, fun w' hq => by obtain ⟨q1, q2, q3, q4⟩ := hq; go_simp⟩) h2.sp ?_
    simp only [Act.put, List.setIfInBounds_toArray, List.set_cons_zero, List.set_cons_succ]
    refine wpAnyH_takeL (i := 11) (v := (.bool false)) rfl (by kernel_rfl) (by kernel_rfl) (by kernel_rfl) (fun _ _ _ h => h) (Or.inl ⟨by rfl, fun w' hq => by obtain ⟨q1, q2, q3, q4⟩ := hq; go_simp⟩) h2.sp ?_
    simp only [Act.put, List.setIfInBounds_toArray, List.set_cons_zero, List.set_cons_succ]
    refine wpAnyH_takeL (i := 12) (v := (.bool false)) rfl (by kernel_rfl) (by kernel_rfl) (by kernel_rfl) (fun _ _ _ h => h) (Or.inl ⟨by rfl, fun w' hq => by obtain ⟨q1, q2, q3, q4⟩ := hq; go_simp⟩) h2.sp ?_
    simp only [Act.put, List.setIfInBounds_toArray, List.set_cons_zero, List.set_cons_succ]
    refine wpAnyH_takeL (i := 13) (v := .agg (bytesV l)) rfl (by kernel_rfl) (by kernel_rfl) (by kernel_rfl) (fun _ _ _ h => h) (yieldsIf_load_mid (by rfl) _ _ rfl _ _ rfl (l.map (Value.int .u8)) _ (fun _ q => q.1) hu26 rfl hi1) h2.sp ?_
    simp only [Act.put, List.setIfInBounds_toArray, List.set_cons_zero, List.set_cons_succ]
    refine wpAnyH_takeL (i := 15) (v := (.pointer (some ⟨g9, 3, none⟩))) rfl (by kernel_rfl) (by kernel_rfl) (by kernel_rfl) (fun _ _ _ h => h) (Or.inl ⟨by rfl, fun w' hq => by obtain ⟨q1, q2, q3, q4⟩ := hq; go_simp⟩) h2.sp ?_
    simp only [Act.put, List.setIfInBounds_toArray, List.set_cons_zero, List.set_cons_succ]
    refine wpAnyH_takeL (i := 16) (v := (.slice A cs.length cap)) rfl (by kernel_rfl) (by kernel_rfl) (by kernel_rfl) (fun _ _ _ h => h) (Or.inl ⟨by rfl, fun w' hq => by obtain ⟨q1, q2, q3, q4⟩ := hq; go_simp⟩) h2.sp ?_
    simp only [Act.put, List.setIfInBounds_toArray, List.set_cons_zero, List.set_cons_succ]
    refine wpAnyH_takeL (i := 17) (v := (.int .i64 (cs.length : Nat))) rfl (by kernel_rfl) (by kernel_rfl) (by kernel_rfl) (fun _ _ _ h => h) (Or.inl ⟨by rfl, fun w' hq => by obtain ⟨q1, q2, q3, q4⟩ := hq; go_simp⟩) h2.sp ?_
    simp only [Act.put, List.setIfInBounds_toArray, List.set_cons_zero, List.set_cons_succ]
    refine wpAnyH_ready (rs := [14]) (by kernel_rfl) (by simp) ?_
    refine AllReadyH.callR (fun x W' => x = (.int .i64 (cs.length : Nat)) ∧ RS w l g9 true k lk A cs.length cap cs W') rfl (by rfl) 15 #[.agg (bytesV l)] (by go_simp) (fun _ _ q => q.2.sp) ((Count_ok W2 l HB.out).mono (by rintro e w9 ⟨rfl, hk⟩; exact ⟨_, rfl, by rw [HR.out]; rfl, h2.keep hk⟩)) ?_ AllReadyH.nil
    rintro _ W3 ⟨rfl, h3⟩
    simp only [Act.put, List.setIfInBounds_toArray, List.set_cons_zero, List.set_cons_succ]
    refine wpAnyH_takeL (i := 18) (v := (.bool false)) rfl (by kernel_rfl) (by kernel_rfl) (by kernel_rfl) (fun _ _ _ h => h) (Or.inl ⟨by rfl, fun w' hq => by obtain ⟨q1, q2, q3, q4⟩ := hq; go_simp⟩) h3.sp ?_
    simp only [Act.put, List.setIfInBounds_toArray, List.set_cons_zero, List.set_cons_succ]
    refine wpAnyH_takeL (i := 19) (v := (.bool false)) rfl (by kernel_rfl) (by kernel_rfl) (by kernel_rfl) (fun _ _ _ h => h) (Or.inl ⟨by rfl, fun w' hq => by obtain ⟨q1, q2, q3, q4⟩ := hq; go_simp⟩) h3.sp ?_
    simp only [Act.put, List.setIfInBounds_toArray, List.set_cons_zero, List.set_cons_succ]
    refine wpAnyH_takeL (i := 20) (v := (.bool false)) rfl (by kernel_rfl) (by kernel_rfl) (by kernel_rfl) (fun _ _ _ h => h) (Or.inl ⟨by rfl, fun w' hq => by obtain ⟨q1, q2, q3, q4⟩ := hq; go_simp⟩) h3.sp ?_
    simp only [Act.put, List.setIfInBounds_toArray, List.set_cons_zero, List.set_cons_succ]
    refine wpAnyH_takeL (i := 21) (v := .agg (bytesV l)) rfl (by kernel_rfl) (by kernel_rfl) (by kernel_rfl) (fun _ _ _ h => h) (yieldsIf_load_mid (by rfl) _ _ rfl _ _ rfl (l.map (Value.int .u8)) _ (fun _ q => q.1) hu26 rfl hi1) h3.sp ?_
    simp only [Act.put, List.setIfInBounds_toArray, List.set_cons_zero, List.set_cons_succ]
    refine wpAnyH_takeL (i := 23) (v := (.pointer (some ⟨g9, 2, none⟩))) rfl (by kernel_rfl) (by kernel_rfl) (by kernel_rfl) (fun _ _ _ h => h) (Or.inl ⟨by rfl, fun w' hq => by obtain ⟨q1, q2, q3, q4⟩ := hq; go_simp⟩) h3.sp ?_
    simp only [Act.put, List.setIfInBounds_toArray, List.set_cons_zero, List.set_cons_succ]
    refine wpAnyH_takeL (i := 24) (v := (.int .u32 lk)) rfl (by kernel_rfl) (by kernel_rfl) (by kernel_rfl) (fun _ _ _ h => h) (Or.inl ⟨by rfl, fun w' hq => by obtain ⟨q1, q2, q3, q4⟩ := hq; go_simp⟩) h3.sp ?_
    simp only [Act.put, List.setIfInBounds_toArray, List.set_cons_zero, List.set_cons_succ]
    refine wpAnyH_ready (rs := [22]) (by kernel_rfl) (by simp) ?_
    refine AllReadyH.callR (fun x W' => x = (.int .u32 lk) ∧ RS w l g9 true k lk A cs.length cap cs W') rfl (by rfl) 16 #[.agg (bytesV l)] (by go_simp) (fun _ _ q => q.2.sp) ((Link_ok W3 l HB.out).mono (by rintro e w9 ⟨rfl, hk⟩; exact ⟨_, rfl, by rw [HR.out]; rfl, h3.keep hk⟩)) ?_ AllReadyH.nil
    rintro _ W4 ⟨rfl, h4⟩
    simp only [Act.put, List.setIfInBounds_toArray, List.set_cons_zero, List.set_cons_succ]
    refine wpAnyH_takeL (i := 25) (v := (.bool false)) rfl (by kernel_rfl) (by kernel_rfl) (by kernel_rfl) (fun _ _ _ h => h) (Or.inl ⟨by rfl, fun w' hq => by obtain ⟨q1, q2, q3, q4⟩ := hq; go_simp⟩) h4.sp ?_
    simp only [Act.put, List.setIfInBounds_toArray, List.set_cons_zero, List.set_cons_succ]
    refine wpAnyH_takeL (i := 26) (v := (.bool false)) rfl (by kernel_rfl) (by kernel_rfl) (by kernel_rfl) (fun _ _ _ h => h) (Or.inl ⟨by rfl, fun w' hq => by obtain ⟨q1, q2, q3, q4⟩ := hq; go_simp⟩) h4.sp ?_
    simp only [Act.put, List.setIfInBounds_toArray, List.set_cons_zero, List.set_cons_succ]
    refine wpAnyH_takeL (i := 27) (v := (.bool false)) rfl (by kernel_rfl) (by kernel_rfl) (by kernel_rfl) (fun _ _ _ h => h) (Or.inl ⟨by rfl, fun w' hq => by obtain ⟨q1, q2, q3, q4⟩ := hq; go_simp⟩) h4.sp ?_
    simp only [Act.put, List.setIfInBounds_toArray, List.set_cons_zero, List.set_cons_succ]
    refine wpAnyH_takeL (i := 28) (v := .agg (bytesV l)) rfl (by kernel_rfl) (by kernel_rfl) (by kernel_rfl) (fun _ _ _ h => h) (yieldsIf_load_mid (by rfl) _ _ rfl _ _ rfl (l.map (Value.int .u8)) _ (fun _ q => q.1) hu26 rfl hi1) h4.sp ?_
    simp only [Act.put, List.setIfInBounds_toArray, List.set_cons_zero, List.set_cons_succ]
    refine wpAnyH_takeL (i := 30) (v := (.int .i64 (roomI cs))) rfl (by kernel_rfl) (by kernel_rfl) (by kernel_rfl) (fun _ _ _ h => h) (Or.inl ⟨by rfl, fun w' hq => by obtain ⟨q1, q2, q3, q4⟩ := hq; go_simp⟩) h4.sp ?_
    simp only [Act.put, List.setIfInBounds_toArray, List.set_cons_zero, List.set_cons_succ]
    refine wpAnyH_ready (rs := [29]) (by kernel_rfl) (by simp) ?_
    refine AllReadyH.callR (fun x W' => x = (.int .i64 (roomI cs)) ∧ RS w l g9 true k lk A cs.length cap cs W') rfl (by rfl) 17 #[.agg (bytesV l)] (by go_simp) (fun _ _ q => q.2.sp) ((Room_ok W4 l HB.out).mono (by rintro e w9 ⟨rfl, hk⟩; exact ⟨_, rfl, by rw [HR.out]; rfl, h4.keep hk⟩)) ?_ AllReadyH.nil
    rintro _ W5 ⟨rfl, h5⟩
    simp only [Act.put, List.setIfInBounds_toArray, List.set_cons_zero, List.set_cons_succ]
    refine wpAnyH_takeL (i := 31) (v := (.bool false)) rfl (by kernel_rfl) (by kernel_rfl) (by kernel_rfl) (fun _ _ _ h => h) (Or.inl ⟨by rfl, fun w' hq => by obtain ⟨q1, q2, q3, q4⟩ := hq; go_simp⟩) h5.sp ?_
    simp only [Act.put, List.setIfInBounds_toArray, List.set_cons_zero, List.set_cons_succ]
    refine wpAnyH_takeL (i := 32) (v := (.bool false)) rfl (by kernel_rfl) (by kernel_rfl) (by kernel_rfl) (fun _ _ _ h => h) (Or.inl ⟨by rfl, fun w' hq => by obtain ⟨q1, q2, q3, q4⟩ := hq; go_simp⟩) h5.sp ?_
    simp only [Act.put, List.setIfInBounds_toArray, List.set_cons_zero, List.set_cons_succ]
    refine wpAnyH_done (by kernel_rfl) ?_ _
    have t3 := h5.b3.thereAll 256 (by rw [bytesV_size]; exact l256)
    have r3 := h5.b3.readAll 256 (by rw [bytesV_size]; exact l256)
    have HS5 := Lib.hid h5
    clear hHeld h0 h1 h2 h3 h4 h5
    have hc := HCV.out
    rw [HR.out] at hc
    rcases (show i < 0 ∨ (0 ≤ i ∧ (cs.length : Int) ≤ i) ∨ (0 ≤ i ∧ i < (cs.length : Int)) by omega) with q | ⟨q0, q⟩ | ⟨q0, q⟩
    · obtain ⟨rfl, rfl⟩ := Prod.mk.inj (show ((⟨#[]⟩ : ByteArray), (4 : Int)) = (cv, ce) from (if_pos (.inl q)).symm.trans hc)
      clear hc
      go_wp2_with (first
        | (go_at_call 18; go_must (refine (Cell_ok _ l HB.out _).mono ?_); rw [HCV.out]; rintro e w6 ⟨rfl, hk6⟩; have HS6 := Lib.hid (HS5.out.keep hk6); have c90 := cellAt (v := .bool true) HS6.out.b9 0 rfl; have c93 := cellAt (v := .slice _ cs.length cap) HS6.out.b9 3 rfl; have t3b := HS6.out.b3.thereAll 256 (by rw [bytesV_size]; exact l256); have r3b := HS6.out.b3.readAll 256 (by rw [bytesV_size]; exact l256); clear hk6)
        | (go_at_call 19; go_must (refine (gone_ok _ l HB.out _ cs.length cap cs (by rw [HR.out]; rfl) HFA.out.1 rfl HS6.out.sl early).mono ?_); rintro e w7 ⟨rfl, hk7⟩; have HK7 := Lib.hid hk7; clear hk7)
        | (go_at_call 8; go_must (refine (awake_ok _).mono ?_); rintro e w99 ⟨rfl, hk9⟩; have HK9 := Lib.hid hk9; clear hk9))
      go_ret
      exact ⟨rfl, (HS6.out.k.trans HK7.out (fun _ _ q => q)).trans HK9.out (fun _ _ q => q)⟩
    · obtain ⟨rfl, rfl⟩ := Prod.mk.inj (show ((⟨#[]⟩ : ByteArray), (4 : Int)) = (cv, ce) from (if_pos (.inr q)).symm.trans hc)
      clear hc
      go_wp2_with (first
        | (go_at_call 18; go_must (refine (Cell_ok _ l HB.out _).mono ?_); rw [HCV.out]; rintro e w6 ⟨rfl, hk6⟩; have HS6 := Lib.hid (HS5.out.keep hk6); have c90 := cellAt (v := .bool true) HS6.out.b9 0 rfl; have c93 := cellAt (v := .slice _ cs.length cap) HS6.out.b9 3 rfl; have t3b := HS6.out.b3.thereAll 256 (by rw [bytesV_size]; exact l256); have r3b := HS6.out.b3.readAll 256 (by rw [bytesV_size]; exact l256); clear hk6)
        | (go_at_call 19; go_must (refine (gone_ok _ l HB.out _ cs.length cap cs (by rw [HR.out]; rfl) HFA.out.1 rfl HS6.out.sl early).mono ?_); rintro e w7 ⟨rfl, hk7⟩; have HK7 := Lib.hid hk7; clear hk7)
        | (go_at_call 8; go_must (refine (awake_ok _).mono ?_); rintro e w99 ⟨rfl, hk9⟩; have HK9 := Lib.hid hk9; clear hk9))
      go_ret
      exact ⟨rfl, (HS6.out.k.trans HK7.out (fun _ _ q => q)).trans HK9.out (fun _ _ q => q)⟩
    · obtain ⟨j, rfl⟩ := Int.eq_ofNat_of_zero_le q0
      have qj : j < cs.length := by omega
      obtain ⟨rfl, rfl⟩ := Prod.mk.inj (show (cs.getD j ByteArray.empty, (0 : Int)) = (cv, ce) from (if_neg (by omega)).symm.trans hc)
      clear hc
      obtain ⟨g, o, hA, _, _⟩ := HS5.out.sl.2 (by omega)
      subst hA
      obtain ⟨s, hs⟩ : ∃ s, cs.getD j ByteArray.empty = s := ⟨_, rfl⟩
      rw [hs] at HCV
      have HCS := Lib.hid hs
      clear hs
      go_wp2_with (first
        | (go_at_call 18; go_must (refine (Cell_ok _ l HB.out _).mono ?_); rw [HCV.out]; rintro e w6 ⟨rfl, hk6⟩; have HS6 := Lib.hid (HS5.out.keep hk6); have c90 := cellAt (v := .bool true) HS6.out.b9 0 rfl; have c93 := cellAt (v := .slice _ cs.length cap) HS6.out.b9 3 rfl; have t3b := HS6.out.b3.thereAll 256 (by rw [bytesV_size]; exact l256); have r3b := HS6.out.b3.readAll 256 (by rw [bytesV_size]; exact l256); have cj := slAt HS6.out.sl qj HCS.out; clear hk6)
        | (go_at_call 19; go_must (refine (gone_ok _ l HB.out _ cs.length cap cs (by rw [HR.out]; rfl) HFA.out.1 rfl HS6.out.sl early).mono ?_); rintro e w7 ⟨rfl, hk7⟩; have HK7 := Lib.hid hk7; clear hk7)
        | (go_at_call 8; go_must (refine (awake_ok _).mono ?_); rintro e w99 ⟨rfl, hk9⟩; have HK9 := Lib.hid hk9; clear hk9))
      go_ret
      exact ⟨rfl, (HS6.out.k.trans HK7.out (fun _ _ q => q)).trans HK9.out (fun _ _ q => q)⟩
end Go.Proofs.Ytnleoeogcinadaa
