/- The program's Insert; no condition. -/
import Derived.Test.YtnleoeogcinadaaPgDelP
import Derived.Test.YtnleoeogcinadaaPgIns
namespace Go.Proofs.Ytnleoeogcinadaa
open Go.RowKit
attribute [local go_sem ↓] load26 store26 alloc26 build26 slice26lo load62 store62
attribute [local go_sem] size_setCells

def insF (l : List Int) (i : Int) (c : ByteArray) : Array Value × Int :=
  match readF l with
  | none => (zero256, 8)
  | some (k, lk, cs) => if cellE c ≠ 0 then (zero256, cellE c) else if i < 0 ∨ (cs.length : Int) < i then (zero256, 4) else toldR k lk (cs.take i.toNat ++ [c] ++ cs.drop i.toNat)
theorem own_blt {w : World} {base n : Nat} {v : Value} {xs : List Value} (h : w.ownsRow base 9 1 v n xs) : ∀ g, v.ownBlock = some g → g < w.heap.size ∧ base ≤ g := by
  intro g hg
  rcases h.2 with ⟨rfl, _⟩ | ⟨g', cap', cur, rfl, hb, hh, _⟩
  · cases hg
  · obtain rfl : g' = g := Option.some.inj hg
    exact ⟨lt_of_heap hh, hb⟩
set_option maxRecDepth 100000 in
set_option maxHeartbeats 4000000 in
theorem Insert_none (w : World) (l : List Int) (hB : Bytes l) (i : Int) (c : ByteArray) (hcz : c.size ≤ 9223372036854775807) (hr : readF l = none) : Calls Try.prog 24 #[.agg (bytesV l), .int .i64 i, .string c] w (PagePost w (zero256, 8)) := by
  have HB := Lib.hid hB
  have hb1 := (Blk.new w 26 (bytesV l)).alloc (.cells zero256 26)
  have hz1 : Blk ((w.alloc (.cells (bytesV l) 26)).alloc (.cells zero256 26)) (w.heap.size + 1) 26 zero256 := Blk.newAt _ _ _ _ (by simp)
  have HZ1 := Lib.hid hz1
  have t1 := hb1.thereAll 256 (by rw [bytesV_size]; exact hB.len)
  have r1 := hb1.readAll 256 (by rw [bytesV_size]; exact hB.len)
  have HR := Lib.hid hr
  have zsz := zero256_size
  have zon := zero256_one
  have on3 : ones #[.int .u8 0, .int .u32 0, .slice none 0 0] := by unfold ones; simp [Value.oneCell']
  clear hb1 hz1 hB hr
  go_enter Try.func24, Try.ntmps24
  go_wp2_with (go_at_call 32; go_must (refine (read_ok _ l HB.out).mono ?_); rintro e w2 hq; rw [HR.out] at hq; obtain ⟨hk, rfl⟩ := hq.none; have kk := Kp.setCells (S := NoB) (g := w2.heap.size) (.inl (Nat.le_refl _)) (#[.int .u8 0, .int .u32 0, .slice none 0 0] : Array Value).toList 0 _ ((Kp.refl NoB w2).alloc (.cells #[.int .u8 0, .int .u32 0, .slice none 0 0] 62)); have hb := Blk.new w2 62 #[.int .u8 0, .int .u32 0, .slice none 0 0]; have thn := hb.thereAll 3 rfl; have HKK := Lib.hid (hk.trans kk (fun _ _ q => q)); have tz := (HZ1.out.keep (hk.trans kk (fun _ _ q => q)) (fun q => q)).thereAll 256 zsz; clear hk kk hb)
  refine bodyPost_ret (ret_cell_tmp rfl _ _ _ _ _ _ rfl ((HZ1.out.keep HKK.out (fun q => q)).whole zero256 rfl) Try.underlying26 rfl (by rw [zero256_size]; exact info26) _ rfl) rfl ?_
  exact ⟨rfl, Kp.setCells (.inl (by omega)) _ _ _ ((((Kp.refl NoB w).alloc _).alloc _).trans HKK.out (fun _ _ q => q))⟩
set_option maxRecDepth 100000 in
set_option maxHeartbeats 4000000 in
theorem Insert_cell (w : World) (l : List Int) (hB : Bytes l) (i : Int) (c : ByteArray) (hcz : c.size ≤ 9223372036854775807) {k l0 : Int} {cs : List ByteArray} (hr : readF l = some (k, l0, cs)) (hce : cellE c ≠ 0) : Calls Try.prog 24 #[.agg (bytesV l), .int .i64 i, .string c] w (PagePost w (zero256, cellE c)) := by
  have HB := Lib.hid hB
  have hb1 := (Blk.new w 26 (bytesV l)).alloc (.cells zero256 26)
  have hz1 : Blk ((w.alloc (.cells (bytesV l) 26)).alloc (.cells zero256 26)) (w.heap.size + 1) 26 zero256 := Blk.newAt _ _ _ _ (by simp)
  have HZ1 := Lib.hid hz1
  have t1 := hb1.thereAll 256 (by rw [bytesV_size]; exact hB.len)
  have r1 := hb1.readAll 256 (by rw [bytesV_size]; exact hB.len)
  have HR := Lib.hid hr
  have zsz := zero256_size
  have zon := zero256_one
  have on3 : ones #[.int .u8 0, .int .u32 0, .slice none 0 0] := by unfold ones; simp [Value.oneCell']
  have HCZ := Lib.hid hcz
  obtain ⟨ec, hec⟩ : ∃ ec, cellE c = ec := ⟨_, rfl⟩
  rw [hec] at hce ⊢
  have HE := Lib.hid hec
  have hd1 : (ec != 0) = true := bne_iff_ne.2 hce
  have hd2 : (ec == 0) = false := beq_eq_false_iff_ne.2 hce
  clear hb1 hz1 hB hr hcz hec
  go_enter Try.func24, Try.ntmps24
  go_wp2_with (first
    | (go_at_call 32; go_must (refine (read_ok _ l HB.out).mono ?_); rintro e w2 hq; rw [HR.out] at hq; obtain ⟨hk, A, cap, rfl, ho, hs⟩ := hq.some; have hb := Blk.new w2 62 #[.int .u8 0, .int .u32 0, .slice none 0 0]; have thn := hb.thereAll 3 rfl; have hb3 := hb.whole (body3 k l0 A cs.length cap) rfl; have on4 : ones (body3 k l0 A cs.length cap) := (by unfold ones body3; simp [Value.oneCell']); have c2 := cellAt (v := .slice A cs.length cap) hb3 2 rfl; have hk0 := Kp.setCells (S := NoB) (g := w2.heap.size) (.inl (Nat.le_refl _)) (body3 k l0 A cs.length cap).toList 0 _ ((Kp.refl NoB w2).alloc (.cells #[.int .u8 0, .int .u32 0, .slice none 0 0] 62)); have hkk := hk.trans hk0 (fun _ _ q => q); have HB3 := Lib.hid hb3; have hown := own_keepB ho hk0 (fun _ _ q => q); have HOWN := Lib.hid hown; have HLT := Lib.hid (True.intro); have tz := (HZ1.out.keep (hk.trans hk0 (fun _ _ q => q)) (fun q => q)).thereAll 256 zsz; unfold body3 at on4 c2 hkk tz; have HKK := Lib.hid hkk; clear hk hb hb3 hk0 ho hs hown hkk)
    | (go_at_call 30; go_must (refine (cell_ok _ c HCZ.out).mono ?_); rw [HE.out]; rintro e w3 ⟨rfl, rfl⟩))
  refine bodyPost_ret (ret_cell_tmp rfl _ _ _ _ _ _ rfl ((HZ1.out.keep HKK.out (fun q => q)).whole zero256 rfl) Try.underlying26 rfl (by rw [zero256_size]; exact info26) _ rfl) rfl ?_
  exact ⟨rfl, Kp.setCells (.inl (by omega)) _ _ _ ((((Kp.refl NoB w).alloc _).alloc _).trans HKK.out (fun _ _ q => q))⟩
set_option maxRecDepth 100000 in
set_option maxHeartbeats 4000000 in
theorem Insert_idx (w : World) (l : List Int) (hB : Bytes l) (i : Int) (c : ByteArray) (hcz : c.size ≤ 9223372036854775807) {k l0 : Int} {cs : List ByteArray} (hr : readF l = some (k, l0, cs)) (hce : cellE c = 0) (hbad : i < 0 ∨ (cs.length : Int) < i) : Calls Try.prog 24 #[.agg (bytesV l), .int .i64 i, .string c] w (PagePost w (zero256, 4)) := by
  have HB := Lib.hid hB
  have hb1 := (Blk.new w 26 (bytesV l)).alloc (.cells zero256 26)
  have hz1 : Blk ((w.alloc (.cells (bytesV l) 26)).alloc (.cells zero256 26)) (w.heap.size + 1) 26 zero256 := Blk.newAt _ _ _ _ (by simp)
  have HZ1 := Lib.hid hz1
  have t1 := hb1.thereAll 256 (by rw [bytesV_size]; exact hB.len)
  have r1 := hb1.readAll 256 (by rw [bytesV_size]; exact hB.len)
  have HR := Lib.hid hr
  have zsz := zero256_size
  have zon := zero256_one
  have on3 : ones #[.int .u8 0, .int .u32 0, .slice none 0 0] := by unfold ones; simp [Value.oneCell']
  have HCZ := Lib.hid hcz
  have HE := Lib.hid hce
  clear hb1 hz1 hB hr hcz hce
  rcases (show i < 0 ∨ (0 ≤ i ∧ (cs.length : Int) < i) by omega) with q | ⟨q0, q⟩
  all_goals
    clear hbad
    go_enter Try.func24, Try.ntmps24
    go_wp2_with (first
      | (go_at_call 32; go_must (refine (read_ok _ l HB.out).mono ?_); rintro e w2 hq; rw [HR.out] at hq; obtain ⟨hk, A, cap, rfl, ho, hs⟩ := hq.some; have hb := Blk.new w2 62 #[.int .u8 0, .int .u32 0, .slice none 0 0]; have thn := hb.thereAll 3 rfl; have hb3 := hb.whole (body3 k l0 A cs.length cap) rfl; have on4 : ones (body3 k l0 A cs.length cap) := (by unfold ones body3; simp [Value.oneCell']); have c2 := cellAt (v := .slice A cs.length cap) hb3 2 rfl; have hk0 := Kp.setCells (S := NoB) (g := w2.heap.size) (.inl (Nat.le_refl _)) (body3 k l0 A cs.length cap).toList 0 _ ((Kp.refl NoB w2).alloc (.cells #[.int .u8 0, .int .u32 0, .slice none 0 0] 62)); have hkk := hk.trans hk0 (fun _ _ q => q); have HB3 := Lib.hid hb3; have hown := own_keepB ho hk0 (fun _ _ q => q); have HOWN := Lib.hid hown; have HLT := Lib.hid (True.intro); have tz := (HZ1.out.keep (hk.trans hk0 (fun _ _ q => q)) (fun q => q)).thereAll 256 zsz; unfold body3 at on4 c2 hkk tz; have HKK := Lib.hid hkk; clear hk hb hb3 hk0 ho hs hown hkk)
      | (go_at_call 30; go_must (refine (cell_ok _ c HCZ.out).mono ?_); rw [HE.out]; rintro e w3 ⟨rfl, rfl⟩))
    refine bodyPost_ret (ret_cell_tmp rfl _ _ _ _ _ _ rfl ((HZ1.out.keep HKK.out (fun q => q)).whole zero256 rfl) Try.underlying26 rfl (by rw [zero256_size]; exact info26) _ rfl) rfl ?_
    exact ⟨rfl, Kp.setCells (.inl (by omega)) _ _ _ ((((Kp.refl NoB w).alloc _).alloc _).trans HKK.out (fun _ _ q => q))⟩
set_option maxRecDepth 100000 in
set_option maxHeartbeats 4000000 in
theorem Insert_main (w : World) (l : List Int) (hB : Bytes l) (i : Nat) (c : ByteArray) (hcz : c.size ≤ 9223372036854775807) {k l0 : Int} {cs : List ByteArray} (hr : readF l = some (k, l0, cs)) (hce : cellE c = 0) (hi : i ≤ cs.length) : Calls Try.prog 24 #[.agg (bytesV l), .int .i64 i, .string c] w (PagePost w (toldR k l0 (cs.take i ++ [c] ++ cs.drop i))) := by
  have HB := Lib.hid hB
  have hb1 := (Blk.new w 26 (bytesV l)).alloc (.cells zero256 26)
  have hz1 : Blk ((w.alloc (.cells (bytesV l) 26)).alloc (.cells zero256 26)) (w.heap.size + 1) 26 zero256 := Blk.newAt _ _ _ _ (by simp)
  have HZ1 := Lib.hid hz1
  have t1 := hb1.thereAll 256 (by rw [bytesV_size]; exact hB.len)
  have r1 := hb1.readAll 256 (by rw [bytesV_size]; exact hB.len)
  have HR := Lib.hid hr
  have zsz := zero256_size
  have zon := zero256_one
  have on3 : ones #[.int .u8 0, .int .u32 0, .slice none 0 0] := by unfold ones; simp [Value.oneCell']
  have HCZ := Lib.hid hcz
  have HE := Lib.hid hce
  have hfa := readF_facts hB hr
  have hc250 := hfa.1
  have hcc : 1 ≤ c.size ∧ c.size ≤ 60 := by
    unfold cellE at hce
    split at hce
    · cases hce
    · split at hce
      · cases hce
      · omega
  have H60 : Hid (∀ d ∈ cs.take i ++ [c] ++ cs.drop i, 1 ≤ d.size ∧ d.size ≤ 60) := Lib.hid (fun d hd => by
    rcases List.mem_append.1 hd with q | q
    · rcases List.mem_append.1 q with q | q
      · exact hfa.2.1 d (List.mem_of_mem_take q)
      · obtain rfl : d = c := by simpa using q
        exact hcc
    · exact hfa.2.1 d (List.mem_of_mem_drop q))
  have hpg := PgA.told k l0 (cs.take i ++ [c] ++ cs.drop i)
  obtain ⟨Z, code, hT⟩ : ∃ Z code, toldR k l0 (cs.take i ++ [c] ++ cs.drop i) = (Z, code) := ⟨_, _, rfl⟩
  rw [hT] at hpg ⊢
  have HT := Lib.hid hT
  have sZ := hpg.s
  have oZ := hpg.o
  have h0 : ¬ ((i : Int) < 0) := by omega
  have h1 : ¬ ((cs.length : Int) < (i : Int)) := by omega
  have h2 : (i : Int) ≤ (cs.length : Int) := by omega
  clear hb1 hz1 hB hr hfa hT hcz hce hcc
  go_enter Try.func24, Try.ntmps24
  go_wp2_with (first
    | (go_at_call 32; go_must (refine (read_ok _ l HB.out).mono ?_); rintro e w2 hq; rw [HR.out] at hq; obtain ⟨hk, A, cap, rfl, ho, hs⟩ := hq.some; have hb := Blk.new w2 62 #[.int .u8 0, .int .u32 0, .slice none 0 0]; have thn := hb.thereAll 3 rfl; have hb3 := hb.whole (body3 k l0 A cs.length cap) rfl; have on4 : ones (body3 k l0 A cs.length cap) := (by unfold ones body3; simp [Value.oneCell']); have c2 := cellAt (v := .slice A cs.length cap) hb3 2 rfl; have hk0 := Kp.setCells (S := NoB) (g := w2.heap.size) (.inl (Nat.le_refl _)) (body3 k l0 A cs.length cap).toList 0 _ ((Kp.refl NoB w2).alloc (.cells #[.int .u8 0, .int .u32 0, .slice none 0 0] 62)); have hkk := hk.trans hk0 (fun _ _ q => q); have HB3 := Lib.hid hb3; have hown := own_keepB ho hk0 (fun _ _ q => q); have hvb : Blk _ (w2.heap.size + 1) 9 #[.string c] := Blk.newAt (((w2.alloc (.cells #[.int .u8 0, .int .u32 0, .slice none 0 0] 62)).setCells w2.heap.size 0 (body3 k l0 A cs.length cap).toList)) 9 #[.string c] _ (by rw [size_setCells]; simp); have HVB := Lib.hid hvb; have HOWN := Lib.hid (own_keepB hown ((Kp.refl NoB _).alloc (.cells #[.string c] 9)) (fun _ _ q => q)); have HB3A := Lib.hid (hb3.alloc (.cells #[.string c] 9)); clear hvb; have HLT := Lib.hid (own_blt ho); have tz := (HZ1.out.keep (hk.trans hk0 (fun _ _ q => q)) (fun q => q)).thereAll 256 zsz; unfold body3 at on4 c2 hkk tz; have HKK := Lib.hid hkk; have HKL := Lib.hid hk.size; have HKA := Lib.hid (hkk.alloc (.cells #[.string c] 9)); clear hk hb hb3 hk0 ho hs hown hkk)
    | (go_at_call 30; go_must (refine (cell_ok _ c HCZ.out).mono ?_); rw [HE.out]; rintro e w3 ⟨rfl, rfl⟩)
    | (go_at_call 36; go_must (refine (ins_ok _ _ A cs.length cap i cs c (w2.heap.size + 1) HVB.out hi (by omega) HOWN.out (fun g e => by have := (HLT.out g (by rw [e]; rfl)).1; omega)).mono ?_); rintro e w4 ⟨C, cc, rfl, hk4, hs4⟩; have hb4 := HB3A.out.keep hk4 (fun q => absurd (HLT.out _ q).1 (Nat.lt_irrefl _)); have c24 := cellAt (v := .slice A cs.length cap) hb4 2 rfl; have f24 := hb4.frozen 2; have hb5 := hb4.set_ 2 (.slice C (cs.length + 1) cc); have t5 := hb5.thereAll 3 rfl; have r5 : readRow _ w2.heap.size 0 3 = body3 k l0 C (cs.length + 1) cc := hb5.readAll 3 rfl; have HS5 := Lib.hid (hs4.setBody (o := 2) hb4 (.slice C (cs.length + 1) cc)); have hk5 := ((HKA.out.trans hk4 (S := NoB) (fun j hj q => by have := (HLT.out j q).2; omega))).setCell (p := ⟨w2.heap.size, 2, none⟩) (.inl (by have := HKL.out; show _ ≤ w2.heap.size; omega)) (.slice C (cs.length + 1) cc); have HK5 := Lib.hid hk5; have c25 := cellAt (v := .slice C (cs.length + 1) cc) hb5 2 rfl; unfold body3 at r5; clear hk4 hs4 hb4 hb5 hk5)
    | (go_at_call 31; go_must (refine (told_ok _ k l0 C (cs.length + 1) cc _ (by omega) H60.out HS5.out).mono ?_); rintro e w6 hq; rw [HT.out] at hq; obtain ⟨rfl, hk6⟩ := hq; have HK6 := Lib.hid (HK5.out.trans hk6 (fun _ _ q => q)); have tz6 := (HZ1.out.keep (HK5.out.trans hk6 (fun _ _ q => q)) (fun q => q)).thereAll 256 zsz; clear hk6))
  refine bodyPost_ret (ret_cell_tmp rfl _ _ _ _ _ _ rfl ((HZ1.out.keep HK6.out (fun q => q)).whole Z (by rw [zero256_size, sZ])) Try.underlying26 rfl (by rw [sZ]; exact info26) _ rfl) rfl ?_
  exact ⟨rfl, Kp.setCells (.inl (by omega)) _ _ _ ((((Kp.refl NoB w).alloc _).alloc _).trans HK6.out (fun _ _ q => q))⟩
theorem Insert_ok (w : World) (l : List Int) (hB : Bytes l) (i : Int) (c : ByteArray) (hcz : c.size ≤ 9223372036854775807) : Calls Try.prog 24 #[.agg (bytesV l), .int .i64 i, .string c] w (PagePost w (insF l i c)) := by
  rcases hr : readF l with _ | ⟨k, l0, cs⟩
  · rw [show insF l i c = (zero256, 8) by unfold insF; rw [hr]]
    exact Insert_none w l hB i c hcz hr
  · by_cases hce : cellE c = 0
    · by_cases hbad : i < 0 ∨ (cs.length : Int) < i
      · rw [show insF l i c = (zero256, 4) by unfold insF; rw [hr]; simp only [hce, ne_eq, not_true_eq_false, if_false]; exact if_pos hbad]
        exact Insert_idx w l hB i c hcz hr hce hbad
      · rw [show insF l i c = toldR k l0 (cs.take i.toNat ++ [c] ++ cs.drop i.toNat) by unfold insF; rw [hr]; simp only [hce, ne_eq, not_true_eq_false, if_false]; exact if_neg hbad]
        obtain ⟨j, rfl⟩ := Int.eq_ofNat_of_zero_le (show 0 ≤ i by omega)
        rw [show ((j : Int)).toNat = j by omega]
        exact Insert_main w l hB j c hcz hr hce (by omega)
    · rw [show insF l i c = (zero256, cellE c) by unfold insF; rw [hr]; exact if_pos hce]
      exact Insert_cell w l hB i c hcz hr hce
end Go.Proofs.Ytnleoeogcinadaa
