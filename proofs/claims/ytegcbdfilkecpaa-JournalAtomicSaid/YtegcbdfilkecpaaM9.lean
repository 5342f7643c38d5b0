/- Texts of this proof, one behind the other: lemmas and contracts; each says its own conditions. -/
import Derived.Test.YtegcbdfilkecpaaM7
import Derived.Test.YtegcbdfilkecpaaM8
/- The journal: is a disk ready, how many pages, what the head says; no condition but on the texts' lengths. -/
namespace Go.Proofs.Ytegcbdfilkecpaa
open Go.RowKit

theorem nmDb_le : nmDb.size ≤ maxLen := by decide
theorem nmJn_le : nmJn.size ≤ maxLen := by decide
section
variable {S : Nat → Prop} {W0 w : World} {db : Nat} {p : Pl}
set_option maxRecDepth 100000 in
theorem ready_q (h : Dq S W0 w db p) : Calls Try.prog 48 #[ptrV db] w fun e w' => e = .returned (.int .i64 p.wrong) ∧ Kp NoB w w' := by
  have H := Lib.hid h
  have e1 : p.readE 0 0 = p.wrong := by unfold Pl.readE Pl.wrong; simp
  have HE := Lib.hid e1
  have h63 : (-9223372036854775808 : Int) ≤ 0 ∧ (0 : Int) ≤ 9223372036854775807 := by omega
  have HZ := Lib.hid h63
  clear h e1 h63
  unfold ptrV
  go_enter Try.func48, Try.ntmps48
  go_wp2_with fail
  refine (show Calls _ _ #[ptrV db, .string nmDb, .int .i64 0, .int .i64 0] _ _ from read_q H.out nmDb 0 0 nmDb_le HZ.out HZ.out).mono ?_
  rintro e w' ⟨rfl, hk⟩
  rw [HE.out]
  have HK := Lib.hid hk
  clear hk
  go_wp2_with fail
  go_ret
  exact ⟨rfl, HK.out⟩
set_option maxRecDepth 100000 in
theorem count_q (h : Dq S W0 w db p) : Calls Try.prog 14 #[ptrV db] w fun e w' => e = .returned (.int .i64 p.jcount) ∧ w = w' := by
  have H := Lib.hid h
  have hl : p.len nmDb ≤ 1048576 := by
    unfold Pl.len
    split
    · omega
    · exact h.seen_le nmDb
  have HC := Lib.hid (show p.jcount = p.len nmDb / 256 from rfl)
  clear h
  unfold ptrV
  go_enter Try.func14, Try.ntmps14
  go_wp2_with fail
  refine (show Calls _ _ #[ptrV db, .string nmDb] _ _ from len_q H.out nmDb nmDb_le).mono ?_
  rintro e w' ⟨rfl, rfl⟩
  generalize p.len nmDb = L at hl HC ⊢
  go_wp2_with fail
  go_ret
  exact ⟨by rw [HC.out]; simp, rfl⟩
theorem head_plain (p : Pl) (hr : ∀ y ∈ p.seen nmJn, 0 ≤ y ∧ y < 256) : ∃ l, p.read nmJn 0 64 = l ∧ (∀ y ∈ l, 0 ≤ y ∧ y < 256) ∧ (p.jheadD = if l.length < 64 then ⟨0, 0, 0, 0⟩ else openB l) ∧ l.length ≤ 64 := by
  refine ⟨_, rfl, ?_⟩
  rcases hd : p.down with _ | _
  · have eE : p.readE 0 64 = 0 := by unfold Pl.readE; rw [hd]; simp
    have eR : p.read nmJn 0 64 = (p.seen nmJn).take 64 := by unfold Pl.read; rw [eE]; rfl
    rw [eR]
    refine ⟨fun y hy => hr y (List.mem_of_mem_take hy), ?_, by rw [List.length_take]; omega⟩
    unfold Pl.jheadD
    rw [hd]
    show p.jhead = _
    unfold Pl.jhead says
    have : ((p.seen nmJn).take 64).length < 64 ↔ (p.seen nmJn).length < 64 := by rw [List.length_take]; omega
    by_cases q : (p.seen nmJn).length < 64
    · rw [if_pos q, if_pos (this.2 q)]
    · rw [if_neg q, if_neg (fun r => q (this.1 r))]
  · have eE : p.readE 0 64 = 7 := by unfold Pl.readE; rw [hd]; simp
    have eR : p.read nmJn 0 64 = [] := by unfold Pl.read; rw [eE]; rfl
    rw [eR]
    refine ⟨by simp, ?_, by simp⟩
    unfold Pl.jheadD
    rw [hd]
    rfl
attribute [local go_sem ↓] loadSec storeSec allocSec loadW4 storeW4
set_option maxRecDepth 100000 in
set_option maxHeartbeats 800000 in
theorem head_q (h : Dq S W0 w db p) : Calls Try.prog 50 #[.agg #[ptrV db]] w fun e w' => e = .returned (.agg (w4A p.jheadD)) ∧ Kp NoB w w' := by
  have H := Lib.hid h
  have h63 : (-9223372036854775808 : Int) ≤ 0 ∧ (0 : Int) ≤ 9223372036854775807 := by omega
  have h64 : (-9223372036854775808 : Int) ≤ 64 ∧ (64 : Int) ≤ 9223372036854775807 := by omega
  have HZ := Lib.hid h63
  have HZ4 := Lib.hid h64
  clear h h63 h64
  unfold ptrV
  go_enter Try.func50, Try.ntmps50
  go_wp2_with fail
  have HK0 : Hid (Kp NoB w (((w.alloc (.cells #[ptrV db] 98)).alloc (.cells #[.int .u32 0, .int .u32 0, .int .u32 0, .int .u32 0] 102)).alloc (.cells (bytesV (zeros 64)) 146))) := Lib.hid ((((Kp.refl _ _).alloc _).alloc _).alloc _)
  have HB1 : Hid (Blk (((w.alloc (.cells #[ptrV db] 98)).alloc (.cells #[.int .u32 0, .int .u32 0, .int .u32 0, .int .u32 0] 102)).alloc (.cells (bytesV (zeros 64)) 146)) (w.heap.size + 1) 102 #[.int .u32 0, .int .u32 0, .int .u32 0, .int .u32 0]) := Lib.hid ((Blk.newAt _ _ _ _ (by simp)).alloc _)
  have HB2 : Hid (Blk (((w.alloc (.cells #[ptrV db] 98)).alloc (.cells #[.int .u32 0, .int .u32 0, .int .u32 0, .int .u32 0] 102)).alloc (.cells (bytesV (zeros 64)) 146)) (w.heap.size + 1 + 1) 146 (bytesV (zeros 64))) := Lib.hid (Blk.newAt _ _ _ _ (by simp))
  refine (show Calls _ _ #[ptrV db, .string nmJn, .int .i64 0, .int .i64 64] _ _ from read_q (H.out.keep HK0.out) nmJn 0 64 nmJn_le HZ.out HZ4.out).mono ?_
  rintro e w2 ⟨rfl, hk⟩
  have hB1 := HB1.out.keep hk (fun q => q)
  have hB2 := HB2.out.keep hk (fun q => q)
  have hK := HK0.out.trans hk (fun _ _ q => q)
  obtain ⟨l, hl, hrg, hj, hl64⟩ := head_plain p (fun y hy => H.out.seen_rng nmJn y hy)
  rw [hl]
  obtain ⟨rE, hrE⟩ : ∃ rE, p.readE 0 64 = rE := ⟨_, rfl⟩
  rw [hrE]
  have hsz := strOf_size l
  have hsi := strI_strOf l hrg
  generalize strOf l = s at hsz hsi ⊢
  rw [← hsz] at hj hl64
  have HJ := Lib.hid hj
  have HR := Lib.hid hrg
  have HS := Lib.hid hsz
  have HSI := Lib.hid hsi
  have HK := Lib.hid hK
  have HB1' := Lib.hid hB1
  have HB2' := Lib.hid hB2
  have t1 : w2.there (w.heap.size + 1) 0 4 := hB1.thereAll 4 rfl
  clear hj hrg hsz hsi hK hB1 hB2 hk HB1 HB2 HK0
  by_cases hlt : s.size < 64
  · have e1 : p.jheadD = ⟨0, 0, 0, 0⟩ := by rw [HJ.out, if_pos hlt]
    have HE1 := Lib.hid e1
    have hlt2 : (s.size : Int) < 64 := by omega
    have o0 : ones #[.int .u32 0, .int .u32 0, .int .u32 0, .int .u32 0] := w4A_ones ⟨0, 0, 0, 0⟩
    clear e1
    go_wp2_with fail
    refine bodyPost_ret (ret_cell1 rfl _ _ _ _ _ _ rfl (HB1'.out.whole #[.int .u32 0, .int .u32 0, .int .u32 0, .int .u32 0] rfl) Try.underlying102 rfl infoW4) rfl ⟨by rw [HE1.out]; rfl, ?_⟩
    exact Kp.setCells (.inl (by omega)) _ _ _ HK.out
  · have hs64 : s.size = 64 := by omega
    have e1 : p.jheadD = openB l := by rw [HJ.out, if_neg hlt]
    have HE1 := Lib.hid e1
    have hlt2 : ¬ (s.size : Int) < 64 := by omega
    have hcp := copyS w2 (w.heap.size + 1 + 1) 0 64 64 s (by omega) (HB2'.out.thereAll s.size (by rw [bytesV_size, hs64]; rfl))
    rw [HSI.out] at hcp
    have hB3 := HB2'.out.bytes (la := []) (lb := zeros 64) (ld := []) (lx := l) 0 rfl (by rw [← HS.out, hs64]; rfl)
    rw [List.nil_append, List.append_nil] at hB3
    have t3 : (w2.setCells (w.heap.size + 1 + 1) 0 (l.map (Value.int .u8))).there (w.heap.size + 1 + 1) 0 64 := hB3.thereAll 64 (by rw [bytesV_size, ← HS.out, hs64])
    have r3 : readRow (w2.setCells (w.heap.size + 1 + 1) 0 (l.map (Value.int .u8))) (w.heap.size + 1 + 1) 0 64 = bytesV l := hB3.readAll 64 (by rw [bytesV_size, ← HS.out, hs64])
    have HK2 : Hid (Kp NoB w (w2.setCells (w.heap.size + 1 + 1) 0 (l.map (Value.int .u8)))) := Lib.hid (Kp.setCells (.inl (by omega)) _ _ _ HK.out)
    have HB4 : Hid (Blk (w2.setCells (w.heap.size + 1 + 1) 0 (l.map (Value.int .u8))) (w.heap.size + 1) 102 #[.int .u32 0, .int .u32 0, .int .u32 0, .int .u32 0]) := Lib.hid (HB1'.out.farCells (by omega) _ _ _)
    clear e1 hB3
    go_wp2_with fail
    refine (open_ok _ l (by rw [← HS.out]; exact hs64) HR.out).mono ?_
    rintro e w3 ⟨rfl, hk⟩
    have HK3 := Lib.hid (HK2.out.trans hk (fun _ _ q => q))
    have hb3 := HB4.out.keep hk (fun q => q)
    have HB3 := Lib.hid hb3
    have t4 : w3.there (w.heap.size + 1) 0 4 := hb3.thereAll 4 rfl
    rw [← HE1.out]
    obtain ⟨RR, hRR⟩ : ∃ RR, w4A p.jheadD = RR := ⟨_, rfl⟩
    have o1 := w4A_ones p.jheadD
    have s1 : (w4A p.jheadD).size = 4 := rfl
    rw [hRR] at o1 s1
    rw [hRR]
    have HRR := Lib.hid hRR
    have S1 := Lib.hid s1
    clear hk hb3 hRR
    go_wp2_with fail
    refine bodyPost_ret (ret_cell1 rfl _ _ _ _ _ _ rfl (HB3.out.whole RR S1.out.symm) Try.underlying102 rfl (by rw [S1.out]; exact infoW4)) rfl ⟨by rw [HRR.out], ?_⟩
    exact Kp.setCells (.inl (by omega)) _ _ _ HK3.out
end
end Go.Proofs.Ytegcbdfilkecpaa
/- The journal: a page of the database, is the journal hot; no condition but on the texts' lengths. -/
namespace Go.Proofs.Ytegcbdfilkecpaa
open Go.RowKit

section
variable {S : Nat → Prop} {W0 w : World} {db : Nat} {p : Pl}
set_option maxRecDepth 100000 in
set_option maxHeartbeats 800000 in
theorem hot_q (h : Dq S W0 w db p) : Calls Try.prog 15 #[ptrV db] w fun e w' => e = .returned (.bool p.jhot) ∧ Kp NoB w w' := by
  have H := Lib.hid h
  rcases hdn : p.down with _ | _
  · have HD := Lib.hid hdn
    have hw : p.wrong = 0 := by unfold Pl.wrong; rw [hdn]; rfl
    have HW := Lib.hid hw
    have hj : p.jhot = decide ((p.jhead).a ≠ 0) := by unfold Pl.jhot; rw [hdn]; simp
    have HJ := Lib.hid hj
    clear h hdn hw hj
    unfold ptrV
    go_enter Try.func15, Try.ntmps15
    go_wp2_with fail
    refine (show Calls _ _ #[ptrV db] _ _ from ready_q H.out).mono ?_
    rintro e w2 ⟨rfl, hk⟩
    rw [HW.out]
    have HK := Lib.hid hk
    clear hk
    go_wp2_with fail
    refine (show Calls _ _ #[.agg #[ptrV db]] _ _ from head_q (H.out.keep HK.out)).mono ?_
    rintro e w3 ⟨rfl, hk3⟩
    rw [show p.jheadD = p.jhead by unfold Pl.jheadD; rw [HD.out]; rfl]
    have HK3 := Lib.hid hk3
    clear hk3
    have hix : ∀ W, (Instr.index 102 (.agg (w4A p.jhead)) (.int .i64 0)).run Try.prog W = .ok (.int .u32 p.jhead.a) W := fun W => by
      have := indexW4 p.jhead 0 (by omega) W
      simpa [W4.at_] using this
    generalize p.jhead.a = a at HJ hix
    generalize w4A p.jhead = RR at hix ⊢
    by_cases ha : a = 0
    · subst ha
      go_wp2_with fail
      go_ret
      exact ⟨by rw [HJ.out]; rfl, HK.out.trans HK3.out (fun _ _ q => q)⟩
    · have ha1 : (a != 0) = true := by simpa using ha
      have ha2 : (a == 0) = false := by simpa using ha
      go_wp2_with fail
      go_ret
      exact ⟨by rw [HJ.out, decide_eq_true ha]; rfl, HK.out.trans HK3.out (fun _ _ q => q)⟩
  · have hw : p.wrong = 7 := by unfold Pl.wrong; rw [hdn]; rfl
    have HW := Lib.hid hw
    have hj : p.jhot = false := by unfold Pl.jhot; rw [hdn]; simp
    have HJ := Lib.hid hj
    clear h hdn hw hj
    unfold ptrV
    go_enter Try.func15, Try.ntmps15
    go_wp2_with fail
    refine (show Calls _ _ #[ptrV db] _ _ from ready_q H.out).mono ?_
    rintro e w2 ⟨rfl, hk⟩
    rw [HW.out]
    have HK := Lib.hid hk
    clear hk
    go_wp2_with fail
    go_ret
    exact ⟨by rw [HJ.out]; rfl, HK.out⟩
attribute [local go_sem ↓] load26 store26 alloc26 build26
set_option maxRecDepth 100000 in
set_option maxHeartbeats 800000 in
theorem wpage_q (h : Dq S W0 w db p) (n : Nat) (h1 : 1 ≤ n) (h2 : n ≤ p.jcount) : Calls Try.prog 49 #[.agg #[ptrV db], .int .i64 n] w fun e w' => e = .returned (.agg (bytesV (pageOf (p.seen nmDb) n))) ∧ Kp NoB w w' := by
  have H := Lib.hid h
  have hle := h.seen_le nmDb
  have hdn : p.down = false := by
    rcases hd : p.down with _ | _
    · rfl
    · have : p.jcount = 0 := by unfold Pl.jcount Pl.len; rw [hd]; simp
      omega
  have hc : n * 256 ≤ (p.seen nmDb).length := by
    unfold Pl.jcount Pl.len at h2
    rw [hdn] at h2
    simp only [Bool.false_eq_true, if_false] at h2
    omega
  obtain ⟨N, hN⟩ : ∃ N : Nat, n = N + 1 := ⟨n - 1, by omega⟩
  subst hN
  have eE : p.readE ((N : Int) * 256) 256 = 0 := by
    unfold Pl.readE
    rw [hdn, if_neg (by simp), if_neg (by omega)]
  have eR : p.read nmDb ((N : Int) * 256) 256 = ((p.seen nmDb).drop (N * 256)).take 256 := by
    unfold Pl.read
    rw [eE]
    simp only [if_true]
    congr 2
  have eP : pageOf (p.seen nmDb) (N + 1) = ((p.seen nmDb).drop (N * 256)).take 256 := by
    unfold pageOf sizedF
    rw [Nat.add_sub_cancel, if_pos (by rw [List.length_drop]; omega)]
  have hr1 : (-9223372036854775808 : Int) ≤ (N : Int) * 256 ∧ (N : Int) * 256 ≤ 9223372036854775807 := by omega
  have hr2 : (-9223372036854775808 : Int) ≤ 256 ∧ (256 : Int) ≤ 9223372036854775807 := by omega
  have hrg : ∀ y ∈ ((p.seen nmDb).drop (N * 256)).take 256, 0 ≤ y ∧ y < 256 := fun y hy => h.seen_rng nmDb y (List.mem_of_mem_drop (List.mem_of_mem_take hy))
  have hll : (((p.seen nmDb).drop (N * 256)).take 256).length = 256 := by simp; omega
  have hN1 : (N : Int) ≤ 5000 := by omega
  rw [eP]
  have HE := Lib.hid eE
  have HER := Lib.hid eR
  have HR1 := Lib.hid hr1
  have HR2 := Lib.hid hr2
  generalize ((p.seen nmDb).drop (N * 256)).take 256 = l at hrg hll eR HER ⊢
  have hsz := strOf_size l
  have hsi := strI_strOf l hrg
  have HRG := Lib.hid hrg
  have HLL := Lib.hid hll
  have HSZ := Lib.hid hsz
  have HSI := Lib.hid hsi
  clear h hle hdn hc eE eR eP hr1 hr2 h1 h2 hrg hll hsz hsi
  have hw1 : IntKind.i64.wrap (((N + 1 : Nat) : Int) - 1) = (N : Int) := by rw [IntKind.wrap_i64]; omega
  have hw2 : IntKind.i64.wrap ((N : Int) * 256) = (N : Int) * 256 := by rw [IntKind.wrap_i64]; omega
  have HK0 : Hid (Kp NoB w (((w.alloc (.cells #[ptrV db] 98)).alloc (.cells zero256 24)).alloc (.cells zero256 24))) := Lib.hid ((((Kp.refl _ _).alloc _).alloc _).alloc _)
  have HB1 : Hid (Blk (((w.alloc (.cells #[ptrV db] 98)).alloc (.cells zero256 24)).alloc (.cells zero256 24)) (w.heap.size + 1) 24 zero256) := Lib.hid ((Blk.newAt _ _ _ _ (by simp)).alloc _)
  have HB2 : Hid (Blk (((w.alloc (.cells #[ptrV db] 98)).alloc (.cells zero256 24)).alloc (.cells zero256 24)) (w.heap.size + 1 + 1) 24 zero256) := Lib.hid (Blk.newAt _ _ _ _ (by simp))
  obtain ⟨m, hm⟩ : ∃ m : Int, ((N + 1 : Nat) : Int) = m := ⟨_, rfl⟩
  rw [hm] at hw1 ⊢
  clear hm
  unfold ptrV
  go_enter Try.func49, Try.ntmps49
  go_wp2_with fail
  refine (show Calls _ _ #[ptrV db, .string nmDb, .int .i64 ((N : Int) * 256), .int .i64 256] _ _ from read_q (H.out.keep HK0.out) nmDb ((N : Int) * 256) 256 nmDb_le HR1.out HR2.out).mono ?_
  rintro e w2 ⟨rfl, hk⟩
  have hB1 := HB1.out.keep hk (fun q => q)
  have hB2 := HB2.out.keep hk (fun q => q)
  have HK := Lib.hid (HK0.out.trans hk (fun _ _ q => q))
  rw [HE.out, HER.out]
  generalize strOf l = s at HSZ HSI ⊢
  have hs : s.size = 256 := by rw [HSZ.out, HLL.out]
  have hcp := copyS w2 (w.heap.size + 1 + 1) 0 256 256 s (by omega) (hB2.thereAll s.size (by rw [zero256_eq, bytesV_size, hs]; rfl))
  rw [HSI.out] at hcp
  rw [zero256_eq] at hB2
  have hB3 := hB2.bytes (la := []) (lb := zeros 256) (ld := []) (lx := l) 0 rfl (by rw [HLL.out]; rfl)
  rw [List.nil_append, List.append_nil] at hB3
  have t3 : (w2.setCells (w.heap.size + 1 + 1) 0 (l.map (Value.int .u8))).there (w.heap.size + 1 + 1) 0 256 := hB3.thereAll 256 (by rw [bytesV_size, HLL.out])
  have r3 : readRow (w2.setCells (w.heap.size + 1 + 1) 0 (l.map (Value.int .u8))) (w.heap.size + 1 + 1) 0 256 = bytesV l := hB3.readAll 256 (by rw [bytesV_size, HLL.out])
  have HK2 : Hid (Kp NoB w (w2.setCells (w.heap.size + 1 + 1) 0 (l.map (Value.int .u8)))) := Lib.hid (Kp.setCells (.inl (by omega)) _ _ _ HK.out)
  have hB4 : Blk (w2.setCells (w.heap.size + 1 + 1) 0 (l.map (Value.int .u8))) (w.heap.size + 1) 24 zero256 := hB1.farCells (by omega) _ _ _
  have t4 : (w2.setCells (w.heap.size + 1 + 1) 0 (l.map (Value.int .u8))).there (w.heap.size + 1) 0 256 := hB4.thereAll 256 (by rw [zero256_eq, bytesV_size]; rfl)
  have HB4 := Lib.hid hB4
  obtain ⟨RR, hRR⟩ : ∃ RR, bytesV l = RR := ⟨_, rfl⟩
  have o1 := bytesV_one l
  have s1 : (bytesV l).size = 256 := by rw [bytesV_size, HLL.out]
  rw [hRR] at o1 s1 r3
  have HRR := Lib.hid hRR
  have S1 := Lib.hid s1
  clear hk hB1 hB2 hB3 hB4 hRR HB1 HB2 HK0
  go_wp2_with fail
  refine bodyPost_ret (ret_cell1 rfl _ _ _ _ _ _ rfl (HB4.out.whole RR (by rw [S1.out, zero256_eq, bytesV_size]; rfl)) Try.underlying24 rfl (by rw [S1.out]; exact info26)) rfl ⟨by rw [HRR.out], ?_⟩
  exact Kp.setCells (.inl (by omega)) _ _ _ HK2.out
end
end Go.Proofs.Ytegcbdfilkecpaa
/- The journal: a head sealed and synced; no condition but on the texts' lengths and the counts. -/
namespace Go.Proofs.Ytegcbdfilkecpaa
open Go.RowKit

theorem strI_seal (v : W4) (hr : ∀ y ∈ sealB v, 0 ≤ y ∧ y < 256) : strI (strOf (sealB v)) = sealB v := strI_strOf _ hr
theorem seal_len (v : W4) : (sealB v).length = 64 := rfl
theorem seal_rng (v : W4) : ∀ y ∈ sealB v, 0 ≤ y ∧ y < 256 := by
  intro y hy
  unfold sealB W4.bytes four at hy
  simp only [List.mem_append, List.mem_cons, List.not_mem_nil, or_false] at hy
  rcases hy with h | h
  · rcases h with ((((h | h) | h) | h) | (((h | h) | h) | h)) | (((h | h) | h) | h) <;> omega
  · exact zeros_rng _ y h
theorem byRd_congr {w w' : World} {g : Nat} (h : w'.heap[g]? = w.heap[g]?) (o n : Nat) : byRd w' g o n = byRd w g o n := by
  unfold byRd
  congr 1
  funext j
  rw [World.cell?_of_block (w := w) (w' := w') (a := ⟨g, o + j, none⟩) h]
theorem byAt_congr {w w' : World} {g : Nat} (h : w'.heap[g]? = w.heap[g]?) {o n : Nat} (ha : byAt w g o n) : byAt w' g o n := fun j hj => by
  rw [World.cell?_of_block (w := w) (w' := w') (a := ⟨g, o + j, none⟩) h]
  exact ha j hj
theorem by_keep {S : Nat → Prop} {w w' : World} {g o n : Nat} {l : List Int} (k : Kp S w.drew w') (hg : g < w.heap.size) (hn : ¬ S g) (ha : byAt w g o n) (hr : byRd w g o n = l) : byAt w' g o n ∧ byRd w' g o n = l :=
  ⟨byAt_congr (w := w) (k.block g hg hn) ha, (byRd_congr (w := w) (k.block g hg hn) o n).trans hr⟩
section
variable {S : Nat → Prop} {W0 w : World} {db : Nat} {p : Pl}
attribute [local go_sem ↓] loadSec storeSec allocSec loadW4 storeW4 conv64
set_option maxRecDepth 100000 in
set_option maxHeartbeats 800000 in
theorem seal1_q (h : Dq S w w db p) (v : W4) (Bw Bd : Nat) (hn : ¬ S Bd) (hw : Blk w Bw 102 (w4A v)) (hd : w.cell? ⟨Bd, 0, none⟩ = some (ptrV db)) (hm : p.sm 20000) :
    Calls Try.prog 114 #[.pointer (some ⟨Bw, 0, none⟩), .pointer (some ⟨Bd, 0, none⟩)] w fun e w' => e = .returned (.int .i64 (p.writeE nmJn 0 (sealB v))) ∧ Dq S w w' db (p.write nmJn 0 (sealB v)) := by
  have H := Lib.hid h
  have HN := Lib.hid hn
  have HM := Lib.hid hm
  have t0 : w.there Bw 0 4 := hw.thereAll 4 rfl
  have r0 : readRow w Bw 0 4 = w4A v := hw.readAll 4 rfl
  have hlt := block_lt_of_cell hd
  have HD := Lib.hid hd
  have HLT := Lib.hid hlt
  clear h hm hw hd hlt hn
  unfold ptrV at HD
  go_enter Try.func114, Try.ntmps114
  go_wp2_with fail
  refine (seal_ok w v).mono ?_
  rintro e w2 ⟨rfl, hk⟩
  have hb := Blk.new w2 146 (bytesV (zeros 64))
  have hb2 := hb.whole (bytesV (sealB v)) (by rw [bytesV_size, bytesV_size]; rfl)
  have t1 := hb.thereAll 64 (by rw [bytesV_size]; rfl)
  have o1 := bytesV_one (sealB v)
  have s1 : (bytesV (sealB v)).size = 64 := by rw [bytesV_size]; rfl
  have hk2 : Kp NoB w ((w2.alloc (.cells (bytesV (zeros 64)) 146)).setCells w2.heap.size 0 (bytesV (sealB v)).toList) := Kp.setCells (.inl hk.size) _ _ _ (hk.alloc _)
  have hcd := (hk2.cell HLT.out (fun q => q)).trans HD.out
  have hby := hb2.byAt 0 64 (by show _ ≤ 64; omega)
  have hrd := hb2.byRd 0 64 (by show _ ≤ 64; omega)
  rw [List.drop_zero, List.take_of_length_le (by show 64 ≤ 64; omega)] at hrd
  have HK2 := Lib.hid hk2
  have HKS := Lib.hid hk.size
  clear hk hb hb2 hk2
  generalize hRR : bytesV (sealB v) = RR at t1 o1 s1 hcd hby hrd HK2 ⊢
  clear hRR
  go_upto_region 2 with fail
  generalize hW3 : (w2.alloc (.cells (bytesV (zeros 64)) 146)).setCells w2.heap.size 0 RR.toList = w3 at hcd hby hrd HK2 ⊢
  generalize hg : w2.heap.size = g at hby hrd ⊢
  have hgs : Hid (w.heap.size ≤ g ∧ g < w3.heap.size) := Lib.hid ⟨by rw [← hg]; exact HKS.out, by rw [← hg, ← hW3, size_setCells]; simp⟩
  clear hg hW3
  have hsz : (strOf (sealB v)).size ≤ maxLen := by rw [strOf_size, seal_len]; decide
  have HSZ := Lib.hid hsz
  have HSI := Lib.hid (strI_seal v (seal_rng v))
  obtain ⟨sb, hsb⟩ : ∃ sb, sealB v = sb := ⟨_, rfl⟩
  have HSB := Lib.hid hsb
  rw [hsb] at hrd HSI HSZ
  clear hsb
  have HCD := Lib.hid hcd
  have HBY := Lib.hid hby
  have HRD := Lib.hid hrd
  clear hsz
  go_region_held3 (fun w' => w'.cell? ⟨Bd, 0, none⟩ = some (.pointer (some ⟨db, 0, none⟩)) ∧ byAt w' g 0 64 ∧ byRd w' g 0 64 = sb)
    (first | exact ⟨hcd, hby, hrd⟩ | exact ⟨he1, he2⟩ | go_keep)
    (first
      | (go_at_call 78; go_must (refine (show Calls _ _ #[ptrV db, .string nmJn, .int .i64 0, .string (strOf sb)] _ _ from write_q (H.out.base1 (HK2.out.drew)) nmJn 0 (strOf sb) nmJn_le HSZ.out HM.out).mono ?_); rintro e w4 ⟨rfl, h4⟩; rw [HSI.out] at h4; rw [HSI.out]; have H4 := Lib.hid h4; have he1 := (h4.kp.cell (Nat.lt_of_lt_of_le HLT.out HK2.out.size) HN.out).trans HCD.out; have he2 := by_keep h4.kp hgs.out.2 (fun q => by have := H.out.lt _ q; have := hgs.out.1; omega) HBY.out HRD.out; clear h4))
  go_wp2_with fail
  go_ret
  rw [HSB.out]
  exact ⟨rfl, Dq.up (H.out.base1 HK2.out.drew) HK2.out.drew H.out.lt H4.out⟩
set_option maxRecDepth 100000 in
theorem jsync_q (h : Dq S w w db p) (hm : p.sm 20000) :
    Calls Try.prog 116 #[.agg #[ptrV db]] w fun e w' => e = .returned (.int .i64 p.syncE) ∧ Dq S w w' db (p.sync nmJn) := by
  have H := Lib.hid h
  have HM := Lib.hid hm
  have HK := Lib.hid ((Kp.refl NoB w).alloc (.cells #[ptrV db] 98))
  clear h hm
  unfold ptrV at HK ⊢
  go_enter Try.func116, Try.ntmps116
  go_wp2_with fail
  refine (show Calls _ _ #[ptrV db, .string nmJn] _ _ from sync_q (H.out.base1 HK.out) nmJn nmJn_le HM.out).mono ?_
  rintro e w4 ⟨rfl, h4⟩
  have H4 := Lib.hid h4
  clear h4
  go_wp2_with fail
  go_ret
  exact ⟨rfl, Dq.up (H.out.base1 HK.out) HK.out H.out.lt H4.out⟩
theorem stE0 (p : Pl) (nm : ByteArray) (a : Int) (d : List Int) : p.stE ⟨0, nm, a, d⟩ = p.writeE nm a d := rfl
theorem stP0 (p : Pl) (nm : ByteArray) (a : Int) (d : List Int) : p.stP ⟨0, nm, a, d⟩ = p.write nm a d := rfl
theorem stE1 (p : Pl) (nm : ByteArray) (a : Int) (d : List Int) : p.stE ⟨1, nm, a, d⟩ = p.truncE nm a := rfl
theorem stP1 (p : Pl) (nm : ByteArray) (a : Int) (d : List Int) : p.stP ⟨1, nm, a, d⟩ = p.trunc nm a := rfl
theorem stE2 (p : Pl) (nm : ByteArray) (a : Int) (d : List Int) : p.stE ⟨2, nm, a, d⟩ = p.syncE := rfl
theorem stP2 (p : Pl) (nm : ByteArray) (a : Int) (d : List Int) : p.stP ⟨2, nm, a, d⟩ = p.sync nm := rfl
set_option maxRecDepth 100000 in
set_option maxHeartbeats 800000 in
theorem jseal_q (h : Dq S w w db p) (v : W4) (hm : p.sm 40000) :
    Calls Try.prog 54 #[.agg #[ptrV db], .agg (w4A v)] w fun e w' => e = .returned (.int .i64 (p.runS (headS nmJn v)).2) ∧ Dq S w w' db (p.runS (headS nmJn v)).1 := by
  have H := Lib.hid h
  have HM := Lib.hid hm
  clear h hm
  go_enter Try.func54, Try.ntmps54
  unfold ptrV
  go_wp2_with fail
  have hkb : Kp NoB w ((w.alloc (.cells #[ptrV db] 98)).alloc (.cells (w4A v) 102)) := ((Kp.refl _ _).alloc _).alloc _
  have hbd : Blk ((w.alloc (.cells #[ptrV db] 98)).alloc (.cells (w4A v) 102)) w.heap.size 98 #[ptrV db] := (Blk.new _ _ _).alloc _
  have hbw : Blk ((w.alloc (.cells #[ptrV db] 98)).alloc (.cells (w4A v) 102)) (w.heap.size + 1) 102 (w4A v) := Blk.newAt _ _ _ _ (by simp)
  generalize hw2 : (w.alloc (.cells #[ptrV db] 98)).alloc (.cells (w4A v) 102) = w2 at hkb hbd hbw
  have hs2 : w2.heap.size = w.heap.size + 1 + 1 := by rw [← hw2]; simp
  unfold ptrV at hw2
  rw [hw2]
  refine (all_ok _ (w.heap.size + 1 + 1) 0 2 2 [(114, #[], #[.pointer (some ⟨w.heap.size + 1, 0, none⟩), .pointer (some ⟨w.heap.size, 0, none⟩)]), (116, #[.agg #[ptrV db]], #[])]
    (fun x w' => x = (p.runS (headS nmJn v)).2 ∧ Dq S w w' db (p.runS (headS nmJn v)).1) rfl (by omega) ?_).mono ?_
  · have hb3 := Blk.newAt w2 178 #[.func (.func 114) #[] #[.pointer (some ⟨w.heap.size + 1, 0, none⟩), .pointer (some ⟨w.heap.size, 0, none⟩)], .func (.func 116) #[.agg #[ptrV db]] #[]] _ hs2
    unfold ptrV at hb3
    generalize hw3 : w2.alloc (.cells #[.func (.func 114) #[] #[.pointer (some ⟨w.heap.size + 1, 0, none⟩), .pointer (some ⟨w.heap.size, 0, none⟩)], .func (.func 116) #[.agg #[.pointer (some ⟨db, 0, none⟩)]] #[]] 178) = w3 at hb3 ⊢
    have hk3 : Kp NoB w2 w3 := by rw [← hw3]; exact (Kp.refl _ _).alloc _
    have hk := hkb.trans hk3 (fun _ _ q => q)
    have h3 := H.out.base1 hk
    have hlt := H.out.lt
    refine ⟨by rw [hb3.cell]; rfl, enters_of Try.func114 (by kernel_rfl) rfl, ?_⟩
    refine (seal1_q h3 v (w.heap.size + 1) w.heap.size (fun q => by have := hlt _ q; omega) (hbw.keep hk3 (fun q => q)) (by rw [(hbd.keep hk3 (fun q => q)).cell]; rfl) (sm_mono HM.out (by omega))).mono ?_
    rintro e w4 ⟨rfl, h4⟩
    refine ⟨_, rfl, fun hx => ?_, fun hx => ?_⟩
    · unfold headS
      rw [runS_cons, stE0, if_neg hx]
      exact ⟨rfl, Dq.up h3 hk hlt h4⟩
    · refine ⟨by rw [(hb3.keep h4.kp (fun q => by have := hlt _ q; omega)).cell]; rfl, enters_of Try.func116 (by kernel_rfl) rfl, ?_⟩
      obtain ⟨S5, h5, hS5⟩ := h4.base
      refine (jsync_q h5 (sm_write _ _ _ (sm_mono HM.out (by omega)))).mono ?_
      rintro e w6 ⟨rfl, h6⟩
      have hz : (p.runS (headS nmJn v)) = (((p.write nmJn 0 (sealB v)).sync nmJn), (p.write nmJn 0 (sealB v)).syncE) := by
        unfold headS
        rw [runS_cons, stE0, if_pos hx, runS_cons, stE2, stP0, stP2]
        split
        · rename_i h0
          rw [runS_nil, h0]
        · rfl
      rw [hz]
      have h7 := Dq.up h3 hk hlt (Dq.tr (w0 := w3) h6 h4.kp hS5 h4.lt)
      exact ⟨_, rfl, fun _ => ⟨rfl, h7⟩, fun hx2 => ⟨hx2.symm, h7⟩⟩
  · rintro e w4 ⟨x, rfl, rfl, h4⟩
    have H4 := Lib.hid h4
    clear h4
    go_wp2_with fail
    go_ret
    exact ⟨rfl, H4.out⟩
end
end Go.Proofs.Ytegcbdfilkecpaa
/- The journal: function values that make steps, one behind the other; no condition but on the counts. -/
namespace Go.Proofs.Ytegcbdfilkecpaa
open Go.RowKit

/-- what is made of a plain disk, one behind the other till one is refused -/
def seqR : List (Pl → Pl × Int) → Pl → Pl × Int
  | [], p => (p, 0)
  | r :: rs, p => if (r p).2 = 0 then seqR rs (r p).1 else r p
/-- what stays while a disk is changed -/
def Kept (K : (Nat → Prop) → World → Prop) : Prop := ∀ (S S' : Nat → Prop) (w w' : World), K S w → Kp S w w' → (∀ b, S' b → S b ∨ w.heap.size ≤ b) → K S' w'
theorem kept_blk (g : Nat) (t : TypeId) (cs : Array Value) : Kept fun S w => Blk w g t cs ∧ ¬ S g := fun S S' w w' h k hS => ⟨h.1.keep k h.2, fun q => by
  rcases hS g q with q | q
  · exact h.2 q
  · have := h.1.lt
    omega⟩
theorem Kept.and {K L : (Nat → Prop) → World → Prop} (h : Kept K) (k : Kept L) : Kept fun S w => K S w ∧ L S w := fun S S' w w' q kp hS => ⟨h S S' w w' q.1 kp hS, k S S' w w' q.2 kp hS⟩
/-- a function value that makes steps -/
structure StepC (db : Nat) (K : (Nat → Prop) → World → Prop) (f : Nat) (a c : Array Value) (R : Pl → Pl × Int) (cost : Nat) : Prop where
  ent : ∀ args w, (callFunc f args).run Try.prog w = .ok (.enter f args) w
  run : ∀ (S : Nat → Prop) (w : World) (p : Pl), Dq S w w db p → K S w → p.sm cost → Calls Try.prog f (a ++ c) w fun e w' => e = .returned (.int .i64 (R p).2) ∧ Dq S w w' db (R p).1
  sm : ∀ (p : Pl) (k : Nat), p.sm (k + cost) → (R p).1.sm k
theorem Chain.mono {g o : Nat} {Q Q' : Int → World → Prop} (hQ : ∀ x w, Q x w → Q' x w) : ∀ (l : List (Nat × Array Value × Array Value)) (i : Nat) (w : World), Chain g o i l Q w → Chain g o i l Q' w
  | [], _, _, h => hQ _ _ h
  | (f, a, c) :: r, i, w, h => ⟨h.1, h.2.1, h.2.2.mono fun e w' ⟨x, he, h0, h1⟩ => ⟨x, he, fun q => hQ _ _ (h0 q), fun q => Chain.mono hQ r (i + 1) w' (h1 q)⟩⟩
structure Stpr where
  f : Nat
  a : Array Value
  c : Array Value
  R : Pl → Pl × Int
  cost : Nat
def Stpr.v (s : Stpr) : Value := .func (.func s.f) s.a s.c
def costs (l : List Stpr) : Nat := (l.map (·.cost)).sum
theorem chain_steps {db g o : Nat} {t : TypeId} {cs : Array Value} {K : (Nat → Prop) → World → Prop} (hK : Kept K) :
    ∀ (l : List Stpr) (i : Nat) (S : Nat → Prop) (w : World) (p : Pl), (∀ s ∈ l, StepC db K s.f s.a s.c s.R s.cost) → (∀ j (h : j < l.length), cs[o + i + j]? = some l[j].v) → Blk w g t cs → ¬ S g → Dq S w w db p → K S w → p.sm (costs l) →
      Chain g o i (l.map fun s => (s.f, s.a, s.c)) (fun x w' => x = (seqR (l.map (·.R)) p).2 ∧ Dq S w w' db (seqR (l.map (·.R)) p).1) w
  | [], i, S, w, p, _, _, _, _, h, _, _ => ⟨rfl, h⟩
  | s :: r, i, S, w, p, hs, hc, hb, hn, h, hk, hm => by
    have h1 := hs s (List.mem_cons_self ..)
    refine ⟨?_, h1.ent, ?_⟩
    · rw [hb.cell]
      exact hc 0 (by simp)
    · refine (h1.run S w p h hk (sm_mono hm (by simp [costs]))).mono ?_
      rintro e w' ⟨rfl, h2⟩
      refine ⟨_, rfl, fun hx => ?_, fun hx => ?_⟩
      · show _ = (seqR (s.R :: r.map (·.R)) p).2 ∧ Dq S w w' db (seqR (s.R :: r.map (·.R)) p).1
        unfold seqR
        rw [if_neg hx]
        exact ⟨rfl, h2⟩
      · obtain ⟨S2, h3, hS2⟩ := h2.base
        have hn2 := (kept_blk g t cs) S S2 w w' ⟨hb, hn⟩ h2.kp hS2
        have hm2 : (s.R p).1.sm (costs r) := h1.sm p _ (sm_mono hm (by simp [costs]; omega))
        have ih := chain_steps hK r (i + 1) S2 w' (s.R p).1 (fun s' hs' => hs s' (List.mem_cons_of_mem _ hs')) (fun j hj => by
          have := hc (j + 1) (by simpa using hj)
          rw [show o + (i + 1) + j = o + i + (j + 1) by omega]
          exact this) hn2.1 hn2.2 h3 (hK S S2 w w' hk h2.kp hS2) hm2
        refine Chain.mono (fun x w3 ⟨e, h4⟩ => ?_) _ _ _ ih
        show x = (seqR (s.R :: r.map (·.R)) p).2 ∧ Dq S w w3 db (seqR (s.R :: r.map (·.R)) p).1
        unfold seqR
        rw [if_pos hx]
        exact ⟨e, Dq.tr (w0 := w) h4 h2.kp hS2 h2.lt⟩
/-- the steps made by 'all' -/
theorem all_steps {db g n cap : Nat} {t : TypeId} {K : (Nat → Prop) → World → Prop} (hK : Kept K) (l : List Stpr) (S : Nat → Prop) (w : World) (p : Pl) (hs : ∀ s ∈ l, StepC db K s.f s.a s.c s.R s.cost) (hl : l.length = n) (hn : n < 1099511627776)
    (hb : Blk w g t (l.map Stpr.v).toArray) (hS : ¬ S g) (h : Dq S w w db p) (hk : K S w) (hm : p.sm (costs l)) :
    Calls Try.prog 52 #[.slice (some ⟨g, 0, none⟩) n cap] w fun e w' => e = .returned (.int .i64 (seqR (l.map (·.R)) p).2) ∧ Dq S w w' db (seqR (l.map (·.R)) p).1 := by
  have hc := chain_steps (o := 0) hK l 0 S w p hs (fun j hj => by
    simp [hj]) hb hS h hk hm
  refine (all_ok w g 0 n cap _ _ (by simpa using hl) hn hc).mono ?_
  rintro e w' ⟨x, rfl, rfl, h2⟩
  exact ⟨rfl, h2⟩
end Go.Proofs.Ytegcbdfilkecpaa
/- The journal: pages put into the database; no condition but on the texts' lengths and the counts. -/
namespace Go.Proofs.Ytegcbdfilkecpaa
open Go.RowKit

theorem runS_at (a b : List Stp) (s : Stp) (p : Pl) (h0 : (p.runS a).2 = 0) : p.runS (a ++ s :: b) = if (p.runS a).1.stE s = 0 then ((p.runS a).1.stP s).runS b else ((p.runS a).1.stP s, (p.runS a).1.stE s) := by
  rw [runS_append, if_pos h0, runS_cons]
theorem Rows.keepS {S : Nat → Prop} {w w' : World} {A : Option Addr} {n sz : Nat} {xs : List (List Value)} (h : Rows w A n sz xs) (k : Kp S w w') (hA : ∀ g o, A = some ⟨g, o, none⟩ → 0 < n → ¬ S g) : Rows w' A n sz xs :=
  ⟨h.1, h.2.1, fun hn => by
    obtain ⟨g, o, t, cs, e, hb, hs, hc⟩ := h.2.2 hn
    exact ⟨g, o, t, cs, e, hb.keep k (hA g o e hn), hs, hc⟩⟩
/-- the list of pages is none of the disk's blocks -/
def Apart (S : Nat → Prop) (A : Option Addr) (n : Nat) : Prop := ∀ g o, A = some ⟨g, o, none⟩ → 0 < n → ¬ S g
theorem PgsAt.lt {w : World} {A : Option Addr} {n : Nat} {l : List Pg} (h : PgsAt w A n l) {g o : Nat} (e : A = some ⟨g, o, none⟩) (hn : 0 < n) : g < w.heap.size := by
  obtain ⟨g', o', t, cs, e', hb, hs, hc⟩ := h.2.2 hn
  rw [e] at e'
  injection e' with e'
  injection e' with e1 e2
  subst e1
  exact hb.lt
structure PgsOk (l : List Pg) : Prop where
  ok : ∀ x ∈ l, PgOk x
  n : ∀ x ∈ l, 1 ≤ x.n ∧ x.n ≤ 4096
theorem pg_by {w : World} {g : Nat} {t : TypeId} {x : Pg} (h : Blk w g t (pgA x)) (hx : PgOk x) : byAt w g 1 256 ∧ byRd w g 1 256 = x.b := by
  have hc : ∀ j, j < 256 → w.cell? ⟨g, 1 + j, none⟩ = some (.int .u8 (x.b[j]?.getD 0)) := by
    intro j hj
    rw [h.cell]
    unfold pgA pgL
    rw [List.getElem?_toArray, Nat.add_comm 1 j, List.getElem?_cons_succ, List.getElem?_map, List.getElem?_eq_getElem (by rw [hx.len]; exact hj)]
    rfl
  refine ⟨fun j hj => ⟨_, hc j hj⟩, ?_⟩
  unfold byRd
  apply List.ext_getElem
  · simp [hx.len]
  · intro j h1 h2
    have hj : j < 256 := by simpa using h1
    simp only [List.getElem_map, List.getElem_range]
    rw [hc j hj, List.getElem?_eq_getElem h2]
    rfl
section
variable {S : Nat → Prop} {W0 w : World} {db : Nat} {p : Pl}
set_option maxRecDepth 100000 in
theorem put1_q (h : Dq S w w db p) (n : Int) (hn : 0 ≤ n ∧ n ≤ 4096) (Bd Bc : Nat) (hd : w.cell? ⟨Bd, 0, none⟩ = some (ptrV db)) (hc : w.cell? ⟨Bc, 0, none⟩ = some (.int .i64 n)) (hm : p.sm 20000) :
    Calls Try.prog 117 #[.pointer (some ⟨Bd, 0, none⟩), .pointer (some ⟨Bc, 0, none⟩)] w fun e w' => e = .returned (.int .i64 (p.truncE nmDb (n * 256))) ∧ Dq S w w' db (p.trunc nmDb (n * 256)) := by
  have H := Lib.hid h
  have HM := Lib.hid hm
  have hw : IntKind.i64.wrap (n * 256) = n * 256 := by rw [IntKind.wrap_i64]; omega
  have HN := Lib.hid (show -9223372036854775808 ≤ n * 256 ∧ n * 256 ≤ 9223372036854775807 by omega)
  clear h hm hn
  unfold ptrV at hd
  go_enter Try.func117, Try.ntmps117
  go_wp2_with fail
  refine (show Calls _ _ #[ptrV db, .string nmDb, .int .i64 (n * 256)] _ _ from trunc_q H.out nmDb (n * 256) HN.out nmDb_le HM.out).mono ?_
  rintro e w4 ⟨rfl, h4⟩
  have H4 := Lib.hid h4
  clear h4
  go_wp2_with fail
  go_ret
  exact ⟨rfl, H4.out⟩
set_option maxRecDepth 100000 in
theorem put2_q (h : Dq S w w db p) (Bd : Nat) (hd : w.cell? ⟨Bd, 0, none⟩ = some (ptrV db)) (hm : p.sm 20000) :
    Calls Try.prog 118 #[.pointer (some ⟨Bd, 0, none⟩)] w fun e w' => e = .returned (.int .i64 p.syncE) ∧ Dq S w w' db (p.sync nmDb) := by
  have H := Lib.hid h
  have HM := Lib.hid hm
  clear h hm
  unfold ptrV at hd
  go_enter Try.func118, Try.ntmps118
  go_wp2_with fail
  refine (show Calls _ _ #[ptrV db, .string nmDb] _ _ from sync_q H.out nmDb nmDb_le HM.out).mono ?_
  rintro e w4 ⟨rfl, h4⟩
  have H4 := Lib.hid h4
  clear h4
  go_wp2_with fail
  go_ret
  exact ⟨rfl, H4.out⟩
def PuRel (S : Nat → Prop) (w1 : World) (db : Nat) (p : Pl) (l : List Pg) (v : Value) (wr : World) : Prop :=
  ∃ k : Nat, v = .int .i64 (k : Int) ∧ k ≤ l.length ∧ (p.runS (homeW (l.take k))).2 = 0 ∧ Dq S w1 wr db (p.runS (homeW (l.take k))).1
theorem homeS_at (count : Int) (l : List Pg) (k : Nat) (x : Pg) (hk : l[k]? = some x) : homeS count l = homeW (l.take k) ++ ⟨0, nmDb, (x.n - 1) * 256, x.b⟩ :: (homeW (l.drop (k + 1)) ++ [⟨1, nmDb, count * 256, []⟩, ⟨2, nmDb, 0, []⟩]) := by
  unfold homeS
  obtain ⟨h1, h2⟩ := List.getElem?_eq_some_iff.1 hk
  have e : l = l.take k ++ x :: l.drop (k + 1) := by rw [← h2, ← List.drop_eq_getElem_cons h1, List.take_append_drop]
  conv => lhs; rw [e]
  unfold homeW
  rw [List.map_append, List.map_cons, List.append_assoc, List.cons_append]
theorem homeW_next (l : List Pg) (k : Nat) (x : Pg) (hk : l[k]? = some x) : homeW (l.take (k + 1)) = homeW (l.take k) ++ [⟨0, nmDb, (x.n - 1) * 256, x.b⟩] := by
  unfold homeW
  rw [List.take_add_one, hk, List.map_append]
  rfl
theorem home_step0 (count : Int) {l : List Pg} {k : Nat} {x : Pg} {q : Pl} (hk : l[k]? = some x) (h0 : (p.runS (homeW (l.take k))).2 = 0) (hq : (p.runS (homeW (l.take k))).1 = q) :
    (q.writeE nmDb ((x.n - 1) * 256) x.b = 0 → p.runS (homeW (l.take (k + 1))) = (q.write nmDb ((x.n - 1) * 256) x.b, 0)) ∧
    (q.writeE nmDb ((x.n - 1) * 256) x.b ≠ 0 → p.runS (homeS count l) = (q.write nmDb ((x.n - 1) * 256) x.b, q.writeE nmDb ((x.n - 1) * 256) x.b)) := by
  subst hq
  refine ⟨fun h => ?_, fun h => ?_⟩
  · rw [homeW_next l k x hk, runS_at _ _ _ _ h0, stE0, if_pos h, stP0, runS_nil]
  · rw [homeS_at count l k x hk, runS_at _ _ _ _ h0, stE0, if_neg h, stP0]
attribute [local go_sem ↓] loadPg storePg allocPg load26 store26 conv64
set_option maxRecDepth 100000 in
set_option maxHeartbeats 1600000 in
theorem jput_q (h : Dq S w w db p) (count : Int) (hc : 0 ≤ count ∧ count ≤ 4096) (A : Option Addr) (n cap : Nat) (l : List Pg) (hl : PgsAt w A n l) (hA : Apart S A n) (hok : PgsOk l) (hm : p.sm (20000 * (n + 3))) (hnn : n < 1099511627776) :
    Calls Try.prog 56 #[.agg #[ptrV db], .int .i64 count, .slice A n cap] w fun e w' => e = .returned (.int .i64 (p.runS (homeS count l)).2) ∧ Dq S w w' db (p.runS (homeS count l)).1 := by
  have H := Lib.hid h
  have HM := Lib.hid hm
  have HC := Lib.hid hc
  have HL := Lib.hid hl
  have HA := Lib.hid hA
  have HOK := Lib.hid hok
  have HLN := Lib.hid hl.len
  have hkb : Kp NoB w ((w.alloc (.cells #[ptrV db] 98)).alloc (.cells #[.int .i64 count] 3)) := ((Kp.refl _ _).alloc _).alloc _
  have hbd : Blk ((w.alloc (.cells #[ptrV db] 98)).alloc (.cells #[.int .i64 count] 3)) w.heap.size 98 #[ptrV db] := (Blk.new _ _ _).alloc _
  have hbc : Blk ((w.alloc (.cells #[ptrV db] 98)).alloc (.cells #[.int .i64 count] 3)) (w.heap.size + 1) 3 #[.int .i64 count] := Blk.newAt _ _ _ _ (by simp)
  obtain ⟨w1, hw1⟩ : ∃ w1, (w.alloc (.cells #[ptrV db] 98)).alloc (.cells #[.int .i64 count] 3) = w1 := ⟨_, rfl⟩
  have hs1 : w1.heap.size = w.heap.size + 1 + 1 := by rw [← hw1]; simp
  rw [hw1] at hkb hbd hbc
  have HKB := Lib.hid hkb
  have HBD := Lib.hid hbd
  have HBC := Lib.hid hbc
  have HS1 := Lib.hid hs1
  clear h hm hc hl hA hok hkb hbd hbc hs1
  unfold ptrV at hw1 ⊢
  go_enter Try.func56, Try.ntmps56
  go_wp2_with fail
  clear hw1
  go_loopw [12] (fun v wr => PuRel S w1 db p l v wr) (fun v _ => n - (intOf v).toNat)
  case atStart => exact ⟨0, rfl, Nat.zero_le _, rfl, H.out.base1 HKB.out⟩
  case round =>
    obtain ⟨k, rfl, hk, hr0, hq⟩ := hrel
    have HQ := Lib.hid hq
    have HR0 := Lib.hid hr0
    have hKl := HL.out.keep HKB.out
    have hlr : PgsAt wr A n l := Rows.keepS hKl hq.kp (fun g o e hn => HA.out g o e hn)
    have cd : wr.cell? ⟨w.heap.size, 0, none⟩ = some (.pointer (some ⟨db, 0, none⟩)) := by
      rw [hq.kp.cell HBD.out.lt (fun q => by have := H.out.lt _ q; omega), HBD.out.cell]; rfl
    by_cases hlt : k < n
    · have hkk : (k : Int) < (n : Int) := by omega
      obtain ⟨g, o, rfl, hg, t1, r1⟩ := hlr.at_ k hlt
      obtain ⟨x, hx⟩ : ∃ x, l[k]? = some x := ⟨_, List.getElem?_eq_getElem (by rw [HLN.out]; exact hlt)⟩
      have hxe : l[k]'(by rw [HLN.out]; exact hlt) = x := (List.getElem?_eq_some_iff.1 hx).2
      rw [hxe] at r1
      have hxm : x ∈ l := List.mem_of_getElem? hx
      have hxo := HOK.out.ok x hxm
      have hxn := HOK.out.n x hxm
      have HX := Lib.hid hx
      have hb := Blk.new wr 113 (pgA ⟨0, zeros 256⟩)
      have hb2 := hb.whole (pgA x) (by rw [pgA_size hxo]; rfl)
      have t2 := hb.thereAll 257 rfl
      have o1 := pgA_ones x
      have s1 := pgA_size hxo
      have hc0 := hb2.cell 0
      rw [show (pgA x)[0]? = some (.int .i64 x.n) from rfl] at hc0
      obtain ⟨hby, hrd⟩ := pg_by hb2 hxo
      have hk3 : Kp NoB wr ((wr.alloc (.cells (pgA ⟨0, zeros 256⟩) 113)).setCells wr.heap.size 0 (pgA x).toList) := Kp.setCells (.inl (Nat.le_refl _)) _ _ _ ((Kp.refl _ _).alloc _)
      have hcd := (hk3.cell (block_lt_of_cell cd) (fun q => q)).trans cd
      have hG : wr.heap.size < ((wr.alloc (.cells (pgA ⟨0, zeros 256⟩) 113)).setCells wr.heap.size 0 (pgA x).toList).heap.size := by rw [size_setCells]; simp
      have HG := Lib.hid hG
      have HK3 := Lib.hid hk3
      have HXO := Lib.hid hxo
      have HXN := Lib.hid hxn
      generalize hRR : pgA x = RR at r1 o1 s1 hc0 hby hrd hcd HK3 HG ⊢
      clear hRR hk3 hxo hxn hq hr0 hlr hKl hb hb2 hG hx hxe hxm cd
      go_upto_region 4 with fail
      generalize hW3 : (wr.alloc (.cells (pgA ⟨0, zeros 256⟩) 113)).setCells wr.heap.size 0 RR.toList = w3 at hc0 hby hrd hcd HK3 HG ⊢
      obtain ⟨G, hGG⟩ : ∃ G, wr.heap.size = G := ⟨_, rfl⟩
      rw [hGG] at hc0 hby hrd HG ⊢
      have HGG := Lib.hid hGG
      clear hGG hW3 t2 t1 r1
      have hwn : IntKind.i64.wrap (x.n - 1) = x.n - 1 := by have := HXN.out; rw [IntKind.wrap_i64]; omega
      have hwm : IntKind.i64.wrap ((x.n - 1) * 256) = (x.n - 1) * 256 := by have := HXN.out; rw [IntKind.wrap_i64]; omega
      have HSZ : Hid ((strOf x.b).size ≤ maxLen) := Lib.hid (by rw [strOf_size, HXO.out.len]; decide)
      have HSI : Hid (strI (strOf x.b) = x.b) := Lib.hid (strI_strOf _ HXO.out.rng)
      obtain ⟨S2, hq2, hS2⟩ := HQ.out.base
      have HQ2 := Lib.hid hq2
      have HS2 := Lib.hid hS2
      have H3 := Lib.hid (hq2.base1 HK3.out.drew)
      have HM2 := Lib.hid (sm_run (homeW (l.take k)) (k := 20000 * 3) (sm_mono HM.out (by simp [homeW]; omega)))
      obtain ⟨q, hqq⟩ : ∃ q, (p.runS (homeW (l.take k))).1 = q := ⟨_, rfl⟩
      rw [hqq] at HM2 H3
      have HQQ := Lib.hid hqq
      have HCD := Lib.hid hcd
      have HC0 := Lib.hid hc0
      have HBY := Lib.hid hby
      have HRD := Lib.hid hrd
      obtain ⟨xn, hxn⟩ : ∃ xn, x.n = xn := ⟨_, rfl⟩
      obtain ⟨xb, hxb⟩ : ∃ xb, x.b = xb := ⟨_, rfl⟩
      rw [hxn] at hc0 hwn hwm HC0
      rw [hxb] at hrd HSZ HSI HRD
      have HXN2 := Lib.hid hxn
      have HXB2 := Lib.hid hxb
      have HNW : Hid (¬ S2 w.heap.size) := Lib.hid (fun z => by
        have h5 := HS1.out
        rcases hS2 _ z with z | z
        · have := H.out.lt _ z; omega
        · omega)
      clear hq2 hS2 hqq hxn hxb
      go_region_held3 (fun w' => w'.cell? ⟨w.heap.size, 0, none⟩ = some (.pointer (some ⟨db, 0, none⟩)) ∧ w'.cell? ⟨G, 0, none⟩ = some (.int .i64 xn) ∧ byAt w' G 1 256 ∧ byRd w' G 1 256 = xb)
        (first | exact ⟨hcd, hc0, hby, hrd⟩ | exact ⟨he1, he0, he2⟩ | go_keep)
        (first
          | (go_at_call 78; go_must (refine (show Calls _ _ #[ptrV db, .string nmDb, .int .i64 ((xn - 1) * 256), .string (strOf xb)] _ _ from write_q H3.out nmDb ((xn - 1) * 256) (strOf xb) nmDb_le HSZ.out (sm_mono HM2.out (by omega))).mono ?_); rintro e w4 ⟨rfl, h4⟩; rw [HSI.out] at h4; rw [HSI.out]; have H4 := Lib.hid h4
             have he1 := (h4.kp.cell (Nat.lt_of_lt_of_le (block_lt_of_cell HCD.out) (Nat.le_refl _)) HNW.out).trans HCD.out
             have hn0 : ¬ S2 G := fun z => by have := HQ2.out.lt _ z; have := HGG.out; omega
             have he0 := (h4.kp.cell HG.out hn0).trans HC0.out
             have he2 := by_keep h4.kp HG.out hn0 HBY.out HRD.out
             clear h4 hn0))
      clear he0 he1 he2 hcd hc0 hby hrd
      have hw1x := home_step0 (p := p) count HX.out HR0.out HQQ.out
      rw [HXN2.out, HXB2.out] at hw1x
      have h41 := Dq.tr (w0 := w1) H4.out (HQ.out.kp.trans HK3.out.drew (fun _ _ z => z.elim)) HS2.out HQ.out.lt
      have HW1x := Lib.hid hw1x
      have H41 := Lib.hid h41
      clear hw1x h41
      obtain ⟨er, her⟩ : ∃ er, q.writeE nmDb ((xn - 1) * 256) xb = er := ⟨_, rfl⟩
      rw [her] at HW1x ⊢
      clear her
      by_cases h0 : er = 0
      · subst h0
        go_wp2_with fail
        go_roundw
        case rel =>
          have h5 := HW1x.out.1 rfl
          refine ⟨k + 1, by go_num, by have := HLN.out; omega, by rw [h5], ?_⟩
          rw [h5]
          exact H41.out
        case measure => simp [intOf]; omega
      · have hb0 : (er == 0) = false := by simpa using h0
        have hb1 : (er != 0) = true := by simpa using h0
        have H0 := Lib.hid h0
        go_wp2_with fail
        go_ret
        rw [HW1x.out.2 H0.out]
        exact ⟨rfl, Dq.up (H.out.base1 HKB.out) HKB.out H.out.lt H41.out⟩
    · have hkk : ¬ (k : Int) < (n : Int) := by omega
      obtain rfl : k = n := by have := HLN.out; omega
      have HT : Hid (l.take k = l) := Lib.hid (List.take_of_length_le (by rw [HLN.out]; omega))
      rw [HT.out] at HR0
      have hq1 := HQ.out
      rw [HT.out] at hq1
      have HQ1 := Lib.hid hq1
      have hn0 : ¬ S w.heap.size := fun q => by have := H.out.lt _ q; omega
      have hn1 : ¬ S (w.heap.size + 1) := fun q => by have := H.out.lt _ q; omega
      have hbd := HBD.out.keep hq1.kp hn0
      have hbc := HBC.out.keep hq1.kp hn1
      have HB := Lib.hid hbd
      have HBC2 := Lib.hid hbc
      obtain ⟨S2, hq2, hS2⟩ := hq1.base
      have HNS : Hid (¬ S2 w.heap.size ∧ ¬ S2 (w.heap.size + 1)) := Lib.hid (by
        have h5 := HS1.out
        refine ⟨fun z => ?_, fun z => ?_⟩
        · rcases hS2 _ z with z | z
          · exact hn0 z
          · omega
        · rcases hS2 _ z with z | z
          · exact hn1 z
          · omega)
      have HQ2 := Lib.hid hq2
      have HS2 := Lib.hid hS2
      clear hq hq1 hn0 hn1 hbd hbc hq2 hS2 cd hlr
      go_wp2_with fail
      obtain ⟨q, hq⟩ : ∃ q, (p.runS (homeW l)).1 = q := ⟨_, rfl⟩
      have h2 := HQ2.out
      have hm2 := sm_run (homeW l) (k := 40000) (sm_mono HM.out (by simp [homeW, HLN.out]; omega))
      rw [hq] at hm2
      rw [hq] at h2
      have hb := Blk.new wr 178 #[.func (.func 117) #[] #[.pointer (some ⟨w.heap.size, 0, none⟩), .pointer (some ⟨w.heap.size + 1, 0, none⟩)], .func (.func 118) #[] #[.pointer (some ⟨w.heap.size, 0, none⟩)]]
      have hka := (Kp.refl NoB wr).alloc (.cells #[.func (.func 117) #[] #[.pointer (some ⟨w.heap.size, 0, none⟩), .pointer (some ⟨w.heap.size + 1, 0, none⟩)], .func (.func 118) #[] #[.pointer (some ⟨w.heap.size, 0, none⟩)]] 178)
      have hbd3 := HB.out.keep hka (fun z => z)
      have hbc3 := HBC2.out.keep hka (fun z => z)
      have hn3 : ¬ S2 wr.heap.size := fun z => by have := h2.lt _ z; omega
      refine (all_steps (n := 2) (cap := 2) ((kept_blk w.heap.size 98 #[ptrV db]).and (kept_blk (w.heap.size + 1) 3 #[.int .i64 count]))
        [⟨117, #[], #[.pointer (some ⟨w.heap.size, 0, none⟩), .pointer (some ⟨w.heap.size + 1, 0, none⟩)], fun p => (p.trunc nmDb (count * 256), p.truncE nmDb (count * 256)), 20000⟩,
         ⟨118, #[], #[.pointer (some ⟨w.heap.size, 0, none⟩)], fun p => (p.sync nmDb, p.syncE), 20000⟩]
        S2 _ q ?_ rfl (by omega) hb hn3 (h2.base1 hka) ⟨⟨hbd3, HNS.out.1⟩, ⟨hbc3, HNS.out.2⟩⟩ hm2).mono ?_
      · intro s hs
        simp only [List.mem_cons, List.not_mem_nil, or_false] at hs
        rcases hs with rfl | rfl
        · exact ⟨enters_of Try.func117 (by kernel_rfl) rfl, fun S w p h hk hm => put1_q h count HC.out _ _ (by rw [hk.1.1.cell]; rfl) (by rw [hk.2.1.cell]; rfl) hm, fun p k hm => sm_trunc _ _ hm⟩
        · exact ⟨enters_of Try.func118 (by kernel_rfl) rfl, fun S w p h hk hm => put2_q h _ (by rw [hk.1.1.cell]; rfl) hm, fun p k hm => sm_sync _ hm⟩
      · rintro e w4 ⟨rfl, h4⟩
        have hz : seqR [fun p => (p.trunc nmDb (count * 256), p.truncE nmDb (count * 256)), fun p => (p.sync nmDb, p.syncE)] q = p.runS (homeS count l) := by
          unfold homeS
          rw [runS_append, if_pos HR0.out, hq, runS_cons, stE1, stP1]
          unfold seqR
          simp only
          split
          · rw [runS_cons, stE2, stP2, runS_nil]
            unfold seqR
            simp only
            split
            · rfl
            · rfl
          · rfl
        rw [show ([⟨117, #[], #[.pointer (some ⟨w.heap.size, 0, none⟩), .pointer (some ⟨w.heap.size + 1, 0, none⟩)], fun p => (p.trunc nmDb (count * 256), p.truncE nmDb (count * 256)), 20000⟩,
         ⟨118, #[], #[.pointer (some ⟨w.heap.size, 0, none⟩)], fun p => (p.sync nmDb, p.syncE), 20000⟩] : List Stpr).map (·.R) = [fun p => (p.trunc nmDb (count * 256), p.truncE nmDb (count * 256)), fun p => (p.sync nmDb, p.syncE)] from rfl, hz] at h4
        rw [show ([⟨117, #[], #[.pointer (some ⟨w.heap.size, 0, none⟩), .pointer (some ⟨w.heap.size + 1, 0, none⟩)], fun p => (p.trunc nmDb (count * 256), p.truncE nmDb (count * 256)), 20000⟩,
         ⟨118, #[], #[.pointer (some ⟨w.heap.size, 0, none⟩)], fun p => (p.sync nmDb, p.syncE), 20000⟩] : List Stpr).map (·.R) = [fun p => (p.trunc nmDb (count * 256), p.truncE nmDb (count * 256)), fun p => (p.sync nmDb, p.syncE)] from rfl, hz]
        have h5 := Dq.tr (w0 := w1) h4 (HQ1.out.kp.trans hka (fun _ _ z => z.elim)) HS2.out HQ1.out.lt
        have H5 := Lib.hid (Dq.up (H.out.base1 HKB.out) HKB.out H.out.lt h5)
        clear hq h2 hm2 hb hka hbd3 hbc3 hn3 h4 hz h5
        go_wp2_with fail
        go_ret
        exact ⟨rfl, H5.out⟩
end
end Go.Proofs.Ytegcbdfilkecpaa
/- The reference's disk: Find, Seen, step; no condition. -/
namespace Go.Proofs.Ytegcbdfilkecpaa
open Go.RowKit

set_option maxRecDepth 100000 in
set_option maxHeartbeats 800000 in
theorem rstep_ok (w : World) (d : Rd) (p : Pl) (h : Rf w d p) :
    Calls Try.prog 135 #[rdV d p] w fun e w' => e = .returned (.tuple #[rdV d p.step, .int .i64 p.stepE]) ∧ Kp NoB w w' := by
  have hc := h.crash
  have hw1 : IntKind.i64.wrap (p.steps + 1) = wrp (p.steps + 1) := rfl
  unfold rdV Pl.stepE Pl.step
  clear h
  generalize p.down = dn
  generalize p.crash = cr at hc
  rcases (show cr = 0 ∨ cr = 1 ∨ 1 < cr by omega) with rfl | rfl | c1
  · simp only [show ¬ (0 : Int) = 1 by omega, show ¬ (0 : Int) < 0 by omega, if_false]
    go_enter Try.func135, Try.ntmps135
    go_wp2_with fail
    refine bodyPost_ret (ret_cell_tmp rfl _ _ _ _ _ _ rfl (Blk.top (by simp)) Try.underlying56 rfl (by exact infoRd) _ rfl) rfl ⟨rfl, ((Kp.refl NoB w).alloc _).alloc _⟩
  · simp only [show (0 : Int) < 1 by omega, if_true]
    go_enter Try.func135, Try.ntmps135
    go_wp2_with fail
    refine bodyPost_ret (ret_cell_tmp rfl _ _ _ _ _ _ rfl (Blk.top (by simp)) Try.underlying56 rfl (by exact infoRd) _ rfl) rfl ⟨rfl, ((Kp.refl NoB w).alloc _).alloc _⟩
  · have c2 : 0 < cr := by omega
    have c3 : ¬ cr = 1 := by omega
    have c4 : ¬ cr - 1 = 0 := by omega
    have hw2 : IntKind.i64.wrap (cr - 1) = cr - 1 := by rw [IntKind.wrap_i64]; omega
    simp only [c2, c3, if_true, if_false]
    go_enter Try.func135, Try.ntmps135
    go_wp2_with fail
    refine bodyPost_ret (ret_cell_tmp rfl _ _ _ _ _ _ rfl (Blk.top (by simp)) Try.underlying56 rfl (by exact infoRd) _ rfl) rfl ⟨rfl, ((Kp.refl NoB w).alloc _).alloc _⟩
def findI (fs : List Rfile) (s : ByteArray) : Int := match fs.findIdx? fun f => decide (f.nm = s) with | some i => i | none => -1
def FindRel (fs : List Rfile) (s : ByteArray) (v : Value) : Prop := ∃ k : Nat, v = .int .i64 (k : Int) ∧ k ≤ fs.length ∧ ∀ f ∈ fs.take k, f.nm ≠ s
theorem findI_at {fs : List Rfile} {s : ByteArray} {k : Nat} {f : Rfile} (h : ∀ x ∈ fs.take k, x.nm ≠ s) (hf : fs[k]? = some f) (he : f.nm = s) : findI fs s = k ∧ findR fs s = some f := by
  obtain ⟨hk, rfl⟩ := List.getElem?_eq_some_iff.1 hf
  have hn : ∀ j (hj : j < k), (decide (fs[j].nm = s)) = false := fun j hj => by
    have := h fs[j] (List.mem_of_getElem? (i := j) (by rw [List.getElem?_take_of_lt hj, List.getElem?_eq_getElem (by omega)]))
    simpa using this
  have e : (fs.findIdx? fun f => decide (f.nm = s)) = some k := by
    rw [List.findIdx?_eq_some_iff_getElem]
    exact ⟨hk, by simpa using he, fun j hj => by have := hn j hj; simpa using this⟩
  constructor
  · unfold findI
    rw [e]
  · unfold findR
    rw [List.find?_eq_some_iff_getElem]
    exact ⟨by simpa using he, k, hk, rfl, fun j hj => by have := hn j hj; simpa using this⟩
theorem findI_none {fs : List Rfile} {s : ByteArray} (h : ∀ x ∈ fs, x.nm ≠ s) : findI fs s = -1 ∧ findR fs s = none := by
  constructor
  · unfold findI
    rw [List.findIdx?_eq_none_iff.2 (fun x hx => by simpa using h x hx)]
  · unfold findR
    rw [List.find?_eq_none]
    intro x hx
    simpa using h x hx
set_option maxRecDepth 100000 in
set_option maxHeartbeats 800000 in
theorem find_raw (w : World) (A : Option Addr) (n c : Nat) (fs : List Rfile) (b0 b1 : Bool) (pA : Option Addr) (pn pc : Nat) (x4 x5 x6 x7 : Int) (s : ByteArray) (hF : Rows w A n 3 (fs.map rfCells)) (hn : n ≤ 9223372036854775807) :
    Calls Try.prog 82 #[.agg #[.bool b0, .bool b1, .slice A n c, .slice pA pn pc, .int .i64 x4, .int .i64 x5, .int .i64 x6, .int .i64 x7], .string s] w fun e w' => e = .returned (.int .i64 (findI fs s)) ∧ Kp NoB w w' := by
  have HF := Lib.hid hF
  have HFL : Hid (fs.length = n) := Lib.hid (by have := hF.1; simpa using this)
  have HN := Lib.hid hn
  clear hF hn
  go_enter Try.func82, Try.ntmps82
  go_wp2_with fail
  go_loop [5] (fun v => FindRel fs s v) (fun v => n - (intOf v).toNat)
  case atStart => exact ⟨0, rfl, Nat.zero_le _, by simp⟩
  case round =>
    obtain ⟨k, rfl, hk, hlk⟩ := hrel
    have HK := Lib.hid hk
    have HLK := Lib.hid hlk
    clear hk hlk
    by_cases hlt : k < n
    · have hkl : k < fs.length := by have := HFL.out; omega
      obtain ⟨f, hf⟩ : ∃ f, fs[k] = f := ⟨_, rfl⟩
      have hfk : fs[k]? = some f := by rw [List.getElem?_eq_getElem hkl, hf]
      have HFK := Lib.hid hfk
      obtain ⟨g, o, rfl, hg, hc⟩ := HF.out.cell (k := k) (x := rfCells f) (by rw [List.getElem?_map, hfk]; rfl)
      have c0 := hc 0 _ rfl
      rw [Nat.add_zero] at c0
      have hkk : (k : Int) < (n : Int) := by omega
      have hnn := HN.out
      clear hc hf hfk hkl
      by_cases he : f.nm = s
      · have hb := str_eqB f.nm s
        rw [decide_eq_true he] at hb
        have HE := Lib.hid (findI_at HLK.out HFK.out he).1
        clear he
        go_wp2_with fail
        go_ret
        exact ⟨by rw [HE.out]; rfl, (Kp.refl NoB w).alloc _⟩
      · have hb := str_eqB f.nm s
        rw [decide_eq_false he] at hb
        have HE := Lib.hid he
        clear he
        go_wp2_with fail
        go_round
        case rel => exact ⟨k + 1, by go_num, by have := HFL.out; omega, fun x hx => by
          rw [List.take_add_one, HFK.out] at hx
          rcases List.mem_append.1 hx with q | q
          · exact HLK.out x q
          · simp only [Option.toList_some, List.mem_singleton] at q
            rw [q]
            exact HE.out⟩
        case measure => simp [intOf]; omega
    · have hlt' : ¬ (k : Int) < (n : Int) := by omega
      go_wp2_with fail
      go_ret
      exact ⟨by rw [(findI_none (fun x hx => HLK.out x (by rw [List.take_of_length_le (by have := HFL.out; omega)]; exact hx))).1]; rfl, (Kp.refl NoB w).alloc _⟩
end Go.Proofs.Ytegcbdfilkecpaa
