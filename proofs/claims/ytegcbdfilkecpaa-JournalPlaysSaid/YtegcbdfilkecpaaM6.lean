/- Texts of this proof, one behind the other: lemmas and contracts; each says its own conditions. -/
import Derived.Test.YtegcbdfilkecpaaM4
import Derived.Test.YtegcbdfilkecpaaM5
/- The journal: a page of the database, is the journal hot; no condition but on the texts' lengths. -/
namespace Go.Proofs.Ytegcbdfilkecpaa
open Go.RowKit

section
variable {S : Nat → Prop} {W0 w : World} {db : Nat} {p : Pl}
set_option maxRecDepth 100000 in
set_option maxHeartbeats 800000 in
theorem hot_q (h : Dq S W0 w db p) : Calls Try.prog 15 #[ptrV db] w fun e w' => e = .returned (.bool p.jhot) ∧ Kp NoB w w' := by
  have H := Lib.hid h
  rcases hdn : p.down with _ | _
  · have HD := Lib.hid hdn
    have hw : p.wrong = 0 := by unfold Pl.wrong; rw [hdn]; rfl
    have HW := Lib.hid hw
    have hj : p.jhot = decide ((p.jhead).a ≠ 0) := by unfold Pl.jhot; rw [hdn]; simp
    have HJ := Lib.hid hj
    clear h hdn hw hj
    unfold ptrV
    go_enter Try.func15, Try.ntmps15
    go_wp2_with fail
    refine (show Calls _ _ #[ptrV db] _ _ from ready_q H.out).mono ?_
    rintro e w2 ⟨rfl, hk⟩
    rw [HW.out]
    have HK := Lib.hid hk
    clear hk
    go_wp2_with fail
    refine (show Calls _ _ #[.agg #[ptrV db]] _ _ from head_q (H.out.keep HK.out)).mono ?_
    rintro e w3 ⟨rfl, hk3⟩
    rw [show p.jheadD = p.jhead by unfold Pl.jheadD; rw [HD.out]; rfl]
    have HK3 := Lib.hid hk3
    clear hk3
    have hix : ∀ W, (Instr.index 102 (.agg (w4A p.jhead)) (.int .i64 0)).run Try.prog W = .ok (.int .u32 p.jhead.a) W := fun W => by
      have := indexW4 p.jhead 0 (by omega) W
      simpa [W4.at_] using this
    generalize p.jhead.a = a at HJ hix
    generalize w4A p.jhead = RR at hix ⊢
    by_cases ha : a = 0
    · subst ha
      go_wp2_with fail
      go_ret
      exact ⟨by rw [HJ.out]; rfl, HK.out.trans HK3.out (fun _ _ q => q)⟩
    · have ha1 : (a != 0) = true := by simpa using ha
      have ha2 : (a == 0) = false := by simpa using ha
      go_wp2_with fail
      go_ret
      exact ⟨by rw [HJ.out, decide_eq_true ha]; rfl, HK.out.trans HK3.out (fun _ _ q => q)⟩
  · have hw : p.wrong = 7 := by unfold Pl.wrong; rw [hdn]; rfl
    have HW := Lib.hid hw
    have hj : p.jhot = false := by unfold Pl.jhot; rw [hdn]; simp
    have HJ := Lib.hid hj
    clear h hdn hw hj
    unfold ptrV
    go_enter Try.func15, Try.ntmps15
    go_wp2_with fail
    refine (show Calls _ _ #[ptrV db] _ _ from ready_q H.out).mono ?_
    rintro e w2 ⟨rfl, hk⟩
    rw [HW.out]
    have HK := Lib.hid hk
    clear hk
    go_wp2_with fail
    go_ret
    exact ⟨by rw [HJ.out]; rfl, HK.out⟩
attribute [local go_sem ↓] load26 store26 alloc26 build26
set_option maxRecDepth 100000 in
set_option maxHeartbeats 800000 in
theorem wpage_q (h : Dq S W0 w db p) (n : Nat) (h1 : 1 ≤ n) (h2 : n ≤ p.jcount) : Calls Try.prog 49 #[.agg #[ptrV db], .int .i64 n] w fun e w' => e = .returned (.agg (bytesV (pageOf (p.seen nmDb) n))) ∧ Kp NoB w w' := by
  have H := Lib.hid h
  have hle := h.seen_le nmDb
  have hdn : p.down = false := by
    rcases hd : p.down with _ | _
    · rfl
    · have : p.jcount = 0 := by unfold Pl.jcount Pl.len; rw [hd]; simp
      omega
  have hc : n * 256 ≤ (p.seen nmDb).length := by
    unfold Pl.jcount Pl.len at h2
    rw [hdn] at h2
    simp only [Bool.false_eq_true, if_false] at h2
    omega
  obtain ⟨N, hN⟩ : ∃ N : Nat, n = N + 1 := ⟨n - 1, by omega⟩
  subst hN
  have eE : p.readE ((N : Int) * 256) 256 = 0 := by
    unfold Pl.readE
    rw [hdn, if_neg (by simp), if_neg (by omega)]
  have eR : p.read nmDb ((N : Int) * 256) 256 = ((p.seen nmDb).drop (N * 256)).take 256 := by
    unfold Pl.read
    rw [eE]
    simp only [if_true]
    congr 2
  have eP : pageOf (p.seen nmDb) (N + 1) = ((p.seen nmDb).drop (N * 256)).take 256 := by
    unfold pageOf sizedF
    rw [Nat.add_sub_cancel, if_pos (by rw [List.length_drop]; omega)]
  have hr1 : (-9223372036854775808 : Int) ≤ (N : Int) * 256 ∧ (N : Int) * 256 ≤ 9223372036854775807 := by omega
  have hr2 : (-9223372036854775808 : Int) ≤ 256 ∧ (256 : Int) ≤ 9223372036854775807 := by omega
  have hrg : ∀ y ∈ ((p.seen nmDb).drop (N * 256)).take 256, 0 ≤ y ∧ y < 256 := fun y hy => h.seen_rng nmDb y (List.mem_of_mem_drop (List.mem_of_mem_take hy))
  have hll : (((p.seen nmDb).drop (N * 256)).take 256).length = 256 := by simp; omega
  have hN1 : (N : Int) ≤ 5000 := by omega
  rw [eP]
  have HE := Lib.hid eE
  have HER := Lib.hid eR
  have HR1 := Lib.hid hr1
  have HR2 := Lib.hid hr2
  generalize ((p.seen nmDb).drop (N * 256)).take 256 = l at hrg hll eR HER ⊢
  have hsz := strOf_size l
  have hsi := strI_strOf l hrg
  have HRG := Lib.hid hrg
  have HLL := Lib.hid hll
  have HSZ := Lib.hid hsz
  have HSI := Lib.hid hsi
  clear h hle hdn hc eE eR eP hr1 hr2 h1 h2 hrg hll hsz hsi
  have hw1 : IntKind.i64.wrap (((N + 1 : Nat) : Int) - 1) = (N : Int) := by rw [IntKind.wrap_i64]; omega
  have hw2 : IntKind.i64.wrap ((N : Int) * 256) = (N : Int) * 256 := by rw [IntKind.wrap_i64]; omega
  have HK0 : Hid (Kp NoB w (((w.alloc (.cells #[ptrV db] 98)).alloc (.cells zero256 24)).alloc (.cells zero256 24))) := Lib.hid ((((Kp.refl _ _).alloc _).alloc _).alloc _)
  have HB1 : Hid (Blk (((w.alloc (.cells #[ptrV db] 98)).alloc (.cells zero256 24)).alloc (.cells zero256 24)) (w.heap.size + 1) 24 zero256) := Lib.hid ((Blk.newAt _ _ _ _ (by simp)).alloc _)
  have HB2 : Hid (Blk (((w.alloc (.cells #[ptrV db] 98)).alloc (.cells zero256 24)).alloc (.cells zero256 24)) (w.heap.size + 1 + 1) 24 zero256) := Lib.hid (Blk.newAt _ _ _ _ (by simp))
  obtain ⟨m, hm⟩ : ∃ m : Int, ((N + 1 : Nat) : Int) = m := ⟨_, rfl⟩
  rw [hm] at hw1 ⊢
  clear hm
  unfold ptrV
  go_enter Try.func49, Try.ntmps49
  go_wp2_with fail
  refine (show Calls _ _ #[ptrV db, .string nmDb, .int .i64 ((N : Int) * 256), .int .i64 256] _ _ from read_q (H.out.keep HK0.out) nmDb ((N : Int) * 256) 256 nmDb_le HR1.out HR2.out).mono ?_
  rintro e w2 ⟨rfl, hk⟩
  have hB1 := HB1.out.keep hk (fun q => q)
  have hB2 := HB2.out.keep hk (fun q => q)
  have HK := Lib.hid (HK0.out.trans hk (fun _ _ q => q))
  rw [HE.out, HER.out]
  generalize strOf l = s at HSZ HSI ⊢
  have hs : s.size = 256 := by rw [HSZ.out, HLL.out]
  have hcp := copyS w2 (w.heap.size + 1 + 1) 0 256 256 s (by omega) (hB2.thereAll s.size (by rw [zero256_eq, bytesV_size, hs]; rfl))
  rw [HSI.out] at hcp
  rw [zero256_eq] at hB2
  have hB3 := hB2.bytes (la := []) (lb := zeros 256) (ld := []) (lx := l) 0 rfl (by rw [HLL.out]; rfl)
  rw [List.nil_append, List.append_nil] at hB3
  have t3 : (w2.setCells (w.heap.size + 1 + 1) 0 (l.map (Value.int .u8))).there (w.heap.size + 1 + 1) 0 256 := hB3.thereAll 256 (by rw [bytesV_size, HLL.out])
  have r3 : readRow (w2.setCells (w.heap.size + 1 + 1) 0 (l.map (Value.int .u8))) (w.heap.size + 1 + 1) 0 256 = bytesV l := hB3.readAll 256 (by rw [bytesV_size, HLL.out])
  have HK2 : Hid (Kp NoB w (w2.setCells (w.heap.size + 1 + 1) 0 (l.map (Value.int .u8)))) := Lib.hid (Kp.setCells (.inl (by omega)) _ _ _ HK.out)
  have hB4 : Blk (w2.setCells (w.heap.size + 1 + 1) 0 (l.map (Value.int .u8))) (w.heap.size + 1) 24 zero256 := hB1.farCells (by omega) _ _ _
  have t4 : (w2.setCells (w.heap.size + 1 + 1) 0 (l.map (Value.int .u8))).there (w.heap.size + 1) 0 256 := hB4.thereAll 256 (by rw [zero256_eq, bytesV_size]; rfl)
  have HB4 := Lib.hid hB4
  obtain ⟨RR, hRR⟩ : ∃ RR, bytesV l = RR := ⟨_, rfl⟩
  have o1 := bytesV_one l
  have s1 : (bytesV l).size = 256 := by rw [bytesV_size, HLL.out]
  rw [hRR] at o1 s1 r3
  have HRR := Lib.hid hRR
  have S1 := Lib.hid s1
  clear hk hB1 hB2 hB3 hB4 hRR HB1 HB2 HK0
  go_wp2_with fail
  refine bodyPost_ret (ret_cell1 rfl _ _ _ _ _ _ rfl (HB4.out.whole RR (by rw [S1.out, zero256_eq, bytesV_size]; rfl)) Try.underlying24 rfl (by rw [S1.out]; exact info26)) rfl ⟨by rw [HRR.out], ?_⟩
  exact Kp.setCells (.inl (by omega)) _ _ _ HK2.out
end
end Go.Proofs.Ytegcbdfilkecpaa
/- The journal: a head sealed and synced; no condition but on the texts' lengths and the counts. -/
namespace Go.Proofs.Ytegcbdfilkecpaa
open Go.RowKit

theorem strI_seal (v : W4) (hr : ∀ y ∈ sealB v, 0 ≤ y ∧ y < 256) : strI (strOf (sealB v)) = sealB v := strI_strOf _ hr
theorem seal_len (v : W4) : (sealB v).length = 64 := rfl
theorem seal_rng (v : W4) : ∀ y ∈ sealB v, 0 ≤ y ∧ y < 256 := by
  intro y hy
  unfold sealB W4.bytes four at hy
  simp only [List.mem_append, List.mem_cons, List.not_mem_nil, or_false] at hy
  rcases hy with h | h
  · rcases h with ((((h | h) | h) | h) | (((h | h) | h) | h)) | (((h | h) | h) | h) <;> omega
  · exact zeros_rng _ y h
theorem byRd_congr {w w' : World} {g : Nat} (h : w'.heap[g]? = w.heap[g]?) (o n : Nat) : byRd w' g o n = byRd w g o n := by
  unfold byRd
  congr 1
  funext j
  rw [World.cell?_of_block (w := w) (w' := w') (a := ⟨g, o + j, none⟩) h]
theorem byAt_congr {w w' : World} {g : Nat} (h : w'.heap[g]? = w.heap[g]?) {o n : Nat} (ha : byAt w g o n) : byAt w' g o n := fun j hj => by
  rw [World.cell?_of_block (w := w) (w' := w') (a := ⟨g, o + j, none⟩) h]
  exact ha j hj
theorem by_keep {S : Nat → Prop} {w w' : World} {g o n : Nat} {l : List Int} (k : Kp S w.drew w') (hg : g < w.heap.size) (hn : ¬ S g) (ha : byAt w g o n) (hr : byRd w g o n = l) : byAt w' g o n ∧ byRd w' g o n = l :=
  ⟨byAt_congr (w := w) (k.block g hg hn) ha, (byRd_congr (w := w) (k.block g hg hn) o n).trans hr⟩
section
variable {S : Nat → Prop} {W0 w : World} {db : Nat} {p : Pl}
attribute [local go_sem ↓] loadSec storeSec allocSec loadW4 storeW4 conv64
set_option maxRecDepth 100000 in
set_option maxHeartbeats 800000 in
theorem seal1_q (h : Dq S w w db p) (v : W4) (Bw Bd : Nat) (hn : ¬ S Bd) (hw : Blk w Bw 102 (w4A v)) (hd : w.cell? ⟨Bd, 0, none⟩ = some (ptrV db)) (hm : p.sm 20000) :
    Calls Try.prog 114 #[.pointer (some ⟨Bw, 0, none⟩), .pointer (some ⟨Bd, 0, none⟩)] w fun e w' => e = .returned (.int .i64 (p.writeE nmJn 0 (sealB v))) ∧ Dq S w w' db (p.write nmJn 0 (sealB v)) := by
  have H := Lib.hid h
  have HN := Lib.hid hn
  have HM := Lib.hid hm
  have t0 : w.there Bw 0 4 := hw.thereAll 4 rfl
  have r0 : readRow w Bw 0 4 = w4A v := hw.readAll 4 rfl
  have hlt := block_lt_of_cell hd
  have HD := Lib.hid hd
  have HLT := Lib.hid hlt
  clear h hm hw hd hlt hn
  unfold ptrV at HD
  go_enter Try.func114, Try.ntmps114
  go_wp2_with fail
  refine (seal_ok w v).mono ?_
  rintro e w2 ⟨rfl, hk⟩
  have hb := Blk.new w2 146 (bytesV (zeros 64))
  have hb2 := hb.whole (bytesV (sealB v)) (by rw [bytesV_size, bytesV_size]; rfl)
  have t1 := hb.thereAll 64 (by rw [bytesV_size]; rfl)
  have o1 := bytesV_one (sealB v)
  have s1 : (bytesV (sealB v)).size = 64 := by rw [bytesV_size]; rfl
  have hk2 : Kp NoB w ((w2.alloc (.cells (bytesV (zeros 64)) 146)).setCells w2.heap.size 0 (bytesV (sealB v)).toList) := Kp.setCells (.inl hk.size) _ _ _ (hk.alloc _)
  have hcd := (hk2.cell HLT.out (fun q => q)).trans HD.out
  have hby := hb2.byAt 0 64 (by show _ ≤ 64; omega)
  have hrd := hb2.byRd 0 64 (by show _ ≤ 64; omega)
  rw [List.drop_zero, List.take_of_length_le (by show 64 ≤ 64; omega)] at hrd
  have HK2 := Lib.hid hk2
  have HKS := Lib.hid hk.size
  clear hk hb hb2 hk2
  generalize hRR : bytesV (sealB v) = RR at t1 o1 s1 hcd hby hrd HK2 ⊢
  clear hRR
  go_upto_region 2 with fail
  generalize hW3 : (w2.alloc (.cells (bytesV (zeros 64)) 146)).setCells w2.heap.size 0 RR.toList = w3 at hcd hby hrd HK2 ⊢
  generalize hg : w2.heap.size = g at hby hrd ⊢
  have hgs : Hid (w.heap.size ≤ g ∧ g < w3.heap.size) := Lib.hid ⟨by rw [← hg]; exact HKS.out, by rw [← hg, ← hW3, size_setCells]; simp⟩
  clear hg hW3
  have hsz : (strOf (sealB v)).size ≤ maxLen := by rw [strOf_size, seal_len]; decide
  have HSZ := Lib.hid hsz
  have HSI := Lib.hid (strI_seal v (seal_rng v))
  obtain ⟨sb, hsb⟩ : ∃ sb, sealB v = sb := ⟨_, rfl⟩
  have HSB := Lib.hid hsb
  rw [hsb] at hrd HSI HSZ
  clear hsb
  have HCD := Lib.hid hcd
  have HBY := Lib.hid hby
  have HRD := Lib.hid hrd
  clear hsz
  go_region_held3 (fun w' => w'.cell? ⟨Bd, 0, none⟩ = some (.pointer (some ⟨db, 0, none⟩)) ∧ byAt w' g 0 64 ∧ byRd w' g 0 64 = sb)
    (first | exact ⟨hcd, hby, hrd⟩ | exact ⟨he1, he2⟩ | go_keep)
    (first
      | (go_at_call 78; go_must (refine (show Calls _ _ #[ptrV db, .string nmJn, .int .i64 0, .string (strOf sb)] _ _ from write_q (H.out.base1 (HK2.out.drew)) nmJn 0 (strOf sb) nmJn_le HSZ.out HM.out).mono ?_); rintro e w4 ⟨rfl, h4⟩; rw [HSI.out] at h4; rw [HSI.out]; have H4 := Lib.hid h4; have he1 := (h4.kp.cell (Nat.lt_of_lt_of_le HLT.out HK2.out.size) HN.out).trans HCD.out; have he2 := by_keep h4.kp hgs.out.2 (fun q => by have := H.out.lt _ q; have := hgs.out.1; omega) HBY.out HRD.out; clear h4))
  go_wp2_with fail
  go_ret
  rw [HSB.out]
  exact ⟨rfl, Dq.up (H.out.base1 HK2.out.drew) HK2.out.drew H.out.lt H4.out⟩
set_option maxRecDepth 100000 in
theorem jsync_q (h : Dq S w w db p) (hm : p.sm 20000) :
    Calls Try.prog 116 #[.agg #[ptrV db]] w fun e w' => e = .returned (.int .i64 p.syncE) ∧ Dq S w w' db (p.sync nmJn) := by
  have H := Lib.hid h
  have HM := Lib.hid hm
  have HK := Lib.hid ((Kp.refl NoB w).alloc (.cells #[ptrV db] 98))
  clear h hm
  unfold ptrV at HK ⊢
  go_enter Try.func116, Try.ntmps116
  go_wp2_with fail
  refine (show Calls _ _ #[ptrV db, .string nmJn] _ _ from sync_q (H.out.base1 HK.out) nmJn nmJn_le HM.out).mono ?_
  rintro e w4 ⟨rfl, h4⟩
  have H4 := Lib.hid h4
  clear h4
  go_wp2_with fail
  go_ret
  exact ⟨rfl, Dq.up (H.out.base1 HK.out) HK.out H.out.lt H4.out⟩
theorem stE0 (p : Pl) (nm : ByteArray) (a : Int) (d : List Int) : p.stE ⟨0, nm, a, d⟩ = p.writeE nm a d := rfl
theorem stP0 (p : Pl) (nm : ByteArray) (a : Int) (d : List Int) : p.stP ⟨0, nm, a, d⟩ = p.write nm a d := rfl
theorem stE1 (p : Pl) (nm : ByteArray) (a : Int) (d : List Int) : p.stE ⟨1, nm, a, d⟩ = p.truncE nm a := rfl
theorem stP1 (p : Pl) (nm : ByteArray) (a : Int) (d : List Int) : p.stP ⟨1, nm, a, d⟩ = p.trunc nm a := rfl
theorem stE2 (p : Pl) (nm : ByteArray) (a : Int) (d : List Int) : p.stE ⟨2, nm, a, d⟩ = p.syncE := rfl
theorem stP2 (p : Pl) (nm : ByteArray) (a : Int) (d : List Int) : p.stP ⟨2, nm, a, d⟩ = p.sync nm := rfl
set_option maxRecDepth 100000 in
set_option maxHeartbeats 800000 in
theorem jseal_q (h : Dq S w w db p) (v : W4) (hm : p.sm 40000) :
    Calls Try.prog 54 #[.agg #[ptrV db], .agg (w4A v)] w fun e w' => e = .returned (.int .i64 (p.runS (headS nmJn v)).2) ∧ Dq S w w' db (p.runS (headS nmJn v)).1 := by
  have H := Lib.hid h
  have HM := Lib.hid hm
  clear h hm
  go_enter Try.func54, Try.ntmps54
  unfold ptrV
  go_wp2_with fail
  have hkb : Kp NoB w ((w.alloc (.cells #[ptrV db] 98)).alloc (.cells (w4A v) 102)) := ((Kp.refl _ _).alloc _).alloc _
  have hbd : Blk ((w.alloc (.cells #[ptrV db] 98)).alloc (.cells (w4A v) 102)) w.heap.size 98 #[ptrV db] := (Blk.new _ _ _).alloc _
  have hbw : Blk ((w.alloc (.cells #[ptrV db] 98)).alloc (.cells (w4A v) 102)) (w.heap.size + 1) 102 (w4A v) := Blk.newAt _ _ _ _ (by simp)
  generalize hw2 : (w.alloc (.cells #[ptrV db] 98)).alloc (.cells (w4A v) 102) = w2 at hkb hbd hbw
  have hs2 : w2.heap.size = w.heap.size + 1 + 1 := by rw [← hw2]; simp
  unfold ptrV at hw2
  rw [hw2]
  refine (all_ok _ (w.heap.size + 1 + 1) 0 2 2 [(114, #[], #[.pointer (some ⟨w.heap.size + 1, 0, none⟩), .pointer (some ⟨w.heap.size, 0, none⟩)]), (116, #[.agg #[ptrV db]], #[])]
    (fun x w' => x = (p.runS (headS nmJn v)).2 ∧ Dq S w w' db (p.runS (headS nmJn v)).1) rfl (by omega) ?_).mono ?_
  · have hb3 := Blk.newAt w2 178 #[.func (.func 114) #[] #[.pointer (some ⟨w.heap.size + 1, 0, none⟩), .pointer (some ⟨w.heap.size, 0, none⟩)], .func (.func 116) #[.agg #[ptrV db]] #[]] _ hs2
    unfold ptrV at hb3
    generalize hw3 : w2.alloc (.cells #[.func (.func 114) #[] #[.pointer (some ⟨w.heap.size + 1, 0, none⟩), .pointer (some ⟨w.heap.size, 0, none⟩)], .func (.func 116) #[.agg #[.pointer (some ⟨db, 0, none⟩)]] #[]] 178) = w3 at hb3 ⊢
    have hk3 : Kp NoB w2 w3 := by rw [← hw3]; exact (Kp.refl _ _).alloc _
    have hk := hkb.trans hk3 (fun _ _ q => q)
    have h3 := H.out.base1 hk
    have hlt := H.out.lt
    refine ⟨by rw [hb3.cell]; rfl, enters_of Try.func114 (by kernel_rfl) rfl, ?_⟩
    refine (seal1_q h3 v (w.heap.size + 1) w.heap.size (fun q => by have := hlt _ q; omega) (hbw.keep hk3 (fun q => q)) (by rw [(hbd.keep hk3 (fun q => q)).cell]; rfl) (sm_mono HM.out (by omega))).mono ?_
    rintro e w4 ⟨rfl, h4⟩
    refine ⟨_, rfl, fun hx => ?_, fun hx => ?_⟩
    · unfold headS
      rw [runS_cons, stE0, if_neg hx]
      exact ⟨rfl, Dq.up h3 hk hlt h4⟩
    · refine ⟨by rw [(hb3.keep h4.kp (fun q => by have := hlt _ q; omega)).cell]; rfl, enters_of Try.func116 (by kernel_rfl) rfl, ?_⟩
      obtain ⟨S5, h5, hS5⟩ := h4.base
      refine (jsync_q h5 (sm_write _ _ _ (sm_mono HM.out (by omega)))).mono ?_
      rintro e w6 ⟨rfl, h6⟩
      have hz : (p.runS (headS nmJn v)) = (((p.write nmJn 0 (sealB v)).sync nmJn), (p.write nmJn 0 (sealB v)).syncE) := by
        unfold headS
        rw [runS_cons, stE0, if_pos hx, runS_cons, stE2, stP0, stP2]
        split
        · rename_i h0
          rw [runS_nil, h0]
        · rfl
      rw [hz]
      have h7 := Dq.up h3 hk hlt (Dq.tr (w0 := w3) h6 h4.kp hS5 h4.lt)
      exact ⟨_, rfl, fun _ => ⟨rfl, h7⟩, fun hx2 => ⟨hx2.symm, h7⟩⟩
  · rintro e w4 ⟨x, rfl, rfl, h4⟩
    have H4 := Lib.hid h4
    clear h4
    go_wp2_with fail
    go_ret
    exact ⟨rfl, H4.out⟩
end
end Go.Proofs.Ytegcbdfilkecpaa
/- The journal: function values that make steps, one behind the other; no condition but on the counts. -/
namespace Go.Proofs.Ytegcbdfilkecpaa
open Go.RowKit

/-- what is made of a plain disk, one behind the other till one is refused -/
def seqR : List (Pl → Pl × Int) → Pl → Pl × Int
  | [], p => (p, 0)
  | r :: rs, p => if (r p).2 = 0 then seqR rs (r p).1 else r p
/-- what stays while a disk is changed -/
def Kept (K : (Nat → Prop) → World → Prop) : Prop := ∀ (S S' : Nat → Prop) (w w' : World), K S w → Kp S w w' → (∀ b, S' b → S b ∨ w.heap.size ≤ b) → K S' w'
theorem kept_blk (g : Nat) (t : TypeId) (cs : Array Value) : Kept fun S w => Blk w g t cs ∧ ¬ S g := fun S S' w w' h k hS => ⟨h.1.keep k h.2, fun q => by
  rcases hS g q with q | q
  · exact h.2 q
  · have := h.1.lt
    omega⟩
theorem Kept.and {K L : (Nat → Prop) → World → Prop} (h : Kept K) (k : Kept L) : Kept fun S w => K S w ∧ L S w := fun S S' w w' q kp hS => ⟨h S S' w w' q.1 kp hS, k S S' w w' q.2 kp hS⟩
/-- a function value that makes steps -/
structure StepC (db : Nat) (K : (Nat → Prop) → World → Prop) (f : Nat) (a c : Array Value) (R : Pl → Pl × Int) (cost : Nat) : Prop where
  ent : ∀ args w, (callFunc f args).run Try.prog w = .ok (.enter f args) w
  run : ∀ (S : Nat → Prop) (w : World) (p : Pl), Dq S w w db p → K S w → p.sm cost → Calls Try.prog f (a ++ c) w fun e w' => e = .returned (.int .i64 (R p).2) ∧ Dq S w w' db (R p).1
  sm : ∀ (p : Pl) (k : Nat), p.sm (k + cost) → (R p).1.sm k
theorem Chain.mono {g o : Nat} {Q Q' : Int → World → Prop} (hQ : ∀ x w, Q x w → Q' x w) : ∀ (l : List (Nat × Array Value × Array Value)) (i : Nat) (w : World), Chain g o i l Q w → Chain g o i l Q' w
  | [], _, _, h => hQ _ _ h
  | (f, a, c) :: r, i, w, h => ⟨h.1, h.2.1, h.2.2.mono fun e w' ⟨x, he, h0, h1⟩ => ⟨x, he, fun q => hQ _ _ (h0 q), fun q => Chain.mono hQ r (i + 1) w' (h1 q)⟩⟩
structure Stpr where
  f : Nat
  a : Array Value
  c : Array Value
  R : Pl → Pl × Int
  cost : Nat
def Stpr.v (s : Stpr) : Value := .func (.func s.f) s.a s.c
def costs (l : List Stpr) : Nat := (l.map (·.cost)).sum
theorem chain_steps {db g o : Nat} {t : TypeId} {cs : Array Value} {K : (Nat → Prop) → World → Prop} (hK : Kept K) :
    ∀ (l : List Stpr) (i : Nat) (S : Nat → Prop) (w : World) (p : Pl), (∀ s ∈ l, StepC db K s.f s.a s.c s.R s.cost) → (∀ j (h : j < l.length), cs[o + i + j]? = some l[j].v) → Blk w g t cs → ¬ S g → Dq S w w db p → K S w → p.sm (costs l) →
      Chain g o i (l.map fun s => (s.f, s.a, s.c)) (fun x w' => x = (seqR (l.map (·.R)) p).2 ∧ Dq S w w' db (seqR (l.map (·.R)) p).1) w
  | [], i, S, w, p, _, _, _, _, h, _, _ => ⟨rfl, h⟩
  | s :: r, i, S, w, p, hs, hc, hb, hn, h, hk, hm => by
    have h1 := hs s (List.mem_cons_self ..)
    refine ⟨?_, h1.ent, ?_⟩
    · rw [hb.cell]
      exact hc 0 (by simp)
    · refine (h1.run S w p h hk (sm_mono hm (by simp [costs]))).mono ?_
      rintro e w' ⟨rfl, h2⟩
      refine ⟨_, rfl, fun hx => ?_, fun hx => ?_⟩
      · show _ = (seqR (s.R :: r.map (·.R)) p).2 ∧ Dq S w w' db (seqR (s.R :: r.map (·.R)) p).1
        unfold seqR
        rw [if_neg hx]
        exact ⟨rfl, h2⟩
      · obtain ⟨S2, h3, hS2⟩ := h2.base
        have hn2 := (kept_blk g t cs) S S2 w w' ⟨hb, hn⟩ h2.kp hS2
        have hm2 : (s.R p).1.sm (costs r) := h1.sm p _ (sm_mono hm (by simp [costs]; omega))
        have ih := chain_steps hK r (i + 1) S2 w' (s.R p).1 (fun s' hs' => hs s' (List.mem_cons_of_mem _ hs')) (fun j hj => by
          have := hc (j + 1) (by simpa using hj)
          rw [show o + (i + 1) + j = o + i + (j + 1) by omega]
          exact this) hn2.1 hn2.2 h3 (hK S S2 w w' hk h2.kp hS2) hm2
        refine Chain.mono (fun x w3 ⟨e, h4⟩ => ?_) _ _ _ ih
        show x = (seqR (s.R :: r.map (·.R)) p).2 ∧ Dq S w w3 db (seqR (s.R :: r.map (·.R)) p).1
        unfold seqR
        rw [if_pos hx]
        exact ⟨e, Dq.tr (w0 := w) h4 h2.kp hS2 h2.lt⟩
/-- the steps made by 'all' -/
theorem all_steps {db g n cap : Nat} {t : TypeId} {K : (Nat → Prop) → World → Prop} (hK : Kept K) (l : List Stpr) (S : Nat → Prop) (w : World) (p : Pl) (hs : ∀ s ∈ l, StepC db K s.f s.a s.c s.R s.cost) (hl : l.length = n) (hn : n < 1099511627776)
    (hb : Blk w g t (l.map Stpr.v).toArray) (hS : ¬ S g) (h : Dq S w w db p) (hk : K S w) (hm : p.sm (costs l)) :
    Calls Try.prog 52 #[.slice (some ⟨g, 0, none⟩) n cap] w fun e w' => e = .returned (.int .i64 (seqR (l.map (·.R)) p).2) ∧ Dq S w w' db (seqR (l.map (·.R)) p).1 := by
  have hc := chain_steps (o := 0) hK l 0 S w p hs (fun j hj => by
    simp [hj]) hb hS h hk hm
  refine (all_ok w g 0 n cap _ _ (by simpa using hl) hn hc).mono ?_
  rintro e w' ⟨x, rfl, rfl, h2⟩
  exact ⟨rfl, h2⟩
end Go.Proofs.Ytegcbdfilkecpaa
/- The journal: pages put into the database; no condition but on the texts' lengths and the counts. -/
namespace Go.Proofs.Ytegcbdfilkecpaa
open Go.RowKit

theorem runS_at (a b : List Stp) (s : Stp) (p : Pl) (h0 : (p.runS a).2 = 0) : p.runS (a ++ s :: b) = if (p.runS a).1.stE s = 0 then ((p.runS a).1.stP s).runS b else ((p.runS a).1.stP s, (p.runS a).1.stE s) := by
  rw [runS_append, if_pos h0, runS_cons]
/-- the list of pages is none of the disk's blocks -/
def Apart (S : Nat → Prop) (A : Option Addr) (n : Nat) : Prop := ∀ g o, A = some ⟨g, o, none⟩ → 0 < n → ¬ S g
theorem PgsAt.lt {w : World} {A : Option Addr} {n : Nat} {l : List Pg} (h : PgsAt w A n l) {g o : Nat} (e : A = some ⟨g, o, none⟩) (hn : 0 < n) : g < w.heap.size := by
  obtain ⟨g', o', e', hg, hc⟩ := h.2.2 hn
  rw [e] at e'
  injection e' with e'
  injection e' with e1 e2
  subst e1
  exact hg
structure PgsOk (l : List Pg) : Prop where
  ok : ∀ x ∈ l, PgOk x
  n : ∀ x ∈ l, 1 ≤ x.n ∧ x.n ≤ 4096
theorem pg_by {w : World} {g : Nat} {t : TypeId} {x : Pg} (h : Blk w g t (pgA x)) (hx : PgOk x) : byAt w g 1 256 ∧ byRd w g 1 256 = x.b := by
  have hc : ∀ j, j < 256 → w.cell? ⟨g, 1 + j, none⟩ = some (.int .u8 (x.b[j]?.getD 0)) := by
    intro j hj
    rw [h.cell]
    unfold pgA pgL
    rw [List.getElem?_toArray, Nat.add_comm 1 j, List.getElem?_cons_succ, List.getElem?_map, List.getElem?_eq_getElem (by rw [hx.len]; exact hj)]
    rfl
  refine ⟨fun j hj => ⟨_, hc j hj⟩, ?_⟩
  unfold byRd
  apply List.ext_getElem
  · simp [hx.len]
  · intro j h1 h2
    have hj : j < 256 := by simpa using h1
    simp only [List.getElem_map, List.getElem_range]
    rw [hc j hj, List.getElem?_eq_getElem h2]
    rfl
section
variable {S : Nat → Prop} {W0 w : World} {db : Nat} {p : Pl}
set_option maxRecDepth 100000 in
theorem put1_q (h : Dq S w w db p) (n : Int) (hn : 0 ≤ n ∧ n ≤ 4096) (Bd Bc : Nat) (hd : w.cell? ⟨Bd, 0, none⟩ = some (ptrV db)) (hc : w.cell? ⟨Bc, 0, none⟩ = some (.int .i64 n)) (hm : p.sm 20000) :
    Calls Try.prog 117 #[.pointer (some ⟨Bd, 0, none⟩), .pointer (some ⟨Bc, 0, none⟩)] w fun e w' => e = .returned (.int .i64 (p.truncE nmDb (n * 256))) ∧ Dq S w w' db (p.trunc nmDb (n * 256)) := by
  have H := Lib.hid h
  have HM := Lib.hid hm
  have hw : IntKind.i64.wrap (n * 256) = n * 256 := by rw [IntKind.wrap_i64]; omega
  have HN := Lib.hid (show -9223372036854775808 ≤ n * 256 ∧ n * 256 ≤ 9223372036854775807 by omega)
  clear h hm hn
  unfold ptrV at hd
  go_enter Try.func117, Try.ntmps117
  go_wp2_with fail
  refine (show Calls _ _ #[ptrV db, .string nmDb, .int .i64 (n * 256)] _ _ from trunc_q H.out nmDb (n * 256) HN.out nmDb_le HM.out).mono ?_
  rintro e w4 ⟨rfl, h4⟩
  have H4 := Lib.hid h4
  clear h4
  go_wp2_with fail
  go_ret
  exact ⟨rfl, H4.out⟩
set_option maxRecDepth 100000 in
theorem put2_q (h : Dq S w w db p) (Bd : Nat) (hd : w.cell? ⟨Bd, 0, none⟩ = some (ptrV db)) (hm : p.sm 20000) :
    Calls Try.prog 118 #[.pointer (some ⟨Bd, 0, none⟩)] w fun e w' => e = .returned (.int .i64 p.syncE) ∧ Dq S w w' db (p.sync nmDb) := by
  have H := Lib.hid h
  have HM := Lib.hid hm
  clear h hm
  unfold ptrV at hd
  go_enter Try.func118, Try.ntmps118
  go_wp2_with fail
  refine (show Calls _ _ #[ptrV db, .string nmDb] _ _ from sync_q H.out nmDb nmDb_le HM.out).mono ?_
  rintro e w4 ⟨rfl, h4⟩
  have H4 := Lib.hid h4
  clear h4
  go_wp2_with fail
  go_ret
  exact ⟨rfl, H4.out⟩
def PuRel (S : Nat → Prop) (w1 : World) (db : Nat) (p : Pl) (l : List Pg) (v : Value) (wr : World) : Prop :=
  ∃ k : Nat, v = .int .i64 (k : Int) ∧ k ≤ l.length ∧ (p.runS (homeW (l.take k))).2 = 0 ∧ Dq S w1 wr db (p.runS (homeW (l.take k))).1
theorem homeS_at (count : Int) (l : List Pg) (k : Nat) (x : Pg) (hk : l[k]? = some x) : homeS count l = homeW (l.take k) ++ ⟨0, nmDb, (x.n - 1) * 256, x.b⟩ :: (homeW (l.drop (k + 1)) ++ [⟨1, nmDb, count * 256, []⟩, ⟨2, nmDb, 0, []⟩]) := by
  unfold homeS
  obtain ⟨h1, h2⟩ := List.getElem?_eq_some_iff.1 hk
  have e : l = l.take k ++ x :: l.drop (k + 1) := by rw [← h2, ← List.drop_eq_getElem_cons h1, List.take_append_drop]
  conv => lhs; rw [e]
  unfold homeW
  rw [List.map_append, List.map_cons, List.append_assoc, List.cons_append]
theorem homeW_next (l : List Pg) (k : Nat) (x : Pg) (hk : l[k]? = some x) : homeW (l.take (k + 1)) = homeW (l.take k) ++ [⟨0, nmDb, (x.n - 1) * 256, x.b⟩] := by
  unfold homeW
  rw [List.take_add_one, hk, List.map_append]
  rfl
theorem home_step0 (count : Int) {l : List Pg} {k : Nat} {x : Pg} {q : Pl} (hk : l[k]? = some x) (h0 : (p.runS (homeW (l.take k))).2 = 0) (hq : (p.runS (homeW (l.take k))).1 = q) :
    (q.writeE nmDb ((x.n - 1) * 256) x.b = 0 → p.runS (homeW (l.take (k + 1))) = (q.write nmDb ((x.n - 1) * 256) x.b, 0)) ∧
    (q.writeE nmDb ((x.n - 1) * 256) x.b ≠ 0 → p.runS (homeS count l) = (q.write nmDb ((x.n - 1) * 256) x.b, q.writeE nmDb ((x.n - 1) * 256) x.b)) := by
  subst hq
  refine ⟨fun h => ?_, fun h => ?_⟩
  · rw [homeW_next l k x hk, runS_at _ _ _ _ h0, stE0, if_pos h, stP0, runS_nil]
  · rw [homeS_at count l k x hk, runS_at _ _ _ _ h0, stE0, if_neg h, stP0]
attribute [local go_sem ↓] loadPg storePg allocPg load26 store26 conv64
set_option maxRecDepth 100000 in
set_option maxHeartbeats 1600000 in
theorem jput_q (h : Dq S w w db p) (count : Int) (hc : 0 ≤ count ∧ count ≤ 4096) (A : Option Addr) (n cap : Nat) (l : List Pg) (hl : PgsAt w A n l) (hA : Apart S A n) (hok : PgsOk l) (hm : p.sm (20000 * (n + 3))) (hnn : n < 1099511627776) :
    Calls Try.prog 56 #[.agg #[ptrV db], .int .i64 count, .slice A n cap] w fun e w' => e = .returned (.int .i64 (p.runS (homeS count l)).2) ∧ Dq S w w' db (p.runS (homeS count l)).1 := by
  have H := Lib.hid h
  have HM := Lib.hid hm
  have HC := Lib.hid hc
  have HL := Lib.hid hl
  have HA := Lib.hid hA
  have HOK := Lib.hid hok
  have HLN := Lib.hid hl.len
  have hkb : Kp NoB w ((w.alloc (.cells #[ptrV db] 98)).alloc (.cells #[.int .i64 count] 3)) := ((Kp.refl _ _).alloc _).alloc _
  have hbd : Blk ((w.alloc (.cells #[ptrV db] 98)).alloc (.cells #[.int .i64 count] 3)) w.heap.size 98 #[ptrV db] := (Blk.new _ _ _).alloc _
  have hbc : Blk ((w.alloc (.cells #[ptrV db] 98)).alloc (.cells #[.int .i64 count] 3)) (w.heap.size + 1) 3 #[.int .i64 count] := Blk.newAt _ _ _ _ (by simp)
  obtain ⟨w1, hw1⟩ : ∃ w1, (w.alloc (.cells #[ptrV db] 98)).alloc (.cells #[.int .i64 count] 3) = w1 := ⟨_, rfl⟩
  have hs1 : w1.heap.size = w.heap.size + 1 + 1 := by rw [← hw1]; simp
  rw [hw1] at hkb hbd hbc
  have HKB := Lib.hid hkb
  have HBD := Lib.hid hbd
  have HBC := Lib.hid hbc
  have HS1 := Lib.hid hs1
  clear h hm hc hl hA hok hkb hbd hbc hs1
  unfold ptrV at hw1 ⊢
  go_enter Try.func56, Try.ntmps56
  go_wp2_with fail
  clear hw1
  go_loopw [12] (fun v wr => PuRel S w1 db p l v wr) (fun v _ => n - (intOf v).toNat)
  case atStart => exact ⟨0, rfl, Nat.zero_le _, rfl, H.out.base1 HKB.out⟩
  case round =>
    obtain ⟨k, rfl, hk, hr0, hq⟩ := hrel
    have HQ := Lib.hid hq
    have HR0 := Lib.hid hr0
    have hKl := HL.out.keep HKB.out
    have hlr : PgsAt wr A n l := RowsC.keepS hKl hq.kp (fun g o e hn => HA.out g o e hn)
    have cd : wr.cell? ⟨w.heap.size, 0, none⟩ = some (.pointer (some ⟨db, 0, none⟩)) := by
      rw [hq.kp.cell HBD.out.lt (fun q => by have := H.out.lt _ q; omega), HBD.out.cell]; rfl
    by_cases hlt : k < n
    · have hkk : (k : Int) < (n : Int) := by omega
      obtain ⟨g, o, rfl, hg, t1, r1⟩ := hlr.at_ k hlt
      obtain ⟨x, hx⟩ : ∃ x, l[k]? = some x := ⟨_, List.getElem?_eq_getElem (by rw [HLN.out]; exact hlt)⟩
      have hxe : l[k]'(by rw [HLN.out]; exact hlt) = x := (List.getElem?_eq_some_iff.1 hx).2
      rw [hxe] at r1
      have hxm : x ∈ l := List.mem_of_getElem? hx
      have hxo := HOK.out.ok x hxm
      have hxn := HOK.out.n x hxm
      have HX := Lib.hid hx
      have hb := Blk.new wr 113 (pgA ⟨0, zeros 256⟩)
      have hb2 := hb.whole (pgA x) (by rw [pgA_size hxo]; rfl)
      have t2 := hb.thereAll 257 rfl
      have o1 := pgA_ones x
      have s1 := pgA_size hxo
      have hc0 := hb2.cell 0
      rw [show (pgA x)[0]? = some (.int .i64 x.n) from rfl] at hc0
      obtain ⟨hby, hrd⟩ := pg_by hb2 hxo
      have hk3 : Kp NoB wr ((wr.alloc (.cells (pgA ⟨0, zeros 256⟩) 113)).setCells wr.heap.size 0 (pgA x).toList) := Kp.setCells (.inl (Nat.le_refl _)) _ _ _ ((Kp.refl _ _).alloc _)
      have hcd := (hk3.cell (block_lt_of_cell cd) (fun q => q)).trans cd
      have hG : wr.heap.size < ((wr.alloc (.cells (pgA ⟨0, zeros 256⟩) 113)).setCells wr.heap.size 0 (pgA x).toList).heap.size := by rw [size_setCells]; simp
      have HG := Lib.hid hG
      have HK3 := Lib.hid hk3
      have HXO := Lib.hid hxo
      have HXN := Lib.hid hxn
      generalize hRR : pgA x = RR at r1 o1 s1 hc0 hby hrd hcd HK3 HG ⊢
      clear hRR hk3 hxo hxn hq hr0 hlr hKl hb hb2 hG hx hxe hxm cd
      go_upto_region 4 with fail
      generalize hW3 : (wr.alloc (.cells (pgA ⟨0, zeros 256⟩) 113)).setCells wr.heap.size 0 RR.toList = w3 at hc0 hby hrd hcd HK3 HG ⊢
      obtain ⟨G, hGG⟩ : ∃ G, wr.heap.size = G := ⟨_, rfl⟩
      rw [hGG] at hc0 hby hrd HG ⊢
      have HGG := Lib.hid hGG
      clear hGG hW3 t2 t1 r1
      have hwn : IntKind.i64.wrap (x.n - 1) = x.n - 1 := by have := HXN.out; rw [IntKind.wrap_i64]; omega
      have hwm : IntKind.i64.wrap ((x.n - 1) * 256) = (x.n - 1) * 256 := by have := HXN.out; rw [IntKind.wrap_i64]; omega
      have HSZ : Hid ((strOf x.b).size ≤ maxLen) := Lib.hid (by rw [strOf_size, HXO.out.len]; decide)
      have HSI : Hid (strI (strOf x.b) = x.b) := Lib.hid (strI_strOf _ HXO.out.rng)
      obtain ⟨S2, hq2, hS2⟩ := HQ.out.base
      have HQ2 := Lib.hid hq2
      have HS2 := Lib.hid hS2
      have H3 := Lib.hid (hq2.base1 HK3.out.drew)
      have HM2 := Lib.hid (sm_run (homeW (l.take k)) (k := 20000 * 3) (sm_mono HM.out (by simp [homeW]; omega)))
      obtain ⟨q, hqq⟩ : ∃ q, (p.runS (homeW (l.take k))).1 = q := ⟨_, rfl⟩
      rw [hqq] at HM2 H3
      have HQQ := Lib.hid hqq
      have HCD := Lib.hid hcd
      have HC0 := Lib.hid hc0
      have HBY := Lib.hid hby
      have HRD := Lib.hid hrd
      obtain ⟨xn, hxn⟩ : ∃ xn, x.n = xn := ⟨_, rfl⟩
      obtain ⟨xb, hxb⟩ : ∃ xb, x.b = xb := ⟨_, rfl⟩
      rw [hxn] at hc0 hwn hwm HC0
      rw [hxb] at hrd HSZ HSI HRD
      have HXN2 := Lib.hid hxn
      have HXB2 := Lib.hid hxb
      have HNW : Hid (¬ S2 w.heap.size) := Lib.hid (fun z => by
        have h5 := HS1.out
        rcases hS2 _ z with z | z
        · have := H.out.lt _ z; omega
        · omega)
      clear hq2 hS2 hqq hxn hxb
      go_region_held3 (fun w' => w'.cell? ⟨w.heap.size, 0, none⟩ = some (.pointer (some ⟨db, 0, none⟩)) ∧ w'.cell? ⟨G, 0, none⟩ = some (.int .i64 xn) ∧ byAt w' G 1 256 ∧ byRd w' G 1 256 = xb)
        (first | exact ⟨hcd, hc0, hby, hrd⟩ | exact ⟨he1, he0, he2⟩ | go_keep)
        (first
          | (go_at_call 78; go_must (refine (show Calls _ _ #[ptrV db, .string nmDb, .int .i64 ((xn - 1) * 256), .string (strOf xb)] _ _ from write_q H3.out nmDb ((xn - 1) * 256) (strOf xb) nmDb_le HSZ.out (sm_mono HM2.out (by omega))).mono ?_); rintro e w4 ⟨rfl, h4⟩; rw [HSI.out] at h4; rw [HSI.out]; have H4 := Lib.hid h4
             have he1 := (h4.kp.cell (Nat.lt_of_lt_of_le (block_lt_of_cell HCD.out) (Nat.le_refl _)) HNW.out).trans HCD.out
             have hn0 : ¬ S2 G := fun z => by have := HQ2.out.lt _ z; have := HGG.out; omega
             have he0 := (h4.kp.cell HG.out hn0).trans HC0.out
             have he2 := by_keep h4.kp HG.out hn0 HBY.out HRD.out
             clear h4 hn0))
      clear he0 he1 he2 hcd hc0 hby hrd
      have hw1x := home_step0 (p := p) count HX.out HR0.out HQQ.out
      rw [HXN2.out, HXB2.out] at hw1x
      have h41 := Dq.tr (w0 := w1) H4.out (HQ.out.kp.trans HK3.out.drew (fun _ _ z => z.elim)) HS2.out HQ.out.lt
      have HW1x := Lib.hid hw1x
      have H41 := Lib.hid h41
      clear hw1x h41
      obtain ⟨er, her⟩ : ∃ er, q.writeE nmDb ((xn - 1) * 256) xb = er := ⟨_, rfl⟩
      rw [her] at HW1x ⊢
      clear her
      by_cases h0 : er = 0
      · subst h0
        go_wp2_with fail
        go_roundw
        case rel =>
          have h5 := HW1x.out.1 rfl
          refine ⟨k + 1, by go_num, by have := HLN.out; omega, by rw [h5], ?_⟩
          rw [h5]
          exact H41.out
        case measure => simp [intOf]; omega
      · have hb0 : (er == 0) = false := by simpa using h0
        have hb1 : (er != 0) = true := by simpa using h0
        have H0 := Lib.hid h0
        go_wp2_with fail
        go_ret
        rw [HW1x.out.2 H0.out]
        exact ⟨rfl, Dq.up (H.out.base1 HKB.out) HKB.out H.out.lt H41.out⟩
    · have hkk : ¬ (k : Int) < (n : Int) := by omega
      obtain rfl : k = n := by have := HLN.out; omega
      have HT : Hid (l.take k = l) := Lib.hid (List.take_of_length_le (by rw [HLN.out]; omega))
      rw [HT.out] at HR0
      have hq1 := HQ.out
      rw [HT.out] at hq1
      have HQ1 := Lib.hid hq1
      have hn0 : ¬ S w.heap.size := fun q => by have := H.out.lt _ q; omega
      have hn1 : ¬ S (w.heap.size + 1) := fun q => by have := H.out.lt _ q; omega
      have hbd := HBD.out.keep hq1.kp hn0
      have hbc := HBC.out.keep hq1.kp hn1
      have HB := Lib.hid hbd
      have HBC2 := Lib.hid hbc
      obtain ⟨S2, hq2, hS2⟩ := hq1.base
      have HNS : Hid (¬ S2 w.heap.size ∧ ¬ S2 (w.heap.size + 1)) := Lib.hid (by
        have h5 := HS1.out
        refine ⟨fun z => ?_, fun z => ?_⟩
        · rcases hS2 _ z with z | z
          · exact hn0 z
          · omega
        · rcases hS2 _ z with z | z
          · exact hn1 z
          · omega)
      have HQ2 := Lib.hid hq2
      have HS2 := Lib.hid hS2
      clear hq hq1 hn0 hn1 hbd hbc hq2 hS2 cd hlr
      go_wp2_with fail
      obtain ⟨q, hq⟩ : ∃ q, (p.runS (homeW l)).1 = q := ⟨_, rfl⟩
      have h2 := HQ2.out
      have hm2 := sm_run (homeW l) (k := 40000) (sm_mono HM.out (by simp [homeW, HLN.out]; omega))
      rw [hq] at hm2
      rw [hq] at h2
      have hb := Blk.new wr 178 #[.func (.func 117) #[] #[.pointer (some ⟨w.heap.size, 0, none⟩), .pointer (some ⟨w.heap.size + 1, 0, none⟩)], .func (.func 118) #[] #[.pointer (some ⟨w.heap.size, 0, none⟩)]]
      have hka := (Kp.refl NoB wr).alloc (.cells #[.func (.func 117) #[] #[.pointer (some ⟨w.heap.size, 0, none⟩), .pointer (some ⟨w.heap.size + 1, 0, none⟩)], .func (.func 118) #[] #[.pointer (some ⟨w.heap.size, 0, none⟩)]] 178)
      have hbd3 := HB.out.keep hka (fun z => z)
      have hbc3 := HBC2.out.keep hka (fun z => z)
      have hn3 : ¬ S2 wr.heap.size := fun z => by have := h2.lt _ z; omega
      refine (all_steps (n := 2) (cap := 2) ((kept_blk w.heap.size 98 #[ptrV db]).and (kept_blk (w.heap.size + 1) 3 #[.int .i64 count]))
        [⟨117, #[], #[.pointer (some ⟨w.heap.size, 0, none⟩), .pointer (some ⟨w.heap.size + 1, 0, none⟩)], fun p => (p.trunc nmDb (count * 256), p.truncE nmDb (count * 256)), 20000⟩,
         ⟨118, #[], #[.pointer (some ⟨w.heap.size, 0, none⟩)], fun p => (p.sync nmDb, p.syncE), 20000⟩]
        S2 _ q ?_ rfl (by omega) hb hn3 (h2.base1 hka) ⟨⟨hbd3, HNS.out.1⟩, ⟨hbc3, HNS.out.2⟩⟩ hm2).mono ?_
      · intro s hs
        simp only [List.mem_cons, List.not_mem_nil, or_false] at hs
        rcases hs with rfl | rfl
        · exact ⟨enters_of Try.func117 (by kernel_rfl) rfl, fun S w p h hk hm => put1_q h count HC.out _ _ (by rw [hk.1.1.cell]; rfl) (by rw [hk.2.1.cell]; rfl) hm, fun p k hm => sm_trunc _ _ hm⟩
        · exact ⟨enters_of Try.func118 (by kernel_rfl) rfl, fun S w p h hk hm => put2_q h _ (by rw [hk.1.1.cell]; rfl) hm, fun p k hm => sm_sync _ hm⟩
      · rintro e w4 ⟨rfl, h4⟩
        have hz : seqR [fun p => (p.trunc nmDb (count * 256), p.truncE nmDb (count * 256)), fun p => (p.sync nmDb, p.syncE)] q = p.runS (homeS count l) := by
          unfold homeS
          rw [runS_append, if_pos HR0.out, hq, runS_cons, stE1, stP1]
          unfold seqR
          simp only
          split
          · rw [runS_cons, stE2, stP2, runS_nil]
            unfold seqR
            simp only
            split
            · rfl
            · rfl
          · rfl
        rw [show ([⟨117, #[], #[.pointer (some ⟨w.heap.size, 0, none⟩), .pointer (some ⟨w.heap.size + 1, 0, none⟩)], fun p => (p.trunc nmDb (count * 256), p.truncE nmDb (count * 256)), 20000⟩,
         ⟨118, #[], #[.pointer (some ⟨w.heap.size, 0, none⟩)], fun p => (p.sync nmDb, p.syncE), 20000⟩] : List Stpr).map (·.R) = [fun p => (p.trunc nmDb (count * 256), p.truncE nmDb (count * 256)), fun p => (p.sync nmDb, p.syncE)] from rfl, hz] at h4
        rw [show ([⟨117, #[], #[.pointer (some ⟨w.heap.size, 0, none⟩), .pointer (some ⟨w.heap.size + 1, 0, none⟩)], fun p => (p.trunc nmDb (count * 256), p.truncE nmDb (count * 256)), 20000⟩,
         ⟨118, #[], #[.pointer (some ⟨w.heap.size, 0, none⟩)], fun p => (p.sync nmDb, p.syncE), 20000⟩] : List Stpr).map (·.R) = [fun p => (p.trunc nmDb (count * 256), p.truncE nmDb (count * 256)), fun p => (p.sync nmDb, p.syncE)] from rfl, hz]
        have h5 := Dq.tr (w0 := w1) h4 (HQ1.out.kp.trans hka (fun _ _ z => z.elim)) HS2.out HQ1.out.lt
        have H5 := Lib.hid (Dq.up (H.out.base1 HKB.out) HKB.out H.out.lt h5)
        clear hq h2 hm2 hb hka hbd3 hbc3 hn3 h4 hz h5
        go_wp2_with fail
        go_ret
        exact ⟨rfl, H5.out⟩
end
end Go.Proofs.Ytegcbdfilkecpaa
/- The journal: pages laid aside; no condition but on the texts' lengths and the counts. -/
namespace Go.Proofs.Ytegcbdfilkecpaa
open Go.RowKit

/-- pages laid aside, from the k-th record on -/
def aslR : Nat → List Pg → Pl → Pl × Int
  | _, [], p => (p.sync nmJn, p.syncE)
  | k, x :: r, p => if 1048576 < 64 + 320 * (k : Int) + 320 then (p, 5) else
      if p.writeE nmJn (64 + 320 * (k : Int)) (recB x) = 0 then aslR (k + 1) r (p.write nmJn (64 + 320 * (k : Int)) (recB x)) else (p.write nmJn (64 + 320 * (k : Int)) (recB x), p.writeE nmJn (64 + 320 * (k : Int)) (recB x))
theorem aslR_cons (k : Nat) (x : Pg) (r : List Pg) (p : Pl) : aslR k (x :: r) p = if 1048576 < 64 + 320 * (k : Int) + 320 then (p, 5) else
      if p.writeE nmJn (64 + 320 * (k : Int)) (recB x) = 0 then aslR (k + 1) r (p.write nmJn (64 + 320 * (k : Int)) (recB x)) else (p.write nmJn (64 + 320 * (k : Int)) (recB x), p.writeE nmJn (64 + 320 * (k : Int)) (recB x)) := rfl
theorem aslR_nil (k : Nat) (p : Pl) : aslR k [] p = (p.sync nmJn, p.syncE) := rfl
theorem sm_aslR (l : List Pg) : ∀ (k : Nat) {p : Pl} {m M : Nat}, M = m + 20000 * (l.length + 1) → p.sm M → (aslR k l p).1.sm m := by
  induction l with
  | nil =>
    intro k p m M hM h
    rw [aslR_nil]
    rw [List.length_nil] at hM
    exact sm_sync _ (sm_mono h (by omega))
  | cons x r ih =>
    intro k p m M hM h
    rw [List.length_cons] at hM
    obtain ⟨M2, hM2⟩ : ∃ M2, M2 = m + 20000 * (r.length + 1) := ⟨_, rfl⟩
    have h1 : (p.write nmJn (64 + 320 * (k : Int)) (recB x)).sm M2 := sm_write _ _ _ (sm_mono h (by omega))
    rw [aslR_cons]
    generalize 64 + 320 * (k : Int) = a at h1 ⊢
    generalize p.write nmJn a (recB x) = q at h1 ⊢
    split
    · exact sm_mono h (by omega)
    · split
      · exact ih (k + 1) hM2 h1
      · exact sm_mono h1 (by omega)
/-- the first i bytes of a record are there -/
def upR (n : Int) (i : Nat) : List Int := (four n).take i ++ zeros (320 - i)
theorem upR_len (n : Int) (i : Nat) (hi : i ≤ 4) : (upR n i).length = 320 := by
  unfold upR
  simp [zeros, four]
  omega
theorem upR_set (n : Int) (i : Nat) (hi : i < 4) : (upR n i).set i (byteK n i) = upR n (i + 1) := by
  rcases (show i = 0 ∨ i = 1 ∨ i = 2 ∨ i = 3 by omega) with rfl | rfl | rfl | rfl <;> rfl
theorem upR_at (n : Int) (i : Nat) (hi : i < 4) : (upR n i)[i]? = some 0 := by
  rcases (show i = 0 ∨ i = 1 ∨ i = 2 ∨ i = 3 by omega) with rfl | rfl | rfl | rfl <;> rfl
theorem upR_all (n : Int) : upR n 4 = (four n ++ zeros 60) ++ zeros 256 := by
  unfold upR zeros
  rw [List.append_assoc, List.replicate_append_replicate]
  rfl
/-- in the midst of a record -/
structure LyS (wr : World) (x : Pg) (i : Nat) (W : World) : Prop where
  kp : Kp NoB wr W
  b1 : Blk W wr.heap.size 113 (pgA x)
  b2 : Blk W (wr.heap.size + 1) 5 (bytesV (upR x.n i))
theorem LyS.set_ {wr : World} {x : Pg} {i : Nat} {W : World} (h : LyS wr x i W) (hi : i < 4) : LyS wr x (i + 1) (W.setCell ⟨wr.heap.size + 1, i, none⟩ (.int .u8 (byteK x.n i))) := by
  refine ⟨h.kp.setCell (p := ⟨wr.heap.size + 1, i, none⟩) (.inl (by show _ ≤ wr.heap.size + 1; omega)) _, h.b1.far (p := ⟨wr.heap.size + 1, i, none⟩) (by simp) _, ?_⟩
  have := h.b2.set_ i (.int .u8 (byteK x.n i))
  rwa [bytesV_setJ, upR_set _ _ hi] at this
set_option maxRecDepth 100000 in
theorem LyS.copy {wr : World} {x : Pg} {W : World} (h : LyS wr x 4 W) (hx : PgOk x) : Kp NoB wr (W.setCells (wr.heap.size + 1) 64 (x.b.map (Value.int .u8))) ∧ Blk (W.setCells (wr.heap.size + 1) 64 (x.b.map (Value.int .u8))) (wr.heap.size + 1) 5 (bytesV (recB x)) := by
  refine ⟨Kp.setCells (.inl (by omega)) _ _ _ h.kp, ?_⟩
  have b := h.b2
  rw [upR_all] at b
  have := Blk.bytes (la := four x.n ++ zeros 60) (lb := zeros 256) (ld := []) (lx := x.b) (by rw [List.append_nil]; exact b) 64 (by simp [four, zeros]) (by rw [hx.len]; simp [zeros])
  rw [List.append_nil] at this
  exact this
theorem make320 (W : World) : (Instr.makeSlice 42 (.int .i64 320) (.int .i64 320)).run Try.prog W = .ok (.slice (some ⟨W.heap.size, 0, none⟩) 320 320) (W.alloc (.cells (bytesV (zeros 320)) 5)) := by
  have h := run_make_row' (P := Try.prog) 42 5 (.int .u8 0) 1 Try.underlying42 infoU8z rfl .i64 .i64 320 (by omega) (by omega) W
  rw [made_zeros] at h
  exact h
theorem pg_cells {w : World} {g : Nat} {t : TypeId} {x : Pg} (h : Blk w g t (pgA x)) (hx : PgOk x) : ∀ j v, (x.b.map (Value.int .u8))[j]? = some v → w.cell? ((⟨g, 1, none⟩ : Addr).add j) = some v := by
  intro j v hj
  rw [add_mk, h.cell]
  unfold pgA pgL
  rw [List.getElem?_toArray, Nat.add_comm 1 j, List.getElem?_cons_succ]
  exact hj
theorem copy_exec {w w' : World} {v : Value} {u1 u2 : Value} (h : (Builtin.copy_ #[42, 42] 3 #[u1, u2]).run Try.prog w = .ok v w') (ev : Operand → Value) {x y : Operand} {ds : Option Tmp} {ps : String} {af : Array Edge} {g : Option (Nat × Bool)} (hx : ev x = u1) (hy : ev y = u2) :
    (execOp ev ⟨ds, .call { callee := .builtin .copy, args := #[x, y], argTypes := #[42, 42] }, 3, ps, af, g⟩).run Try.prog w = .ok (.value v) w' := by
  simp only [execOp, resolve, invoke, builtin, Sem.run_bind, Sem.run_pure, Result.andThen_ok, List.map_toArray, List.map_cons, List.map_nil, hx, hy, h]
theorem LyS.drew {wr : World} {x : Pg} {i : Nat} {W : World} (h : LyS wr x i W) : LyS wr x i W.drew := ⟨h.kp.drew, h.b1, h.b2⟩
theorem four_rng (n : Int) : ∀ y ∈ four n, 0 ≤ y ∧ y < 256 := by
  intro y hy
  unfold four at hy
  simp only [List.mem_cons, List.not_mem_nil, or_false] at hy
  rcases hy with h | h | h | h <;> omega
theorem rec_rng {x : Pg} (hx : PgOk x) : ∀ y ∈ recB x, 0 ≤ y ∧ y < 256 := by
  intro y hy
  unfold recB at hy
  rcases List.mem_append.1 hy with h | h
  · rcases List.mem_append.1 h with h | h
    · exact four_rng _ y h
    · exact zeros_rng _ y h
  · exact hx.rng y h
section
variable {S : Nat → Prop} {W0 w : World} {db : Nat} {p : Pl}
attribute [local go_sem ↓] loadPg storePg allocPg load26 store26 conv64
attribute [local go_sem] size_setCells
def LaRel (S : Nat → Prop) (w1 : World) (db : Nat) (p : Pl) (l : List Pg) (v : Value) (wr : World) : Prop :=
  ∃ (k : Nat) (q : Pl), v = .int .i64 (k : Int) ∧ k ≤ l.length ∧ aslR 0 l p = aslR k (l.drop k) q ∧ q.sm (20000 * (l.length - k + 1)) ∧ Dq S w1 wr db q
set_option maxRecDepth 100000 in
set_option maxHeartbeats 1600000 in
theorem jlay_q (h : Dq S w w db p) (A : Option Addr) (n cap : Nat) (l : List Pg) (hl : PgsAt w A n l) (hA : Apart S A n) (hok : PgsOk l) (hm : p.sm (20000 * (n + 1))) (hnn : n < 1099511627776) :
    Calls Try.prog 63 #[.agg #[ptrV db], .slice A n cap] w fun e w' => e = .returned (.int .i64 (aslR 0 l p).2) ∧ Dq S w w' db (aslR 0 l p).1 := by
  have H := Lib.hid h
  have HM := Lib.hid hm
  have HL := Lib.hid hl
  have HA := Lib.hid hA
  have HOK := Lib.hid hok
  have HLN := Lib.hid hl.len
  have hkb : Kp NoB w (w.alloc (.cells #[ptrV db] 98)) := (Kp.refl _ _).alloc _
  have hbd : Blk (w.alloc (.cells #[ptrV db] 98)) w.heap.size 98 #[ptrV db] := Blk.new _ _ _
  obtain ⟨w1, hw1⟩ : ∃ w1, w.alloc (.cells #[ptrV db] 98) = w1 := ⟨_, rfl⟩
  have hs1 : w1.heap.size = w.heap.size + 1 := by rw [← hw1]; simp
  rw [hw1] at hkb hbd
  have HKB := Lib.hid hkb
  have HBD := Lib.hid hbd
  have HS1 := Lib.hid hs1
  clear h hm hl hA hok hkb hbd hs1
  unfold ptrV at hw1 ⊢
  go_enter Try.func63, Try.ntmps63
  go_wp2_with fail
  clear hw1
  go_loopw [13] (fun v wr => LaRel S w1 db p l v wr) (fun v _ => n - (intOf v).toNat)
  case atStart => exact ⟨0, p, rfl, Nat.zero_le _, rfl, sm_mono HM.out (by rw [HLN.out]; omega), H.out.base1 HKB.out⟩
  case round =>
    obtain ⟨wq, rfl⟩ : ∃ wq, wq = wr := ⟨_, rfl⟩
    obtain ⟨k, q, rfl, hk, hr0, hqm, hq⟩ := hrel
    have HQ := Lib.hid hq
    have HR0 := Lib.hid hr0
    have HQM := Lib.hid hqm
    have hKl := HL.out.keep HKB.out
    have hlr : PgsAt wq A n l := RowsC.keepS hKl hq.kp (fun g o e hn => HA.out g o e hn)
    have cd : wq.cell? ⟨w.heap.size, 0, none⟩ = some (.pointer (some ⟨db, 0, none⟩)) := by
      rw [hq.kp.cell HBD.out.lt (fun q => by have := H.out.lt _ q; omega), HBD.out.cell]; rfl
    by_cases hlt : k < n
    · have hkk : (k : Int) < (n : Int) := by omega
      obtain ⟨g, o, rfl, hg, t1, r1⟩ := hlr.at_ k hlt
      obtain ⟨x, hx⟩ : ∃ x, l[k]? = some x := ⟨_, List.getElem?_eq_getElem (by rw [HLN.out]; exact hlt)⟩
      have hxe : l[k]'(by rw [HLN.out]; exact hlt) = x := (List.getElem?_eq_some_iff.1 hx).2
      rw [hxe] at r1
      have hxm : x ∈ l := List.mem_of_getElem? hx
      have hxo := HOK.out.ok x hxm
      have hxn := HOK.out.n x hxm
      have hdr : l.drop k = x :: l.drop (k + 1) := by rw [← hxe]; exact List.drop_eq_getElem_cons (by rw [HLN.out]; exact hlt)
      have HDR := Lib.hid hdr
      have hb := Blk.new wq 113 (pgA ⟨0, zeros 256⟩)
      have hb2 := hb.whole (pgA x) (by rw [pgA_size hxo]; rfl)
      have t2 := hb.thereAll 257 rfl
      have o1 := pgA_ones x
      have s1 := pgA_size hxo
      have hk3 : Kp NoB wq ((wq.alloc (.cells (pgA ⟨0, zeros 256⟩) 113)).setCells wq.heap.size 0 (pgA x).toList) := Kp.setCells (.inl (Nat.le_refl _)) _ _ _ ((Kp.refl _ _).alloc _)
      have hls : LyS wq x 0 (((wq.alloc (.cells (pgA ⟨0, zeros 256⟩) 113)).setCells wq.heap.size 0 (pgA x).toList).alloc (.cells (bytesV (zeros 320)) 5)) :=
        ⟨hk3.alloc _, hb2.alloc _, Blk.newAt _ _ _ _ (by rw [size_setCells]; simp)⟩
      have hmk := fun W => make320 W
      have HLS := Lib.hid hls
      have HXO := Lib.hid hxo
      have HXN := Lib.hid hxn
      have HPG : Hid (∀ W, LyS wq x 4 W → byAt W wq.heap.size 1 256 ∧ byRd W wq.heap.size 1 256 = x.b) := Lib.hid (fun W hW => pg_by hW.b1 HXO.out)
      have HWR := Lib.hid cd
      obtain ⟨RR, hRR⟩ : ∃ RR, pgA x = RR := ⟨_, rfl⟩
      rw [hRR] at r1 o1 s1 HLS
      clear hRR hk3 hxo hxn hq hr0 hqm hlr hKl hb hb2 hx hxe hxm cd hls hdr
      go_wp2_with fail
      refine forget (p := fun wx => Code.wp _ _ _ _ wx) (LyS wq x 0) HLS.out ?_
      intro W hW
      have HW := Lib.hid hW
      clear hW HLS t1 r1 t2
      go_loopw [19] (fun v W => ∃ i : Nat, v = .int .i64 (i : Int) ∧ i ≤ 4 ∧ LyS wq x i W) (fun v _ => 4 - (intOf v).toNat)
      case atStart => exact ⟨0, rfl, by omega, HW.out⟩
      case round =>
        obtain ⟨i, rfl, hi, hs⟩ := hrel
        have HS := Lib.hid hs
        by_cases hi4 : i < 4
        · have hii : (i : Int) < 4 := by omega
          have c0 : wr.cell? ⟨wq.heap.size, 0, none⟩ = some (.int .i64 x.n) := hs.b1.cell 0
          have c2 : wr.cell? ⟨wq.heap.size + 1, i, none⟩ = some (.int .u8 0) := by
            rw [hs.b2.cell]
            unfold bytesV
            rw [List.getElem?_toArray, List.getElem?_map, upR_at _ _ hi4]
            rfl
          have z2 : wr.frozen? ⟨wq.heap.size + 1, i, none⟩ = false := hs.b2.frozen i
          have hwu : IntKind.u32.wrap x.n = x.n := by have := HXN.out; rw [IntKind.wrap_u32]; omega
          have FIN : Hid (∀ W' (y : Int) (m : Nat), W' = wr.setCell ⟨wq.heap.size + 1, i, none⟩ (.int .u8 y) → y = byteK x.n i → m = i + 1 → LyS wq x m W') := Lib.hid (by
            rintro W' y m rfl rfl rfl
            exact HS.out.set_ hi4)
          obtain ⟨xn, hxn⟩ : ∃ xn, x.n = xn := ⟨_, rfl⟩
          have HXN3 := Lib.hid hxn
          rw [hxn] at c0 hwu
          clear hs hxn
          rcases (show i = 0 ∨ i = 1 ∨ i = 2 ∨ i = 3 by omega) with rfl | rfl | rfl | rfl
          · go_wp2_with fail
            exact ⟨⟨1, rfl, by omega, FIN.out _ _ _ rfl (by rw [HXN3.out]; rfl) rfl⟩, by simp [intOf]⟩
          · go_wp2_with fail
            exact ⟨⟨2, rfl, by omega, FIN.out _ _ _ rfl (by rw [HXN3.out]; rfl) rfl⟩, by simp [intOf]⟩
          · go_wp2_with fail
            exact ⟨⟨3, rfl, by omega, FIN.out _ _ _ rfl (by rw [HXN3.out]; rfl) rfl⟩, by simp [intOf]⟩
          · go_wp2_with fail
            exact ⟨⟨4, rfl, by omega, FIN.out _ _ _ rfl (by rw [HXN3.out]; rfl) rfl⟩, by simp [intOf]⟩
        · have hii : ¬ (i : Int) < 4 := by omega
          obtain rfl : i = 4 := by omega
          have hl256 := HXO.out.len
          clear hs
          go_upto_region 10 with fail
          refine wp_region_held_drew (S := fun _ => True) (by kernel_rfl) trivial (fun hHeld => ?_)
          have hs := HS.out.drew
          generalize wr.drew = w4 at hs ⊢
          have ht5 : w4.there (wq.heap.size + 1) 64 (x.b.map (Value.int .u8)).length := by
            have := hs.b2
            refine this.there ?_
            rw [bytesV_size, upR_len _ _ (by omega), List.length_map, hl256]
            omega
          have hcp := run_copy_cells (P := Try.prog) w4 42 42 3 5 (wq.heap.size + 1) 64 256 256 ⟨wq.heap.size, 1, none⟩ 256 256 (x.b.map (Value.int .u8)) Try.underlying42 infoU8 (by rw [List.length_map, hl256]; rfl) (pg_cells hs.b1 HXO.out) (fun j hj => (ht5 j hj).1) (fun j hj => (ht5 j hj).2) (u8_one x.b)
          obtain ⟨hk5, hb5⟩ := hs.copy HXO.out
          refine tkS (i := 0) (v := (.slice (some ⟨wq.heap.size + 1, 0, none⟩) 320 320)) rfl (Or.inl ⟨by rfl, fun w' hq => by go_simp⟩) trivial ?_
          simp only [Act.put, skA, skB, skC]
          refine tkS (i := 1) (v := (.slice (some ⟨wq.heap.size + 1, 64, none⟩) 256 256)) rfl (Or.inl ⟨by rfl, fun w' hq => by go_simp⟩) trivial ?_
          simp only [Act.put, skA, skB, skC]
          refine tkS (i := 2) (v := (.pointer (some ⟨wq.heap.size, 1, none⟩))) rfl (Or.inl ⟨by rfl, fun w' hq => by go_simp⟩) trivial ?_
          simp only [Act.put, skA, skB, skC]
          refine tkS (i := 3) (v := (.slice (some ⟨wq.heap.size, 1, none⟩) 256 256)) rfl (Or.inl ⟨by rfl, fun w' hq => by go_simp⟩) trivial ?_
          simp only [Act.put, skA, skB, skC]
          refine wpAnyH_ready (rs := [4]) (by kernel_rfl) (by simp) ?_
          refine AllReadyH.valR (fun W' => W' = w4.setCells (wq.heap.size + 1) 64 (x.b.map (Value.int .u8))) rfl (by rfl) _ _ (copy_exec hcp _ rfl rfl) (fun _ _ => trivial) rfl ?_ AllReadyH.nil
          rintro _ rfl
          simp only [Act.put, skA, skB, skC]
          refine wpAnyH_done (by kernel_rfl) ?_ _
          have hG5 : wq.heap.size + 1 < (w4.setCells (wq.heap.size + 1) 64 (x.b.map (Value.int .u8))).heap.size := hb5.lt
          generalize w4.setCells (wq.heap.size + 1) 64 (x.b.map (Value.int .u8)) = w5 at hk5 hb5 hG5 ⊢
          have hrl : (recB x).length = 320 := by unfold recB; simp [four, zeros, hl256]
          have hby := hb5.byAt 0 320 (by rw [hrl]; omega)
          have hrd := hb5.byRd 0 320 (by rw [hrl]; omega)
          rw [List.drop_zero, List.take_of_length_le (by rw [hrl]; omega)] at hrd
          have hcd := (hk5.cell (block_lt_of_cell HWR.out) (fun z => z)).trans HWR.out
          have hw1 : IntKind.i64.wrap ((k : Int) * 320) = (k : Int) * 320 := by rw [IntKind.wrap_i64]; omega
          have hw2 : IntKind.i64.wrap (64 + (k : Int) * 320) = 64 + (k : Int) * 320 := by rw [IntKind.wrap_i64]; omega
          have hw3 : IntKind.i64.wrap (64 + (k : Int) * 320 + 320) = 64 + (k : Int) * 320 + 320 := by rw [IntKind.wrap_i64]; omega
          have HK5 := Lib.hid hk5
          have HB5 := Lib.hid hb5
          clear hs hk5 hb5 ht5 hcp hHeld
          by_cases hbig : 1048576 < 64 + (k : Int) * 320 + 320
          · have HBG := Lib.hid hbig
            go_wp2_with fail
            go_ret
            have e5 : aslR 0 l p = (q, 5) := by
              rw [HR0.out, HDR.out, aslR_cons, if_pos (by have := HBG.out; omega)]
            rw [e5]
            exact ⟨rfl, Dq.up (H.out.base1 HKB.out) HKB.out H.out.lt (HQ.out.keep HK5.out)⟩
          · have HBG := Lib.hid hbig
            obtain ⟨S2, hq2, hS2⟩ := HQ.out.base
            have HS2 := Lib.hid hS2
            have H3 := Lib.hid (hq2.base1 HK5.out)
            have HSZ : Hid ((strOf (recB x)).size ≤ maxLen) := Lib.hid (by rw [strOf_size, hrl]; decide)
            have HSI : Hid (strI (strOf (recB x)) = recB x) := Lib.hid (strI_strOf _ (rec_rng HXO.out))
            have HM2 := Lib.hid (sm_mono HQM.out (show 20000 ≤ 20000 * (l.length - k + 1) by omega))
            obtain ⟨rb, hrb⟩ : ∃ rb, recB x = rb := ⟨_, rfl⟩
            have HRB := Lib.hid hrb
            rw [hrb] at hrd HSZ HSI
            clear hq2 hS2 hrb hrl hl256 hG5
            go_wp2_with fail
            refine (show Calls _ _ #[ptrV db, .string nmJn, .int .i64 (64 + (k : Int) * 320), .string (strOf rb)] _ _ from write_q H3.out nmJn (64 + (k : Int) * 320) (strOf rb) nmJn_le HSZ.out HM2.out).mono ?_
            rintro e w6 ⟨rfl, h6⟩
            rw [HSI.out] at h6
            rw [HSI.out]
            have h61 := Dq.tr (w0 := w1) h6 (HQ.out.kp.trans HK5.out (fun _ _ z => z.elim)) HS2.out HQ.out.lt
            have H61 := Lib.hid h61
            have HM3 := Lib.hid (sm_write (p := q) (k := 20000 * (l.length - (k + 1) + 1)) nmJn (64 + (k : Int) * 320) rb (sm_mono HQM.out (by have := HLN.out; omega)))
            obtain ⟨er, her⟩ : ∃ er, q.writeE nmJn (64 + (k : Int) * 320) rb = er := ⟨_, rfl⟩
            have e6 : aslR 0 l p = if er = 0 then aslR (k + 1) (l.drop (k + 1)) (q.write nmJn (64 + (k : Int) * 320) rb) else (q.write nmJn (64 + (k : Int) * 320) rb, er) := by
              rw [HR0.out, HDR.out, aslR_cons, if_neg (by have := HBG.out; omega), HRB.out, show 64 + 320 * (k : Int) = 64 + (k : Int) * 320 by omega, her]
            rw [her]
            have HE6 := Lib.hid e6
            clear her h61 h6 e6 hby hrd hcd
            by_cases h0 : er = 0
            · subst h0
              go_wp2_with fail
              go_roundw
              case rel => exact ⟨k + 1, _, by go_num, by have := HLN.out; omega, by rw [HE6.out]; simp, HM3.out, H61.out⟩
              case measure => simp [intOf]; omega
            · have hb0 : (er == 0) = false := by simpa using h0
              have hb1 : (er != 0) = true := by simpa using h0
              have H0 := Lib.hid h0
              go_wp2_with fail
              go_ret
              rw [HE6.out, if_neg H0.out]
              exact ⟨rfl, Dq.up (H.out.base1 HKB.out) HKB.out H.out.lt H61.out⟩
    · have hkk : ¬ (k : Int) < (n : Int) := by omega
      obtain rfl : k = n := by have := HLN.out; omega
      have hd0 : l.drop k = [] := List.drop_eq_nil_of_le (by rw [HLN.out]; omega)
      have e6 : aslR 0 l p = (q.sync nmJn, q.syncE) := by rw [HR0.out, hd0, aslR_nil]
      have HE6 := Lib.hid e6
      obtain ⟨S2, hq2, hS2⟩ := HQ.out.base
      have HQ2 := Lib.hid hq2
      have HS2 := Lib.hid hS2
      have HM2 := Lib.hid (sm_mono HQM.out (show 20000 ≤ 20000 * (l.length - k + 1) by omega))
      clear hq hr0 hqm hKl hlr hq2 hS2 hd0 e6
      go_wp2_with fail
      refine (show Calls _ _ #[.agg #[ptrV db]] _ _ from jsync_q HQ2.out HM2.out).mono ?_
      rintro e w6 ⟨rfl, h6⟩
      have H61 := Lib.hid (Dq.tr (w0 := w1) h6 HQ.out.kp HS2.out HQ.out.lt)
      clear h6
      go_wp2_with fail
      go_ret
      rw [HE6.out]
      exact ⟨rfl, Dq.up (H.out.base1 HKB.out) HKB.out H.out.lt H61.out⟩
end
end Go.Proofs.Ytegcbdfilkecpaa
/- The journal: the records of a hot journal; no condition but on the texts' lengths and the counts. -/
namespace Go.Proofs.Ytegcbdfilkecpaa
open Go.RowKit

/-- the pages with their cells one behind the other -/
def pgsCells (l : List Pg) : List Value := l.flatMap pgL
def OwnPgs (w : World) (n0 : Nat) (v : Value) (l : List Pg) : Prop := w.ownsRow n0 113 257 v l.length (pgsCells l) ∧ ∀ x ∈ l, PgOk x
structure W4Ok (v : W4) : Prop where
  a : 0 ≤ v.a ∧ v.a < 4294967296
  b : 0 ≤ v.b ∧ v.b < 4294967296
  c : 0 ≤ v.c ∧ v.c < 4294967296
  d : 0 ≤ v.d ∧ v.d < 4294967296
/-- what records answers -/
def RcPost (S : Nat → Prop) (w : World) (db : Nat) (p : Pl) (r : Option (List Pg)) (e : Ending) (w' : World) : Prop :=
  Kp NoB w w' ∧ ((r = none ∧ e = .returned (.tuple #[.slice none 0 0, .bool false])) ∨ ∃ l v, r = some l ∧ e = .returned (.tuple #[v, .bool true]) ∧ OwnPgs w' w.heap.size v l)
def RcRel (w1 : World) (p : Pl) (vb : Int) (N : Nat) (R : Option (List Pg)) (v6 v7 v37 : Value) (wr : World) : Prop :=
  ∃ (k : Nat) (last : Int) (acc : List Pg), v37 = .int .i64 (k : Int) ∧ v7 = .int .i64 last ∧ k ≤ N ∧ acc.length = k ∧ R = (recsPg (p.seen nmJn) vb (N - k) k last).map (acc ++ ·) ∧ OwnPgs wr w1.heap.size v6 acc ∧ Kp NoB w1 wr
theorem recsPg_succ (l : List Int) (top : Int) (i k : Nat) (last : Int) : recsPg l top (i + 1) k last = if ((l.drop (64 + 320 * k)).take 320).length < 320 then none else if (((l.drop (64 + 320 * k)).take 320).drop 4).take 60 = zeros 60 ∧ last < num ((l.drop (64 + 320 * k)).take 320) 0 ∧ num ((l.drop (64 + 320 * k)).take 320) 0 ≤ top then
      (recsPg l top i (k + 1) (num ((l.drop (64 + 320 * k)).take 320) 0)).map fun r => ⟨num ((l.drop (64 + 320 * k)).take 320) 0, ((l.drop (64 + 320 * k)).take 320).drop 64⟩ :: r
    else none := rfl
theorem recs_step (jl : List Int) (vb : Int) (N k : Nat) (last : Int) (hk : k < N) :
    ((((jl.drop (64 + 320 * k)).take 320).length < 320 → recsPg jl vb (N - k) k last = none) ∧
    (¬ ((jl.drop (64 + 320 * k)).take 320).length < 320 → (((((jl.drop (64 + 320 * k)).take 320).drop 4).take 60 = zeros 60 ∧ last < num ((jl.drop (64 + 320 * k)).take 320) 0 ∧ num ((jl.drop (64 + 320 * k)).take 320) 0 ≤ vb) →
      recsPg jl vb (N - k) k last = (recsPg jl vb (N - (k + 1)) (k + 1) (num ((jl.drop (64 + 320 * k)).take 320) 0)).map fun r => ⟨num ((jl.drop (64 + 320 * k)).take 320) 0, ((jl.drop (64 + 320 * k)).take 320).drop 64⟩ :: r) ∧
      (¬ ((((jl.drop (64 + 320 * k)).take 320).drop 4).take 60 = zeros 60 ∧ last < num ((jl.drop (64 + 320 * k)).take 320) 0 ∧ num ((jl.drop (64 + 320 * k)).take 320) 0 ≤ vb) → recsPg jl vb (N - k) k last = none))) := by
  obtain ⟨m, hm⟩ : ∃ m, N - k = m + 1 := ⟨N - k - 1, by omega⟩
  rw [hm, show N - (k + 1) = m by omega, recsPg_succ]
  generalize (jl.drop (64 + 320 * k)).take 320 = b
  refine ⟨fun h => by rw [if_pos h], fun h => ⟨fun q => by rw [if_neg h, if_pos q], fun q => by rw [if_neg h, if_neg q]⟩⟩
theorem pg_fill {w : World} {g : Nat} {t : TypeId} {x : Int} {pb : List Int} (h : Blk w g t (pgA ⟨x, zeros 256⟩)) (hl : pb.length = 256) : Blk (w.setCells g 1 (pb.map (Value.int .u8))) g t (pgA ⟨x, pb⟩) := by
  have := Blk.cellsL (xa := [.int .i64 x]) (xb := (zeros 256).map (Value.int .u8)) (xd := []) (xs := pb.map (Value.int .u8)) (by rw [List.append_nil]; exact h) 1 rfl (by rw [List.length_map, List.length_map, hl]; simp only [zeros, List.length_replicate])
  rw [List.append_nil] at this
  exact this
theorem copyS_exec {w w' : World} {v : Value} {u1 u2 : Value} (h : (Builtin.copy_ #[42, 9] 3 #[u1, u2]).run Try.prog w = .ok v w') (ev : Operand → Value) {x y : Operand} {ds : Option Tmp} {ps : String} {af : Array Edge} {g : Option (Nat × Bool)} (hx : ev x = u1) (hy : ev y = u2) :
    (execOp ev ⟨ds, .call { callee := .builtin .copy, args := #[x, y], argTypes := #[42, 9] }, 3, ps, af, g⟩).run Try.prog w = .ok (.value v) w' := by
  simp only [execOp, resolve, invoke, builtin, Sem.run_bind, Sem.run_pure, Result.andThen_ok, List.map_toArray, List.map_cons, List.map_nil, hx, hy, h]
theorem pg_new (w : World) (x : Pg) : ∀ j u, (pgL x)[j]? = some u → (w.alloc (.cells (pgA x) 113)).cell? ((⟨w.heap.size, 0, none⟩ : Addr).add j) = some u := by
  intro j u hj
  rw [add_mk, Nat.zero_add, (Blk.new w 113 (pgA x)).cell]
  unfold pgA
  rw [List.getElem?_toArray]
  exact hj
theorem idxStr {s : ByteArray} {b : List Int} (hs : strOf b = s) (hr : ∀ y ∈ b, 0 ≤ y ∧ y < 256) {j : Nat} (hj : j < b.length) (W : World) : (Instr.index 9 (.string s) (.int .i64 (j : Int))).run Try.prog W = .ok (.int .u8 (b.getD j 0)) W := by
  have hsz := strOf_size b
  rw [hs] at hsz
  rw [run_index_string W 9 s .i64 j Try.underlying9, dif_pos ⟨by omega, by omega⟩]
  congr 2
  have hsi := strI_strOf b hr
  rw [hs] at hsi
  have h1 : b.getD j 0 = (strI s).getD j 0 := by rw [hsi]
  rw [h1]
  unfold strI
  have h2 : j < s.data.toList.length := by
    have : s.data.toList.length = s.size := by rw [Array.length_toList]; rfl
    omega
  rw [List.getD_eq_getElem?_getD, List.getElem?_map, List.getElem?_eq_getElem h2]
  simp
  rfl
theorem or_sum (k : Nat) (hk : k ≤ 24) (a x : Int) (h0 : 0 ≤ a) (h1 : a < 4294967296) (h2 : 0 ≤ x) (h3 : x < (2 : Int) ^ k) : bits BinOp.or IntKind.i64 (a * (2 : Int) ^ k) x = a * (2 : Int) ^ k + x := by
  obtain ⟨m, rfl⟩ := Int.eq_ofNat_of_zero_le h0
  obtain ⟨n, rfl⟩ := Int.eq_ofNat_of_zero_le h2
  have hp : (2 : Int) ^ k = ((2 ^ k : Nat) : Int) := by rw [Int.natCast_pow]; rfl
  have hp24 : 2 ^ k ≤ 2 ^ 24 := Nat.pow_le_pow_right (by omega) hk
  have hpp : 0 < 2 ^ k := Nat.two_pow_pos k
  rw [hp] at h3 ⊢
  have hm : m < 4294967296 := by omega
  have hn : n < 2 ^ k := by omega
  have hb : m * 2 ^ k ≤ 4294967295 * 2 ^ 24 := Nat.mul_le_mul (by omega) hp24
  have e : bits BinOp.or IntKind.i64 ((m : Int) * ((2 ^ k : Nat) : Int)) n = IntKind.i64.wrap ((BitVec.ofInt 64 ((m : Int) * ((2 ^ k : Nat) : Int)) ||| BitVec.ofInt 64 n).toNat) := rfl
  have e1 : BitVec.ofInt 64 ((m : Int) * ((2 ^ k : Nat) : Int)) = BitVec.ofNat 64 (m * 2 ^ k) := by
    rw [← Int.natCast_mul]
    exact BitVec.ofInt_natCast _ _
  have e2 : BitVec.ofInt 64 (n : Int) = BitVec.ofNat 64 n := BitVec.ofInt_natCast _ _
  rw [e, e1, e2, BitVec.toNat_or, BitVec.toNat_ofNat, BitVec.toNat_ofNat, Nat.mod_eq_of_lt (by omega), Nat.mod_eq_of_lt (by omega)]
  have h := Nat.shiftLeft_add_eq_or_of_lt (i := k) (b := n) hn m
  rw [Nat.shiftLeft_eq] at h
  rw [h.symm, IntKind.wrap_i64, ← Int.natCast_mul]
  omega
theorem zz_next {z : List Int} {j : Nat} (h : ∀ i, i < j → z.getD i 0 = 0) (h2 : z.getD j 0 = 0) : ∀ i, i < j + 1 → z.getD i 0 = 0 := fun i hi => by
  rcases Nat.lt_or_ge i j with q | q
  · exact h i q
  · obtain rfl : i = j := by omega
    exact h2
theorem bytesOf (w : World) (z : List Int) (hz : ∀ y ∈ z, 0 ≤ y ∧ y < 256) : ∃ cap w', (convert 9 42 (.string (strOf z))).run Try.prog w = .ok (.slice (some ⟨w.heap.size, 0, none⟩) z.length cap) w' ∧ Kp NoB w w' ∧ w.heap.size < w'.heap.size ∧ ∀ j, j < z.length → w'.cell? ⟨w.heap.size, j, none⟩ = some (.int .u8 (z.getD j 0)) := by
  have h := run_bytes_of_string w 9 42 5 (strOf z) Try.underlying9 Try.underlying42 Try.underlying5
  rw [strOf_size] at h
  obtain ⟨cap, hcap⟩ : ∃ c, grownCap w z.length 0 5 = c := ⟨_, rfl⟩
  rw [hcap] at h
  obtain ⟨fz, hfz⟩ : ∃ fz, ((bytesRow (strOf z) cap).size, (bytesRow (strOf z) cap).size + 1) = fz := ⟨_, rfl⟩
  rw [hfz] at h
  refine ⟨_, _, h, (Kp.refl NoB w).drew.alloc _, lt_of_heap (heap_alloc_new w.drew _), fun j hj => ?_⟩
  have hjs : j < (strOf z).data.size := by have := strOf_size z; show j < (strOf z).size; omega
  have hrow := cell_of_row (w.drew.alloc (.cells (bytesRow (strOf z) cap) 5 fz)) w.heap.size j (bytesRow (strOf z) cap) 5 fz (heap_alloc_new w.drew _)
  rw [hrow, bytesRow_at _ _ j hjs]
  refine congrArg (fun y : Int => some (Value.int .u8 y)) ?_
  have hsi := strI_strOf z hz
  have h1 : z.getD j 0 = (strI (strOf z)).getD j 0 := by rw [hsi]
  rw [h1]
  unfold strI
  rw [List.getD_eq_getElem?_getD, List.getElem?_map, List.getElem?_eq_getElem (by simpa using hjs)]
  simp
section
variable {S : Nat → Prop} {W0 w : World} {db : Nat} {p : Pl}
attribute [local go_sem ↓] loadPg storePg allocPg exSlicePg
set_option maxRecDepth 100000 in
set_option maxHeartbeats 1600000 in
theorem records_q (h : Dq S w w db p) (hdn : p.down = false) (v : W4) (hv : W4Ok v) (ha : 1 ≤ v.a) :
    Calls Try.prog 51 #[.agg #[ptrV db], .agg (w4A v)] w (RcPost S w db p (recordsPg (p.seen nmJn) v)) := by
  have H := Lib.hid h
  have HD := Lib.hid hdn
  have HV := Lib.hid hv
  have HA := Lib.hid ha
  have hkb : Kp NoB w ((w.alloc (.cells #[ptrV db] 98)).alloc (.cells (w4A v) 102)) := ((Kp.refl _ _).alloc _).alloc _
  have hbd : Blk ((w.alloc (.cells #[ptrV db] 98)).alloc (.cells (w4A v) 102)) w.heap.size 98 #[ptrV db] := (Blk.new _ _ _).alloc _
  have hbw : Blk ((w.alloc (.cells #[ptrV db] 98)).alloc (.cells (w4A v) 102)) (w.heap.size + 1) 102 (w4A v) := Blk.newAt _ _ _ _ (by simp)
  obtain ⟨w1, hw1⟩ : ∃ w1, (w.alloc (.cells #[ptrV db] 98)).alloc (.cells (w4A v) 102) = w1 := ⟨_, rfl⟩
  have hs1 : w1.heap.size = w.heap.size + 1 + 1 := by rw [← hw1]; simp
  rw [hw1] at hkb hbd hbw
  have HKB := Lib.hid hkb
  have HBD := Lib.hid hbd
  have HBW := Lib.hid hbw
  have HS1 := Lib.hid hs1
  have c0 : w1.cell? ⟨w.heap.size + 1, 0, none⟩ = some (.int .u32 v.a) := hbw.cell 0
  have c1 : w1.cell? ⟨w.heap.size + 1, 1, none⟩ = some (.int .u32 v.b) := hbw.cell 1
  have c2 : w1.cell? ⟨w.heap.size + 1, 2, none⟩ = some (.int .u32 v.c) := hbw.cell 2
  have c3 : w1.cell? ⟨w.heap.size + 1, 3, none⟩ = some (.int .u32 v.d) := hbw.cell 3
  have hwa : IntKind.u32.wrap (v.a - 1) = v.a - 1 := by have := hv.a; rw [IntKind.wrap_u32]; omega
  have he : ∀ r, recordsPg (p.seen nmJn) v = r → Hid (recordsPg (p.seen nmJn) v = r) := fun r hr => Lib.hid hr
  obtain ⟨R, hR⟩ : ∃ R, recordsPg (p.seen nmJn) v = R := ⟨_, rfl⟩
  have HRR := Lib.hid hR
  rw [hR]
  have FB : Hid (4096 < v.a - 1 ∨ 4096 < v.b ∨ v.c ≠ 0 ∨ v.d ≠ 0 → RcPost S w db p R (.returned (.tuple #[.slice none 0 0, .bool false])) w1) := Lib.hid (fun hb => ⟨hkb, .inl ⟨by rw [← hR]; unfold recordsPg; rw [if_pos hb], rfl⟩⟩)
  clear h hdn hv ha hkb hbd hbw hs1 hR he
  obtain ⟨va, hva⟩ : ∃ va, v.a = va := ⟨_, rfl⟩
  obtain ⟨vb, hvb⟩ : ∃ vb, v.b = vb := ⟨_, rfl⟩
  obtain ⟨vc, hvc⟩ : ∃ vc, v.c = vc := ⟨_, rfl⟩
  obtain ⟨vd, hvd⟩ : ∃ vd, v.d = vd := ⟨_, rfl⟩
  rw [hva] at c0 hwa HA FB
  rw [hvb] at c1 FB
  rw [hvc] at c2 FB
  rw [hvd] at c3 FB
  have HVA := Lib.hid hva
  have HVB := Lib.hid hvb
  have HVC := Lib.hid hvc
  have HVD := Lib.hid hvd
  have hra := HV.out.a
  have hrb := HV.out.b
  rw [hva] at hra
  rw [hvb] at hrb
  clear hva hvb hvc hvd
  obtain ⟨j0, hj0, hy0, hy1, hy2⟩ := info_parts infoPgA
  have HJ0 := Lib.hid hj0
  have HY0 := Lib.hid hy0
  have HY1 := Lib.hid hy1
  have HY2 := Lib.hid hy2
  clear hj0 hy0 hy1 hy2
  unfold ptrV at hw1 ⊢
  by_cases hA : 4096 < va - 1
  · go_enter Try.func51, Try.ntmps51
    go_wp2_with fail
    go_ret2
    exact FB.out (.inl hA)
  · by_cases hB : 4096 < vb
    · go_enter Try.func51, Try.ntmps51
      go_wp2_with fail
      go_ret2
      exact FB.out (.inr (.inl hB))
    · by_cases hC : vc = 0
      · subst hC
        by_cases hD : vd = 0
        · subst hD
          go_enter Try.func51, Try.ntmps51
          obtain ⟨N, hN⟩ : ∃ N : Nat, va - 1 = N := ⟨(va - 1).toNat, by have := HA.out; omega⟩
          have HN := Lib.hid hN
          have hR0 : Hid (R = recsPg (p.seen nmJn) vb N 0 0) := Lib.hid (by
            rw [← HRR.out]
            unfold recordsPg
            rw [if_neg (by rw [HVA.out, HVB.out, HVC.out, HVD.out]; omega), HVA.out, HVB.out]
            rw [show (va - 1).toNat = N by omega])
          have hN4 : N ≤ 4096 := by omega
          clear hN
          go_wp2_with fail
          go_loopw [6, 7, 37] (fun v6 v7 v37 wr => RcRel w1 p vb N R v6 v7 v37 wr) (fun _ _ v _ => N - (intOf v).toNat)
          case atStart => exact ⟨0, 0, [], rfl, rfl, Nat.zero_le _, rfl, by rw [hR0.out]; simp, ⟨World.ownsRow_nil _ _ _ _, by simp⟩, Kp.refl _ _⟩
          case round =>
            obtain ⟨wq, rfl⟩ : ∃ wq, wq = wr := ⟨_, rfl⟩
            obtain ⟨k, last, acc, rfl, rfl, hk, hal, hre, how, hkp⟩ := hrel
            have HAL := Lib.hid hal
            clear hal
            have HRE := Lib.hid hre
            have HOW := Lib.hid how
            have HKP := Lib.hid hkp
            have HNN := HN.out
            have cd : wq.cell? ⟨w.heap.size, 0, none⟩ = some (.pointer (some ⟨db, 0, none⟩)) := by
              rw [hkp.cell HBD.out.lt (fun q => q), HBD.out.cell]; rfl
            have c1 : wq.cell? ⟨w.heap.size + 1, 1, none⟩ = some (.int .u32 vb) := by
              rw [hkp.cell HBW.out.lt (fun q => q)]; exact c1
            obtain ⟨A6, cap6, rfl⟩ := own_slice how.1
            by_cases hlt : k < N
            · have hkk : (k : Int) < va - 1 := by omega
              have hw1' : IntKind.i64.wrap ((k : Int) * 320) = (k : Int) * 320 := by rw [IntKind.wrap_i64]; omega
              have hw2' : IntKind.i64.wrap (64 + (k : Int) * 320) = 64 + (k : Int) * 320 := by rw [IntKind.wrap_i64]; omega
              have hr1 : (-9223372036854775808 : Int) ≤ 64 + (k : Int) * 320 ∧ 64 + (k : Int) * 320 ≤ 9223372036854775807 := by omega
              have hr2 : (-9223372036854775808 : Int) ≤ 320 ∧ (320 : Int) ≤ 9223372036854775807 := by omega
              have HR1 := Lib.hid hr1
              have HR2 := Lib.hid hr2
              clear hre how hkp hr1 hr2 HNN
              go_wp2_with fail
              refine (show Calls _ _ #[ptrV db, .string nmJn, .int .i64 (64 + (k : Int) * 320), .int .i64 320] _ _ from read_q ((H.out.keep HKB.out).keep HKP.out) nmJn (64 + (k : Int) * 320) 320 nmJn_le HR1.out HR2.out).mono ?_
              rintro e w2 ⟨rfl, hk2⟩
              have hkp2 := HKP.out.trans hk2 (fun _ _ q => q)
              have HKP2 := Lib.hid hkp2
              have HKQ := Lib.hid hk2
              have eE : p.readE (64 + (k : Int) * 320) 320 = 0 := by unfold Pl.readE; rw [HD.out, if_neg (by simp), if_neg (by omega)]
              have eR : p.read nmJn (64 + (k : Int) * 320) 320 = ((p.seen nmJn).drop (64 + 320 * k)).take 320 := by
                unfold Pl.read
                rw [eE, if_pos rfl]
                congr 2
                omega
              rw [eE, eR]
              have hrg : ∀ y ∈ ((p.seen nmJn).drop (64 + 320 * k)).take 320, 0 ≤ y ∧ y < 256 := fun y hy => H.out.seen_rng nmJn y (List.mem_of_mem_drop (List.mem_of_mem_take hy))
              have hle : (((p.seen nmJn).drop (64 + 320 * k)).take 320).length ≤ 320 := by simp; omega
              have hstep := recs_step (p.seen nmJn) vb N k last hlt
              obtain ⟨b, hb⟩ : ∃ b, ((p.seen nmJn).drop (64 + 320 * k)).take 320 = b := ⟨_, rfl⟩
              rw [hb] at hrg hle hstep ⊢
              have HST := Lib.hid hstep
              have HBR := Lib.hid hrg
              have hsz := strOf_size b
              have HSZ := Lib.hid hsz
              have hsm : (strOf b).size ≤ 320 := by rw [hsz]; exact hle
              clear hk2 hkp2 eE eR hb hstep
              by_cases hsh : b.length < 320
              · have hs1 : ((strOf b).size : Int) < 320 := by rw [hsz]; omega
                have HSH := Lib.hid hsh
                have e0 : R = none := by rw [HRE.out, HST.out.1 hsh]; rfl
                have HE0 := Lib.hid e0
                generalize strOf b = s at hs1 hsm ⊢
                clear hsz hrg hle hsh e0
                go_wp2_with fail
                go_ret2
                exact ⟨HKB.out.trans HKP2.out (fun _ _ q => q), .inl ⟨HE0.out, rfl⟩⟩
              · have hs1 : (strOf b).size = 320 := by rw [hsz]; omega
                have hs2 : ¬ ((strOf b).size : Int) < 320 := by rw [hs1]; omega
                have hbl : b.length = 320 := by omega
                have HBL := Lib.hid hbl
                have HS320 := Lib.hid hs1
                obtain ⟨s, hs⟩ : ∃ s, strOf b = s := ⟨_, rfl⟩
                rw [hs] at hs1 hs2 hsz hsm ⊢
                have HS := Lib.hid hs
                clear hsz hrg hle hsh hs hsm
                go_upto_region 11 with fail
                have HIX : Hid (∀ j, j < 320 → ∀ W, (Instr.index 9 (.string s) (.int .i64 ((j : Nat) : Int))).run Try.prog W = .ok (.int .u8 (b.getD j 0)) W) := Lib.hid (fun j hj W => idxStr HS.out HBR.out (by rw [HBL.out]; exact hj) W)
                have hix0 : ∀ W, (Instr.index 9 (.string s) (.int .i64 0)).run Try.prog W = .ok (.int .u8 (b.getD 0 0)) W := HIX.out 0 (by omega)
                have hix1 : ∀ W, (Instr.index 9 (.string s) (.int .i64 1)).run Try.prog W = .ok (.int .u8 (b.getD 1 0)) W := HIX.out 1 (by omega)
                have hix2 : ∀ W, (Instr.index 9 (.string s) (.int .i64 2)).run Try.prog W = .ok (.int .u8 (b.getD 2 0)) W := HIX.out 2 (by omega)
                have hix3 : ∀ W, (Instr.index 9 (.string s) (.int .i64 3)).run Try.prog W = .ok (.int .u8 (b.getD 3 0)) W := HIX.out 3 (by omega)
                have hnum : num b 0 = b.getD 0 0 * 16777216 + b.getD 1 0 * 65536 + b.getD 2 0 * 256 + b.getD 3 0 := rfl
                have g0 := getD_rng HBR.out 0
                have g1 := getD_rng HBR.out 1
                have g2 := getD_rng HBR.out 2
                have g3 := getD_rng HBR.out 3
                generalize b.getD 0 0 = b0 at hix0 hnum g0
                generalize b.getD 1 0 = b1 at hix1 hnum g1
                generalize b.getD 2 0 = b2 at hix2 hnum g2
                generalize b.getD 3 0 = b3 at hix3 hnum g3
                have hwb0 : IntKind.i64.wrap (b0 * 16777216) = b0 * 16777216 := by rw [IntKind.wrap_i64]; omega
                have hwb1 : IntKind.i64.wrap (b1 * 65536) = b1 * 65536 := by rw [IntKind.wrap_i64]; omega
                have hwb2 : IntKind.i64.wrap (b2 * 256) = b2 * 256 := by rw [IntKind.wrap_i64]; omega
                have hwc0 : IntKind.i64.wrap b0 = b0 := by rw [IntKind.wrap_i64]; omega
                have hwc1 : IntKind.i64.wrap b1 = b1 := by rw [IntKind.wrap_i64]; omega
                have hwc2 : IntKind.i64.wrap b2 = b2 := by rw [IntKind.wrap_i64]; omega
                have hwc3 : IntKind.i64.wrap b3 = b3 := by rw [IntKind.wrap_i64]; omega
                have ho1 : bits BinOp.or IntKind.i64 (b0 * 16777216) (b1 * 65536) = b0 * 16777216 + b1 * 65536 := or_sum 24 (by omega) b0 (b1 * 65536) (by omega) (by omega) (by omega) (by show _ < (16777216 : Int); omega)
                have ho2 : bits BinOp.or IntKind.i64 (b0 * 16777216 + b1 * 65536) (b2 * 256) = b0 * 16777216 + b1 * 65536 + b2 * 256 := by
                  have := or_sum 16 (by omega) (b0 * 256 + b1) (b2 * 256) (by omega) (by omega) (by omega) (by show _ < (65536 : Int); omega)
                  rw [show (b0 * 256 + b1) * (2 : Int) ^ 16 = b0 * 16777216 + b1 * 65536 by rw [show (2 : Int) ^ 16 = 65536 from rfl]; omega] at this
                  exact this
                have ho3 : bits BinOp.or IntKind.i64 (b0 * 16777216 + b1 * 65536 + b2 * 256) b3 = b0 * 16777216 + b1 * 65536 + b2 * 256 + b3 := by
                  have := or_sum 8 (by omega) (b0 * 65536 + b1 * 256 + b2) b3 (by omega) (by omega) (by omega) (by show _ < (256 : Int); omega)
                  rw [show (b0 * 65536 + b1 * 256 + b2) * (2 : Int) ^ 8 = b0 * 16777216 + b1 * 65536 + b2 * 256 by rw [show (2 : Int) ^ 8 = 256 from rfl]; omega] at this
                  exact this
                refine wp_region_held_drew (S := fun _ => True) (by kernel_rfl) trivial (fun hHeld => ?_)
                refine tkS (i := 0) (v := (.string s)) rfl (Or.inl ⟨by rfl, fun w' hq => by go_simp⟩) trivial ?_
                simp only [Act.put, skA, skB, skC]
                refine tkS (i := 1) (v := (.int .u8 b0)) rfl (Or.inl ⟨by rfl, fun w' hq => by go_simp⟩) trivial ?_
                simp only [Act.put, skA, skB, skC]
                refine tkS (i := 2) (v := (.int .i64 b0)) rfl (Or.inl ⟨by rfl, fun w' hq => by go_simp⟩) trivial ?_
                simp only [Act.put, skA, skB, skC]
                refine tkS (i := 3) (v := (.int .i64 (b0 * 16777216))) rfl (Or.inl ⟨by rfl, fun w' hq => by go_simp⟩) trivial ?_
                simp only [Act.put, skA, skB, skC]
                refine tkS (i := 4) (v := (.string s)) rfl (Or.inl ⟨by rfl, fun w' hq => by go_simp⟩) trivial ?_
                simp only [Act.put, skA, skB, skC]
                refine tkS (i := 5) (v := (.int .u8 b1)) rfl (Or.inl ⟨by rfl, fun w' hq => by go_simp⟩) trivial ?_
                simp only [Act.put, skA, skB, skC]
                refine tkS (i := 6) (v := (.int .i64 b1)) rfl (Or.inl ⟨by rfl, fun w' hq => by go_simp⟩) trivial ?_
                simp only [Act.put, skA, skB, skC]
                refine tkS (i := 7) (v := (.int .i64 (b1 * 65536))) rfl (Or.inl ⟨by rfl, fun w' hq => by go_simp⟩) trivial ?_
                simp only [Act.put, skA, skB, skC]
                refine tkS (i := 8) (v := (.int .i64 (b0 * 16777216 + b1 * 65536))) rfl (Or.inl ⟨by rfl, fun w' hq => by go_simp⟩) trivial ?_
                simp only [Act.put, skA, skB, skC]
                refine tkS (i := 9) (v := (.string s)) rfl (Or.inl ⟨by rfl, fun w' hq => by go_simp⟩) trivial ?_
                simp only [Act.put, skA, skB, skC]
                refine tkS (i := 10) (v := (.int .u8 b2)) rfl (Or.inl ⟨by rfl, fun w' hq => by go_simp⟩) trivial ?_
                simp only [Act.put, skA, skB, skC]
                refine tkS (i := 11) (v := (.int .i64 b2)) rfl (Or.inl ⟨by rfl, fun w' hq => by go_simp⟩) trivial ?_
                simp only [Act.put, skA, skB, skC]
                refine tkS (i := 12) (v := (.int .i64 (b2 * 256))) rfl (Or.inl ⟨by rfl, fun w' hq => by go_simp⟩) trivial ?_
                simp only [Act.put, skA, skB, skC]
                refine tkS (i := 13) (v := (.int .i64 (b0 * 16777216 + b1 * 65536 + b2 * 256))) rfl (Or.inl ⟨by rfl, fun w' hq => by go_simp⟩) trivial ?_
                simp only [Act.put, skA, skB, skC]
                refine tkS (i := 14) (v := (.string s)) rfl (Or.inl ⟨by rfl, fun w' hq => by go_simp⟩) trivial ?_
                simp only [Act.put, skA, skB, skC]
                refine tkS (i := 15) (v := (.int .u8 b3)) rfl (Or.inl ⟨by rfl, fun w' hq => by go_simp⟩) trivial ?_
                simp only [Act.put, skA, skB, skC]
                refine tkS (i := 16) (v := (.int .i64 b3)) rfl (Or.inl ⟨by rfl, fun w' hq => by go_simp⟩) trivial ?_
                simp only [Act.put, skA, skB, skC]
                refine tkS (i := 17) (v := (.int .i64 (b0 * 16777216 + b1 * 65536 + b2 * 256 + b3))) rfl (Or.inl ⟨by rfl, fun w' hq => by go_simp⟩) trivial ?_
                simp only [Act.put, skA, skB, skC]
                rw [← hnum]
                have hnr : 0 ≤ num b 0 ∧ num b 0 < 4294967296 := num_rng HBR.out 0
                generalize num b 0 = x at hnum hnr HST ⊢
                have HNR := Lib.hid hnr
                clear hix0 hix1 hix2 hix3 hnum g0 g1 g2 g3 hwb0 hwb1 hwb2 hwc0 hwc1 hwc2 hwc3 ho1 ho2 ho3 hnr
                refine tkS (i := 18) (v := .agg (pgA ⟨x, zeros 256⟩)) rfl (Or.inl ⟨by rfl, fun w' hq => exBuildPg1 w' _ _ x _ _ _ _ _ rfl⟩) trivial ?_
                simp only [Act.put, skA, skB, skC]
                refine wpAnyH_ready (rs := [19]) (by kernel_rfl) (by simp) ?_
                refine AllReadyH.valR (fun W' => W' = w2.drew.alloc (.cells (pgA ⟨0, zeros 256⟩) 113)) rfl (by rfl) _ _ (allocPg w2.drew _ _ _ _ _ _) (fun _ _ => trivial) rfl ?_ AllReadyH.nil
                rintro _ rfl
                simp only [Act.put, skA, skB, skC]
                have hbp := Blk.new w2.drew 113 (pgA ⟨0, zeros 256⟩)
                have hsz0 : ∀ n, (pgA ⟨n, zeros 256⟩).size = 257 := fun n => by simp [pgA, pgL, zeros]
                refine wpAnyH_ready (rs := [20]) (by kernel_rfl) (by simp) ?_
                refine AllReadyH.storeL rfl (by rfl) w2.drew.heap.size 0 (pgA ⟨x, zeros 256⟩) rfl rfl (hbp.thereAll _ (by rw [hsz0, hsz0])) (by rw [hsz0]; exact infoPgS) (pgA_ones _) trivial ?_ AllReadyH.nil
                refine wpAnyH_done (by kernel_rfl) ?_ _
                have hbx := hbp.whole (pgA ⟨x, zeros 256⟩) (by rw [hsz0, hsz0])
                have hkx : Kp NoB w2 ((w2.drew.alloc (.cells (pgA ⟨0, zeros 256⟩) 113)).setCells w2.drew.heap.size 0 (pgA ⟨x, zeros 256⟩).toList) := Kp.setCells (.inl (Nat.le_refl _)) _ _ _ ((Kp.refl NoB w2).drew.alloc _)
                have hG := hbx.lt
                generalize (w2.drew.alloc (.cells (pgA ⟨0, zeros 256⟩) 113)).setCells w2.drew.heap.size 0 (pgA ⟨x, zeros 256⟩).toList = w3 at hbx hkx hG ⊢
                obtain ⟨G, hGG⟩ : ∃ G, w2.drew.heap.size = G := ⟨_, rfl⟩
                rw [hGG] at hbx hG ⊢
                have HGG := Lib.hid hGG
                have HBX := Lib.hid hbx
                have HKX := Lib.hid hkx
                have HG := Lib.hid hG
                have he1 : s.extract 4 64 = strOf ((b.drop 4).take 60) := by rw [← HS.out]; exact strOf_sub b 4 64
                have hl60 : ((b.drop 4).take 60).length = 60 := by simp [HBL.out]
                have hzr : ∀ y ∈ (b.drop 4).take 60, 0 ≤ y ∧ y < 256 := fun y hy => HBR.out y (List.mem_of_mem_drop (List.mem_of_mem_take hy))
                obtain ⟨z, hz⟩ : ∃ z, (b.drop 4).take 60 = z := ⟨_, rfl⟩
                rw [hz] at he1 hl60 hzr HST
                obtain ⟨cap, w4, hcv, hk4, hs4, hc4⟩ := bytesOf w3 z hzr
                rw [hl60] at hcv
                have HK4 := Lib.hid (HKX.out.trans hk4 (fun _ _ q => q))
                have HBX4 := Lib.hid (HBX.out.keep hk4 (fun q => q))
                have HC4 := Lib.hid hc4
                have HL60 := Lib.hid hl60
                clear hbp hbx hkx hG hGG hHeld hk4 hc4 hz hzr
                go_wp2_with fail
                go_loopw [75] (fun v W => ∃ j : Nat, v = .int .i64 (j : Int) ∧ j ≤ 60 ∧ (∀ i, i < j → z.getD i 0 = 0) ∧ W = w4) (fun v _ => 60 - (intOf v).toNat)
                case atStart => exact ⟨0, rfl, by omega, fun i hi => absurd hi (by omega), rfl⟩
                case round =>
                  obtain ⟨j, rfl, hj, hzz, rfl⟩ := hrel
                  have HZZ := Lib.hid hzz
                  by_cases hj60 : j < 60
                  · have hjj : (j : Int) < 60 := by omega
                    have hcj := HC4.out j (by rw [HL60.out]; exact hj60)
                    obtain ⟨y, hy⟩ : ∃ y, z.getD j 0 = y := ⟨_, rfl⟩
                    rw [hy] at hcj
                    have HY := Lib.hid hy
                    clear hzz hy
                    by_cases hy0 : y = 0
                    · subst hy0
                      go_wp2_with fail
                      go_roundw
                      case rel => exact ⟨j + 1, by go_num, by omega, zz_next HZZ.out HY.out, trivial⟩
                      case measure => simp [intOf]; omega
                    · have hy1 : (y != 0) = true := by simpa using hy0
                      have hy2 : (y == 0) = false := by simpa using hy0
                      have HY0 := Lib.hid hy0
                      have hR : R = none := by
                        rw [HRE.out, (HST.out.2 (by rw [HBL.out]; omega)).2 (fun q => by
                          have q1 := HY.out
                          rw [q.1] at q1
                          exact HY0.out (by rw [← q1]; unfold zeros; rw [List.getD_eq_getElem?_getD, List.getElem?_replicate]; split <;> rfl))]
                        rfl
                      have HR9 := Lib.hid hR
                      clear hR
                      go_wp2_with fail
                      go_ret2
                      exact ⟨HKB.out.trans (HKP2.out.trans HK4.out (fun _ _ q => q)) (fun _ _ q => q), .inl ⟨HR9.out, rfl⟩⟩
                  · have hjj : ¬ (j : Int) < 60 := by omega
                    obtain rfl : j = 60 := by omega
                    have hzf : z = zeros 60 := by
                      apply List.ext_getElem
                      · rw [HL60.out]; simp [zeros]
                      · intro i h1 h2
                        have := hzz i (by rw [HL60.out] at h1; exact h1)
                        rw [List.getD_eq_getElem?_getD, List.getElem?_eq_getElem h1] at this
                        simp only [zeros, List.getElem_replicate]
                        exact this
                    have HZF := Lib.hid hzf
                    have he2 : s.extract 64 320 = strOf (b.drop 64) := by
                      rw [← HS.out, strOf_sub b 64 320, List.take_of_length_le (by simp [HBL.out])]
                    have hd64 : (b.drop 64).length = 256 := by simp [HBL.out]
                    have hdr : ∀ y ∈ b.drop 64, 0 ≤ y ∧ y < 256 := fun y hy => HBR.out y (List.mem_of_mem_drop hy)
                    have hpok : PgOk ⟨x, b.drop 64⟩ := ⟨hd64, hdr, by have := HNR.out; show _ ≤ x ∧ x ≤ _; omega⟩
                    have HPOK := Lib.hid hpok
                    have hst := HST.out.2 (by rw [HBL.out]; omega)
                    have HST2 := Lib.hid hst
                    obtain ⟨pb, hpb⟩ : ∃ pb, b.drop 64 = pb := ⟨_, rfl⟩
                    rw [hpb] at he2 hd64 hdr HPOK HST2
                    have hsi := strI_strOf pb hdr
                    have hss : (strOf pb).size = 256 := by rw [strOf_size]; exact hd64
                    obtain ⟨s2, hs2'⟩ : ∃ s2, strOf pb = s2 := ⟨_, rfl⟩
                    rw [hs2'] at he2 hsi hss
                    clear hzz hzf hst hpb hs2' hpok hdr
                    go_upto_region 18 with fail
                    refine wp_region_held_drew (S := fun _ => True) (by kernel_rfl) trivial (fun hHeld => ?_)
                    have hbx : Blk wr.drew G 113 (pgA ⟨x, zeros 256⟩) := HBX4.out
                    have hk5 : Kp NoB w2 wr.drew := HK4.out.drew
                    generalize wr.drew = w5 at hbx hk5 ⊢
                    have ht5 : w5.there G 1 s2.size := hbx.there (by rw [hss]; simp [pgA, pgL, zeros])
                    have hcp := copyS w5 G 1 256 256 s2 (by rw [hss]; omega) ht5
                    rw [hsi] at hcp
                    have hb6 := pg_fill hbx hd64
                    have hk6 : Kp NoB w2 (w5.setCells G 1 (pb.map (Value.int .u8))) := Kp.setCells (.inl (by have := HGG.out; show _ ≤ G; rw [← this]; exact Nat.le_refl _)) _ _ _ hk5
                    refine tkS (i := 0) (v := (.pointer (some ⟨G, 1, none⟩))) rfl (Or.inl ⟨by rfl, fun w' hq => by go_simp⟩) trivial ?_
                    simp only [Act.put, skA, skB, skC]
                    refine tkS (i := 1) (v := (.slice (some ⟨G, 1, none⟩) 256 256)) rfl (Or.inl ⟨by rfl, fun w' hq => by go_simp⟩) trivial ?_
                    simp only [Act.put, skA, skB, skC]
                    refine tkS (i := 2) (v := (.string s)) rfl (Or.inl ⟨by rfl, fun w' hq => by go_simp⟩) trivial ?_
                    simp only [Act.put, skA, skB, skC]
                    refine tkS (i := 3) (v := (.string s2)) rfl (Or.inl ⟨by rfl, fun w' hq => by go_simp⟩) trivial ?_
                    simp only [Act.put, skA, skB, skC]
                    refine wpAnyH_ready (rs := [4]) (by kernel_rfl) (by simp) ?_
                    refine AllReadyH.valR (fun W' => W' = w5.setCells G 1 (pb.map (Value.int .u8))) rfl (by rfl) _ _ (copyS_exec hcp _ rfl rfl) (fun _ _ => trivial) rfl ?_ AllReadyH.nil
                    rintro _ rfl
                    simp only [Act.put, skA, skB, skC]
                    refine wpAnyH_done (by kernel_rfl) ?_ _
                    generalize w5.setCells G 1 (pb.map (Value.int .u8)) = w6 at hb6 hk6 ⊢
                    have HB6 := Lib.hid hb6
                    have HK6 := Lib.hid hk6
                    have cx : w6.cell? ⟨G, 0, none⟩ = some (.int .i64 x) := hb6.cell 0
                    have cb : w6.cell? ⟨w.heap.size + 1, 1, none⟩ = some (.int .u32 vb) := by
                      rw [hk6.cell (Nat.lt_of_lt_of_le (block_lt_of_cell c1) HKQ.out.size) (fun q => q), HKQ.out.cell (block_lt_of_cell c1) (fun q => q)]; exact c1
                    clear hbx hk5 ht5 hcp hb6 hk6 hHeld he1 he2 hsi hss hsz0 hl60 hcv hs4 hj hj60 hjj hd64 cd c0 c1 c2 c3 hw1' hw2' hs1 hs2 hbl hw1 hwa
                    by_cases hle : x ≤ last
                    · have e0 : R = none := by
                        rw [HRE.out, HST2.out.2 (fun q => by have := q.2.1; omega)]; rfl
                      have HE0 := Lib.hid e0
                      clear e0
                      go_wp2_with fail
                      go_ret2
                      exact ⟨HKB.out.trans (HKP2.out.trans HK6.out (fun _ _ q => q)) (fun _ _ q => q), .inl ⟨HE0.out, rfl⟩⟩
                    · by_cases hgt : vb < x
                      · have e0 : R = none := by
                          rw [HRE.out, HST2.out.2 (fun q => by have := q.2.2; omega)]; rfl
                        have HE0 := Lib.hid e0
                        clear e0
                        go_wp2_with fail
                        go_ret2
                        exact ⟨HKB.out.trans (HKP2.out.trans HK6.out (fun _ _ q => q)) (fun _ _ q => q), .inl ⟨HE0.out, rfl⟩⟩
                      · have e0 := HST2.out.1 ⟨HZF.out, by omega, by omega⟩
                        have HE0 := Lib.hid e0
                        have t6 : w6.there G 0 257 := HB6.out.thereAll 257 (pgA_size HPOK.out)
                        have r6 : readRow w6 G 0 257 = pgA ⟨x, pb⟩ := HB6.out.readAll 257 (pgA_size HPOK.out)
                        obtain ⟨RR, hRR⟩ : ∃ RR, pgA ⟨x, pb⟩ = RR := ⟨_, rfl⟩
                        have hrs : RR.size = 257 := by rw [← hRR]; exact pgA_size HPOK.out
                        rw [hRR] at r6
                        have HRR2 := Lib.hid hRR
                        clear e0 hRR
                        go_wp2_with fail
                        have hcn := pg_new w6 ⟨x, pb⟩
                        rw [HRR2.out] at hcn
                        refine wp_append_ownB (.tmp 101) (.tmp 103) 22 rfl w1.heap.size 113 j0 _ 257 264 Try.underlying22 HJ0.out HY0.out HY1.out HY2.out rfl (by omega) (.slice A6 acc.length cap6) acc.length (pgsCells acc) rfl
                          (own_keepB HOW.out.1 ((HKQ.out.trans HK6.out (fun _ _ q => q)).alloc _) (fun _ _ q => q)) ⟨w6.heap.size, 0, none⟩ 1 1 (pgL ⟨x, pb⟩) rfl (pgL_len HPOK.out) hcn (pgL_one _) (by have := HAL.out; unfold maxLen; omega) (by have := HAL.out; omega)
                          (by have h1 := HKP2.out.size; have h2 := HK6.out.size; simp; omega) ?_
                        intro v7 w7 hown7 hgrow7 hb7
                        obtain ⟨A7, c7, rfl⟩ := own_slice hown7
                        have hk7 := ((HKP2.out.trans HK6.out (fun _ _ q => q)).alloc (.cells RR 113)).own hgrow7 rfl HOW.out.1
                        have HK7 := Lib.hid hk7
                        have HO7 := Lib.hid hown7
                        clear hown7 hgrow7 hb7 hk7 hcn t6 r6
                        go_wp2_with fail
                        go_roundw
                        case rel =>
                          refine ⟨k + 1, x, acc ++ [⟨x, pb⟩], by go_num, rfl, by omega, by rw [List.length_append, HAL.out]; rfl, ?_, ⟨?_, ?_⟩, HK7.out⟩
                          · rw [HRE.out, HE0.out]
                            cases recsPg (p.seen nmJn) vb (N - (k + 1)) (k + 1) x <;> simp
                          · have := HO7.out
                            unfold pgsCells at this ⊢
                            rw [List.flatMap_append, List.length_append]
                            simpa using this
                          · intro y hy
                            rcases List.mem_append.1 hy with q | q
                            · exact HOW.out.2 y q
                            · rw [List.mem_singleton.1 q]; exact HPOK.out
                        case measure => simp [intOf]; omega
            · have hkk : ¬ (k : Int) < va - 1 := by have := HNN; omega
              obtain rfl : k = N := by omega
              have e0 : R = some acc := by
                rw [hre, Nat.sub_self]
                show (some []).map (acc ++ ·) = _
                simp
              have HE0 := Lib.hid e0
              clear hre how hkp e0
              go_wp2_with fail
              go_ret2
              refine ⟨HKB.out.trans HKP.out (fun _ _ q => q), .inr ⟨acc, _, HE0.out, rfl, ?_⟩⟩
              exact ⟨HOW.out.1.mono HKB.out.size, HOW.out.2⟩
        · have hD1 : (vd != 0) = true := by simpa using hD
          have hD2 : (vd == 0) = false := by simpa using hD
          go_enter Try.func51, Try.ntmps51
          go_wp2_with fail
          go_ret2
          exact FB.out (.inr (.inr (.inr hD)))
      · have hC1 : (vc != 0) = true := by simpa using hC
        have hC2 : (vc == 0) = false := by simpa using hC
        go_enter Try.func51, Try.ntmps51
        go_wp2_with fail
        go_ret2
        exact FB.out (.inr (.inr (.inl hC)))
end
end Go.Proofs.Ytegcbdfilkecpaa
