/- Texts of this proof, one behind the other: lemmas and contracts; each says its own conditions. -/
import Derived.Test.YtegcbdfilkecpaaM10
import Derived.Test.YtegcbdfilkecpaaM11
/- The journal: the function values of Recover and Commit; no condition but on the counts. -/
namespace Go.Proofs.Ytegcbdfilkecpaa
open Go.RowKit

theorem kept_pgs (A : Option Addr) (n : Nat) (l : List Pg) : Kept fun S w => PgsAt w A n l ∧ Apart S A n := fun S S' w w' h k hS => by
  refine ⟨Rows.keepS h.1 k (fun g o e hn => h.2 g o e hn), fun g o e hn q => ?_⟩
  rcases hS g q with q | q
  · exact h.2 g o e hn q
  · have := h.1.lt e hn
    omega
section
variable {S : Nat → Prop} {w : World} {db : Nat} {p : Pl}
attribute [local go_sem ↓] loadW4 storeW4
set_option maxRecDepth 100000 in
theorem sealAt_q (h : Dq S w w db p) (v : W4) (Bd Bw : Nat) (hd : Blk w Bd 98 #[ptrV db]) (hw : Blk w Bw 102 (w4A v)) (hm : p.sm 40000) :
    Calls Try.prog 53 #[.pointer (some ⟨Bd, 0, none⟩), .pointer (some ⟨Bw, 0, none⟩)] w fun e w' => e = .returned (.int .i64 (p.runS (headS nmJn v)).2) ∧ Dq S w w' db (p.runS (headS nmJn v)).1 := by
  have H := Lib.hid h
  have HM := Lib.hid hm
  have cd : w.cell? ⟨Bd, 0, none⟩ = some (.pointer (some ⟨db, 0, none⟩)) := hd.cell 0
  have t0 : w.there Bw 0 4 := hw.thereAll 4 rfl
  have r0 : readRow w Bw 0 4 = w4A v := hw.readAll 4 rfl
  clear h hm hd hw
  go_enter Try.func53, Try.ntmps53
  go_wp2_with fail
  refine (show Calls _ _ #[.agg #[ptrV db], _] _ _ from jseal_q H.out v HM.out).mono ?_
  rintro e w4 ⟨rfl, h4⟩
  have H4 := Lib.hid h4
  clear h4
  go_wp2_with fail
  go_ret
  exact ⟨rfl, H4.out⟩
set_option maxRecDepth 100000 in
theorem putAt_q (h : Dq S w w db p) (v : W4) (hb : 0 ≤ v.b ∧ v.b ≤ 4096) (Bd Bw Bp : Nat) (A : Option Addr) (n cap : Nat) (l : List Pg) (hd : Blk w Bd 98 #[ptrV db]) (hw : Blk w Bw 102 (w4A v)) (hp : Blk w Bp 22 #[.slice A n cap])
    (hl : PgsAt w A n l) (hA : Apart S A n) (hok : PgsOk l) (hm : p.sm (20000 * (n + 3))) (hnn : n < 1099511627776) :
    Calls Try.prog 55 #[.pointer (some ⟨Bd, 0, none⟩), .pointer (some ⟨Bw, 0, none⟩), .pointer (some ⟨Bp, 0, none⟩)] w fun e w' => e = .returned (.int .i64 (p.runS (homeS v.b l)).2) ∧ Dq S w w' db (p.runS (homeS v.b l)).1 := by
  have H := Lib.hid h
  have HM := Lib.hid hm
  have HL := Lib.hid hl
  have HA := Lib.hid hA
  have HOK := Lib.hid hok
  have HB := Lib.hid hb
  have cd : w.cell? ⟨Bd, 0, none⟩ = some (.pointer (some ⟨db, 0, none⟩)) := hd.cell 0
  have cb : w.cell? ⟨Bw, 1, none⟩ = some (.int .u32 v.b) := hw.cell 1
  have cp : w.cell? ⟨Bp, 0, none⟩ = some (.slice A n cap) := hp.cell 0
  have hwb : IntKind.i64.wrap v.b = v.b := by rw [IntKind.wrap_i64]; omega
  clear h hm hd hw hp hl hA hok
  go_enter Try.func55, Try.ntmps55
  go_wp2_with fail
  refine (show Calls _ _ #[.agg #[ptrV db], _, _] _ _ from jput_q H.out v.b HB.out A n cap l HL.out HA.out HOK.out HM.out hnn).mono ?_
  rintro e w4 ⟨rfl, h4⟩
  have H4 := Lib.hid h4
  clear h4
  go_wp2_with fail
  go_ret
  exact ⟨rfl, H4.out⟩
set_option maxRecDepth 100000 in
theorem seal0_q (h : Dq S w w db p) (Bd : Nat) (hd : Blk w Bd 98 #[ptrV db]) (hm : p.sm 40000) :
    Calls Try.prog 57 #[.pointer (some ⟨Bd, 0, none⟩)] w fun e w' => e = .returned (.int .i64 (p.runS (headS nmJn ⟨0, 0, 0, 0⟩)).2) ∧ Dq S w w' db (p.runS (headS nmJn ⟨0, 0, 0, 0⟩)).1 := by
  have H := Lib.hid h
  have HM := Lib.hid hm
  have cd : w.cell? ⟨Bd, 0, none⟩ = some (.pointer (some ⟨db, 0, none⟩)) := hd.cell 0
  clear h hm hd
  go_enter Try.func57, Try.ntmps57
  go_wp2_with fail
  refine (show Calls _ _ #[.agg #[ptrV db], .agg (w4A ⟨0, 0, 0, 0⟩)] _ _ from jseal_q H.out ⟨0, 0, 0, 0⟩ HM.out).mono ?_
  rintro e w4 ⟨rfl, h4⟩
  have H4 := Lib.hid h4
  clear h4
  go_wp2_with fail
  go_ret
  exact ⟨rfl, H4.out⟩
set_option maxRecDepth 100000 in
theorem cseal0_q (h : Dq S w w db p) (Bd : Nat) (hd : Blk w Bd 98 #[ptrV db]) (hm : p.sm 40000) :
    Calls Try.prog 66 #[.pointer (some ⟨Bd, 0, none⟩)] w fun e w' => e = .returned (.int .i64 (p.runS (headS nmJn ⟨0, 0, 0, 0⟩)).2) ∧ Dq S w w' db (p.runS (headS nmJn ⟨0, 0, 0, 0⟩)).1 := by
  have H := Lib.hid h
  have HM := Lib.hid hm
  have cd : w.cell? ⟨Bd, 0, none⟩ = some (.pointer (some ⟨db, 0, none⟩)) := hd.cell 0
  clear h hm hd
  go_enter Try.func66, Try.ntmps66
  go_wp2_with fail
  refine (show Calls _ _ #[.agg #[ptrV db], .agg (w4A ⟨0, 0, 0, 0⟩)] _ _ from jseal_q H.out ⟨0, 0, 0, 0⟩ HM.out).mono ?_
  rintro e w4 ⟨rfl, h4⟩
  have H4 := Lib.hid h4
  clear h4
  go_wp2_with fail
  go_ret
  exact ⟨rfl, H4.out⟩
set_option maxRecDepth 100000 in
theorem cput_q (h : Dq S w w db p) (count : Int) (hb : 0 ≤ count ∧ count ≤ 4096) (Bd Bc Bp : Nat) (A : Option Addr) (n cap : Nat) (l : List Pg) (hd : Blk w Bd 98 #[ptrV db]) (hw : Blk w Bc 3 #[.int .i64 count]) (hp : Blk w Bp 22 #[.slice A n cap])
    (hl : PgsAt w A n l) (hA : Apart S A n) (hok : PgsOk l) (hm : p.sm (20000 * (n + 3))) (hnn : n < 1099511627776) :
    Calls Try.prog 65 #[.pointer (some ⟨Bd, 0, none⟩), .pointer (some ⟨Bc, 0, none⟩), .pointer (some ⟨Bp, 0, none⟩)] w fun e w' => e = .returned (.int .i64 (p.runS (homeS count l)).2) ∧ Dq S w w' db (p.runS (homeS count l)).1 := by
  have H := Lib.hid h
  have HM := Lib.hid hm
  have HL := Lib.hid hl
  have HA := Lib.hid hA
  have HOK := Lib.hid hok
  have HB := Lib.hid hb
  have cd : w.cell? ⟨Bd, 0, none⟩ = some (.pointer (some ⟨db, 0, none⟩)) := hd.cell 0
  have cb : w.cell? ⟨Bc, 0, none⟩ = some (.int .i64 count) := hw.cell 0
  have cp : w.cell? ⟨Bp, 0, none⟩ = some (.slice A n cap) := hp.cell 0
  clear h hm hd hw hp hl hA hok
  go_enter Try.func65, Try.ntmps65
  go_wp2_with fail
  refine (show Calls _ _ #[.agg #[ptrV db], _, _] _ _ from jput_q H.out count HB.out A n cap l HL.out HA.out HOK.out HM.out hnn).mono ?_
  rintro e w4 ⟨rfl, h4⟩
  have H4 := Lib.hid h4
  clear h4
  go_wp2_with fail
  go_ret
  exact ⟨rfl, H4.out⟩
set_option maxRecDepth 100000 in
theorem clay_q (h : Dq S w w db p) (Bd Bp : Nat) (A : Option Addr) (n cap : Nat) (l : List Pg) (hd : Blk w Bd 98 #[ptrV db]) (hp : Blk w Bp 22 #[.slice A n cap])
    (hl : PgsAt w A n l) (hA : Apart S A n) (hok : PgsOk l) (hm : p.sm (20000 * (n + 1))) (hnn : n < 1099511627776) :
    Calls Try.prog 62 #[.pointer (some ⟨Bd, 0, none⟩), .pointer (some ⟨Bp, 0, none⟩)] w fun e w' => e = .returned (.int .i64 (aslR 0 l p).2) ∧ Dq S w w' db (aslR 0 l p).1 := by
  have H := Lib.hid h
  have HM := Lib.hid hm
  have HL := Lib.hid hl
  have HA := Lib.hid hA
  have HOK := Lib.hid hok
  have cd : w.cell? ⟨Bd, 0, none⟩ = some (.pointer (some ⟨db, 0, none⟩)) := hd.cell 0
  have cp : w.cell? ⟨Bp, 0, none⟩ = some (.slice A n cap) := hp.cell 0
  clear h hm hd hp hl hA hok
  go_enter Try.func62, Try.ntmps62
  go_wp2_with fail
  refine (show Calls _ _ #[.agg #[ptrV db], _] _ _ from jlay_q H.out A n cap l HL.out HA.out HOK.out HM.out hnn).mono ?_
  rintro e w4 ⟨rfl, h4⟩
  have H4 := Lib.hid h4
  clear h4
  go_wp2_with fail
  go_ret
  exact ⟨rfl, H4.out⟩
set_option maxRecDepth 100000 in
theorem cseal_q (h : Dq S w w db p) (Bd Bp Bo : Nat) (A : Option Addr) (n cap : Nat) (old : Nat) (hd : Blk w Bd 98 #[ptrV db]) (hp : Blk w Bp 22 #[.slice A n cap]) (ho : Blk w Bo 3 #[.int .i64 (old : Int)])
    (hn : n ≤ 4096) (hold : old ≤ 4096) (hm : p.sm 40000) :
    Calls Try.prog 64 #[.pointer (some ⟨Bd, 0, none⟩), .pointer (some ⟨Bp, 0, none⟩), .pointer (some ⟨Bo, 0, none⟩)] w fun e w' => e = .returned (.int .i64 (p.runS (headS nmJn ⟨(n : Int) + 1, old, 0, 0⟩)).2) ∧ Dq S w w' db (p.runS (headS nmJn ⟨(n : Int) + 1, old, 0, 0⟩)).1 := by
  have H := Lib.hid h
  have HM := Lib.hid hm
  have cd : w.cell? ⟨Bd, 0, none⟩ = some (.pointer (some ⟨db, 0, none⟩)) := hd.cell 0
  have cp : w.cell? ⟨Bp, 0, none⟩ = some (.slice A n cap) := hp.cell 0
  have co : w.cell? ⟨Bo, 0, none⟩ = some (.int .i64 (old : Int)) := ho.cell 0
  have hw1 : IntKind.u32.wrap ((n : Int) + 1) = (n : Int) + 1 := by rw [IntKind.wrap_u32]; omega
  have hw2 : IntKind.u32.wrap (old : Int) = (old : Int) := by rw [IntKind.wrap_u32]; omega
  clear h hm hd hp ho
  go_enter Try.func64, Try.ntmps64
  go_wp2_with fail
  refine (show Calls _ _ #[.agg #[ptrV db], .agg (w4A ⟨(n : Int) + 1, old, 0, 0⟩)] _ _ from jseal_q H.out ⟨(n : Int) + 1, old, 0, 0⟩ HM.out).mono ?_
  rintro e w4 ⟨rfl, h4⟩
  have H4 := Lib.hid h4
  clear h4
  go_wp2_with fail
  go_ret
  exact ⟨rfl, H4.out⟩
end
end Go.Proofs.Ytegcbdfilkecpaa
/- The journal: taken back; no condition but on the counts. -/
namespace Go.Proofs.Ytegcbdfilkecpaa
open Go.RowKit

theorem seqR_one (r : Pl → Pl × Int) (p : Pl) : seqR [r] p = r p := by
  unfold seqR
  split
  · rename_i h
    unfold seqR
    rw [← h]
  · rfl
theorem seqR_cons (r : Pl → Pl × Int) (rs : List (Pl → Pl × Int)) (p : Pl) : seqR (r :: rs) p = if (r p).2 = 0 then seqR rs (r p).1 else r p := rfl
theorem seqR3 (a b c : List Stp) (p : Pl) : seqR [fun p => p.runS a, fun p => p.runS b, fun p => p.runS c] p = p.runS (a ++ (b ++ c)) := by
  rw [runS_append, seqR_cons]
  split
  · rw [runS_append, seqR_cons]
    split
    · rw [seqR_one]
    · rfl
  · rfl
theorem seqR2 (a b : List Stp) (p : Pl) : seqR [fun p => p.runS a, fun p => p.runS b] p = p.runS (a ++ b) := by
  rw [runS_append, seqR_cons]
  split
  · rw [seqR_one]
  · rfl
theorem recsPg_ok {jl : List Int} {top : Int} : ∀ (i k : Nat) (last : Int) (l : List Pg), recsPg jl top i k last = some l → 0 ≤ last → l.length = i ∧ ∀ x ∈ l, last < x.n ∧ x.n ≤ top
  | 0, k, last, l, h, _ => by
    have : l = [] := by
      have h2 : some [] = some l := h
      injection h2 with h2
      exact h2.symm
    subst this
    simp
  | i + 1, k, last, l, h, h0 => by
    rw [recsPg_succ] at h
    generalize (jl.drop (64 + 320 * k)).take 320 = b at h
    split at h
    · cases h
    · split at h
      · rename_i hb
        cases hr : recsPg jl top i (k + 1) (num b 0) with
        | none => rw [hr] at h; cases h
        | some r =>
          rw [hr] at h
          injection h with h
          subst h
          obtain ⟨h1, h2⟩ := recsPg_ok i (k + 1) (num b 0) r hr (by omega)
          refine ⟨by simp [h1], fun x hx => ?_⟩
          rcases List.mem_cons.1 hx with rfl | hx
          · exact hb.2
          · have := h2 x hx
            omega
      · cases h
theorem recordsPg_ok {jl : List Int} {v : W4} {l : List Pg} (hv : W4Ok v) (ha : 1 ≤ v.a) (h : recordsPg jl v = some l) : l.length ≤ 4096 ∧ (∀ x ∈ l, 1 ≤ x.n ∧ x.n ≤ 4096) ∧ v.b ≤ 4096 := by
  unfold recordsPg at h
  split at h
  · cases h
  · rename_i hb
    obtain ⟨h1, h2⟩ := recsPg_ok _ _ _ _ h (by omega)
    refine ⟨by omega, fun x hx => ?_, by omega⟩
    have := h2 x hx
    omega
theorem wordsAt_ok {l : List Int} (h : ∀ y ∈ l, 0 ≤ y ∧ y < 256) (a : Nat) : W4Ok (wordsAt l a) := ⟨num_rng h _, num_rng h _, num_rng h _, num_rng h _⟩
theorem says_ok {l : List Int} (h : ∀ y ∈ l, 0 ≤ y ∧ y < 256) : W4Ok (says l) := by
  have h64 : ∀ y ∈ l.take 64, 0 ≤ y ∧ y < 256 := fun y hy => h y (List.mem_of_mem_take hy)
  unfold says
  split
  · constructor <;> constructor <;> decide
  · unfold openB
    split
    · exact wordsAt_ok h64 _
    · exact wordsAt_ok h64 _
theorem pgs_own {w : World} {n0 n cap : Nat} {A : Option Addr} {l : List Pg} (h : OwnPgs w n0 (.slice A n cap) l) (hn : l.length = n) : PgsAt w A n l := by
  subst hn
  refine Rows.own (base := n0) (cap := cap) (e := 113) ?_ (by simp) ?_
  · have h1 := h.1
    unfold pgsCells at h1
    rw [List.flatMap_def] at h1
    exact h1
  · intro x hx
    obtain ⟨y, hy, rfl⟩ := List.mem_map.1 hx
    exact pgL_len (h.2 y hy)
def BkPost (S : Nat → Prop) (w : World) (db : Nat) (p : Pl) (e : Ending) (w' : World) : Prop := e = .returned (.tuple #[.bool p.jrecover.2.1, .int .i64 p.jrecover.2.2]) ∧ Dq S w w' db p.jrecover.1
section
variable {S : Nat → Prop} {w : World} {db : Nat} {p : Pl}
attribute [local go_sem ↓] loadW4 storeW4
set_option maxRecDepth 100000 in
set_option maxHeartbeats 1600000 in
theorem recover_q (h : Dq S w w db p) (hm : p.sm 90000000) :
    Calls Try.prog 12 #[ptrV db] w (BkPost S w db p) := by
  have H := Lib.hid h
  have HM := Lib.hid hm
  rcases hdn : p.down with _ | _
  · have HD := Lib.hid hdn
    have hw0 : p.wrong = 0 := by unfold Pl.wrong; rw [hdn]; rfl
    have HW0 := Lib.hid hw0
    rcases hhot : p.jhot with _ | _
    · have e1 : p.jrecover = (p, false, 0) := by unfold Pl.jrecover; rw [hdn, hhot]; rfl
      have HE1 := Lib.hid e1
      have HH := Lib.hid hhot
      clear h hm hdn hw0 hhot e1
      unfold ptrV
      go_enter Try.func12, Try.ntmps12
      go_wp2_with fail
      refine (show Calls _ _ #[ptrV db] _ _ from ready_q H.out).mono ?_
      rintro e w2 ⟨rfl, hk⟩
      rw [HW0.out]
      have HK := Lib.hid hk
      clear hk
      go_wp2_with fail
      refine (show Calls _ _ #[ptrV db] _ _ from hot_q (H.out.keep HK.out)).mono ?_
      rintro e w3 ⟨rfl, hk3⟩
      rw [HH.out]
      have HK3 := Lib.hid (HK.out.trans hk3 (fun _ _ q => q))
      clear hk3
      go_wp2_with fail
      go_ret2
      unfold BkPost
      rw [HE1.out]
      exact ⟨rfl, H.out.keep HK3.out⟩
    · have HH := Lib.hid hhot
      have hok := says_ok (H.out.seen_rng nmJn)
      have HOK := Lib.hid (show W4Ok p.jhead from hok)
      have hne : (p.jhead).a ≠ 0 := by
        unfold Pl.jhot at hhot
        rw [hdn] at hhot
        simpa using hhot
      have HA1 := Lib.hid (show 1 ≤ (p.jhead).a by have := (show W4Ok p.jhead from hok).a; omega)
      have hjd : p.jheadD = p.jhead := by unfold Pl.jheadD; rw [hdn]; rfl
      have HJD := Lib.hid hjd
      have e1 : p.jrecover = match recordsPg (p.seen nmJn) p.jhead with | none => (p, false, 8) | some l => ((p.runS (Pl.recS p.jhead l)).1, decide ((p.runS (Pl.recS p.jhead l)).2 = 0), (p.runS (Pl.recS p.jhead l)).2) := by
        unfold Pl.jrecover; rw [hdn, hhot]; rfl
      have HE1 := Lib.hid e1
      clear h hm hdn hw0 hhot e1 hok hne hjd
      unfold ptrV
      go_enter Try.func12, Try.ntmps12
      go_wp2_with fail
      refine (show Calls _ _ #[ptrV db] _ _ from ready_q H.out).mono ?_
      rintro e w2 ⟨rfl, hk⟩
      rw [HW0.out]
      have HK := Lib.hid hk
      clear hk
      go_wp2_with fail
      refine (show Calls _ _ #[ptrV db] _ _ from hot_q (H.out.keep HK.out)).mono ?_
      rintro e w3 ⟨rfl, hk3⟩
      rw [HH.out]
      have HK3 := Lib.hid (HK.out.trans hk3 (fun _ _ q => q))
      clear hk3
      go_wp2_with fail
      have hbd : Blk (w3.alloc (.cells #[ptrV db] 98)) w3.heap.size 98 #[ptrV db] := Blk.new _ _ _
      have hk4 : Kp NoB w (w3.alloc (.cells #[ptrV db] 98)) := HK3.out.alloc _
      have HBD := Lib.hid hbd
      have HK4 := Lib.hid hk4
      clear hbd hk4
      refine (show Calls _ _ #[.agg #[ptrV db]] _ _ from head_q (H.out.keep HK4.out)).mono ?_
      rintro e w4 ⟨rfl, hk4⟩
      rw [HJD.out]
      have hbd4 := HBD.out.keep hk4 (fun q => q)
      have hlt4 := hbd4.lt
      have hk5 := HK4.out.trans hk4 (fun _ _ q => q)
      have hb := Blk.new w4 102 #[.int .u32 0, .int .u32 0, .int .u32 0, .int .u32 0]
      have hbw := hb.whole (w4A p.jhead) rfl
      have tb := hb.thereAll 4 rfl
      have o1 := w4A_ones p.jhead
      have s1 : (w4A p.jhead).size = 4 := rfl
      have hk6 : Kp NoB w4 ((w4.alloc (.cells #[.int .u32 0, .int .u32 0, .int .u32 0, .int .u32 0] 102)).setCells w4.heap.size 0 (w4A p.jhead).toList) := Kp.setCells (.inl (Nat.le_refl _)) _ _ _ ((Kp.refl _ _).alloc _)
      have hbd6 := hbd4.keep hk6 (fun q => q)
      have cd6 := hbd6.cell 0
      have tw6 := hbw.thereAll 4 rfl
      have rw6 := hbw.readAll 4 rfl
      have HK6 := Lib.hid (hk5.trans hk6 (fun _ _ q => q))
      have HBW := Lib.hid hbw
      have HBD6 := Lib.hid hbd6
      have HNE : Hid (w3.heap.size < w4.heap.size) := Lib.hid hlt4
      obtain ⟨RR, hRR⟩ : ∃ RR, w4A p.jhead = RR := ⟨_, rfl⟩
      rw [hRR] at o1 s1 HK6 HBW HBD6 cd6 tw6 rw6 ⊢
      have HRR := Lib.hid hRR
      unfold ptrV at cd6
      rw [show (#[Value.pointer (some ⟨db, 0, none⟩)] : Array Value)[0]? = some (Value.pointer (some ⟨db, 0, none⟩)) from rfl] at cd6
      clear hk4 hbd4 hk5 hb hbw hk6 hbd6 hRR hlt4
      go_wp2_with fail
      generalize (w4.alloc (.cells #[.int .u32 0, .int .u32 0, .int .u32 0, .int .u32 0] 102)).setCells w4.heap.size 0 RR.toList = w5 at HK6 HBW HBD6 cd6 tw6 rw6 ⊢
      obtain ⟨Bd, hBd⟩ : ∃ Bd, w3.heap.size = Bd := ⟨_, rfl⟩
      obtain ⟨Bw, hBw⟩ : ∃ Bw, w4.heap.size = Bw := ⟨_, rfl⟩
      have HSB : Hid (w.heap.size ≤ Bd ∧ w.heap.size ≤ Bw) := Lib.hid (by
        have h1 := HK3.out.size
        have h2 := HNE.out
        omega)
      rw [hBd] at HBD6 cd6 ⊢
      rw [hBw] at HBW tw6 rw6 ⊢
      clear hBd hBw
      rw [← HRR.out]
      refine (show Calls _ _ #[.agg #[ptrV db], _] _ _ from records_q (H.out.base1 HK6.out) HD.out p.jhead HOK.out HA1.out).mono ?_
      rintro e w6 ⟨hk7, hr⟩
      rcases hr with ⟨hrn, rfl⟩ | ⟨l, vv, hrs, rfl, how⟩
      · have e2 : p.jrecover = (p, false, 8) := by rw [HE1.out, hrn]
        have HE2 := Lib.hid e2
        have HK7 := Lib.hid (HK6.out.trans hk7 (fun _ _ q => q))
        clear hk7 hrn e2
        go_wp2_with fail
        go_ret2
        unfold BkPost
        rw [HE2.out]
        exact ⟨rfl, H.out.keep (HK7.out.alloc _)⟩
      · obtain ⟨A, cap, rfl⟩ := own_slice how.1
        obtain ⟨n, hn⟩ : ∃ n, l.length = n := ⟨_, rfl⟩
        have how2 : OwnPgs w6 w5.heap.size (.slice A n cap) l := by rw [← hn]; exact how
        have hpg := pgs_own how2 hn
        obtain ⟨hl1, hl2, hl3⟩ := recordsPg_ok HOK.out HA1.out hrs
        have hpo : PgsOk l := ⟨how.2, hl2⟩
        have e2 : p.jrecover = ((p.runS (Pl.recS p.jhead l)).1, decide ((p.runS (Pl.recS p.jhead l)).2 = 0), (p.runS (Pl.recS p.jhead l)).2) := by rw [HE1.out, hrs]
        have HE2 := Lib.hid e2
        have hAp : ∀ g o, A = some ⟨g, o, none⟩ → 0 < n → w5.heap.size ≤ g := fun g o e hn0 => by
          have h1 := how2.1
          rw [hn] at h1
          obtain ⟨g', hg, hb, _⟩ := own_at h1 hn0
          rw [e] at hg
          injection hg with hg
          injection hg with hg
          omega
        have HPG := Lib.hid hpg
        have HPO := Lib.hid hpo
        have HAP := Lib.hid hAp
        have HN := Lib.hid hn
        have HL4 := Lib.hid hl1
        have HVB := Lib.hid (show 0 ≤ p.jhead.b ∧ p.jhead.b ≤ 4096 from ⟨HOK.out.b.1, hl3⟩)
        have HK7 := Lib.hid (HK6.out.trans hk7 (fun _ _ q => q))
        have HBD7 := Lib.hid (HBD6.out.keep hk7 (fun q => q))
        have HBW7 := Lib.hid (HBW.out.keep hk7 (fun q => q))
        rw [hn]
        clear hk7 hrs how how2 hpg hpo hl1 hl2 hl3 e2 hAp hn cd6 tw6 rw6 o1 s1
        go_wp2_with fail
        have hka : Kp NoB w6 (w6.alloc (.cells #[.slice A n cap] 22)) := (Kp.refl _ _).alloc _
        have hbp : Blk (w6.alloc (.cells #[.slice A n cap] 22)) w6.heap.size 22 #[.slice A n cap] := Blk.new _ _ _
        have hs8 : (w6.alloc (.cells #[.slice A n cap] 22)).heap.size = w6.heap.size + 1 := by simp
        generalize w6.alloc (.cells #[.slice A n cap] 22) = w8 at hka hbp hs8 ⊢
        have hb9 := Blk.newAt w8 178 #[.func (.func 53) #[] #[.pointer (some ⟨Bd, 0, none⟩), .pointer (some ⟨Bw, 0, none⟩)], .func (.func 55) #[] #[.pointer (some ⟨Bd, 0, none⟩), .pointer (some ⟨Bw, 0, none⟩), .pointer (some ⟨w6.heap.size, 0, none⟩)], .func (.func 57) #[] #[.pointer (some ⟨Bd, 0, none⟩)]] _ hs8
        have hkb := (Kp.refl NoB w8).alloc (.cells #[.func (.func 53) #[] #[.pointer (some ⟨Bd, 0, none⟩), .pointer (some ⟨Bw, 0, none⟩)], .func (.func 55) #[] #[.pointer (some ⟨Bd, 0, none⟩), .pointer (some ⟨Bw, 0, none⟩), .pointer (some ⟨w6.heap.size, 0, none⟩)], .func (.func 57) #[] #[.pointer (some ⟨Bd, 0, none⟩)]] 178)
        generalize w8.alloc (.cells #[.func (.func 53) #[] #[.pointer (some ⟨Bd, 0, none⟩), .pointer (some ⟨Bw, 0, none⟩)], .func (.func 55) #[] #[.pointer (some ⟨Bd, 0, none⟩), .pointer (some ⟨Bw, 0, none⟩), .pointer (some ⟨w6.heap.size, 0, none⟩)], .func (.func 57) #[] #[.pointer (some ⟨Bd, 0, none⟩)]] 178) = w9 at hb9 hkb ⊢
        have hkab := hka.trans hkb (fun _ _ q => q)
        have hk9 := HK7.out.trans hkab (fun _ _ q => q)
        have hlt := H.out.lt
        have h6s := HK7.out.size
        have hnS : ∀ g, w.heap.size ≤ g → ¬ S g := fun g hg q => by have := hlt g q; omega
        have hKK : (fun S w => ((Blk w Bd 98 #[ptrV db] ∧ ¬ S Bd) ∧ (Blk w Bw 102 (w4A p.jhead) ∧ ¬ S Bw)) ∧ ((Blk w w6.heap.size 22 #[.slice A n cap] ∧ ¬ S w6.heap.size) ∧ (PgsAt w A n l ∧ Apart S A n))) S w9 :=
          ⟨⟨⟨HBD7.out.keep hkab (fun q => q), hnS _ HSB.out.1⟩, ⟨by rw [HRR.out]; exact HBW7.out.keep hkab (fun q => q), hnS _ HSB.out.2⟩⟩,
           ⟨⟨hbp.keep hkb (fun q => q), hnS _ h6s⟩, ⟨HPG.out.keep hkab, fun g o e hn0 => hnS _ (by have h1 := HAP.out g o e hn0; have h2 := HK6.out.size; omega)⟩⟩⟩
        have hcost : p.sm (40000 + (20000 * (n + 3) + (40000 + 0))) := sm_mono HM.out (by have h1 := HL4.out; have h2 := HN.out; omega)
        refine (all_steps (n := 3) (cap := 3) (((kept_blk Bd 98 #[ptrV db]).and (kept_blk Bw 102 (w4A p.jhead))).and ((kept_blk w6.heap.size 22 #[.slice A n cap]).and (kept_pgs A n l)))
          [⟨53, #[], #[.pointer (some ⟨Bd, 0, none⟩), .pointer (some ⟨Bw, 0, none⟩)], fun p' => p'.runS (headS nmJn p.jhead), 40000⟩,
           ⟨55, #[], #[.pointer (some ⟨Bd, 0, none⟩), .pointer (some ⟨Bw, 0, none⟩), .pointer (some ⟨w6.heap.size, 0, none⟩)], fun p' => p'.runS (homeS p.jhead.b l), 20000 * (n + 3)⟩,
           ⟨57, #[], #[.pointer (some ⟨Bd, 0, none⟩)], fun p' => p'.runS (headS nmJn ⟨0, 0, 0, 0⟩), 40000⟩]
          S w9 p ?_ rfl (by omega) hb9 (hnS _ (by omega)) (H.out.base1 hk9) hKK hcost).mono ?_
        · intro s hs
          simp only [List.mem_cons, List.not_mem_nil, or_false] at hs
          rcases hs with rfl | rfl | rfl
          · exact ⟨enters_of Try.func53 (by kernel_rfl) rfl, fun S w p' h hk hm => sealAt_q h p.jhead Bd Bw hk.1.1.1 hk.1.2.1 hm, fun p' k hm => sm_run _ (by exact hm)⟩
          · exact ⟨enters_of Try.func55 (by kernel_rfl) rfl, fun S w p' h hk hm => putAt_q h p.jhead HVB.out Bd Bw _ A n cap l hk.1.1.1 hk.1.2.1 hk.2.1.1 hk.2.2.1 hk.2.2.2 HPO.out hm (by have h1 := HL4.out; have h2 := HN.out; omega), fun p' k hm => sm_run _ (sm_mono hm (by have h2 := HN.out; simp only [homeS, homeW, List.length_append, List.length_map, List.length_cons, List.length_nil]; omega))⟩
          · exact ⟨enters_of Try.func57 (by kernel_rfl) rfl, fun S w p' h hk hm => seal0_q h Bd hk.1.1.1 hm, fun p' k hm => sm_run _ (by exact hm)⟩
        · rintro e w10 ⟨he, h10⟩
          have hz : seqR [fun p' => p'.runS (headS nmJn p.jhead), fun p' => p'.runS (homeS p.jhead.b l), fun p' => p'.runS (headS nmJn ⟨0, 0, 0, 0⟩)] p = p.runS (Pl.recS p.jhead l) := seqR3 _ _ _ p
          obtain ⟨Z, hZ⟩ : ∃ Z, p.runS (Pl.recS p.jhead l) = Z := ⟨_, rfl⟩
          rw [hZ] at hz HE2
          change Dq S w9 w10 db (seqR [fun p' => p'.runS (headS nmJn p.jhead), fun p' => p'.runS (homeS p.jhead.b l), fun p' => p'.runS (headS nmJn ⟨0, 0, 0, 0⟩)] p).1 at h10
          rw [hz] at h10
          have H10 := Lib.hid (Dq.up (H.out.base1 hk9) hk9 hlt h10)
          have HFIN : Hid (∀ b, b = decide (Z.2 = 0) → BkPost S w db p (.returned (.tuple #[.bool b, .int .i64 Z.2])) w10) := Lib.hid (fun b hb => by
            unfold BkPost
            rw [HE2.out, hb]
            exact ⟨rfl, H10.out⟩)
          have he2 : e = .returned (.int .i64 Z.2) := he.trans (by rw [← hz]; rfl)
          subst he2
          generalize Z.2 = z2 at HFIN ⊢
          clear hka hbp hs8 hb9 hkb hkab hk9 hlt h6s hnS hKK hcost he h10 hz hZ
          by_cases h0 : z2 = 0
          · subst h0
            go_wp2_with fail
            go_ret2
            exact HFIN.out true rfl
          · have hb0 : (z2 == 0) = false := by simpa using h0
            have hb1 : (z2 != 0) = true := by simpa using h0
            have H0 := Lib.hid h0
            go_wp2_with fail
            go_ret2
            exact HFIN.out false (by rw [decide_eq_false H0.out])
  · have HD := Lib.hid hdn
    have hw0 : p.wrong = 7 := by unfold Pl.wrong; rw [hdn]; rfl
    have HW0 := Lib.hid hw0
    have e1 : p.jrecover = (p, false, 7) := by unfold Pl.jrecover; rw [hdn]; rfl
    have HE1 := Lib.hid e1
    clear h hm hdn hw0 e1
    unfold ptrV
    go_enter Try.func12, Try.ntmps12
    go_wp2_with fail
    refine (show Calls _ _ #[ptrV db] _ _ from ready_q H.out).mono ?_
    rintro e w2 ⟨rfl, hk⟩
    rw [HW0.out]
    have HK := Lib.hid hk
    clear hk
    go_wp2_with fail
    go_ret2
    unfold BkPost
    rw [HE1.out]
    exact ⟨rfl, H.out.keep HK.out⟩
end
end Go.Proofs.Ytegcbdfilkecpaa
/- The journal in plain Lean: what the steps laid aside answer; no condition. -/
namespace Go.Proofs.Ytegcbdfilkecpaa
open Go

theorem chain_len (count : Int) : ∀ (l : List Pg) (last : Int), chainPg count last l = true → last ≤ count → last + l.length ≤ count ∧ ∀ x ∈ l, last < x.n ∧ x.n ≤ count
  | [], last, _, h => by simp; exact h
  | x :: r, last, h, _ => by
    rw [chainPg_cons, Bool.and_eq_true, decide_eq_true_iff] at h
    obtain ⟨h1, h2⟩ := chain_len count r x.n h.2 h.1.2
    refine ⟨by simp only [List.length_cons]; omega, fun y hy => ?_⟩
    rcases List.mem_cons.1 hy with rfl | hy
    · exact h.1
    · have := h2 y hy
      omega
theorem chain_rises (count : Int) : ∀ (l : List Pg) (last : Int), chainPg count last l = true → last ≤ count → Rises l
  | [], _, _, _ => fun i j x y _ h => by simp at h
  | z :: r, last, h, hlc => by
    rw [chainPg_cons, Bool.and_eq_true, decide_eq_true_iff] at h
    have ih := chain_rises count r z.n h.2 h.1.2
    have hl := (chain_len count r z.n h.2 h.1.2).2
    intro i j x y hij hx hy
    cases j with
    | zero => omega
    | succ j =>
      rw [List.getElem?_cons_succ] at hy
      cases i with
      | zero =>
        rw [List.getElem?_cons_zero] at hx
        injection hx with hx
        subst hx
        exact (hl y (List.mem_of_getElem? hy)).1
      | succ i =>
        rw [List.getElem?_cons_succ] at hx
        exact ih i j x y (by omega) hx hy
theorem fit_facts {old count : Int} {l : List Pg} (h : fitPg old count l = true) (hok : ∀ x ∈ l, PgOk x) : (0 ≤ count ∧ count ≤ 4096) ∧ l.length ≤ 4096 ∧ PgsOk l ∧ Rises l := by
  unfold fitPg at h
  rw [Bool.and_eq_true, Bool.and_eq_true, decide_eq_true_iff] at h
  obtain ⟨h1, h2⟩ := chain_len count l 0 h.2.1 h.1.1
  refine ⟨h.1, by omega, ⟨hok, fun x hx => ?_⟩, chain_rises count l 0 h.2.1 h.1.1⟩
  have := h2 x hx
  omega
/-- no file is longer than may be -/
def Pl.le (p : Pl) : Prop := ∀ s, (p.seen s).length ≤ 1048576
theorem le_step {p : Pl} (h : p.le) : p.step.le := h
theorem fits_0 {p : Pl} {s : ByteArray} {n : Int} (h : ¬ p.fits s n ≠ 0) : n ≤ 1048576 := by
  have h2 : p.fits s n = 0 := by omega
  unfold Pl.fits at h2
  split at h2
  · omega
  · omega
theorem fits_3 {p : Pl} {s : ByteArray} {n : Int} (h : n ≤ 1048576) : p.fits s n = 0 ∨ p.fits s n = 5 := by
  unfold Pl.fits
  rw [if_neg (by omega)]
  split
  · exact .inr rfl
  · exact .inl rfl
theorem le_upd {p : Pl} (h : p.le) (s : ByteArray) (l : List Int) (hl : l.length ≤ 1048576) : ∀ t, (upd p.seen s l t).length ≤ 1048576 := fun t => by
  unfold upd
  split
  · exact hl
  · exact h t
theorem put_le {l d : List Int} {a M : Nat} (hl : l.length ≤ M) (hd : a + d.length ≤ M) (ha : a ≤ l.length) : (Pl.put l a d).length ≤ M := by
  unfold Pl.put
  simp
  omega
theorem le_length {p : Pl} (h : p.le) (s : ByteArray) (n : Nat) (hn : n ≤ 1048576) : (p.length s n).le := by
  unfold Pl.length
  split
  · exact h
  · intro t
    exact le_upd (p := p.at_) h s _ (by rw [sizedF_len]; exact hn) t
theorem len_seen (p : Pl) (s : ByteArray) (n : Nat) : ((p.length s n).seen s).length = n := by
  unfold Pl.length
  split
  · rename_i e
    show (p.seen s).length = n
    exact e.symm
  · show (upd p.seen s (sizedF (p.seen s) n) s).length = n
    rw [upd_same, sizedF_len]
theorem le_write {p : Pl} (h : p.le) (s : ByteArray) (a : Int) (d : List Int) : (p.write s a d).le := by
  unfold Pl.write
  split
  · exact h
  · rename_i h1
    split
    · exact h
    · split
      · exact h
      · rename_i h3
        have hm := fits_0 h3
        unfold Pl.write1
        intro t
        show (upd _ s _ t).length ≤ 1048576
        have hal : (a.toNat : Int) = a := by omega
        split
        · refine le_upd (p := p.length s (a.toNat + d.length)) (le_length h s _ (by omega)) s _ ?_ t
          refine put_le (M := 1048576) ?_ (by omega) ?_
          · rw [len_seen]; omega
          · rw [len_seen]; omega
        · refine le_upd (p := p) h s _ ?_ t
          refine put_le (h s) (by omega) (by omega)
theorem le_trunc {p : Pl} (h : p.le) (s : ByteArray) (n : Int) : (p.trunc s n).le := by
  unfold Pl.trunc
  split
  · exact h
  · rename_i h1
    have hm := fits_0 (p := p) (s := s) (n := n) (by omega)
    exact le_step (le_length h s _ (by omega))
theorem le_sync {p : Pl} (h : p.le) (s : ByteArray) : (p.sync s).le := by
  unfold Pl.sync
  split
  · exact h
  · split
    · exact h
    · exact h
theorem le_st {p : Pl} (h : p.le) (s : Stp) : (p.stP s).le := by
  unfold Pl.stP
  split
  · exact le_write h _ _ _
  · split
    · exact le_trunc h _ _
    · exact le_sync h _
theorem le_run : ∀ (l : List Stp) {p : Pl}, p.le → (p.runS l).1.le
  | [], _, h => h
  | s :: r, p, h => by
    rw [runS_cons]
    split
    · exact le_run r (le_st h s)
    · exact le_st h s
theorem stepE_cases (p : Pl) : p.stepE = 0 ∨ p.stepE = 7 := by
  unfold Pl.stepE
  split
  · exact .inr rfl
  · exact .inl rfl
/-- a step that is answered OK leaves the disk up -/
theorem up_st {p : Pl} (hd : p.down = false) (s : Stp) (h : p.stE s = 0) : (p.stP s).down = false := by
  have hs : ∀ q : Pl, q.down = false → p.crash = q.crash → p.stepE = 0 → q.step.down = false := fun q hq hc h0 => by
    unfold Pl.stepE at h0
    unfold Pl.step
    simp only [← hc]
    split at h0
    · omega
    · rename_i hne
      rw [if_neg hne]
      exact hq
  have hlen : ∀ s n, (p.length s n).down = false ∧ p.crash = (p.length s n).crash := fun s n => by
    unfold Pl.length
    split <;> exact ⟨hd, rfl⟩
  unfold Pl.stE at h
  unfold Pl.stP
  split
  · rename_i hk
    rw [if_pos hk] at h
    unfold Pl.writeE at h
    unfold Pl.write
    rw [hd] at h
    simp only [Bool.false_eq_true, if_false] at h
    split
    · exact hd
    · rename_i h1
      rw [if_neg (by omega), if_neg (by omega)] at h
      split
      · rename_i h2
        rw [if_pos h2] at h
        exact hs p hd rfl h
      · rename_i h2
        rw [if_neg h2] at h
        split
        · exact hd
        · rename_i h3
          rw [if_neg h3] at h
          unfold Pl.write1
          refine hs _ ?_ ?_ h
          · show Pl.down _ = false
            simp only [Pl.pend, Pl.setSeen, Pl.at_]
            split
            · exact (hlen _ _).1
            · exact hd
          · simp only [Pl.pend, Pl.setSeen, Pl.at_]
            split
            · exact (hlen _ _).2
            · rfl
  · rename_i hk
    rw [if_neg hk] at h
    split
    · rename_i hk1
      rw [if_pos hk1] at h
      unfold Pl.truncE at h
      unfold Pl.trunc
      rw [hd] at h
      simp only [Bool.false_eq_true, if_false] at h
      split
      · exact hd
      · rename_i h1
        rw [if_neg (by omega), if_neg (by omega)] at h
        exact hs _ (hlen _ _).1 (hlen _ _).2 h
    · rename_i hk1
      rw [if_neg hk1] at h
      unfold Pl.syncE at h
      rw [hd] at h
      simp only [Bool.false_eq_true, if_false] at h
      unfold Pl.sync
      rw [if_neg (by rw [hd]; simp), if_neg (by omega)]
      show p.step.down = false
      exact hs p hd rfl h
theorem up_run : ∀ (l : List Stp) {p : Pl}, p.down = false → (p.runS l).2 = 0 → (p.runS l).1.down = false
  | [], _, h, _ => h
  | s :: r, p, h, h2 => by
    rw [runS_cons] at h2 ⊢
    by_cases q : p.stE s = 0
    · rw [if_pos q] at h2 ⊢
      exact up_run r (up_st h s q) h2
    · rw [if_neg q] at h2
      exact absurd h2 q
theorem write_ne3 {p : Pl} (h : p.le) (s : ByteArray) (a : Int) (d : List Int) (h0 : 0 ≤ a) (h1 : a + d.length ≤ 1048576) : p.writeE s a d ≠ 3 := by
  unfold Pl.writeE
  split
  · decide
  · rw [if_neg (by omega), if_neg (by omega)]
    split
    · rcases stepE_cases p with e | e <;> rw [e] <;> decide
    · have hm : (max (a + d.length) (p.seen s).length : Int) ≤ 1048576 := by have := h s; omega
      split
      · rcases fits_3 (p := p) (s := s) hm with e | e <;> rw [e] <;> decide
      · rcases stepE_cases p with e | e <;> rw [e] <;> decide
theorem sync_ne3 (p : Pl) : p.syncE ≠ 3 := by
  unfold Pl.syncE
  split
  · decide
  · rcases stepE_cases p with e | e <;> rw [e] <;> decide
theorem head_ne3 {p : Pl} (h : p.le) (nm : ByteArray) (w : W4) : (p.runS (headS nm w)).2 ≠ 3 := by
  unfold headS
  rw [runS_cons]
  split
  · rw [runS_cons]
    split
    · rw [runS_nil]; show (0 : Int) ≠ 3; decide
    · exact sync_ne3 _
  · exact write_ne3 h nm 0 (sealB w) (by omega) (by rw [seal_len]; omega)
theorem fullE_id {e : Int} (h : e ≠ 3) : fullE e = e := by unfold fullE; rw [if_neg h]
theorem fullE_0 {e : Int} : fullE e = 0 ↔ e = 0 := by
  unfold fullE
  split <;> omega
theorem asl_run : ∀ (l : List Pg) (k : Nat) (p : Pl), p.down = false → p.le → (∀ x ∈ l, x.b.length = 256) →
    aslR k l p = ((p.runS (asideW k l ++ [⟨2, nmJn, 0, []⟩])).1, fullE (p.runS (asideW k l ++ [⟨2, nmJn, 0, []⟩])).2) := by
  intro l
  induction l with
  | nil =>
    intro k p hd hle hl
    rw [aslR_nil]
    show _ = ((p.runS [⟨2, nmJn, 0, []⟩]).1, fullE (p.runS [⟨2, nmJn, 0, []⟩]).2)
    rw [runS_cons, stE2, stP2]
    split
    · rename_i h0
      rw [runS_nil, h0]
      rfl
    · rw [fullE_id (sync_ne3 p)]
  | cons x r ih =>
    intro k p hd hle hl
    have hb : (recB x).length = 320 := by
      unfold recB
      rw [List.length_append, List.length_append, hl x (List.mem_cons_self ..)]
      unfold zeros
      rw [List.length_replicate]
      rfl
    rw [aslR_cons]
    show _ = ((p.runS (⟨0, nmJn, 64 + 320 * (k : Int), recB x⟩ :: (asideW (k + 1) r ++ [⟨2, nmJn, 0, []⟩]))).1, fullE (p.runS (⟨0, nmJn, 64 + 320 * (k : Int), recB x⟩ :: (asideW (k + 1) r ++ [⟨2, nmJn, 0, []⟩]))).2)
    rw [runS_cons, stE0, stP0]
    by_cases hbig : 1048576 < 64 + 320 * (k : Int) + 320
    · have e3 : p.writeE nmJn (64 + 320 * (k : Int)) (recB x) = 3 := by
        unfold Pl.writeE
        rw [hd, if_neg (by simp), if_neg (by omega), if_pos (by rw [hb]; omega)]
      have ep : p.write nmJn (64 + 320 * (k : Int)) (recB x) = p := by
        unfold Pl.write
        rw [if_pos (by rw [hb]; omega)]
      rw [if_pos hbig, e3, if_neg (by decide), ep]
      rfl
    · rw [if_neg hbig]
      split
      · rename_i h0
        exact ih (k + 1) _ (up_st hd ⟨0, nmJn, 64 + 320 * (k : Int), recB x⟩ h0) (le_write hle _ _ _) (fun y hy => hl y (List.mem_cons_of_mem _ hy))
      · rw [fullE_id (write_ne3 hle _ _ _ (by omega) (by rw [hb]; omega))]
theorem first_run (p : Pl) (hd : p.down = false) (hle : p.le) (old : Nat) (ao : List Pg) (hl : ∀ x ∈ ao, x.b.length = 256) :
    seqR [fun p => p.runS (headS nmJn p.jheadD), fun p => aslR 0 ao p, fun p => p.runS (headS nmJn ⟨(ao.length : Int) + 1, old, 0, 0⟩)] p = ((p.runS (firstS p.jhead old ao)).1, fullE (p.runS (firstS p.jhead old ao)).2) := by
  have hj : p.jheadD = p.jhead := by unfold Pl.jheadD; rw [hd]; rfl
  unfold firstS
  rw [runS_append, seqR_cons, hj]
  split
  · rename_i h0
    have hd1 := up_run _ hd h0
    have hle1 := le_run (headS nmJn p.jhead) hle
    generalize (p.runS (headS nmJn p.jhead)).1 = q at hd1 hle1 ⊢
    rw [runS_append, seqR_cons, seqR_one, asl_run ao 0 q hd1 hle1 hl]
    unfold asideS
    simp only [fullE_0]
    split
    · rename_i h1
      have hle2 := le_run (asideW 0 ao ++ [⟨2, nmJn, 0, []⟩]) hle1
      rw [fullE_id (head_ne3 hle2 _ _)]
    · rfl
  · rw [fullE_id (head_ne3 hle _ _)]
end Go.Proofs.Ytegcbdfilkecpaa
/- The journal in plain Lean on a disk that does not crash: what each step makes of the two files; no condition. -/
namespace Go.Proofs.Ytegcbdfilkecpaa
open Go

/-- a disk that is up and will not crash, with the two files alone -/
structure Calm (p : Pl) : Prop where
  up : p.down = false
  cr : p.crash = 0
  le : p.le
  two : p.sum = (p.seen nmDb).length + (p.seen nmJn).length
theorem nm_ne : nmDb ≠ nmJn := by decide
/-- bytes written into a file -/
def wrL (l : List Int) (a : Nat) (d : List Int) : List Int := Pl.put (if l.length < a + d.length then sizedF l (a + d.length) else l) a d
theorem wrL_len (l : List Int) (a : Nat) (d : List Int) : (wrL l a d).length = max l.length (a + d.length) := by
  unfold wrL Pl.put
  split
  · have := sizedF_len l (a + d.length)
    simp
    omega
  · simp
    omega
theorem stepE_calm {p : Pl} (h : p.crash = 0) : p.stepE = 0 := by unfold Pl.stepE; rw [if_neg (by omega)]
theorem step_calm {p : Pl} (h : p.crash = 0) : p.step.crash = 0 ∧ p.step.down = p.down ∧ p.step.seen = p.seen ∧ p.step.sum = p.sum ∧ p.step.room = p.room := by
  unfold Pl.step
  refine ⟨?_, ?_, rfl, rfl, rfl⟩
  · show (if 0 < p.crash then p.crash - 1 else p.crash) = 0
    rw [if_neg (by omega)]
    exact h
  · show (if p.crash = 1 then true else p.down) = p.down
    rw [if_neg (by omega)]
theorem two_upd {f : ByteArray → List Int} {s : ByteArray} (hs : s = nmDb ∨ s = nmJn) (l : List Int) {m : Int} (h : m = (f nmDb).length + (f nmJn).length) : m - (f s).length + l.length = ((upd f s l nmDb).length : Int) + (upd f s l nmJn).length := by
  rcases hs with rfl | rfl
  · rw [upd_same, upd_other f l nm_ne.symm]
    omega
  · rw [upd_same, upd_other f l nm_ne]
    omega
theorem fits_small {p : Pl} (h : Calm p) (s : ByteArray) (n : Nat) (hn : n ≤ (p.seen s).length) : p.fits s n = 0 := by
  unfold Pl.fits
  have := h.le s
  rw [if_neg (by omega), if_neg (by omega)]
/-- a write, on a calm disk -/
theorem calm_write {p : Pl} (h : Calm p) (s : ByteArray) (hs : s = nmDb ∨ s = nmJn) (a : Nat) (d : List Int) (hd : d ≠ []) (hb : a + d.length ≤ 1048576) :
    (p.writeE s a d = 5 ∧ p.write s a d = p ∧ (p.seen s).length < a + d.length) ∨
    (p.writeE s a d = 0 ∧ Calm (p.write s a d) ∧ (p.write s a d).seen = upd p.seen s (wrL (p.seen s) a d) ∧ (p.write s a d).room = p.room) := by
  have hm : (max ((a : Int) + d.length) (p.seen s).length : Int) ≤ 1048576 := by have := h.le s; omega
  unfold Pl.writeE Pl.write
  rw [h.up]
  simp only [Bool.false_eq_true, if_false, false_or]
  rw [if_neg (show ¬ (a : Int) < 0 by omega), if_neg (show ¬ (1048576 < (a : Int) ∨ 1048576 - (a : Int) < d.length) by omega), if_neg hd, if_neg (show ¬ ((a : Int) < 0 ∨ 1048576 < (a : Int) ∨ 1048576 - (a : Int) < d.length) by omega), if_neg hd]
  by_cases hf : p.fits s (max ((a : Int) + d.length) (p.seen s).length) ≠ 0
  · left
    rw [if_pos hf, if_pos hf]
    refine ⟨?_, rfl, ?_⟩
    · rcases fits_3 (p := p) (s := s) hm with e | e
      · exact absurd e hf
      · exact e
    · rcases Nat.lt_or_ge (p.seen s).length (a + d.length) with q | q
      · exact q
      · exfalso
        apply hf
        have e : (max ((a : Int) + d.length) (p.seen s).length : Int) = ((p.seen s).length : Nat) := by omega
        rw [e]
        exact fits_small h s _ (Nat.le_refl _)
  · right
    rw [if_neg hf, if_neg hf]
    refine ⟨stepE_calm h.cr, ?_⟩
    unfold Pl.write1
    rw [Int.toNat_natCast]
    have key : ∀ q : Pl, q.down = false → q.crash = 0 → q.seen = p.seen ∨ q.seen = upd p.seen s (sizedF (p.seen s) (a + d.length)) → q.room = p.room → q.le → q.sum = (q.seen nmDb).length + (q.seen nmJn).length →
        upd q.seen s (Pl.put (q.seen s) a d) = upd p.seen s (wrL (p.seen s) a d) →
        (∀ x, Calm (((q.at_.setSeen s (Pl.put (q.seen s) a d)).pend x).step) ∧ (((q.at_.setSeen s (Pl.put (q.seen s) a d)).pend x).step).seen = upd p.seen s (wrL (p.seen s) a d) ∧ (((q.at_.setSeen s (Pl.put (q.seen s) a d)).pend x).step).room = p.room) := by
      intro q hq hc hsn hrm hle htw hup x
      have hst := step_calm (p := (q.at_.setSeen s (Pl.put (q.seen s) a d)).pend x) hc
      have hll : (wrL (p.seen s) a d).length ≤ 1048576 := by rw [wrL_len]; have := h.le s; omega
      have hseen : ((q.at_.setSeen s (Pl.put (q.seen s) a d)).pend x).step.seen = upd p.seen s (wrL (p.seen s) a d) := hst.2.2.1.trans hup
      refine ⟨⟨?_, hst.1, ?_, ?_⟩, hseen, hst.2.2.2.2.trans hrm⟩
      · rw [hst.2.1]; exact hq
      · intro t
        rw [hseen]
        exact le_upd h.le s _ hll t
      · rw [hseen, hst.2.2.2.1]
        show q.sum - ((q.seen s).length : Int) + ((Pl.put (q.seen s) a d).length : Int) = _
        rw [two_upd hs (Pl.put (q.seen s) a d) htw, hup]
    split
    · rename_i hlt
      have hL : (p.length s (a + d.length)) = ((p.at_.setSeen s (sizedF (p.seen s) (a + d.length))).pend [⟨s, -1, ((a + d.length : Nat) : Int), []⟩]) := by
        unfold Pl.length
        rw [if_neg (by omega)]
      refine key (p.length s (a + d.length)) ?_ ?_ ?_ ?_ (le_length h.le s _ hb) ?_ ?_ _
      · rw [hL]; exact h.up
      · rw [hL]; exact h.cr
      · rw [hL]; exact .inr rfl
      · rw [hL]; rfl
      · rw [hL]
        show p.sum - ((p.seen s).length : Int) + ((sizedF (p.seen s) (a + d.length)).length : Int) = _
        exact two_upd hs _ h.two
      · have e1 : (p.length s (a + d.length)).seen = upd p.seen s (sizedF (p.seen s) (a + d.length)) := by rw [hL]; rfl
        rw [e1, upd_same, upd_upd]
        unfold wrL
        rw [if_pos hlt]
    · rename_i hlt
      refine key p h.up h.cr (.inl rfl) rfl h.le h.two ?_ _
      unfold wrL
      rw [if_neg hlt]
/-- a truncation that does not grow -/
theorem calm_trunc {p : Pl} (h : Calm p) (s : ByteArray) (hs : s = nmDb ∨ s = nmJn) (n : Nat) (hn : n ≤ (p.seen s).length) :
    p.truncE s n = 0 ∧ Calm (p.trunc s n) ∧ (p.trunc s n).seen = upd p.seen s ((p.seen s).take n) ∧ (p.trunc s n).room = p.room := by
  have hf := fits_small h s n hn
  unfold Pl.truncE Pl.trunc
  rw [h.up, hf]
  simp only [Bool.false_eq_true, if_false, false_or, ne_eq, not_true_eq_false, or_false]
  rw [if_neg (by omega), if_neg (by omega), Int.toNat_natCast]
  refine ⟨stepE_calm h.cr, ?_⟩
  unfold Pl.length
  split
  · rename_i e
    have hst := step_calm (p := p.at_) h.cr
    have ht : upd p.seen s ((p.seen s).take n) = p.seen := by
      rw [List.take_of_length_le (by omega), upd_self]
    refine ⟨⟨hst.2.1.trans h.up, hst.1, fun t => ?_, ?_⟩, ?_, hst.2.2.2.2⟩
    · rw [hst.2.2.1]; exact h.le t
    · rw [hst.2.2.1, hst.2.2.2.1]; exact h.two
    · rw [hst.2.2.1, ht]; rfl
  · have hst := step_calm (p := (p.at_.setSeen s (sizedF (p.seen s) n)).pend [⟨s, -1, (n : Int), []⟩]) h.cr
    have hz : sizedF (p.seen s) n = (p.seen s).take n := by unfold sizedF; rw [if_pos hn]
    have hseen : (((p.at_.setSeen s (sizedF (p.seen s) n)).pend [⟨s, -1, (n : Int), []⟩]).step).seen = upd p.seen s ((p.seen s).take n) := by rw [hst.2.2.1, ← hz]; rfl
    refine ⟨⟨hst.2.1.trans h.up, hst.1, fun t => ?_, ?_⟩, hseen, hst.2.2.2.2⟩
    · rw [hseen]
      exact le_upd h.le s _ (by have := h.le s; simp; omega) t
    · rw [hseen, hst.2.2.2.1]
      show p.sum - ((p.seen s).length : Int) + ((sizedF (p.seen s) n).length : Int) = _
      rw [two_upd hs _ h.two, hz]
theorem calm_sync {p : Pl} (h : Calm p) (s : ByteArray) : p.syncE = 0 ∧ Calm (p.sync s) ∧ (p.sync s).seen = p.seen ∧ (p.sync s).room = p.room := by
  have hst := step_calm (p := p) h.cr
  unfold Pl.syncE Pl.sync
  rw [h.up]
  simp only [Bool.false_eq_true, if_false]
  rw [stepE_calm h.cr, if_neg (by simp)]
  refine ⟨rfl, ⟨hst.2.1.trans h.up, hst.1, h.le, ?_⟩, rfl, rfl⟩
  exact h.two
end Go.Proofs.Ytegcbdfilkecpaa
/- The journal in plain Lean: files as pages, sealed heads and records read back; no condition. -/
namespace Go.Proofs.Ytegcbdfilkecpaa
open Go

theorem four_len (n : Int) : (four n).length = 4 := rfl
theorem num_four (n : Int) (hn : 0 ≤ n ∧ n < 4294967296) (a b : List Int) : num (a ++ (four n ++ b)) a.length = n := by
  unfold num
  have e : ∀ j, j < 4 → (a ++ (four n ++ b)).getD (a.length + j) 0 = (four n).getD j 0 := fun j hj => by
    rw [List.getD_eq_getElem?_getD, List.getElem?_append_right (by omega), Nat.add_sub_cancel_left, List.getElem?_append_left (by rw [four_len]; exact hj), ← List.getD_eq_getElem?_getD]
  have e0 := e 0 (by omega)
  rw [Nat.add_zero] at e0
  rw [e0, e 1 (by omega), e 2 (by omega), e 3 (by omega)]
  unfold four
  simp only [List.getD_cons_zero, List.getD_cons_succ]
  omega
theorem bytes_len (w : W4) : w.bytes.length = 16 := rfl
theorem wordsAt_bytes (w : W4) (hw : W4Ok w) (a b : List Int) : wordsAt (a ++ (w.bytes ++ b)) a.length = w := by
  unfold wordsAt
  have hb : w.bytes = four w.a ++ (four w.b ++ (four w.c ++ four w.d)) := by unfold W4.bytes; simp only [List.append_assoc]
  have e1 : a ++ (w.bytes ++ b) = a ++ (four w.a ++ (four w.b ++ (four w.c ++ (four w.d ++ b)))) := by rw [hb]; simp only [List.append_assoc]
  have h1 := num_four w.a hw.a a (four w.b ++ (four w.c ++ (four w.d ++ b)))
  have h2 := num_four w.b hw.b (a ++ four w.a) (four w.c ++ (four w.d ++ b))
  have h3 := num_four w.c hw.c (a ++ four w.a ++ four w.b) (four w.d ++ b)
  have h4 := num_four w.d hw.d (a ++ four w.a ++ four w.b ++ four w.c) b
  simp only [List.length_append, four_len, List.append_assoc] at h1 h2 h3 h4
  rw [e1, h1, h2, show a.length + 8 = a.length + (4 + 4) by omega, h3, show a.length + 12 = a.length + (4 + (4 + 4)) by omega, h4]
theorem says_seal (w : W4) (hw : W4Ok w) (t : List Int) : says (sealB w ++ t) = w := by
  unfold says
  have hs := seal_len w
  rw [if_neg (by rw [List.length_append, hs]; omega)]
  rw [List.take_append_of_le_length (by omega), List.take_of_length_le (by omega)]
  unfold openB
  have h1 : (sealB w).take 16 = w.bytes := rfl
  have h2 : ((sealB w).drop 16).take 16 = w.bytes := rfl
  rw [h1, h2, if_pos rfl]
  have := wordsAt_bytes w hw [] (w.bytes ++ w.bytes ++ zeros 16)
  simp only [List.nil_append, List.length_nil] at this
  have e : sealB w = w.bytes ++ (w.bytes ++ w.bytes ++ zeros 16) := by unfold sealB; simp only [List.append_assoc]
  rw [e]
  exact this
/-- a write at a known place -/
theorem wrL_app (h t d : List Int) : wrL (h ++ t) h.length d = h ++ (d ++ t.drop d.length) := by
  unfold wrL Pl.put
  split
  · rename_i hl
    rw [List.length_append] at hl
    have hs : sizedF (h ++ t) (h.length + d.length) = h ++ t ++ List.replicate (h.length + d.length - (h ++ t).length) 0 := by
      unfold sizedF
      rw [if_neg (by rw [List.length_append]; omega)]
    have z1 : (h ++ (t ++ List.replicate (h.length + d.length - (h ++ t).length) (0 : Int))).drop (h.length + d.length) = [] := List.drop_eq_nil_of_le (by
      rw [List.length_append, List.length_append, List.length_replicate, List.length_append]
      omega)
    have z2 : t.drop d.length = [] := List.drop_eq_nil_of_le (by omega)
    rw [hs, List.append_assoc h t, List.take_left' rfl, z1, z2]
    simp
  · rw [List.take_left' rfl, ← List.drop_drop, List.drop_left' rfl, List.append_assoc]
/-- records one behind the other -/
def recsL (l : List Pg) : List Int := l.flatMap recB
theorem rec_len {x : Pg} (h : x.b.length = 256) : (recB x).length = 320 := by
  unfold recB zeros
  rw [List.length_append, List.length_append, h, List.length_replicate]
  rfl
theorem recsL_len : ∀ {l : List Pg}, (∀ x ∈ l, x.b.length = 256) → (recsL l).length = 320 * l.length
  | [], _ => rfl
  | x :: r, h => by
    unfold recsL
    rw [List.flatMap_cons, List.length_append, rec_len (h x (List.mem_cons_self ..))]
    have := recsL_len (l := r) (fun y hy => h y (List.mem_cons_of_mem _ hy))
    unfold recsL at this
    rw [this, List.length_cons]
    omega
/-- what is laid aside is read back -/
theorem recs_back (H : List Int) (hH : H.length = 64) (top : Int) (T : List Int) : ∀ (l : List Pg) (pre : List Pg) (last : Int), (∀ x ∈ pre, x.b.length = 256) → (∀ x ∈ l, x.b.length = 256) → chainPg top last l = true → 0 ≤ last → top < 4294967296 →
    recsPg (H ++ (recsL pre ++ (recsL l ++ T))) top l.length pre.length last = some l
  | [], pre, last, _, _, _, _, _ => rfl
  | x :: r, pre, last, hp, hl, hc, h0, ht => by
    have hx := hl x (List.mem_cons_self ..)
    rw [chainPg_cons, Bool.and_eq_true, decide_eq_true_iff] at hc
    have hpl := recsL_len hp
    have hrl := rec_len hx
    have eb : ((H ++ (recsL pre ++ (recsL (x :: r) ++ T))).drop (64 + 320 * pre.length)).take 320 = recB x := by
      have e1 : H ++ (recsL pre ++ (recsL (x :: r) ++ T)) = (H ++ recsL pre) ++ (recB x ++ (recsL r ++ T)) := by
        unfold recsL
        rw [List.flatMap_cons]
        simp only [List.append_assoc]
      rw [e1, List.drop_left' (by rw [List.length_append, hH, hpl]), List.take_left' hrl]
    have hb : recB x = four x.n ++ (zeros 60 ++ x.b) := by unfold recB; rw [List.append_assoc]
    have hz : ((recB x).drop 4).take 60 = zeros 60 := by
      rw [hb, List.drop_left' (four_len _), List.take_left' (by unfold zeros; rw [List.length_replicate])]
    have hn : num (recB x) 0 = x.n := by
      have := num_four x.n (by omega) [] (zeros 60 ++ x.b)
      simp only [List.nil_append, List.length_nil] at this
      rw [hb]
      exact this
    have hd : (recB x).drop 64 = x.b := by
      unfold recB
      exact List.drop_left' (by unfold zeros; rw [List.length_append, List.length_replicate]; rfl)
    have ih := recs_back H hH top T r (pre ++ [x]) x.n (fun y hy => by
      rcases List.mem_append.1 hy with q | q
      · exact hp y q
      · rw [List.mem_singleton.1 q]; exact hx) (fun y hy => hl y (List.mem_cons_of_mem _ hy)) hc.2 (by omega) ht
    have e2 : H ++ (recsL (pre ++ [x]) ++ (recsL r ++ T)) = H ++ (recsL pre ++ (recsL (x :: r) ++ T)) := by
      unfold recsL
      rw [List.flatMap_append, List.flatMap_cons, List.flatMap_cons, List.flatMap_nil]
      simp only [List.append_assoc, List.append_nil, List.nil_append]
    rw [e2, List.length_append] at ih
    rw [List.length_cons, recsPg_succ, eb, hz, hn, hd, if_neg (by rw [hrl]; omega), if_pos ⟨rfl, hc.1⟩]
    rw [show [x].length = 1 from rfl] at ih
    rw [ih]
    rfl
/-! ### the database as pages -/
/-- so many pages -/
def Pgd (l : List Int) (s : Nat) : Prop := l.length = s * 256
theorem pageOf_at {l : List Int} {s n : Nat} (h : Pgd l s) (h1 : 1 ≤ n) (h2 : n ≤ s) : pageOf l n = (l.drop ((n - 1) * 256)).take 256 := by
  unfold pageOf sizedF
  have h' : l.length = s * 256 := h
  obtain ⟨m, rfl⟩ : ∃ m, n = m + 1 := ⟨n - 1, by omega⟩
  have : (m + 1) * 256 ≤ s * 256 := Nat.mul_le_mul_right _ h2
  rw [if_pos (by rw [List.length_drop, Nat.add_sub_cancel]; omega)]
theorem pages_ext {l m : List Int} {s : Nat} (hl : Pgd l s) (hm : Pgd m s) (h : ∀ n, 1 ≤ n → n ≤ s → pageOf l n = pageOf m n) : l = m := by
  have hl' : l.length = s * 256 := hl
  have hm' : m.length = s * 256 := hm
  apply List.ext_getElem
  · omega
  · intro i h1 h2
    have hn := h (i / 256 + 1) (by omega) (by omega)
    rw [pageOf_at hl (by omega) (by omega), pageOf_at hm (by omega) (by omega), Nat.add_sub_cancel] at hn
    have e := congrArg (fun q => q[i % 256]?) hn
    simp only [List.getElem?_take, List.getElem?_drop] at e
    rw [if_pos (Nat.mod_lt _ (by omega)), if_pos (Nat.mod_lt _ (by omega)), show i / 256 * 256 + i % 256 = i by omega, List.getElem?_eq_getElem h1, List.getElem?_eq_getElem h2] at e
    injection e
set_option maxRecDepth 100000 in
/-- a page put into a file of pages -/
theorem wr_page {l b : List Int} {s m : Nat} (h : Pgd l s) (hb : b.length = 256) (hm : m ≤ s) :
    Pgd (wrL l (m * 256) b) (max s (m + 1)) ∧ ∀ n, 1 ≤ n → n ≤ max s (m + 1) → pageOf (wrL l (m * 256) b) n = if n = m + 1 then b else pageOf l n := by
  have h' : l.length = s * 256 := h
  have hms : m * 256 ≤ s * 256 := Nat.mul_le_mul_right _ hm
  have hP : Pgd (wrL l (m * 256) b) (max s (m + 1)) := by
    unfold Pgd
    rw [wrL_len, hb, h']
    omega
  refine ⟨hP, fun n h1 h2 => ?_⟩
  have hsp : l = l.take (m * 256) ++ l.drop (m * 256) := (List.take_append_drop _ _).symm
  have hw : wrL l (m * 256) b = l.take (m * 256) ++ (b ++ l.drop (m * 256 + 256)) := by
    have e := wrL_app (l.take (m * 256)) (l.drop (m * 256)) b
    rw [← hsp, List.length_take, Nat.min_eq_left (by omega), hb, List.drop_drop] at e
    exact e
  rw [pageOf_at hP h1 h2]
  have htl : (l.take (m * 256)).length = m * 256 := by rw [List.length_take, Nat.min_eq_left (by omega)]
  split
  · rename_i he
    subst he
    rw [Nat.add_sub_cancel, hw, List.drop_left' htl, List.take_left' hb]
  · rename_i hne
    rcases Nat.lt_or_ge m (n - 1) with q | q
    · have hns : n ≤ s := by omega
      rw [pageOf_at h h1 hns, hw, ← List.append_assoc]
      have e2 : (n - 1) * 256 = (l.take (m * 256) ++ b).length + ((n - 1) * 256 - (m * 256 + 256)) := by
        rw [List.length_append, htl, hb]
        have : (m + 1) * 256 ≤ (n - 1) * 256 := Nat.mul_le_mul_right _ (by omega)
        omega
      conv => lhs; rw [e2, ← List.drop_drop, List.drop_left' rfl, List.drop_drop]
      have e3 : m * 256 + 256 + ((n - 1) * 256 - (m * 256 + 256)) = (n - 1) * 256 := by
        have : (m + 1) * 256 ≤ (n - 1) * 256 := Nat.mul_le_mul_right _ (by omega)
        omega
      rw [e3]
    · have hlt : n - 1 < m := by omega
      have hns : n ≤ s := by omega
      have hle : n * 256 ≤ m * 256 := Nat.mul_le_mul_right _ (by omega)
      have e0 : (n - 1) * 256 + 256 = n * 256 := by
        obtain ⟨j, rfl⟩ : ∃ j, n = j + 1 := ⟨n - 1, by omega⟩
        rw [Nat.add_sub_cancel]
        omega
      rw [pageOf_at h h1 hns, hw, List.drop_append_of_le_length (by rw [htl]; omega), List.take_append_of_le_length (by rw [List.length_drop, htl]; omega), List.drop_take, List.take_take, Nat.min_eq_left (by omega)]
/-- a file of pages cut -/
theorem cut_pages {l : List Int} {s c : Nat} (h : Pgd l s) (hc : c ≤ s) : Pgd (l.take (c * 256)) c ∧ ∀ n, 1 ≤ n → n ≤ c → pageOf (l.take (c * 256)) n = pageOf l n := by
  have h' : l.length = s * 256 := h
  have hcs : c * 256 ≤ s * 256 := Nat.mul_le_mul_right _ hc
  have hP : Pgd (l.take (c * 256)) c := by
    unfold Pgd
    rw [List.length_take, Nat.min_eq_left (by omega)]
  refine ⟨hP, fun n h1 h2 => ?_⟩
  have hle : n * 256 ≤ c * 256 := Nat.mul_le_mul_right _ h2
  have e0 : (n - 1) * 256 + 256 = n * 256 := by
    obtain ⟨j, rfl⟩ : ∃ j, n = j + 1 := ⟨n - 1, by omega⟩
    rw [Nat.add_sub_cancel]
    omega
  rw [pageOf_at hP h1 h2, pageOf_at h h1 (by omega), List.drop_take, List.take_take, Nat.min_eq_left (by omega)]
/-- what of a page's number lies among pages -/
def lookPg (l : List Pg) (n : Nat) : Option (List Int) := (l.find? fun x => decide (x.n = (n : Int))).map (·.b)
/-- each page is at most one behind the end -/
def SeqPg : Nat → List Pg → Prop
  | _, [] => True
  | s, x :: r => x.n ≤ (s : Int) + 1 ∧ SeqPg (max s x.n.toNat) r
def endPg : Nat → List Pg → Nat
  | s, [] => s
  | s, x :: r => endPg (max s x.n.toNat) r
end Go.Proofs.Ytegcbdfilkecpaa
