/- Pages are laid as the document says: the program's lay, room and told; no condition. -/
import Derived.Test.YtnleoeogcinadaaPgMem
import Derived.Test.YtnleoeogcinadaaStrs
namespace Go.Proofs.Ytnleoeogcinadaa
open Go.RowKit
attribute [local go_sem ↓] load26 store26 alloc26 build26 slice26lo

def roomI (xs : List ByteArray) : Int := 250 - (xs.map fun c => 1 + (c.size : Int)).sum
theorem roomI_snoc (xs : List ByteArray) (c : ByteArray) : roomI (xs ++ [c]) = roomI xs - (1 + (c.size : Int)) := by
  unfold roomI
  rw [List.map_append, List.sum_append]
  simp
  omega
theorem roomI_take (xs : List ByteArray) (k : Nat) (hk : k < xs.length) : roomI (xs.take (k + 1)) = roomI (xs.take k) - (1 + ((xs[k]?.getD ByteArray.empty).size : Int)) := by
  rw [List.take_succ_eq_append_getElem hk, roomI_snoc]
  simp [hk]
theorem roomI_lo (xs : List ByteArray) (h : ∀ c ∈ xs, c.size ≤ 60) : -(61 * xs.length : Int) ≤ roomI xs ∧ roomI xs ≤ 250 := by
  unfold roomI
  induction xs with
  | nil => simp
  | cons c xs ih =>
    have := ih (fun c hc => h c (by simp [hc]))
    have := h c (by simp)
    simp at *
    omega

set_option maxHeartbeats 800000 in
theorem room_ok (w : World) (kind link : Int) (A : Option Addr) (n cap : Nat) (xs : List ByteArray) (hn : n ≤ 4000) (h60 : ∀ c ∈ xs, c.size ≤ 60) (hS : Sl w A n xs) :
    Calls Try.prog 33 #[.agg #[.int .u8 kind, .int .u32 link, .slice A n cap]] w fun e w' => e = .returned (.int .i64 (roomI xs)) ∧ Kp NoB w w' := by
  have HS := Lib.hid (hS.keep ((Kp.refl NoB w).alloc (.cells #[.int .u8 kind, .int .u32 link, .slice A n cap] 62)))
  have H6 := Lib.hid h60
  clear hS h60
  go_enter Try.func33, Try.ntmps33
  go_wp2
  go_loop [3, 9] (fun r i => ∃ k : Nat, k ≤ n ∧ i = .int .i64 k ∧ r = .int .i64 (roomI (xs.take k))) (fun _ i => n - (intOf i).toNat)
  case atStart => exact ⟨0, by omega, rfl, rfl⟩
  case round =>
    obtain ⟨k, hk, rfl, rfl⟩ := hrel
    by_cases hlt : k < n
    · obtain ⟨g, o, rfl, hg, hc⟩ := HS.out.2 (by omega)
      have hcell := hc k hlt
      have hlo := roomI_lo (xs.take k) (fun c hc => H6.out c (List.mem_of_mem_take hc))
      have hl : (xs.take k).length ≤ k := List.length_take_le _ _
      have HT := Lib.hid (roomI_take xs k (by rw [HS.out.1]; exact hlt))
      have hc60 : ((xs[k]?.getD ByteArray.empty).size : Int) ≤ 60 := by
        have hkx : k < xs.length := by rw [HS.out.1]; exact hlt
        have := H6.out xs[k] (List.getElem_mem hkx)
        simp [hkx]; omega
      have hc0 : (0 : Int) ≤ ((xs[k]?.getD ByteArray.empty).size : Int) := Int.natCast_nonneg _
      clear hc
      go_wp2
      exact ⟨⟨k + 1, by omega, by congr 1, by rw [HT.out]⟩, by simp [intOf]; omega⟩
    · obtain rfl : k = n := by omega
      go_wp2
      go_ret
      exact ⟨ret_int (by rw [List.take_of_length_le (by rw [HS.out.1]; exact Nat.le_refl _)]), (Kp.refl _ _).alloc _⟩

/-! ### the page of a body, as a list of numbers -/
def flatI (xs : List ByteArray) : List Int := xs.flatMap strI
def w8 (n : Int) : Int := n % 256
def hdI (kind link : Int) (n : Nat) (k : Nat) : List Int :=
  ([kind, w8 n, w8 (link / 16777216), w8 (link / 65536), w8 (link / 256), w8 link].take (2 + k)) ++ zeros (4 - k)
theorem hdI_len (kind link : Int) (n k : Nat) (hk : k ≤ 4) : (hdI kind link n k).length = 6 := by
  unfold hdI zeros
  simp
  omega
def hd6 (kind link : Int) (n : Nat) : List Int := [kind, w8 n, w8 (link / 16777216), w8 (link / 65536), w8 (link / 256), w8 link]
/-- the page, the first i cells laid -/
def layK (kind link : Int) (xs : List ByteArray) (i : Nat) : List Int :=
  hd6 kind link xs.length ++ ((xs.take i).map (fun c => (c.size : Int)) ++ zeros (xs.length - i)) ++ (flatI (xs.take i) ++ zeros (250 - xs.length - (flatI (xs.take i)).length))
def layI (kind link : Int) (xs : List ByteArray) : List Int := layK kind link xs xs.length

theorem bytesV_noStr {l : List Int} {i : Nat} {c : ByteArray} (h : (bytesV l)[i]? = some (.string c)) : False := by
  unfold bytesV at h
  simp only [List.getElem?_toArray, List.getElem?_map] at h
  cases hq : l[i]? <;> rw [hq] at h <;> simp at h
theorem Sl.on {W W' : World} {A : Option Addr} {n : Nat} {xs : List ByteArray} {g4 : Nat} {t : TypeId} {l : List Int} (h : Sl W A n xs) (hb : Blk W g4 t (bytesV l)) (k : Kp (OnB g4) W W') : Sl W' A n xs := by
  refine ⟨h.1, fun hn => ?_⟩
  obtain ⟨g, o, e, hg, hc⟩ := h.2 hn
  have hne : ¬ OnB g4 g := fun q => by
    unfold OnB at q
    subst q
    have c0 := hc 0 hn
    rw [hb.cell] at c0
    exact bytesV_noStr c0
  exact ⟨g, o, e, Nat.lt_of_lt_of_le hg k.size, fun j hj => (k.cell hg hne).trans (hc j hj)⟩
/-- in the midst of lay: the body's box, the result's place, the page as it stands -/
structure LayS (w : World) (kind link : Int) (A : Option Addr) (n cap : Nat) (xs : List ByteArray) (l : List Int) (W : World) : Prop where
  kp : Kp NoB w W
  b1 : Blk W w.heap.size 62 #[.int .u8 kind, .int .u32 link, .slice A n cap]
  b2 : Blk W (w.heap.size + 1) 26 zero256
  b4 : Blk W (w.heap.size + 1 + 1) 26 (bytesV l)
  ln : l.length = 256
  sl : Sl W A n xs
theorem bytesV_set (l : List Int) (i : Nat) (v : Int) : (bytesV l).setIfInBounds i (.int .u8 v) = bytesV (l.set i v) := by
  unfold bytesV
  rw [List.setIfInBounds_toArray, List.map_set]
theorem bytesV_get (l : List Int) (i : Nat) (hi : i < l.length) : (bytesV l)[i]? = some (.int .u8 (l[i]?.getD 0)) := by
  unfold bytesV
  simp [hi]
theorem LayS.cell {w : World} {kind link : Int} {A : Option Addr} {n cap : Nat} {xs : List ByteArray} {l : List Int} {W : World} (h : LayS w kind link A n cap xs l W) (i : Nat) (hi : i < 256) :
    W.cell? ⟨w.heap.size + 1 + 1, i, none⟩ = some (.int .u8 (l[i]?.getD 0)) := (h.b4.cell i).trans (bytesV_get l i (by rw [h.ln]; exact hi))
theorem LayS.set {w : World} {kind link : Int} {A : Option Addr} {n cap : Nat} {xs : List ByteArray} {l : List Int} {W : World} (h : LayS w kind link A n cap xs l W) (i : Nat) (v : Int) :
    LayS w kind link A n cap xs (l.set i v) (W.setCell ⟨w.heap.size + 1 + 1, i, none⟩ (.int .u8 v)) := by
  refine ⟨h.kp.setCell (p := ⟨w.heap.size + 1 + 1, i, none⟩) (.inl (by show _ ≤ w.heap.size + 1 + 1; omega)) _, h.b1.far (p := ⟨w.heap.size + 1 + 1, i, none⟩) (by simp; omega) _, h.b2.far (p := ⟨w.heap.size + 1 + 1, i, none⟩) (by simp) _, ?_, by simp [h.ln], ?_⟩
  · have := h.b4.set_ i (.int .u8 v)
    rw [bytesV_set] at this
    exact this
  · exact h.sl.on h.b4 (Kp.setCell (S := OnB (w.heap.size + 1 + 1)) (p := ⟨w.heap.size + 1 + 1, i, none⟩) (Kp.refl _ _) (.inr rfl) _)
theorem LayS.copy {w : World} {kind link : Int} {A : Option Addr} {n cap : Nat} {xs : List ByteArray} {la lb ld lx : List Int} {W : World} (h : LayS w kind link A n cap xs (la ++ lb ++ ld) W) (m : Nat) (ho : la.length = m) (hl : lb.length = lx.length) :
    LayS w kind link A n cap xs (la ++ lx ++ ld) (W.setCells (w.heap.size + 1 + 1) m (lx.map (Value.int .u8))) :=
  ⟨Kp.setCells (.inl (by omega)) _ _ _ h.kp, h.b1.farCells (by omega) _ _ _, h.b2.farCells (by omega) _ _ _, h.b4.bytes m ho hl, by have := h.ln; simp at *; omega,
    h.sl.on h.b4 (Kp.setCells (S := OnB (w.heap.size + 1 + 1)) (.inr rfl) _ _ _ (Kp.refl _ _))⟩
theorem LayS.keep {w : World} {kind link : Int} {A : Option Addr} {n cap : Nat} {xs : List ByteArray} {l : List Int} {W W' : World} (h : LayS w kind link A n cap xs l W) (k : Kp NoB W W') : LayS w kind link A n cap xs l W' :=
  ⟨h.kp.trans k (fun _ _ q => q), h.b1.keep k (fun q => q), h.b2.keep k (fun q => q), h.b4.keep k (fun q => q), h.ln, h.sl.keep k⟩
theorem LayS.drew {w : World} {kind link : Int} {A : Option Addr} {n cap : Nat} {xs : List ByteArray} {l : List Int} {W : World} (h : LayS w kind link A n cap xs l W) : LayS w kind link A n cap xs l W.drew :=
  ⟨h.kp.drew, h.b1, h.b2, h.b4, h.ln, h.sl⟩

theorem hd_s0 (kind link : Int) (n : Nat) (t : List Int) : (hdI kind link n 0 ++ t).set 2 (link / 16777216 % 256) = hdI kind link n 1 ++ t := rfl
theorem hd_s1 (kind link : Int) (n : Nat) (t : List Int) : (hdI kind link n 1 ++ t).set 3 (link / 65536 % 256) = hdI kind link n 2 ++ t := rfl
theorem hd_s2 (kind link : Int) (n : Nat) (t : List Int) : (hdI kind link n 2 ++ t).set 4 (link / 256 % 256) = hdI kind link n 3 ++ t := rfl
theorem hd_s3 (kind link : Int) (n : Nat) (t : List Int) : (hdI kind link n 3 ++ t).set 5 (link % 256) = hdI kind link n 4 ++ t := rfl
theorem hd_s4 (kind link : Int) (n : Nat) : hdI kind link n 4 = hd6 kind link n := rfl
theorem layK_zero (kind link : Int) (xs : List ByteArray) (h : xs.length ≤ 250) : hd6 kind link xs.length ++ zeros 250 = layK kind link xs 0 := by
  unfold layK flatI zeros
  rw [List.append_assoc]
  congr 1
  have e : (xs.take 0).map (fun c => (c.size : Int)) = [] := by simp
  have e2 : (xs.take 0).flatMap strI = [] := by simp
  rw [e, e2]
  simp only [List.nil_append, List.length_nil, Nat.sub_zero, List.replicate_append_replicate]
  congr 1
  omega
/-- what lay answers: the page, if there is room -/
def layR (kind link : Int) (xs : List ByteArray) : Array Value × Bool := if roomI xs < 0 then (zero256, false) else (bytesV (layI kind link xs), true)
def LayPost (w : World) (kind link : Int) (xs : List ByteArray) (e : Ending) (w' : World) : Prop :=
  e = .returned (.tuple #[.agg (layR kind link xs).1, .bool (layR kind link xs).2]) ∧ Kp NoB w w'
theorem roomI_flat (xs : List ByteArray) : roomI xs = 250 - xs.length - (flatI xs).length := by
  unfold roomI flatI
  induction xs with
  | nil => simp
  | cons c xs ih =>
    simp only [List.map_cons, List.sum_cons, List.length_cons, List.flatMap_cons, List.length_append, strI_len] at *
    omega
theorem flat_take (xs : List ByteArray) (k : Nat) (hk : k < xs.length) : flatI (xs.take (k + 1)) = flatI (xs.take k) ++ strI (xs[k]?.getD ByteArray.empty) := by
  unfold flatI
  rw [List.take_succ_eq_append_getElem hk, List.flatMap_append]
  simp [hk]
theorem flat_le (xs : List ByteArray) (k : Nat) : (flatI (xs.take k)).length ≤ (flatI xs).length := by
  have : flatI xs = flatI (xs.take k) ++ flatI (xs.drop k) := by
    unfold flatI
    rw [← List.flatMap_append, List.take_append_drop]
  rw [this, List.length_append]
  omega
theorem flat_lo (xs : List ByteArray) (h : ∀ c ∈ xs, 1 ≤ c.size) : xs.length ≤ (flatI xs).length := by
  unfold flatI
  induction xs with
  | nil => simp
  | cons c xs ih =>
    have := h c (by simp)
    have := ih (fun c hc => h c (by simp [hc]))
    simp only [List.length_cons, List.flatMap_cons, List.length_append, strI_len]
    omega
theorem layK_len (kind link : Int) (xs : List ByteArray) (k : Nat) (hk : k ≤ xs.length) (hr : 0 ≤ roomI xs) : (layK kind link xs k).length = 256 := by
  have h1 := roomI_flat xs
  have h2 := flat_le xs k
  unfold layK zeros
  simp only [List.length_append, List.length_map, List.length_take, List.length_replicate]
  have : (hd6 kind link xs.length).length = 6 := rfl
  omega
/-- a cell's length is laid -/
def layM (kind link : Int) (xs : List ByteArray) (k : Nat) : List Int :=
  hd6 kind link xs.length ++ ((xs.take (k + 1)).map (fun c => (c.size : Int)) ++ zeros (xs.length - (k + 1))) ++ (flatI (xs.take k) ++ zeros (250 - xs.length - (flatI (xs.take k)).length))
theorem layM_eq (kind link : Int) (xs : List ByteArray) (k : Nat) (hk : k < xs.length) : (layK kind link xs k).set (6 + k) ((xs[k]?.getD ByteArray.empty).size : Int) = layM kind link xs k := by
  unfold layK layM
  have h6 : (hd6 kind link xs.length).length = 6 := rfl
  have hz : zeros (xs.length - k) = 0 :: zeros (xs.length - (k + 1)) := by
    unfold zeros
    rw [show xs.length - k = (xs.length - (k + 1)) + 1 by omega, List.replicate_succ]
  have ht : ((xs.take k).map (fun c => (c.size : Int))).length = k := by simp; omega
  rw [List.append_assoc, List.append_assoc, List.set_append_right _ _ (by omega), h6, Nat.add_sub_cancel_left, List.append_assoc, List.set_append_right _ _ (by omega), ht, Nat.sub_self, hz]
  have hx : xs[k]?.getD ByteArray.empty = xs[k] := by simp [hk]
  rw [List.take_succ_eq_append_getElem hk, hx, List.map_append]
  simp only [List.map_cons, List.map_nil, List.append_assoc, List.cons_append, List.nil_append, List.set_cons_zero]
theorem layM_next (kind link : Int) (xs : List ByteArray) (k : Nat) (hk : k < xs.length) (hr : 0 ≤ roomI xs) : ∃ la lb ld, layM kind link xs k = la ++ lb ++ ld ∧ la.length = 6 + xs.length + (flatI (xs.take k)).length ∧ lb.length = (strI (xs[k]?.getD ByteArray.empty)).length ∧ layK kind link xs (k + 1) = la ++ strI (xs[k]?.getD ByteArray.empty) ++ ld ∧ lb = zeros (xs[k]?.getD ByteArray.empty).size := by
  have h1 := roomI_flat xs
  have h2 := flat_le xs (k + 1)
  have h3 := flat_take xs k hk
  have h4 : (flatI (xs.take (k + 1))).length = (flatI (xs.take k)).length + (strI (xs[k]?.getD ByteArray.empty)).length := by rw [h3, List.length_append]
  refine ⟨hd6 kind link xs.length ++ ((xs.take (k + 1)).map (fun c => (c.size : Int)) ++ zeros (xs.length - (k + 1))) ++ flatI (xs.take k), zeros (strI (xs[k]?.getD ByteArray.empty)).length, zeros (250 - xs.length - (flatI (xs.take (k + 1))).length), ?_, ?_, by simp [zeros], ?_, by rw [strI_len]⟩
  · unfold layM
    have : zeros (250 - xs.length - (flatI (xs.take k)).length) = zeros (strI (xs[k]?.getD ByteArray.empty)).length ++ zeros (250 - xs.length - (flatI (xs.take (k + 1))).length) := by
      unfold zeros
      rw [List.replicate_append_replicate]
      congr 1
      omega
    rw [this]
    simp only [List.append_assoc]
  · have : (hd6 kind link xs.length).length = 6 := rfl
    simp only [List.length_append, List.length_map, List.length_take, zeros, List.length_replicate]
    omega
  · unfold layK
    rw [h3]
    simp only [List.append_assoc]
theorem zero256_size : zero256.size = 256 := by rw [zero256_eq, bytesV_size]; exact List.length_replicate
theorem zero256_one : ones zero256 := by rw [zero256_eq]; exact bytesV_one _

set_option maxRecDepth 100000 in
set_option maxHeartbeats 1600000 in
theorem lay_ok (w : World) (kind link : Int) (A : Option Addr) (n cap : Nat) (xs : List ByteArray) (hn : n ≤ 4000) (h60 : ∀ c ∈ xs, 1 ≤ c.size ∧ c.size ≤ 60) (hS : Sl w A n xs) :
    Calls Try.prog 38 #[.agg #[.int .u8 kind, .int .u32 link, .slice A n cap]] w (LayPost w kind link xs) := by
  have HS := Lib.hid hS
  have H6 := Lib.hid h60
  clear hS h60
  go_enter Try.func38, Try.ntmps38
  go_wp2
  refine forget (p := fun wx => Code.wp _ _ _ _ wx) (LayS w kind link A n cap xs (zeros 256)) ⟨(((Kp.refl _ _).alloc _).alloc _).alloc _, ((Blk.new _ _ _).alloc _).alloc _, ?_, ?_, List.length_replicate, HS.out.keep ((((Kp.refl _ _).alloc _).alloc _).alloc _)⟩ ?_
  · exact (Blk.newAt _ _ _ _ (by simp)).alloc _
  · rw [← zero256_eq]; exact Blk.newAt _ _ _ _ (by simp)
  intro W hW
  have f0 : W.cell? ⟨w.heap.size, 0, none⟩ = some (.int .u8 kind) := hW.b1.cell 0
  have f2 : W.cell? ⟨w.heap.size, 2, none⟩ = some (.slice A n cap) := hW.b1.cell 2
  have p0 := hW.cell 0 (by omega)
  have p1 := hW.cell 1 (by omega)
  have z0 := hW.b4.frozen 0
  have z1 := hW.b4.frozen 1
  have HW := Lib.hid hW
  clear hW
  go_region
  refine forget (p := fun wx => Exit.then _ _ _ _ wx) (LayS w kind link A n cap xs (hdI kind link n 0 ++ zeros 250)) ((HW.out.set 0 kind).set 1 (n % 256)).drew ?_
  intro W1 hW1
  have HW1 := Lib.hid hW1
  clear hW1 f0 f2 p0 p1 z0 z1
  go_wp2
  go_loopw [17] (fun i wr => ∃ k : Nat, k ≤ 4 ∧ i = .int .i64 k ∧ LayS w kind link A n cap xs (hdI kind link n k ++ zeros 250) wr) (fun i _ => 4 - (intOf i).toNat)
  case atStart => exact ⟨0, by omega, rfl, HW1.out⟩
  case round =>
    obtain ⟨k, hk, rfl, hL⟩ := hrel
    have f1 : wr.cell? ⟨w.heap.size, 1, none⟩ = some (.int .u32 link) := hL.b1.cell 1
    have HL := Lib.hid hL
    clear hL
    by_cases hlt : k < 4
    · have pk := HL.out.cell (2 + k) (by omega)
      have zk := HL.out.b4.frozen (2 + k)
      rcases (show k = 0 ∨ k = 1 ∨ k = 2 ∨ k = 3 by omega) with rfl | rfl | rfl | rfl
      · go_wp2
        exact ⟨⟨1, by omega, rfl, by rw [← hd_s0]; exact HL.out.set 2 _⟩, by simp [intOf]⟩
      · go_wp2
        exact ⟨⟨2, by omega, rfl, by rw [← hd_s1]; exact HL.out.set 3 _⟩, by simp [intOf]⟩
      · go_wp2
        exact ⟨⟨3, by omega, rfl, by rw [← hd_s2]; exact HL.out.set 4 _⟩, by simp [intOf]⟩
      · go_wp2
        exact ⟨⟨4, by omega, rfl, by rw [← hd_s3]; exact HL.out.set 5 _⟩, by simp [intOf]⟩
    · obtain rfl : k = 4 := by omega
      have f2 : wr.cell? ⟨w.heap.size, 2, none⟩ = some (.slice A n cap) := HL.out.b1.cell 2
      have f0 : wr.cell? ⟨w.heap.size, 0, none⟩ = some (.int .u8 kind) := HL.out.b1.cell 0
      have hroom := roomI_lo xs (fun c hc => (H6.out c hc).2)
      by_cases hr : roomI xs < 0
      · have HLR := Lib.hid (show layR kind link xs = (zero256, false) from if_pos hr)
        have hz := zero256_size
        have ho := zero256_one
        by_cases hbig : (250 : Int) < n
        · have ht2 := HL.out.b2.thereAll 256 zero256_size
          go_wp2_with fail
          refine bodyPost_ret (ret_cell_tmp rfl _ _ _ _ _ _ rfl (HL.out.b2.whole zero256 rfl) Try.underlying26 rfl (by rw [zero256_size]; exact info26) _ rfl) rfl ?_
          exact ⟨by rw [HLR.out]; rfl, Kp.setCells (.inl (by omega)) _ _ _ HL.out.kp⟩
        · go_wp2_with (go_at_call 33; go_must (refine (room_ok _ kind link A n cap xs hn (fun c hc => (H6.out c hc).2) HL.out.sl).mono ?_); rintro e w2 ⟨rfl, hk2⟩; have HB2 := Lib.hid (HL.out.b2.keep hk2 (fun q => q)); have ht2 := HB2.out.thereAll 256 zero256_size)
          refine bodyPost_ret (ret_cell_tmp rfl _ _ _ _ _ _ rfl (HB2.out.whole zero256 rfl) Try.underlying26 rfl (by rw [zero256_size]; exact info26) _ rfl) rfl ?_
          exact ⟨by rw [HLR.out]; rfl, Kp.setCells (.inl (by omega)) _ _ _ (HL.out.kp.trans hk2 (fun _ _ q => q))⟩
      · have HLR := Lib.hid (show layR kind link xs = (bytesV (layI kind link xs), true) from if_neg hr)
        have hfl := roomI_flat xs
        have hlo := flat_lo xs (fun c hc => (H6.out c hc).1)
        have hnx : xs.length = n := HS.out.1
        have hn125 : (n : Int) ≤ 125 := by omega
        have HN := Lib.hid hnx
        have HF := Lib.hid hfl
        have HRR := Lib.hid hr
        clear hfl hlo hnx
        go_wp2_with (go_at_call 33; go_must (refine (room_ok _ kind link A n cap xs hn (fun c hc => (H6.out c hc).2) HL.out.sl).mono ?_); rintro e w2 ⟨rfl, hk2⟩; have HL2 := Lib.hid (HL.out.keep hk2); clear hk2; have g2 : w2.cell? ⟨w.heap.size, 2, none⟩ = some (.slice A n cap) := HL2.out.b1.cell 2)
        refine forget (p := fun wx => Code.wp _ _ _ _ wx) (LayS w kind link A n cap xs (layK kind link xs 0)) (by rw [← layK_zero kind link xs (by rw [HN.out]; omega), ← hd_s4, HN.out]; exact HL2.out) ?_
        intro W3 hW3
        have HW3 := Lib.hid hW3
        clear hW3 g2 f0 f1 f2
        go_loopw [6, 48] (fun p i wr => ∃ k m : Nat, k ≤ n ∧ i = .int .i64 k ∧ p = .int .i64 m ∧ m = 6 + n + (flatI (xs.take k)).length ∧ LayS w kind link A n cap xs (layK kind link xs k) wr) (fun _ i _ => n - (intOf i).toNat)
        case atStart => exact ⟨0, 6 + n, by omega, rfl, by congr 1, rfl, HW3.out⟩
        case round =>
          obtain ⟨k, m, hk, rfl, rfl, hm, hL⟩ := hrel
          have HM := Lib.hid hm
          have HLk := Lib.hid hL
          clear hm hL
          by_cases hlt : k < n
          · have hkx : k < xs.length := by rw [HN.out]; exact hlt
            have hcs : (xs[k]?.getD ByteArray.empty).size ≤ 60 ∧ 1 ≤ (xs[k]?.getD ByteArray.empty).size := by
              have := H6.out xs[k] (List.getElem_mem hkx)
              simp [hkx]; omega
            have hfk : (flatI (xs.take (k + 1))).length = (flatI (xs.take k)).length + (xs[k]?.getD ByteArray.empty).size := by rw [flat_take xs k hkx, List.length_append, strI_len]
            have hfk2 := flat_le xs (k + 1)
            have hm256 : m + (xs[k]?.getD ByteArray.empty).size ≤ 256 := by have := HF.out; have := HRR.out; have := HM.out; have := HN.out; omega
            have hmm : m = 6 + n + (flatI (xs.take k)).length := HM.out
            obtain ⟨c, hc⟩ : ∃ c, xs[k]?.getD ByteArray.empty = c := ⟨_, rfl⟩
            rw [hc] at hcs hm256 hfk
            have hmc : (m : Int) + (c.size : Int) ≤ 256 := by omega
            have hc1 : (1 : Int) ≤ (c.size : Int) := by omega
            have hc60 : (c.size : Int) ≤ 60 := by omega
            obtain ⟨g, o, rfl, hg, hcell⟩ := HLk.out.sl.2 (by omega)
            have hck := hcell k hlt
            rw [show xs.getD k ByteArray.empty = c by rw [← hc]; simp] at hck
            have HC := Lib.hid hc
            have pk := HLk.out.cell (6 + k) (by omega)
            have zk := HLk.out.b4.frozen (6 + k)
            have hne : ¬ 256 = m := by omega
            have hm2 : (m : Int) ≤ 256 := by omega
            clear hcell hc hmm hfk hfk2
            go_wp2_with (show wpList _ _ _ (⟨some 63, _, _, _, _, _⟩ :: _) _ _; go_must (refine wpList_copyS rfl (.tmp 61) (.tmp 62) 64 9 5 rfl Try.underlying64 sizeU8 (w.heap.size + 1 + 1) m (256 - m) (256 - m) c rfl rfl (by omega) ?_ ?_))
            case roundEnd =>
              have hS2 := HLk.out.set (6 + k) (c.size : Int)
              rw [show (c.size : Int) = ((xs[k]?.getD ByteArray.empty).size : Int) by rw [HC.out], layM_eq kind link xs k hkx] at hS2
              obtain ⟨la, lb, ld, q1, q2, q3, q4, _⟩ := layM_next kind link xs k hkx HRR.out
              rw [q1] at hS2
              have hS3 := hS2.copy m (by rw [q2, HM.out, HN.out]) q3
              rw [← q4, HC.out] at hS3
              exact ⟨⟨k + 1, m + c.size, by omega, by congr 1, by congr 1, by rw [flat_take xs k hkx, List.length_append, strI_len, HC.out, HM.out]; omega, hS3⟩, by simp [intOf]; omega⟩
            case refine_1 =>
              exact (HLk.out.b4.set_ (6 + k) _).there (by rw [bytesV_set, bytesV_size, List.length_set, HLk.out.ln]; exact hm256)
          · obtain rfl : k = n := by omega
            have ht2 := HLk.out.b2.thereAll 256 zero256_size
            have ht4 := HLk.out.b4.thereAll 256 (by rw [bytesV_size]; exact HLk.out.ln)
            have hr4 := HLk.out.b4.readAll 256 (by rw [bytesV_size]; exact HLk.out.ln)
            have hsz : (bytesV (layK kind link xs k)).size = 256 := by rw [bytesV_size]; exact HLk.out.ln
            have hon := bytesV_one (layK kind link xs k)
            go_wp2_with fail
            refine bodyPost_ret (ret_cell_tmp rfl _ _ _ _ _ _ rfl (HLk.out.b2.whole (bytesV (layK kind link xs k)) (by rw [zero256_size, hsz])) Try.underlying26 rfl (by rw [hsz]; exact info26) _ rfl) rfl ?_
            exact ⟨by rw [HLR.out]; unfold layI; rw [HN.out]; rfl, Kp.setCells (.inl (by omega)) _ _ _ HLk.out.kp⟩
end Go.Proofs.Ytnleoeogcinadaa
