/- Texts of this proof, one behind the other: lemmas and contracts; each says its own conditions. -/
import Derived.Test.YtegcbdfilkecpaaM2
import Derived.Test.YtegcbdfilkecpaaM9
import Derived.Deep.OwnRows
/- The reference's disk: Seen, file; no condition. -/
namespace Go.Proofs.Ytegcbdfilkecpaa
open Go.RowKit

theorem findI_cases (fs : List Rfile) (s : ByteArray) : (findI fs s = -1 ∧ findR fs s = none ∧ ∀ f ∈ fs, f.nm ≠ s) ∨ ∃ (k : Nat) (f : Rfile), findI fs s = k ∧ fs[k]? = some f ∧ f.nm = s ∧ findR fs s = some f ∧ ∀ x ∈ fs.take k, x.nm ≠ s := by
  rcases hq : fs.findIdx? (fun f => decide (f.nm = s)) with _ | k
  · have := List.findIdx?_eq_none_iff.1 hq
    have h : ∀ x ∈ fs, x.nm ≠ s := fun x hx => by simpa using this x hx
    exact .inl ⟨(findI_none h).1, (findI_none h).2, h⟩
  · obtain ⟨hk, he, hn⟩ := List.findIdx?_eq_some_iff_getElem.1 hq
    have he' : fs[k].nm = s := by simpa using he
    have h : ∀ x ∈ fs.take k, x.nm ≠ s := by
      intro x hx
      obtain ⟨j, hj, rfl⟩ := List.getElem_of_mem hx
      rw [List.length_take] at hj
      have := hn j (by omega)
      rw [List.getElem_take]
      simpa using this
    have hf : fs[k]? = some fs[k] := List.getElem?_eq_getElem hk
    exact .inr ⟨k, fs[k], (findI_at h hf he').1, hf, he', (findI_at h hf he').2, h⟩
set_option maxRecDepth 100000 in
set_option maxHeartbeats 800000 in
theorem seen_raw (w : World) (A : Option Addr) (n c : Nat) (fs : List Rfile) (b0 b1 : Bool) (pA : Option Addr) (pn pc : Nat) (x4 x5 x6 x7 : Int) (s : ByteArray) (hF : Rows w A n 3 (fs.map rfCells)) (hn : n ≤ 9223372036854775807) :
    Calls Try.prog 29 #[.agg #[.bool b0, .bool b1, .slice A n c, .slice pA pn pc, .int .i64 x4, .int .i64 x5, .int .i64 x6, .int .i64 x7], .string s] w fun e w' => e = .returned (.string (strOf (seenR fs s))) ∧ Kp NoB w w' := by
  have HF := Lib.hid hF
  have HN := Lib.hid hn
  have hE : strOf [] = ⟨#[]⟩ := rfl
  rcases findI_cases fs s with ⟨h1, h2, _⟩ | ⟨k, f, h1, hfk, he, h2, _⟩
  · have H1 := Lib.hid h1
    have H2 : Hid (seenR fs s = []) := Lib.hid (by unfold seenR; rw [h2])
    clear h1 h2 hF hn
    go_enter Try.func29, Try.ntmps29
    go_wp2_with (go_at_call 82; go_must (refine (find_raw _ A n c fs b0 b1 pA pn pc x4 x5 x6 x7 s (HF.out.keep ((Kp.refl NoB w).alloc _)) HN.out).mono ?_); rintro e w2 ⟨rfl, hk⟩; rw [H1.out]; have HK := Lib.hid hk; clear hk)
    go_ret
    exact ⟨by rw [H2.out]; rfl, ((Kp.refl NoB w).alloc _).trans HK.out (fun _ _ q => q)⟩
  · have H1 := Lib.hid h1
    have H2 : Hid (seenR fs s = f.seen) := Lib.hid (by unfold seenR; rw [h2])
    have hfl : fs.length = n := by have := hF.1; simpa using this
    have hkn : k < n := by rw [← hfl]; exact (List.getElem?_eq_some_iff.1 hfk).1
    obtain ⟨g, o, rfl, hg, hc⟩ := hF.cell (k := k) (x := rfCells f) (by rw [List.getElem?_map, hfk]; rfl)
    have c1 := hc 1 _ rfl
    have HC := Lib.hid c1
    have HG := Lib.hid hg
    have hkk : (k : Int) < (n : Int) := by omega
    clear h1 h2 hF hc hfl he hfk c1 hg
    go_enter Try.func29, Try.ntmps29
    go_wp2_with fail
    refine (find_raw _ _ n c fs b0 b1 pA pn pc x4 x5 x6 x7 s (HF.out.keep ((Kp.refl NoB w).alloc _)) HN.out).mono ?_
    rintro e w2 ⟨rfl, hk⟩
    rw [H1.out]
    have hkw := ((Kp.refl NoB w).alloc _).trans hk (fun _ _ q => q)
    have HKW := Lib.hid hkw
    have b2 := (Blk.new w 56 #[.bool b0, .bool b1, .slice (some ⟨g, o, none⟩) n c, .slice pA pn pc, .int .i64 x4, .int .i64 x5, .int .i64 x6, .int .i64 x7]).keep hk (fun q => q)
    have e2 : w2.cell? ⟨w.heap.size, 2, none⟩ = some (.slice (some ⟨g, o, none⟩) n c) := by rw [b2.cell]; rfl
    have e1 := (hkw.cell HG.out (fun q => q)).trans HC.out
    clear hk hkw b2
    go_wp2_with fail
    go_ret
    exact ⟨by rw [H2.out]; rfl, HKW.out⟩
def fileV (s : ByteArray) (l k : List Int) : Array Value := #[.string s, .string (strOf l), .string (strOf k)]
set_option maxRecDepth 100000 in
set_option maxHeartbeats 800000 in
theorem file_raw (w : World) (A : Option Addr) (n c : Nat) (fs : List Rfile) (b0 b1 : Bool) (pA : Option Addr) (pn pc : Nat) (x4 x5 x6 x7 : Int) (s : ByteArray) (hF : Rows w A n 3 (fs.map rfCells)) (hn : n ≤ 9223372036854775807) :
    Calls Try.prog 127 #[.agg #[.bool b0, .bool b1, .slice A n c, .slice pA pn pc, .int .i64 x4, .int .i64 x5, .int .i64 x6, .int .i64 x7], .string s] w fun e w' => e = .returned (.agg (fileV s (seenR fs s) (keptR fs s))) ∧ Kp NoB w w' := by
  have HF := Lib.hid hF
  have HN := Lib.hid hn
  rcases findI_cases fs s with ⟨h1, h2, _⟩ | ⟨k, f, h1, hfk, he, h2, _⟩
  · have H1 := Lib.hid h1
    have H2 : Hid (fileV s (seenR fs s) (keptR fs s) = #[.string s, .string ⟨#[]⟩, .string ⟨#[]⟩]) := Lib.hid (by unfold seenR keptR; rw [h2]; rfl)
    clear h1 h2 hF hn
    go_enter Try.func127, Try.ntmps127
    go_wp2_with fail
    refine (find_raw _ A n c fs b0 b1 pA pn pc x4 x5 x6 x7 s (HF.out.keep (((Kp.refl NoB w).alloc _).alloc _)) HN.out).mono ?_
    rintro e w2 ⟨rfl, hk⟩
    rw [H1.out]
    have hkw := (((Kp.refl NoB w).alloc _).alloc _).trans hk (fun _ _ q => q)
    have b4 := (Blk.top (W := w.alloc (.cells #[.bool b0, .bool b1, .slice A n c, .slice pA pn pc, .int .i64 x4, .int .i64 x5, .int .i64 x6, .int .i64 x7] 56)) (g := w.heap.size + 1) (t := 137) (cs := #[.string ⟨#[]⟩, .string ⟨#[]⟩, .string ⟨#[]⟩]) (by simp)).keep hk (fun q => q)
    have HB4 := Lib.hid b4
    have HKW := Lib.hid hkw
    have f0 := b4.frozen 0
    have f1 := b4.frozen 1
    have f2 := b4.frozen 2
    have e0 : w2.cell? ⟨w.heap.size + 1, 0, none⟩ = some (.string ⟨#[]⟩) := by rw [b4.cell]; rfl
    have e1 : w2.cell? ⟨w.heap.size + 1, 1, none⟩ = some (.string ⟨#[]⟩) := by rw [b4.cell]; rfl
    have e2 : w2.cell? ⟨w.heap.size + 1, 2, none⟩ = some (.string ⟨#[]⟩) := by rw [b4.cell]; rfl
    clear hk hkw b4
    go_wp2_with fail
    have kz : w.heap.size ≤ w.heap.size + 1 := by omega
    refine bodyPost_ret (results_cell_row rfl _ _ _ _ _ _ _ rfl (((HB4.out.set_ 0 _).set_ 1 _).set_ 2 _) Try.underlying137 rfl (by exact infoRf)) rfl ⟨by rw [H2.out]; rfl, ((HKW.out.setCell (.inl kz) _).setCell (.inl kz) _).setCell (.inl kz) _⟩
  · have H1 := Lib.hid h1
    have H2 : Hid (fileV s (seenR fs s) (keptR fs s) = #[.string f.nm, .string (strOf f.seen), .string (strOf f.kept)]) := Lib.hid (by unfold seenR keptR; rw [h2, he]; rfl)
    have hfl : fs.length = n := by have := hF.1; simpa using this
    have hkn : k < n := by rw [← hfl]; exact (List.getElem?_eq_some_iff.1 hfk).1
    obtain ⟨g, o, rfl, hg, hc⟩ := hF.cell (k := k) (x := rfCells f) (by rw [List.getElem?_map, hfk]; rfl)
    have HC0 : Hid (w.cell? ⟨g, o + k * 3, none⟩ = some (.string f.nm)) := Lib.hid (hc 0 _ rfl)
    have HC1 := Lib.hid (hc 1 _ rfl)
    have HC2 := Lib.hid (hc 2 _ rfl)
    have HG := Lib.hid hg
    have hkk : (k : Int) < (n : Int) := by omega
    clear h1 h2 hF hc hfl he hfk hg
    go_enter Try.func127, Try.ntmps127
    go_wp2_with fail
    refine (find_raw _ _ n c fs b0 b1 pA pn pc x4 x5 x6 x7 s (HF.out.keep (((Kp.refl NoB w).alloc _).alloc _)) HN.out).mono ?_
    rintro e w2 ⟨rfl, hk⟩
    rw [H1.out]
    have hkw := (((Kp.refl NoB w).alloc _).alloc _).trans hk (fun _ _ q => q)
    have hkd := ((Kp.refl NoB (w.alloc (.cells #[.bool b0, .bool b1, .slice (some ⟨g, o, none⟩) n c, .slice pA pn pc, .int .i64 x4, .int .i64 x5, .int .i64 x6, .int .i64 x7] 56))).alloc _).trans hk (fun _ _ q => q)
    have b4 := (Blk.top (W := w.alloc (.cells #[.bool b0, .bool b1, .slice (some ⟨g, o, none⟩) n c, .slice pA pn pc, .int .i64 x4, .int .i64 x5, .int .i64 x6, .int .i64 x7] 56)) (g := w.heap.size + 1) (t := 137) (cs := #[.string ⟨#[]⟩, .string ⟨#[]⟩, .string ⟨#[]⟩]) (by simp)).keep hk (fun q => q)
    have b3 := (Blk.new w 56 #[.bool b0, .bool b1, .slice (some ⟨g, o, none⟩) n c, .slice pA pn pc, .int .i64 x4, .int .i64 x5, .int .i64 x6, .int .i64 x7]).keep hkd (fun q => q)
    have HB4 := Lib.hid b4
    have HKW := Lib.hid hkw
    have f0 := b4.frozen 0
    have f1 := b4.frozen 1
    have f2 := b4.frozen 2
    have e0 : w2.cell? ⟨w.heap.size + 1, 0, none⟩ = some (.string ⟨#[]⟩) := by rw [b4.cell]; rfl
    have e1 : w2.cell? ⟨w.heap.size + 1, 1, none⟩ = some (.string ⟨#[]⟩) := by rw [b4.cell]; rfl
    have e2 : w2.cell? ⟨w.heap.size + 1, 2, none⟩ = some (.string ⟨#[]⟩) := by rw [b4.cell]; rfl
    have e3 : w2.cell? ⟨w.heap.size, 2, none⟩ = some (.slice (some ⟨g, o, none⟩) n c) := by rw [b3.cell]; rfl
    have d0 := (hkw.cell HG.out (fun q => q)).trans HC0.out
    have d1 := (hkw.cell HG.out (fun q => q)).trans HC1.out
    have d2 := (hkw.cell HG.out (fun q => q)).trans HC2.out
    clear hk hkw b4 b3 hkd
    go_wp2_with fail
    have kz : w.heap.size ≤ w.heap.size + 1 := by omega
    refine bodyPost_ret (results_cell_row rfl _ _ _ _ _ _ _ rfl (((HB4.out.set_ 0 _).set_ 1 _).set_ 2 _) Try.underlying137 rfl (by exact infoRf)) rfl ⟨by rw [H2.out]; rfl, ((HKW.out.setCell (.inl kz) _).setCell (.inl kz) _).setCell (.inl kz) _⟩
end Go.Proofs.Ytegcbdfilkecpaa
/- The reference's lists of structs: rows in memory, appended and set; no condition. -/
namespace Go.Proofs.Ytegcbdfilkecpaa
open Go.RowKit

theorem flat_at (sz : Nat) : ∀ (xs : List (List Value)), (∀ x ∈ xs, x.length = sz) → ∀ (k j : Nat) (hj : j < sz) (hk : k < xs.length), xs.flatten[k * sz + j]? = xs[k][j]? := by
  intro xs
  induction xs with
  | nil => intro _ k j _ hk; simp at hk
  | cons x r ih =>
    intro h k j hj hk
    have hx := h x (by simp)
    rw [List.flatten_cons]
    cases k with
    | zero =>
      rw [List.getElem?_append_left (by rw [hx]; omega)]
      simp
    | succ k =>
      rw [List.getElem?_append_right (by rw [hx, Nat.add_mul]; omega), hx, show (k + 1) * sz + j - sz = k * sz + j by rw [Nat.add_mul]; omega, ih (fun y hy => h y (by simp [hy])) k j hj (by simpa using hk)]
      simp
theorem flat_len (sz : Nat) : ∀ (xs : List (List Value)), (∀ x ∈ xs, x.length = sz) → xs.flatten.length = xs.length * sz := by
  intro xs
  induction xs with
  | nil => intro _; simp
  | cons x r ih =>
    intro h
    rw [List.flatten_cons, List.length_append, h x (by simp), ih (fun y hy => h y (by simp [hy])), List.length_cons, Nat.add_mul]
    omega
theorem Rows.own {w : World} {base n cap sz : Nat} {e : TypeId} {A : Option Addr} {xs : List (List Value)} (h : w.ownsRow base e sz (.slice A n cap) n xs.flatten) (hl : xs.length = n) (hx : ∀ x ∈ xs, x.length = sz) : Rows w A n sz xs :=
  ⟨hl, hx, fun hn => by
    obtain ⟨g, ds, rfl, hg, hb⟩ := own_blkN h hn
    refine ⟨g, 0, e, _, rfl, hb, ?_, fun k hk j hj => ?_⟩
    · simp only [Nat.zero_add, List.size_toArray, List.length_append, flat_len sz xs hx, hl]
      omega
    · have hlt : k * sz + j < xs.flatten.length := by
        rw [flat_len sz xs hx]
        have : (k + 1) * sz ≤ xs.length * sz := Nat.mul_le_mul_right _ hk
        rw [Nat.add_mul] at this
        omega
      simp only [Nat.zero_add, List.getElem?_toArray]
      rw [List.getElem?_append_left hlt, flat_at sz xs hx k j hj hk]⟩
theorem Rows.src {w : World} {n sz : Nat} {A : Option Addr} {xs : List (List Value)} (h : Rows w A n sz xs) (hn : 0 < n) (hsz : 0 < sz) : ∃ g o, A = some ⟨g, o, none⟩ ∧ ∀ j u, xs.flatten[j]? = some u → w.cell? ⟨g, o + j, none⟩ = some u := by
  obtain ⟨g, o, t, cs, rfl, hb, hs, hc⟩ := h.2.2 hn
  refine ⟨g, o, rfl, fun j u hj => ?_⟩
  have hjl := (List.getElem?_eq_some_iff.1 hj).1
  rw [flat_len sz xs h.2.1] at hjl
  have hk : j / sz < xs.length := Nat.div_lt_of_lt_mul (by rw [Nat.mul_comm]; exact hjl)
  have hm : j % sz < sz := Nat.mod_lt _ hsz
  have e : j / sz * sz + j % sz = j := by rw [Nat.mul_comm]; exact Nat.div_add_mod j sz
  have h1 := flat_at sz xs h.2.1 (j / sz) (j % sz) hm hk
  rw [e, hj] at h1
  rw [hb.cell]
  have h2 := hc (j / sz) hk (j % sz) hm
  rw [Nat.add_assoc, e] at h2
  rw [h2, ← h1]
theorem cells_newR (w : World) (cs : List Value) (t : TypeId) : ∀ j u, cs[j]? = some u → (w.alloc (.cells cs.toArray t)).cell? ((⟨w.heap.size, 0, none⟩ : Addr).add j) = some u := by
  intro j u hj
  rw [add_mk, Nat.zero_add, (Blk.new w t cs.toArray).cell]
  simpa using hj
/-- the list with a file put at its name's place -/
def putR (fs : List Rfile) (f : Rfile) : List Rfile := match fs.findIdx? fun x => decide (x.nm = f.nm) with | some i => fs.set i f | none => fs ++ [f]
theorem set3_at {xs : List (List Value)} {cs : Array Value} {k : Nat} {a b c : Value} (hx : ∀ x ∈ xs, x.length = 3) (hk : k < xs.length) (hs : xs.length * 3 ≤ cs.size) (hc : ∀ i (h : i < xs.length) j, j < 3 → cs[i * 3 + j]? = xs[i][j]?) :
    ∀ i (h : i < (xs.set k [a, b, c]).length) j, j < 3 → (((cs.setIfInBounds (k * 3) a).setIfInBounds (k * 3 + 1) b).setIfInBounds (k * 3 + 2) c)[i * 3 + j]? = (xs.set k [a, b, c])[i][j]? := by
  intro i h j hj
  rw [List.length_set] at h
  simp only [Array.getElem?_setIfInBounds, Array.size_setIfInBounds, List.getElem_set]
  by_cases hik : k = i
  · subst hik
    rcases (show j = 0 ∨ j = 1 ∨ j = 2 by omega) with rfl | rfl | rfl
    · simp; omega
    · simp; omega
    · simp; omega
  · rw [if_neg (by omega), if_neg (by omega), if_neg (by omega), if_neg hik]
    exact hc i h j hj
end Go.Proofs.Ytegcbdfilkecpaa
/- The reference's texts: noughts, a text cut or made longer; condition: at most 1048576 bytes. -/
namespace Go.Proofs.Ytegcbdfilkecpaa
open Go.RowKit

attribute [local go_sem ↓] conv64
theorem infoU8z : (Try.prog.info? 5).map (fun i => (i.zero, i.size, i.bytes)) = some (some (.int .u8 0), 1, 1) := by kernel_rfl
theorem made_zeros (n : Nat) : madeCells #[.int .u8 0] n = bytesV (zeros n) := by
  unfold madeCells bytesV zeros
  apply Array.ext
  · simp
  · intro i h1 h2
    simp [Nat.mod_one]
set_option maxRecDepth 100000 in
set_option maxHeartbeats 800000 in
theorem zeros_ok (w : World) (n : Nat) (hn : n ≤ 1099511627776) :
    Calls Try.prog 161 #[.int .i64 n] w fun e w' => e = .returned (.string (strOf (zeros n))) ∧ Kp NoB w w' := by
  have hmk := run_make_row' (P := Try.prog) 42 5 (.int .u8 0) 1 Try.underlying42 infoU8z rfl .i64 .i64 n (by omega) (by omega) w
  rw [made_zeros] at hmk
  have hb := Blk.new w 5 (bytesV (zeros n))
  have h1 := hb.byAt 0 n (by simp [zeros])
  have h2 := hb.byRd 0 n (by simp [zeros])
  have h3 : ((zeros n).drop 0).take n = zeros n := by rw [List.drop_zero, List.take_of_length_le (by simp [zeros])]
  rw [h3] at h2
  clear h3 hb
  go_enter Try.func161, Try.ntmps161
  go_wp2_with fail
  go_ret
  exact ⟨by rfl, (Kp.refl NoB w).alloc _⟩
theorem strOf_app (l m : List Int) : strOf (l ++ m) = strOf l ++ strOf m := by
  unfold strOf
  apply ByteArray.ext
  simp
theorem strOf_sub (l : List Int) (a b : Nat) : (strOf l).extract a b = strOf ((l.drop a).take (b - a)) := by
  unfold strOf
  apply ByteArray.ext
  simp [ByteArray.data_extract, List.map_take, List.map_drop]
set_option maxRecDepth 100000 in
set_option maxHeartbeats 800000 in
theorem sized_ok (w : World) (l : List Int) (n : Nat) (hl : l.length ≤ 1048576) (hn : n ≤ 1048576) :
    Calls Try.prog 139 #[.string (strOf l), .int .i64 n] w fun e w' => e = .returned (.string (strOf (sizedF l n))) ∧ Kp NoB w w' := by
  have hs := strOf_size l
  by_cases h : n ≤ l.length
  · have hS : Hid (sizedF l n = l.take n) := Lib.hid (by unfold sizedF; rw [if_pos h])
    have h' : (n : Int) ≤ (l.length : Int) := by omega
    go_enter Try.func139, Try.ntmps139
    go_wp2_with fail
    go_ret
    rw [hS.out]
    exact ⟨by show Ending.returned (.string ((strOf l).extract 0 n)) = _; rw [strOf_sub, List.drop_zero, Nat.sub_zero], Kp.refl NoB w⟩
  · have hS : Hid (sizedF l n = l ++ zeros (n - l.length)) := Lib.hid (by unfold sizedF zeros; rw [if_neg h])
    have h' : ¬ (n : Int) ≤ (l.length : Int) := by omega
    have hw : IntKind.i64.wrap ((n : Int) - (l.length : Int)) = ((n - l.length : Nat) : Int) := by rw [IntKind.wrap_i64]; omega
    have hz := strOf_size (zeros (n - l.length))
    have hz2 : (zeros (n - l.length)).length = n - l.length := by simp [zeros]
    rw [hz2] at hz
    clear hz2
    go_enter Try.func139, Try.ntmps139
    go_wp2_with (go_at_call 161; go_must (refine (zeros_ok w (n - l.length) (by omega)).mono ?_); rintro e w2 ⟨rfl, hk⟩; have HK := Lib.hid hk; clear hk)
    go_ret
    rw [hS.out]
    exact ⟨by rw [strOf_app]; rfl, HK.out⟩
end Go.Proofs.Ytegcbdfilkecpaa
/- The journal: pages laid aside; no condition but on the texts' lengths and the counts. -/
namespace Go.Proofs.Ytegcbdfilkecpaa
open Go.RowKit

/-- pages laid aside, from the k-th record on -/
def aslR : Nat → List Pg → Pl → Pl × Int
  | _, [], p => (p.sync nmJn, p.syncE)
  | k, x :: r, p => if 1048576 < 64 + 320 * (k : Int) + 320 then (p, 5) else
      if p.writeE nmJn (64 + 320 * (k : Int)) (recB x) = 0 then aslR (k + 1) r (p.write nmJn (64 + 320 * (k : Int)) (recB x)) else (p.write nmJn (64 + 320 * (k : Int)) (recB x), p.writeE nmJn (64 + 320 * (k : Int)) (recB x))
theorem aslR_cons (k : Nat) (x : Pg) (r : List Pg) (p : Pl) : aslR k (x :: r) p = if 1048576 < 64 + 320 * (k : Int) + 320 then (p, 5) else
      if p.writeE nmJn (64 + 320 * (k : Int)) (recB x) = 0 then aslR (k + 1) r (p.write nmJn (64 + 320 * (k : Int)) (recB x)) else (p.write nmJn (64 + 320 * (k : Int)) (recB x), p.writeE nmJn (64 + 320 * (k : Int)) (recB x)) := rfl
theorem aslR_nil (k : Nat) (p : Pl) : aslR k [] p = (p.sync nmJn, p.syncE) := rfl
theorem sm_aslR (l : List Pg) : ∀ (k : Nat) {p : Pl} {m M : Nat}, M = m + 20000 * (l.length + 1) → p.sm M → (aslR k l p).1.sm m := by
  induction l with
  | nil =>
    intro k p m M hM h
    rw [aslR_nil]
    rw [List.length_nil] at hM
    exact sm_sync _ (sm_mono h (by omega))
  | cons x r ih =>
    intro k p m M hM h
    rw [List.length_cons] at hM
    obtain ⟨M2, hM2⟩ : ∃ M2, M2 = m + 20000 * (r.length + 1) := ⟨_, rfl⟩
    have h1 : (p.write nmJn (64 + 320 * (k : Int)) (recB x)).sm M2 := sm_write _ _ _ (sm_mono h (by omega))
    rw [aslR_cons]
    generalize 64 + 320 * (k : Int) = a at h1 ⊢
    generalize p.write nmJn a (recB x) = q at h1 ⊢
    split
    · exact sm_mono h (by omega)
    · split
      · exact ih (k + 1) hM2 h1
      · exact sm_mono h1 (by omega)
/-- the first i bytes of a record are there -/
def upR (n : Int) (i : Nat) : List Int := (four n).take i ++ zeros (320 - i)
theorem upR_len (n : Int) (i : Nat) (hi : i ≤ 4) : (upR n i).length = 320 := by
  unfold upR
  simp [zeros, four]
  omega
theorem upR_set (n : Int) (i : Nat) (hi : i < 4) : (upR n i).set i (byteK n i) = upR n (i + 1) := by
  rcases (show i = 0 ∨ i = 1 ∨ i = 2 ∨ i = 3 by omega) with rfl | rfl | rfl | rfl <;> rfl
theorem upR_at (n : Int) (i : Nat) (hi : i < 4) : (upR n i)[i]? = some 0 := by
  rcases (show i = 0 ∨ i = 1 ∨ i = 2 ∨ i = 3 by omega) with rfl | rfl | rfl | rfl <;> rfl
theorem upR_all (n : Int) : upR n 4 = (four n ++ zeros 60) ++ zeros 256 := by
  unfold upR zeros
  rw [List.append_assoc, List.replicate_append_replicate]
  rfl
/-- in the midst of a record -/
structure LyS (wr : World) (x : Pg) (i : Nat) (W : World) : Prop where
  kp : Kp NoB wr W
  b1 : Blk W wr.heap.size 113 (pgA x)
  b2 : Blk W (wr.heap.size + 1) 5 (bytesV (upR x.n i))
theorem LyS.set_ {wr : World} {x : Pg} {i : Nat} {W : World} (h : LyS wr x i W) (hi : i < 4) : LyS wr x (i + 1) (W.setCell ⟨wr.heap.size + 1, i, none⟩ (.int .u8 (byteK x.n i))) := by
  refine ⟨h.kp.setCell (p := ⟨wr.heap.size + 1, i, none⟩) (.inl (by show _ ≤ wr.heap.size + 1; omega)) _, h.b1.far (p := ⟨wr.heap.size + 1, i, none⟩) (by simp) _, ?_⟩
  have := h.b2.set_ i (.int .u8 (byteK x.n i))
  rwa [bytesV_setJ, upR_set _ _ hi] at this
set_option maxRecDepth 100000 in
theorem LyS.copy {wr : World} {x : Pg} {W : World} (h : LyS wr x 4 W) (hx : PgOk x) : Kp NoB wr (W.setCells (wr.heap.size + 1) 64 (x.b.map (Value.int .u8))) ∧ Blk (W.setCells (wr.heap.size + 1) 64 (x.b.map (Value.int .u8))) (wr.heap.size + 1) 5 (bytesV (recB x)) := by
  refine ⟨Kp.setCells (.inl (by omega)) _ _ _ h.kp, ?_⟩
  have b := h.b2
  rw [upR_all] at b
  have := Blk.bytes (la := four x.n ++ zeros 60) (lb := zeros 256) (ld := []) (lx := x.b) (by rw [List.append_nil]; exact b) 64 (by simp [four, zeros]) (by rw [hx.len]; simp [zeros])
  rw [List.append_nil] at this
  exact this
theorem make320 (W : World) : (Instr.makeSlice 42 (.int .i64 320) (.int .i64 320)).run Try.prog W = .ok (.slice (some ⟨W.heap.size, 0, none⟩) 320 320) (W.alloc (.cells (bytesV (zeros 320)) 5)) := by
  have h := run_make_row' (P := Try.prog) 42 5 (.int .u8 0) 1 Try.underlying42 infoU8z rfl .i64 .i64 320 (by omega) (by omega) W
  rw [made_zeros] at h
  exact h
theorem pg_cells {w : World} {g : Nat} {t : TypeId} {x : Pg} (h : Blk w g t (pgA x)) (hx : PgOk x) : ∀ j v, (x.b.map (Value.int .u8))[j]? = some v → w.cell? ((⟨g, 1, none⟩ : Addr).add j) = some v := by
  intro j v hj
  rw [add_mk, h.cell]
  unfold pgA pgL
  rw [List.getElem?_toArray, Nat.add_comm 1 j, List.getElem?_cons_succ]
  exact hj
theorem copy_exec {w w' : World} {v : Value} {u1 u2 : Value} (h : (Builtin.copy_ #[42, 42] 3 #[u1, u2]).run Try.prog w = .ok v w') (ev : Operand → Value) {x y : Operand} {ds : Option Tmp} {ps : String} {af : Array Edge} {g : Option (Nat × Bool)} (hx : ev x = u1) (hy : ev y = u2) :
    (execOp ev ⟨ds, .call { callee := .builtin .copy, args := #[x, y], argTypes := #[42, 42] }, 3, ps, af, g⟩).run Try.prog w = .ok (.value v) w' := by
  simp only [execOp, resolve, invoke, builtin, Sem.run_bind, Sem.run_pure, Result.andThen_ok, List.map_toArray, List.map_cons, List.map_nil, hx, hy, h]
theorem LyS.drew {wr : World} {x : Pg} {i : Nat} {W : World} (h : LyS wr x i W) : LyS wr x i W.drew := ⟨h.kp.drew, h.b1, h.b2⟩
theorem four_rng (n : Int) : ∀ y ∈ four n, 0 ≤ y ∧ y < 256 := by
  intro y hy
  unfold four at hy
  simp only [List.mem_cons, List.not_mem_nil, or_false] at hy
  rcases hy with h | h | h | h <;> omega
theorem rec_rng {x : Pg} (hx : PgOk x) : ∀ y ∈ recB x, 0 ≤ y ∧ y < 256 := by
  intro y hy
  unfold recB at hy
  rcases List.mem_append.1 hy with h | h
  · rcases List.mem_append.1 h with h | h
    · exact four_rng _ y h
    · exact zeros_rng _ y h
  · exact hx.rng y h
section
variable {S : Nat → Prop} {W0 w : World} {db : Nat} {p : Pl}
attribute [local go_sem ↓] loadPg storePg allocPg load26 store26 conv64
attribute [local go_sem] size_setCells
def LaRel (S : Nat → Prop) (w1 : World) (db : Nat) (p : Pl) (l : List Pg) (v : Value) (wr : World) : Prop :=
  ∃ (k : Nat) (q : Pl), v = .int .i64 (k : Int) ∧ k ≤ l.length ∧ aslR 0 l p = aslR k (l.drop k) q ∧ q.sm (20000 * (l.length - k + 1)) ∧ Dq S w1 wr db q
set_option maxRecDepth 100000 in
set_option maxHeartbeats 1600000 in
theorem jlay_q (h : Dq S w w db p) (A : Option Addr) (n cap : Nat) (l : List Pg) (hl : PgsAt w A n l) (hA : Apart S A n) (hok : PgsOk l) (hm : p.sm (20000 * (n + 1))) (hnn : n < 1099511627776) :
    Calls Try.prog 63 #[.agg #[ptrV db], .slice A n cap] w fun e w' => e = .returned (.int .i64 (aslR 0 l p).2) ∧ Dq S w w' db (aslR 0 l p).1 := by
  have H := Lib.hid h
  have HM := Lib.hid hm
  have HL := Lib.hid hl
  have HA := Lib.hid hA
  have HOK := Lib.hid hok
  have HLN := Lib.hid hl.len
  have hkb : Kp NoB w (w.alloc (.cells #[ptrV db] 98)) := (Kp.refl _ _).alloc _
  have hbd : Blk (w.alloc (.cells #[ptrV db] 98)) w.heap.size 98 #[ptrV db] := Blk.new _ _ _
  obtain ⟨w1, hw1⟩ : ∃ w1, w.alloc (.cells #[ptrV db] 98) = w1 := ⟨_, rfl⟩
  have hs1 : w1.heap.size = w.heap.size + 1 := by rw [← hw1]; simp
  rw [hw1] at hkb hbd
  have HKB := Lib.hid hkb
  have HBD := Lib.hid hbd
  have HS1 := Lib.hid hs1
  clear h hm hl hA hok hkb hbd hs1
  unfold ptrV at hw1 ⊢
  go_enter Try.func63, Try.ntmps63
  go_wp2_with fail
  clear hw1
  go_loopw [13] (fun v wr => LaRel S w1 db p l v wr) (fun v _ => n - (intOf v).toNat)
  case atStart => exact ⟨0, p, rfl, Nat.zero_le _, rfl, sm_mono HM.out (by rw [HLN.out]; omega), H.out.base1 HKB.out⟩
  case round =>
    obtain ⟨wq, rfl⟩ : ∃ wq, wq = wr := ⟨_, rfl⟩
    obtain ⟨k, q, rfl, hk, hr0, hqm, hq⟩ := hrel
    have HQ := Lib.hid hq
    have HR0 := Lib.hid hr0
    have HQM := Lib.hid hqm
    have hKl := HL.out.keep HKB.out
    have hlr : PgsAt wq A n l := Rows.keepS hKl hq.kp (fun g o e hn => HA.out g o e hn)
    have cd : wq.cell? ⟨w.heap.size, 0, none⟩ = some (.pointer (some ⟨db, 0, none⟩)) := by
      rw [hq.kp.cell HBD.out.lt (fun q => by have := H.out.lt _ q; omega), HBD.out.cell]; rfl
    by_cases hlt : k < n
    · have hkk : (k : Int) < (n : Int) := by omega
      obtain ⟨g, o, rfl, hg, t1, r1⟩ := hlr.at_ k hlt
      obtain ⟨x, hx⟩ : ∃ x, l[k]? = some x := ⟨_, List.getElem?_eq_getElem (by rw [HLN.out]; exact hlt)⟩
      have hxe : l[k]'(by rw [HLN.out]; exact hlt) = x := (List.getElem?_eq_some_iff.1 hx).2
      rw [hxe] at r1
      have hxm : x ∈ l := List.mem_of_getElem? hx
      have hxo := HOK.out.ok x hxm
      have hxn := HOK.out.n x hxm
      have hdr : l.drop k = x :: l.drop (k + 1) := by rw [← hxe]; exact List.drop_eq_getElem_cons (by rw [HLN.out]; exact hlt)
      have HDR := Lib.hid hdr
      have hb := Blk.new wq 113 (pgA ⟨0, zeros 256⟩)
      have hb2 := hb.whole (pgA x) (by rw [pgA_size hxo]; rfl)
      have t2 := hb.thereAll 257 rfl
      have o1 := pgA_ones x
      have s1 := pgA_size hxo
      have hk3 : Kp NoB wq ((wq.alloc (.cells (pgA ⟨0, zeros 256⟩) 113)).setCells wq.heap.size 0 (pgA x).toList) := Kp.setCells (.inl (Nat.le_refl _)) _ _ _ ((Kp.refl _ _).alloc _)
      have hls : LyS wq x 0 (((wq.alloc (.cells (pgA ⟨0, zeros 256⟩) 113)).setCells wq.heap.size 0 (pgA x).toList).alloc (.cells (bytesV (zeros 320)) 5)) :=
        ⟨hk3.alloc _, hb2.alloc _, Blk.newAt _ _ _ _ (by rw [size_setCells]; simp)⟩
      have hmk := fun W => make320 W
      have HLS := Lib.hid hls
      have HXO := Lib.hid hxo
      have HXN := Lib.hid hxn
      have HPG : Hid (∀ W, LyS wq x 4 W → byAt W wq.heap.size 1 256 ∧ byRd W wq.heap.size 1 256 = x.b) := Lib.hid (fun W hW => pg_by hW.b1 HXO.out)
      have HWR := Lib.hid cd
      obtain ⟨RR, hRR⟩ : ∃ RR, pgA x = RR := ⟨_, rfl⟩
      rw [hRR] at r1 o1 s1 HLS
      clear hRR hk3 hxo hxn hq hr0 hqm hlr hKl hb hb2 hx hxe hxm cd hls hdr
      go_wp2_with fail
      refine forget (p := fun wx => Code.wp _ _ _ _ wx) (LyS wq x 0) HLS.out ?_
      intro W hW
      have HW := Lib.hid hW
      clear hW HLS t1 r1 t2
      go_loopw [19] (fun v W => ∃ i : Nat, v = .int .i64 (i : Int) ∧ i ≤ 4 ∧ LyS wq x i W) (fun v _ => 4 - (intOf v).toNat)
      case atStart => exact ⟨0, rfl, by omega, HW.out⟩
      case round =>
        obtain ⟨i, rfl, hi, hs⟩ := hrel
        have HS := Lib.hid hs
        by_cases hi4 : i < 4
        · have hii : (i : Int) < 4 := by omega
          have c0 : wr.cell? ⟨wq.heap.size, 0, none⟩ = some (.int .i64 x.n) := hs.b1.cell 0
          have c2 : wr.cell? ⟨wq.heap.size + 1, i, none⟩ = some (.int .u8 0) := by
            rw [hs.b2.cell]
            unfold bytesV
            rw [List.getElem?_toArray, List.getElem?_map, upR_at _ _ hi4]
            rfl
          have z2 : wr.frozen? ⟨wq.heap.size + 1, i, none⟩ = false := hs.b2.frozen i
          have hwu : IntKind.u32.wrap x.n = x.n := by have := HXN.out; rw [IntKind.wrap_u32]; omega
          have FIN : Hid (∀ W' (y : Int) (m : Nat), W' = wr.setCell ⟨wq.heap.size + 1, i, none⟩ (.int .u8 y) → y = byteK x.n i → m = i + 1 → LyS wq x m W') := Lib.hid (by
            rintro W' y m rfl rfl rfl
            exact HS.out.set_ hi4)
          obtain ⟨xn, hxn⟩ : ∃ xn, x.n = xn := ⟨_, rfl⟩
          have HXN3 := Lib.hid hxn
          rw [hxn] at c0 hwu
          clear hs hxn
          rcases (show i = 0 ∨ i = 1 ∨ i = 2 ∨ i = 3 by omega) with rfl | rfl | rfl | rfl
          · go_wp2_with fail
            exact ⟨⟨1, rfl, by omega, FIN.out _ _ _ rfl (by rw [HXN3.out]; rfl) rfl⟩, by simp [intOf]⟩
          · go_wp2_with fail
            exact ⟨⟨2, rfl, by omega, FIN.out _ _ _ rfl (by rw [HXN3.out]; rfl) rfl⟩, by simp [intOf]⟩
          · go_wp2_with fail
            exact ⟨⟨3, rfl, by omega, FIN.out _ _ _ rfl (by rw [HXN3.out]; rfl) rfl⟩, by simp [intOf]⟩
          · go_wp2_with fail
            exact ⟨⟨4, rfl, by omega, FIN.out _ _ _ rfl (by rw [HXN3.out]; rfl) rfl⟩, by simp [intOf]⟩
        · have hii : ¬ (i : Int) < 4 := by omega
          obtain rfl : i = 4 := by omega
          have hl256 := HXO.out.len
          clear hs
          go_upto_region 10 with fail
          refine wp_region_held_drew (S := fun _ => True) (by kernel_rfl) trivial (fun hHeld => ?_)
          have hs := HS.out.drew
          generalize wr.drew = w4 at hs ⊢
          have ht5 : w4.there (wq.heap.size + 1) 64 (x.b.map (Value.int .u8)).length := by
            have := hs.b2
            refine this.there ?_
            rw [bytesV_size, upR_len _ _ (by omega), List.length_map, hl256]
            omega
          have hcp := run_copy_cells (P := Try.prog) w4 42 42 3 5 (wq.heap.size + 1) 64 256 256 ⟨wq.heap.size, 1, none⟩ 256 256 (x.b.map (Value.int .u8)) Try.underlying42 infoU8 (by rw [List.length_map, hl256]; rfl) (pg_cells hs.b1 HXO.out) (fun j hj => (ht5 j hj).1) (fun j hj => (ht5 j hj).2) (u8_one x.b)
          obtain ⟨hk5, hb5⟩ := hs.copy HXO.out
          refine wpAnyH_takeL (i := 0) (v := (.slice (some ⟨wq.heap.size + 1, 0, none⟩) 320 320)) rfl (by kernel_rfl) (by kernel_rfl) (by kernel_rfl) (fun _ _ _ h => h) (Or.inl ⟨by rfl, fun w' hq => by go_simp⟩) trivial ?_
          simp only [Act.put, List.setIfInBounds_toArray, List.set_cons_zero, List.set_cons_succ]
          refine wpAnyH_takeL (i := 1) (v := (.slice (some ⟨wq.heap.size + 1, 64, none⟩) 256 256)) rfl (by kernel_rfl) (by kernel_rfl) (by kernel_rfl) (fun _ _ _ h => h) (Or.inl ⟨by rfl, fun w' hq => by go_simp⟩) trivial ?_
          simp only [Act.put, List.setIfInBounds_toArray, List.set_cons_zero, List.set_cons_succ]
          refine wpAnyH_takeL (i := 2) (v := (.pointer (some ⟨wq.heap.size, 1, none⟩))) rfl (by kernel_rfl) (by kernel_rfl) (by kernel_rfl) (fun _ _ _ h => h) (Or.inl ⟨by rfl, fun w' hq => by go_simp⟩) trivial ?_
          simp only [Act.put, List.setIfInBounds_toArray, List.set_cons_zero, List.set_cons_succ]
          refine wpAnyH_takeL (i := 3) (v := (.slice (some ⟨wq.heap.size, 1, none⟩) 256 256)) rfl (by kernel_rfl) (by kernel_rfl) (by kernel_rfl) (fun _ _ _ h => h) (Or.inl ⟨by rfl, fun w' hq => by go_simp⟩) trivial ?_
          simp only [Act.put, List.setIfInBounds_toArray, List.set_cons_zero, List.set_cons_succ]
          refine wpAnyH_ready (rs := [4]) (by kernel_rfl) (by simp) ?_
          refine AllReadyH.valR (fun W' => W' = w4.setCells (wq.heap.size + 1) 64 (x.b.map (Value.int .u8))) rfl (by rfl) _ _ (copy_exec hcp _ rfl rfl) (fun _ _ => trivial) rfl ?_ AllReadyH.nil
          rintro _ rfl
          simp only [Act.put, List.setIfInBounds_toArray, List.set_cons_zero, List.set_cons_succ]
          refine wpAnyH_done (by kernel_rfl) ?_ _
          have hG5 : wq.heap.size + 1 < (w4.setCells (wq.heap.size + 1) 64 (x.b.map (Value.int .u8))).heap.size := hb5.lt
          generalize w4.setCells (wq.heap.size + 1) 64 (x.b.map (Value.int .u8)) = w5 at hk5 hb5 hG5 ⊢
          have hrl : (recB x).length = 320 := by unfold recB; simp [four, zeros, hl256]
          have hby := hb5.byAt 0 320 (by rw [hrl]; omega)
          have hrd := hb5.byRd 0 320 (by rw [hrl]; omega)
          rw [List.drop_zero, List.take_of_length_le (by rw [hrl]; omega)] at hrd
          have hcd := (hk5.cell (block_lt_of_cell HWR.out) (fun z => z)).trans HWR.out
          have hw1 : IntKind.i64.wrap ((k : Int) * 320) = (k : Int) * 320 := by rw [IntKind.wrap_i64]; omega
          have hw2 : IntKind.i64.wrap (64 + (k : Int) * 320) = 64 + (k : Int) * 320 := by rw [IntKind.wrap_i64]; omega
          have hw3 : IntKind.i64.wrap (64 + (k : Int) * 320 + 320) = 64 + (k : Int) * 320 + 320 := by rw [IntKind.wrap_i64]; omega
          have HK5 := Lib.hid hk5
          have HB5 := Lib.hid hb5
          clear hs hk5 hb5 ht5 hcp hHeld
          by_cases hbig : 1048576 < 64 + (k : Int) * 320 + 320
          · have HBG := Lib.hid hbig
            go_wp2_with fail
            go_ret
            have e5 : aslR 0 l p = (q, 5) := by
              rw [HR0.out, HDR.out, aslR_cons, if_pos (by have := HBG.out; omega)]
            rw [e5]
            exact ⟨rfl, Dq.up (H.out.base1 HKB.out) HKB.out H.out.lt (HQ.out.keep HK5.out)⟩
          · have HBG := Lib.hid hbig
            obtain ⟨S2, hq2, hS2⟩ := HQ.out.base
            have HS2 := Lib.hid hS2
            have H3 := Lib.hid (hq2.base1 HK5.out)
            have HSZ : Hid ((strOf (recB x)).size ≤ maxLen) := Lib.hid (by rw [strOf_size, hrl]; decide)
            have HSI : Hid (strI (strOf (recB x)) = recB x) := Lib.hid (strI_strOf _ (rec_rng HXO.out))
            have HM2 := Lib.hid (sm_mono HQM.out (show 20000 ≤ 20000 * (l.length - k + 1) by omega))
            obtain ⟨rb, hrb⟩ : ∃ rb, recB x = rb := ⟨_, rfl⟩
            have HRB := Lib.hid hrb
            rw [hrb] at hrd HSZ HSI
            clear hq2 hS2 hrb hrl hl256 hG5
            go_wp2_with fail
            refine (show Calls _ _ #[ptrV db, .string nmJn, .int .i64 (64 + (k : Int) * 320), .string (strOf rb)] _ _ from write_q H3.out nmJn (64 + (k : Int) * 320) (strOf rb) nmJn_le HSZ.out HM2.out).mono ?_
            rintro e w6 ⟨rfl, h6⟩
            rw [HSI.out] at h6
            rw [HSI.out]
            have h61 := Dq.tr (w0 := w1) h6 (HQ.out.kp.trans HK5.out (fun _ _ z => z.elim)) HS2.out HQ.out.lt
            have H61 := Lib.hid h61
            have HM3 := Lib.hid (sm_write (p := q) (k := 20000 * (l.length - (k + 1) + 1)) nmJn (64 + (k : Int) * 320) rb (sm_mono HQM.out (by have := HLN.out; omega)))
            obtain ⟨er, her⟩ : ∃ er, q.writeE nmJn (64 + (k : Int) * 320) rb = er := ⟨_, rfl⟩
            have e6 : aslR 0 l p = if er = 0 then aslR (k + 1) (l.drop (k + 1)) (q.write nmJn (64 + (k : Int) * 320) rb) else (q.write nmJn (64 + (k : Int) * 320) rb, er) := by
              rw [HR0.out, HDR.out, aslR_cons, if_neg (by have := HBG.out; omega), HRB.out, show 64 + 320 * (k : Int) = 64 + (k : Int) * 320 by omega, her]
            rw [her]
            have HE6 := Lib.hid e6
            clear her h61 h6 e6 hby hrd hcd
            by_cases h0 : er = 0
            · subst h0
              go_wp2_with fail
              go_roundw
              case rel => exact ⟨k + 1, _, by go_num, by have := HLN.out; omega, by rw [HE6.out]; simp, HM3.out, H61.out⟩
              case measure => simp [intOf]; omega
            · have hb0 : (er == 0) = false := by simpa using h0
              have hb1 : (er != 0) = true := by simpa using h0
              have H0 := Lib.hid h0
              go_wp2_with fail
              go_ret
              rw [HE6.out, if_neg H0.out]
              exact ⟨rfl, Dq.up (H.out.base1 HKB.out) HKB.out H.out.lt H61.out⟩
    · have hkk : ¬ (k : Int) < (n : Int) := by omega
      obtain rfl : k = n := by have := HLN.out; omega
      have hd0 : l.drop k = [] := List.drop_eq_nil_of_le (by rw [HLN.out]; omega)
      have e6 : aslR 0 l p = (q.sync nmJn, q.syncE) := by rw [HR0.out, hd0, aslR_nil]
      have HE6 := Lib.hid e6
      obtain ⟨S2, hq2, hS2⟩ := HQ.out.base
      have HQ2 := Lib.hid hq2
      have HS2 := Lib.hid hS2
      have HM2 := Lib.hid (sm_mono HQM.out (show 20000 ≤ 20000 * (l.length - k + 1) by omega))
      clear hq hr0 hqm hKl hlr hq2 hS2 hd0 e6
      go_wp2_with fail
      refine (show Calls _ _ #[.agg #[ptrV db]] _ _ from jsync_q HQ2.out HM2.out).mono ?_
      rintro e w6 ⟨rfl, h6⟩
      have H61 := Lib.hid (Dq.tr (w0 := w1) h6 HQ.out.kp HS2.out HQ.out.lt)
      clear h6
      go_wp2_with fail
      go_ret
      rw [HE6.out]
      exact ⟨rfl, Dq.up (H.out.base1 HKB.out) HKB.out H.out.lt H61.out⟩
end
end Go.Proofs.Ytegcbdfilkecpaa
