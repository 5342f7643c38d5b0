/- Texts of this proof, one behind the other: lemmas and contracts; each says its own conditions. -/
import Derived.Test.YtoeldmkbmnkhkaaGreatP2
import Derived.Test.YtoeldmkbmnkhkaaGreatP5
import Derived.Test.YtoeldmkbmnkhkaaGreatP6
/- The journal: the records of a hot journal; no condition but on the texts' lengths and the counts. -/
namespace Go.Proofs.YtoeldmkbmnkhkaaGreat
open Go.RowKit

/-- the pages with their cells one behind the other -/
def pgsCells (l : List Pg) : List Value := l.flatMap pgL
def OwnPgs (w : World) (n0 : Nat) (v : Value) (l : List Pg) : Prop := w.ownsRow n0 208 257 v l.length (pgsCells l) ∧ ∀ x ∈ l, PgOk x
structure W4Ok (v : W4) : Prop where
  a : 0 ≤ v.a ∧ v.a < 4294967296
  b : 0 ≤ v.b ∧ v.b < 4294967296
  c : 0 ≤ v.c ∧ v.c < 4294967296
  d : 0 ≤ v.d ∧ v.d < 4294967296
/-- what records answers -/
def RcPost (S : Nat → Prop) (w : World) (db : Nat) (p : Pl) (r : Option (List Pg)) (e : Ending) (w' : World) : Prop :=
  Kp NoB w w' ∧ ((r = none ∧ e = .returned (.tuple #[.slice none 0 0, .bool false])) ∨ ∃ l v, r = some l ∧ e = .returned (.tuple #[v, .bool true]) ∧ OwnPgs w' w.heap.size v l)
def RcRel (w1 : World) (p : Pl) (vb : Int) (N : Nat) (R : Option (List Pg)) (v6 v7 v37 : Value) (wr : World) : Prop :=
  ∃ (k : Nat) (last : Int) (acc : List Pg), v37 = .int .i64 (k : Int) ∧ v7 = .int .i64 last ∧ k ≤ N ∧ acc.length = k ∧ R = (recsPg (p.seen nmJn) vb (N - k) k last).map (acc ++ ·) ∧ OwnPgs wr w1.heap.size v6 acc ∧ Kp NoB w1 wr
theorem recsPg_succ (l : List Int) (top : Int) (i k : Nat) (last : Int) : recsPg l top (i + 1) k last = if ((l.drop (64 + 320 * k)).take 320).length < 320 then none else if (((l.drop (64 + 320 * k)).take 320).drop 4).take 60 = zeros 60 ∧ last < num ((l.drop (64 + 320 * k)).take 320) 0 ∧ num ((l.drop (64 + 320 * k)).take 320) 0 ≤ top then
      (recsPg l top i (k + 1) (num ((l.drop (64 + 320 * k)).take 320) 0)).map fun r => ⟨num ((l.drop (64 + 320 * k)).take 320) 0, ((l.drop (64 + 320 * k)).take 320).drop 64⟩ :: r
    else none := rfl
theorem recs_step (jl : List Int) (vb : Int) (N k : Nat) (last : Int) (hk : k < N) :
    ((((jl.drop (64 + 320 * k)).take 320).length < 320 → recsPg jl vb (N - k) k last = none) ∧
    (¬ ((jl.drop (64 + 320 * k)).take 320).length < 320 → (((((jl.drop (64 + 320 * k)).take 320).drop 4).take 60 = zeros 60 ∧ last < num ((jl.drop (64 + 320 * k)).take 320) 0 ∧ num ((jl.drop (64 + 320 * k)).take 320) 0 ≤ vb) →
      recsPg jl vb (N - k) k last = (recsPg jl vb (N - (k + 1)) (k + 1) (num ((jl.drop (64 + 320 * k)).take 320) 0)).map fun r => ⟨num ((jl.drop (64 + 320 * k)).take 320) 0, ((jl.drop (64 + 320 * k)).take 320).drop 64⟩ :: r) ∧
      (¬ ((((jl.drop (64 + 320 * k)).take 320).drop 4).take 60 = zeros 60 ∧ last < num ((jl.drop (64 + 320 * k)).take 320) 0 ∧ num ((jl.drop (64 + 320 * k)).take 320) 0 ≤ vb) → recsPg jl vb (N - k) k last = none))) := by
  obtain ⟨m, hm⟩ : ∃ m, N - k = m + 1 := ⟨N - k - 1, by omega⟩
  rw [hm, show N - (k + 1) = m by omega, recsPg_succ]
  generalize (jl.drop (64 + 320 * k)).take 320 = b
  refine ⟨fun h => by rw [if_pos h], fun h => ⟨fun q => by rw [if_neg h, if_pos q], fun q => by rw [if_neg h, if_neg q]⟩⟩
theorem pg_fill {w : World} {g : Nat} {t : TypeId} {x : Int} {pb : List Int} (h : Blk w g t (pgA ⟨x, zeros 256⟩)) (hl : pb.length = 256) : Blk (w.setCells g 1 (pb.map (Value.int .u8))) g t (pgA ⟨x, pb⟩) := by
  have := Blk.cellsL (xa := [.int .i64 x]) (xb := (zeros 256).map (Value.int .u8)) (xd := []) (xs := pb.map (Value.int .u8)) (by rw [List.append_nil]; exact h) 1 rfl (by rw [List.length_map, List.length_map, hl]; simp only [zeros, List.length_replicate])
  rw [List.append_nil] at this
  exact this
theorem copyS_exec {w w' : World} {v : Value} {u1 u2 : Value} (h : (Builtin.copy_ #[50, 9] 3 #[u1, u2]).run Tryz.prog w = .ok v w') (ev : Operand → Value) {x y : Operand} {ds : Option Tmp} {ps : String} {af : Array Edge} {g : Option (Nat × Bool)} (hx : ev x = u1) (hy : ev y = u2) :
    (execOp ev ⟨ds, .call { callee := .builtin .copy, args := #[x, y], argTypes := #[50, 9] }, 3, ps, af, g⟩).run Tryz.prog w = .ok (.value v) w' := by
  simp only [execOp, resolve, invoke, builtin, Sem.run_bind, Sem.run_pure, Result.andThen_ok, List.map_toArray, List.map_cons, List.map_nil, hx, hy, h]
theorem pg_new (w : World) (x : Pg) : ∀ j u, (pgL x)[j]? = some u → (w.alloc (.cells (pgA x) 208)).cell? ((⟨w.heap.size, 0, none⟩ : Addr).add j) = some u := by
  intro j u hj
  rw [add_mk, Nat.zero_add, (Blk.new w 208 (pgA x)).cell]
  unfold pgA
  rw [List.getElem?_toArray]
  exact hj
theorem idxStr {s : ByteArray} {b : List Int} (hs : strOf b = s) (hr : ∀ y ∈ b, 0 ≤ y ∧ y < 256) {j : Nat} (hj : j < b.length) (W : World) : (Instr.index 9 (.string s) (.int .i64 (j : Int))).run Tryz.prog W = .ok (.int .u8 (b.getD j 0)) W := by
  have hsz := strOf_size b
  rw [hs] at hsz
  rw [run_index_string W 9 s .i64 j Tryz.underlying9, dif_pos ⟨by omega, by omega⟩]
  congr 2
  have hsi := strI_strOf b hr
  rw [hs] at hsi
  have h1 : b.getD j 0 = (strI s).getD j 0 := by rw [hsi]
  rw [h1]
  unfold strI
  have h2 : j < s.data.toList.length := by
    have : s.data.toList.length = s.size := by rw [Array.length_toList]; rfl
    omega
  rw [List.getD_eq_getElem?_getD, List.getElem?_map, List.getElem?_eq_getElem h2]
  simp
  rfl
theorem or_sum (k : Nat) (hk : k ≤ 24) (a x : Int) (h0 : 0 ≤ a) (h1 : a < 4294967296) (h2 : 0 ≤ x) (h3 : x < (2 : Int) ^ k) : bits BinOp.or IntKind.i64 (a * (2 : Int) ^ k) x = a * (2 : Int) ^ k + x := by
  obtain ⟨m, rfl⟩ := Int.eq_ofNat_of_zero_le h0
  obtain ⟨n, rfl⟩ := Int.eq_ofNat_of_zero_le h2
  have hp : (2 : Int) ^ k = ((2 ^ k : Nat) : Int) := by rw [Int.natCast_pow]; rfl
  have hp24 : 2 ^ k ≤ 2 ^ 24 := Nat.pow_le_pow_right (by omega) hk
  have hpp : 0 < 2 ^ k := Nat.two_pow_pos k
  rw [hp] at h3 ⊢
  have hm : m < 4294967296 := by omega
  have hn : n < 2 ^ k := by omega
  have hb : m * 2 ^ k ≤ 4294967295 * 2 ^ 24 := Nat.mul_le_mul (by omega) hp24
  have e : bits BinOp.or IntKind.i64 ((m : Int) * ((2 ^ k : Nat) : Int)) n = IntKind.i64.wrap ((BitVec.ofInt 64 ((m : Int) * ((2 ^ k : Nat) : Int)) ||| BitVec.ofInt 64 n).toNat) := rfl
  have e1 : BitVec.ofInt 64 ((m : Int) * ((2 ^ k : Nat) : Int)) = BitVec.ofNat 64 (m * 2 ^ k) := by
    rw [← Int.natCast_mul]
    exact BitVec.ofInt_natCast _ _
  have e2 : BitVec.ofInt 64 (n : Int) = BitVec.ofNat 64 n := BitVec.ofInt_natCast _ _
  rw [e, e1, e2, BitVec.toNat_or, BitVec.toNat_ofNat, BitVec.toNat_ofNat, Nat.mod_eq_of_lt (by omega), Nat.mod_eq_of_lt (by omega)]
  have h := Nat.shiftLeft_add_eq_or_of_lt (i := k) (b := n) hn m
  rw [Nat.shiftLeft_eq] at h
  rw [h.symm, IntKind.wrap_i64, ← Int.natCast_mul]
  omega
theorem zz_next {z : List Int} {j : Nat} (h : ∀ i, i < j → z.getD i 0 = 0) (h2 : z.getD j 0 = 0) : ∀ i, i < j + 1 → z.getD i 0 = 0 := fun i hi => by
  rcases Nat.lt_or_ge i j with q | q
  · exact h i q
  · obtain rfl : i = j := by omega
    exact h2
theorem bytesOf (w : World) (z : List Int) (hz : ∀ y ∈ z, 0 ≤ y ∧ y < 256) : ∃ cap w', (convert 9 50 (.string (strOf z))).run Tryz.prog w = .ok (.slice (some ⟨w.heap.size, 0, none⟩) z.length cap) w' ∧ Kp NoB w w' ∧ w.heap.size < w'.heap.size ∧ ∀ j, j < z.length → w'.cell? ⟨w.heap.size, j, none⟩ = some (.int .u8 (z.getD j 0)) := by
  have h := run_bytes_of_string w 9 50 5 (strOf z) Tryz.underlying9 Tryz.underlying50 Tryz.underlying5
  rw [strOf_size] at h
  obtain ⟨cap, hcap⟩ : ∃ c, grownCap w z.length 0 5 = c := ⟨_, rfl⟩
  rw [hcap] at h
  obtain ⟨fz, hfz⟩ : ∃ fz, ((bytesRow (strOf z) cap).size, (bytesRow (strOf z) cap).size + 1) = fz := ⟨_, rfl⟩
  rw [hfz] at h
  refine ⟨_, _, h, (Kp.refl NoB w).drew.alloc _, lt_of_heap (heap_alloc_new w.drew _), fun j hj => ?_⟩
  have hjs : j < (strOf z).data.size := by have := strOf_size z; show j < (strOf z).size; omega
  have hrow := cell_of_row (w.drew.alloc (.cells (bytesRow (strOf z) cap) 5 fz)) w.heap.size j (bytesRow (strOf z) cap) 5 fz (heap_alloc_new w.drew _)
  rw [hrow, bytesRow_at _ _ j hjs]
  refine congrArg (fun y : Int => some (Value.int .u8 y)) ?_
  have hsi := strI_strOf z hz
  have h1 : z.getD j 0 = (strI (strOf z)).getD j 0 := by rw [hsi]
  rw [h1]
  unfold strI
  rw [List.getD_eq_getElem?_getD, List.getElem?_map, List.getElem?_eq_getElem (by simpa using hjs)]
  simp
section
variable {S : Nat → Prop} {W0 w : World} {db : Nat} {p : Pl}
attribute [local go_sem ↓] loadPg storePg allocPg exSlicePg
set_option maxRecDepth 100000 in
set_option maxHeartbeats 1600000 in
theorem records_q (h : Dq S w w db p) (hdn : p.down = false) (v : W4) (hv : W4Ok v) (ha : 1 ≤ v.a) :
    Calls Tryz.prog 111 #[.agg #[ptrV db], .agg (w4A v)] w (RcPost S w db p (recordsPg (p.seen nmJn) v)) := by
  have H := Lib.hid h
  have HD := Lib.hid hdn
  have HV := Lib.hid hv
  have HA := Lib.hid ha
  have hkb : Kp NoB w ((w.alloc (.cells #[ptrV db] 191)).alloc (.cells (w4A v) 193)) := ((Kp.refl _ _).alloc _).alloc _
  have hbd : Blk ((w.alloc (.cells #[ptrV db] 191)).alloc (.cells (w4A v) 193)) w.heap.size 191 #[ptrV db] := (Blk.new _ _ _).alloc _
  have hbw : Blk ((w.alloc (.cells #[ptrV db] 191)).alloc (.cells (w4A v) 193)) (w.heap.size + 1) 193 (w4A v) := Blk.newAt _ _ _ _ (by simp)
  obtain ⟨w1, hw1⟩ : ∃ w1, (w.alloc (.cells #[ptrV db] 191)).alloc (.cells (w4A v) 193) = w1 := ⟨_, rfl⟩
  have hs1 : w1.heap.size = w.heap.size + 1 + 1 := by rw [← hw1]; simp
  rw [hw1] at hkb hbd hbw
  have HKB := Lib.hid hkb
  have HBD := Lib.hid hbd
  have HBW := Lib.hid hbw
  have HS1 := Lib.hid hs1
  have c0 : w1.cell? ⟨w.heap.size + 1, 0, none⟩ = some (.int .u32 v.a) := hbw.cell 0
  have c1 : w1.cell? ⟨w.heap.size + 1, 1, none⟩ = some (.int .u32 v.b) := hbw.cell 1
  have c2 : w1.cell? ⟨w.heap.size + 1, 2, none⟩ = some (.int .u32 v.c) := hbw.cell 2
  have c3 : w1.cell? ⟨w.heap.size + 1, 3, none⟩ = some (.int .u32 v.d) := hbw.cell 3
  have hwa : IntKind.u32.wrap (v.a - 1) = v.a - 1 := by have := hv.a; rw [IntKind.wrap_u32]; omega
  have he : ∀ r, recordsPg (p.seen nmJn) v = r → Hid (recordsPg (p.seen nmJn) v = r) := fun r hr => Lib.hid hr
  obtain ⟨R, hR⟩ : ∃ R, recordsPg (p.seen nmJn) v = R := ⟨_, rfl⟩
  have HRR := Lib.hid hR
  rw [hR]
  have FB : Hid (4096 < v.a - 1 ∨ 4096 < v.b ∨ v.c ≠ 0 ∨ v.d ≠ 0 → RcPost S w db p R (.returned (.tuple #[.slice none 0 0, .bool false])) w1) := Lib.hid (fun hb => ⟨hkb, .inl ⟨by rw [← hR]; unfold recordsPg; rw [if_pos hb], rfl⟩⟩)
  clear h hdn hv ha hkb hbd hbw hs1 hR he
  obtain ⟨va, hva⟩ : ∃ va, v.a = va := ⟨_, rfl⟩
  obtain ⟨vb, hvb⟩ : ∃ vb, v.b = vb := ⟨_, rfl⟩
  obtain ⟨vc, hvc⟩ : ∃ vc, v.c = vc := ⟨_, rfl⟩
  obtain ⟨vd, hvd⟩ : ∃ vd, v.d = vd := ⟨_, rfl⟩
  rw [hva] at c0 hwa HA FB
  rw [hvb] at c1 FB
  rw [hvc] at c2 FB
  rw [hvd] at c3 FB
  have HVA := Lib.hid hva
  have HVB := Lib.hid hvb
  have HVC := Lib.hid hvc
  have HVD := Lib.hid hvd
  have hra := HV.out.a
  have hrb := HV.out.b
  rw [hva] at hra
  rw [hvb] at hrb
  clear hva hvb hvc hvd
  obtain ⟨j0, hj0, hy0, hy1, hy2⟩ := info_parts infoPgA
  have HJ0 := Lib.hid hj0
  have HY0 := Lib.hid hy0
  have HY1 := Lib.hid hy1
  have HY2 := Lib.hid hy2
  clear hj0 hy0 hy1 hy2
  unfold ptrV at hw1 ⊢
  by_cases hA : 4096 < va - 1
  · go_enter Tryz.func111, Tryz.ntmps111
    go_wp2_with fail
    go_ret2
    exact FB.out (.inl hA)
  · by_cases hB : 4096 < vb
    · go_enter Tryz.func111, Tryz.ntmps111
      go_wp2_with fail
      go_ret2
      exact FB.out (.inr (.inl hB))
    · by_cases hC : vc = 0
      · subst hC
        by_cases hD : vd = 0
        · subst hD
          go_enter Tryz.func111, Tryz.ntmps111
          obtain ⟨N, hN⟩ : ∃ N : Nat, va - 1 = N := ⟨(va - 1).toNat, by have := HA.out; omega⟩
          have HN := Lib.hid hN
          have hR0 : Hid (R = recsPg (p.seen nmJn) vb N 0 0) := Lib.hid (by
            rw [← HRR.out]
            unfold recordsPg
            rw [if_neg (by rw [HVA.out, HVB.out, HVC.out, HVD.out]; omega), HVA.out, HVB.out]
            rw [show (va - 1).toNat = N by omega])
          have hN4 : N ≤ 4096 := by omega
          clear hN
          go_wp2_with fail
          go_loopw [6, 7, 37] (fun v6 v7 v37 wr => RcRel w1 p vb N R v6 v7 v37 wr) (fun _ _ v _ => N - (intOf v).toNat)
          case atStart => exact ⟨0, 0, [], rfl, rfl, Nat.zero_le _, rfl, by rw [hR0.out]; simp, ⟨World.ownsRow_nil _ _ _ _, by simp⟩, Kp.refl _ _⟩
          case round =>
            obtain ⟨wq, rfl⟩ : ∃ wq, wq = wr := ⟨_, rfl⟩
            obtain ⟨k, last, acc, rfl, rfl, hk, hal, hre, how, hkp⟩ := hrel
            have HAL := Lib.hid hal
            clear hal
            have HRE := Lib.hid hre
            have HOW := Lib.hid how
            have HKP := Lib.hid hkp
            have HNN := HN.out
            have cd : wq.cell? ⟨w.heap.size, 0, none⟩ = some (.pointer (some ⟨db, 0, none⟩)) := by
              rw [hkp.cell HBD.out.lt (fun q => q), HBD.out.cell]; rfl
            have c1 : wq.cell? ⟨w.heap.size + 1, 1, none⟩ = some (.int .u32 vb) := by
              rw [hkp.cell HBW.out.lt (fun q => q)]; exact c1
            obtain ⟨A6, cap6, rfl⟩ := own_slice how.1
            by_cases hlt : k < N
            · have hkk : (k : Int) < va - 1 := by omega
              have hw1' : IntKind.i64.wrap ((k : Int) * 320) = (k : Int) * 320 := by rw [IntKind.wrap_i64]; omega
              have hw2' : IntKind.i64.wrap (64 + (k : Int) * 320) = 64 + (k : Int) * 320 := by rw [IntKind.wrap_i64]; omega
              have hr1 : (-9223372036854775808 : Int) ≤ 64 + (k : Int) * 320 ∧ 64 + (k : Int) * 320 ≤ 9223372036854775807 := by omega
              have hr2 : (-9223372036854775808 : Int) ≤ 320 ∧ (320 : Int) ≤ 9223372036854775807 := by omega
              have HR1 := Lib.hid hr1
              have HR2 := Lib.hid hr2
              clear hre how hkp hr1 hr2 HNN
              go_wp2_with fail
              refine (show Calls _ _ #[ptrV db, .string nmJn, .int .i64 (64 + (k : Int) * 320), .int .i64 320] _ _ from read_q ((H.out.keep HKB.out).keep HKP.out) nmJn (64 + (k : Int) * 320) 320 nmJn_le HR1.out HR2.out).mono ?_
              rintro e w2 ⟨rfl, hk2⟩
              have hkp2 := HKP.out.trans hk2 (fun _ _ q => q)
              have HKP2 := Lib.hid hkp2
              have HKQ := Lib.hid hk2
              have eE : p.readE (64 + (k : Int) * 320) 320 = 0 := by unfold Pl.readE; rw [HD.out, if_neg (by simp), if_neg (by omega)]
              have eR : p.read nmJn (64 + (k : Int) * 320) 320 = ((p.seen nmJn).drop (64 + 320 * k)).take 320 := by
                unfold Pl.read
                rw [eE, if_pos rfl]
                congr 2
                omega
              rw [eE, eR]
              have hrg : ∀ y ∈ ((p.seen nmJn).drop (64 + 320 * k)).take 320, 0 ≤ y ∧ y < 256 := fun y hy => H.out.seen_rng nmJn y (List.mem_of_mem_drop (List.mem_of_mem_take hy))
              have hle : (((p.seen nmJn).drop (64 + 320 * k)).take 320).length ≤ 320 := by simp; omega
              have hstep := recs_step (p.seen nmJn) vb N k last hlt
              obtain ⟨b, hb⟩ : ∃ b, ((p.seen nmJn).drop (64 + 320 * k)).take 320 = b := ⟨_, rfl⟩
              rw [hb] at hrg hle hstep ⊢
              have HST := Lib.hid hstep
              have HBR := Lib.hid hrg
              have hsz := strOf_size b
              have HSZ := Lib.hid hsz
              have hsm : (strOf b).size ≤ 320 := by rw [hsz]; exact hle
              clear hk2 hkp2 eE eR hb hstep
              by_cases hsh : b.length < 320
              · have hs1 : ((strOf b).size : Int) < 320 := by rw [hsz]; omega
                have HSH := Lib.hid hsh
                have e0 : R = none := by rw [HRE.out, HST.out.1 hsh]; rfl
                have HE0 := Lib.hid e0
                generalize strOf b = s at hs1 hsm ⊢
                clear hsz hrg hle hsh e0
                go_wp2_with fail
                go_ret2
                exact ⟨HKB.out.trans HKP2.out (fun _ _ q => q), .inl ⟨HE0.out, rfl⟩⟩
              · have hs1 : (strOf b).size = 320 := by rw [hsz]; omega
                have hs2 : ¬ ((strOf b).size : Int) < 320 := by rw [hs1]; omega
                have hbl : b.length = 320 := by omega
                have HBL := Lib.hid hbl
                have HS320 := Lib.hid hs1
                obtain ⟨s, hs⟩ : ∃ s, strOf b = s := ⟨_, rfl⟩
                rw [hs] at hs1 hs2 hsz hsm ⊢
                have HS := Lib.hid hs
                clear hsz hrg hle hsh hs hsm
                go_upto_region 11 with fail
                have HIX : Hid (∀ j, j < 320 → ∀ W, (Instr.index 9 (.string s) (.int .i64 ((j : Nat) : Int))).run Tryz.prog W = .ok (.int .u8 (b.getD j 0)) W) := Lib.hid (fun j hj W => idxStr HS.out HBR.out (by rw [HBL.out]; exact hj) W)
                have hix0 : ∀ W, (Instr.index 9 (.string s) (.int .i64 0)).run Tryz.prog W = .ok (.int .u8 (b.getD 0 0)) W := HIX.out 0 (by omega)
                have hix1 : ∀ W, (Instr.index 9 (.string s) (.int .i64 1)).run Tryz.prog W = .ok (.int .u8 (b.getD 1 0)) W := HIX.out 1 (by omega)
                have hix2 : ∀ W, (Instr.index 9 (.string s) (.int .i64 2)).run Tryz.prog W = .ok (.int .u8 (b.getD 2 0)) W := HIX.out 2 (by omega)
                have hix3 : ∀ W, (Instr.index 9 (.string s) (.int .i64 3)).run Tryz.prog W = .ok (.int .u8 (b.getD 3 0)) W := HIX.out 3 (by omega)
                have hnum : num b 0 = b.getD 0 0 * 16777216 + b.getD 1 0 * 65536 + b.getD 2 0 * 256 + b.getD 3 0 := rfl
                have g0 := getD_rng HBR.out 0
                have g1 := getD_rng HBR.out 1
                have g2 := getD_rng HBR.out 2
                have g3 := getD_rng HBR.out 3
                generalize b.getD 0 0 = b0 at hix0 hnum g0
                generalize b.getD 1 0 = b1 at hix1 hnum g1
                generalize b.getD 2 0 = b2 at hix2 hnum g2
                generalize b.getD 3 0 = b3 at hix3 hnum g3
                have hwb0 : IntKind.i64.wrap (b0 * 16777216) = b0 * 16777216 := by rw [IntKind.wrap_i64]; omega
                have hwb1 : IntKind.i64.wrap (b1 * 65536) = b1 * 65536 := by rw [IntKind.wrap_i64]; omega
                have hwb2 : IntKind.i64.wrap (b2 * 256) = b2 * 256 := by rw [IntKind.wrap_i64]; omega
                have hwc0 : IntKind.i64.wrap b0 = b0 := by rw [IntKind.wrap_i64]; omega
                have hwc1 : IntKind.i64.wrap b1 = b1 := by rw [IntKind.wrap_i64]; omega
                have hwc2 : IntKind.i64.wrap b2 = b2 := by rw [IntKind.wrap_i64]; omega
                have hwc3 : IntKind.i64.wrap b3 = b3 := by rw [IntKind.wrap_i64]; omega
                have ho1 : bits BinOp.or IntKind.i64 (b0 * 16777216) (b1 * 65536) = b0 * 16777216 + b1 * 65536 := or_sum 24 (by omega) b0 (b1 * 65536) (by omega) (by omega) (by omega) (by show _ < (16777216 : Int); omega)
                have ho2 : bits BinOp.or IntKind.i64 (b0 * 16777216 + b1 * 65536) (b2 * 256) = b0 * 16777216 + b1 * 65536 + b2 * 256 := by
                  have := or_sum 16 (by omega) (b0 * 256 + b1) (b2 * 256) (by omega) (by omega) (by omega) (by show _ < (65536 : Int); omega)
                  rw [show (b0 * 256 + b1) * (2 : Int) ^ 16 = b0 * 16777216 + b1 * 65536 by rw [show (2 : Int) ^ 16 = 65536 from rfl]; omega] at this
                  exact this
                have ho3 : bits BinOp.or IntKind.i64 (b0 * 16777216 + b1 * 65536 + b2 * 256) b3 = b0 * 16777216 + b1 * 65536 + b2 * 256 + b3 := by
                  have := or_sum 8 (by omega) (b0 * 65536 + b1 * 256 + b2) b3 (by omega) (by omega) (by omega) (by show _ < (256 : Int); omega)
                  rw [show (b0 * 65536 + b1 * 256 + b2) * (2 : Int) ^ 8 = b0 * 16777216 + b1 * 65536 + b2 * 256 by rw [show (2 : Int) ^ 8 = 256 from rfl]; omega] at this
                  exact this
                refine wp_region_held_drew (S := fun _ => True) (by kernel_rfl) trivial (fun hHeld => ?_)
                refine tkS (i := 0) (v := (.string s)) rfl (Or.inl ⟨by rfl, fun w' hq => by go_simp⟩) trivial ?_
                simp only [Act.put, skA, skB, skC]
                refine tkS (i := 1) (v := (.int .u8 b0)) rfl (Or.inl ⟨by rfl, fun w' hq => by go_simp⟩) trivial ?_
                simp only [Act.put, skA, skB, skC]
                refine tkS (i := 2) (v := (.int .i64 b0)) rfl (Or.inl ⟨by rfl, fun w' hq => by go_simp⟩) trivial ?_
                simp only [Act.put, skA, skB, skC]
                refine tkS (i := 3) (v := (.int .i64 (b0 * 16777216))) rfl (Or.inl ⟨by rfl, fun w' hq => by go_simp⟩) trivial ?_
                simp only [Act.put, skA, skB, skC]
                refine tkS (i := 4) (v := (.string s)) rfl (Or.inl ⟨by rfl, fun w' hq => by go_simp⟩) trivial ?_
                simp only [Act.put, skA, skB, skC]
                refine tkS (i := 5) (v := (.int .u8 b1)) rfl (Or.inl ⟨by rfl, fun w' hq => by go_simp⟩) trivial ?_
                simp only [Act.put, skA, skB, skC]
                refine tkS (i := 6) (v := (.int .i64 b1)) rfl (Or.inl ⟨by rfl, fun w' hq => by go_simp⟩) trivial ?_
                simp only [Act.put, skA, skB, skC]
                refine tkS (i := 7) (v := (.int .i64 (b1 * 65536))) rfl (Or.inl ⟨by rfl, fun w' hq => by go_simp⟩) trivial ?_
                simp only [Act.put, skA, skB, skC]
                refine tkS (i := 8) (v := (.int .i64 (b0 * 16777216 + b1 * 65536))) rfl (Or.inl ⟨by rfl, fun w' hq => by go_simp⟩) trivial ?_
                simp only [Act.put, skA, skB, skC]
                refine tkS (i := 9) (v := (.string s)) rfl (Or.inl ⟨by rfl, fun w' hq => by go_simp⟩) trivial ?_
                simp only [Act.put, skA, skB, skC]
                refine tkS (i := 10) (v := (.int .u8 b2)) rfl (Or.inl ⟨by rfl, fun w' hq => by go_simp⟩) trivial ?_
                simp only [Act.put, skA, skB, skC]
                refine tkS (i := 11) (v := (.int .i64 b2)) rfl (Or.inl ⟨by rfl, fun w' hq => by go_simp⟩) trivial ?_
                simp only [Act.put, skA, skB, skC]
                refine tkS (i := 12) (v := (.int .i64 (b2 * 256))) rfl (Or.inl ⟨by rfl, fun w' hq => by go_simp⟩) trivial ?_
                simp only [Act.put, skA, skB, skC]
                refine tkS (i := 13) (v := (.int .i64 (b0 * 16777216 + b1 * 65536 + b2 * 256))) rfl (Or.inl ⟨by rfl, fun w' hq => by go_simp⟩) trivial ?_
                simp only [Act.put, skA, skB, skC]
                refine tkS (i := 14) (v := (.string s)) rfl (Or.inl ⟨by rfl, fun w' hq => by go_simp⟩) trivial ?_
                simp only [Act.put, skA, skB, skC]
                refine tkS (i := 15) (v := (.int .u8 b3)) rfl (Or.inl ⟨by rfl, fun w' hq => by go_simp⟩) trivial ?_
                simp only [Act.put, skA, skB, skC]
                refine tkS (i := 16) (v := (.int .i64 b3)) rfl (Or.inl ⟨by rfl, fun w' hq => by go_simp⟩) trivial ?_
                simp only [Act.put, skA, skB, skC]
                refine tkS (i := 17) (v := (.int .i64 (b0 * 16777216 + b1 * 65536 + b2 * 256 + b3))) rfl (Or.inl ⟨by rfl, fun w' hq => by go_simp⟩) trivial ?_
                simp only [Act.put, skA, skB, skC]
                rw [← hnum]
                have hnr : 0 ≤ num b 0 ∧ num b 0 < 4294967296 := num_rng HBR.out 0
                generalize num b 0 = x at hnum hnr HST ⊢
                have HNR := Lib.hid hnr
                clear hix0 hix1 hix2 hix3 hnum g0 g1 g2 g3 hwb0 hwb1 hwb2 hwc0 hwc1 hwc2 hwc3 ho1 ho2 ho3 hnr
                refine tkS (i := 18) (v := .agg (pgA ⟨x, zeros 256⟩)) rfl (Or.inl ⟨by rfl, fun w' hq => exBuildPg1 w' _ _ x _ _ _ _ _ rfl⟩) trivial ?_
                simp only [Act.put, skA, skB, skC]
                refine wpAnyH_ready (rs := [19]) (by kernel_rfl) (by simp) ?_
                refine AllReadyH.valR (fun W' => W' = w2.drew.alloc (.cells (pgA ⟨0, zeros 256⟩) 208)) rfl (by rfl) _ _ (allocPg w2.drew _ _ _ _ _ _) (fun _ _ => trivial) rfl ?_ AllReadyH.nil
                rintro _ rfl
                simp only [Act.put, skA, skB, skC]
                have hbp := Blk.new w2.drew 208 (pgA ⟨0, zeros 256⟩)
                have hsz0 : ∀ n, (pgA ⟨n, zeros 256⟩).size = 257 := fun n => by simp [pgA, pgL, zeros]
                refine wpAnyH_ready (rs := [20]) (by kernel_rfl) (by simp) ?_
                refine AllReadyH.storeL rfl (by rfl) w2.drew.heap.size 0 (pgA ⟨x, zeros 256⟩) rfl rfl (hbp.thereAll _ (by rw [hsz0, hsz0])) (by rw [hsz0]; exact infoPgS) (pgA_ones _) trivial ?_ AllReadyH.nil
                refine wpAnyH_done (by kernel_rfl) ?_ _
                have hbx := hbp.whole (pgA ⟨x, zeros 256⟩) (by rw [hsz0, hsz0])
                have hkx : Kp NoB w2 ((w2.drew.alloc (.cells (pgA ⟨0, zeros 256⟩) 208)).setCells w2.drew.heap.size 0 (pgA ⟨x, zeros 256⟩).toList) := Kp.setCells (.inl (Nat.le_refl _)) _ _ _ ((Kp.refl NoB w2).drew.alloc _)
                have hG := hbx.lt
                generalize (w2.drew.alloc (.cells (pgA ⟨0, zeros 256⟩) 208)).setCells w2.drew.heap.size 0 (pgA ⟨x, zeros 256⟩).toList = w3 at hbx hkx hG ⊢
                obtain ⟨G, hGG⟩ : ∃ G, w2.drew.heap.size = G := ⟨_, rfl⟩
                rw [hGG] at hbx hG ⊢
                have HGG := Lib.hid hGG
                have HBX := Lib.hid hbx
                have HKX := Lib.hid hkx
                have HG := Lib.hid hG
                have he1 : s.extract 4 64 = strOf ((b.drop 4).take 60) := by rw [← HS.out]; exact strOf_sub b 4 64
                have hl60 : ((b.drop 4).take 60).length = 60 := by simp [HBL.out]
                have hzr : ∀ y ∈ (b.drop 4).take 60, 0 ≤ y ∧ y < 256 := fun y hy => HBR.out y (List.mem_of_mem_drop (List.mem_of_mem_take hy))
                obtain ⟨z, hz⟩ : ∃ z, (b.drop 4).take 60 = z := ⟨_, rfl⟩
                rw [hz] at he1 hl60 hzr HST
                obtain ⟨cap, w4, hcv, hk4, hs4, hc4⟩ := bytesOf w3 z hzr
                rw [hl60] at hcv
                have HK4 := Lib.hid (HKX.out.trans hk4 (fun _ _ q => q))
                have HBX4 := Lib.hid (HBX.out.keep hk4 (fun q => q))
                have HC4 := Lib.hid hc4
                have HL60 := Lib.hid hl60
                clear hbp hbx hkx hG hGG hHeld hk4 hc4 hz hzr
                go_wp2_with fail
                go_loopw [75] (fun v W => ∃ j : Nat, v = .int .i64 (j : Int) ∧ j ≤ 60 ∧ (∀ i, i < j → z.getD i 0 = 0) ∧ W = w4) (fun v _ => 60 - (intOf v).toNat)
                case atStart => exact ⟨0, rfl, by omega, fun i hi => absurd hi (by omega), rfl⟩
                case round =>
                  obtain ⟨j, rfl, hj, hzz, rfl⟩ := hrel
                  have HZZ := Lib.hid hzz
                  by_cases hj60 : j < 60
                  · have hjj : (j : Int) < 60 := by omega
                    have hcj := HC4.out j (by rw [HL60.out]; exact hj60)
                    obtain ⟨y, hy⟩ : ∃ y, z.getD j 0 = y := ⟨_, rfl⟩
                    rw [hy] at hcj
                    have HY := Lib.hid hy
                    clear hzz hy
                    by_cases hy0 : y = 0
                    · subst hy0
                      go_wp2_with fail
                      go_roundw
                      case rel => exact ⟨j + 1, by go_num, by omega, zz_next HZZ.out HY.out, trivial⟩
                      case measure => simp [intOf]; omega
                    · have hy1 : (y != 0) = true := by simpa using hy0
                      have hy2 : (y == 0) = false := by simpa using hy0
                      have HY0 := Lib.hid hy0
                      have hR : R = none := by
                        rw [HRE.out, (HST.out.2 (by rw [HBL.out]; omega)).2 (fun q => by
                          have q1 := HY.out
                          rw [q.1] at q1
                          exact HY0.out (by rw [← q1]; unfold zeros; rw [List.getD_eq_getElem?_getD, List.getElem?_replicate]; split <;> rfl))]
                        rfl
                      have HR9 := Lib.hid hR
                      clear hR
                      go_wp2_with fail
                      go_ret2
                      exact ⟨HKB.out.trans (HKP2.out.trans HK4.out (fun _ _ q => q)) (fun _ _ q => q), .inl ⟨HR9.out, rfl⟩⟩
                  · have hjj : ¬ (j : Int) < 60 := by omega
                    obtain rfl : j = 60 := by omega
                    have hzf : z = zeros 60 := by
                      apply List.ext_getElem
                      · rw [HL60.out]; simp [zeros]
                      · intro i h1 h2
                        have := hzz i (by rw [HL60.out] at h1; exact h1)
                        rw [List.getD_eq_getElem?_getD, List.getElem?_eq_getElem h1] at this
                        simp only [zeros, List.getElem_replicate]
                        exact this
                    have HZF := Lib.hid hzf
                    have he2 : s.extract 64 320 = strOf (b.drop 64) := by
                      rw [← HS.out, strOf_sub b 64 320, List.take_of_length_le (by simp [HBL.out])]
                    have hd64 : (b.drop 64).length = 256 := by simp [HBL.out]
                    have hdr : ∀ y ∈ b.drop 64, 0 ≤ y ∧ y < 256 := fun y hy => HBR.out y (List.mem_of_mem_drop hy)
                    have hpok : PgOk ⟨x, b.drop 64⟩ := ⟨hd64, hdr, by have := HNR.out; show _ ≤ x ∧ x ≤ _; omega⟩
                    have HPOK := Lib.hid hpok
                    have hst := HST.out.2 (by rw [HBL.out]; omega)
                    have HST2 := Lib.hid hst
                    obtain ⟨pb, hpb⟩ : ∃ pb, b.drop 64 = pb := ⟨_, rfl⟩
                    rw [hpb] at he2 hd64 hdr HPOK HST2
                    have hsi := strI_strOf pb hdr
                    have hss : (strOf pb).size = 256 := by rw [strOf_size]; exact hd64
                    obtain ⟨s2, hs2'⟩ : ∃ s2, strOf pb = s2 := ⟨_, rfl⟩
                    rw [hs2'] at he2 hsi hss
                    clear hzz hzf hst hpb hs2' hpok hdr
                    go_upto_region 18 with fail
                    refine wp_region_held_drew (S := fun _ => True) (by kernel_rfl) trivial (fun hHeld => ?_)
                    have hbx : Blk wr.drew G 208 (pgA ⟨x, zeros 256⟩) := HBX4.out
                    have hk5 : Kp NoB w2 wr.drew := HK4.out.drew
                    generalize wr.drew = w5 at hbx hk5 ⊢
                    have ht5 : w5.there G 1 s2.size := hbx.there (by rw [hss]; simp [pgA, pgL, zeros])
                    have hcp := copyS w5 G 1 256 256 s2 (by rw [hss]; omega) ht5
                    rw [hsi] at hcp
                    have hb6 := pg_fill hbx hd64
                    have hk6 : Kp NoB w2 (w5.setCells G 1 (pb.map (Value.int .u8))) := Kp.setCells (.inl (by have := HGG.out; show _ ≤ G; rw [← this]; exact Nat.le_refl _)) _ _ _ hk5
                    refine tkS (i := 0) (v := (.pointer (some ⟨G, 1, none⟩))) rfl (Or.inl ⟨by rfl, fun w' hq => by go_simp⟩) trivial ?_
                    simp only [Act.put, skA, skB, skC]
                    refine tkS (i := 1) (v := (.slice (some ⟨G, 1, none⟩) 256 256)) rfl (Or.inl ⟨by rfl, fun w' hq => by go_simp⟩) trivial ?_
                    simp only [Act.put, skA, skB, skC]
                    refine tkS (i := 2) (v := (.string s)) rfl (Or.inl ⟨by rfl, fun w' hq => by go_simp⟩) trivial ?_
                    simp only [Act.put, skA, skB, skC]
                    refine tkS (i := 3) (v := (.string s2)) rfl (Or.inl ⟨by rfl, fun w' hq => by go_simp⟩) trivial ?_
                    simp only [Act.put, skA, skB, skC]
                    refine wpAnyH_ready (rs := [4]) (by kernel_rfl) (by simp) ?_
                    refine AllReadyH.valR (fun W' => W' = w5.setCells G 1 (pb.map (Value.int .u8))) rfl (by rfl) _ _ (copyS_exec hcp _ rfl rfl) (fun _ _ => trivial) rfl ?_ AllReadyH.nil
                    rintro _ rfl
                    simp only [Act.put, skA, skB, skC]
                    refine wpAnyH_done (by kernel_rfl) ?_ _
                    generalize w5.setCells G 1 (pb.map (Value.int .u8)) = w6 at hb6 hk6 ⊢
                    have HB6 := Lib.hid hb6
                    have HK6 := Lib.hid hk6
                    have cx : w6.cell? ⟨G, 0, none⟩ = some (.int .i64 x) := hb6.cell 0
                    have cb : w6.cell? ⟨w.heap.size + 1, 1, none⟩ = some (.int .u32 vb) := by
                      rw [hk6.cell (Nat.lt_of_lt_of_le (block_lt_of_cell c1) HKQ.out.size) (fun q => q), HKQ.out.cell (block_lt_of_cell c1) (fun q => q)]; exact c1
                    clear hbx hk5 ht5 hcp hb6 hk6 hHeld he1 he2 hsi hss hsz0 hl60 hcv hs4 hj hj60 hjj hd64 cd c0 c1 c2 c3 hw1' hw2' hs1 hs2 hbl hw1 hwa
                    by_cases hle : x ≤ last
                    · have e0 : R = none := by
                        rw [HRE.out, HST2.out.2 (fun q => by have := q.2.1; omega)]; rfl
                      have HE0 := Lib.hid e0
                      clear e0
                      go_wp2_with fail
                      go_ret2
                      exact ⟨HKB.out.trans (HKP2.out.trans HK6.out (fun _ _ q => q)) (fun _ _ q => q), .inl ⟨HE0.out, rfl⟩⟩
                    · by_cases hgt : vb < x
                      · have e0 : R = none := by
                          rw [HRE.out, HST2.out.2 (fun q => by have := q.2.2; omega)]; rfl
                        have HE0 := Lib.hid e0
                        clear e0
                        go_wp2_with fail
                        go_ret2
                        exact ⟨HKB.out.trans (HKP2.out.trans HK6.out (fun _ _ q => q)) (fun _ _ q => q), .inl ⟨HE0.out, rfl⟩⟩
                      · have e0 := HST2.out.1 ⟨HZF.out, by omega, by omega⟩
                        have HE0 := Lib.hid e0
                        have t6 : w6.there G 0 257 := HB6.out.thereAll 257 (pgA_size HPOK.out)
                        have r6 : readRow w6 G 0 257 = pgA ⟨x, pb⟩ := HB6.out.readAll 257 (pgA_size HPOK.out)
                        obtain ⟨RR, hRR⟩ : ∃ RR, pgA ⟨x, pb⟩ = RR := ⟨_, rfl⟩
                        have hrs : RR.size = 257 := by rw [← hRR]; exact pgA_size HPOK.out
                        rw [hRR] at r6
                        have HRR2 := Lib.hid hRR
                        clear e0 hRR
                        go_wp2_with fail
                        have hcn := pg_new w6 ⟨x, pb⟩
                        rw [HRR2.out] at hcn
                        refine wp_append_ownB (.tmp 101) (.tmp 103) 149 rfl w1.heap.size 208 j0 _ 257 264 Tryz.underlying149 HJ0.out HY0.out HY1.out HY2.out rfl (by omega) (.slice A6 acc.length cap6) acc.length (pgsCells acc) rfl
                          (own_keepB HOW.out.1 ((HKQ.out.trans HK6.out (fun _ _ q => q)).alloc _) (fun _ _ q => q)) ⟨w6.heap.size, 0, none⟩ 1 1 (pgL ⟨x, pb⟩) rfl (pgL_len HPOK.out) hcn (pgL_one _) (by have := HAL.out; unfold maxLen; omega) (by have := HAL.out; omega)
                          (by have h1 := HKP2.out.size; have h2 := HK6.out.size; simp; omega) ?_
                        intro v7 w7 hown7 hgrow7 hb7
                        obtain ⟨A7, c7, rfl⟩ := own_slice hown7
                        have hk7 := ((HKP2.out.trans HK6.out (fun _ _ q => q)).alloc (.cells RR 208)).own hgrow7 rfl HOW.out.1
                        have HK7 := Lib.hid hk7
                        have HO7 := Lib.hid hown7
                        clear hown7 hgrow7 hb7 hk7 hcn t6 r6
                        go_wp2_with fail
                        go_roundw
                        case rel =>
                          refine ⟨k + 1, x, acc ++ [⟨x, pb⟩], by go_num, rfl, by omega, by rw [List.length_append, HAL.out]; rfl, ?_, ⟨?_, ?_⟩, HK7.out⟩
                          · rw [HRE.out, HE0.out]
                            cases recsPg (p.seen nmJn) vb (N - (k + 1)) (k + 1) x <;> simp
                          · have := HO7.out
                            unfold pgsCells at this ⊢
                            rw [List.flatMap_append, List.length_append]
                            simpa using this
                          · intro y hy
                            rcases List.mem_append.1 hy with q | q
                            · exact HOW.out.2 y q
                            · rw [List.mem_singleton.1 q]; exact HPOK.out
                        case measure => simp [intOf]; omega
            · have hkk : ¬ (k : Int) < va - 1 := by have := HNN; omega
              obtain rfl : k = N := by omega
              have e0 : R = some acc := by
                rw [hre, Nat.sub_self]
                show (some []).map (acc ++ ·) = _
                simp
              have HE0 := Lib.hid e0
              clear hre how hkp e0
              go_wp2_with fail
              go_ret2
              refine ⟨HKB.out.trans HKP.out (fun _ _ q => q), .inr ⟨acc, _, HE0.out, rfl, ?_⟩⟩
              exact ⟨HOW.out.1.mono HKB.out.size, HOW.out.2⟩
        · have hD1 : (vd != 0) = true := by simpa using hD
          have hD2 : (vd == 0) = false := by simpa using hD
          go_enter Tryz.func111, Tryz.ntmps111
          go_wp2_with fail
          go_ret2
          exact FB.out (.inr (.inr (.inr hD)))
      · have hC1 : (vc != 0) = true := by simpa using hC
        have hC2 : (vc == 0) = false := by simpa using hC
        go_enter Tryz.func111, Tryz.ntmps111
        go_wp2_with fail
        go_ret2
        exact FB.out (.inr (.inr (.inl hC)))
end
end Go.Proofs.YtoeldmkbmnkhkaaGreat
/- The numbers of the first page, cell by cell; no condition. -/
namespace Go.Proofs.YtoeldmkbmnkhkaaGreat
open Go

def numStep (a b : Int) : Int := (a * 256 + b) % 4294967296
/-- a cell taken into the numbers -/
def stepNs (cs : List ByteArray) (ns : List Int) (x : Nat) : List Int := if x = 0 ∨ 8 < x then ns else ns.set (x - 1) ((strI (cs.getD x ByteArray.empty)).foldl numStep (ns.getD (x - 1) 0))
def partNs (cs : List ByteArray) (k : Nat) : List Int := (List.range 8).map fun j => if j + 1 < k then numAt cs j else 0
theorem partNs_len (cs : List ByteArray) (k : Nat) : (partNs cs k).length = 8 := by simp [partNs]
theorem partNs_at (cs : List ByteArray) (k j : Nat) (hj : j < 8) : (partNs cs k)[j]? = some (if j + 1 < k then numAt cs j else 0) := by simp [partNs, hj]
theorem foldNs (cs : List ByteArray) : ∀ k, k ≤ cs.length → (List.range k).foldl (stepNs cs) ns0 = partNs cs k
  | 0, _ => by
    apply List.ext_getElem?
    intro j
    by_cases hj : j < 8
    · rw [partNs_at _ _ _ hj, if_neg (by omega)]
      show (List.replicate 8 (0 : Int))[j]? = _
      rw [List.getElem?_replicate, if_pos hj]
    · rw [List.getElem?_eq_none (by show (List.replicate 8 (0 : Int)).length ≤ j; simp; omega), List.getElem?_eq_none (by rw [partNs_len]; omega)]
  | k + 1, h => by
    rw [List.range_succ, List.foldl_append, foldNs cs k (by omega)]
    show stepNs cs (partNs cs k) k = _
    unfold stepNs
    apply List.ext_getElem?
    intro j
    by_cases hj : j < 8
    · rw [partNs_at _ _ _ hj]
      by_cases h0 : k = 0 ∨ 8 < k
      · rw [if_pos h0, partNs_at _ _ _ hj]
        by_cases h1 : j + 1 < k
        · rw [if_pos h1, if_pos (by omega)]
        · rw [if_neg h1, if_neg (by omega)]
      · rw [if_neg h0, List.getElem?_set]
        by_cases e : k - 1 = j
        · rw [if_pos e, if_pos (by rw [partNs_len]; omega), if_pos (by omega), List.getD_eq_getElem?_getD, partNs_at _ _ _ (by omega), if_neg (by omega)]
          unfold numAt
          rw [show j + 1 = k from by omega, List.getElem?_eq_getElem (by omega), List.getD_eq_getElem?_getD, List.getElem?_eq_getElem (by omega)]
          rfl
        · rw [if_neg e, partNs_at _ _ _ hj]
          by_cases h1 : j + 1 < k
          · rw [if_pos h1, if_pos (by omega)]
          · rw [if_neg h1, if_neg (by omega)]
    · have h2 : (partNs cs (k + 1)).length ≤ j := by rw [partNs_len]; omega
      rw [List.getElem?_eq_none h2, List.getElem?_eq_none]
      split
      · rw [partNs_len]; omega
      · rw [List.length_set, partNs_len]; omega
theorem partNs_all (cs : List ByteArray) : partNs cs cs.length = (List.range 8).map (numAt cs) := by
  unfold partNs
  apply List.map_congr_left
  intro j _
  split
  · rfl
  · unfold numAt
    rw [List.getElem?_eq_none (by omega)]
def NsOk (ns : List Int) : Prop := ns.length = 8 ∧ ∀ j, 0 ≤ ns.getD j 0 ∧ ns.getD j 0 < 4294967296
theorem fold_rng : ∀ (l : List Int) (a : Int), 0 ≤ a ∧ a < 4294967296 → 0 ≤ l.foldl numStep a ∧ l.foldl numStep a < 4294967296
  | [], _, h => h
  | b :: l, _, _ => fold_rng l _ ⟨Int.emod_nonneg _ (by decide), Int.emod_lt_of_pos _ (by decide)⟩
theorem NsOk.set {ns : List Int} (h : NsOk ns) (k : Nat) {v : Int} (hv : 0 ≤ v ∧ v < 4294967296) : NsOk (ns.set k v) := ⟨by rw [List.length_set]; exact h.1, fun j => by
  rw [List.getD_eq_getElem?_getD, List.getElem?_set]
  split
  · split
    · exact hv
    · exact ⟨by decide, by decide⟩
  · rw [← List.getD_eq_getElem?_getD]
    exact h.2 j⟩
theorem NsOk.zero : NsOk ns0 := ⟨rfl, fun j => by
  unfold ns0
  rw [List.getD_eq_getElem?_getD, List.getElem?_replicate]
  split <;> exact ⟨by decide, by decide⟩⟩
theorem fold_next {z : List Int} {j : Nat} (h : j < z.length) (a : Int) : (z.take (j + 1)).foldl numStep a = numStep ((z.take j).foldl numStep a) (z.getD j 0) := by
  rw [List.take_add_one, List.getElem?_eq_getElem h, List.foldl_append, List.getD_eq_getElem?_getD, List.getElem?_eq_getElem h]
  rfl
theorem or32 (a x : Int) (h0 : 0 ≤ a) (h1 : a < 4294967296) (h2 : 0 ≤ x) (h3 : x < 256) : bits BinOp.or IntKind.u32 (a * 256 % 4294967296) x = (a * 256 + x) % 4294967296 := by
  obtain ⟨m, hm⟩ := Int.eq_ofNat_of_zero_le (show 0 ≤ a % 16777216 by omega)
  obtain ⟨n, rfl⟩ := Int.eq_ofNat_of_zero_le h2
  have e0 : a * 256 % 4294967296 = ((m * 256 : Nat) : Int) := by omega
  have e4 : (a * 256 + (n : Int)) % 4294967296 = ((m * 256 + n : Nat) : Int) := by omega
  rw [e0, e4]
  have e : bits BinOp.or IntKind.u32 ((m * 256 : Nat) : Int) n = IntKind.u32.wrap ((BitVec.ofInt 32 ((m * 256 : Nat) : Int) ||| BitVec.ofInt 32 n).toNat) := rfl
  have e1 : BitVec.ofInt 32 ((m * 256 : Nat) : Int) = BitVec.ofNat 32 (m * 256) := BitVec.ofInt_natCast _ _
  have e2 : BitVec.ofInt 32 (n : Int) = BitVec.ofNat 32 n := BitVec.ofInt_natCast _ _
  rw [e, e1, e2, BitVec.toNat_or, BitVec.toNat_ofNat, BitVec.toNat_ofNat, Nat.mod_eq_of_lt (by omega), Nat.mod_eq_of_lt (by omega)]
  have h := Nat.shiftLeft_add_eq_or_of_lt (i := 8) (b := n) (by omega) m
  rw [Nat.shiftLeft_eq] at h
  rw [show m * 256 = m * 2 ^ 8 from rfl, h.symm, IntKind.wrap_u32]
  omega
theorem sfC_set (ln : Int) (ns : List Int) (i : Nat) (v : Int) : (sfC ⟨ln, ns⟩).setIfInBounds (i + 1) (.int .u32 v) = sfC ⟨ln, ns.set i v⟩ := by
  unfold sfC
  simp [List.map_set]
theorem sfC_at {ln : Int} {ns : List Int} {i : Nat} (h : i < ns.length) : (sfC ⟨ln, ns⟩)[i + 1]? = some (.int .u32 (ns.getD i 0)) := by
  unfold sfC
  simp [h]
end Go.Proofs.YtoeldmkbmnkhkaaGreat
/- The write-ahead log in plain Lean: its frames, marks and pages, its steps on the plain disk; no condition. -/
namespace Go.Proofs.YtoeldmkbmnkhkaaGreat
open Go

def nmWal : ByteArray := ⟨#[119, 97, 108]⟩
/-- a frame: a page's number, a count and one if it ends a commit, the page -/
structure Fr where
  n : Int
  en : Int
  b : List Int
/-- a frame read off the beginning of some bytes -/
def frP (b : List Int) : Option Fr := if b.length < 320 then none else if (b.drop 8).take 56 = zeros 56 ∧ num b 0 ≤ 4096 ∧ num b 4 ≤ 4097 ∧ (0 < num b 0 ∨ 0 < num b 4) then some ⟨num b 0, num b 4, (b.drop 64).take 256⟩ else none
/-- the k-th frame of a log -/
def frAt (l : List Int) (k : Nat) : Option Fr :=
  let b := (l.drop (64 + 320 * k)).take 320
  if b.length < 320 then none else if (b.drop 8).take 56 = zeros 56 ∧ num b 0 ≤ 4096 ∧ num b 4 ≤ 4097 ∧ (0 < num b 0 ∨ 0 < num b 4) then some ⟨num b 0, num b 4, b.drop 64⟩ else none
/-- the first frames -/
def frsAt (l : List Int) : Nat → Option (List Fr)
  | 0 => some []
  | k + 1 => (frsAt l k).bind fun fs => (frAt l k).map fun f => fs ++ [f]
def lastEn (fs : List Fr) : Int := match fs.getLast? with | some f => f.en | none => 1
namespace Pl
def whead (p : Pl) : W4 := says (p.seen nmWal)
/-- the log opened: an error and the frames -/
def wopen (p : Pl) : Int × List Fr :=
  if p.down then (7, []) else if 1048576 < p.whead.a ∨ p.whead.b ≠ 0 ∨ p.whead.c ≠ 0 ∨ p.whead.d ≠ 0 then (8, []) else
    match frsAt (p.seen nmWal) p.whead.a.toNat with
    | none => (8, [])
    | some fs => if lastEn fs = 0 then (8, []) else (0, fs)
end Pl
/-- is it a mark? -/
def isMark (fs : List Fr) (m : Int) : Bool := decide (m = 0) || (decide (0 < m ∧ m ≤ fs.length) && (match fs[m.toNat - 1]? with | some f => decide (0 < f.en) | none => false))
/-- how many pages at a mark -/
def wcount (p : Pl) (fs : List Fr) (m : Int) : Int := if m = 0 then p.jcount else match fs[m.toNat - 1]? with | some f => f.en - 1 | none => 0
/-- the last frame of a page among the first ones -/
def lastFr (fs : List Fr) (n : Int) : Option Fr := fs.reverse.find? fun f => decide (f.n = n)
def wpage (p : Pl) (fs : List Fr) (m n : Int) : List Int := match lastFr (fs.take m.toNat) n with | some f => f.b | none => p.jpage n
/-- a frame's bytes -/
def frB (f : Fr) : List Int := four f.n ++ four f.en ++ zeros 56 ++ f.b
/-- the frames of a commit -/
def newFr (count : Int) (l : List Pg) : List Fr :=
  let fs := if l = [] then [⟨0, 0, zeros 256⟩] else l.map fun x => ⟨x.n, 0, x.b⟩
  match fs.getLast? with | some f => fs.dropLast ++ [{ f with en := count + 1 }] | none => fs
def frW : Nat → List Fr → List Stp
  | _, [] => []
  | k, f :: r => ⟨0, nmWal, 64 + 320 * (k : Int), frB f⟩ :: frW (k + 1) r
namespace Pl
def wcommitS (p : Pl) (fs : List Fr) (new : List Fr) : List Stp := headS nmWal p.whead ++ (frW fs.length new ++ [⟨2, nmWal, 0, []⟩] ++ headS nmWal ⟨fs.length + new.length, 0, 0, 0⟩)
/-- pages changed together: the disk, the new mark, an error -/
def wcommit (p : Pl) (count : Int) (l : List Pg) : Pl × Int × Int :=
  if p.wopen.1 ≠ 0 then (p, 0, p.wopen.1) else
    let fs := p.wopen.2
    if fitPg (wcount p fs fs.length) count l = false then (p, 0, 2) else
      let q := p.runS (p.wcommitS fs (newFr count l))
      if q.2 ≠ 0 then (q.1, 0, fullE q.2) else (q.1, fs.length + (newFr count l).length, 0)
/-- the pages that the log has at a mark, by their numbers -/
def whome (p : Pl) (fs : List Fr) (m : Int) : List Pg :=
  ((List.range' 1 (wcount p fs m).toNat).filter fun (n : Nat) => (fs.take m.toNat).any fun f => decide (f.n = (n : Int))).map fun (n : Nat) => ⟨(n : Int), wpage p fs m n⟩
def wcheckS (p : Pl) (fs : List Fr) (m : Int) : List Stp := headS nmWal p.whead ++ (homeS (wcount p fs m) (whome p fs m) ++ if m = fs.length then headS nmWal ⟨0, 0, 0, 0⟩ else [])
/-- pages brought home -/
def wcheck (p : Pl) (m : Int) : Pl × Int :=
  if p.wopen.1 ≠ 0 then (p, p.wopen.1) else if isMark p.wopen.2 m = false then (p, 4) else if m = 0 then (p, 0) else p.runS (p.wcheckS p.wopen.2 m)
end Pl
theorem getD_take {l : List Int} {n i : Nat} (h : i < n) : (l.take n).getD i 0 = l.getD i 0 := by
  rw [List.getD_eq_getElem?_getD, List.getD_eq_getElem?_getD, List.getElem?_take, if_pos h]
theorem num_take {l : List Int} {n a : Nat} (h : a + 4 ≤ n) : num (l.take n) a = num l a := by
  unfold num
  rw [getD_take (by omega), getD_take (by omega), getD_take (by omega), getD_take (by omega)]
theorem frAt_P (l : List Int) (k : Nat) : frAt l k = frP (l.drop (64 + 320 * k)) := by
  unfold frAt frP
  dsimp only
  generalize l.drop (64 + 320 * k) = b
  rw [num_take (by omega), num_take (by omega), List.length_take, List.drop_take, List.take_take, List.drop_take]
  by_cases h : b.length < 320
  · rw [if_pos (by omega), if_pos h]
  · rw [if_neg (by omega), if_neg h]
    rfl
theorem frsAt_len {l : List Int} : ∀ {k : Nat} {fs : List Fr}, frsAt l k = some fs → fs.length = k
  | 0, fs, h => by unfold frsAt at h; injection h with h; rw [← h]; rfl
  | k + 1, fs, h => by
    unfold frsAt at h
    cases hq : frsAt l k with
    | none => rw [hq] at h; cases h
    | some g =>
      rw [hq] at h
      cases hf : frAt l k with
      | none => rw [hf] at h; cases h
      | some f =>
        rw [hf] at h
        injection h with h
        rw [← h, List.length_append, frsAt_len hq]
        rfl
theorem frsAt_none {l : List Int} {k : Nat} (h : frAt l k = none) : ∀ {n : Nat}, k < n → frsAt l n = none
  | 0, q => absurd q (by omega)
  | n + 1, q => by
    unfold frsAt
    by_cases e : k = n
    · subst e
      rw [h]
      cases frsAt l k <;> rfl
    · rw [frsAt_none h (n := n) (by omega)]
      rfl
theorem frsAt_next {l : List Int} {k : Nat} {fs : List Fr} {f : Fr} (h : frsAt l k = some fs) (hf : frAt l k = some f) : frsAt l (k + 1) = some (fs ++ [f]) := by
  show (frsAt l k).bind _ = _
  rw [h]
  show (frAt l k).map _ = _
  rw [hf]
  rfl
theorem frAt_pos {l : List Int} {k : Nat} {f : Fr} (h : frAt l k = some f) : 64 + 320 * k + 320 ≤ l.length := by
  unfold frAt at h
  dsimp only at h
  split at h
  · cases h
  · rename_i hl
    rw [List.length_take, List.length_drop] at hl
    omega
structure FrOk (f : Fr) : Prop where
  n0 : 0 ≤ f.n ∧ f.n ≤ 4096
  e0 : 0 ≤ f.en ∧ f.en ≤ 4097
  len : f.b.length = 256
  rng : ∀ y ∈ f.b, 0 ≤ y ∧ y < 256
theorem num_ge {b : List Int} (hb : ∀ y ∈ b, 0 ≤ y ∧ y < 256) (a : Nat) : 0 ≤ num b a := by
  have h : ∀ i, 0 ≤ b.getD i 0 := fun i => by
    rw [List.getD_eq_getElem?_getD]
    cases hq : b[i]? with
    | none => simp
    | some y => exact (hb y (List.mem_of_getElem? hq)).1
  unfold num
  have := h a; have := h (a + 1); have := h (a + 2); have := h (a + 3)
  omega
theorem frAt_ok {l : List Int} (hl : ∀ y ∈ l, 0 ≤ y ∧ y < 256) {k : Nat} {f : Fr} (h : frAt l k = some f) : FrOk f := by
  have hp := frAt_pos h
  unfold frAt at h
  dsimp only at h
  split at h
  · cases h
  · split at h
    · rename_i hlen hc
      injection h with h
      have hr : ∀ y ∈ (l.drop (64 + 320 * k)).take 320, 0 ≤ y ∧ y < 256 := fun y hy => hl y (List.mem_of_mem_drop (List.mem_of_mem_take hy))
      rw [← h]
      refine ⟨⟨num_ge hr 0, hc.2.1⟩, ⟨num_ge hr 4, hc.2.2.1⟩, ?_, fun y hy => hr y (List.mem_of_mem_drop hy)⟩
      show (((l.drop (64 + 320 * k)).take 320).drop 64).length = 256
      rw [List.length_drop, List.length_take, List.length_drop]
      omega
    · cases h
theorem frsAt_ok {l : List Int} (hl : ∀ y ∈ l, 0 ≤ y ∧ y < 256) : ∀ {k : Nat} {fs : List Fr}, frsAt l k = some fs → ∀ f ∈ fs, FrOk f
  | 0, fs, h => by unfold frsAt at h; injection h with h; rw [← h]; intro f q; cases q
  | k + 1, fs, h => by
    unfold frsAt at h
    cases hq : frsAt l k with
    | none => rw [hq] at h; cases h
    | some g =>
      rw [hq] at h
      cases hf : frAt l k with
      | none => rw [hf] at h; cases h
      | some f =>
        rw [hf] at h
        injection h with h
        rw [← h]
        intro x hx
        rcases List.mem_append.1 hx with q | q
        · exact frsAt_ok hl hq x q
        · rw [List.mem_singleton.1 q]; exact frAt_ok hl hf
end Go.Proofs.YtoeldmkbmnkhkaaGreat
/- The log: the pages brought home, in plain Lean; no condition. -/
namespace Go.Proofs.YtoeldmkbmnkhkaaGreat
open Go

/-- how often a page's number is met -/
def cntN (l : List Fr) (n : Int) : Nat := (l.filter fun f => decide (f.n = n)).length
/-- the pages met first, among the first k frames gone over -/
def homeV (V : List Fr) (c : Int) : Nat → List Pg
  | 0 => []
  | k + 1 => if cntN (V.take k) (V.getD k ⟨0, 0, []⟩).n = 0 ∧ 0 < (V.getD k ⟨0, 0, []⟩).n ∧ (V.getD k ⟨0, 0, []⟩).n ≤ c then homeV V c k ++ [⟨(V.getD k ⟨0, 0, []⟩).n, (V.getD k ⟨0, 0, []⟩).b⟩] else homeV V c k
theorem cntN_snoc (l : List Fr) (f : Fr) (n : Int) : cntN (l ++ [f]) n = cntN l n + if f.n = n then 1 else 0 := by
  unfold cntN
  rw [List.filter_append, List.length_append]
  by_cases h : f.n = n
  · rw [if_pos h]; simp [h]
  · rw [if_neg h]; simp [h]
theorem cntN_le (l : List Fr) (n : Int) : cntN l n ≤ l.length := List.length_filter_le _ _
theorem cntN_zero (l : List Fr) (n : Int) : cntN l n = 0 ↔ l.find? (fun f => decide (f.n = n)) = none := by
  unfold cntN
  rw [List.length_eq_zero_iff, List.filter_eq_nil_iff, List.find?_eq_none]
theorem take_snoc (V : List Fr) (k : Nat) (h : k < V.length) : V.take (k + 1) = V.take k ++ [V.getD k ⟨0, 0, []⟩] := by
  rw [List.take_succ_eq_append_getElem h, List.getD_eq_getElem?_getD, List.getElem?_eq_getElem h]
  rfl
theorem homeV_len (V : List Fr) (c : Int) : ∀ k, (homeV V c k).length ≤ k
  | 0 => Nat.le_refl _
  | k + 1 => by
    have := homeV_len V c k
    unfold homeV
    split
    · rw [List.length_append]; simp; omega
    · omega
theorem homeV_mem (V : List Fr) (c : Int) (x : Pg) : ∀ k, k ≤ V.length → (x ∈ homeV V c k ↔ 0 < x.n ∧ x.n ≤ c ∧ ∃ f, (V.take k).find? (fun f => decide (f.n = x.n)) = some f ∧ x.b = f.b)
  | 0, _ => by simp [homeV]
  | k + 1, hk => by
    have ih := homeV_mem V c x k (by omega)
    rw [take_snoc V k (by omega), List.find?_append]
    unfold homeV
    generalize V.getD k ⟨0, 0, []⟩ = g at *
    by_cases hc : cntN (V.take k) g.n = 0 ∧ 0 < g.n ∧ g.n ≤ c
    · rw [if_pos hc, List.mem_append, ih, List.mem_singleton]
      have hz := (cntN_zero _ _).1 hc.1
      constructor
      · rintro (⟨h1, h2, f, h3, h4⟩ | rfl)
        · exact ⟨h1, h2, f, by rw [h3]; rfl, h4⟩
        · exact ⟨hc.2.1, hc.2.2, g, by dsimp only; rw [hz]; simp, rfl⟩
      · rintro ⟨h1, h2, f, h3, h4⟩
        cases hq : (V.take k).find? (fun f => decide (f.n = x.n)) with
        | some y =>
          rw [hq] at h3
          exact .inl ⟨h1, h2, f, by rw [← h3]; rfl, h4⟩
        | none =>
          rw [hq] at h3
          have h5 : [g].find? (fun f => decide (f.n = x.n)) = some f := h3
          rw [List.find?_cons] at h5
          split at h5
          · rename_i hd
            injection h5 with h5
            subst h5
            refine .inr ?_
            have : g.n = x.n := by simpa using hd
            cases x
            simp at this h4 ⊢
            exact ⟨this.symm, h4⟩
          · cases h5
    · rw [if_neg hc, ih]
      refine and_congr_right fun h1 => and_congr_right fun h2 => ?_
      constructor
      · rintro ⟨f, h3, h4⟩
        exact ⟨f, by rw [h3]; rfl, h4⟩
      · rintro ⟨f, h3, h4⟩
        cases hq : (V.take k).find? (fun f => decide (f.n = x.n)) with
        | some y =>
          rw [hq] at h3
          exact ⟨f, by rw [← h3]; rfl, h4⟩
        | none =>
          rw [hq] at h3
          have h5 : [g].find? (fun f => decide (f.n = x.n)) = some f := h3
          rw [List.find?_cons] at h5
          split at h5
          · rename_i hd
            have hx : g.n = x.n := by simpa using hd
            rw [hx] at hc
            exact absurd ⟨(cntN_zero _ _).2 hq, h1, h2⟩ hc
          · cases h5
theorem homeV_nodup (V : List Fr) (c : Int) : ∀ k, k ≤ V.length → (homeV V c k).Pairwise fun a b => a.n ≠ b.n
  | 0, _ => List.Pairwise.nil
  | k + 1, hk => by
    have ih := homeV_nodup V c k (by omega)
    unfold homeV
    split
    · rename_i hc
      refine List.pairwise_append.2 ⟨ih, List.pairwise_singleton _ _, fun a ha b hb => ?_⟩
      rw [List.mem_singleton.1 hb]
      obtain ⟨_, _, f, hf, _⟩ := (homeV_mem V c a k (by omega)).1 ha
      intro e
      dsimp only at e
      rw [e] at hf
      rw [(cntN_zero _ _).1 hc.1] at hf
      cases hf
    · exact ih
theorem pg_sorted_eq : ∀ {l r : List Pg}, l.Pairwise (fun a b => a.n < b.n) → r.Pairwise (fun a b => a.n < b.n) → (∀ x, x ∈ l ↔ x ∈ r) → l = r
  | [], [], _, _, _ => rfl
  | [], y :: r, _, _, h => by have := (h y).2 (List.mem_cons_self ..); cases this
  | x :: l, [], _, _, h => by have := (h x).1 (List.mem_cons_self ..); cases this
  | x :: l, y :: r, hl, hr, h => by
    rw [List.pairwise_cons] at hl hr
    have hxy : x = y := by
      rcases List.mem_cons.1 ((h x).1 (List.mem_cons_self ..)) with q | q
      · exact q
      · rcases List.mem_cons.1 ((h y).2 (List.mem_cons_self ..)) with z | z
        · exact z.symm
        · have := hr.1 x q; have := hl.1 y z; omega
    subst hxy
    refine congrArg _ (pg_sorted_eq hl.2 hr.2 fun z => ?_)
    constructor
    · intro hz
      rcases List.mem_cons.1 ((h z).1 (List.mem_cons_of_mem _ hz)) with q | q
      · subst q; have := hl.1 z hz; omega
      · exact q
    · intro hz
      rcases List.mem_cons.1 ((h z).2 (List.mem_cons_of_mem _ hz)) with q | q
      · subst q; have := hr.1 z hz; omega
      · exact q
theorem whome_sorted (p : Pl) (fs : List Fr) (m : Int) : (p.whome fs m).Pairwise fun a b => a.n < b.n := by
  unfold Pl.whome
  rw [List.pairwise_map]
  refine List.Pairwise.imp ?_ ((List.pairwise_lt_range' (s := 1) (n := (wcount p fs m).toNat)).filter _)
  intro a b h
  show (a : Int) < b
  omega
theorem whome_mem (p : Pl) (fs : List Fr) (m : Int) (x : Pg) : x ∈ p.whome fs m ↔ 0 < x.n ∧ x.n ≤ wcount p fs m ∧ ∃ f, lastFr (fs.take m.toNat) x.n = some f ∧ x.b = f.b := by
  unfold Pl.whome
  rw [List.mem_map]
  constructor
  · rintro ⟨n, hn, rfl⟩
    rw [List.mem_filter, List.mem_range'_1] at hn
    obtain ⟨⟨h1, h2⟩, h3⟩ := hn
    refine ⟨by dsimp only; omega, by dsimp only; omega, ?_⟩
    dsimp only
    cases hf : lastFr (fs.take m.toNat) (n : Int) with
    | some f => exact ⟨f, rfl, by unfold wpage; rw [hf]⟩
    | none =>
      unfold lastFr at hf
      rw [List.find?_eq_none] at hf
      obtain ⟨f, hf1, hf2⟩ := List.any_eq_true.1 h3
      exact absurd hf2 (hf f (List.mem_reverse.2 hf1))
  · rintro ⟨h1, h2, f, hf, hb⟩
    refine ⟨x.n.toNat, ?_, ?_⟩
    · rw [List.mem_filter, List.mem_range'_1]
      refine ⟨⟨by omega, by omega⟩, ?_⟩
      have e : ((x.n.toNat : Nat) : Int) = x.n := by omega
      rw [e]
      refine List.any_eq_true.2 ⟨f, ?_, ?_⟩
      · exact List.mem_reverse.1 (List.mem_of_find?_eq_some hf)
      · exact List.find?_some (p := fun f : Fr => decide (f.n = x.n)) hf
    · have e : ((x.n.toNat : Nat) : Int) = x.n := by omega
      rw [e]
      unfold wpage
      rw [hf]
      cases x
      simp at hb ⊢
      exact hb.symm
theorem rev_getD (fs : List Fr) (m k : Nat) (hm : m ≤ fs.length) (hk : k < m) : (fs.take m).reverse.getD k ⟨0, 0, []⟩ = fs.getD (m - 1 - k) ⟨0, 0, []⟩ := by
  have hl : (fs.take m).length = m := by rw [List.length_take]; omega
  rw [List.getD_eq_getElem?_getD, List.getD_eq_getElem?_getD, List.getElem?_reverse (by omega), hl, List.getElem?_take, if_pos (by omega)]
/-- the pages met first, sorted by their numbers, are the pages brought home -/
theorem home_is (p : Pl) (fs : List Fr) (m : Nat) (hm : m ≤ fs.length) (l : List Pg) (h : l.Perm (homeV (fs.take m).reverse (wcount p fs m) m)) (hs : l.Pairwise fun a b => ¬ b.n < a.n) : l = p.whome fs m := by
  have hl : (fs.take m).reverse.length = m := by rw [List.length_reverse, List.length_take]; omega
  have hn : l.Pairwise fun a b => a.n ≠ b.n := (List.Perm.pairwise_iff (fun {a b} (q : a.n ≠ b.n) => Ne.symm q) h).2 (homeV_nodup _ _ m (by omega))
  refine pg_sorted_eq ((hs.and hn).imp fun {a b} q => by have := q.1; have := q.2; omega) (whome_sorted p fs m) fun x => ?_
  rw [h.mem_iff, homeV_mem _ _ x m (by omega), whome_mem, List.take_of_length_le (by omega)]
  rfl
end Go.Proofs.YtoeldmkbmnkhkaaGreat
/- The log's types in memory: frames and the log itself; no condition. -/
namespace Go.Proofs.YtoeldmkbmnkhkaaGreat
open Go.RowKit

/-- a frame as it is read: its page's bytes are a text -/
def frL (f : Fr) : List Value := .int .i64 f.n :: ((zeros 256).map (Value.int .u8) ++ [.int .i64 f.en, .string (strOf f.b)])
/-- a frame as it is made: its page's bytes are there -/
def fnL (f : Fr) : List Value := .int .i64 f.n :: (f.b.map (Value.int .u8) ++ [.int .i64 f.en, .string ⟨#[]⟩])
theorem frL_len (f : Fr) : (frL f).length = 259 := by
  unfold frL
  rw [List.length_cons, List.length_append, List.length_map]
  unfold zeros
  rw [List.length_replicate]
  rfl
theorem frL_one (f : Fr) : ∀ u ∈ frL f, u.oneCell' = true := by
  intro u hu
  unfold frL at hu
  rcases List.mem_cons.1 hu with rfl | hu
  · rfl
  · rcases List.mem_append.1 hu with hu | hu
    · exact u8_one _ u hu
    · simp only [List.mem_cons, List.not_mem_nil, or_false] at hu
      rcases hu with rfl | rfl <;> rfl
theorem ones_of {l : List Value} (h : ∀ u ∈ l, u.oneCell' = true) : ones l.toArray := by
  unfold ones
  simp only [List.all_toArray', List.all_eq_true]
  exact h
def fr0 : Array Value := (fnL ⟨0, 0, zeros 256⟩).toArray
theorem infoFr : (Tryz.prog.info? 236).map (fun i => (i.zero, i.size, i.bytes)) = some (some (.agg ((#[.int .i64 0] : Array Value) ++ Array.replicate 256 (.int .u8 0) ++ #[.int .i64 0, .string ⟨#[]⟩])), 259, 288) := by kernel_rfl
theorem infoFrS : (Tryz.prog.info? 236).map (·.size) = some 259 := by kernel_rfl
theorem zeroFr (w : World) : (zeroValue 236).run Tryz.prog w = .ok (.agg fr0) w := by kernel_rfl
theorem loadFr (w : World) (ev : Operand → Value) (ds : Option Tmp) (x : Operand) (ty : TypeId) (ps : String) (af : Array Edge) (g : Option (Nat × Bool)) (h : thereP w (ev x) 259) :
    (execOp ev ⟨ds, .load 236 x, ty, ps, af, g⟩).run Tryz.prog w = .ok (.value (.agg (readP w (ev x) 259))) w := execLoad_P Tryz.underlying236 rfl infoFrS w ev ds x ty ps af g h
theorem storeFr (w : World) (ev : Operand → Value) (ds : Option Tmp) (x y : Operand) (ty : TypeId) (ps : String) (af : Array Edge) (g : Option (Nat × Bool)) (hv : aggOK (ev y) 259) (h : thereP w (ev x) 259) :
    (execOp ev ⟨ds, .store 236 x y, ty, ps, af, g⟩).run Tryz.prog w = .ok .skip (setP w (ev x) (ev y)) := execStore_P infoFrS w ev ds x y ty ps af g hv h
theorem allocFr (w : World) (ev : Operand → Value) (ds : Option Tmp) (ty : TypeId) (ps : String) (af : Array Edge) (g : Option (Nat × Bool)) :
    (execOp ev ⟨ds, .alloc 236, ty, ps, af, g⟩).run Tryz.prog w = .ok (.value (.pointer (some ⟨w.heap.size, 0, none⟩))) (w.alloc (.cells fr0 236)) := by
  simp only [execOp, Instr.alloc, Sem.run_bind, zeroFr, Result.andThen_ok]
  rfl
theorem buildFr0 (w : World) (ev : Operand → Value) (ds : Option Tmp) (ty : TypeId) (ps : String) (af : Array Edge) (g : Option (Nat × Bool)) :
    (execOp ev ⟨ds, .build 236 #[], ty, ps, af, g⟩).run Tryz.prog w = .ok (.value (.agg fr0)) w := by
  kernel_rfl
theorem sliceFr (w : World) (cs : Array Value) (hs : cs.size = 259) : (Instr.buildSlice 202 1 #[(0, .agg cs)]).run Tryz.prog w = .ok (.slice (some ⟨w.heap.size, 0, none⟩) 1 1) (w.alloc (.cells cs 236)) := by
  obtain ⟨i, hi, h0, h1, h2⟩ := info_parts infoFr
  have hu := Tryz.underlying202
  have hc : (Value.agg cs).cells = cs := rfl
  have hf : ∀ Z : Array Value, Z.size = 259 → Instr.fill (fun i => some (i * 259, 259)) Z [(0, .agg cs)] = some cs := fun Z hZ => by
    have := Go.Great.fill_whole (s := 259) (by omega) [.agg cs] Z (by simp [hc, hs]) (by simp [hZ])
    simpa [hc] using this
  simp [Instr.buildSlice, run_underlying hu, sizeOf, typeInfo, hi, h1, zeroFr, newRow, newObj]
  rw [hf _ (by simp)]
  rfl
theorem exSliceFr (w : World) (ev : Operand → Value) (x : Operand) (cs : Array Value) (ds : Option Tmp) (ty : TypeId) (ps : String) (af : Array Edge) (g : Option (Nat × Bool)) (hx : ev x = .agg cs) (hs : cs.size = 259) :
    (execOp ev ⟨ds, .buildSlice 202 1 #[(0, x)], ty, ps, af, g⟩).run Tryz.prog w = .ok (.value (.slice (some ⟨w.heap.size, 0, none⟩) 1 1)) (w.alloc (.cells cs 236)) := by
  simp only [execOp, List.map_toArray, List.map_cons, List.map_nil, hx, Sem.run_bind, sliceFr w cs hs, Result.andThen_ok]
  rfl
/-- a part filled in -/
theorem zf (off : Nat) : ∀ (xs : List Value) (k : Nat) (cs : Array Value), (xs.zipIdx k).foldl (fun cs (x : Value × Nat) => cs.setIfInBounds (off + x.2) x.1) cs = spl cs (off + k) xs
  | [], _, _ => rfl
  | v :: r, k, cs => by
    rw [List.zipIdx_cons, List.foldl_cons, zf off r (k + 1)]
    rfl
theorem fill_at (place : Nat → Option (Nat × Nat)) (i : Nat) (v : Value) (rest : List (Nat × Value)) (xa xb xd xs : List Value) (hp : place i = some (xa.length, xs.length)) (hv : v.cells = xs.toArray) (hl : xb.length = xs.length) :
    Instr.fill place (xa ++ xb ++ xd).toArray ((i, v) :: rest) = Instr.fill place (xa ++ xs ++ xd).toArray rest := by
  conv => lhs; unfold Instr.fill
  rw [hp]
  dsimp only
  rw [if_neg (by rw [hv]; simp; omega), hv]
  congr 1
  have e : xs.toArray.zipIdx.foldl (fun cs (x : Value × Nat) => cs.setIfInBounds (xa.length + x.2) x.1) (xa ++ xb ++ xd).toArray = (xs.zipIdx 0).foldl (fun cs (x : Value × Nat) => cs.setIfInBounds (xa.length + x.2) x.1) (xa ++ xb ++ xd).toArray := by
    rw [← Array.foldl_toList, Array.toList_zipIdx]
  refine e.trans ?_
  rw [zf, Nat.add_zero, spl_eq xs xa xb xd hl]
def plFr : Nat → Option (Nat × Nat) := fun i => (#[(0, 257), (257, 1), (258, 1)] : Array (Nat × Nat))[i]?
theorem built_fr (parts : List (Nat × Value)) : Tryz.prog.built 236 parts = Instr.fill plFr fr0 parts := by kernel_rfl
theorem fill_fr (n en : Int) (b : List Int) (s : ByteArray) (hb : b.length = 256) : Instr.fill plFr fr0 [(0, .agg (pgA ⟨n, b⟩)), (1, .int .i64 en), (2, .string s)] = some (.int .i64 n :: (b.map (Value.int .u8) ++ [.int .i64 en, .string s])).toArray := by
  have hlz : (pgL ⟨0, zeros 256⟩).length = 257 := by unfold pgL; rw [List.length_cons, List.length_map]; unfold zeros; rw [List.length_replicate]
  have hlb : (pgL ⟨n, b⟩).length = 257 := by unfold pgL; rw [List.length_cons, List.length_map, hb]
  have e0 : fr0 = ([] ++ pgL ⟨0, zeros 256⟩ ++ [Value.int .i64 0, Value.string ⟨#[]⟩]).toArray := by unfold fr0 fnL pgL; simp only [List.nil_append, List.cons_append]
  rw [e0, fill_at plFr 0 (.agg (pgA ⟨n, b⟩)) _ [] (pgL ⟨0, zeros 256⟩) [.int .i64 0, .string ⟨#[]⟩] (pgL ⟨n, b⟩) (by rw [hlb]; rfl) rfl (by rw [hlz, hlb])]
  have e1 : ([] ++ pgL ⟨n, b⟩ ++ [.int .i64 0, .string ⟨#[]⟩] : List Value) = pgL ⟨n, b⟩ ++ [.int .i64 0] ++ [.string ⟨#[]⟩] := by simp
  rw [e1, fill_at plFr 1 (.int .i64 en) _ (pgL ⟨n, b⟩) [.int .i64 0] [.string ⟨#[]⟩] [.int .i64 en] (by rw [hlb]; rfl) rfl rfl]
  have e2 : (pgL ⟨n, b⟩ ++ [.int .i64 en] ++ [.string ⟨#[]⟩] : List Value) = (pgL ⟨n, b⟩ ++ [.int .i64 en]) ++ [.string ⟨#[]⟩] ++ [] := by simp
  rw [e2]
  refine (fill_at plFr 2 (.string s) [] (pgL ⟨n, b⟩ ++ [.int .i64 en]) [.string ⟨#[]⟩] [] [.string s] (by rw [List.length_append, hlb]; rfl) rfl rfl).trans ?_
  unfold Instr.fill pgL
  simp
theorem buildFr3 (w : World) (n en : Int) (b : List Int) (s : ByteArray) (hb : b.length = 256) : (Instr.build 236 #[(0, .agg (pgA ⟨n, b⟩)), (1, .int .i64 en), (2, .string s)]).run Tryz.prog w = .ok (.agg (.int .i64 n :: (b.map (Value.int .u8) ++ [.int .i64 en, .string s])).toArray) w :=
  run_build w 236 _ _ ((built_fr _).trans (fill_fr n en b s hb))
theorem exBuildFr3 (w : World) (ev : Operand → Value) (x y z : Operand) (n en : Int) (b : List Int) (s : ByteArray) (hb : b.length = 256) (ds : Option Tmp) (ty : TypeId) (ps : String) (af : Array Edge) (g : Option (Nat × Bool)) (hx : ev x = .agg (pgA ⟨n, b⟩)) (hy : ev y = .int .i64 en) (hz : ev z = .string s) :
    (execOp ev ⟨ds, .build 236 #[(0, x), (1, y), (2, z)], ty, ps, af, g⟩).run Tryz.prog w = .ok (.value (.agg (.int .i64 n :: (b.map (Value.int .u8) ++ [.int .i64 en, .string s])).toArray)) w := by
  simp only [execOp, List.map_toArray, List.map_cons, List.map_nil, hx, hy, hz, Sem.run_bind, buildFr3 _ _ _ _ _ hb, Result.andThen_ok]
  rfl
end Go.Proofs.YtoeldmkbmnkhkaaGreat
/- The log: the small functions that read a frame: number, at; condition: a text of four bytes. -/
namespace Go.Proofs.YtoeldmkbmnkhkaaGreat
open Go.RowKit

set_option maxRecDepth 100000 in
set_option maxHeartbeats 1600000 in
theorem number_q (w : World) (b : List Int) (hb : ∀ y ∈ b, 0 ≤ y ∧ y < 256) (hl : 4 ≤ b.length) :
    Calls Tryz.prog 178 #[.string (strOf b)] w fun e w' => e = .returned (.int .i64 (num b 0)) ∧ Kp NoB w w' := by
  have HBR := Lib.hid hb
  obtain ⟨s, hs⟩ : ∃ s, strOf b = s := ⟨_, rfl⟩
  have HS := Lib.hid hs
  have HIX : Hid (∀ j, j < b.length → ∀ W, (Instr.index 9 (.string s) (.int .i64 ((j : Nat) : Int))).run Tryz.prog W = .ok (.int .u8 (b.getD j 0)) W) := Lib.hid (fun j hj W => idxStr HS.out HBR.out hj W)
  have HL := Lib.hid hl
  rw [hs]
  clear hb hs hl
  go_enter Tryz.func178, Tryz.ntmps178
  go_upto_region 1 with fail
  have hix0 : ∀ W, (Instr.index 9 (.string s) (.int .i64 0)).run Tryz.prog W = .ok (.int .u8 (b.getD 0 0)) W := HIX.out 0 (by have := HL.out; omega)
  have hix1 : ∀ W, (Instr.index 9 (.string s) (.int .i64 1)).run Tryz.prog W = .ok (.int .u8 (b.getD 1 0)) W := HIX.out 1 (by have := HL.out; omega)
  have hix2 : ∀ W, (Instr.index 9 (.string s) (.int .i64 2)).run Tryz.prog W = .ok (.int .u8 (b.getD 2 0)) W := HIX.out 2 (by have := HL.out; omega)
  have hix3 : ∀ W, (Instr.index 9 (.string s) (.int .i64 3)).run Tryz.prog W = .ok (.int .u8 (b.getD 3 0)) W := HIX.out 3 (by have := HL.out; omega)
  have hnum : num b 0 = b.getD 0 0 * 16777216 + b.getD 1 0 * 65536 + b.getD 2 0 * 256 + b.getD 3 0 := rfl
  have g0 := getD_rng HBR.out 0
  have g1 := getD_rng HBR.out 1
  have g2 := getD_rng HBR.out 2
  have g3 := getD_rng HBR.out 3
  generalize b.getD 0 0 = b0 at hix0 hnum g0
  generalize b.getD 1 0 = b1 at hix1 hnum g1
  generalize b.getD 2 0 = b2 at hix2 hnum g2
  generalize b.getD 3 0 = b3 at hix3 hnum g3
  have hwb0 : IntKind.i64.wrap (b0 * 16777216) = b0 * 16777216 := by rw [IntKind.wrap_i64]; omega
  have hwb1 : IntKind.i64.wrap (b1 * 65536) = b1 * 65536 := by rw [IntKind.wrap_i64]; omega
  have hwb2 : IntKind.i64.wrap (b2 * 256) = b2 * 256 := by rw [IntKind.wrap_i64]; omega
  have hwc0 : IntKind.i64.wrap b0 = b0 := by rw [IntKind.wrap_i64]; omega
  have hwc1 : IntKind.i64.wrap b1 = b1 := by rw [IntKind.wrap_i64]; omega
  have hwc2 : IntKind.i64.wrap b2 = b2 := by rw [IntKind.wrap_i64]; omega
  have hwc3 : IntKind.i64.wrap b3 = b3 := by rw [IntKind.wrap_i64]; omega
  have ho1 : bits BinOp.or IntKind.i64 (b0 * 16777216) (b1 * 65536) = b0 * 16777216 + b1 * 65536 := or_sum 24 (by omega) b0 (b1 * 65536) (by omega) (by omega) (by omega) (by show _ < (16777216 : Int); omega)
  have ho2 : bits BinOp.or IntKind.i64 (b0 * 16777216 + b1 * 65536) (b2 * 256) = b0 * 16777216 + b1 * 65536 + b2 * 256 := by
    have := or_sum 16 (by omega) (b0 * 256 + b1) (b2 * 256) (by omega) (by omega) (by omega) (by show _ < (65536 : Int); omega)
    rw [show (b0 * 256 + b1) * (2 : Int) ^ 16 = b0 * 16777216 + b1 * 65536 by rw [show (2 : Int) ^ 16 = 65536 from rfl]; omega] at this
    exact this
  have ho3 : bits BinOp.or IntKind.i64 (b0 * 16777216 + b1 * 65536 + b2 * 256) b3 = b0 * 16777216 + b1 * 65536 + b2 * 256 + b3 := by
    have := or_sum 8 (by omega) (b0 * 65536 + b1 * 256 + b2) b3 (by omega) (by omega) (by omega) (by show _ < (256 : Int); omega)
    rw [show (b0 * 65536 + b1 * 256 + b2) * (2 : Int) ^ 8 = b0 * 16777216 + b1 * 65536 + b2 * 256 by rw [show (2 : Int) ^ 8 = 256 from rfl]; omega] at this
    exact this
  refine wp_region_held_drew (S := fun _ => True) (by kernel_rfl) trivial (fun hHeld => ?_)
  refine tkS (i := 0) (v := (.string s)) rfl (Or.inl ⟨by rfl, fun w' hq => by go_simp⟩) trivial ?_
  simp only [Act.put, skA, skB, skC]
  refine tkS (i := 1) (v := (.int .u8 b0)) rfl (Or.inl ⟨by rfl, fun w' hq => by go_simp⟩) trivial ?_
  simp only [Act.put, skA, skB, skC]
  refine tkS (i := 2) (v := (.int .i64 b0)) rfl (Or.inl ⟨by rfl, fun w' hq => by go_simp⟩) trivial ?_
  simp only [Act.put, skA, skB, skC]
  refine tkS (i := 3) (v := (.int .i64 (b0 * 16777216))) rfl (Or.inl ⟨by rfl, fun w' hq => by go_simp⟩) trivial ?_
  simp only [Act.put, skA, skB, skC]
  refine tkS (i := 4) (v := (.string s)) rfl (Or.inl ⟨by rfl, fun w' hq => by go_simp⟩) trivial ?_
  simp only [Act.put, skA, skB, skC]
  refine tkS (i := 5) (v := (.int .u8 b1)) rfl (Or.inl ⟨by rfl, fun w' hq => by go_simp⟩) trivial ?_
  simp only [Act.put, skA, skB, skC]
  refine tkS (i := 6) (v := (.int .i64 b1)) rfl (Or.inl ⟨by rfl, fun w' hq => by go_simp⟩) trivial ?_
  simp only [Act.put, skA, skB, skC]
  refine tkS (i := 7) (v := (.int .i64 (b1 * 65536))) rfl (Or.inl ⟨by rfl, fun w' hq => by go_simp⟩) trivial ?_
  simp only [Act.put, skA, skB, skC]
  refine tkS (i := 8) (v := (.int .i64 (b0 * 16777216 + b1 * 65536))) rfl (Or.inl ⟨by rfl, fun w' hq => by go_simp⟩) trivial ?_
  simp only [Act.put, skA, skB, skC]
  refine tkS (i := 9) (v := (.string s)) rfl (Or.inl ⟨by rfl, fun w' hq => by go_simp⟩) trivial ?_
  simp only [Act.put, skA, skB, skC]
  refine tkS (i := 10) (v := (.int .u8 b2)) rfl (Or.inl ⟨by rfl, fun w' hq => by go_simp⟩) trivial ?_
  simp only [Act.put, skA, skB, skC]
  refine tkS (i := 11) (v := (.int .i64 b2)) rfl (Or.inl ⟨by rfl, fun w' hq => by go_simp⟩) trivial ?_
  simp only [Act.put, skA, skB, skC]
  refine tkS (i := 12) (v := (.int .i64 (b2 * 256))) rfl (Or.inl ⟨by rfl, fun w' hq => by go_simp⟩) trivial ?_
  simp only [Act.put, skA, skB, skC]
  refine tkS (i := 13) (v := (.int .i64 (b0 * 16777216 + b1 * 65536 + b2 * 256))) rfl (Or.inl ⟨by rfl, fun w' hq => by go_simp⟩) trivial ?_
  simp only [Act.put, skA, skB, skC]
  refine tkS (i := 14) (v := (.string s)) rfl (Or.inl ⟨by rfl, fun w' hq => by go_simp⟩) trivial ?_
  simp only [Act.put, skA, skB, skC]
  refine tkS (i := 15) (v := (.int .u8 b3)) rfl (Or.inl ⟨by rfl, fun w' hq => by go_simp⟩) trivial ?_
  simp only [Act.put, skA, skB, skC]
  refine tkS (i := 16) (v := (.int .i64 b3)) rfl (Or.inl ⟨by rfl, fun w' hq => by go_simp⟩) trivial ?_
  simp only [Act.put, skA, skB, skC]
  refine tkS (i := 17) (v := (.int .i64 (b0 * 16777216 + b1 * 65536 + b2 * 256 + b3))) rfl (Or.inl ⟨by rfl, fun w' hq => by go_simp⟩) trivial ?_
  simp only [Act.put, skA, skB, skC]
  rw [← hnum]
  obtain ⟨x, hx⟩ : ∃ x, num b 0 = x := ⟨_, rfl⟩
  have HX := Lib.hid hx
  rw [hx] at hnum ⊢
  clear hx
  refine tkS (i := 18) (v := (.int .i64 x)) rfl (Or.inl ⟨by rfl, fun w' hq => by go_simp⟩) trivial ?_
  simp only [Act.put, skA, skB, skC]
  refine wpAnyH_done (by kernel_rfl) ?_ _
  clear hix0 hix1 hix2 hix3 hnum g0 g1 g2 g3 hwb0 hwb1 hwb2 hwc0 hwc1 hwc2 hwc3 ho1 ho2 ho3
  go_wp2_with fail
  go_ret
  exact ⟨by first | rfl | (rw [HX.out]; rfl), (Kp.refl NoB w).drew⟩
theorem wat_q (w : World) (k : Nat) (hk : k ≤ 1048576) : Calls Tryz.prog 153 #[.int .i64 (k : Int)] w fun e w' => e = .returned (.int .i64 ((64 + 320 * k : Nat) : Int)) ∧ w = w' := by
  have h1 : IntKind.i64.wrap ((k : Int) * 320) = (k : Int) * 320 := by rw [IntKind.wrap_i64]; omega
  have h2 : IntKind.i64.wrap (64 + (k : Int) * 320) = ((64 + 320 * k : Nat) : Int) := by rw [IntKind.wrap_i64]; omega
  go_enter Tryz.func153, Tryz.ntmps153
  go_wp2_with fail
  go_ret
  exact ⟨rfl, rfl⟩
end Go.Proofs.YtoeldmkbmnkhkaaGreat
