/- Texts of this proof, one behind the other: lemmas and contracts; each says its own conditions. -/
import Derived.Test.YtegcbdfilkecpaaM9
import Derived.Test.YtegcbdfilkecpaaM10
/- The journal: the records of a hot journal; no condition but on the texts' lengths and the counts. -/
namespace Go.Proofs.Ytegcbdfilkecpaa
open Go.RowKit

/-- the pages with their cells one behind the other -/
def pgsCells (l : List Pg) : List Value := l.flatMap pgL
def OwnPgs (w : World) (n0 : Nat) (v : Value) (l : List Pg) : Prop := w.ownsRow n0 113 257 v l.length (pgsCells l) ∧ ∀ x ∈ l, PgOk x
structure W4Ok (v : W4) : Prop where
  a : 0 ≤ v.a ∧ v.a < 4294967296
  b : 0 ≤ v.b ∧ v.b < 4294967296
  c : 0 ≤ v.c ∧ v.c < 4294967296
  d : 0 ≤ v.d ∧ v.d < 4294967296
/-- what records answers -/
def RcPost (S : Nat → Prop) (w : World) (db : Nat) (p : Pl) (r : Option (List Pg)) (e : Ending) (w' : World) : Prop :=
  Kp NoB w w' ∧ ((r = none ∧ e = .returned (.tuple #[.slice none 0 0, .bool false])) ∨ ∃ l v, r = some l ∧ e = .returned (.tuple #[v, .bool true]) ∧ OwnPgs w' w.heap.size v l)
def RcRel (w1 : World) (p : Pl) (vb : Int) (N : Nat) (R : Option (List Pg)) (v6 v7 v37 : Value) (wr : World) : Prop :=
  ∃ (k : Nat) (last : Int) (acc : List Pg), v37 = .int .i64 (k : Int) ∧ v7 = .int .i64 last ∧ k ≤ N ∧ acc.length = k ∧ R = (recsPg (p.seen nmJn) vb (N - k) k last).map (acc ++ ·) ∧ OwnPgs wr w1.heap.size v6 acc ∧ Kp NoB w1 wr
theorem recsPg_succ (l : List Int) (top : Int) (i k : Nat) (last : Int) : recsPg l top (i + 1) k last = if ((l.drop (64 + 320 * k)).take 320).length < 320 then none else if (((l.drop (64 + 320 * k)).take 320).drop 4).take 60 = zeros 60 ∧ last < num ((l.drop (64 + 320 * k)).take 320) 0 ∧ num ((l.drop (64 + 320 * k)).take 320) 0 ≤ top then
      (recsPg l top i (k + 1) (num ((l.drop (64 + 320 * k)).take 320) 0)).map fun r => ⟨num ((l.drop (64 + 320 * k)).take 320) 0, ((l.drop (64 + 320 * k)).take 320).drop 64⟩ :: r
    else none := rfl
theorem recs_step (jl : List Int) (vb : Int) (N k : Nat) (last : Int) (hk : k < N) :
    ((((jl.drop (64 + 320 * k)).take 320).length < 320 → recsPg jl vb (N - k) k last = none) ∧
    (¬ ((jl.drop (64 + 320 * k)).take 320).length < 320 → (((((jl.drop (64 + 320 * k)).take 320).drop 4).take 60 = zeros 60 ∧ last < num ((jl.drop (64 + 320 * k)).take 320) 0 ∧ num ((jl.drop (64 + 320 * k)).take 320) 0 ≤ vb) →
      recsPg jl vb (N - k) k last = (recsPg jl vb (N - (k + 1)) (k + 1) (num ((jl.drop (64 + 320 * k)).take 320) 0)).map fun r => ⟨num ((jl.drop (64 + 320 * k)).take 320) 0, ((jl.drop (64 + 320 * k)).take 320).drop 64⟩ :: r) ∧
      (¬ ((((jl.drop (64 + 320 * k)).take 320).drop 4).take 60 = zeros 60 ∧ last < num ((jl.drop (64 + 320 * k)).take 320) 0 ∧ num ((jl.drop (64 + 320 * k)).take 320) 0 ≤ vb) → recsPg jl vb (N - k) k last = none))) := by
  obtain ⟨m, hm⟩ : ∃ m, N - k = m + 1 := ⟨N - k - 1, by omega⟩
  rw [hm, show N - (k + 1) = m by omega, recsPg_succ]
  generalize (jl.drop (64 + 320 * k)).take 320 = b
  refine ⟨fun h => by rw [if_pos h], fun h => ⟨fun q => by rw [if_neg h, if_pos q], fun q => by rw [if_neg h, if_neg q]⟩⟩
theorem pg_fill {w : World} {g : Nat} {t : TypeId} {x : Int} {pb : List Int} (h : Blk w g t (pgA ⟨x, zeros 256⟩)) (hl : pb.length = 256) : Blk (w.setCells g 1 (pb.map (Value.int .u8))) g t (pgA ⟨x, pb⟩) := by
  have := Blk.cellsL (xa := [.int .i64 x]) (xb := (zeros 256).map (Value.int .u8)) (xd := []) (xs := pb.map (Value.int .u8)) (by rw [List.append_nil]; exact h) 1 rfl (by rw [List.length_map, List.length_map, hl]; simp only [zeros, List.length_replicate])
  rw [List.append_nil] at this
  exact this
theorem copyS_exec {w w' : World} {v : Value} {u1 u2 : Value} (h : (Builtin.copy_ #[42, 9] 3 #[u1, u2]).run Try.prog w = .ok v w') (ev : Operand → Value) {x y : Operand} {ds : Option Tmp} {ps : String} {af : Array Edge} {g : Option (Nat × Bool)} (hx : ev x = u1) (hy : ev y = u2) :
    (execOp ev ⟨ds, .call { callee := .builtin .copy, args := #[x, y], argTypes := #[42, 9] }, 3, ps, af, g⟩).run Try.prog w = .ok (.value v) w' := by
  simp only [execOp, resolve, invoke, builtin, Sem.run_bind, Sem.run_pure, Result.andThen_ok, List.map_toArray, List.map_cons, List.map_nil, hx, hy, h]
theorem pg_new (w : World) (x : Pg) : ∀ j u, (pgL x)[j]? = some u → (w.alloc (.cells (pgA x) 113)).cell? ((⟨w.heap.size, 0, none⟩ : Addr).add j) = some u := by
  intro j u hj
  rw [add_mk, Nat.zero_add, (Blk.new w 113 (pgA x)).cell]
  unfold pgA
  rw [List.getElem?_toArray]
  exact hj
theorem idxStr {s : ByteArray} {b : List Int} (hs : strOf b = s) (hr : ∀ y ∈ b, 0 ≤ y ∧ y < 256) {j : Nat} (hj : j < b.length) (W : World) : (Instr.index 9 (.string s) (.int .i64 (j : Int))).run Try.prog W = .ok (.int .u8 (b.getD j 0)) W := by
  have hsz := strOf_size b
  rw [hs] at hsz
  rw [run_index_string W 9 s .i64 j Try.underlying9, dif_pos ⟨by omega, by omega⟩]
  congr 2
  have hsi := strI_strOf b hr
  rw [hs] at hsi
  have h1 : b.getD j 0 = (strI s).getD j 0 := by rw [hsi]
  rw [h1]
  unfold strI
  have h2 : j < s.data.toList.length := by
    have : s.data.toList.length = s.size := by rw [Array.length_toList]; rfl
    omega
  rw [List.getD_eq_getElem?_getD, List.getElem?_map, List.getElem?_eq_getElem h2]
  simp
  rfl
theorem or_sum (k : Nat) (hk : k ≤ 24) (a x : Int) (h0 : 0 ≤ a) (h1 : a < 4294967296) (h2 : 0 ≤ x) (h3 : x < (2 : Int) ^ k) : bits BinOp.or IntKind.i64 (a * (2 : Int) ^ k) x = a * (2 : Int) ^ k + x := by
  obtain ⟨m, rfl⟩ := Int.eq_ofNat_of_zero_le h0
  obtain ⟨n, rfl⟩ := Int.eq_ofNat_of_zero_le h2
  have hp : (2 : Int) ^ k = ((2 ^ k : Nat) : Int) := by rw [Int.natCast_pow]; rfl
  have hp24 : 2 ^ k ≤ 2 ^ 24 := Nat.pow_le_pow_right (by omega) hk
  have hpp : 0 < 2 ^ k := Nat.two_pow_pos k
  rw [hp] at h3 ⊢
  have hm : m < 4294967296 := by omega
  have hn : n < 2 ^ k := by omega
  have hb : m * 2 ^ k ≤ 4294967295 * 2 ^ 24 := Nat.mul_le_mul (by omega) hp24
  have e : bits BinOp.or IntKind.i64 ((m : Int) * ((2 ^ k : Nat) : Int)) n = IntKind.i64.wrap ((BitVec.ofInt 64 ((m : Int) * ((2 ^ k : Nat) : Int)) ||| BitVec.ofInt 64 n).toNat) := rfl
  have e1 : BitVec.ofInt 64 ((m : Int) * ((2 ^ k : Nat) : Int)) = BitVec.ofNat 64 (m * 2 ^ k) := by
    rw [← Int.natCast_mul]
    exact BitVec.ofInt_natCast _ _
  have e2 : BitVec.ofInt 64 (n : Int) = BitVec.ofNat 64 n := BitVec.ofInt_natCast _ _
  rw [e, e1, e2, BitVec.toNat_or, BitVec.toNat_ofNat, BitVec.toNat_ofNat, Nat.mod_eq_of_lt (by omega), Nat.mod_eq_of_lt (by omega)]
  have h := Nat.shiftLeft_add_eq_or_of_lt (i := k) (b := n) hn m
  rw [Nat.shiftLeft_eq] at h
  rw [h.symm, IntKind.wrap_i64, ← Int.natCast_mul]
  omega
theorem zz_next {z : List Int} {j : Nat} (h : ∀ i, i < j → z.getD i 0 = 0) (h2 : z.getD j 0 = 0) : ∀ i, i < j + 1 → z.getD i 0 = 0 := fun i hi => by
  rcases Nat.lt_or_ge i j with q | q
  · exact h i q
  · obtain rfl : i = j := by omega
    exact h2
theorem bytesOf (w : World) (z : List Int) (hz : ∀ y ∈ z, 0 ≤ y ∧ y < 256) : ∃ cap w', (convert 9 42 (.string (strOf z))).run Try.prog w = .ok (.slice (some ⟨w.heap.size, 0, none⟩) z.length cap) w' ∧ Kp NoB w w' ∧ w.heap.size < w'.heap.size ∧ ∀ j, j < z.length → w'.cell? ⟨w.heap.size, j, none⟩ = some (.int .u8 (z.getD j 0)) := by
  have h := run_bytes_of_string w 9 42 5 (strOf z) Try.underlying9 Try.underlying42 Try.underlying5
  rw [strOf_size] at h
  obtain ⟨cap, hcap⟩ : ∃ c, grownCap w z.length 0 5 = c := ⟨_, rfl⟩
  rw [hcap] at h
  obtain ⟨fz, hfz⟩ : ∃ fz, ((bytesRow (strOf z) cap).size, (bytesRow (strOf z) cap).size + 1) = fz := ⟨_, rfl⟩
  rw [hfz] at h
  refine ⟨_, _, h, (Kp.refl NoB w).drew.alloc _, lt_of_heap (heap_alloc_new w.drew _), fun j hj => ?_⟩
  have hjs : j < (strOf z).data.size := by have := strOf_size z; show j < (strOf z).size; omega
  have hrow := cell_of_row (w.drew.alloc (.cells (bytesRow (strOf z) cap) 5 fz)) w.heap.size j (bytesRow (strOf z) cap) 5 fz (heap_alloc_new w.drew _)
  rw [hrow, bytesRow_at _ _ j hjs]
  refine congrArg (fun y : Int => some (Value.int .u8 y)) ?_
  have hsi := strI_strOf z hz
  have h1 : z.getD j 0 = (strI (strOf z)).getD j 0 := by rw [hsi]
  rw [h1]
  unfold strI
  rw [List.getD_eq_getElem?_getD, List.getElem?_map, List.getElem?_eq_getElem (by simpa using hjs)]
  simp
section
variable {S : Nat → Prop} {W0 w : World} {db : Nat} {p : Pl}
attribute [local go_sem ↓] loadPg storePg allocPg exSlicePg
set_option maxRecDepth 100000 in
set_option maxHeartbeats 1600000 in
theorem records_q (h : Dq S w w db p) (hdn : p.down = false) (v : W4) (hv : W4Ok v) (ha : 1 ≤ v.a) :
    Calls Try.prog 51 #[.agg #[ptrV db], .agg (w4A v)] w (RcPost S w db p (recordsPg (p.seen nmJn) v)) := by
  have H := Lib.hid h
  have HD := Lib.hid hdn
  have HV := Lib.hid hv
  have HA := Lib.hid ha
  have hkb : Kp NoB w ((w.alloc (.cells #[ptrV db] 98)).alloc (.cells (w4A v) 102)) := ((Kp.refl _ _).alloc _).alloc _
  have hbd : Blk ((w.alloc (.cells #[ptrV db] 98)).alloc (.cells (w4A v) 102)) w.heap.size 98 #[ptrV db] := (Blk.new _ _ _).alloc _
  have hbw : Blk ((w.alloc (.cells #[ptrV db] 98)).alloc (.cells (w4A v) 102)) (w.heap.size + 1) 102 (w4A v) := Blk.newAt _ _ _ _ (by simp)
  obtain ⟨w1, hw1⟩ : ∃ w1, (w.alloc (.cells #[ptrV db] 98)).alloc (.cells (w4A v) 102) = w1 := ⟨_, rfl⟩
  have hs1 : w1.heap.size = w.heap.size + 1 + 1 := by rw [← hw1]; simp
  rw [hw1] at hkb hbd hbw
  have HKB := Lib.hid hkb
  have HBD := Lib.hid hbd
  have HBW := Lib.hid hbw
  have HS1 := Lib.hid hs1
  have c0 : w1.cell? ⟨w.heap.size + 1, 0, none⟩ = some (.int .u32 v.a) := hbw.cell 0
  have c1 : w1.cell? ⟨w.heap.size + 1, 1, none⟩ = some (.int .u32 v.b) := hbw.cell 1
  have c2 : w1.cell? ⟨w.heap.size + 1, 2, none⟩ = some (.int .u32 v.c) := hbw.cell 2
  have c3 : w1.cell? ⟨w.heap.size + 1, 3, none⟩ = some (.int .u32 v.d) := hbw.cell 3
  have hwa : IntKind.u32.wrap (v.a - 1) = v.a - 1 := by have := hv.a; rw [IntKind.wrap_u32]; omega
  have he : ∀ r, recordsPg (p.seen nmJn) v = r → Hid (recordsPg (p.seen nmJn) v = r) := fun r hr => Lib.hid hr
  obtain ⟨R, hR⟩ : ∃ R, recordsPg (p.seen nmJn) v = R := ⟨_, rfl⟩
  have HRR := Lib.hid hR
  rw [hR]
  have FB : Hid (4096 < v.a - 1 ∨ 4096 < v.b ∨ v.c ≠ 0 ∨ v.d ≠ 0 → RcPost S w db p R (.returned (.tuple #[.slice none 0 0, .bool false])) w1) := Lib.hid (fun hb => ⟨hkb, .inl ⟨by rw [← hR]; unfold recordsPg; rw [if_pos hb], rfl⟩⟩)
  clear h hdn hv ha hkb hbd hbw hs1 hR he
  obtain ⟨va, hva⟩ : ∃ va, v.a = va := ⟨_, rfl⟩
  obtain ⟨vb, hvb⟩ : ∃ vb, v.b = vb := ⟨_, rfl⟩
  obtain ⟨vc, hvc⟩ : ∃ vc, v.c = vc := ⟨_, rfl⟩
  obtain ⟨vd, hvd⟩ : ∃ vd, v.d = vd := ⟨_, rfl⟩
  rw [hva] at c0 hwa HA FB
  rw [hvb] at c1 FB
  rw [hvc] at c2 FB
  rw [hvd] at c3 FB
  have HVA := Lib.hid hva
  have HVB := Lib.hid hvb
  have HVC := Lib.hid hvc
  have HVD := Lib.hid hvd
  have hra := HV.out.a
  have hrb := HV.out.b
  rw [hva] at hra
  rw [hvb] at hrb
  clear hva hvb hvc hvd
  obtain ⟨j0, hj0, hy0, hy1, hy2⟩ := info_parts infoPgA
  have HJ0 := Lib.hid hj0
  have HY0 := Lib.hid hy0
  have HY1 := Lib.hid hy1
  have HY2 := Lib.hid hy2
  clear hj0 hy0 hy1 hy2
  unfold ptrV at hw1 ⊢
  by_cases hA : 4096 < va - 1
  · go_enter Try.func51, Try.ntmps51
    go_wp2_with fail
    go_ret2
    exact FB.out (.inl hA)
  · by_cases hB : 4096 < vb
    · go_enter Try.func51, Try.ntmps51
      go_wp2_with fail
      go_ret2
      exact FB.out (.inr (.inl hB))
    · by_cases hC : vc = 0
      · subst hC
        by_cases hD : vd = 0
        · subst hD
          go_enter Try.func51, Try.ntmps51
          obtain ⟨N, hN⟩ : ∃ N : Nat, va - 1 = N := ⟨(va - 1).toNat, by have := HA.out; omega⟩
          have HN := Lib.hid hN
          have hR0 : Hid (R = recsPg (p.seen nmJn) vb N 0 0) := Lib.hid (by
            rw [← HRR.out]
            unfold recordsPg
            rw [if_neg (by rw [HVA.out, HVB.out, HVC.out, HVD.out]; omega), HVA.out, HVB.out]
            rw [show (va - 1).toNat = N by omega])
          have hN4 : N ≤ 4096 := by omega
          clear hN
          go_wp2_with fail
          go_loopw [6, 7, 37] (fun v6 v7 v37 wr => RcRel w1 p vb N R v6 v7 v37 wr) (fun _ _ v _ => N - (intOf v).toNat)
          case atStart => exact ⟨0, 0, [], rfl, rfl, Nat.zero_le _, rfl, by rw [hR0.out]; simp, ⟨World.ownsRow_nil _ _ _ _, by simp⟩, Kp.refl _ _⟩
          case round =>
            obtain ⟨wq, rfl⟩ : ∃ wq, wq = wr := ⟨_, rfl⟩
            obtain ⟨k, last, acc, rfl, rfl, hk, hal, hre, how, hkp⟩ := hrel
            have HAL := Lib.hid hal
            clear hal
            have HRE := Lib.hid hre
            have HOW := Lib.hid how
            have HKP := Lib.hid hkp
            have HNN := HN.out
            have cd : wq.cell? ⟨w.heap.size, 0, none⟩ = some (.pointer (some ⟨db, 0, none⟩)) := by
              rw [hkp.cell HBD.out.lt (fun q => q), HBD.out.cell]; rfl
            have c1 : wq.cell? ⟨w.heap.size + 1, 1, none⟩ = some (.int .u32 vb) := by
              rw [hkp.cell HBW.out.lt (fun q => q)]; exact c1
            obtain ⟨A6, cap6, rfl⟩ := own_slice how.1
            by_cases hlt : k < N
            · have hkk : (k : Int) < va - 1 := by omega
              have hw1' : IntKind.i64.wrap ((k : Int) * 320) = (k : Int) * 320 := by rw [IntKind.wrap_i64]; omega
              have hw2' : IntKind.i64.wrap (64 + (k : Int) * 320) = 64 + (k : Int) * 320 := by rw [IntKind.wrap_i64]; omega
              have hr1 : (-9223372036854775808 : Int) ≤ 64 + (k : Int) * 320 ∧ 64 + (k : Int) * 320 ≤ 9223372036854775807 := by omega
              have hr2 : (-9223372036854775808 : Int) ≤ 320 ∧ (320 : Int) ≤ 9223372036854775807 := by omega
              have HR1 := Lib.hid hr1
              have HR2 := Lib.hid hr2
              clear hre how hkp hr1 hr2 HNN
              go_wp2_with fail
              refine (show Calls _ _ #[ptrV db, .string nmJn, .int .i64 (64 + (k : Int) * 320), .int .i64 320] _ _ from read_q ((H.out.keep HKB.out).keep HKP.out) nmJn (64 + (k : Int) * 320) 320 nmJn_le HR1.out HR2.out).mono ?_
              rintro e w2 ⟨rfl, hk2⟩
              have hkp2 := HKP.out.trans hk2 (fun _ _ q => q)
              have HKP2 := Lib.hid hkp2
              have HKQ := Lib.hid hk2
              have eE : p.readE (64 + (k : Int) * 320) 320 = 0 := by unfold Pl.readE; rw [HD.out, if_neg (by simp), if_neg (by omega)]
              have eR : p.read nmJn (64 + (k : Int) * 320) 320 = ((p.seen nmJn).drop (64 + 320 * k)).take 320 := by
                unfold Pl.read
                rw [eE, if_pos rfl]
                congr 2
                omega
              rw [eE, eR]
              have hrg : ∀ y ∈ ((p.seen nmJn).drop (64 + 320 * k)).take 320, 0 ≤ y ∧ y < 256 := fun y hy => H.out.seen_rng nmJn y (List.mem_of_mem_drop (List.mem_of_mem_take hy))
              have hle : (((p.seen nmJn).drop (64 + 320 * k)).take 320).length ≤ 320 := by simp; omega
              have hstep := recs_step (p.seen nmJn) vb N k last hlt
              obtain ⟨b, hb⟩ : ∃ b, ((p.seen nmJn).drop (64 + 320 * k)).take 320 = b := ⟨_, rfl⟩
              rw [hb] at hrg hle hstep ⊢
              have HST := Lib.hid hstep
              have HBR := Lib.hid hrg
              have hsz := strOf_size b
              have HSZ := Lib.hid hsz
              have hsm : (strOf b).size ≤ 320 := by rw [hsz]; exact hle
              clear hk2 hkp2 eE eR hb hstep
              by_cases hsh : b.length < 320
              · have hs1 : ((strOf b).size : Int) < 320 := by rw [hsz]; omega
                have HSH := Lib.hid hsh
                have e0 : R = none := by rw [HRE.out, HST.out.1 hsh]; rfl
                have HE0 := Lib.hid e0
                generalize strOf b = s at hs1 hsm ⊢
                clear hsz hrg hle hsh e0
                go_wp2_with fail
                go_ret2
                exact ⟨HKB.out.trans HKP2.out (fun _ _ q => q), .inl ⟨HE0.out, rfl⟩⟩
              · have hs1 : (strOf b).size = 320 := by rw [hsz]; omega
                have hs2 : ¬ ((strOf b).size : Int) < 320 := by rw [hs1]; omega
                have hbl : b.length = 320 := by omega
                have HBL := Lib.hid hbl
                have HS320 := Lib.hid hs1
                obtain ⟨s, hs⟩ : ∃ s, strOf b = s := ⟨_, rfl⟩
                rw [hs] at hs1 hs2 hsz hsm ⊢
                have HS := Lib.hid hs
                clear hsz hrg hle hsh hs hsm
                go_upto_region 11 with fail
                have HIX : Hid (∀ j, j < 320 → ∀ W, (Instr.index 9 (.string s) (.int .i64 ((j : Nat) : Int))).run Try.prog W = .ok (.int .u8 (b.getD j 0)) W) := Lib.hid (fun j hj W => idxStr HS.out HBR.out (by rw [HBL.out]; exact hj) W)
                have hix0 : ∀ W, (Instr.index 9 (.string s) (.int .i64 0)).run Try.prog W = .ok (.int .u8 (b.getD 0 0)) W := HIX.out 0 (by omega)
                have hix1 : ∀ W, (Instr.index 9 (.string s) (.int .i64 1)).run Try.prog W = .ok (.int .u8 (b.getD 1 0)) W := HIX.out 1 (by omega)
                have hix2 : ∀ W, (Instr.index 9 (.string s) (.int .i64 2)).run Try.prog W = .ok (.int .u8 (b.getD 2 0)) W := HIX.out 2 (by omega)
                have hix3 : ∀ W, (Instr.index 9 (.string s) (.int .i64 3)).run Try.prog W = .ok (.int .u8 (b.getD 3 0)) W := HIX.out 3 (by omega)
                have hnum : num b 0 = b.getD 0 0 * 16777216 + b.getD 1 0 * 65536 + b.getD 2 0 * 256 + b.getD 3 0 := rfl
                have g0 := getD_rng HBR.out 0
                have g1 := getD_rng HBR.out 1
                have g2 := getD_rng HBR.out 2
                have g3 := getD_rng HBR.out 3
                generalize b.getD 0 0 = b0 at hix0 hnum g0
                generalize b.getD 1 0 = b1 at hix1 hnum g1
                generalize b.getD 2 0 = b2 at hix2 hnum g2
                generalize b.getD 3 0 = b3 at hix3 hnum g3
                have hwb0 : IntKind.i64.wrap (b0 * 16777216) = b0 * 16777216 := by rw [IntKind.wrap_i64]; omega
                have hwb1 : IntKind.i64.wrap (b1 * 65536) = b1 * 65536 := by rw [IntKind.wrap_i64]; omega
                have hwb2 : IntKind.i64.wrap (b2 * 256) = b2 * 256 := by rw [IntKind.wrap_i64]; omega
                have hwc0 : IntKind.i64.wrap b0 = b0 := by rw [IntKind.wrap_i64]; omega
                have hwc1 : IntKind.i64.wrap b1 = b1 := by rw [IntKind.wrap_i64]; omega
                have hwc2 : IntKind.i64.wrap b2 = b2 := by rw [IntKind.wrap_i64]; omega
                have hwc3 : IntKind.i64.wrap b3 = b3 := by rw [IntKind.wrap_i64]; omega
                have ho1 : bits BinOp.or IntKind.i64 (b0 * 16777216) (b1 * 65536) = b0 * 16777216 + b1 * 65536 := or_sum 24 (by omega) b0 (b1 * 65536) (by omega) (by omega) (by omega) (by show _ < (16777216 : Int); omega)
                have ho2 : bits BinOp.or IntKind.i64 (b0 * 16777216 + b1 * 65536) (b2 * 256) = b0 * 16777216 + b1 * 65536 + b2 * 256 := by
                  have := or_sum 16 (by omega) (b0 * 256 + b1) (b2 * 256) (by omega) (by omega) (by omega) (by show _ < (65536 : Int); omega)
                  rw [show (b0 * 256 + b1) * (2 : Int) ^ 16 = b0 * 16777216 + b1 * 65536 by rw [show (2 : Int) ^ 16 = 65536 from rfl]; omega] at this
                  exact this
                have ho3 : bits BinOp.or IntKind.i64 (b0 * 16777216 + b1 * 65536 + b2 * 256) b3 = b0 * 16777216 + b1 * 65536 + b2 * 256 + b3 := by
                  have := or_sum 8 (by omega) (b0 * 65536 + b1 * 256 + b2) b3 (by omega) (by omega) (by omega) (by show _ < (256 : Int); omega)
                  rw [show (b0 * 65536 + b1 * 256 + b2) * (2 : Int) ^ 8 = b0 * 16777216 + b1 * 65536 + b2 * 256 by rw [show (2 : Int) ^ 8 = 256 from rfl]; omega] at this
                  exact this
                refine wp_region_held_drew (S := fun _ => True) (by kernel_rfl) trivial (fun hHeld => ?_)
                refine wpAnyH_takeL (i := 0) (v := (.string s)) rfl (by kernel_rfl) (by kernel_rfl) (by kernel_rfl) (fun _ _ _ h => h) (Or.inl ⟨by rfl, fun w' hq => by go_simp⟩) trivial ?_
                simp only [Act.put, List.setIfInBounds_toArray, List.set_cons_zero, List.set_cons_succ]
                refine wpAnyH_takeL (i := 1) (v := (.int .u8 b0)) rfl (by kernel_rfl) (by kernel_rfl) (by kernel_rfl) (fun _ _ _ h => h) (Or.inl ⟨by rfl, fun w' hq => by go_simp⟩) trivial ?_
                simp only [Act.put, List.setIfInBounds_toArray, List.set_cons_zero, List.set_cons_succ]
                refine wpAnyH_takeL (i := 2) (v := (.int .i64 b0)) rfl (by kernel_rfl) (by kernel_rfl) (by kernel_rfl) (fun _ _ _ h => h) (Or.inl ⟨by rfl, fun w' hq => by go_simp⟩) trivial ?_
                simp only [Act.put, List.setIfInBounds_toArray, List.set_cons_zero, List.set_cons_succ]
                refine wpAnyH_takeL (i := 3) (v := (.int .i64 (b0 * 16777216))) rfl (by kernel_rfl) (by kernel_rfl) (by kernel_rfl) (fun _ _ _ h => h) (Or.inl ⟨by rfl, fun w' hq => by go_simp⟩) trivial ?_
                simp only [Act.put, List.setIfInBounds_toArray, List.set_cons_zero, List.set_cons_succ]
                refine wpAnyH_takeL (i := 4) (v := (.string s)) rfl (by kernel_rfl) (by kernel_rfl) (by kernel_rfl) (fun _ _ _ h => h) (Or.inl ⟨by rfl, fun w' hq => by go_simp⟩) trivial ?_
                simp only [Act.put, List.setIfInBounds_toArray, List.set_cons_zero, List.set_cons_succ]
                refine wpAnyH_takeL (i := 5) (v := (.int .u8 b1)) rfl (by kernel_rfl) (by kernel_rfl) (by kernel_rfl) (fun _ _ _ h => h) (Or.inl ⟨by rfl, fun w' hq => by go_simp⟩) trivial ?_
                simp only [Act.put, List.setIfInBounds_toArray, List.set_cons_zero, List.set_cons_succ]
                refine wpAnyH_takeL (i := 6) (v := (.int .i64 b1)) rfl (by kernel_rfl) (by kernel_rfl) (by kernel_rfl) (fun _ _ _ h => h) (Or.inl ⟨by rfl, fun w' hq => by go_simp⟩) trivial ?_
                simp only [Act.put, List.setIfInBounds_toArray, List.set_cons_zero, List.set_cons_succ]
                refine wpAnyH_takeL (i := 7) (v := (.int .i64 (b1 * 65536))) rfl (by kernel_rfl) (by kernel_rfl) (by kernel_rfl) (fun _ _ _ h => h) (Or.inl ⟨by rfl, fun w' hq => by go_simp⟩) trivial ?_
                simp only [Act.put, List.setIfInBounds_toArray, List.set_cons_zero, List.set_cons_succ]
                refine wpAnyH_takeL (i := 8) (v := (.int .i64 (b0 * 16777216 + b1 * 65536))) rfl (by kernel_rfl) (by kernel_rfl) (by kernel_rfl) (fun _ _ _ h => h) (Or.inl ⟨by rfl, fun w' hq => by go_simp⟩) trivial ?_
                simp only [Act.put, List.setIfInBounds_toArray, List.set_cons_zero, List.set_cons_succ]
                refine wpAnyH_takeL (i := 9) (v := (.string s)) rfl (by kernel_rfl) (by kernel_rfl) (by kernel_rfl) (fun _ _ _ h => h) (Or.inl ⟨by rfl, fun w' hq => by go_simp⟩) trivial ?_
                simp only [Act.put, List.setIfInBounds_toArray, List.set_cons_zero, List.set_cons_succ]
                refine wpAnyH_takeL (i := 10) (v := (.int .u8 b2)) rfl (by kernel_rfl) (by kernel_rfl) (by kernel_rfl) (fun _ _ _ h => h) (Or.inl ⟨by rfl, fun w' hq => by go_simp⟩) trivial ?_
                simp only [Act.put, List.setIfInBounds_toArray, List.set_cons_zero, List.set_cons_succ]
                refine wpAnyH_takeL (i := 11) (v := (.int .i64 b2)) rfl (by kernel_rfl) (by kernel_rfl) (by kernel_rfl) (fun _ _ _ h => h) (Or.inl ⟨by rfl, fun w' hq => by go_simp⟩) trivial ?_
                simp only [Act.put, List.setIfInBounds_toArray, List.set_cons_zero, List.set_cons_succ]
                refine wpAnyH_takeL (i := 12) (v := (.int .i64 (b2 * 256))) rfl (by kernel_rfl) (by kernel_rfl) (by kernel_rfl) (fun _ _ _ h => h) (Or.inl ⟨by rfl, fun w' hq => by go_simp⟩) trivial ?_
                simp only [Act.put, List.setIfInBounds_toArray, List.set_cons_zero, List.set_cons_succ]
                refine wpAnyH_takeL (i := 13) (v := (.int .i64 (b0 * 16777216 + b1 * 65536 + b2 * 256))) rfl (by kernel_rfl) (by kernel_rfl) (by kernel_rfl) (fun _ _ _ h => h) (Or.inl ⟨by rfl, fun w' hq => by go_simp⟩) trivial ?_
                simp only [Act.put, List.setIfInBounds_toArray, List.set_cons_zero, List.set_cons_succ]
                refine wpAnyH_takeL (i := 14) (v := (.string s)) rfl (by kernel_rfl) (by kernel_rfl) (by kernel_rfl) (fun _ _ _ h => h) (Or.inl ⟨by rfl, fun w' hq => by go_simp⟩) trivial ?_
                simp only [Act.put, List.setIfInBounds_toArray, List.set_cons_zero, List.set_cons_succ]
                refine wpAnyH_takeL (i := 15) (v := (.int .u8 b3)) rfl (by kernel_rfl) (by kernel_rfl) (by kernel_rfl) (fun _ _ _ h => h) (Or.inl ⟨by rfl, fun w' hq => by go_simp⟩) trivial ?_
                simp only [Act.put, List.setIfInBounds_toArray, List.set_cons_zero, List.set_cons_succ]
                refine wpAnyH_takeL (i := 16) (v := (.int .i64 b3)) rfl (by kernel_rfl) (by kernel_rfl) (by kernel_rfl) (fun _ _ _ h => h) (Or.inl ⟨by rfl, fun w' hq => by go_simp⟩) trivial ?_
                simp only [Act.put, List.setIfInBounds_toArray, List.set_cons_zero, List.set_cons_succ]
                refine wpAnyH_takeL (i := 17) (v := (.int .i64 (b0 * 16777216 + b1 * 65536 + b2 * 256 + b3))) rfl (by kernel_rfl) (by kernel_rfl) (by kernel_rfl) (fun _ _ _ h => h) (Or.inl ⟨by rfl, fun w' hq => by go_simp⟩) trivial ?_
                simp only [Act.put, List.setIfInBounds_toArray, List.set_cons_zero, List.set_cons_succ]
                rw [← hnum]
                have hnr : 0 ≤ num b 0 ∧ num b 0 < 4294967296 := num_rng HBR.out 0
                generalize num b 0 = x at hnum hnr HST ⊢
                have HNR := Lib.hid hnr
                clear hix0 hix1 hix2 hix3 hnum g0 g1 g2 g3 hwb0 hwb1 hwb2 hwc0 hwc1 hwc2 hwc3 ho1 ho2 ho3 hnr
                refine wpAnyH_takeL (i := 18) (v := .agg (pgA ⟨x, zeros 256⟩)) rfl (by kernel_rfl) (by kernel_rfl) (by kernel_rfl) (fun _ _ _ h => h) (Or.inl ⟨by rfl, fun w' hq => exBuildPg1 w' _ _ x _ _ _ _ _ rfl⟩) trivial ?_
                simp only [Act.put, List.setIfInBounds_toArray, List.set_cons_zero, List.set_cons_succ]
                refine wpAnyH_ready (rs := [19]) (by kernel_rfl) (by simp) ?_
                refine AllReadyH.valR (fun W' => W' = w2.drew.alloc (.cells (pgA ⟨0, zeros 256⟩) 113)) rfl (by rfl) _ _ (allocPg w2.drew _ _ _ _ _ _) (fun _ _ => trivial) rfl ?_ AllReadyH.nil
                rintro _ rfl
                simp only [Act.put, List.setIfInBounds_toArray, List.set_cons_zero, List.set_cons_succ]
                have hbp := Blk.new w2.drew 113 (pgA ⟨0, zeros 256⟩)
                have hsz0 : ∀ n, (pgA ⟨n, zeros 256⟩).size = 257 := fun n => by simp [pgA, pgL, zeros]
                refine wpAnyH_ready (rs := [20]) (by kernel_rfl) (by simp) ?_
                refine AllReadyH.storeL rfl (by rfl) w2.drew.heap.size 0 (pgA ⟨x, zeros 256⟩) rfl rfl (hbp.thereAll _ (by rw [hsz0, hsz0])) (by rw [hsz0]; exact infoPgS) (pgA_ones _) trivial ?_ AllReadyH.nil
                refine wpAnyH_done (by kernel_rfl) ?_ _
                have hbx := hbp.whole (pgA ⟨x, zeros 256⟩) (by rw [hsz0, hsz0])
                have hkx : Kp NoB w2 ((w2.drew.alloc (.cells (pgA ⟨0, zeros 256⟩) 113)).setCells w2.drew.heap.size 0 (pgA ⟨x, zeros 256⟩).toList) := Kp.setCells (.inl (Nat.le_refl _)) _ _ _ ((Kp.refl NoB w2).drew.alloc _)
                have hG := hbx.lt
                generalize (w2.drew.alloc (.cells (pgA ⟨0, zeros 256⟩) 113)).setCells w2.drew.heap.size 0 (pgA ⟨x, zeros 256⟩).toList = w3 at hbx hkx hG ⊢
                obtain ⟨G, hGG⟩ : ∃ G, w2.drew.heap.size = G := ⟨_, rfl⟩
                rw [hGG] at hbx hG ⊢
                have HGG := Lib.hid hGG
                have HBX := Lib.hid hbx
                have HKX := Lib.hid hkx
                have HG := Lib.hid hG
                have he1 : s.extract 4 64 = strOf ((b.drop 4).take 60) := by rw [← HS.out]; exact strOf_sub b 4 64
                have hl60 : ((b.drop 4).take 60).length = 60 := by simp [HBL.out]
                have hzr : ∀ y ∈ (b.drop 4).take 60, 0 ≤ y ∧ y < 256 := fun y hy => HBR.out y (List.mem_of_mem_drop (List.mem_of_mem_take hy))
                obtain ⟨z, hz⟩ : ∃ z, (b.drop 4).take 60 = z := ⟨_, rfl⟩
                rw [hz] at he1 hl60 hzr HST
                obtain ⟨cap, w4, hcv, hk4, hs4, hc4⟩ := bytesOf w3 z hzr
                rw [hl60] at hcv
                have HK4 := Lib.hid (HKX.out.trans hk4 (fun _ _ q => q))
                have HBX4 := Lib.hid (HBX.out.keep hk4 (fun q => q))
                have HC4 := Lib.hid hc4
                have HL60 := Lib.hid hl60
                clear hbp hbx hkx hG hGG hHeld hk4 hc4 hz hzr
                go_wp2_with fail
                go_loopw [75] (fun v W => ∃ j : Nat, v = .int .i64 (j : Int) ∧ j ≤ 60 ∧ (∀ i, i < j → z.getD i 0 = 0) ∧ W = w4) (fun v _ => 60 - (intOf v).toNat)
                case atStart => exact ⟨0, rfl, by omega, fun i hi => absurd hi (by omega), rfl⟩
                case round =>
                  obtain ⟨j, rfl, hj, hzz, rfl⟩ := hrel
                  have HZZ := Lib.hid hzz
                  by_cases hj60 : j < 60
                  · have hjj : (j : Int) < 60 := by omega
                    have hcj := HC4.out j (by rw [HL60.out]; exact hj60)
                    obtain ⟨y, hy⟩ : ∃ y, z.getD j 0 = y := ⟨_, rfl⟩
                    rw [hy] at hcj
                    have HY := Lib.hid hy
                    clear hzz hy
                    by_cases hy0 : y = 0
                    · subst hy0
                      go_wp2_with fail
                      go_roundw
                      case rel => exact ⟨j + 1, by go_num, by omega, zz_next HZZ.out HY.out, trivial⟩
                      case measure => simp [intOf]; omega
                    · have hy1 : (y != 0) = true := by simpa using hy0
                      have hy2 : (y == 0) = false := by simpa using hy0
                      have HY0 := Lib.hid hy0
                      have hR : R = none := by
                        rw [HRE.out, (HST.out.2 (by rw [HBL.out]; omega)).2 (fun q => by
                          have q1 := HY.out
                          rw [q.1] at q1
                          exact HY0.out (by rw [← q1]; unfold zeros; rw [List.getD_eq_getElem?_getD, List.getElem?_replicate]; split <;> rfl))]
                        rfl
                      have HR9 := Lib.hid hR
                      clear hR
                      go_wp2_with fail
                      go_ret2
                      exact ⟨HKB.out.trans (HKP2.out.trans HK4.out (fun _ _ q => q)) (fun _ _ q => q), .inl ⟨HR9.out, rfl⟩⟩
                  · have hjj : ¬ (j : Int) < 60 := by omega
                    obtain rfl : j = 60 := by omega
                    have hzf : z = zeros 60 := by
                      apply List.ext_getElem
                      · rw [HL60.out]; simp [zeros]
                      · intro i h1 h2
                        have := hzz i (by rw [HL60.out] at h1; exact h1)
                        rw [List.getD_eq_getElem?_getD, List.getElem?_eq_getElem h1] at this
                        simp only [zeros, List.getElem_replicate]
                        exact this
                    have HZF := Lib.hid hzf
                    have he2 : s.extract 64 320 = strOf (b.drop 64) := by
                      rw [← HS.out, strOf_sub b 64 320, List.take_of_length_le (by simp [HBL.out])]
                    have hd64 : (b.drop 64).length = 256 := by simp [HBL.out]
                    have hdr : ∀ y ∈ b.drop 64, 0 ≤ y ∧ y < 256 := fun y hy => HBR.out y (List.mem_of_mem_drop hy)
                    have hpok : PgOk ⟨x, b.drop 64⟩ := ⟨hd64, hdr, by have := HNR.out; show _ ≤ x ∧ x ≤ _; omega⟩
                    have HPOK := Lib.hid hpok
                    have hst := HST.out.2 (by rw [HBL.out]; omega)
                    have HST2 := Lib.hid hst
                    obtain ⟨pb, hpb⟩ : ∃ pb, b.drop 64 = pb := ⟨_, rfl⟩
                    rw [hpb] at he2 hd64 hdr HPOK HST2
                    have hsi := strI_strOf pb hdr
                    have hss : (strOf pb).size = 256 := by rw [strOf_size]; exact hd64
                    obtain ⟨s2, hs2'⟩ : ∃ s2, strOf pb = s2 := ⟨_, rfl⟩
                    rw [hs2'] at he2 hsi hss
                    clear hzz hzf hst hpb hs2' hpok hdr
                    go_upto_region 18 with fail
                    refine wp_region_held_drew (S := fun _ => True) (by kernel_rfl) trivial (fun hHeld => ?_)
                    have hbx : Blk wr.drew G 113 (pgA ⟨x, zeros 256⟩) := HBX4.out
                    have hk5 : Kp NoB w2 wr.drew := HK4.out.drew
                    generalize wr.drew = w5 at hbx hk5 ⊢
                    have ht5 : w5.there G 1 s2.size := hbx.there (by rw [hss]; simp [pgA, pgL, zeros])
                    have hcp := copyS w5 G 1 256 256 s2 (by rw [hss]; omega) ht5
                    rw [hsi] at hcp
                    have hb6 := pg_fill hbx hd64
                    have hk6 : Kp NoB w2 (w5.setCells G 1 (pb.map (Value.int .u8))) := Kp.setCells (.inl (by have := HGG.out; show _ ≤ G; rw [← this]; exact Nat.le_refl _)) _ _ _ hk5
                    refine wpAnyH_takeL (i := 0) (v := (.pointer (some ⟨G, 1, none⟩))) rfl (by kernel_rfl) (by kernel_rfl) (by kernel_rfl) (fun _ _ _ h => h) (Or.inl ⟨by rfl, fun w' hq => by go_simp⟩) trivial ?_
                    simp only [Act.put, List.setIfInBounds_toArray, List.set_cons_zero, List.set_cons_succ]
                    refine wpAnyH_takeL (i := 1) (v := (.slice (some ⟨G, 1, none⟩) 256 256)) rfl (by kernel_rfl) (by kernel_rfl) (by kernel_rfl) (fun _ _ _ h => h) (Or.inl ⟨by rfl, fun w' hq => by go_simp⟩) trivial ?_
                    simp only [Act.put, List.setIfInBounds_toArray, List.set_cons_zero, List.set_cons_succ]
                    refine wpAnyH_takeL (i := 2) (v := (.string s)) rfl (by kernel_rfl) (by kernel_rfl) (by kernel_rfl) (fun _ _ _ h => h) (Or.inl ⟨by rfl, fun w' hq => by go_simp⟩) trivial ?_
                    simp only [Act.put, List.setIfInBounds_toArray, List.set_cons_zero, List.set_cons_succ]
                    refine wpAnyH_takeL (i := 3) (v := (.string s2)) rfl (by kernel_rfl) (by kernel_rfl) (by kernel_rfl) (fun _ _ _ h => h) (Or.inl ⟨by rfl, fun w' hq => by go_simp⟩) trivial ?_
                    simp only [Act.put, List.setIfInBounds_toArray, List.set_cons_zero, List.set_cons_succ]
                    refine wpAnyH_ready (rs := [4]) (by kernel_rfl) (by simp) ?_
                    refine AllReadyH.valR (fun W' => W' = w5.setCells G 1 (pb.map (Value.int .u8))) rfl (by rfl) _ _ (copyS_exec hcp _ rfl rfl) (fun _ _ => trivial) rfl ?_ AllReadyH.nil
                    rintro _ rfl
                    simp only [Act.put, List.setIfInBounds_toArray, List.set_cons_zero, List.set_cons_succ]
                    refine wpAnyH_done (by kernel_rfl) ?_ _
                    generalize w5.setCells G 1 (pb.map (Value.int .u8)) = w6 at hb6 hk6 ⊢
                    have HB6 := Lib.hid hb6
                    have HK6 := Lib.hid hk6
                    have cx : w6.cell? ⟨G, 0, none⟩ = some (.int .i64 x) := hb6.cell 0
                    have cb : w6.cell? ⟨w.heap.size + 1, 1, none⟩ = some (.int .u32 vb) := by
                      rw [hk6.cell (Nat.lt_of_lt_of_le (block_lt_of_cell c1) HKQ.out.size) (fun q => q), HKQ.out.cell (block_lt_of_cell c1) (fun q => q)]; exact c1
                    clear hbx hk5 ht5 hcp hb6 hk6 hHeld he1 he2 hsi hss hsz0 hl60 hcv hs4 hj hj60 hjj hd64 cd c0 c1 c2 c3 hw1' hw2' hs1 hs2 hbl hw1 hwa
                    by_cases hle : x ≤ last
                    · have e0 : R = none := by
                        rw [HRE.out, HST2.out.2 (fun q => by have := q.2.1; omega)]; rfl
                      have HE0 := Lib.hid e0
                      clear e0
                      go_wp2_with fail
                      go_ret2
                      exact ⟨HKB.out.trans (HKP2.out.trans HK6.out (fun _ _ q => q)) (fun _ _ q => q), .inl ⟨HE0.out, rfl⟩⟩
                    · by_cases hgt : vb < x
                      · have e0 : R = none := by
                          rw [HRE.out, HST2.out.2 (fun q => by have := q.2.2; omega)]; rfl
                        have HE0 := Lib.hid e0
                        clear e0
                        go_wp2_with fail
                        go_ret2
                        exact ⟨HKB.out.trans (HKP2.out.trans HK6.out (fun _ _ q => q)) (fun _ _ q => q), .inl ⟨HE0.out, rfl⟩⟩
                      · have e0 := HST2.out.1 ⟨HZF.out, by omega, by omega⟩
                        have HE0 := Lib.hid e0
                        have t6 : w6.there G 0 257 := HB6.out.thereAll 257 (pgA_size HPOK.out)
                        have r6 : readRow w6 G 0 257 = pgA ⟨x, pb⟩ := HB6.out.readAll 257 (pgA_size HPOK.out)
                        obtain ⟨RR, hRR⟩ : ∃ RR, pgA ⟨x, pb⟩ = RR := ⟨_, rfl⟩
                        have hrs : RR.size = 257 := by rw [← hRR]; exact pgA_size HPOK.out
                        rw [hRR] at r6
                        have HRR2 := Lib.hid hRR
                        clear e0 hRR
                        go_wp2_with fail
                        have hcn := pg_new w6 ⟨x, pb⟩
                        rw [HRR2.out] at hcn
                        refine wp_append_ownB (.tmp 101) (.tmp 103) 22 rfl w1.heap.size 113 j0 _ 257 264 Try.underlying22 HJ0.out HY0.out HY1.out HY2.out rfl (by omega) (.slice A6 acc.length cap6) acc.length (pgsCells acc) rfl
                          (own_keepB HOW.out.1 ((HKQ.out.trans HK6.out (fun _ _ q => q)).alloc _) (fun _ _ q => q)) ⟨w6.heap.size, 0, none⟩ 1 1 (pgL ⟨x, pb⟩) rfl (pgL_len HPOK.out) hcn (pgL_one _) (by have := HAL.out; unfold maxLen; omega) (by have := HAL.out; omega)
                          (by have h1 := HKP2.out.size; have h2 := HK6.out.size; simp; omega) ?_
                        intro v7 w7 hown7 hgrow7 hb7
                        obtain ⟨A7, c7, rfl⟩ := own_slice hown7
                        have hk7 := ((HKP2.out.trans HK6.out (fun _ _ q => q)).alloc (.cells RR 113)).own hgrow7 rfl HOW.out.1
                        have HK7 := Lib.hid hk7
                        have HO7 := Lib.hid hown7
                        clear hown7 hgrow7 hb7 hk7 hcn t6 r6
                        go_wp2_with fail
                        go_roundw
                        case rel =>
                          refine ⟨k + 1, x, acc ++ [⟨x, pb⟩], by go_num, rfl, by omega, by rw [List.length_append, HAL.out]; rfl, ?_, ⟨?_, ?_⟩, HK7.out⟩
                          · rw [HRE.out, HE0.out]
                            cases recsPg (p.seen nmJn) vb (N - (k + 1)) (k + 1) x <;> simp
                          · have := HO7.out
                            unfold pgsCells at this ⊢
                            rw [List.flatMap_append, List.length_append]
                            simpa using this
                          · intro y hy
                            rcases List.mem_append.1 hy with q | q
                            · exact HOW.out.2 y q
                            · rw [List.mem_singleton.1 q]; exact HPOK.out
                        case measure => simp [intOf]; omega
            · have hkk : ¬ (k : Int) < va - 1 := by have := HNN; omega
              obtain rfl : k = N := by omega
              have e0 : R = some acc := by
                rw [hre, Nat.sub_self]
                show (some []).map (acc ++ ·) = _
                simp
              have HE0 := Lib.hid e0
              clear hre how hkp e0
              go_wp2_with fail
              go_ret2
              refine ⟨HKB.out.trans HKP.out (fun _ _ q => q), .inr ⟨acc, _, HE0.out, rfl, ?_⟩⟩
              exact ⟨HOW.out.1.mono HKB.out.size, HOW.out.2⟩
        · have hD1 : (vd != 0) = true := by simpa using hD
          have hD2 : (vd == 0) = false := by simpa using hD
          go_enter Try.func51, Try.ntmps51
          go_wp2_with fail
          go_ret2
          exact FB.out (.inr (.inr (.inr hD)))
      · have hC1 : (vc != 0) = true := by simpa using hC
        have hC2 : (vc == 0) = false := by simpa using hC
        go_enter Try.func51, Try.ntmps51
        go_wp2_with fail
        go_ret2
        exact FB.out (.inr (.inr (.inl hC)))
end
end Go.Proofs.Ytegcbdfilkecpaa
/- The journal: may pages be changed; no condition but on the counts. -/
namespace Go.Proofs.Ytegcbdfilkecpaa
open Go.RowKit

theorem chainPg_cons (count last : Int) (x : Pg) (r : List Pg) : chainPg count last (x :: r) = (decide (last < x.n ∧ x.n ≤ count) && chainPg count x.n r) := rfl
theorem above_cons (old : Int) (x : Pg) (r : List Pg) : above old (x :: r) = above old r + if old < x.n then 1 else 0 := by
  unfold above
  rw [List.countP_cons]
  simp
theorem above_le (old : Int) (l : List Pg) : above old l ≤ l.length := List.countP_le_length
section
attribute [local go_sem ↓] loadPg storePg allocPg
def FiRel (w : World) (old count : Int) (l : List Pg) (v7 v8 v19 : Value) (wr : World) : Prop :=
  ∃ (last : Int) (ab k : Nat), v7 = .int .i64 last ∧ v8 = .int .i64 (ab : Int) ∧ v19 = .int .i64 (k : Int) ∧ k ≤ l.length ∧ ab ≤ k ∧ chainPg count 0 l = chainPg count last (l.drop k) ∧ above old l = ab + above old (l.drop k) ∧ Kp NoB w wr
set_option maxRecDepth 100000 in
set_option maxHeartbeats 1600000 in
theorem fit_q (w : World) (old count : Int) (ho : 0 ≤ old ∧ old ≤ 4096) (hc : -9223372036854775808 ≤ count ∧ count ≤ 9223372036854775807) (A : Option Addr) (n cap : Nat) (l : List Pg) (hl : PgsAt w A n l) (hok : ∀ x ∈ l, PgOk x) (hnn : n < 1099511627776) :
    Calls Try.prog 58 #[.int .i64 old, .int .i64 count, .slice A n cap] w fun e w' => e = .returned (.bool (fitPg old count l)) ∧ Kp NoB w w' := by
  have HL := Lib.hid hl
  have HOK := Lib.hid hok
  have HLN := Lib.hid hl.len
  have HO := Lib.hid ho
  clear hl hok ho
  by_cases h1 : count < 0
  · have e1 : fitPg old count l = false := by unfold fitPg; rw [decide_eq_false (by omega)]; rfl
    rw [e1]
    clear e1
    go_enter Try.func58, Try.ntmps58
    go_wp2_with fail
    go_ret
    exact ⟨rfl, Kp.refl _ _⟩
  · by_cases h2 : 4096 < count
    · have e1 : fitPg old count l = false := by unfold fitPg; rw [decide_eq_false (by omega)]; rfl
      rw [e1]
      clear e1
      go_enter Try.func58, Try.ntmps58
      go_wp2_with fail
      go_ret
      exact ⟨rfl, Kp.refl _ _⟩
    · have e1 : fitPg old count l = (chainPg count 0 l && decide ((above old l : Int) = max 0 (count - old))) := by unfold fitPg; rw [decide_eq_true (by omega)]; rfl
      obtain ⟨B, hB⟩ : ∃ B, fitPg old count l = B := ⟨_, rfl⟩
      rw [hB] at e1 ⊢
      have HE := Lib.hid e1
      have HC := Lib.hid (show 0 ≤ count ∧ count ≤ 4096 by omega)
      clear e1 hB
      go_enter Try.func58, Try.ntmps58
      go_wp2_with fail
      go_loopw [7, 8, 19] (fun v7 v8 v19 wr => FiRel w old count l v7 v8 v19 wr) (fun _ _ v _ => n - (intOf v).toNat)
      case atStart => exact ⟨0, 0, 0, rfl, rfl, rfl, Nat.zero_le _, Nat.le_refl _, rfl, by simp, Kp.refl _ _⟩
      case round =>
        obtain ⟨last, ab, k, rfl, rfl, rfl, hk, hab, hch, habv, hkp⟩ := hrel
        have HCH := Lib.hid hch
        have HAV := Lib.hid habv
        have HKP := Lib.hid hkp
        have hlr := HL.out.keep hkp
        clear hch habv hkp
        by_cases hlt : k < n
        · have hkk : (k : Int) < (n : Int) := by omega
          obtain ⟨g, o, rfl, hg, t1, r1⟩ := hlr.at_ k hlt
          obtain ⟨x, hx⟩ : ∃ x, l[k]? = some x := ⟨_, List.getElem?_eq_getElem (by rw [HLN.out]; exact hlt)⟩
          have hxe : l[k]'(by rw [HLN.out]; exact hlt) = x := (List.getElem?_eq_some_iff.1 hx).2
          rw [hxe] at r1
          have hxo := HOK.out x (List.mem_of_getElem? hx)
          have hdr : l.drop k = x :: l.drop (k + 1) := by rw [← hxe]; exact List.drop_eq_getElem_cons (by rw [HLN.out]; exact hlt)
          have HDR := Lib.hid hdr
          have hb := Blk.new wr 113 (pgA ⟨0, zeros 256⟩)
          have hb2 := hb.whole (pgA x) (by rw [pgA_size hxo]; rfl)
          have t2 := hb.thereAll 257 rfl
          have o1 := pgA_ones x
          have s1 := pgA_size hxo
          have hc0 := hb2.cell 0
          rw [show (pgA x)[0]? = some (.int .i64 x.n) from rfl] at hc0
          have HK3 := Lib.hid (show Kp NoB wr ((wr.alloc (.cells (pgA ⟨0, zeros 256⟩) 113)).setCells wr.heap.size 0 (pgA x).toList) from Kp.setCells (.inl (Nat.le_refl _)) _ _ _ ((Kp.refl _ _).alloc _))
          obtain ⟨RR, hRR⟩ : ∃ RR, pgA x = RR := ⟨_, rfl⟩
          rw [hRR] at r1 o1 s1 hc0 HK3
          have hch2 : chainPg count last (l.drop k) = (decide (last < x.n ∧ x.n ≤ count) && chainPg count x.n (l.drop (k + 1))) := by rw [hdr]; rfl
          have hav2 : above old (l.drop k) = above old (l.drop (k + 1)) + if old < x.n then 1 else 0 := by rw [hdr]; exact above_cons _ _ _
          rw [hch2] at HCH
          rw [hav2] at HAV
          obtain ⟨xn, hxn⟩ : ∃ xn, x.n = xn := ⟨_, rfl⟩
          rw [hxn] at hc0 HCH HAV
          clear hRR hlr hb hb2 hx hxe hxo hdr hch2 hav2 hxn HDR
          by_cases hle : xn ≤ last
          · have hnl : ¬ last < xn := by omega
            rw [decide_eq_false (by omega)] at HCH
            go_wp2_with fail
            go_ret
            rw [HE.out, HCH.out]
            exact ⟨rfl, HKP.out.trans HK3.out (fun _ _ q => q)⟩
          · have hnl : last < xn := by omega
            by_cases hgt : count < xn
            · rw [decide_eq_false (by omega)] at HCH
              go_wp2_with fail
              go_ret
              rw [HE.out, HCH.out]
              exact ⟨rfl, HKP.out.trans HK3.out (fun _ _ q => q)⟩
            · rw [decide_eq_true (by omega), Bool.true_and] at HCH
              by_cases hol : old < xn
              · rw [if_pos hol] at HAV
                go_wp2_with fail
                go_roundw
                case rel => exact ⟨xn, ab + 1, k + 1, rfl, by go_num, by go_num, by have := HLN.out; omega, by omega, HCH.out, by rw [HAV.out]; omega, HKP.out.trans HK3.out (fun _ _ q => q)⟩
                case measure => simp [intOf]; omega
              · rw [if_neg hol] at HAV
                go_wp2_with fail
                go_roundw
                case rel => exact ⟨xn, ab, k + 1, rfl, rfl, by go_num, by have := HLN.out; omega, by omega, HCH.out, by rw [HAV.out]; omega, HKP.out.trans HK3.out (fun _ _ q => q)⟩
                case measure => simp [intOf]; omega
        · have hkk : ¬ (k : Int) < (n : Int) := by omega
          obtain rfl : k = n := by have := HLN.out; omega
          have hd0 : l.drop k = [] := List.drop_eq_nil_of_le (by rw [HLN.out]; omega)
          rw [hd0] at HCH HAV
          have HF : Hid (B = decide ((ab : Int) = max 0 (count - old))) := Lib.hid (by
            rw [HE.out, HCH.out, HAV.out]
            rfl)
          have hw1 : IntKind.i64.wrap (count - old) = count - old := by have := HO.out; have := HC.out; rw [IntKind.wrap_i64]; omega
          clear hlr hd0 HCH HAV
          rcases (show count - old < 0 ∨ count - old = 0 ∨ 0 < count - old by omega) with hs | hs | hs
          all_goals
            go_wp2_with fail
            go_ret
            rw [HF.out]
            refine ⟨?_, HKP.out⟩
            show Ending.returned (Value.bool _) = _
            congr 2
            rw [Bool.eq_iff_iff, beq_iff_eq, decide_eq_true_iff]
            omega
end
end Go.Proofs.Ytegcbdfilkecpaa
/- The journal: a page's number searched among pages in order; no condition but on the counts. -/
namespace Go.Proofs.Ytegcbdfilkecpaa
open Go.RowKit

section
attribute [local go_sem ↓] loadPg storePg allocPg
set_option maxRecDepth 100000 in
theorem commit1_q (w : World) (x : Pg) (n : Int) (hn : 1 ≤ n ∧ n ≤ 4096) (hx : 1 ≤ x.n ∧ x.n ≤ 4096) :
    Calls Try.prog 60 #[.agg (pgA x), .int .i64 n] w fun e w' => e = .returned (.int .i64 (x.n - n)) ∧ Kp NoB w w' := by
  have hw : IntKind.i64.wrap (x.n - n) = x.n - n := by rw [IntKind.wrap_i64]; omega
  have hc0 : (w.alloc (.cells (pgA x) 113)).cell? ⟨w.heap.size, 0, none⟩ = some (.int .i64 x.n) := (Blk.new w 113 (pgA x)).cell 0
  go_enter Try.func60, Try.ntmps60
  go_wp2_with fail
  go_ret
  exact ⟨rfl, (Kp.refl _ _).alloc _⟩
/-- pages whose numbers rise -/
def Rises (l : List Pg) : Prop := ∀ (i j : Nat) (x y : Pg), i < j → l[i]? = some x → l[j]? = some y → x.n < y.n
def BsRel (w : World) (l : List Pg) (n : Int) (v9 v10 : Value) (wr : World) : Prop :=
  ∃ lo hi : Nat, v9 = .int .i64 (lo : Int) ∧ v10 = .int .i64 (hi : Int) ∧ lo ≤ hi ∧ hi ≤ l.length ∧ (∀ (t : Nat) (x : Pg), t < lo → l[t]? = some x → x.n < n) ∧ (∀ (t : Nat) (x : Pg), hi ≤ t → l[t]? = some x → n ≤ x.n) ∧ Kp NoB w wr
def BsPost (w : World) (l : List Pg) (n : Int) (e : Ending) (w' : World) : Prop := (∃ i : Int, e = .returned (.tuple #[.int .i64 i, .bool (hasPg l n)])) ∧ Kp NoB w w'
theorem hasPg_iff (l : List Pg) (n : Int) : hasPg l n = true ↔ ∃ x ∈ l, x.n = n := by
  unfold hasPg
  rw [List.any_eq_true]
  simp
set_option maxRecDepth 100000 in
set_option maxHeartbeats 1600000 in
theorem bsearch_q (w : World) (n : Int) (hn : 1 ≤ n ∧ n ≤ 4096) (A : Option Addr) (m cap : Nat) (l : List Pg) (hl : PgsAt w A m l) (hok : PgsOk l) (hr : Rises l) (hnn : m < 1099511627776) :
    Calls Try.prog 59 #[.slice A m cap, .int .i64 n, .func (.func 60) #[] #[]] w (BsPost w l n) := by
  have HL := Lib.hid hl
  have HOK := Lib.hid hok
  have HR := Lib.hid hr
  have HLN := Lib.hid hl.len
  have HN := Lib.hid hn
  clear hl hok hr hn
  go_enter Try.func59, Try.ntmps59
  go_wp2_with fail
  go_loopw [9, 10] (fun v9 v10 wr => BsRel w l n v9 v10 wr) (fun v9 v10 _ => (intOf v10).toNat - (intOf v9).toNat)
  case atStart => exact ⟨0, m, rfl, rfl, Nat.zero_le _, by rw [HLN.out]; omega, fun t x ht => absurd ht (by omega), fun t x h1 h2 => by
    have := (List.getElem?_eq_some_iff.1 h2).1
    have := HLN.out
    omega, Kp.refl _ _⟩
  case round =>
    obtain ⟨lo, hi, rfl, rfl, hlh, hhi, hlow, hhigh, hkp⟩ := hrel
    have HKP := Lib.hid hkp
    have HLOW := Lib.hid hlow
    have HHIGH := Lib.hid hhigh
    have hlr := HL.out.keep hkp
    clear hlow hhigh hkp
    by_cases hlt : lo < hi
    · have hii : (lo : Int) < (hi : Int) := by omega
      obtain ⟨k, hk⟩ : ∃ k, (lo + hi) / 2 = k := ⟨_, rfl⟩
      have HK := Lib.hid hk
      have hkm : k < m := by have := HLN.out; omega
      have hkk : (k : Int) < (m : Int) := by omega
      obtain ⟨g, o, rfl, hg, t1, r1⟩ := hlr.at_ k hkm
      obtain ⟨x, hx⟩ : ∃ x, l[k]? = some x := ⟨_, List.getElem?_eq_getElem (by rw [HLN.out]; exact hkm)⟩
      have hxe : l[k]'(by rw [HLN.out]; exact hkm) = x := (List.getElem?_eq_some_iff.1 hx).2
      rw [hxe] at r1
      have HX := Lib.hid hx
      have hxm := List.mem_of_getElem? hx
      have hxn := HOK.out.n x hxm
      have HXN := Lib.hid hxn
      have hkd : ((lo : Int) + (hi : Int)) / 2 = (k : Int) := by omega
      have hw1 : IntKind.i64.wrap ((lo : Int) + (hi : Int)) = (lo : Int) + (hi : Int) := by rw [IntKind.wrap_i64]; omega
      clear hlr hk hx hxe hxm hxn
      go_wp2_with fail
      refine (commit1_q wr x n HN.out HXN.out).mono ?_
      rintro e w2 ⟨rfl, hk2⟩
      have HK2 := Lib.hid (HKP.out.trans hk2 (fun _ _ q => q))
      have HXL := Lib.hid (fun t y (ht : t ≤ k) (hy : l[t]? = some y) (hlt : x.n < n) => show y.n < n by
        rcases Nat.lt_or_ge t k with q | q
        · have := HR.out t k y x q hy HX.out; omega
        · obtain rfl : t = k := by omega
          have := HX.out
          rw [hy] at this
          injection this with this
          rw [this]; exact hlt)
      have HXG := Lib.hid (fun t y (ht : k ≤ t) (hy : l[t]? = some y) (hge : n ≤ x.n) => show n ≤ y.n by
        rcases Nat.lt_or_ge k t with q | q
        · have := HR.out k t x y q HX.out hy; omega
        · obtain rfl : t = k := by omega
          have := HX.out
          rw [hy] at this
          injection this with this
          rw [this]; exact hge)
      obtain ⟨xn, hxn⟩ : ∃ xn, x.n = xn := ⟨_, rfl⟩
      rw [hxn] at HXL HXG ⊢
      clear hk2 hxn
      by_cases hlt2 : xn < n
      · have hd : xn - n < 0 := by omega
        have hw2 : IntKind.i64.wrap ((k : Int) + 1) = (k : Int) + 1 := by rw [IntKind.wrap_i64]; omega
        go_wp2_with fail
        go_roundw
        case rel => exact ⟨k + 1, hi, by go_num, rfl, by have := HK.out; omega, hhi, fun t y ht hy => HXL.out t y (by omega) hy hlt2, HHIGH.out, HK2.out⟩
        case measure =>
          have := HK.out
          have e1 : (intOf (Value.int .i64 ((k : Int) + 1))).toNat = k + 1 := by simp [intOf]
          simp only [intOf] at e1 ⊢
          omega
      · have hd : ¬ xn - n < 0 := by omega
        go_wp2_with fail
        go_roundw
        case rel => exact ⟨lo, k, rfl, rfl, by have := HK.out; omega, by have := HK.out; omega, HLOW.out, fun t y ht hy => HXG.out t y ht hy (by omega), HK2.out⟩
        case measure =>
          have := HK.out
          simp only [intOf]
          omega
    · have hii : ¬ (lo : Int) < (hi : Int) := by omega
      obtain rfl : lo = hi := by omega
      by_cases hlm : lo < m
      · have hkk : (lo : Int) < (m : Int) := by omega
        obtain ⟨g, o, rfl, hg, t1, r1⟩ := hlr.at_ lo hlm
        obtain ⟨x, hx⟩ : ∃ x, l[lo]? = some x := ⟨_, List.getElem?_eq_getElem (by rw [HLN.out]; exact hlm)⟩
        have hxe : l[lo]'(by rw [HLN.out]; exact hlm) = x := (List.getElem?_eq_some_iff.1 hx).2
        rw [hxe] at r1
        have hxm := List.mem_of_getElem? hx
        have hxn := HOK.out.n x hxm
        have HXN := Lib.hid hxn
        have HF : Hid (hasPg l n = decide (x.n - n = 0)) := Lib.hid (by
          rw [Bool.eq_iff_iff, hasPg_iff, decide_eq_true_iff]
          constructor
          · rintro ⟨y, hy, hyn⟩
            obtain ⟨t, ht⟩ := List.getElem?_of_mem hy
            rcases Nat.lt_or_ge t lo with q | q
            · have := HLOW.out t y q ht; omega
            · rcases Nat.lt_or_ge lo t with q2 | q2
              · have h1 := HR.out lo t x y q2 hx ht
                have h2 := HHIGH.out lo x (Nat.le_refl _) hx
                omega
              · obtain rfl : t = lo := by omega
                rw [hx] at ht
                injection ht with ht
                rw [ht]; omega
          · intro h
            exact ⟨x, hxm, by omega⟩)
        clear hlr hx hxe hxm hxn
        go_wp2_with fail
        refine (commit1_q wr x n HN.out HXN.out).mono ?_
        rintro e w2 ⟨rfl, hk2⟩
        have HK2 := Lib.hid (HKP.out.trans hk2 (fun _ _ q => q))
        obtain ⟨dd, hdd⟩ : ∃ dd, x.n - n = dd := ⟨_, rfl⟩
        rw [hdd] at HF ⊢
        obtain ⟨hb, hhb⟩ : ∃ hb, hasPg l n = hb := ⟨_, rfl⟩
        rw [hhb] at HF
        have HHB := Lib.hid hhb
        clear hk2 hdd hhb
        rcases Int.lt_trichotomy dd 0 with h0 | h0 | h0
        · have hne : ¬ dd = 0 := by omega
          have hb0 : (dd == 0) = false := by simpa using hne
          rw [decide_eq_false hne] at HF
          go_wp2_with fail
          go_ret2
          exact ⟨⟨(lo : Int), by rw [HHB.out, HF.out]; rfl⟩, HK2.out⟩
        · subst h0
          go_wp2_with fail
          go_ret2
          exact ⟨⟨(lo : Int), by rw [HHB.out, HF.out]; rfl⟩, HK2.out⟩
        · have hne : ¬ dd = 0 := by omega
          have hb0 : (dd == 0) = false := by simpa using hne
          rw [decide_eq_false hne] at HF
          go_wp2_with fail
          go_ret2
          exact ⟨⟨(lo : Int), by rw [HHB.out, HF.out]; rfl⟩, HK2.out⟩
      · have hkk : ¬ (lo : Int) < (m : Int) := by omega
        have HF : Hid (hasPg l n = false) := Lib.hid (by
          rw [Bool.eq_false_iff]
          intro h
          obtain ⟨y, hy, hyn⟩ := (hasPg_iff l n).1 h
          obtain ⟨t, ht⟩ := List.getElem?_of_mem hy
          have h1 := (List.getElem?_eq_some_iff.1 ht).1
          have := HLN.out
          have := HLOW.out t y (by omega) ht
          omega)
        clear hlr
        go_wp2_with fail
        go_ret2
        exact ⟨⟨(lo : Int), by rw [HF.out]; rfl⟩, HKP.out⟩
end
end Go.Proofs.Ytegcbdfilkecpaa
