/- Sums of headers, and how packets are put. -/
import Derived.Test.YtakijieekhbhfaaGreatEngB1
set_option linter.unusedVariables false
set_option linter.unusedSectionVars false
set_option linter.unusedSimpArgs false
namespace Go.Eng
open Go Classical
attribute [local congr] ite_cg
noncomputable def tot : List Int → Int
  | [] => 0
  | [x] => x * 256
  | x :: y :: r => x * 256 + y + tot r
noncomputable def nrm (t : Int) : Int := if t = 0 then 0 else (t - 1) % 65535 + 1
theorem tot_step : ∀ (k : Nat) (b : List Int), 2 * k + 1 < b.length → tot (b.take (2 * (k + 1))) = tot (b.take (2 * k)) + (getI b (2 * (k : Int)) * 256 + getI b (2 * (k : Int) + 1))
  | 0, x :: y :: r, _ => by simp [tot, getI]
  | 0, [], h => by simp at h
  | 0, [x], h => by simp at h
  | k + 1, [], h => by simp at h
  | k + 1, [x], h => by simp at h
  | k + 1, x :: y :: r, h => by
    have ih := tot_step k r (by simp at h; omega)
    have e1 : (x :: y :: r).take (2 * (k + 1 + 1)) = x :: y :: r.take (2 * (k + 1)) := rfl
    have e2 : (x :: y :: r).take (2 * (k + 1)) = x :: y :: r.take (2 * k) := rfl
    have g1 : getI (x :: y :: r) (2 * ((k + 1 : Nat) : Int)) = getI r (2 * (k : Int)) := by
      unfold getI
      rw [show (2 * ((k + 1 : Nat) : Int)).toNat = (2 * (k : Int)).toNat + 2 from by omega]
      rfl
    have g2 : getI (x :: y :: r) (2 * ((k + 1 : Nat) : Int) + 1) = getI r (2 * (k : Int) + 1) := by
      unfold getI
      rw [show (2 * ((k + 1 : Nat) : Int) + 1).toNat = (2 * (k : Int) + 1).toNat + 2 from by omega]
      rfl
    rw [e1, e2, g1, g2]
    simp only [tot, ih]
    omega
theorem tot_bnd : ∀ (b : List Int), BytesP b → 0 ≤ tot b ∧ tot b ≤ 65535 * (b.length : Int)
  | [], _ => by simp [tot]
  | [x], h => by have := h x (by simp); simp [tot]; omega
  | x :: y :: r, h => by
    have hx := h x (by simp)
    have hy := h y (by simp)
    have ih := tot_bnd r (fun z hz => h z (by simp [hz]))
    simp only [tot, List.length_cons]
    omega
theorem nrm_bnd {t : Int} (h : 0 ≤ t) : 0 ≤ nrm t ∧ nrm t ≤ 65535 := by unfold nrm; split <;> omega
theorem and_i64_16 {v : Int} (h0 : 0 ≤ v) (h1 : v < 1152921504606846976) : bits_and .i64 v 65535 = v % 65536 := by
  unfold bits_and
  rw [ofInt_nat _ _ h0, ofInt_nat _ _ (by omega), BitVec.toNat_and, BitVec.toNat_ofNat, BitVec.toNat_ofNat]
  simp only [IntKind.bits]
  rw [Nat.mod_eq_of_lt (by omega), Nat.mod_eq_of_lt (by decide), show (65535 : Int).toNat = 2 ^ 16 - 1 from rfl, Nat.and_two_pow_sub_one_eq_mod]
  have hw := wr64 (n := ((v.toNat % 2 ^ 16 : Nat) : Int)) (by omega) (by omega)
  unfold wr_i64 at hw
  first | (rw [hw]; omega) | omega
theorem and_i64_1 {v : Int} (h0 : 0 ≤ v) (h1 : v < 1152921504606846976) : bits_and .i64 v 1 = v % 2 := by
  unfold bits_and
  rw [ofInt_nat _ _ h0, ofInt_nat _ _ (by omega), BitVec.toNat_and, BitVec.toNat_ofNat, BitVec.toNat_ofNat]
  simp only [IntKind.bits]
  rw [Nat.mod_eq_of_lt (by omega), Nat.mod_eq_of_lt (by decide), show (1 : Int).toNat = 2 ^ 1 - 1 from rfl, Nat.and_two_pow_sub_one_eq_mod]
  have hw := wr64 (n := ((v.toNat % 2 ^ 1 : Nat) : Int)) (by omega) (by omega)
  unfold wr_i64 at hw
  first | (rw [hw]; omega) | omega
theorem sum_down_spec {t : Int} (h0 : 0 ≤ t) (h1 : t < 1099511627776) : sum_down t = some (nrm t) := by
  unfold sum_down
  obtain ⟨r, e, hr⟩ := loopM_rule (f := sum_down_L1) (fun v => 0 ≤ v ∧ v ≤ t ∧ nrm v = nrm t) (fun r => r = nrm t) (fun v => v.toNat) (s := t) (fun v hI => by
    obtain ⟨i0, i1, i2⟩ := hI
    by_cases c : v > 65535
    · have hw := wr64 (n := v / 65536 + v % 65536) (by omega) (by omega)
      refine ⟨.inl (v / 65536 + v % 65536), ?_, ⟨by omega, by omega, ?_⟩, by omega⟩
      · simp only [sum_down_L1, sum_down_1_own, c, decide_true, if_true, Option.bind_some, and_i64_16 i0 (show v < 1152921504606846976 by omega), show (2 : Int) ^ 16 = 65536 from rfl, fdiv_e (show (0 : Int) ≤ 65536 by decide), hw]
      · rw [← i2]
        unfold nrm
        rw [if_neg (by omega), if_neg (by omega)]
        omega
    · refine ⟨.inr v, by simp only [sum_down_L1, c, decide_false, Bool.false_eq_true, if_false], ?_⟩
      simp only
      rw [← i2]
      unfold nrm
      split <;> omega) ⟨h0, Int.le_refl _, rfl⟩ (by omega)
  rw [e, hr]; rfl
theorem sum_add_spec {b : List Int} {k : Nat} (hB : BytesP b) (hl : b.length = 2 * k) (hk : k ≤ 1000) : sum_add b = some (nrm (tot b)) := by
  unfold sum_add
  have hb := tot_bnd b hB
  have e : loopM (fun s : Int × Int => match s with | (v2, v3) => sum_add_L1 b v2 v3) (0, 0) = some (tot b) := by
    have := loopM_trace (f := fun s : Int × Int => match s with | (v2, v3) => sum_add_L1 b v2 v3) (r := tot b) (fun i => (tot (b.take (2 * i)), 2 * (i : Int))) k (by omega) (fun i hi => by
      have hw1 := wr64 (n := 2 * (i : Int) + 1) (by omega) (by omega)
      have hw2 := wr64 (n := 2 * (i : Int) + 2) (by omega) (by omega)
      have i1 : inL b (2 * (i : Int)) := ⟨by omega, by omega⟩
      have i2 : inL b (2 * (i : Int) + 1) := ⟨by omega, by omega⟩
      obtain ⟨x0, x1⟩ := hB _ (getI_mem i1)
      obtain ⟨y0, y1⟩ := hB _ (getI_mem i2)
      have ht := tot_bnd (b.take (2 * i)) (fun x hx => hB x (List.mem_of_mem_take hx))
      have htl : ((b.take (2 * i)).length : Int) ≤ 2000 := by simp; omega
      have c : 2 * (i : Int) + 1 < (b.length : Int) := by omega
      have hw3 := wr64 (n := tot (b.take (2 * i)) + (getI b (2 * (i : Int)) * 256 + getI b (2 * (i : Int) + 1))) (by omega) (by omega)
      simp only [sum_add_L1, hw1, c, decide_true, if_true, nth_getI i1, nth_getI i2, Option.bind_some, or_i64_8 x0 x1 y0 y1, hw3, hw2, tot_step i b (by omega)]
      simp; omega) (by
      have hw1 := wr64 (n := 2 * (k : Int) + 1) (by omega) (by omega)
      have c : ¬ 2 * (k : Int) + 1 < (b.length : Int) := by omega
      simp only [sum_add_L1, hw1, c, decide_false, Bool.false_eq_true, if_false]
      rw [List.take_of_length_le (by omega)])
    simpa [tot] using this
  rw [e]
  simp only [Option.bind_some]
  rw [and_i64_1 (by omega) (by omega), if_neg (by simp; omega), sum_down_spec hb.1 (by omega)]
  rfl
theorem rSum_spec {b : List Int} {k : Nat} (hB : BytesP b) (hl : b.length = 2 * k) (hk : k ≤ 1000) : palingref06_Sum b = some (nrm (tot b)) := by
  unfold palingref06_Sum
  have e : loopM (fun s : Int × Int => match s with | (v2, v3) => palingref06_Sum_L1 b v2 v3) (0, 0) = some (nrm (tot b)) := by
    have := loopM_trace (f := fun s : Int × Int => match s with | (v2, v3) => palingref06_Sum_L1 b v2 v3) (r := nrm (tot b)) (fun i => (nrm (tot (b.take (2 * i))), 2 * (i : Int))) k (by omega) (fun i hi => by
      have hw1 := wr64 (n := 2 * (i : Int) + 1) (by omega) (by omega)
      have hw2 := wr64 (n := 2 * (i : Int) + 2) (by omega) (by omega)
      have i1 : inL b (2 * (i : Int)) := ⟨by omega, by omega⟩
      have i2 : inL b (2 * (i : Int) + 1) := ⟨by omega, by omega⟩
      obtain ⟨x0, x1⟩ := hB _ (getI_mem i1)
      obtain ⟨y0, y1⟩ := hB _ (getI_mem i2)
      have ht := tot_bnd (b.take (2 * i)) (fun x hx => hB x (List.mem_of_mem_take hx))
      have hn := nrm_bnd ht.1
      have c0 : 2 * (i : Int) < (b.length : Int) := by omega
      have c : 2 * (i : Int) + 1 < (b.length : Int) := by omega
      have hs := tot_step i b (by omega)
      simp only [palingref06_Sum_L1, hw1, c0, c, decide_true, if_true, nth_getI i1, nth_getI i2, Option.bind_some, kind_ref x0 x1 y0 y1]
      have hX : 0 ≤ getI b (2 * (i : Int)) * 256 + getI b (2 * (i : Int) + 1) ∧ getI b (2 * (i : Int)) * 256 + getI b (2 * (i : Int) + 1) ≤ 65535 := by omega
      generalize tot (b.take (2 * i)) = T at *
      generalize getI b (2 * (i : Int)) * 256 + getI b (2 * (i : Int) + 1) = X at *
      have hw3 := wr64 (n := nrm T + X) (by omega) (by omega)
      rw [hw3]
      by_cases d : nrm T + X > 65535
      · have hw4 := wr64 (n := nrm T + X - 65535) (by omega) (by omega)
        rw [if_pos (decide_eq_true d), hw4, hw2, hs]
        have : nrm T + X - 65535 = nrm (T + X) := by
          unfold nrm at *
          split at d <;> split <;> omega
        rw [this]
        simp; omega
      · rw [if_neg (by simpa using d), hw2, hs]
        have : nrm T + X = nrm (T + X) := by
          unfold nrm at *
          split at d <;> split <;> omega
        rw [this]
        simp; omega) (by
      have c : ¬ 2 * (k : Int) < (b.length : Int) := by omega
      simp only [palingref06_Sum_L1, c, decide_false, Bool.false_eq_true, if_false]
      rw [List.take_of_length_le (by omega)])
    simpa [tot, nrm] using this
  rw [e]; rfl
noncomputable def ipA (p : Api_Packet) : List Int := [69, p.tos, (20 + (p.body.length : Int)) / 256 % 256, (20 + (p.body.length : Int)) % 256, p.id / 256 % 256, p.id % 256, 0, 0, p.ttl, p.proto]
noncomputable def ipZ (p : Api_Packet) : List Int := [p.src / 16777216 % 256, p.src / 65536 % 256, p.src / 256 % 256, p.src % 256, p.dst / 16777216 % 256, p.dst / 65536 % 256, p.dst / 256 % 256, p.dst % 256]
noncomputable def ipS (p : Api_Packet) : Int := 65535 - nrm (tot (ipA p ++ ipZ p))
noncomputable def ipB (p : Api_Packet) : List Int := ipA p ++ ([ipS p / 256 % 256, ipS p % 256] ++ (ipZ p ++ p.body))
def BadI (p : Api_Packet) : Prop := p.tos < 0 ∨ p.tos > 255 ∨ p.ttl < 0 ∨ p.ttl > 255 ∨ p.proto < 0 ∨ p.proto > 255 ∨ p.id < 0 ∨ p.id > 65535
noncomputable def putI (p : Api_Packet) : List Int × Int := if BadI p then ([], 11) else if (p.body.length : Int) > 1480 then ([], 14) else (ipB p, 0)
theorem or_i64_b {a x : Int} (h0 : 0 ≤ a) (h1 : a < 1099511627776) (x0 : 0 ≤ x) (x1 : x < 256) : bits_or .i64 (a * 256) x = a * 256 + x := by
  unfold bits_or
  have hv : Int.toNat (a * 256) = a.toNat * 256 := by omega
  rw [ofInt_nat _ _ (by omega), ofInt_nat _ _ x0, BitVec.toNat_or, BitVec.toNat_ofNat, BitVec.toNat_ofNat]
  simp only [IntKind.bits]
  rw [Nat.mod_eq_of_lt (by omega), Nat.mod_eq_of_lt (by omega), hv, nat_or8 _ _ (by omega)]
  have hw := wr64 (n := ((a.toNat * 256 + x.toNat : Nat) : Int)) (by omega) (by omega)
  unfold wr_i64 at hw
  first | (rw [hw]; omega) | omega
theorem small_spec {x m : Int} : ipv4_Put_1 x m = some (decide (0 ≤ x ∧ x ≤ m)) := by
  unfold ipv4_Put_1
  by_cases c : x ≥ 0
  · rw [if_pos (decide_eq_true c)]; simp; omega
  · rw [if_neg (by simpa using c)]; simp; omega
theorem rOut_spec {x m : Int} : palingref07_out x m = some (decide (x < 0 ∨ x > m)) := by
  unfold palingref07_out
  by_cases c : x < 0
  · rw [if_pos (decide_eq_true c)]; simp [c]
  · rw [if_neg (by simpa using c)]; simp [c]
theorem iput_spec {l : List Int} (hl : l.length ≤ 100) : ipv4_put_own [] l = some (l.flatMap fun n => [n / 256 % 256, n % 256]) := by
  unfold ipv4_put_own
  have e : loopM (fun s : (List Int) × Int => match s with | (l3, v4) => ipv4_put_own_L1 l l3 v4) ([], 0) = some (l.flatMap fun n => [n / 256 % 256, n % 256]) := by
    have := loopM_trace (f := fun s : (List Int) × Int => match s with | (l3, v4) => ipv4_put_own_L1 l l3 v4) (r := l.flatMap fun n => [n / 256 % 256, n % 256]) (fun i => ((l.take i).flatMap fun n => [n / 256 % 256, n % 256], (i : Int))) l.length (by omega) (fun i hi => by
      have c : (i : Int) < (l.length : Int) := by omega
      have hw := wr64 (n := (i : Int) + 1) (by omega) (by omega)
      have hln : lin l (i : Int) = true := by rw [lin_dec]; exact decide_eq_true ⟨by omega, by omega⟩
      have hg : l[Int.toNat (i : Int)]? = some l[i] := by simp [hi]
      have hlen : ∀ q : List Int, (q.flatMap fun n => [n / 256 % 256, n % 256]).length = 2 * q.length := fun q => by
        induction q with
        | nil => rfl
        | cons x r ih => simp only [List.flatMap_cons, List.length_append, ih, List.length_cons, List.length_nil]; omega
      have hr : roomy 1 (((l.take i).flatMap fun n => [n / 256 % 256, n % 256]) ++ [l[i] / 256 % 256, l[i] % 256]) = true := roomy_few (by rw [List.length_append, hlen]; simp; omega)
      simp only [ipv4_put_own_L1, c, hln, hg, decide_true, if_true, Option.bind_some, wr8m, show (2 : Int) ^ 8 = 256 from rfl, fdiv_e (show (0 : Int) ≤ 256 by decide), hr, hw]
      rw [List.take_succ_eq_append_getElem hi, List.flatMap_append]
      simp) (by simp [ipv4_put_own_L1])
    simpa using this
  rw [e]; rfl
theorem ipB_num {p : Api_Packet} (h : ¬ BadI p) (hs : 0 ≤ p.src ∧ p.src < 4294967296) (hd : 0 ≤ p.dst ∧ p.dst < 4294967296) (hb : p.body.length ≤ 1480) :
    ([(bits_or .i64 17664 p.tos : Int), (wr_i64 (20 + (p.body.length : Int)) : Int), p.id, (0 : Int), (bits_or .i64 (wr_i64 (p.ttl * 2 ^ 8)) p.proto : Int), (0 : Int), (wr_i64 (Int.fdiv p.src (2 ^ 16)) : Int), (wr_i64 p.src : Int), (wr_i64 (Int.fdiv p.dst (2 ^ 16)) : Int), (wr_i64 p.dst : Int)] : List Int).flatMap (fun n => [n / 256 % 256, n % 256]) = ipA p ++ ([0, 0] ++ ipZ p) := by
  unfold BadI at h
  have e1 : bits_or .i64 17664 p.tos = 69 * 256 + p.tos := or_i64_b (a := 69) (by decide) (by decide) (by omega) (by omega)
  have e2 : bits_or .i64 (wr_i64 (p.ttl * 2 ^ 8)) p.proto = p.ttl * 256 + p.proto := by
    rw [show (2 : Int) ^ 8 = 256 from rfl, wr64 (by omega) (by omega)]
    exact or_i64_b (by omega) (by omega) (by omega) (by omega)
  rw [e1, e2, show (2 : Int) ^ 16 = 65536 from rfl, fdiv_e (by decide), fdiv_e (by decide), wr64 (n := 20 + (p.body.length : Int)) (by omega) (by omega), wr64 (n := p.src / 65536) (by omega) (by omega), wr64 (n := p.src) (by omega) (by omega), wr64 (n := p.dst / 65536) (by omega) (by omega), wr64 (n := p.dst) (by omega) (by omega)]
  simp only [List.flatMap_cons, List.flatMap_nil, List.append_nil, List.cons_append, List.nil_append, ipA, ipZ]
  have a1 : (69 * 256 + p.tos) / 256 % 256 = 69 := by omega
  have a2 : (69 * 256 + p.tos) % 256 = p.tos := by omega
  have a3 : (p.ttl * 256 + p.proto) / 256 % 256 = p.ttl := by omega
  have a4 : (p.ttl * 256 + p.proto) % 256 = p.proto := by omega
  have a5 : p.src / 65536 / 256 % 256 = p.src / 16777216 % 256 := by omega
  have a6 : p.dst / 65536 / 256 % 256 = p.dst / 16777216 % 256 := by omega
  rw [a1, a2, a3, a4, a5, a6]
  rfl
theorem ipA_bytes {p : Api_Packet} (h : ¬ BadI p) : BytesP (ipA p ++ ipZ p) := by
  unfold BadI at h
  intro x hx
  simp only [ipA, ipZ, List.mem_append, List.mem_cons, List.not_mem_nil, or_false] at hx
  omega
theorem ipA_bytes0 {p : Api_Packet} (h : ¬ BadI p) : BytesP (ipA p ++ ([0, 0] ++ ipZ p)) := by
  have := ipA_bytes h
  intro x hx
  simp only [List.mem_append, List.mem_cons, List.not_mem_nil, or_false] at hx
  rcases hx with hx | (rfl | rfl) | hx
  · exact this x (by simp [hx])
  · omega
  · omega
  · exact this x (by simp [hx])
theorem tot_zero {p : Api_Packet} : tot (ipA p ++ ([0, 0] ++ ipZ p)) = tot (ipA p ++ ipZ p) := by
  simp only [ipA, ipZ, List.cons_append, List.nil_append, tot]
  omega
theorem ipv4_Put_spec {p : Api_Packet} (hs : 0 ≤ p.src ∧ p.src < 4294967296) (hd : 0 ≤ p.dst ∧ p.dst < 4294967296) : ipv4_Put p = some (putI p) := by
  unfold ipv4_Put putI
  simp only [small_spec, Option.bind_some]
  by_cases c1 : 0 ≤ p.tos ∧ p.tos ≤ 255
  case neg => rw [if_pos (by simp; omega), if_pos (by unfold BadI; omega)]
  rw [if_neg (by simp; omega)]
  by_cases c2 : 0 ≤ p.ttl ∧ p.ttl ≤ 255
  case neg => rw [if_pos (by simp; omega), if_pos (by unfold BadI; omega)]
  rw [if_neg (by simp; omega)]
  by_cases c3 : 0 ≤ p.proto ∧ p.proto ≤ 255
  case neg => rw [if_pos (by simp; omega), if_pos (by unfold BadI; omega)]
  rw [if_neg (by simp; omega)]
  by_cases c4 : 0 ≤ p.id ∧ p.id ≤ 65535
  case neg => rw [if_pos (by simp; omega), if_pos (by unfold BadI; omega)]
  have hbad : ¬ BadI p := by unfold BadI; omega
  rw [if_neg (by simp; omega), if_neg hbad]
  by_cases c5 : (p.body.length : Int) > 1480
  · rw [if_pos (decide_eq_true c5), if_pos c5]
  rw [if_neg (by simpa using c5), if_neg c5, iput_spec (by simp), ipB_num hbad hs hd (by omega)]
  simp only [Option.bind_some, sum_Of]
  rw [sum_add_spec (k := 10) (ipA_bytes0 hbad) (by simp [ipA, ipZ]) (by decide), tot_zero]
  have hn := nrm_bnd (tot_bnd _ (ipA_bytes hbad)).1
  simp only [Option.bind_some]
  rw [wr64 (n := 65535 - nrm (tot (ipA p ++ ipZ p))) (by omega) (by omega), show (65535 - nrm (tot (ipA p ++ ipZ p))) = ipS p from rfl, show (2 : Int) ^ 8 = 256 from rfl, fdiv_e (by decide), wr8m, wr8m]
  have l10 : lin (ipA p ++ ([0, 0] ++ ipZ p)) 10 = true := by rw [lin_dec]; exact decide_eq_true ⟨by decide, by simp [ipA, ipZ]⟩
  have l11 : lin (List.set (ipA p ++ ([0, 0] ++ ipZ p)) (Int.toNat 10) (ipS p / 256 % 256)) 11 = true := by rw [lin_dec]; exact decide_eq_true ⟨by decide, by simp [ipA, ipZ]⟩
  rw [if_pos l10, show (ipA p ++ ([0, 0] ++ ipZ p))[Int.toNat 10]? = some 0 from rfl, Option.bind_some, if_pos l11,
    show (List.set (ipA p ++ ([0, 0] ++ ipZ p)) (Int.toNat 10) (ipS p / 256 % 256))[Int.toNat 11]? = some 0 from rfl, Option.bind_some]
  have es : List.set (List.set (ipA p ++ ([0, 0] ++ ipZ p)) (Int.toNat 10) (ipS p / 256 % 256)) (Int.toNat 11) (ipS p % 256) ++ p.body = ipB p := rfl
  rw [es, if_pos (roomy_few (by simp [ipB, ipA, ipZ]; omega))]
theorem bytes2 {n : Int} (h0 : 0 ≤ n) (h1 : n < 4294967296) : palingref07_bytes n 2 = some [n / 256 % 256, n % 256] := by
  unfold palingref07_bytes
  rw [if_pos (show mkok 1 2 2 = true from by decide)]
  have hw1 := wr64 (n := n / 256) (by omega) (by omega)
  have hw2 := wr64 (n := n / 256 / 256) (by omega) (by omega)
  have e : loopM (fun s : (List Int) × Int × Int => match s with | (l4, v5, v6) => palingref07_bytes_L1 2 l4 v5 v6) (List.replicate (Int.toNat 2) (0 : Int), n, 0) = some [n / 256 % 256, n % 256] :=
    loopM_trace (f := fun s : (List Int) × Int × Int => match s with | (l4, v5, v6) => palingref07_bytes_L1 2 l4 v5 v6) (r := [n / 256 % 256, n % 256]) (fun i => match i with
      | 0 => ([0, 0], n, 0)
      | 1 => ([0, n % 256], n / 256, 1)
      | _ => ([n / 256 % 256, n % 256], n / 256 / 256, 2)) 2 (by decide) (fun i hi => by
      match i, hi with
      | 0, _ => simp [palingref07_bytes_L1, wr64, lin_dec, inL, wr8m, Int.tdiv_eq_ediv_of_nonneg h0, Int.tmod_eq_emod_of_nonneg h0, hw1]
      | 1, _ => simp [palingref07_bytes_L1, wr64, lin_dec, inL, wr8m, Int.tdiv_eq_ediv_of_nonneg (show 0 ≤ n / 256 by omega), Int.tmod_eq_emod_of_nonneg (show 0 ≤ n / 256 by omega), hw2]) (by simp [palingref07_bytes_L1])
  rw [e]; rfl
theorem bytes4 {n : Int} (h0 : 0 ≤ n) (h1 : n < 4294967296) : palingref07_bytes n 4 = some [n / 16777216 % 256, n / 65536 % 256, n / 256 % 256, n % 256] := by
  unfold palingref07_bytes
  rw [if_pos (show mkok 1 4 4 = true from by decide)]
  have d2 : n / 256 / 256 = n / 65536 := by omega
  have d3 : n / 65536 / 256 = n / 16777216 := by omega
  have hw1 := wr64 (n := n / 256) (by omega) (by omega)
  have hw2 := wr64 (n := n / 65536) (by omega) (by omega)
  have hw3 := wr64 (n := n / 16777216) (by omega) (by omega)
  have hw4 := wr64 (n := n / 16777216 / 256) (by omega) (by omega)
  have e : loopM (fun s : (List Int) × Int × Int => match s with | (l4, v5, v6) => palingref07_bytes_L1 4 l4 v5 v6) (List.replicate (Int.toNat 4) (0 : Int), n, 0) = some [n / 16777216 % 256, n / 65536 % 256, n / 256 % 256, n % 256] :=
    loopM_trace (f := fun s : (List Int) × Int × Int => match s with | (l4, v5, v6) => palingref07_bytes_L1 4 l4 v5 v6) (r := [n / 16777216 % 256, n / 65536 % 256, n / 256 % 256, n % 256]) (fun i => match i with
      | 0 => ([0, 0, 0, 0], n, 0)
      | 1 => ([0, 0, 0, n % 256], n / 256, 1)
      | 2 => ([0, 0, n / 256 % 256, n % 256], n / 65536, 2)
      | 3 => ([0, n / 65536 % 256, n / 256 % 256, n % 256], n / 16777216, 3)
      | _ => ([n / 16777216 % 256, n / 65536 % 256, n / 256 % 256, n % 256], n / 16777216 / 256, 4)) 4 (by decide) (fun i hi => by
      match i, hi with
      | 0, _ => simp [palingref07_bytes_L1, wr64, lin_dec, inL, wr8m, Int.tdiv_eq_ediv_of_nonneg h0, Int.tmod_eq_emod_of_nonneg h0, hw1]
      | 1, _ => simp [palingref07_bytes_L1, wr64, lin_dec, inL, wr8m, Int.tdiv_eq_ediv_of_nonneg (show 0 ≤ n / 256 by omega), Int.tmod_eq_emod_of_nonneg (show 0 ≤ n / 256 by omega), d2, hw2]
      | 2, _ => simp [palingref07_bytes_L1, wr64, lin_dec, inL, wr8m, Int.tdiv_eq_ediv_of_nonneg (show 0 ≤ n / 65536 by omega), Int.tmod_eq_emod_of_nonneg (show 0 ≤ n / 65536 by omega), d3, hw3]
      | 3, _ => simp [palingref07_bytes_L1, wr64, lin_dec, inL, wr8m, Int.tdiv_eq_ediv_of_nonneg (show 0 ≤ n / 16777216 by omega), Int.tmod_eq_emod_of_nonneg (show 0 ≤ n / 16777216 by omega), hw4]) (by simp [palingref07_bytes_L1])
  rw [e]; rfl
theorem rIpv4_Put_spec {p : Api_Packet} (hs : 0 ≤ p.src ∧ p.src < 4294967296) (hd : 0 ≤ p.dst ∧ p.dst < 4294967296) : palingref07_Put p = some (putI p) := by
  unfold palingref07_Put putI
  simp only [rOut_spec, Option.bind_some]
  by_cases c1 : p.tos < 0 ∨ p.tos > 255
  · rw [if_pos (by simpa using c1), if_pos (by unfold BadI; omega)]
  rw [if_neg (by simpa using c1)]
  by_cases c2 : p.ttl < 0 ∨ p.ttl > 255
  · rw [if_pos (by simpa using c2), if_pos (by unfold BadI; omega)]
  rw [if_neg (by simpa using c2)]
  by_cases c3 : p.proto < 0 ∨ p.proto > 255
  · rw [if_pos (by simpa using c3), if_pos (by unfold BadI; omega)]
  rw [if_neg (by simpa using c3)]
  by_cases c4 : p.id < 0 ∨ p.id > 65535
  · rw [if_pos (by simpa using c4), if_pos (by unfold BadI; omega)]
  have hbad : ¬ BadI p := by unfold BadI; omega
  rw [if_neg (by simpa using c4), if_neg hbad]
  by_cases c5 : (p.body.length : Int) > 1480
  · rw [if_pos (decide_eq_true c5), if_pos c5]
  have hn := nrm_bnd (tot_bnd _ (ipA_bytes hbad)).1
  have hr : ∀ l : List Int, l.length ≤ 2000 → roomy 1 l = true := fun l h => roomy_few (by omega)
  have w1 : wr_u8 p.tos = p.tos := wr8 (by omega) (by omega)
  have w2 : wr_u8 p.ttl = p.ttl := wr8 (by omega) (by omega)
  have w3 : wr_u8 p.proto = p.proto := wr8 (by omega) (by omega)
  rw [if_neg (by simpa using c5), if_neg c5, wr64 (n := 20 + (p.body.length : Int)) (by omega) (by omega), bytes2 (n := 20 + (p.body.length : Int)) (by omega) (by omega), bytes2 (n := p.id) (by omega) (by omega),
    wr64 (n := p.src) (by omega) (by omega), wr64 (n := p.dst) (by omega) (by omega), bytes4 hs.1 hs.2, bytes4 hd.1 hd.2]
  simp only [Option.bind_some, w1, w2, w3]
  have ea : ([(69 : Int), p.tos] ++ [(20 + (p.body.length : Int)) / 256 % 256, (20 + (p.body.length : Int)) % 256] ++ [p.id / 256 % 256, p.id % 256] ++ [0, 0, p.ttl, p.proto]) = ipA p := rfl
  have ez : ([p.src / 16777216 % 256, p.src / 65536 % 256, p.src / 256 % 256, p.src % 256] ++ [p.dst / 16777216 % 256, p.dst / 65536 % 256, p.dst / 256 % 256, p.dst % 256] : List Int) = ipZ p := rfl
  rw [ea, ez]
  have hso : palingref06_Of (ipA p ++ ipZ p) = some (ipS p) := by
    unfold palingref06_Of
    rw [rSum_spec (k := 9) (ipA_bytes hbad) (by simp [ipA, ipZ]) (by decide), Option.bind_some, wr64 (by omega) (by omega)]
    rfl
  have hs2 : 0 ≤ ipS p ∧ ipS p < 4294967296 := by unfold ipS; omega
  rw [hso, Option.bind_some, bytes2 hs2.1 hs2.2, Option.bind_some]
  rw [if_pos (hr _ (by simp)), if_pos (hr _ (by simp)), if_pos (hr _ (by simp [ipA])), if_pos (hr _ (by simp [ipZ])), if_pos (hr _ (by simp [ipA, ipZ])), if_pos (hr _ (by simp [ipA])), if_pos (hr _ (by simp [ipA, ipZ])), if_pos (hr _ (by simp [ipA, ipZ]; omega))]
  simp [ipB]
end Go.Eng
