/- Chapter 30 (route): packets led on. -/
import Derived.Test.YtakijieekhbhfaaGreatEngB10
import Derived.Test.YtakijieekhbhfaaGreatEngR36
set_option linter.unusedVariables false
set_option linter.unusedSectionVars false
set_option linter.unusedSimpArgs false
namespace Go.Eng
open Go Classical
attribute [local congr] ite_cg
section
variable {n : Api_Net}
theorem takI_bnd {b : List Int} (hB : BytesP b) (h : (takI b).2.2.2.2.2.2.2 = 0) : (0 ≤ (takI b).2.1 ∧ (takI b).2.1 ≤ 255) ∧ (0 ≤ (takI b).2.2.1 ∧ (takI b).2.2.1 ≤ 65535) ∧ (0 ≤ (takI b).2.2.2.1 ∧ (takI b).2.2.2.1 ≤ 255) ∧
    (0 ≤ (takI b).2.2.2.2.1 ∧ (takI b).2.2.2.2.1 ≤ 255) ∧ (0 ≤ (takI b).2.2.2.2.2.1 ∧ (takI b).2.2.2.2.2.1 < 4294967296) ∧ (0 ≤ (takI b).2.2.2.2.2.2.1 ∧ (takI b).2.2.2.2.2.2.1 < 4294967296) := by
  unfold takI at *
  split at h
  · cases h
  rename_i h1
  split at h
  · cases h
  rename_i h2
  split at h
  · cases h
  rename_i h3
  split at h
  · cases h
  rename_i h4
  split at h
  · cases h
  rename_i h5
  rw [if_neg h1, if_neg h2, if_neg h3, if_neg h4, if_neg h5]
  have b1 := hB _ (getI_mem (l := b) (i := 1) ⟨by omega, by omega⟩)
  have b8 := hB _ (getI_mem (l := b) (i := 8) ⟨by omega, by omega⟩)
  have b9 := hB _ (getI_mem (l := b) (i := 9) ⟨by omega, by omega⟩)
  have p4 := pr2_bnd hB (o := 4) (by omega) (by omega)
  have p12 := pr2_bnd hB (o := 12) (by omega) (by omega)
  have p14 := pr2_bnd hB (o := 12 + 2) (by omega) (by omega)
  have p16 := pr2_bnd hB (o := 16) (by omega) (by omega)
  have p18 := pr2_bnd hB (o := 16 + 2) (by omega) (by omega)
  simp only [pr4]
  omega
theorem lookup_both (ho : n.Ok) (hs : SmN n) (hr : RightP n) {irb x : Int} (hi : inL n.irbs irb) (x0 : 0 ≤ x) (x1 : x < 4294967296) :
    ∃ r, route_lookup n irb x = some r ∧ palingref30_Lookup n irb x = some r ∧ ((r = (0, false) ∧ NoLed n irb x) ∨ ∃ m, r = (m, true) ∧ LedP n irb x m) := by
  obtain ⟨r, h1, h2⟩ := route_lookup_spec ho hs hr hi x0 x1
  obtain ⟨r', h1', h2'⟩ := r30Lookup_spec ho hs hr hi (x := x)
  refine ⟨r, h1, ?_, h2⟩
  rw [h1']
  have no : ∀ m, LedP n irb x m → NoLed n irb x → False := fun m h g => by
    rcases g with g | g
    · exact h.own g
    · exact g m h.im h.cand
  rcases h2 with ⟨rfl, g⟩ | ⟨m, rfl, g⟩ <;> rcases h2' with ⟨rfl, g'⟩ | ⟨m', rfl, g'⟩
  · rfl
  · exact (no _ g' g).elim
  · exact (no _ g g').elim
  · have hu : m' = m := by
      have e1 := (g.best m' g'.im g'.cand)
      have e2 := (g'.best m g.im g.cand)
      by_cases c : m' < m
      · have := e1.2 c; omega
      · by_cases c2 : m < m'
        · have := e2.2 c2; omega
        · omega
    rw [hu]
/-- The packet that is led on. -/
noncomputable def hopP (b : List Int) : Api_Packet := ⟨(takI b).2.1, (takI b).2.2.1, (takI b).2.2.2.1 - 1, (takI b).2.2.2.2.1, (takI b).2.2.2.2.2.1, (takI b).2.2.2.2.2.2.1, (takI b).1⟩
structure HopOk (n : Api_Net) (irb : Int) (f : Api_Frame) (m : Int) : Prop where
  right : RightP n
  hirb : inL n.irbs irb
  type : f.type_ = 2048
  err : (takI f.body).2.2.2.2.2.2.2 = 0
  ttl : 1 < (takI f.body).2.2.2.1
  led : LedP n irb (takI f.body).2.2.2.2.2.2.1 m
  len : (takI f.body).1.length ≤ 1480
theorem hop_both (ho : n.Ok) (hs : SmN n) {irb : Int} {f : Api_Frame} (hB : BytesP f.body) (hb : f.body.length ≤ 4000) :
    (∃ e : Int, e ≠ 0 ∧ route_Hop n irb f = some ([], 0, 0, 0, 0, e) ∧ palingref30_Hop n irb f = some ([], 0, 0, 0, 0, e)) ∨
    ∃ m, HopOk n irb f m ∧ route_Hop n irb f = some (ipB (hopP f.body), (getI n.irbs m).domain, 2199023255552 + (takI f.body).2.2.2.2.2.2.1, 2199023255552 + (getI n.irbs m).net.addr, 2048, 0) ∧
      palingref30_Hop n irb f = some (ipB (hopP f.body), (getI n.irbs m).domain, 2199023255552 + (takI f.body).2.2.2.2.2.2.1, 2199023255552 + (getI n.irbs m).net.addr, 2048, 0) := by
  unfold route_Hop palingref30_Hop
  rw [rRight_spec hs, rPlace_spec, names_Right_spec hs]
  simp only [Option.bind_some]
  by_cases hi : inL n.irbs irb
  case neg =>
    refine .inl ⟨2, by decide, ?_, ?_⟩
    · by_cases h1 : irb < 0
      · rw [if_pos (decide_eq_true h1)]
      · rw [if_neg (by simpa using h1), if_pos (by simp; unfold inL at hi; omega)]
    · by_cases hr : RightP n
      · rw [if_neg (by simpa using hr), if_pos (by simpa using hi)]
      · rw [if_pos (by simpa using hr)]
  have a0 : ¬ irb < 0 := by have := hi.1; omega
  have a1 : ¬ irb ≥ (n.irbs.length : Int) := by have := hi.2; omega
  have b0 : decide (irb < 0) = false := decide_eq_false a0
  have b1 : decide (irb ≥ (n.irbs.length : Int)) = false := decide_eq_false a1
  simp only [b0, b1, Bool.false_eq_true, if_false]
  by_cases hr : RightP n
  case neg => exact .inl ⟨2, by decide, by simp [hr], by simp [hr]⟩
  have b2 : (!decide (RightP n)) = false := by simp [hr]
  have b3 : (!decide (inL n.irbs irb)) = false := by simp [hi]
  simp only [b2, b3, Bool.false_eq_true, if_false]
  by_cases ht : f.type_ = 2048
  case neg => exact .inl ⟨11, by decide, by simp [ht], by simp [ht]⟩
  have b4 : (f.type_ != 2048) = false := by simp [ht]
  simp only [b4, Bool.false_eq_true, if_false]
  rw [ipv4_Take_spec hB (by omega), rIpv4_Take_spec hB (by omega)]
  have hbnd := takI_bnd hB
  have hlen := takI_len (b := f.body)
  have hpk : hopP f.body = ⟨(takI f.body).2.1, (takI f.body).2.2.1, (takI f.body).2.2.2.1 - 1, (takI f.body).2.2.2.2.1, (takI f.body).2.2.2.2.2.1, (takI f.body).2.2.2.2.2.2.1, (takI f.body).1⟩ := rfl
  have hok : ∀ m, (takI f.body).2.2.2.2.2.2.2 = 0 → 1 < (takI f.body).2.2.2.1 → LedP n irb (takI f.body).2.2.2.2.2.2.1 m → (takI f.body).1.length ≤ 1480 → HopOk n irb f m := fun m h1 h2 h3 h4 => ⟨hr, hi, ht, h1, h2, h3, h4⟩
  generalize hopP f.body = Q at *
  generalize takI f.body = A at *
  obtain ⟨l, to, id, tt, pro, sr, ds, e⟩ := A
  simp only [Option.bind_some] at *
  by_cases c1 : e = 0
  case neg => exact .inl ⟨e, c1, by simp [route_Hop_J1, c1], by simp [c1]⟩
  subst c1
  obtain ⟨_, _, _, _, b5, b6⟩ := hbnd rfl
  have hbq := hbnd rfl
  simp only [route_Hop_J1, ipv4_Hop, palingref07_Hop, slices_Clone_byte, beq_self_eq_true, if_true, bne_self_eq_false, Bool.false_eq_true, if_false]
  by_cases c2 : tt ≤ 1
  · exact .inl ⟨13, by decide, by simp [c2], by simp [c2]⟩
  have hw := wr64 (n := tt - 1) (by omega) (by omega)
  have c2' : decide (tt ≤ 1) = false := decide_eq_false c2
  have hroom : roomy 1 l = true := roomy_few (by omega)
  simp only [c2', Bool.false_eq_true, if_false, hroom, if_true, Option.bind_some, hw, bne_self_eq_false]
  obtain ⟨r, r1, r2, r3⟩ := lookup_both ho hs hr hi b6.1 b6.2
  rw [r1, r2]
  simp only [Option.bind_some]
  rcases r3 with ⟨rfl, g⟩ | ⟨m, rfl, g⟩
  · exact .inl ⟨31, by decide, by simp, by simp⟩
  simp only [Bool.not_true, Bool.false_eq_true, if_false]
  rw [ipv4_Put_spec (by simp only; omega) (by simp only; omega), rIpv4_Put_spec (by simp only; omega) (by simp only; omega), ← hpk]
  have hm := g.im
  have hma := (irb_pre ho hr hm).1
  have hbad : ¬ BadI Q := by rw [hpk]; unfold BadI; simp only; omega
  have hbl : Q.body.length = l.length := by rw [hpk]
  unfold putI
  rw [if_neg hbad]
  by_cases c3 : (Q.body.length : Int) > 1480
  · rw [if_pos c3]
    exact .inl ⟨14, by decide, by simp, by simp⟩
  rw [if_neg c3]
  refine .inr ⟨m, hok m rfl (by omega) g (by omega), ?_, ?_⟩
  · simp [nth_getI hm, hostM b6.1 b6.2, hostM hma.a0 hma.a1]
  · simp [nth_getI hm, hostR b6.1 b6.2, hostR hma.a0 hma.a1]
theorem works30 : palinglaw30_works = some true := by kernel_rfl
theorem routeLeads (n : Api_Net) (irb x : Int) (f : Api_Frame) (ho : n.Ok) (_ : okI .i64 irb) (hx : okI .u32 x) (hf : f.Ok) : palinglaw30_RouteLeads n irb x f = some true := by
  unfold palinglaw30_RouteLeads
  rw [works30, Great_spec, Option.bind_some]
  by_cases hg : BndN n 200 100
  case neg => rw [if_pos (by simpa using hg)]; rfl
  rw [if_neg (by simpa using hg)]
  have hs := hg.sm
  by_cases c : (f.body.length : Int) > 4000
  · rw [if_pos (decide_eq_true c)]; rfl
  rw [if_neg (by simpa using c)]
  have hx' := okU32 hx
  have hL : ∃ r : Int × Bool, route_Lookup n irb x = some r ∧ palinglaw30_RouteLeads_J1 n irb x f r = some r := by
    unfold route_Lookup palinglaw30_RouteLeads_J1
    rw [rRight_spec hs, names_Right_spec hs]
    simp only [Option.bind_some]
    by_cases hi : inL n.irbs irb
    case neg =>
      refine ⟨(0, false), ?_, ?_⟩
      · by_cases h1 : irb < 0
        · rw [if_pos (decide_eq_true h1)]
        · rw [if_neg (by simpa using h1), if_pos (by simp; unfold inL at hi; omega)]
      · by_cases hr : RightP n
        · rw [if_pos (by simpa using hr)]
          simp [palingref30_Lookup, rPlace_spec, hi]
        · rw [if_neg (by simpa using hr)]
    have a0 : ¬ irb < 0 := by have := hi.1; omega
    have a1 : ¬ irb ≥ (n.irbs.length : Int) := by have := hi.2; omega
    rw [if_neg (by simpa using a0), if_neg (by simpa using a1)]
    by_cases hr : RightP n
    case neg => exact ⟨(0, false), by rw [if_pos (by simpa using hr)], by rw [if_neg (by simpa using hr)]⟩
    obtain ⟨r, r1, r2, _⟩ := lookup_both ho hs hr hi hx'.1 hx'.2
    rw [if_neg (by simpa using hr), if_pos (by simpa using hr), r1, r2]
    exact ⟨r, rfl, rfl⟩
  obtain ⟨r, r1, r2⟩ := hL
  rw [r1, Option.bind_some, r2]
  rcases hop_both ho hs (irb := irb) (f := f) (bytes_ok hf.2.2.2.1) (by omega) with ⟨e, _, h1, h2⟩ | ⟨m, _, h1, h2⟩
  · rw [h1, h2]; simp [same_self]
  · rw [h1, h2]; simp [same_self]
theorem led_unique {irb x a b : Int} (g : LedP n irb x a) (g' : LedP n irb x b) : a = b := by
  have e1 := (g.best b g'.im g'.cand)
  have e2 := (g'.best a g.im g.cand)
  by_cases c : b < a
  · have := e1.2 c; omega
  · by_cases c2 : a < b
    · have := e2.2 c2; omega
    · omega
theorem routeLongest (n : Api_Net) (irb x : Int) (ho : n.Ok) (_ : okI .i64 irb) (hx : okI .u32 x) : palinglaw30_RouteLongest n irb x = some true := by
  unfold palinglaw30_RouteLongest
  rw [works30, Option.bind_some, if_neg (by simp), Great_spec, Option.bind_some]
  by_cases hg : BndN n 200 100
  case neg => rw [if_pos (by simpa using hg)]
  rw [if_neg (by simpa using hg)]
  have hs := hg.sm
  have hx' := okU32 hx
  obtain ⟨r, r1, r2⟩ := route_Lookup_spec ho hs (irb := irb) hx'.1 hx'.2
  rw [r1, Option.bind_some]
  rcases r2 with ⟨rfl, _⟩ | ⟨m, rfl, hr, hi, g⟩
  · simp
  have hm := g.im
  have hii := hr.irb hi
  have a0 : ¬ irb < 0 := by have := hi.1; omega
  have a1 : ¬ irb ≥ (n.irbs.length : Int) := by have := hi.2; omega
  have a2 : ¬ m < 0 := by have := hm.1; omega
  have a3 : ¬ m ≥ (n.irbs.length : Int) := by have := hm.2; omega
  have a4 : ¬ (getI n.irbs irb).vrf < 0 := by have := hii.2.1.1; omega
  have a5 : ¬ (getI n.irbs irb).vrf ≥ (n.vrfs.length : Int) := by have := hii.2.1.2; omega
  rw [if_neg (by simp), if_neg (by simpa using a0), if_neg (by simpa using a1), if_neg (by simpa using a2), if_neg (by simpa using a3), nth_getI hi, Option.bind_some, if_neg (by simpa using a4), Option.bind_some, if_neg (by simpa using a5), Option.bind_some, nth_getI hii.2.1, Option.bind_some]
  have hf := hs.irbs
  have key : ∀ j, inL n.irbs j → (getI n.vrfs (getI n.irbs j).vrf).dev = (getI n.vrfs (getI n.irbs irb).vrf).dev → (getI n.irbs j).net.addr ≠ x ∧ (HasP (getI n.irbs j).net x → (getI n.irbs j).net.bits > (getI n.irbs m).net.bits → ¬ LeaksP n (getI n.irbs j).vrf (getI n.irbs irb).vrf) := by
    intro j hj hd
    have hjj := hr.irb hj
    have hdev : irbDev n j = irbDev n irb := by
      unfold irbDev
      rw [hjj.2.2.1, hii.2.2.1, hd]
    refine ⟨fun e => g.own ⟨j, hj, hdev, e⟩, fun h1 h2 h3 => ?_⟩
    have := (g.best j hj ⟨h1, hdev.symm, h3⟩).1
    unfold keyI at this
    split at this <;> split at this <;> omega
  rw [loop_each (f := palinglaw30_RouteLongest_L1 n irb x (m, true) (getI n.vrfs (getI n.irbs irb).vrf)) n.irbs (fun _ _ => True) (.inl () : Unit ⊕ Unit) (.inr ()) hf (fun i h0 h1 h2 => by
    have hw := wr64 (n := i + 1) (by omega) (by unfold Few at hf; omega)
    have hjj := hr.irb h2
    have hP := (irb_pre ho hr h2).1
    have b4 : ¬ (getI n.irbs i).vrf < 0 := by have := hjj.2.1.1; omega
    have b5 : ¬ (getI n.irbs i).vrf ≥ (n.vrfs.length : Int) := by have := hjj.2.1.2; omega
    simp only [palinglaw30_RouteLongest_L1, h1, nth_getI h2, hw, decide_true, if_true, Option.bind_some, b4, b5, decide_false, Bool.false_eq_true, if_false, nth_getI hjj.2.1, addr_Has_spec hP hx'.1 hx'.2, nth_getI hm, nth_getI hi, vrfs_Leaks_spec hs hr hjj.2.1 hii.2.1]
    by_cases c1 : (getI n.vrfs (getI n.irbs i).vrf).dev = (getI n.vrfs (getI n.irbs irb).vrf).dev
    case neg => simp [c1]
    obtain ⟨k1, k2⟩ := key i h2 c1
    by_cases c2 : HasP (getI n.irbs i).net x
    case neg => simp [c1, k1, c2]
    by_cases c3 : (getI n.irbs i).net.bits > (getI n.irbs m).net.bits
    case neg => simp [c1, k1, c2, c3]
    have c4 := k2 c2 c3
    simp [c1, k1, c2, c3, c4]) (by simp [palinglaw30_RouteLongest_L1])]
  rw [if_pos (show EachP n.irbs (fun _ _ => True) from fun _ _ => trivial)]
  rfl
theorem routeHops (n : Api_Net) (irb : Int) (f : Api_Frame) (ho : n.Ok) (_ : okI .i64 irb) (hf : f.Ok) : palinglaw30_RouteHops n irb f = some true := by
  unfold palinglaw30_RouteHops
  rw [works30, Option.bind_some, if_neg (by simp), Great_spec, Option.bind_some]
  by_cases hg : BndN n 200 100
  case neg => rw [if_pos (by simpa using hg)]
  rw [if_neg (by simpa using hg)]
  have hs := hg.sm
  by_cases c : (f.body.length : Int) > 4000
  · rw [if_pos (decide_eq_true c)]
  rw [if_neg (by simpa using c)]
  have hB := bytes_ok hf.2.2.2.1
  rcases hop_both ho hs (irb := irb) (f := f) hB (by omega) with ⟨e, he, h1, h2⟩ | ⟨m, hk, h1, h2⟩
  · rw [h1]
    simp [he, ether_Same, seqB_self]
  rw [h1]
  obtain ⟨hr, hi, ht, c1, c2, g, hl⟩ := hk
  obtain ⟨b1, b2, b3, b4, b5, b6⟩ := takI_bnd hB c1
  have hbb := takI_bytes hB
  have hbad : ¬ BadI (hopP f.body) := by unfold BadI hopP; simp only; omega
  have htk := take_ipB hbad (by unfold hopP; simp only; omega) (by unfold hopP; simp only; omega) (by unfold hopP; simp only; omega) (show BytesP (hopP f.body).body from hbb)
  have hil := ipB_len (p := hopP f.body)
  have hhl : (hopP f.body).body.length = (takI f.body).1.length := rfl
  rw [ipv4_Take_spec hB (by omega)]
  simp only [Option.bind_some, bne_self_eq_false, Bool.false_eq_true, if_false]
  rw [ipv4_Take_spec (ipB_bytes hbad hbb) (by omega), htk]
  have hw := wr64 (n := (takI f.body).2.2.2.1 - 1) (by omega) (by omega)
  have c2' : decide ((takI f.body).2.2.2.1 ≤ 1) = false := decide_eq_false (by omega)
  have hroom : roomy 1 (takI f.body).1 = true := roomy_few (by omega)
  simp only [ipv4_Hop, slices_Clone_byte, c2', Bool.false_eq_true, if_false, hroom, if_true, Option.bind_some, hw]
  obtain ⟨r, r1, r2⟩ := route_Lookup_spec ho hs (irb := irb) b6.1 b6.2
  rw [r1]
  rcases r2 with ⟨rfl, hno⟩ | ⟨m', rfl, _, _, g'⟩
  · exfalso
    rcases hno hr hi with q | q
    · exact g.own q
    · exact q m g.im g.cand
  have hmm := led_unique g' g
  subst hmm
  have hm := g.im
  have hii := hr.irb hi
  have hmi := hr.irb hm
  have hP := (irb_pre ho hr hm).1
  have hdev : irbDev n m' = irbDev n irb := g.cand.2.1.symm
  have hne : (getI n.irbs m').net.addr ≠ (takI f.body).2.2.2.2.2.2.1 := fun e => g.own ⟨m', hm, hdev, e⟩
  have d1 := hmi.1.1
  have d2 := hmi.1.2
  have d3 := hii.1.1
  have d4 := hii.1.2
  have d5 := hm.1
  have d6 := hm.2
  have d7 := hi.1
  have d8 := hi.2
  simp only [irbDev] at hdev
  simp only [Option.bind_some, c1, bne_self_eq_false, Bool.false_eq_true, if_false, ipv4_Same, hopP, beq_self_eq_true, if_true, seqB_self, Bool.not_true]
  rw [if_neg (by simp; omega), if_neg (by simp; omega), if_neg (by simp; omega), if_neg (by simp; omega), nth_getI hm]
  simp only [Option.bind_some, bne_self_eq_false, Bool.false_eq_true, if_false]
  rw [if_neg (by simp; omega), if_neg (by simp; omega), nth_getI hi]
  simp only [Option.bind_some]
  rw [if_neg (by simp; omega), if_neg (by simp; omega), hostM b6.1 b6.2, hostM hP.a0 hP.a1, nth_getI hmi.1, nth_getI hii.1, addr_Has_spec hP b6.1 b6.2, vrfs_Leaks_spec hs hr hmi.2.1 hii.2.1]
  simp [hdev, g.cand.1, hne, g.cand.2.2]
end
end Go.Eng
