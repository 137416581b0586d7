/- Chapter 31 (bridge): one step on both sides. -/
import Derived.Test.YtngflgclljfmjaaGreatEngS3
import Derived.Test.YtngflgclljfmjaaGreatEngGB0
set_option linter.unusedVariables false
set_option linter.unusedSectionVars false
set_option linter.unusedSimpArgs false
namespace Go.Eng
open Go Classical
attribute [local congr] ite_cg
theorem loop_appmap {α β ρ : Type} [Inhabited α] {f : List β × Int → Option ((List β × Int) ⊕ ρ)} (l : List α) (g : α → β) (s0 : List β) (out : List β → ρ) (hb : l.length ≤ 1000000)
    (h1 : ∀ (i : Int) s, inL l i → s.length ≤ s0.length + l.length → f (s, i) = some (.inl (s ++ [g (getI l i)], i + 1))) (h2 : ∀ s, f (s, l.length) = some (.inr (out s))) : loopM f (s0, 0) = some (out (s0 ++ l.map g)) := by
  have := loopM_trace (f := f) (fun i => (s0 ++ (l.take i).map g, (i : Int))) l.length (r := out (s0 ++ l.map g)) (by omega) (fun i hi => by
    have hin : inL l (i : Int) := ⟨by omega, by omega⟩
    show f (s0 ++ (l.take i).map g, (i : Int)) = _
    rw [h1 i _ hin (by simp; omega)]
    have e : l.take (i + 1) = l.take i ++ [getI l (i : Int)] := by
      rw [List.take_add_one]
      congr 1
      have := getI_get? hin
      simp at this
      simp [this]
    rw [e, List.map_append, List.append_assoc]
    rfl) (by
    show f (s0 ++ (l.take l.length).map g, (l.length : Int)) = _
    rw [h2, List.take_length])
  simpa using this
section
variable {n : Api_Net} {fw : List Bool} {t : List Api_Entry} {d now : Int} {q : Api_Queued}
noncomputable def lostR (o : Bridge_Out) (b : List Int) (e : Int) : Bridge_Out := if e ≠ 0 then ⟨5, o.port, o.domain, [], ⟨0, 0, 0, []⟩, e⟩ else { o with bytes := b }
noncomputable def atOut (n : Api_Net) (d : Int) (f : Api_Frame) (p : Int) : Bridge_Out := lostR ⟨if 0 ≤ (getI n.ports p).link then 2 else 1, p, 0, [], ⟨0, 0, 0, []⟩, 0⟩ (atS n p d f).1 (atS n p d f).2
noncomputable def meshOut (n : Api_Net) (d : Int) (f : Api_Frame) (p : Int) : Bridge_Out := lostR ⟨3, 0, p, [], ⟨0, 0, 0, []⟩, 0⟩ (meshS n d p f).1 (meshS n d p f).2
noncomputable def learnU (t : List Api_Entry) (q : Api_Queued) (now : Int) : List Api_Entry :=
  if q.from_ = -2 then t else if q.from_ = -1 then learnL t q.frame.src (wr_i64 (-1 - q.peer)) now else learnL t q.frame.src q.from_ now
theorem learnL_ok (hto : okL Api_Entry.Ok t) (hlen : t.length ≤ 1000000) {m w : Int} (h1 : okI .u64 m) (h2 : okI .i64 w) (h3 : okI .i64 now) : okL Api_Entry.Ok (learnL t m w now) := by
  have hx : Api_Entry.Ok ⟨m, w, now⟩ := ⟨h1, h2, h3, trivial⟩
  have hl := learnL_len (t := t) hlen (m := m) (w := w) (now := now)
  refine ⟨by have : maxLen = 9223372036854775807 := rfl; omega, ?_⟩
  unfold learnL
  split
  · split
    · intro x hx2
      rcases List.mem_or_eq_of_mem_set hx2 with h | h
      · exact hto.2 x h
      · rw [h]; exact hx
    · split
      · intro x hx2
        rcases List.mem_append.1 hx2 with h | h
        · exact hto.2 x (List.mem_of_mem_eraseIdx h)
        · rw [List.mem_singleton] at h; rw [h]; exact hx
      · intro x hx2
        rcases List.mem_append.1 hx2 with h | h
        · exact hto.2 x h
        · rw [List.mem_singleton] at h; rw [h]; exact hx
  · exact hto.2
theorem wr_ok {x : Int} : okI .i64 (wr_i64 x) := by
  unfold wr_i64 IntKind.wrap okI
  simp [IntKind.signed, IntKind.bits, IntKind.min, IntKind.max]
  omega
structure QOk (q : Api_Queued) (now : Int) : Prop where
  fr : q.frame.Ok
  from_ : okI .i64 q.from_
  now : okI .i64 now
  body : q.frame.body.length ≤ 4000
theorem learnU_ok (hto : okL Api_Entry.Ok t) (hlen : t.length ≤ 200) (hq : QOk q now) : okL Api_Entry.Ok (learnU t q now) ∧ (learnU t q now).length ≤ 1000 := by
  have hs : okI .u64 q.frame.src := hq.fr.2.1
  unfold learnU
  split
  · exact ⟨hto, by omega⟩
  split
  · exact ⟨learnL_ok hto (by omega) hs wr_ok hq.now, by have := learnL_len (t := t) (by omega) (m := q.frame.src) (w := wr_i64 (-1 - q.peer)) (now := now); omega⟩
  · exact ⟨learnL_ok hto (by omega) hs hq.from_ hq.now, by have := learnL_len (t := t) (by omega) (m := q.frame.src) (w := q.from_) (now := now); omega⟩
theorem bridge_learn_spec (hto : okL Api_Entry.Ok t) (hlen : t.length ≤ 200) (hq : QOk q now) : bridge_learn t q now = some (learnU t q now, (learnU t q now).length) := by
  have hs := okU64 (show okI .u64 q.frame.src from hq.fr.2.1)
  have hf : Few t := by unfold Few; omega
  unfold bridge_learn learnU
  by_cases c1 : q.from_ = -2
  · rw [if_pos (by simp [c1]), if_pos c1, Clone_Entry_spec hf]; rfl
  rw [if_neg (by simpa using c1), if_neg c1]
  by_cases c2 : q.from_ = -1
  · rw [if_pos (by simp [c2]), if_pos c2, table_Learn_spec hto (by omega) hs.1 hs.2]; rfl
  rw [if_neg (by simpa using c2), if_neg c2, table_Learn_spec hto (by omega) hs.1 hs.2]; rfl
theorem step_1_spec {o : Bridge_Out} {b : List Int} {e : Int} {L : List Bridge_Out} (hL : L.length ≤ 3000000) : bridge_Step_1_own o b e L = some (if e ≠ 0 then .inl () else .inr ()) := by
  unfold bridge_Step_1_own
  have r1 : ∀ x : Bridge_Out, roomy 104 (L ++ [x]) = true := fun x => by
    unfold roomy
    refine decide_eq_true ⟨by simp; omega, by simp; omega⟩
  by_cases c : e = 0
  · rw [if_neg (by simpa using c), if_pos (r1 _), if_neg (fun h => h c)]
  · rw [if_pos (by simpa using c), if_pos (r1 _), if_pos c]
theorem step_ports (hs : SmN n) {u : List Api_Entry} {k : Nat} {ps qs : List Int} (hp : ∀ p ∈ ps, inL n.ports p) (hl : ps.length ≤ 1000000) :
    loopM (fun s : (List Bridge_Out) × Int => match s with | (l37, v38) => bridge_Step_L1 n d q u k ps qs l37 v38) ([], 0) = some (ps.map (atOut n d q.frame)) := by
  have := loop_appmap (f := fun s : (List Bridge_Out) × Int => match s with | (l37, v38) => bridge_Step_L1 n d q u k ps qs l37 v38) ps (atOut n d q.frame) [] id hl (fun i s hi hsl => by
    have hip := hp _ (getI_mem hi)
    have hw := wr64 (n := i + 1) (by have := hi.1; omega) (by have := hi.2; omega)
    have hsl' : s.length ≤ ps.length := by simpa using hsl
    show bridge_Step_L1 n d q u k ps qs s i = _
    unfold bridge_Step_L1 bridge_Step_J2
    rw [if_pos (decide_eq_true hi.2), nth_getI hi, Option.bind_some, nth_getI hip, Option.bind_some]
    have hk : (if (decide ((getI n.ports (getI ps i)).link ≥ 0)) = true then some (2 : Int) else some 1) = some (if 0 ≤ (getI n.ports (getI ps i)).link then 2 else 1) := by
      by_cases c : 0 ≤ (getI n.ports (getI ps i)).link
      · rw [if_pos (decide_eq_true c), if_pos c]
      · rw [if_neg (by simpa using c), if_neg c]
    rw [hk]
    simp only [Option.bind_some]
    rw [leave_At_spec hs]
    simp only [Option.bind_some]
    rw [step_1_spec (by omega), hw]
    unfold atOut lostR
    by_cases c : (atS n (getI ps i) d q.frame).2 = 0
    · simp [c]
    · simp [c]) (fun s => by
    show bridge_Step_L1 n d q u k ps qs s ps.length = _
    unfold bridge_Step_L1
    rw [if_neg (by simp)]; rfl)
  simpa using this
theorem step_peers (hs : SmN n) (hn : n.Ok) (hf : q.frame.Ok) (hb : q.frame.body.length ≤ 4000) {u : List Api_Entry} {k : Nat} {qs : List Int} {s0 : List Bridge_Out} (hl : qs.length ≤ 1000000) (h0 : s0.length ≤ 1000000) :
    loopM (fun s : (List Bridge_Out) × Int => match s with | (l66, v67) => bridge_Step_L3 n d q u k qs l66 v67) (s0, 0) = some (s0 ++ qs.map (meshOut n d q.frame)) := by
  have := loop_appmap (f := fun s : (List Bridge_Out) × Int => match s with | (l66, v67) => bridge_Step_L3 n d q u k qs l66 v67) qs (meshOut n d q.frame) s0 id hl (fun i s hi hsl => by
    have hw := wr64 (n := i + 1) (by have := hi.1; omega) (by have := hi.2; omega)
    show bridge_Step_L3 n d q u k qs s i = _
    unfold bridge_Step_L3
    rw [if_pos (decide_eq_true hi.2), nth_getI hi, Option.bind_some, leave_Mesh_spec hs hn hf hb]
    simp only [Option.bind_some]
    rw [step_1_spec (by omega), hw]
    unfold meshOut lostR
    by_cases c : (meshS n d (getI qs i) q.frame).2 = 0
    · simp [c]
    · simp [c]) (fun s => by
    show bridge_Step_L3 n d q u k qs s qs.length = _
    unfold bridge_Step_L3
    rw [if_neg (by simp)]; rfl)
  simpa using this
theorem rlost_spec {k p e e2 : Int} {b : List Int} : palingref31_lost ⟨k, p, e, [], ⟨0, 0, 0, []⟩, 0⟩ b e2 = some (toldO (lostR ⟨k, p, e, [], ⟨0, 0, 0, []⟩, 0⟩ b e2)) := by
  unfold palingref31_lost lostR toldO
  by_cases c : e2 = 0 <;> simp [c]
theorem rstep_ports (hs : SmN n) (hr : RightP n) (hf : q.frame.Ok) {u : List Api_Entry} {ps qs : List Int} (hp : ∀ p ∈ ps, inL n.ports p) (hl : ps.length ≤ 1000000) :
    loopM (fun s : (List Palingref31_Out) × Int => match s with | (l66, v67) => palingref31_Step_L3 n d q u ps qs l66 v67) ([], 0) = some ((ps.map (atOut n d q.frame)).map toldO) := by
  have := loop_appmap (f := fun s : (List Palingref31_Out) × Int => match s with | (l66, v67) => palingref31_Step_L3 n d q u ps qs l66 v67) ps (fun p => toldO (atOut n d q.frame p)) [] id hl (fun i s hi hsl => by
    have hip := hp _ (getI_mem hi)
    have hw := wr64 (n := i + 1) (by have := hi.1; omega) (by have := hi.2; omega)
    have hsl' : s.length ≤ ps.length := by simpa using hsl
    have r1 : ∀ x : Palingref31_Out, roomy 104 (s ++ [x]) = true := fun x => by
      unfold roomy
      exact decide_eq_true ⟨by simp; omega, by simp; omega⟩
    show palingref31_Step_L3 n d q u ps qs s i = _
    unfold palingref31_Step_L3
    rw [if_pos (decide_eq_true hi.2), nth_getI hi, Option.bind_some, rLeave_At_spec hs hf]
    simp only [Option.bind_some, nth_getI hip]
    have hlk : (getI n.ports (getI ps i)).link = -1 ∨ 0 ≤ (getI n.ports (getI ps i)).link := by
      rcases (hr.ports _ hip).2.2.2.2.2.2.2.2 with h | h
      · exact .inl h
      · exact .inr h.1.1
    rw [hw]
    unfold atOut
    by_cases c : (getI n.ports (getI ps i)).link = -1
    · rw [if_neg (by simp [c]), rlost_spec, if_neg (show ¬ 0 ≤ (getI n.ports (getI ps i)).link by omega)]
      simp only [Option.bind_some]
      rw [if_pos (r1 _)]
    · rw [if_pos (by simpa using c), rlost_spec, if_pos (show 0 ≤ (getI n.ports (getI ps i)).link by rcases hlk with h | h; exact absurd h c; exact h)]
      simp only [Option.bind_some]
      rw [if_pos (r1 _)]) (fun s => by
    show palingref31_Step_L3 n d q u ps qs s ps.length = _
    unfold palingref31_Step_L3
    rw [if_neg (by simp)]; rfl)
  rw [List.map_map]
  exact this
theorem rstep_peers (hs : SmN n) (hn : n.Ok) (hf : q.frame.Ok) (hb : q.frame.body.length ≤ 4000) {u : List Api_Entry} {qs : List Int} {s0 : List Palingref31_Out} (hl : qs.length ≤ 1000000) (h0 : s0.length ≤ 1000000) :
    loopM (fun s : (List Palingref31_Out) × Int => match s with | (l102, v103) => palingref31_Step_L4 n d q u qs l102 v103) (s0, 0) = some (s0 ++ (qs.map (meshOut n d q.frame)).map toldO) := by
  have := loop_appmap (f := fun s : (List Palingref31_Out) × Int => match s with | (l102, v103) => palingref31_Step_L4 n d q u qs l102 v103) qs (fun p => toldO (meshOut n d q.frame p)) s0 id hl (fun i s hi hsl => by
    have hw := wr64 (n := i + 1) (by have := hi.1; omega) (by have := hi.2; omega)
    have r1 : ∀ x : Palingref31_Out, roomy 104 (s ++ [x]) = true := fun x => by
      unfold roomy
      exact decide_eq_true ⟨by simp; omega, by simp; omega⟩
    show palingref31_Step_L4 n d q u qs s i = _
    unfold palingref31_Step_L4
    rw [if_pos (decide_eq_true hi.2), nth_getI hi, Option.bind_some, rLeave_Mesh_spec hs hn hf hb]
    simp only [Option.bind_some]
    rw [hw, rlost_spec]
    unfold meshOut
    simp only [Option.bind_some]
    rw [if_pos (r1 _)]) (fun s => by
    show palingref31_Step_L4 n d q u qs s qs.length = _
    unfold palingref31_Step_L4
    rw [if_neg (by simp)]; rfl)
  rw [List.map_map]
  exact this
theorem decR_ports {x frm : Int} {p : Int} (hp : p ∈ (decR n fw t d frm x).1) : OpenP n fw d frm ∧ p ≠ frm ∧ p ∈ membersL n d ∧ inL n.ports p ∧ UsP n fw p := by
  by_cases ho : OpenP n fw d frm
  case neg => simp [decR, ho] at hp
  have ff : floodR n fw d frm = (flPorts n fw d frm, flPeers n d frm, 0) := by unfold floodR; rw [if_pos ho]
  have hfl : p ∈ flPorts n fw d frm → OpenP n fw d frm ∧ p ≠ frm ∧ p ∈ membersL n d ∧ inL n.ports p ∧ UsP n fw p := fun h => by
    have h' := List.mem_filter.1 h
    have hg := h'.2
    unfold goB at hg
    have hg := of_decide_eq_true hg
    exact ⟨ho, hg.1, h'.1, membersL_in h'.1, hg.2⟩
  unfold decR at hp
  rw [if_neg (by simpa using ho)] at hp
  split at hp
  · rw [ff] at hp; exact hfl hp
  split at hp
  · rename_i h1
    simp only [List.mem_filter, List.mem_singleton] at hp
    obtain ⟨rfl, hp⟩ := hp
    refine hfl (List.mem_filter.2 ⟨?_, hp⟩)
    unfold statP at h1 ⊢
    by_cases h2 : 0 ≤ statI n d x
    · rw [if_pos h2] at h1 ⊢
      have hst := ho.fw.right.statics _ (statI_in h2)
      have hdm := fstI_is (l := n.statics) (P := fun s => s.domain = d ∧ s.mac = x) h2
      refine mem_gatherI.2 ⟨_, hst.2.1, ?_, rfl⟩
      have h3 := hst.2.2
      rw [show (getI n.statics (statI n d x)).domain = d from hdm.1] at h3
      exact h3
    · rw [if_neg h2] at h1; omega
  split at hp
  · rename_i h1
    simp only [List.mem_filter, List.mem_singleton] at hp
    obtain ⟨rfl, hp⟩ := hp
    exact hfl (List.mem_filter.2 ⟨h1.2, hp⟩)
  split at hp
  · split at hp <;> simp at hp
  · rw [ff] at hp; exact hfl hp
inductive StepP (n : Api_Net) (fw : List Bool) (t : List Api_Entry) (d : Int) (q : Api_Queued) (now : Int) : List Api_Entry → List Bridge_Out → Int → Prop
  | shut : StepP n fw t d q now [] [] 2
  | bad (e : Int) (ho : OpenP n fw d q.from_) (hT : TabP t) (he : e ≠ 0) (he2 : e ≠ 2) : StepP n fw t d q now (learnU t q now) [] e
  | hop (to : Int) (f : Api_Frame) (ho : OpenP n fw d q.from_) (hT : TabP t) (hf : q.frame.type_ = 2048) : StepP n fw t d q now (learnU t q now) [⟨4, 0, to, [], f, 0⟩] 0
  | out (ho : OpenP n fw d q.from_) (hT : TabP t) : StepP n fw t d q now (learnU t q now) ((decR n fw (learnU t q now) d q.from_ q.frame.dst).1.map (atOut n d q.frame) ++ (decR n fw (learnU t q now) d q.from_ q.frame.dst).2.1.map (meshOut n d q.frame)) 0
theorem rlearn_J (hto : okL Api_Entry.Ok t) (hlen : t.length ≤ 200) (hq : QOk q now) (hfr : -2 ≤ q.from_) : (palingref31_Step_J1 n fw t d q now).bind (fun l31 => palingref31_Step_J2 n fw t d q now l31) = some (learnU t q now) := by
  have hs := okU64 (show okI .u64 q.frame.src from hq.fr.2.1)
  unfold palingref31_Step_J1 palingref31_Step_J2 learnU
  by_cases c1 : q.from_ ≥ 0
  · rw [if_pos (decide_eq_true c1), rLearn_spec hto (by omega) hs.1 hs.2]
    simp only [Option.bind_some]
    rw [if_neg (by simp; omega), if_neg (by omega), if_neg (by omega)]
  rw [if_neg (by simpa using c1)]
  simp only [Option.bind_some]
  by_cases c2 : q.from_ = -1
  · rw [if_pos (by simp [c2]), rLearn_spec hto (by omega) hs.1 hs.2, if_neg (by omega), if_pos c2]; rfl
  · rw [if_neg (by simpa using c2), if_pos (by omega)]
theorem step_both (hn : n.Ok) (hs : SmN n) (hto : okL Api_Entry.Ok t) (hlen : t.length ≤ 200) (hq : QOk q now) :
    ∃ u o e, StepP n fw t d q now u o e ∧ bridge_Step n fw t d q now = some (u, o, e) ∧ palingref31_Step n fw t d q now = some (u, o.map toldO, e) := by
  have hd := okU64 (show okI .u64 q.frame.dst from hq.fr.1)
  have hbd := bytes_ok hq.fr.2.2.2.1
  have hb := hq.body
  unfold bridge_Step palingref31_Step
  rw [lookup_Flood_spec hs, r29Flood_spec hs, table_Right_spec hto, rtable_Right_spec hto]
  simp only [Option.bind_some]
  by_cases ho : OpenP n fw d q.from_
  case neg => exact ⟨_, _, _, .shut, by simp [floodR, ho], by simp [floodR, ho]⟩
  have ff : floodR n fw d q.from_ = (flPorts n fw d q.from_, flPeers n d q.from_, 0) := by unfold floodR; rw [if_pos ho]
  rw [ff]
  simp only [bne_self_eq_false, Bool.false_eq_true, if_false]
  by_cases hT : TabP t
  case neg => exact ⟨_, _, _, .shut, by simp [hT], by simp [hT]⟩
  have hr := ho.fw.right
  have hfr : -2 ≤ q.from_ := by
    rcases ho.frm with h | h | h
    · omega
    · omega
    · have := (membersL_in h).1; omega
  obtain ⟨huo, hul⟩ := learnU_ok (now := now) hto hlen hq
  have huf : Few (learnU t q now) := by unfold Few; omega
  have hroom : roomy 24 t = true := roomy_few (by omega)
  have hJ := rlearn_J (n := n) (fw := fw) (d := d) hto hlen hq hfr
  have hJ2 : ∀ {β : Type} (k : List Api_Entry → Option β), (palingref31_Step_J1 n fw t d q now).bind (fun l31 => (palingref31_Step_J2 n fw t d q now l31).bind k) = k (learnU t q now) := by
    intro β k
    cases h1 : palingref31_Step_J1 n fw t d q now with
    | none => rw [h1] at hJ; simp at hJ
    | some l31 =>
      rw [h1] at hJ
      simp only [Option.bind_some] at hJ ⊢
      rw [hJ]; rfl
  rw [bridge_learn_spec hto hlen hq, if_neg (by simp [hT]), if_neg (by simp [hT]), if_pos hroom, hJ2, brouter_spec hs hn, brRouter_spec hs hn hr]
  simp only [Option.bind_some]
  by_cases hR : RightP n ∧ inL n.domains d ∧ 0 ≤ (getI n.domains d).irb ∧ 2199023255552 + (getI n.irbs (getI n.domains d).irb).net.addr = q.frame.dst
  · rw [if_pos hR]
    simp only [if_true]
    have hirb : inL n.irbs (getI n.domains d).irb := by
      rcases (hr.bare d hR.2.1).2.2.2.2.2.1 with e | ⟨e, _⟩
      · have := hR.2.2.1; omega
      · exact e
    rcases hop_both hn hs (irb := (getI n.domains d).irb) (f := q.frame) hbd (by omega) with ⟨e, ⟨he, he2⟩, h1, h2⟩ | ⟨m, hk, h1, h2⟩
    · exact ⟨_, _, _, .bad e ho hT he (he2 hr hirb), by rw [h1]; simp [he], by rw [h2]; simp [he]⟩
    · exact ⟨_, _, _, .hop _ _ ho hT hk.type, by rw [h1]; simp; exact ⟨rfl, rfl⟩, by rw [h2]; simp [toldO]⟩
  · rw [if_neg hR]
    rw [if_neg (by simp), if_neg (by simp)]
    rw [lookup_Decide_spec hs huf huo hd.1 hd.2, r29Decide_spec hs huf huo hd.1 hd.2]
    simp only [Option.bind_some]
    obtain ⟨l1, l2⟩ := decR_len (fw := fw) hs (t := learnU t q now) (d := d) (frm := q.from_) (x := q.frame.dst)
    have hin : ∀ p ∈ (decR n fw (learnU t q now) d q.from_ q.frame.dst).1, inL n.ports p := fun p hp => (decR_ports hp).2.2.2.1
    refine ⟨_, _, _, .out ho hT, ?_, ?_⟩
    · rw [step_ports hs hin l1]
      simp only [Option.bind_some]
      rw [step_peers hs hn hq.fr hb l2 (by simpa using l1)]
      rfl
    · rw [rstep_ports hs hr hq.fr hin l1]
      simp only [Option.bind_some]
      rw [rstep_peers hs hn hq.fr hb l2 (by simpa using l1)]
      simp
theorem r26Same_self (hl : t.length ≤ 1000000) : palingref26_Same t t = some true := by
  unfold palingref26_Same
  have hf : Few t := hl
  rw [if_neg (by simp), loop_each t (fun _ _ => True) (.inl ()) (.inr ()) hf (fun i h0 h1 h2 => by
    have hw := wr64 (n := i + 1) (by omega) (by omega)
    simp only [palingref26_Same_L1, h1, nth_getI h2, hw, decide_true, if_true, Option.bind_some]
    have : eq_Api_Entry (getI t i) (getI t i) = true := by unfold eq_Api_Entry; simp
    simp [this]) (by simp [palingref26_Same_L1]), if_pos (show EachP t (fun _ _ => True) from fun _ _ => trivial)]
  rfl
theorem Great31_spec : palinglaw31_Great n fw t q = some (decide (¬ (BndN n 200 100 ∧ fw.length ≤ 200 ∧ t.length ≤ 200 ∧ q.frame.body.length ≤ 4000))) := by
  unfold palinglaw31_Great
  rw [Great_spec, Option.bind_some]
  by_cases hg : BndN n 200 100
  case neg => rw [if_pos (by simpa using hg)]; simp [hg]
  rw [if_neg (by simpa using hg)]
  by_cases c1 : fw.length ≤ 200
  case neg => rw [if_pos (by simp; omega)]; simp [c1]
  rw [if_neg (by simp; omega)]
  by_cases c2 : t.length ≤ 200
  case neg => rw [if_pos (by simp; omega)]; simp [c2]
  rw [if_neg (by simp; omega)]
  by_cases c3 : q.frame.body.length ≤ 4000
  · simp [hg, c1, c2, c3]; omega
  · simp [hg, c1, c2, c3]; omega
theorem stepP_len (hs : SmN n) (hto : okL Api_Entry.Ok t) (hlen : t.length ≤ 200) (hq : QOk q now) {u : List Api_Entry} {o : List Bridge_Out} {e : Int} (h : StepP n fw t d q now u o e) : u.length ≤ 1000 ∧ o.length ≤ 2000000 := by
  have hu := (learnU_ok (now := now) hto hlen hq).2
  cases h with
  | shut => simp
  | bad => exact ⟨hu, by simp⟩
  | hop => exact ⟨hu, by simp⟩
  | out =>
    obtain ⟨l1, l2⟩ := decR_len (fw := fw) hs (t := learnU t q now) (d := d) (frm := q.from_) (x := q.frame.dst)
    exact ⟨hu, by simp; omega⟩
theorem decR_one (hr : RightP n) (hg : BndN n 200 100) {x frm : Int} : (decR n fw t d frm x).1.length ≤ 200 ∧ (decR n fw t d frm x).2.1.length ≤ 200 := by
  have hfl : (floodR n fw d frm).1.length ≤ 200 ∧ (floodR n fw d frm).2.1.length ≤ 200 := by
    unfold floodR
    by_cases ho : OpenP n fw d frm
    · rw [if_pos ho]
      have h1 : (flPorts n fw d frm).length ≤ (membersL n d).length := List.length_filter_le _ _
      have h2 := @membersL_len n d
      have h3 := hg.ports
      refine ⟨by simp only; omega, ?_⟩
      simp only [flPeers]; split
      · simp
      · have := hg.peers _ (getI_mem ho.dom); omega
    · rw [if_neg ho]; simp
  have h1 : ∀ p, ([p].filter (goB n fw frm)).length ≤ 1 := fun p => one_filter
  unfold decR
  split
  · simp
  split
  · exact hfl
  split
  · have := h1 (statP n d x); exact ⟨by simp only; omega, by simp⟩
  split
  · have := h1 (tabF t x).1; exact ⟨by simp only; omega, by simp⟩
  split
  · split <;> simp
  · exact hfl
theorem stepP_few (hg : BndN n 200 100) {u : List Api_Entry} {o : List Bridge_Out} {e : Int} (h : StepP n fw t d q now u o e) : Few o := by
  unfold Few
  cases h with
  | shut => simp
  | bad => simp
  | hop => simp
  | out ho =>
    obtain ⟨l1, l2⟩ := decR_one (fw := fw) (t := learnU t q now) (d := d) ho.fw.right hg (x := q.frame.dst) (frm := q.from_)
    simp; omega
end
theorem bridgeSteps (n : Api_Net) (fw : List Bool) (t : List Api_Entry) (d : Int) (q : Api_Queued) (now : Int) (hn : n.Ok) (_ : okL okB fw) (ht : okL Api_Entry.Ok t) (_ : okI .i64 d) (hq : q.Ok) (hw : okI .i64 now) : palinglaw31_BridgeSteps n fw t d q now = some true := by
  unfold palinglaw31_BridgeSteps
  rw [Great31_spec, works31, Option.bind_some]
  by_cases hg : BndN n 200 100 ∧ fw.length ≤ 200 ∧ t.length ≤ 200 ∧ q.frame.body.length ≤ 4000
  case neg => rw [if_pos (decide_eq_true hg)]; rfl
  rw [if_neg (by rw [decide_eq_true_eq]; exact fun h => h hg)]
  obtain ⟨hg, g1, g2, g3⟩ := hg
  have hs := hg.sm
  have hQ : QOk q now := ⟨hq.2.2.2.1, hq.1, hw, g3⟩
  obtain ⟨u, o, e, hS, h1, h2⟩ := step_both (fw := fw) (d := d) hn hs ht g2 hQ
  have hl := stepP_len hs ht g2 hQ hS
  have hfo := stepP_few hg hS
  rw [h1, h2]
  simp only [Option.bind_some]
  rw [r26Same_self (by omega), told_spec hfo, Option.bind_some, if_pos rfl]
  simp only [Option.bind_some]
  rw [r31Same_spec hfo]
  have hself : SamesP o o := ⟨rfl, fun i hi => outP_self⟩
  simp [hself]
end Go.Eng
