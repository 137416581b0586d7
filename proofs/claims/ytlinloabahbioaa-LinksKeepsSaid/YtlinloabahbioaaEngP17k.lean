/- Chapter 17 (links): with a link a net may be: LinksKeeps. -/
import Derived.Test.YtlinloabahbioaaEngP17
import Derived.Test.YtlinloabahbioaaEngPS
import Derived.Test.YtlinloabahbioaaEngPR
import Derived.Test.YtlinloabahbioaaEngPC
import Derived.Test.YtlinloabahbioaaEngP15s
set_option linter.unusedVariables false
set_option linter.unusedSectionVars false
set_option linter.unusedSimpArgs false
namespace Go.Eng
open Go Classical
attribute [local congr] ite_cg
section
variable {n : Api_Net} {l : Api_Line}
theorem same_none17 : names_Same ⟨[], [], [], [], [], [], [], []⟩ ⟨[], [], [], [], [], [], [], []⟩ = some true := by kernel_rfl
theorem stmt_R3 {l : Api_Line} (hk : l.kind = 3) (hd : l.dev.size ≤ 1000000) (hp : l.port.size ≤ 1000000) (hq : l.peer.size ≤ 1000000) (hf : l.far.size ≤ 1000000) : ∃ b, stmt_Right l = some b ∧ (b = true → True ∧ NameP l.dev) := by
  have key : ∀ b : Bool, stmt_used l = some (⟨l.row, l.kind, l.dev, l.port, l.peer, l.far, ⟨#[]⟩, 0, 0, 0, 0, 0, 0, [], [], [], []⟩, b) → ∃ b, stmt_Right l = some b ∧ (b = true → True ∧ NameP l.dev) :=
    fun b h => right_of (Q := True) ⟨h, few0, few0, few0, few0, fun _ => trivial⟩ hd
  by_cases c : NameP l.port ∧ NameP l.peer ∧ NameP l.far
  · refine key true ?_
    obtain ⟨c1, c2, c3⟩ := c
    simp only [stmt_used, hk, num_Name_spec hp, num_Name_spec hq, num_Name_spec hf, c1, c2, c3, decide_true, if_true, Option.bind_some]
    rfl
  · refine key false ?_
    by_cases c1 : NameP l.port
    · by_cases c2 : NameP l.peer
      · have c3 : ¬ NameP l.far := fun h => c ⟨c1, c2, h⟩
        simp only [stmt_used, hk, num_Name_spec hp, num_Name_spec hq, num_Name_spec hf, c1, c2, c3, decide_true, decide_false, if_true, Option.bind_some]
        rfl
      · simp only [stmt_used, hk, num_Name_spec hp, num_Name_spec hq, num_Name_spec hf, c1, c2, decide_true, decide_false, if_true, Option.bind_some]
        rfl
    · simp only [stmt_used, hk, num_Name_spec hp, num_Name_spec hq, num_Name_spec hf, c1, decide_true, decide_false, if_true, Option.bind_some]
      rfl
/-- A port by its names. -/
noncomputable def endI (n : Api_Net) (d p : ByteArray) : Int := if devI n d < 0 then -1 else portI n (devI n d) p
theorem links_end_spec (hs : SmN n) (hr : RightP n) {d p : ByteArray} : links_end n d p = some (endI n d p) := by
  unfold links_end endI
  simp only [names_Device_spec hs, names_Port_spec hs, if_pos hr, Option.bind_some]
  by_cases c : devI n d < 0
  · rw [if_pos (decide_eq_true c), if_pos c]
  · rw [if_neg (by simpa using c), if_neg c]
noncomputable def setLk (ps : List Api_Port) (k v : Int) : List Api_Port := ps.set k.toNat { getI ps k with link := v }
/-- What a link is put among. -/
structure AddOk (n : Api_Net) (l : Api_Line) (a b : Int) : Prop where
  right : RightP n
  ea : a = endI n l.dev l.port
  eb : b = endI n l.peer l.far
  ia : inL n.ports a
  ib : inL n.ports b
  dev : (getI n.ports a).dev ≠ (getI n.ports b).dev
  la : (getI n.ports a).link = -1
  lb : (getI n.ports b).link = -1
  few : n.links.length < 20
noncomputable def putL (n : Api_Net) (l : Api_Line) (a b : Int) : Api_Net :=
  { n with ports := setLk (setLk n.ports a n.links.length) b n.links.length, links := n.links ++ [⟨l.row, a, b⟩] }
theorem endI_in {d p : ByteArray} (h : 0 ≤ endI n d p) : inL n.ports (endI n d p) := by
  unfold endI at *
  split at h
  · omega
  · rename_i c; rw [if_neg c]; exact (portI_in h).1
theorem link_free (hr : RightP n) {p : Int} (hp : inL n.ports p) (h : (getI n.ports p).link < 0) : (getI n.ports p).link = -1 := by
  rcases (hr.ports p hp).2.2.2.2.2.2.2.2 with h1 | h1
  · exact h1
  · have := h1.1.1; omega
theorem links_Add_spec (hs : SmN n) (hd : l.dev.size ≤ 1000000) (hp : l.port.size ≤ 1000000) (hq : l.peer.size ≤ 1000000) (hf : l.far.size ≤ 1000000) :
    (∃ e : Int, e ≠ 0 ∧ links_Add n l = some ([], [], [], [], [], [], [], [], 0, 0, 0, 0, e)) ∨
    ∃ a b, AddOk n l a b ∧ links_Add n l = some (n.devices, (putL n l a b).ports, (putL n l a b).links, n.domains, n.statics, n.floods, n.vrfs, n.irbs, n.ports.length, n.domains.length, n.floods.length, n.vrfs.length, 0) := by
  unfold links_Add
  by_cases hk : l.kind = 3
  case neg => exact .inl ⟨2, by decide, by rw [if_pos (by simpa using hk)]⟩
  obtain ⟨bb, hb, _⟩ := stmt_R3 hk hd hp hq hf
  rw [if_neg (by simpa using hk), hb, Option.bind_some]
  cases bb with
  | false => exact .inl ⟨2, by decide, rfl⟩
  | true =>
  rw [if_neg (by simp), names_Right_spec hs, Option.bind_some]
  by_cases hr : RightP n
  case neg => exact .inl ⟨2, by decide, by rw [if_pos (by simpa using hr)]⟩
  rw [if_neg (by simpa using hr), links_end_spec hs hr, links_end_spec hs hr]
  simp only [Option.bind_some]
  have e1 : ∀ r s : Int, loopM (links_Add_L1 n l r s) 0 = if 0 ≤ r ∧ 0 ≤ s then some (.inr ()) else some (.inl ()) := by
    intro r s
    rw [loop_upto (f := links_Add_L1 n l r s) 2 (fun i => if i = 0 then 0 ≤ r else 0 ≤ s) (.inl () : Unit ⊕ Unit) (.inr ()) (by decide) (fun i h0 h1 => by
      have h1 : i < 2 := h1
      have hw := wr64 (n := i + 1) (by omega) (by omega)
      by_cases c : i = 0
      · subst c
        by_cases c2 : r < 0
        · have : ¬ 0 ≤ r := by omega
          simp [links_Add_L1, c2, this]
        · have : 0 ≤ r := by omega
          simp [links_Add_L1, c2, this, wr64]
      · have c1 : i = 1 := by omega
        subst c1
        by_cases c2 : s < 0
        · have : ¬ 0 ≤ s := by omega
          simp [links_Add_L1, c2, this]
        · have : 0 ≤ s := by omega
          simp [links_Add_L1, c2, this, wr64]) (by simp [links_Add_L1])]
    by_cases c : 0 ≤ r ∧ 0 ≤ s
    · rw [if_pos c, if_pos (fun i h0 h1 => by split; exact c.1; exact c.2)]
    · rw [if_neg c, if_neg (fun h => c ⟨by simpa using h 0 (by decide) (by decide), by simpa using h 1 (by decide) (by decide)⟩)]
  rw [e1]
  by_cases c : 0 ≤ endI n l.dev l.port ∧ 0 ≤ endI n l.peer l.far
  case neg => exact .inl ⟨31, by decide, by rw [if_neg c]; rfl⟩
  rw [if_pos c]
  have ha := endI_in c.1
  have hbn := endI_in c.2
  simp only [Option.bind_some, nth_getI ha, nth_getI hbn]
  have hJ : links_Add_J2 n l (endI n l.dev l.port) (endI n l.peer l.far) (getI n.ports (endI n l.dev l.port)) (getI n.ports (endI n l.peer l.far)) = some (decide ((getI n.ports (endI n l.dev l.port)).dev = (getI n.ports (endI n l.peer l.far)).dev ∨ (getI n.ports (endI n l.dev l.port)).link ≥ 0 ∨ (getI n.ports (endI n l.peer l.far)).link ≥ 0)) := by
    unfold links_Add_J2
    by_cases g1 : (getI n.ports (endI n l.dev l.port)).dev = (getI n.ports (endI n l.peer l.far)).dev
    · rw [if_pos (by simpa using g1)]; simp [g1]
    rw [if_neg (by simpa using g1)]
    by_cases g2 : (getI n.ports (endI n l.dev l.port)).link ≥ 0
    · rw [if_pos (by simpa using g2)]; simp [g2]
    · rw [if_neg (by simpa using g2)]; simp [g1, g2]
  rw [hJ]
  simp only [Option.bind_some]
  by_cases c2 : (getI n.ports (endI n l.dev l.port)).dev = (getI n.ports (endI n l.peer l.far)).dev ∨ (getI n.ports (endI n l.dev l.port)).link ≥ 0 ∨ (getI n.ports (endI n l.peer l.far)).link ≥ 0
  · exact .inl ⟨33, by decide, by rw [if_pos (decide_eq_true c2)]⟩
  rw [if_neg (by rw [decide_eq_true_eq]; exact c2)]
  by_cases c3 : (n.links.length : Int) = 20
  · exact .inl ⟨3, by decide, by rw [if_pos (by simpa using c3)]⟩
  have hfew := hr.few.2.2.1
  rw [if_neg (by simpa using c3), names_Copy_spec hs]
  have hok : AddOk n l (endI n l.dev l.port) (endI n l.peer l.far) := ⟨hr, rfl, rfl, ha, hbn, fun h => c2 (.inl h), link_free hr ha (by omega), link_free hr hbn (by omega), by omega⟩
  refine .inr ⟨_, _, hok, ?_⟩
  generalize endI n l.dev l.port = a at *
  generalize endI n l.peer l.far = b at *
  simp only [Option.bind_some]
  have e3 : loopM (fun s : (List Api_Port) × Int => match s with | (l48, v49) => links_Add_L3 l a b n.devices n.links n.domains n.statics n.floods n.vrfs n.irbs n.ports.length n.domains.length n.floods.length n.vrfs.length l48 v49) (n.ports, 0) = some (setLk (setLk n.ports a n.links.length) b n.links.length) :=
    loopM_trace (f := fun s : (List Api_Port) × Int => match s with | (l48, v49) => links_Add_L3 l a b n.devices n.links n.domains n.statics n.floods n.vrfs n.irbs n.ports.length n.domains.length n.floods.length n.vrfs.length l48 v49) (r := setLk (setLk n.ports a n.links.length) b n.links.length) (fun i => match i with
      | 0 => (n.ports, 0)
      | 1 => (setLk n.ports a n.links.length, 1)
      | _ => (setLk (setLk n.ports a n.links.length) b n.links.length, 2)) 2 (by decide) (fun i hi => by
      match i, hi with
      | 0, _ =>
        have l1 : lin n.ports a = true := by rw [lin_dec]; exact decide_eq_true ha
        simp only [links_Add_L3, l1, getI_get? ha, Option.bind_some]
        simp [wr64, setLk]
      | 1, _ =>
        have hb2 : inL (setLk n.ports a n.links.length) b := inL_setI.2 hbn
        have l1 : lin (setLk n.ports a n.links.length) b = true := by rw [lin_dec]; exact decide_eq_true hb2
        simp only [links_Add_L3, l1, getI_get? hb2, Option.bind_some]
        simp [wr64, setLk]) (by simp [links_Add_L3])
  rw [e3]
  simp only [Option.bind_some]
  rw [if_pos (roomy_few (by simp only [List.length_append, List.length_singleton]; omega))]
  rfl
theorem setLk_len {ps : List Api_Port} {k v : Int} : (setLk ps k v).length = ps.length := by simp [setLk]
theorem setLk_in {ps : List Api_Port} {k v i : Int} : inL (setLk ps k v) i ↔ inL ps i := inL_setI
theorem setLk_get {ps : List Api_Port} {k v i : Int} (hk : inL ps k) (hi : inL ps i) : getI (setLk ps k v) i = if i = k then { getI ps k with link := v } else getI ps i := getI_setI hk hi
theorem putL_get {a b : Int} (h : AddOk n l a b) {i : Int} (hi : inL n.ports i) : getI (putL n l a b).ports i = if i = a ∨ i = b then { getI n.ports i with link := n.links.length } else getI n.ports i := by
  have hab : a ≠ b := fun e => h.dev (by rw [e])
  simp only [putL]
  rw [setLk_get (setLk_in.2 h.ib) (setLk_in.2 hi), setLk_get h.ia h.ib, setLk_get h.ia hi]
  by_cases c1 : i = b
  · subst c1
    rw [if_pos rfl, if_pos (show i = a ∨ i = i from .inr rfl), if_neg (fun e => hab e.symm)]
  rw [if_neg c1]
  by_cases c2 : i = a
  · subst c2
    rw [if_pos rfl, if_pos (show i = i ∨ i = b from .inl rfl)]
  · rw [if_neg c2, if_neg (show ¬ (i = a ∨ i = b) by rintro (e | e) <;> contradiction)]
theorem putL_same {a b : Int} (h : AddOk n l a b) {i : Int} (hi : inL n.ports i) : (getI (putL n l a b).ports i).dev = (getI n.ports i).dev ∧ (getI (putL n l a b).ports i).name = (getI n.ports i).name ∧ (getI (putL n l a b).ports i).native = (getI n.ports i).native ∧ (getI (putL n l a b).ports i).tagged = (getI n.ports i).tagged := by
  rw [putL_get h hi]; split <;> exact ⟨rfl, rfl, rfl, rfl⟩
theorem putL_in {a b : Int} {i : Int} : inL (putL n l a b).ports i ↔ inL n.ports i := by simp only [putL]; rw [setLk_in, setLk_in]
/-- With a link. -/
theorem right_link {a b : Int} (h : AddOk n l a b) : RightP (putL n l a b) := by
  have hr := h.right
  obtain ⟨f1, f2, f3, f4, f5, f6, f7, f8⟩ := hr.few
  have hff := h.few
  refine ⟨⟨f1, by simp [putL, setLk_len]; omega, by simp [putL]; omega, f4, f5, f6, f7, f8⟩, hr.bare, hr.peers, fun i hi => ?_, ?_, fun i hi => ?_, hr.floods, hr.vrfs, hr.irbs⟩
  · have hi' := putL_in.1 hi
    obtain ⟨q1, q2, q3, q4, q5, q6, q7, q8, q9⟩ := hr.ports i hi'
    obtain ⟨s1, s2, s3, s4⟩ := putL_same h hi'
    unfold PortP
    rw [s1, s3, s4]
    refine ⟨q1, q2, q3, q4, q5, q6, q7, q8, ?_⟩
    rw [putL_get h hi']
    by_cases c : i = a ∨ i = b
    · rw [if_pos c]
      refine .inr ⟨inL_app1.2 (.inr rfl), ?_⟩
      simp only [putL]
      rw [getI_last]
      rcases c with c | c
      · exact .inl c.symm
      · exact .inr c.symm
    · rw [if_neg c]
      rcases q9 with q | ⟨q, r⟩
      · exact .inl q
      · refine .inr ⟨inL_app q, ?_⟩
        simp only [putL]
        rw [getI_app q]; exact r
  · refine eachP_app1.2 ⟨eachP_mono hr.links fun i hi q => ?_, ?_⟩
    · obtain ⟨q1, q2, q3, q4, q5⟩ := q
      have hi0 := hi.1
      have n1 : ¬ ((getI n.links i).a = a ∨ (getI n.links i).a = b) := by
        rintro (e | e)
        · rw [e, h.la] at q4; omega
        · rw [e, h.lb] at q4; omega
      have n2 : ¬ ((getI n.links i).b = a ∨ (getI n.links i).b = b) := by
        rintro (e | e)
        · rw [e, h.la] at q5; omega
        · rw [e, h.lb] at q5; omega
      refine ⟨putL_in.2 q1, putL_in.2 q2, ?_, ?_, ?_⟩
      · rw [(putL_same h q1).1, (putL_same h q2).1]; exact q3
      · rw [putL_get h q1, if_neg n1]; exact q4
      · rw [putL_get h q2, if_neg n2]; exact q5
    · refine ⟨putL_in.2 h.ia, putL_in.2 h.ib, ?_, ?_, ?_⟩
      · rw [(putL_same h h.ia).1, (putL_same h h.ib).1]; exact h.dev
      · simp only; rw [putL_get h h.ia, if_pos (show a = a ∨ a = b from .inl rfl)]
      · simp only; rw [putL_get h h.ib, if_pos (show b = a ∨ b = b from .inr rfl)]
  · obtain ⟨q1, q2, q3, q4⟩ := hr.statics i hi
    have hsi : getI (putL n l a b).statics i = getI n.statics i := rfl
    obtain ⟨s1, s2, s3, s4⟩ := putL_same h q2
    refine ⟨q1, putL_in.2 q2, ?_, ?_⟩
    · rw [hsi, s1]; exact q3
    · unfold MemP at q4 ⊢
      rw [hsi, s3, s4]; exact q4
theorem works17 : palinglaw17_works = some true := by kernel_rfl
theorem linksKeeps (n : Api_Net) (l : Api_Line) (_ : n.Ok) (_ : l.Ok) : palinglaw17_LinksKeeps n l = some true := by
  unfold palinglaw17_LinksKeeps
  rw [works17, Option.bind_some, if_neg (by simp), Great_spec, Option.bind_some]
  by_cases hg : BndN n 200 100
  case neg => rw [if_pos (by simpa using hg)]
  rw [if_neg (by simpa using hg)]
  have hs := hg.sm
  by_cases c1 : (l.dev.size : Int) > 300
  · rw [if_pos (decide_eq_true c1)]
  rw [if_neg (by simpa using c1)]
  by_cases c2 : (l.port.size : Int) > 300
  · rw [if_pos (decide_eq_true c2)]
  rw [if_neg (by simpa using c2)]
  by_cases c3 : (l.peer.size : Int) > 300
  · rw [if_pos (decide_eq_true c3)]
  rw [if_neg (by simpa using c3)]
  by_cases c4 : (l.far.size : Int) > 300
  · rw [if_pos (decide_eq_true c4)]
  rw [if_neg (by simpa using c4)]
  rcases links_Add_spec hs (l := l) (by omega) (by omega) (by omega) (by omega) with ⟨e, he, h⟩ | ⟨a, b, h, hadd⟩
  · rw [h]
    simp only [Option.bind_some]
    rw [if_pos (by simpa using he), same_none17]; rfl
  rw [hadd]
  have hr := h.right
  have hr' := right_link h
  have hab : a ≠ b := fun e => h.dev (by rw [e])
  have hs' : SmN (putL n l a b) := by
    have hl := hs.links
    have hff := h.few
    refine ⟨hs.devices, ?_, ?_, hs.domains, hs.statics, hs.floods, hs.vrfs, hs.irbs, fun p hp => ?_, hs.peers, hs.addrs, hs.imports, hs.exports⟩
    · have := hs.ports; unfold Few at *; simp [putL, setLk_len]; omega
    · unfold Few; simp [putL]; omega
    · obtain ⟨i, hi, rfl⟩ := mem_getI hp
      have hi' := putL_in.1 hi
      rw [(putL_same h hi').2.2.2]
      exact hs.tagged _ (getI_mem hi')
  have hm : (⟨n.devices, (putL n l a b).ports, (putL n l a b).links, n.domains, n.statics, n.floods, n.vrfs, n.irbs⟩ : Api_Net) = putL n l a b := rfl
  simp only [Option.bind_some]
  rw [if_neg (by simp), hm]
  have hdevI : ∀ s, devI (putL n l a b) s = devI n s := fun s => rfl
  have hportI : ∀ d s, portI (putL n l a b) d s = portI n d s := fun d s => by
    unfold portI
    refine fstI_congr (by simp [putL, setLk_len]) fun i hi => ?_
    have hi' := putL_in.1 hi
    obtain ⟨s1, s2, _⟩ := putL_same h hi'
    rw [s1, s2]
  have hea : portI n (devI n l.dev) l.port = a := by
    have := h.ea; unfold endI at this
    split at this
    · have := h.ia.1; omega
    · exact this.symm
  have heb : portI n (devI n l.peer) l.far = b := by
    have := h.eb; unfold endI at this
    split at this
    · have := h.ib.1; omega
    · exact this.symm
  simp only [names_Device_spec hs', names_Port_spec hs', names_Right_spec hs', if_pos hr', hdevI, hportI, hea, heb, Option.bind_some, links_Other_spec hs']
  have hgl : getI (putL n l a b).links (n.links.length : Int) = ⟨l.row, a, b⟩ := getI_last
  have oa : othI (putL n l a b) a = b := by
    unfold othI
    rw [putL_get h h.ia, if_pos (show a = a ∨ a = b from .inl rfl)]
    rw [if_pos ⟨hr', putL_in.2 h.ia, by simp only; omega⟩]
    show (if (getI (putL n l a b).links (n.links.length : Int)).a = a then (getI (putL n l a b).links (n.links.length : Int)).b else (getI (putL n l a b).links (n.links.length : Int)).a) = b
    rw [if_pos (by rw [hgl]), hgl]
  have ob : othI (putL n l a b) b = a := by
    unfold othI
    rw [putL_get h h.ib, if_pos (show b = a ∨ b = b from .inr rfl)]
    rw [if_pos ⟨hr', putL_in.2 h.ib, by simp only; omega⟩]
    show (if (getI (putL n l a b).links (n.links.length : Int)).a = b then (getI (putL n l a b).links (n.links.length : Int)).b else (getI (putL n l a b).links (n.links.length : Int)).a) = a
    rw [if_neg (by rw [hgl]; exact hab), hgl]
  rw [oa, ob, rCopy_spec hs']
  have ia := h.ia.1
  have ia2 := h.ia.2
  have ib := h.ib.1
  have ib2 := h.ib.2
  have hlk := hs.links
  have hw := wr64 (n := (n.links.length : Int) + 1) (by omega) (by unfold Few at hlk; omega)
  have hsl : slok (putL n l a b).links.length 0 (n.links.length : Int) = true := by rw [slok_dec]; exact decide_eq_true ⟨by omega, by omega, by simp [putL]; omega⟩
  simp only [Option.bind_some]
  rw [if_neg (by simp [hr']), if_neg (by simp), if_neg (by simp), hw, if_neg (by simp [putL]), if_neg (by simp; omega), if_neg (by simp; omega), if_neg (by simp; omega), if_neg (by simp; omega), if_pos hsl]
  have ina : inL (putL n l a b).ports a := putL_in.2 h.ia
  have l1 : lin (putL n l a b).ports a = true := by rw [lin_dec]; exact decide_eq_true ina
  rw [if_pos l1, getI_get? ina, Option.bind_some]
  have inb : inL (List.set (putL n l a b).ports (Int.toNat a) ⟨(getI (putL n l a b).ports a).row, (getI (putL n l a b).ports a).dev, (getI (putL n l a b).ports a).native, (getI (putL n l a b).ports a).cost, -1, (getI (putL n l a b).ports a).name, (getI (putL n l a b).ports a).tagged⟩) b := inL_setI.2 (putL_in.2 h.ib)
  rw [if_pos (by rw [lin_dec]; exact decide_eq_true inb), getI_get? inb, Option.bind_some]
  have hps : List.set (List.set (putL n l a b).ports (Int.toNat a) ⟨(getI (putL n l a b).ports a).row, (getI (putL n l a b).ports a).dev, (getI (putL n l a b).ports a).native, (getI (putL n l a b).ports a).cost, -1, (getI (putL n l a b).ports a).name, (getI (putL n l a b).ports a).tagged⟩) (Int.toNat b)
      ⟨(getI (List.set (putL n l a b).ports (Int.toNat a) ⟨(getI (putL n l a b).ports a).row, (getI (putL n l a b).ports a).dev, (getI (putL n l a b).ports a).native, (getI (putL n l a b).ports a).cost, -1, (getI (putL n l a b).ports a).name, (getI (putL n l a b).ports a).tagged⟩) b).row,
       (getI (List.set (putL n l a b).ports (Int.toNat a) ⟨(getI (putL n l a b).ports a).row, (getI (putL n l a b).ports a).dev, (getI (putL n l a b).ports a).native, (getI (putL n l a b).ports a).cost, -1, (getI (putL n l a b).ports a).name, (getI (putL n l a b).ports a).tagged⟩) b).dev,
       (getI (List.set (putL n l a b).ports (Int.toNat a) ⟨(getI (putL n l a b).ports a).row, (getI (putL n l a b).ports a).dev, (getI (putL n l a b).ports a).native, (getI (putL n l a b).ports a).cost, -1, (getI (putL n l a b).ports a).name, (getI (putL n l a b).ports a).tagged⟩) b).native,
       (getI (List.set (putL n l a b).ports (Int.toNat a) ⟨(getI (putL n l a b).ports a).row, (getI (putL n l a b).ports a).dev, (getI (putL n l a b).ports a).native, (getI (putL n l a b).ports a).cost, -1, (getI (putL n l a b).ports a).name, (getI (putL n l a b).ports a).tagged⟩) b).cost, -1,
       (getI (List.set (putL n l a b).ports (Int.toNat a) ⟨(getI (putL n l a b).ports a).row, (getI (putL n l a b).ports a).dev, (getI (putL n l a b).ports a).native, (getI (putL n l a b).ports a).cost, -1, (getI (putL n l a b).ports a).name, (getI (putL n l a b).ports a).tagged⟩) b).name,
       (getI (List.set (putL n l a b).ports (Int.toNat a) ⟨(getI (putL n l a b).ports a).row, (getI (putL n l a b).ports a).dev, (getI (putL n l a b).ports a).native, (getI (putL n l a b).ports a).cost, -1, (getI (putL n l a b).ports a).name, (getI (putL n l a b).ports a).tagged⟩) b).tagged⟩ = n.ports := by
    refine list_eqI.2 ⟨by simp [putL, setLk_len], fun i hi => ?_⟩
    have hi1 := inL_setI.1 hi
    have hi2 := inL_setI.1 hi1
    have hi3 := putL_in.1 hi2
    show getI _ i = getI n.ports i
    rw [getI_setI inb hi1, getI_setI ina (putL_in.2 h.ib), if_neg (show ¬ b = a from fun e => hab e.symm), getI_setI ina hi2]
    rw [putL_get h h.ib, if_pos (show b = a ∨ b = b from .inr rfl), putL_get h h.ia, if_pos (show a = a ∨ a = b from .inl rfl), putL_get h hi3]
    by_cases g1 : i = b
    · rw [if_pos g1, g1]
      have := h.lb
      cases hx : getI n.ports b
      rw [hx] at this
      simp only at this
      simp [this]
    rw [if_neg g1]
    by_cases g2 : i = a
    · rw [if_pos g2, g2]
      have := h.la
      cases hx : getI n.ports a
      rw [hx] at this
      simp only at this
      simp [this]
    · rw [if_neg g2, if_neg (by rintro (e | e) <;> contradiction)]
  rw [hps]
  have hlk2 : List.drop (Int.toNat 0) (List.take (Int.toNat (n.links.length : Int)) (putL n l a b).links) = n.links := take_app1
  rw [hlk2]
  have hn : (⟨(putL n l a b).devices, n.ports, n.links, (putL n l a b).domains, (putL n l a b).statics, (putL n l a b).floods, (putL n l a b).vrfs, (putL n l a b).irbs⟩ : Api_Net) = n := rfl
  show (names_Same n n).bind (fun r29 => some r29) = some true
  rw [names_Same_spec hs]
  simp
end
end Go.Eng
