/- Chapter 31 (bridge): what goes out of a step: BridgeOut. -/
import Derived.Test.YtngflgclljfmjaaGreatEngS4
set_option linter.unusedVariables false
set_option linter.unusedSectionVars false
set_option linter.unusedSimpArgs false
namespace Go.Eng
open Go Classical
attribute [local congr] ite_cg
section
variable {n : Api_Net} {fw : List Bool} {t : List Api_Entry} {d now : Int} {q : Api_Queued}
theorem gather_ix {α : Type} [Inhabited α] {l : List α} {P : Int → α → Prop} : (gatherI l P (fun i _ => i)).Pairwise (· < ·) := by
  unfold gatherI
  have key : ∀ (l : List α) (k : Nat), ((l.zipIdx k).filterMap (fun q => if P q.2 q.1 then some (q.2 : Int) else none)).Pairwise (· < ·) ∧ ∀ x ∈ (l.zipIdx k).filterMap (fun q => if P q.2 q.1 then some (q.2 : Int) else none), (k : Int) ≤ x := by
    intro l
    induction l with
    | nil => intro k; simp
    | cons a l ih =>
      intro k
      have h := ih (k + 1)
      rw [List.zipIdx_cons, List.filterMap_cons]
      by_cases c : P k a
      · simp only [if_pos c]
        refine ⟨List.pairwise_cons.2 ⟨fun x hx => by have := h.2 x hx; omega, h.1⟩, fun x hx => ?_⟩
        rcases List.mem_cons.1 hx with e | e
        · omega
        · have := h.2 x e; omega
      · simp only [if_neg c]
        exact ⟨h.1, fun x hx => by have := h.2 x hx; omega⟩
  exact (key l 0).1
theorem membersL_dif : (membersL n d).Pairwise (· ≠ ·) := List.Pairwise.imp (fun h => by omega) (gather_ix (l := n.ports) (P := fun _ p => InDom n d p))
theorem pw_one {p : Int} {K : Int → Bool} : ([p].filter K).Pairwise (· ≠ ·) := List.Pairwise.sublist List.filter_sublist (List.pairwise_singleton _ _)
theorem peers_dif (hr : RightP n) (hd : inL n.domains d) : (getI n.domains d).peers.Pairwise (· ≠ ·) := by
  have hp := hr.peers d hd
  rw [List.pairwise_iff_getElem]
  intro i j hi hj hij he
  have h1 := (hp j ⟨by omega, by omega⟩).2
  have hj' : inL (getI n.domains d).peers (j : Int) := ⟨by omega, by omega⟩
  have hi' : inL (getI n.domains d).peers (i : Int) := ⟨by omega, by omega⟩
  have h2 := ((fstI_eq hj').1 h1).2 (i : Int) hi' (by omega)
  have e1 : getI (getI n.domains d).peers (i : Int) = (getI n.domains d).peers[i] := getI_nat (List.getElem?_eq_getElem hi)
  have e2 : getI (getI n.domains d).peers (j : Int) = (getI n.domains d).peers[j] := getI_nat (List.getElem?_eq_getElem hj)
  rw [e1, e2] at h2
  exact h2 he.symm
theorem decR_dif {x frm : Int} : (decR n fw t d frm x).1.Pairwise (· ≠ ·) ∧ (decR n fw t d frm x).2.1.Pairwise (· ≠ ·) := by
  have hfl : (floodR n fw d frm).1.Pairwise (· ≠ ·) ∧ (floodR n fw d frm).2.1.Pairwise (· ≠ ·) := by
    unfold floodR
    by_cases ho : OpenP n fw d frm
    · rw [if_pos ho]
      refine ⟨List.Pairwise.sublist List.filter_sublist membersL_dif, ?_⟩
      simp only [flPeers]; split
      · exact List.Pairwise.nil
      · exact peers_dif ho.fw.right ho.dom
    · rw [if_neg ho]; exact ⟨List.Pairwise.nil, List.Pairwise.nil⟩
  unfold decR
  split
  · exact ⟨List.Pairwise.nil, List.Pairwise.nil⟩
  split
  · exact hfl
  split
  · exact ⟨pw_one, List.Pairwise.nil⟩
  split
  · exact ⟨pw_one, List.Pairwise.nil⟩
  split
  · split
    · exact ⟨List.Pairwise.nil, List.Pairwise.nil⟩
    · exact ⟨List.Pairwise.nil, List.pairwise_singleton _ _⟩
  · exact hfl
def LikeP (x o : Bridge_Out) : Prop := x.port = o.port ∧ x.domain = o.domain ∧ x.kind = o.kind ∧ o.kind ≠ 5
theorem atOut_is {f : Api_Frame} {p : Int} : (atOut n d f p).port = p ∧ (atOut n d f p).domain = 0 ∧ ((atOut n d f p).kind = 1 ∨ (atOut n d f p).kind = 2 ∨ (atOut n d f p).kind = 5) := by
  unfold atOut lostR
  split
  · exact ⟨rfl, rfl, .inr (.inr rfl)⟩
  · refine ⟨rfl, rfl, ?_⟩
    simp only
    split
    · exact .inr (.inl rfl)
    · exact .inl rfl
theorem meshOut_is {f : Api_Frame} {p : Int} : (meshOut n d f p).port = 0 ∧ (meshOut n d f p).domain = p ∧ ((meshOut n d f p).kind = 3 ∨ (meshOut n d f p).kind = 5) := by
  unfold meshOut lostR
  split
  · exact ⟨rfl, rfl, .inr rfl⟩
  · exact ⟨rfl, rfl, .inl rfl⟩
theorem outs_dif {f : Api_Frame} {ps qs : List Int} (h1 : ps.Pairwise (· ≠ ·)) (h2 : qs.Pairwise (· ≠ ·)) : (ps.map (atOut n d f) ++ qs.map (meshOut n d f)).Pairwise fun x o => ¬ LikeP x o := by
  rw [List.pairwise_append, List.pairwise_map, List.pairwise_map]
  refine ⟨List.Pairwise.imp (fun {a b} h hl => ?_) h1, List.Pairwise.imp (fun {a b} h hl => ?_) h2, fun x hx o ho hl => ?_⟩
  · have := hl.1
    rw [atOut_is.1, atOut_is.1] at this
    exact h this
  · have := hl.2.1
    rw [meshOut_is.2.1, meshOut_is.2.1] at this
    exact h this
  · obtain ⟨p, _, rfl⟩ := List.mem_map.1 hx
    obtain ⟨r, _, rfl⟩ := List.mem_map.1 ho
    obtain ⟨_, _, e1, e2⟩ := hl
    have a := (atOut_is (n := n) (d := d) (f := f) (p := p)).2.2
    have b := (meshOut_is (n := n) (d := d) (f := f) (p := r)).2.2
    omega
theorem inner_spec {L : List Bridge_Out} (hl : L.length ≤ 1000000) (hd : L.Pairwise fun x o => ¬ LikeP x o) {i : Int} (hi : inL L i) :
    loopM (palinglaw31_BridgeOut_L2 n fw d q L i (getI L i)) 0 = some (.inr ()) := by
  have hi0 := hi.1; have hi1 := hi.2
  have hM : List.drop (Int.toNat 0) (List.take (Int.toNat i) L) = L.take i.toNat := by simp
  have hlen : (L.take i.toNat).length = i.toNat := by rw [List.length_take]; omega
  have hf : Few (L.take i.toNat) := by unfold Few; omega
  refine loop_pass (ρ := Unit ⊕ Unit) (L.take i.toNat) (.inr ()) hf (fun j h0 h1 h2 => ?_) ?_
  · have hjL : inL L j := ⟨h0, by omega⟩
    have hg : getI (L.take i.toNat) j = getI L j := by
      unfold getI
      rw [List.getElem?_take_of_lt (by omega)]
    have hw := wr64 (n := j + 1) (by omega) (by omega)
    have hnl : ¬ LikeP (getI L j) (getI L i) := by
      have := List.pairwise_iff_getElem.1 hd j.toNat i.toNat (by omega) (by omega) (by omega)
      have e1 : getI L j = L[j.toNat]'(by omega) := by unfold getI; rw [List.getElem?_eq_getElem (by omega)]; rfl
      have e2 : getI L i = L[i.toNat]'(by omega) := by unfold getI; rw [List.getElem?_eq_getElem (by omega)]; rfl
      rw [e1, e2]; exact this
    unfold palinglaw31_BridgeOut_L2
    rw [hM, if_pos (decide_eq_true h1), nth_getI h2, Option.bind_some, hg, hw]
    by_cases c1 : (getI L j).port = (getI L i).port
    case neg => simp [c1]
    by_cases c2 : (getI L j).domain = (getI L i).domain
    case neg => simp [c1, c2]
    by_cases c3 : (getI L j).kind = (getI L i).kind
    case neg => simp [c1, c2, c3]
    by_cases c4 : (getI L i).kind = 5
    · simp [c1, c2, c3, c4]
    · exact absurd ⟨c1, c2, c3, c4⟩ hnl
  · unfold palinglaw31_BridgeOut_L2
    rw [hM, if_neg (by simp)]
theorem bout_loop (hs : SmN n) (hn : n.Ok) (hf : q.frame.Ok) (hb : q.frame.body.length ≤ 4000) {L : List Bridge_Out} (hl : L.length ≤ 1000000) (hd : L.Pairwise fun x o => ¬ LikeP x o)
    (h : ∀ o ∈ L, (∃ p, inL n.ports p ∧ FwOk n fw ∧ UsP n fw p ∧ p ≠ q.from_ ∧ o = atOut n d q.frame p) ∨ (∃ p, q.from_ ≠ -1 ∧ o = meshOut n d q.frame p) ∨ (L.length = 1 ∧ q.frame.type_ = 2048 ∧ o.kind = 4)) :
    loopM (palinglaw31_BridgeOut_L1 n fw d q L) 0 = some (.inr ()) := by
  have hfew : Few L := hl
  refine loop_pass (ρ := Unit ⊕ Unit) L (.inr ()) hfew (fun i h0 h1 h2 => ?_) ?_
  · have hw := wr64 (n := i + 1) (by omega) (by omega)
    have hsl : slok L.length 0 i = true := by rw [slok_dec]; exact decide_eq_true ⟨by omega, by omega, by omega⟩
    unfold palinglaw31_BridgeOut_L1
    rw [if_pos (decide_eq_true h1), nth_getI h2, Option.bind_some, if_pos hsl, inner_spec hl hd h2, hw]
    simp only [Option.bind_some]
    rcases h _ (getI_mem h2) with ⟨p, hp, hF, hU, hne, ho⟩ | ⟨p, hne, ho⟩ | ⟨hone, hty, hk⟩
    · rw [ho]
      have p0 := hp.1; have p1 := hp.2
      have hus : lookup_Usable n fw p = some true := by rw [lookup_Usable_spec hs]; simp [hF, hp, hU]
      have p2 : ¬ p < 0 := by omega
      have p3 : ¬ (n.ports.length : Int) ≤ p := by omega
      unfold atOut lostR
      by_cases c : (atS n p d q.frame).2 = 0
      · by_cases g : 0 ≤ (getI n.ports p).link
        · have g2 : ¬ (getI n.ports p).link < 0 := by omega
          simp [c, g, g2, palinglaw31_BridgeOut_J3, leave_At_spec hs, hus, seqB_dec, nth_getI hp, hne, p0, p1, p2, p3]
        · simp [c, g, palinglaw31_BridgeOut_J3, leave_At_spec hs, hus, seqB_dec, nth_getI hp, hne, p0, p1, p2, p3]
          try omega
      · simp [c, palinglaw31_BridgeOut_J3]
    · rw [ho]
      unfold meshOut lostR
      by_cases c : (meshS n d p q.frame).2 = 0
      · simp [c, palinglaw31_BridgeOut_J3, leave_Mesh_spec hs hn hf hb, seqB_dec, hne]
      · simp [c, palinglaw31_BridgeOut_J3]
    · simp [palinglaw31_BridgeOut_J3, hk, hone, hty]
  · simp [palinglaw31_BridgeOut_L1]
end
theorem bridgeOut (n : Api_Net) (fw : List Bool) (t : List Api_Entry) (d : Int) (q : Api_Queued) (now : Int) (hn : n.Ok) (_ : okL okB fw) (ht : okL Api_Entry.Ok t) (_ : okI .i64 d) (hq : q.Ok) (hw : okI .i64 now) : palinglaw31_BridgeOut n fw t d q now = some true := by
  unfold palinglaw31_BridgeOut
  rw [works31, Option.bind_some, if_neg (by simp), Great31_spec, Option.bind_some]
  by_cases hg : BndN n 200 100 ∧ fw.length ≤ 200 ∧ t.length ≤ 200 ∧ q.frame.body.length ≤ 4000
  case neg => rw [if_pos (decide_eq_true hg)]
  rw [if_neg (by rw [decide_eq_true_eq]; exact fun h => h hg)]
  obtain ⟨hg, g1, g2, g3⟩ := hg
  have hs := hg.sm
  have hQ : QOk q now := ⟨hq.2.2.2.1, hq.1, hw, g3⟩
  obtain ⟨u, o, e, hP, h1, _⟩ := step_both (fw := fw) (d := d) hn hs ht g2 hQ
  have hfo := stepP_few hg hP
  have hfo' : o.length ≤ 1000000 := hfo
  rw [h1]
  simp only [Option.bind_some]
  cases hP with
  | shut => simp
  | bad e ho hT he he2 => simp [he]
  | hop to f ho hT hf =>
    rw [if_neg (by simp), bout_loop hs hn hQ.fr g3 hfo' (List.pairwise_singleton _ _) (fun o ho => .inr (.inr ⟨rfl, hf, by rw [List.mem_singleton] at ho; rw [ho]⟩))]
    rfl
  | out ho hT =>
    have hdif := decR_dif (n := n) (fw := fw) (t := learnU t q now) (d := d) (frm := q.from_) (x := q.frame.dst)
    rw [if_neg (by simp), bout_loop hs hn hQ.fr g3 hfo' (outs_dif hdif.1 hdif.2) (fun o ho2 => by
      rcases List.mem_append.1 ho2 with h | h
      · obtain ⟨p, hp, rfl⟩ := List.mem_map.1 h
        obtain ⟨k1, k2, k3, k4, k5⟩ := decR_ports hp
        exact .inl ⟨p, k4, k1.fw, k5, k2, rfl⟩
      · obtain ⟨p, hp, rfl⟩ := List.mem_map.1 h
        obtain ⟨k1, k2, k3⟩ := decR_peers hp
        exact .inr (.inl ⟨p, k2, rfl⟩))]
    rfl
end Go.Eng
