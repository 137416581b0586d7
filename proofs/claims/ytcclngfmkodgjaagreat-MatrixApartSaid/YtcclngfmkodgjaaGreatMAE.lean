/- Part of the proof of MatrixApart: printed mirrors of the functions, or their contracts. No conditions. -/
import Derived.Test.YtcclngfmkodgjaaGreatEng15
import Derived.Test.YtcclngfmkodgjaaGreatMAK5
set_option linter.unusedVariables false
set_option maxRecDepth 100000
namespace Go.Eng
open Go Go.Proofs
theorem ent3 {H : Type} {enc : TypeId × Value → H} {w : World} {base : Nat} {spare : Nat → Bool} {held : Bool} {S : Nat → Prop} (hS : ∀ b, b < w.heap.size → S b) : EntF enc Tryz.prog w base spare held UU S 3 (α := DD 3) (okI .i64) (UU.cells 3) := (entF_int Tryz.underlying3)

theorem ent4 {H : Type} {enc : TypeId × Value → H} {w : World} {base : Nat} {spare : Nat → Bool} {held : Bool} {S : Nat → Prop} (hS : ∀ b, b < w.heap.size → S b) : EntF enc Tryz.prog w base spare held UU S 4 (α := DD 4) okB (UU.cells 4) := (entF_bool Tryz.underlying4)

theorem ent5 {H : Type} {enc : TypeId × Value → H} {w : World} {base : Nat} {spare : Nat → Bool} {held : Bool} {S : Nat → Prop} (hS : ∀ b, b < w.heap.size → S b) : EntF enc Tryz.prog w base spare held UU S 5 (α := DD 5) (okI .u8) (UU.cells 5) := (entF_int Tryz.underlying5)

theorem ent9 {H : Type} {enc : TypeId × Value → H} {w : World} {base : Nat} {spare : Nat → Bool} {held : Bool} {S : Nat → Prop} (hS : ∀ b, b < w.heap.size → S b) : EntF enc Tryz.prog w base spare held UU S 9 (α := DD 9) okS (UU.cells 9) := (entF_string Tryz.underlying9)

theorem ent56 {H : Type} {enc : TypeId × Value → H} {w : World} {base : Nat} {spare : Nat → Bool} {held : Bool} {S : Nat → Prop} (hS : ∀ b, b < w.heap.size → S b) : EntF enc Tryz.prog w base spare held UU S 56 (α := DD 56) Api_Device.Ok (UU.cells 56) :=
  entF_struct (α := DD 56) Api_Device.Ok Tryz.underlying56 (fun y : Int × Int × ByteArray × Int × Int × Unit => (⟨y.1, y.2.1, y.2.2.1, y.2.2.2.1, y.2.2.2.2.1⟩ : Api_Device)) (fun y h => h) (fun y => rfl) (offOk_spec (by kernel_rfl)) (by kernel_rfl) (entFs_cons (entF_int Tryz.underlying3) (entFs_cons (entF_int Tryz.underlying3) (entFs_cons (entF_string Tryz.underlying9) (entFs_cons (entF_int Tryz.underlying32) (entFs_cons (entF_int Tryz.underlying33) entFs_nil)))))

theorem ent110 {H : Type} {enc : TypeId × Value → H} {w : World} {base : Nat} {spare : Nat → Bool} {held : Bool} {S : Nat → Prop} (hS : ∀ b, b < w.heap.size → S b) : EntF enc Tryz.prog w base spare held UU S 110 (α := DD 110) Api_Port.Ok (UU.cells 110) :=
  entF_struct (α := DD 110) Api_Port.Ok Tryz.underlying110 (fun y : Int × Int × Int × Int × Int × ByteArray × (List Int) × Unit => (⟨y.1, y.2.1, y.2.2.1, y.2.2.2.1, y.2.2.2.2.1, y.2.2.2.2.2.1, y.2.2.2.2.2.2.1⟩ : Api_Port)) (fun y h => h) (fun y => rfl) (offOk_spec (by kernel_rfl)) (by kernel_rfl) (entFs_cons (entF_int Tryz.underlying3) (entFs_cons (entF_int Tryz.underlying3) (entFs_cons (entF_int Tryz.underlying3) (entFs_cons (entF_int Tryz.underlying3) (entFs_cons (entF_int Tryz.underlying3) (entFs_cons (entF_string Tryz.underlying9) (entFs_cons (entF_slice (U := UU) Tryz.underlying34 (by kernel_rfl) hS (ent3 hS)) entFs_nil)))))))

theorem ent174 {H : Type} {enc : TypeId × Value → H} {w : World} {base : Nat} {spare : Nat → Bool} {held : Bool} {S : Nat → Prop} (hS : ∀ b, b < w.heap.size → S b) : EntF enc Tryz.prog w base spare held UU S 174 (α := DD 174) Api_Link.Ok (UU.cells 174) :=
  entF_struct (α := DD 174) Api_Link.Ok Tryz.underlying174 (fun y : Int × Int × Int × Unit => (⟨y.1, y.2.1, y.2.2.1⟩ : Api_Link)) (fun y h => h) (fun y => rfl) (offOk_spec (by kernel_rfl)) (by kernel_rfl) (entFs_cons (entF_int Tryz.underlying3) (entFs_cons (entF_int Tryz.underlying3) (entFs_cons (entF_int Tryz.underlying3) entFs_nil)))

theorem ent90 {H : Type} {enc : TypeId × Value → H} {w : World} {base : Nat} {spare : Nat → Bool} {held : Bool} {S : Nat → Prop} (hS : ∀ b, b < w.heap.size → S b) : EntF enc Tryz.prog w base spare held UU S 90 (α := DD 90) Api_Domain.Ok (UU.cells 90) :=
  entF_struct (α := DD 90) Api_Domain.Ok Tryz.underlying90 (fun y : Int × Int × Int × Int × Int × (List Int) × Unit => (⟨y.1, y.2.1, y.2.2.1, y.2.2.2.1, y.2.2.2.2.1, y.2.2.2.2.2.1⟩ : Api_Domain)) (fun y h => h) (fun y => rfl) (offOk_spec (by kernel_rfl)) (by kernel_rfl) (entFs_cons (entF_int Tryz.underlying3) (entFs_cons (entF_int Tryz.underlying3) (entFs_cons (entF_int Tryz.underlying3) (entFs_cons (entF_int Tryz.underlying3) (entFs_cons (entF_int Tryz.underlying3) (entFs_cons (entF_slice (U := UU) Tryz.underlying34 (by kernel_rfl) hS (ent3 hS)) entFs_nil))))))

theorem ent178 {H : Type} {enc : TypeId × Value → H} {w : World} {base : Nat} {spare : Nat → Bool} {held : Bool} {S : Nat → Prop} (hS : ∀ b, b < w.heap.size → S b) : EntF enc Tryz.prog w base spare held UU S 178 (α := DD 178) Api_Static.Ok (UU.cells 178) :=
  entF_struct (α := DD 178) Api_Static.Ok Tryz.underlying178 (fun y : Int × Int × Int × Int × Unit => (⟨y.1, y.2.1, y.2.2.1, y.2.2.2.1⟩ : Api_Static)) (fun y h => h) (fun y => rfl) (offOk_spec (by kernel_rfl)) (by kernel_rfl) (entFs_cons (entF_int Tryz.underlying3) (entFs_cons (entF_int Tryz.underlying3) (entFs_cons (entF_int Tryz.underlying3) (entFs_cons (entF_int Tryz.underlying32) entFs_nil))))

theorem ent33 {H : Type} {enc : TypeId × Value → H} {w : World} {base : Nat} {spare : Nat → Bool} {held : Bool} {S : Nat → Prop} (hS : ∀ b, b < w.heap.size → S b) : EntF enc Tryz.prog w base spare held UU S 33 (α := DD 33) (okI .u32) (UU.cells 33) := (entF_int Tryz.underlying33)

theorem ent113 {H : Type} {enc : TypeId × Value → H} {w : World} {base : Nat} {spare : Nat → Bool} {held : Bool} {S : Nat → Prop} (hS : ∀ b, b < w.heap.size → S b) : EntF enc Tryz.prog w base spare held UU S 113 (α := DD 113) Api_Flood.Ok (UU.cells 113) :=
  entF_struct (α := DD 113) Api_Flood.Ok Tryz.underlying113 (fun y : Int × Int × Int × (List Int) × Unit => (⟨y.1, y.2.1, y.2.2.1, y.2.2.2.1⟩ : Api_Flood)) (fun y h => h) (fun y => rfl) (offOk_spec (by kernel_rfl)) (by kernel_rfl) (entFs_cons (entF_int Tryz.underlying3) (entFs_cons (entF_int Tryz.underlying3) (entFs_cons (entF_int Tryz.underlying3) (entFs_cons (entF_slice (U := UU) Tryz.underlying35 (by kernel_rfl) hS (ent33 hS)) entFs_nil))))

theorem ent88 {H : Type} {enc : TypeId × Value → H} {w : World} {base : Nat} {spare : Nat → Bool} {held : Bool} {S : Nat → Prop} (hS : ∀ b, b < w.heap.size → S b) : EntF enc Tryz.prog w base spare held UU S 88 (α := DD 88) Api_Vrf.Ok (UU.cells 88) :=
  entF_struct (α := DD 88) Api_Vrf.Ok Tryz.underlying88 (fun y : Int × Int × ByteArray × (List Int) × (List Int) × Unit => (⟨y.1, y.2.1, y.2.2.1, y.2.2.2.1, y.2.2.2.2.1⟩ : Api_Vrf)) (fun y h => h) (fun y => rfl) (offOk_spec (by kernel_rfl)) (by kernel_rfl) (entFs_cons (entF_int Tryz.underlying3) (entFs_cons (entF_int Tryz.underlying3) (entFs_cons (entF_string Tryz.underlying9) (entFs_cons (entF_slice (U := UU) Tryz.underlying34 (by kernel_rfl) hS (ent3 hS)) (entFs_cons (entF_slice (U := UU) Tryz.underlying34 (by kernel_rfl) hS (ent3 hS)) entFs_nil)))))

theorem ent103 {H : Type} {enc : TypeId × Value → H} {w : World} {base : Nat} {spare : Nat → Bool} {held : Bool} {S : Nat → Prop} (hS : ∀ b, b < w.heap.size → S b) : EntF enc Tryz.prog w base spare held UU S 103 (α := DD 103) Api_Prefix.Ok (UU.cells 103) :=
  entF_struct (α := DD 103) Api_Prefix.Ok Tryz.underlying103 (fun y : Int × Int × Unit => (⟨y.1, y.2.1⟩ : Api_Prefix)) (fun y h => h) (fun y => rfl) (offOk_spec (by kernel_rfl)) (by kernel_rfl) (entFs_cons (entF_int Tryz.underlying33) (entFs_cons (entF_int Tryz.underlying3) entFs_nil))

theorem ent105 {H : Type} {enc : TypeId × Value → H} {w : World} {base : Nat} {spare : Nat → Bool} {held : Bool} {S : Nat → Prop} (hS : ∀ b, b < w.heap.size → S b) : EntF enc Tryz.prog w base spare held UU S 105 (α := DD 105) Api_Irb.Ok (UU.cells 105) :=
  entF_struct (α := DD 105) Api_Irb.Ok Tryz.underlying105 (fun y : Int × Int × Int × Api_Prefix × Unit => (⟨y.1, y.2.1, y.2.2.1, y.2.2.2.1⟩ : Api_Irb)) (fun y h => h) (fun y => rfl) (offOk_spec (by kernel_rfl)) (by kernel_rfl) (entFs_cons (entF_int Tryz.underlying3) (entFs_cons (entF_int Tryz.underlying3) (entFs_cons (entF_int Tryz.underlying3) (entFs_cons (ent103 hS) entFs_nil))))

theorem ent31 {H : Type} {enc : TypeId × Value → H} {w : World} {base : Nat} {spare : Nat → Bool} {held : Bool} {S : Nat → Prop} (hS : ∀ b, b < w.heap.size → S b) : EntF enc Tryz.prog w base spare held UU S 31 (α := DD 31) Api_Net.Ok (UU.cells 31) :=
  entF_struct (α := DD 31) Api_Net.Ok Tryz.underlying31 (fun y : (List Api_Device) × (List Api_Port) × (List Api_Link) × (List Api_Domain) × (List Api_Static) × (List Api_Flood) × (List Api_Vrf) × (List Api_Irb) × Unit => (⟨y.1, y.2.1, y.2.2.1, y.2.2.2.1, y.2.2.2.2.1, y.2.2.2.2.2.1, y.2.2.2.2.2.2.1, y.2.2.2.2.2.2.2.1⟩ : Api_Net)) (fun y h => h) (fun y => rfl) (offOk_spec (by kernel_rfl)) (by kernel_rfl) (entFs_cons (entF_slice (U := UU) Tryz.underlying22 (by kernel_rfl) hS (ent56 hS)) (entFs_cons (entF_slice (U := UU) Tryz.underlying23 (by kernel_rfl) hS (ent110 hS)) (entFs_cons (entF_slice (U := UU) Tryz.underlying24 (by kernel_rfl) hS (ent174 hS)) (entFs_cons (entF_slice (U := UU) Tryz.underlying25 (by kernel_rfl) hS (ent90 hS)) (entFs_cons (entF_slice (U := UU) Tryz.underlying26 (by kernel_rfl) hS (ent178 hS)) (entFs_cons (entF_slice (U := UU) Tryz.underlying27 (by kernel_rfl) hS (ent113 hS)) (entFs_cons (entF_slice (U := UU) Tryz.underlying28 (by kernel_rfl) hS (ent88 hS)) (entFs_cons (entF_slice (U := UU) Tryz.underlying29 (by kernel_rfl) hS (ent105 hS)) entFs_nil))))))))

theorem ent34 {H : Type} {enc : TypeId × Value → H} {w : World} {base : Nat} {spare : Nat → Bool} {held : Bool} {S : Nat → Prop} (hS : ∀ b, b < w.heap.size → S b) : EntF enc Tryz.prog w base spare held UU S 34 (α := DD 34) (okL (okI .i64)) (UU.cells 34) := (entF_slice (U := UU) Tryz.underlying34 (by kernel_rfl) hS (ent3 hS))

theorem ent79 {H : Type} {enc : TypeId × Value → H} {w : World} {base : Nat} {spare : Nat → Bool} {held : Bool} {S : Nat → Prop} (hS : ∀ b, b < w.heap.size → S b) : EntF enc Tryz.prog w base spare held UU S 79 (α := DD 79) Matrix_Cell.Ok (UU.cells 79) :=
  entF_struct (α := DD 79) Matrix_Cell.Ok Tryz.underlying79 (fun y : Int × Int × Int × Unit => (⟨y.1, y.2.1, y.2.2.1⟩ : Matrix_Cell)) (fun y h => h) (fun y => rfl) (offOk_spec (by kernel_rfl)) (by kernel_rfl) (entFs_cons (entF_int Tryz.underlying3) (entFs_cons (entF_int Tryz.underlying3) (entFs_cons (entF_int Tryz.underlying3) entFs_nil)))

theorem ent70 {H : Type} {enc : TypeId × Value → H} {w : World} {base : Nat} {spare : Nat → Bool} {held : Bool} {S : Nat → Prop} (hS : ∀ b, b < w.heap.size → S b) : EntF enc Tryz.prog w base spare held UU S 70 (α := DD 70) (okL Matrix_Cell.Ok) (UU.cells 70) := (entF_slice (U := UU) Tryz.underlying70 (by kernel_rfl) hS (ent79 hS))

theorem ent57 {H : Type} {enc : TypeId × Value → H} {w : World} {base : Nat} {spare : Nat → Bool} {held : Bool} {S : Nat → Prop} (hS : ∀ b, b < w.heap.size → S b) : EntF enc Tryz.prog w base spare held UU S 57 (α := DD 57) (okL (okL Matrix_Cell.Ok)) (UU.cells 57) := (entF_slice (U := UU) Tryz.underlying57 (by kernel_rfl) hS (ent70 hS))

theorem ent159 {H : Type} {enc : TypeId × Value → H} {w : World} {base : Nat} {spare : Nat → Bool} {held : Bool} {S : Nat → Prop} (hS : ∀ b, b < w.heap.size → S b) : EntF enc Tryz.prog w base spare held UU S 159 (α := DD 159) Witness_state.Ok (UU.cells 159) :=
  entF_struct (α := DD 159) Witness_state.Ok Tryz.underlying159 (fun y : Int × Int × Unit => (⟨y.1, y.2.1⟩ : Witness_state)) (fun y h => h) (fun y => rfl) (offOk_spec (by kernel_rfl)) (by kernel_rfl) (entFs_cons (entF_int Tryz.underlying3) (entFs_cons (entF_int Tryz.underlying3) entFs_nil))

theorem ent161 {H : Type} {enc : TypeId × Value → H} {w : World} {base : Nat} {spare : Nat → Bool} {held : Bool} {S : Nat → Prop} (hS : ∀ b, b < w.heap.size → S b) : EntF enc Tryz.prog w base spare held UU S 161 (α := DD 161) Reach_Hop.Ok (UU.cells 161) :=
  entF_struct (α := DD 161) Reach_Hop.Ok Tryz.underlying161 (fun y : Int × Int × Int × Int × Unit => (⟨y.1, y.2.1, y.2.2.1, y.2.2.2.1⟩ : Reach_Hop)) (fun y h => h) (fun y => rfl) (offOk_spec (by kernel_rfl)) (by kernel_rfl) (entFs_cons (entF_int Tryz.underlying3) (entFs_cons (entF_int Tryz.underlying3) (entFs_cons (entF_int Tryz.underlying3) (entFs_cons (entF_int Tryz.underlying33) entFs_nil))))

theorem ent163 {H : Type} {enc : TypeId × Value → H} {w : World} {base : Nat} {spare : Nat → Bool} {held : Bool} {S : Nat → Prop} (hS : ∀ b, b < w.heap.size → S b) : EntF enc Tryz.prog w base spare held UU S 163 (α := DD 163) Witness_found.Ok (UU.cells 163) :=
  entF_struct (α := DD 163) Witness_found.Ok Tryz.underlying163 (fun y : Witness_state × Reach_Hop × Int × Unit => (⟨y.1, y.2.1, y.2.2.1⟩ : Witness_found)) (fun y h => h) (fun y => rfl) (offOk_spec (by kernel_rfl)) (by kernel_rfl) (entFs_cons (ent159 hS) (entFs_cons (ent161 hS) (entFs_cons (entF_int Tryz.underlying3) entFs_nil)))

theorem ent190 {H : Type} {enc : TypeId × Value → H} {w : World} {base : Nat} {spare : Nat → Bool} {held : Bool} {S : Nat → Prop} (hS : ∀ b, b < w.heap.size → S b) : EntF enc Tryz.prog w base spare held UU S 190 (α := DD 190) Names_judge.Ok (UU.cells 190) :=
  entF_struct (α := DD 190) Names_judge.Ok Tryz.underlying190 (fun y : Api_Net × Unit => (⟨y.1⟩ : Names_judge)) (fun y h => h) (fun y => rfl) (offOk_spec (by kernel_rfl)) (by kernel_rfl) (entFs_cons (ent31 hS) entFs_nil)

theorem ent214 {H : Type} {enc : TypeId × Value → H} {w : World} {base : Nat} {spare : Nat → Bool} {held : Bool} {S : Nat → Prop} (hS : ∀ b, b < w.heap.size → S b) : EntF enc Tryz.prog w base spare held UU S 214 (α := DD 214) Labels_Label.Ok (UU.cells 214) :=
  entF_struct (α := DD 214) Labels_Label.Ok Tryz.underlying214 (fun y : Int × Int × Unit => (⟨y.1, y.2.1⟩ : Labels_Label)) (fun y h => h) (fun y => rfl) (offOk_spec (by kernel_rfl)) (by kernel_rfl) (entFs_cons (entF_int Tryz.underlying3) (entFs_cons (entF_int Tryz.underlying3) entFs_nil))

theorem ent270 {H : Type} {enc : TypeId × Value → H} {w : World} {base : Nat} {spare : Nat → Bool} {held : Bool} {S : Nat → Prop} (hS : ∀ b, b < w.heap.size → S b) : EntF enc Tryz.prog w base spare held UU S 270 (α := DD 270) Labels_task.Ok (UU.cells 270) :=
  entF_struct (α := DD 270) Labels_task.Ok Tryz.underlying270 (fun y : Int × Unit => (⟨y.1⟩ : Labels_task)) (fun y h => h) (fun y => rfl) (offOk_spec (by kernel_rfl)) (by kernel_rfl) (entFs_cons (entF_int Tryz.underlying3) entFs_nil)

theorem ent272 {H : Type} {enc : TypeId × Value → H} {w : World} {base : Nat} {spare : Nat → Bool} {held : Bool} {S : Nat → Prop} (hS : ∀ b, b < w.heap.size → S b) : EntF enc Tryz.prog w base spare held UU S 272 (α := DD 272) Labels_queued.Ok (UU.cells 272) :=
  entF_struct (α := DD 272) Labels_queued.Ok Tryz.underlying272 (fun y : Labels_task × Bool × Unit => (⟨y.1, y.2.1⟩ : Labels_queued)) (fun y h => h) (fun y => rfl) (offOk_spec (by kernel_rfl)) (by kernel_rfl) (entFs_cons (ent270 hS) (entFs_cons (entF_bool Tryz.underlying4) entFs_nil))

theorem ent229 {H : Type} {enc : TypeId × Value → H} {w : World} {base : Nat} {spare : Nat → Bool} {held : Bool} {S : Nat → Prop} (hS : ∀ b, b < w.heap.size → S b) : EntF enc Tryz.prog w base spare held UU S 229 (α := DD 229) Labels_spread.Ok (UU.cells 229) :=
  entF_struct (α := DD 229) Labels_spread.Ok Tryz.underlying229 (fun y : Api_Net × (List Labels_Label) × (List Labels_queued) × (List (List Int)) × (List (List Int)) × Unit => (⟨y.1, y.2.1, y.2.2.1, y.2.2.2.1, y.2.2.2.2.1⟩ : Labels_spread)) (fun y h => h) (fun y => rfl) (offOk_spec (by kernel_rfl)) (by kernel_rfl) (entFs_cons (ent31 hS) (entFs_cons (entF_slice (U := UU) Tryz.underlying128 (by kernel_rfl) hS (ent214 hS)) (entFs_cons (entF_slice (U := UU) Tryz.underlying226 (by kernel_rfl) hS (ent272 hS)) (entFs_cons (entF_slice (U := UU) Tryz.underlying227 (by kernel_rfl) hS (ent34 hS)) (entFs_cons (entF_slice (U := UU) Tryz.underlying227 (by kernel_rfl) hS (ent34 hS)) entFs_nil)))))

theorem ent242 {H : Type} {enc : TypeId × Value → H} {w : World} {base : Nat} {spare : Nat → Bool} {held : Bool} {S : Nat → Prop} (hS : ∀ b, b < w.heap.size → S b) : EntF enc Tryz.prog w base spare held UU S 242 (α := DD 242) Choose_Lead.Ok (UU.cells 242) :=
  entF_struct (α := DD 242) Choose_Lead.Ok Tryz.underlying242 (fun y : Int × Int × Int × Unit => (⟨y.1, y.2.1, y.2.2.1⟩ : Choose_Lead)) (fun y h => h) (fun y => rfl) (offOk_spec (by kernel_rfl)) (by kernel_rfl) (entFs_cons (entF_int Tryz.underlying3) (entFs_cons (entF_int Tryz.underlying3) (entFs_cons (entF_int Tryz.underlying33) entFs_nil)))
end Go.Eng
