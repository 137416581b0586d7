/- Part of the proof of LookupWithin: printed mirrors of the functions, or their contracts. No conditions. -/
import Derived.Test.YthagnfgaibaokaaEng15
import Derived.Test.YthagnfgaibaokaaMAK2
set_option linter.unusedVariables false
set_option maxRecDepth 100000
namespace Go.Eng
open Go Go.Proofs
theorem ent3 {H : Type} {enc : TypeId × Value → H} {w : World} {base : Nat} {spare : Nat → Bool} {held : Bool} {S : Nat → Prop} (hS : ∀ b, b < w.heap.size → S b) : EntF enc Try.prog w base spare held UU S 3 (α := DD 3) (okI .i64) (UU.cells 3) := (entF_int Try.underlying3)

theorem ent4 {H : Type} {enc : TypeId × Value → H} {w : World} {base : Nat} {spare : Nat → Bool} {held : Bool} {S : Nat → Prop} (hS : ∀ b, b < w.heap.size → S b) : EntF enc Try.prog w base spare held UU S 4 (α := DD 4) okB (UU.cells 4) := (entF_bool Try.underlying4)

theorem ent5 {H : Type} {enc : TypeId × Value → H} {w : World} {base : Nat} {spare : Nat → Bool} {held : Bool} {S : Nat → Prop} (hS : ∀ b, b < w.heap.size → S b) : EntF enc Try.prog w base spare held UU S 5 (α := DD 5) (okI .u8) (UU.cells 5) := (entF_int Try.underlying5)

theorem ent9 {H : Type} {enc : TypeId × Value → H} {w : World} {base : Nat} {spare : Nat → Bool} {held : Bool} {S : Nat → Prop} (hS : ∀ b, b < w.heap.size → S b) : EntF enc Try.prog w base spare held UU S 9 (α := DD 9) okS (UU.cells 9) := (entF_string Try.underlying9)

theorem ent54 {H : Type} {enc : TypeId × Value → H} {w : World} {base : Nat} {spare : Nat → Bool} {held : Bool} {S : Nat → Prop} (hS : ∀ b, b < w.heap.size → S b) : EntF enc Try.prog w base spare held UU S 54 (α := DD 54) Api_Device.Ok (UU.cells 54) :=
  entF_struct (α := DD 54) Api_Device.Ok Try.underlying54 (fun y : Int × Int × ByteArray × Int × Int × Unit => (⟨y.1, y.2.1, y.2.2.1, y.2.2.2.1, y.2.2.2.2.1⟩ : Api_Device)) (fun y h => h) (fun y => rfl) (offOk_spec (by kernel_rfl)) (by kernel_rfl) (entFs_cons (entF_int Try.underlying3) (entFs_cons (entF_int Try.underlying3) (entFs_cons (entF_string Try.underlying9) (entFs_cons (entF_int Try.underlying51) (entFs_cons (entF_int Try.underlying52) entFs_nil)))))

theorem ent36 {H : Type} {enc : TypeId × Value → H} {w : World} {base : Nat} {spare : Nat → Bool} {held : Bool} {S : Nat → Prop} (hS : ∀ b, b < w.heap.size → S b) : EntF enc Try.prog w base spare held UU S 36 (α := DD 36) Api_Port.Ok (UU.cells 36) :=
  entF_struct (α := DD 36) Api_Port.Ok Try.underlying36 (fun y : Int × Int × Int × Int × Int × ByteArray × (List Int) × Unit => (⟨y.1, y.2.1, y.2.2.1, y.2.2.2.1, y.2.2.2.2.1, y.2.2.2.2.2.1, y.2.2.2.2.2.2.1⟩ : Api_Port)) (fun y h => h) (fun y => rfl) (offOk_spec (by kernel_rfl)) (by kernel_rfl) (entFs_cons (entF_int Try.underlying3) (entFs_cons (entF_int Try.underlying3) (entFs_cons (entF_int Try.underlying3) (entFs_cons (entF_int Try.underlying3) (entFs_cons (entF_int Try.underlying3) (entFs_cons (entF_string Try.underlying9) (entFs_cons (entF_slice (U := UU) Try.underlying34 (by kernel_rfl) hS (ent3 hS)) entFs_nil)))))))

theorem ent41 {H : Type} {enc : TypeId × Value → H} {w : World} {base : Nat} {spare : Nat → Bool} {held : Bool} {S : Nat → Prop} (hS : ∀ b, b < w.heap.size → S b) : EntF enc Try.prog w base spare held UU S 41 (α := DD 41) Api_Link.Ok (UU.cells 41) :=
  entF_struct (α := DD 41) Api_Link.Ok Try.underlying41 (fun y : Int × Int × Int × Unit => (⟨y.1, y.2.1, y.2.2.1⟩ : Api_Link)) (fun y h => h) (fun y => rfl) (offOk_spec (by kernel_rfl)) (by kernel_rfl) (entFs_cons (entF_int Try.underlying3) (entFs_cons (entF_int Try.underlying3) (entFs_cons (entF_int Try.underlying3) entFs_nil)))

theorem ent56 {H : Type} {enc : TypeId × Value → H} {w : World} {base : Nat} {spare : Nat → Bool} {held : Bool} {S : Nat → Prop} (hS : ∀ b, b < w.heap.size → S b) : EntF enc Try.prog w base spare held UU S 56 (α := DD 56) Api_Domain.Ok (UU.cells 56) :=
  entF_struct (α := DD 56) Api_Domain.Ok Try.underlying56 (fun y : Int × Int × Int × Int × Int × (List Int) × Unit => (⟨y.1, y.2.1, y.2.2.1, y.2.2.2.1, y.2.2.2.2.1, y.2.2.2.2.2.1⟩ : Api_Domain)) (fun y h => h) (fun y => rfl) (offOk_spec (by kernel_rfl)) (by kernel_rfl) (entFs_cons (entF_int Try.underlying3) (entFs_cons (entF_int Try.underlying3) (entFs_cons (entF_int Try.underlying3) (entFs_cons (entF_int Try.underlying3) (entFs_cons (entF_int Try.underlying3) (entFs_cons (entF_slice (U := UU) Try.underlying34 (by kernel_rfl) hS (ent3 hS)) entFs_nil))))))

theorem ent102 {H : Type} {enc : TypeId × Value → H} {w : World} {base : Nat} {spare : Nat → Bool} {held : Bool} {S : Nat → Prop} (hS : ∀ b, b < w.heap.size → S b) : EntF enc Try.prog w base spare held UU S 102 (α := DD 102) Api_Static.Ok (UU.cells 102) :=
  entF_struct (α := DD 102) Api_Static.Ok Try.underlying102 (fun y : Int × Int × Int × Int × Unit => (⟨y.1, y.2.1, y.2.2.1, y.2.2.2.1⟩ : Api_Static)) (fun y h => h) (fun y => rfl) (offOk_spec (by kernel_rfl)) (by kernel_rfl) (entFs_cons (entF_int Try.underlying3) (entFs_cons (entF_int Try.underlying3) (entFs_cons (entF_int Try.underlying3) (entFs_cons (entF_int Try.underlying51) entFs_nil))))

theorem ent52 {H : Type} {enc : TypeId × Value → H} {w : World} {base : Nat} {spare : Nat → Bool} {held : Bool} {S : Nat → Prop} (hS : ∀ b, b < w.heap.size → S b) : EntF enc Try.prog w base spare held UU S 52 (α := DD 52) (okI .u32) (UU.cells 52) := (entF_int Try.underlying52)

theorem ent91 {H : Type} {enc : TypeId × Value → H} {w : World} {base : Nat} {spare : Nat → Bool} {held : Bool} {S : Nat → Prop} (hS : ∀ b, b < w.heap.size → S b) : EntF enc Try.prog w base spare held UU S 91 (α := DD 91) Api_Flood.Ok (UU.cells 91) :=
  entF_struct (α := DD 91) Api_Flood.Ok Try.underlying91 (fun y : Int × Int × Int × (List Int) × Unit => (⟨y.1, y.2.1, y.2.2.1, y.2.2.2.1⟩ : Api_Flood)) (fun y h => h) (fun y => rfl) (offOk_spec (by kernel_rfl)) (by kernel_rfl) (entFs_cons (entF_int Try.underlying3) (entFs_cons (entF_int Try.underlying3) (entFs_cons (entF_int Try.underlying3) (entFs_cons (entF_slice (U := UU) Try.underlying89 (by kernel_rfl) hS (ent52 hS)) entFs_nil))))

theorem ent58 {H : Type} {enc : TypeId × Value → H} {w : World} {base : Nat} {spare : Nat → Bool} {held : Bool} {S : Nat → Prop} (hS : ∀ b, b < w.heap.size → S b) : EntF enc Try.prog w base spare held UU S 58 (α := DD 58) Api_Vrf.Ok (UU.cells 58) :=
  entF_struct (α := DD 58) Api_Vrf.Ok Try.underlying58 (fun y : Int × Int × ByteArray × (List Int) × (List Int) × Unit => (⟨y.1, y.2.1, y.2.2.1, y.2.2.2.1, y.2.2.2.2.1⟩ : Api_Vrf)) (fun y h => h) (fun y => rfl) (offOk_spec (by kernel_rfl)) (by kernel_rfl) (entFs_cons (entF_int Try.underlying3) (entFs_cons (entF_int Try.underlying3) (entFs_cons (entF_string Try.underlying9) (entFs_cons (entF_slice (U := UU) Try.underlying34 (by kernel_rfl) hS (ent3 hS)) (entFs_cons (entF_slice (U := UU) Try.underlying34 (by kernel_rfl) hS (ent3 hS)) entFs_nil)))))

theorem ent72 {H : Type} {enc : TypeId × Value → H} {w : World} {base : Nat} {spare : Nat → Bool} {held : Bool} {S : Nat → Prop} (hS : ∀ b, b < w.heap.size → S b) : EntF enc Try.prog w base spare held UU S 72 (α := DD 72) Api_Prefix.Ok (UU.cells 72) :=
  entF_struct (α := DD 72) Api_Prefix.Ok Try.underlying72 (fun y : Int × Int × Unit => (⟨y.1, y.2.1⟩ : Api_Prefix)) (fun y h => h) (fun y => rfl) (offOk_spec (by kernel_rfl)) (by kernel_rfl) (entFs_cons (entF_int Try.underlying52) (entFs_cons (entF_int Try.underlying3) entFs_nil))

theorem ent74 {H : Type} {enc : TypeId × Value → H} {w : World} {base : Nat} {spare : Nat → Bool} {held : Bool} {S : Nat → Prop} (hS : ∀ b, b < w.heap.size → S b) : EntF enc Try.prog w base spare held UU S 74 (α := DD 74) Api_Irb.Ok (UU.cells 74) :=
  entF_struct (α := DD 74) Api_Irb.Ok Try.underlying74 (fun y : Int × Int × Int × Api_Prefix × Unit => (⟨y.1, y.2.1, y.2.2.1, y.2.2.2.1⟩ : Api_Irb)) (fun y h => h) (fun y => rfl) (offOk_spec (by kernel_rfl)) (by kernel_rfl) (entFs_cons (entF_int Try.underlying3) (entFs_cons (entF_int Try.underlying3) (entFs_cons (entF_int Try.underlying3) (entFs_cons (ent72 hS) entFs_nil))))

theorem ent31 {H : Type} {enc : TypeId × Value → H} {w : World} {base : Nat} {spare : Nat → Bool} {held : Bool} {S : Nat → Prop} (hS : ∀ b, b < w.heap.size → S b) : EntF enc Try.prog w base spare held UU S 31 (α := DD 31) Api_Net.Ok (UU.cells 31) :=
  entF_struct (α := DD 31) Api_Net.Ok Try.underlying31 (fun y : (List Api_Device) × (List Api_Port) × (List Api_Link) × (List Api_Domain) × (List Api_Static) × (List Api_Flood) × (List Api_Vrf) × (List Api_Irb) × Unit => (⟨y.1, y.2.1, y.2.2.1, y.2.2.2.1, y.2.2.2.2.1, y.2.2.2.2.2.1, y.2.2.2.2.2.2.1, y.2.2.2.2.2.2.2.1⟩ : Api_Net)) (fun y h => h) (fun y => rfl) (offOk_spec (by kernel_rfl)) (by kernel_rfl) (entFs_cons (entF_slice (U := UU) Try.underlying22 (by kernel_rfl) hS (ent54 hS)) (entFs_cons (entF_slice (U := UU) Try.underlying23 (by kernel_rfl) hS (ent36 hS)) (entFs_cons (entF_slice (U := UU) Try.underlying24 (by kernel_rfl) hS (ent41 hS)) (entFs_cons (entF_slice (U := UU) Try.underlying25 (by kernel_rfl) hS (ent56 hS)) (entFs_cons (entF_slice (U := UU) Try.underlying26 (by kernel_rfl) hS (ent102 hS)) (entFs_cons (entF_slice (U := UU) Try.underlying27 (by kernel_rfl) hS (ent91 hS)) (entFs_cons (entF_slice (U := UU) Try.underlying28 (by kernel_rfl) hS (ent58 hS)) (entFs_cons (entF_slice (U := UU) Try.underlying29 (by kernel_rfl) hS (ent74 hS)) entFs_nil))))))))

theorem ent51 {H : Type} {enc : TypeId × Value → H} {w : World} {base : Nat} {spare : Nat → Bool} {held : Bool} {S : Nat → Prop} (hS : ∀ b, b < w.heap.size → S b) : EntF enc Try.prog w base spare held UU S 51 (α := DD 51) (okI .u64) (UU.cells 51) := (entF_int Try.underlying51)

theorem ent68 {H : Type} {enc : TypeId × Value → H} {w : World} {base : Nat} {spare : Nat → Bool} {held : Bool} {S : Nat → Prop} (hS : ∀ b, b < w.heap.size → S b) : EntF enc Try.prog w base spare held UU S 68 (α := DD 68) Palingref36_Lead.Ok (UU.cells 68) :=
  entF_struct (α := DD 68) Palingref36_Lead.Ok Try.underlying68 (fun y : Int × Int × Int × Unit => (⟨y.1, y.2.1, y.2.2.1⟩ : Palingref36_Lead)) (fun y h => h) (fun y => rfl) (offOk_spec (by kernel_rfl)) (by kernel_rfl) (entFs_cons (entF_int Try.underlying3) (entFs_cons (entF_int Try.underlying3) (entFs_cons (entF_int Try.underlying52) entFs_nil)))

theorem ent69 {H : Type} {enc : TypeId × Value → H} {w : World} {base : Nat} {spare : Nat → Bool} {held : Bool} {S : Nat → Prop} (hS : ∀ b, b < w.heap.size → S b) : EntF enc Try.prog w base spare held UU S 69 (α := DD 69) Choose_Lead.Ok (UU.cells 69) :=
  entF_struct (α := DD 69) Choose_Lead.Ok Try.underlying69 (fun y : Int × Int × Int × Unit => (⟨y.1, y.2.1, y.2.2.1⟩ : Choose_Lead)) (fun y h => h) (fun y => rfl) (offOk_spec (by kernel_rfl)) (by kernel_rfl) (entFs_cons (entF_int Try.underlying3) (entFs_cons (entF_int Try.underlying3) (entFs_cons (entF_int Try.underlying52) entFs_nil)))

theorem ent93 {H : Type} {enc : TypeId × Value → H} {w : World} {base : Nat} {spare : Nat → Bool} {held : Bool} {S : Nat → Prop} (hS : ∀ b, b < w.heap.size → S b) : EntF enc Try.prog w base spare held UU S 93 (α := DD 93) Names_judge.Ok (UU.cells 93) :=
  entF_struct (α := DD 93) Names_judge.Ok Try.underlying93 (fun y : Api_Net × Unit => (⟨y.1⟩ : Names_judge)) (fun y h => h) (fun y => rfl) (offOk_spec (by kernel_rfl)) (by kernel_rfl) (entFs_cons (ent31 hS) entFs_nil)

theorem ent139 {H : Type} {enc : TypeId × Value → H} {w : World} {base : Nat} {spare : Nat → Bool} {held : Bool} {S : Nat → Prop} (hS : ∀ b, b < w.heap.size → S b) : EntF enc Try.prog w base spare held UU S 139 (α := DD 139) Api_Entry.Ok (UU.cells 139) :=
  entF_struct (α := DD 139) Api_Entry.Ok Try.underlying139 (fun y : Int × Int × Int × Unit => (⟨y.1, y.2.1, y.2.2.1⟩ : Api_Entry)) (fun y h => h) (fun y => rfl) (offOk_spec (by kernel_rfl)) (by kernel_rfl) (entFs_cons (entF_int Try.underlying51) (entFs_cons (entF_int Try.underlying3) (entFs_cons (entF_int Try.underlying3) entFs_nil)))

theorem ent153 {H : Type} {enc : TypeId × Value → H} {w : World} {base : Nat} {spare : Nat → Bool} {held : Bool} {S : Nat → Prop} (hS : ∀ b, b < w.heap.size → S b) : EntF enc Try.prog w base spare held UU S 153 (α := DD 153) Lookup_room.Ok (UU.cells 153) :=
  entF_struct (α := DD 153) Lookup_room.Ok Try.underlying153 (fun y : Api_Net × (List Bool) × Int × Int × (List Int) × Unit => (⟨y.1, y.2.1, y.2.2.1, y.2.2.2.1, y.2.2.2.2.1⟩ : Lookup_room)) (fun y h => h) (fun y => rfl) (offOk_spec (by kernel_rfl)) (by kernel_rfl) (entFs_cons (ent31 hS) (entFs_cons (entF_slice (U := UU) Try.underlying59 (by kernel_rfl) hS (ent4 hS)) (entFs_cons (entF_int Try.underlying3) (entFs_cons (entF_int Try.underlying3) (entFs_cons (entF_slice (U := UU) Try.underlying34 (by kernel_rfl) hS (ent3 hS)) entFs_nil)))))
end Go.Eng
