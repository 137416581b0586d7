/- Part of the proof of DomainsTells: printed mirrors of the functions, or their contracts. No conditions. -/
import Derived.Test.YtngflgclljfmjaaGreatMAK5
set_option linter.unusedVariables false
set_option maxRecDepth 100000
namespace Go.Eng
open Go Go.Proofs
theorem k_palinglaw18_DomainsTells {a1 : Api_Net} {a2 : Int} {a3 : Int} {r : Bool} (h : palinglaw18_DomainsTells a1 a2 a3 = some r) :
    CallsOK Tryz.prog UU 4 [.agg (c31 a1), .j a2, .v (.int .u64 a3)] [] (.v (.bool r)) [] := by
  unfold palinglaw18_DomainsTells at h
  obtain ⟨r4, h5, h⟩ := bo h
  obtain ⟨h6, h⟩|⟨h6, h⟩ := ite_out h
  · obtain ⟨r7, h8, h⟩ := bo h
    injection h with h; subst h; exact rf Tryz.func4 none [.b r4, .t, .b r7] (pc (k_palinglaw15_Great h5)<|pc h6<|pc (k_palinglaw18_works h8)<|pn)
  · obtain ⟨r9, h10, h⟩ := bo h
    obtain ⟨r11, h12, h⟩ := bo h
    obtain ⟨r13, h14, h⟩ := bo h
    obtain ⟨r15, h16, h⟩ := bo h
    obtain ⟨h17, h⟩|⟨h17, h⟩ := ite_out h
    · obtain ⟨h18, h⟩|⟨h18, h⟩ := ite_out h
      · obtain ⟨h19, h⟩|⟨h19, h⟩ := ite_out h
        · obtain ⟨h20, h⟩|⟨h20, h⟩ := ite_out h
          · obtain ⟨r21, h22, h⟩ := bo h
            injection h with h; subst h; exact rf Tryz.func4 none [.b r4, .f, .callv (.j r9), .callf [] (.sl 3 r11), .callv (.v (.string r13)), .b r15, .t, .t, .t, .t, .b r21] (pc (k_palinglaw15_Great h5)<|pc h6<|pc (k_domains_Lookup h10)<|pc (k_domains_Hosts h12)<|pc (k_domains_Text h14)<|pc (k_palingref15_Right h16)<|pc h17<|pc h18<|pc h19<|pc h20<|pc (k_palinglaw18_works h22)<|pn)
          · injection h with h; subst h; exact rf Tryz.func4 none [.b r4, .f, .callv (.j r9), .callf [] (.sl 3 r11), .callv (.v (.string r13)), .b r15, .t, .t, .t, .f] (pc (k_palinglaw15_Great h5)<|pc h6<|pc (k_domains_Lookup h10)<|pc (k_domains_Hosts h12)<|pc (k_domains_Text h14)<|pc (k_palingref15_Right h16)<|pc h17<|pc h18<|pc h19<|pc h20<|pn)
        · injection h with h; subst h; exact rf Tryz.func4 none [.b r4, .f, .callv (.j r9), .callf [] (.sl 3 r11), .callv (.v (.string r13)), .b r15, .t, .t, .f] (pc (k_palinglaw15_Great h5)<|pc h6<|pc (k_domains_Lookup h10)<|pc (k_domains_Hosts h12)<|pc (k_domains_Text h14)<|pc (k_palingref15_Right h16)<|pc h17<|pc h18<|pc h19<|pn)
      · injection h with h; subst h; exact rf Tryz.func4 none [.b r4, .f, .callv (.j r9), .callf [] (.sl 3 r11), .callv (.v (.string r13)), .b r15, .t, .f] (pc (k_palinglaw15_Great h5)<|pc h6<|pc (k_domains_Lookup h10)<|pc (k_domains_Hosts h12)<|pc (k_domains_Text h14)<|pc (k_palingref15_Right h16)<|pc h17<|pc h18<|pn)
    · obtain ⟨r23, h24, h⟩ := bo h
      obtain ⟨h25, h⟩|⟨h25, h⟩ := ite_out h
      · obtain ⟨l28, h27, h⟩ := bo h
        obtain ⟨r29, h30, h⟩ := bo h
        obtain ⟨h31, h⟩|⟨h31, h⟩ := ite_out h
        · obtain ⟨r32, h33, h⟩ := bo h
          obtain ⟨h34, h⟩|⟨h34, h⟩ := ite_out h
          · obtain ⟨r35, h36, h⟩ := bo h
            injection h with h; subst h; exact rf Tryz.func4 none [.b r4, .f, .callv (.j r9), .callf [] (.sl 3 r11), .callv (.v (.string r13)), .b r15, .f, .callv (.j r23), .t, .callo (.os 0 l28.length) [.arr 3 l28 l28.length false], .b r29, .t, .callv (.v (.string r32)), .t, .b r35] (pc (k_palinglaw15_Great h5)<|pc h6<|pc (k_domains_Lookup h10)<|pc (k_domains_Hosts h12)<|pc (k_domains_Text h14)<|pc (k_palingref15_Right h16)<|pc h17<|pc (k_palingref18_Lookup h24)<|pc h25<|pc (k_palingref18_Hosts h27)<|pc (im3 l28)<|pc (k_palingref03_Ints h30)<|pc (rn l28.length)<|pc h31<|pc (k_palingref18_Text h33)<|pc h34<|pc (k_palinglaw18_works h36)<|pn)
          · injection h with h; subst h; exact rf Tryz.func4 none [.b r4, .f, .callv (.j r9), .callf [] (.sl 3 r11), .callv (.v (.string r13)), .b r15, .f, .callv (.j r23), .t, .callo (.os 0 l28.length) [.arr 3 l28 l28.length false], .b r29, .t, .callv (.v (.string r32)), .f] (pc (k_palinglaw15_Great h5)<|pc h6<|pc (k_domains_Lookup h10)<|pc (k_domains_Hosts h12)<|pc (k_domains_Text h14)<|pc (k_palingref15_Right h16)<|pc h17<|pc (k_palingref18_Lookup h24)<|pc h25<|pc (k_palingref18_Hosts h27)<|pc (im3 l28)<|pc (k_palingref03_Ints h30)<|pc (rn l28.length)<|pc h31<|pc (k_palingref18_Text h33)<|pc h34<|pn)
        · injection h with h; subst h; exact rf Tryz.func4 none [.b r4, .f, .callv (.j r9), .callf [] (.sl 3 r11), .callv (.v (.string r13)), .b r15, .f, .callv (.j r23), .t, .callo (.os 0 l28.length) [.arr 3 l28 l28.length false], .b r29, .f] (pc (k_palinglaw15_Great h5)<|pc h6<|pc (k_domains_Lookup h10)<|pc (k_domains_Hosts h12)<|pc (k_domains_Text h14)<|pc (k_palingref15_Right h16)<|pc h17<|pc (k_palingref18_Lookup h24)<|pc h25<|pc (k_palingref18_Hosts h27)<|pc (im3 l28)<|pc (k_palingref03_Ints h30)<|pc (rn l28.length)<|pc h31<|pn)
      · injection h with h; subst h; exact rf Tryz.func4 none [.b r4, .f, .callv (.j r9), .callf [] (.sl 3 r11), .callv (.v (.string r13)), .b r15, .f, .callv (.j r23), .f] (pc (k_palinglaw15_Great h5)<|pc h6<|pc (k_domains_Lookup h10)<|pc (k_domains_Hosts h12)<|pc (k_domains_Text h14)<|pc (k_palingref15_Right h16)<|pc h17<|pc (k_palingref18_Lookup h24)<|pc h25<|pn)

end Go.Eng
