/- The walk of the Go function tollhouselaw03 NumKnown, and what it computes. By program. Conditions: none but those that each theorem names. -/
import Derived.Test.YtjiiahiglpcpmaaDoorQ0
import Derived.Test.YtjiiahiglpcpmaaDoorQtollhouselaw03awake
import Derived.Test.YtjiiahiglpcpmaaDoorQnumText
import Derived.Test.YtjiiahiglpcpmaaDoorFnumDecimal
import Derived.Test.YtjiiahiglpcpmaaDoorFnumHex
namespace Go.Proofs.YtjiiahiglpcpmaaDoor.P
open Go.RowKit Go.Proofs.YtjiiahiglpcpmaaDoorW.PrintWords Go.Proofs.YtjiiahiglpcpmaaDoorW.PrintLast Go.Proofs.YtjiiahiglpcpmaaDoorW.PrintMore
attribute [local go_sem] max2_int min2_int max_two min_two max_three min_three max_four min_four
set_option linter.unusedVariables false
set_option linter.unusedSimpArgs false

/-! ### tollhouselaw03_NumKnown: function 5 -/
def tollhouselaw03_NumKnown.f  : Option (Bool) := (num_Decimal.f (⟨#[]⟩ : ByteArray)).bind fun bt146 => ((num_Decimal.f (⟨#[43, 49]⟩ : ByteArray)).bind fun bt148 => ((num_Decimal.f (⟨#[57, 48, 48, 55, 49, 57, 57, 50, 53, 52, 55, 52, 48, 57, 57, 50]⟩ : ByteArray)).bind fun bt150 => ((num_Decimal.f (⟨#[57, 48, 48, 55, 49, 57, 57, 50, 53, 52, 55, 52, 48, 57, 57, 49]⟩ : ByteArray)).bind fun bt152 => ((num_Hex.f (⟨#[103]⟩ : ByteArray)).bind fun bt154 => ((num_Hex.f (⟨#[50, 48, 48, 48, 48, 48, 48, 48, 48, 48, 48, 48, 48, 48]⟩ : ByteArray)).bind fun bt156 => ((num_Hex.f (⟨#[49, 102, 102, 102, 102, 102, 102, 102, 102, 102, 102, 102, 102, 102]⟩ : ByteArray)).bind fun bt158 => ((num_Text.f 0).bind fun bt160 => ((num_Text.f 9007199254740992).bind fun bt162 => ((num_Decimal.f (⟨#[49, 56, 52, 52, 54, 55, 52, 52, 48, 55, 51, 55, 48, 57, 53, 53, 49, 54, 49, 55]⟩ : ByteArray)).bind fun bt164 => ((num_Decimal.f (⟨#[49, 32]⟩ : ByteArray)).bind fun bt166 => ((num_Hex.f (⟨#[48, 120, 49]⟩ : ByteArray)).bind fun bt168 => ((tollhouselaw03_awake.f).bind fun t170 => (if t170 = true then (if bt146.2 = 5 then (if bt148.2 = 5 then (if bt150.2 = 3 then (if bt152.2 = 0 then (if bt152.1 = 9007199254740991 then (if bt154.2 = 5 then (if bt156.2 = 3 then (if bt158.2 = 0 then (if bt158.1 = 9007199254740991 then (if bt160.2 = 0 then (if bt160.1.toList = ([48] : List UInt8) then (if bt162.2 = 1 then (if bt164.2 = 3 then (if bt166.2 = 5 then (some (bt168.2 == 5)) else (some false)) else (some false)) else (some false)) else (some false)) else (some false)) else (some false)) else (some false)) else (some false)) else (some false)) else (some false)) else (some false)) else (some false)) else (some false)) else (some false)) else (some false))))))))))))))
set_option maxHeartbeats 8000000 in
set_option maxRecDepth 100000 in
theorem tollhouselaw03_NumKnown.calls  (r : Bool) (w : World) (hr_ : r = true) (hT : Tab w) (h : tollhouselaw03_NumKnown.f  = some r) :
    Calls Tryd.prog 5 #[] w fun e w' => e = .returned (.bool r) ∧ Below w.heap.size w w' := by
  have HT := Aside0.mk hT
  clear hT
  have HB := Aside0.mk (Below.refl w.heap.size w)
  have H : ((num_Decimal.f (⟨#[]⟩ : ByteArray)).bind fun bt146 => ((num_Decimal.f (⟨#[43, 49]⟩ : ByteArray)).bind fun bt148 => ((num_Decimal.f (⟨#[57, 48, 48, 55, 49, 57, 57, 50, 53, 52, 55, 52, 48, 57, 57, 50]⟩ : ByteArray)).bind fun bt150 => ((num_Decimal.f (⟨#[57, 48, 48, 55, 49, 57, 57, 50, 53, 52, 55, 52, 48, 57, 57, 49]⟩ : ByteArray)).bind fun bt152 => ((num_Hex.f (⟨#[103]⟩ : ByteArray)).bind fun bt154 => ((num_Hex.f (⟨#[50, 48, 48, 48, 48, 48, 48, 48, 48, 48, 48, 48, 48, 48]⟩ : ByteArray)).bind fun bt156 => ((num_Hex.f (⟨#[49, 102, 102, 102, 102, 102, 102, 102, 102, 102, 102, 102, 102, 102]⟩ : ByteArray)).bind fun bt158 => ((num_Text.f 0).bind fun bt160 => ((num_Text.f 9007199254740992).bind fun bt162 => ((num_Decimal.f (⟨#[49, 56, 52, 52, 54, 55, 52, 52, 48, 55, 51, 55, 48, 57, 53, 53, 49, 54, 49, 55]⟩ : ByteArray)).bind fun bt164 => ((num_Decimal.f (⟨#[49, 32]⟩ : ByteArray)).bind fun bt166 => ((num_Hex.f (⟨#[48, 120, 49]⟩ : ByteArray)).bind fun bt168 => ((tollhouselaw03_awake.f).bind fun t170 => (if t170 = true then (if bt146.2 = 5 then (if bt148.2 = 5 then (if bt150.2 = 3 then (if bt152.2 = 0 then (if bt152.1 = 9007199254740991 then (if bt154.2 = 5 then (if bt156.2 = 3 then (if bt158.2 = 0 then (if bt158.1 = 9007199254740991 then (if bt160.2 = 0 then (if bt160.1.toList = ([48] : List UInt8) then (if bt162.2 = 1 then (if bt164.2 = 3 then (if bt166.2 = 5 then (some (bt168.2 == 5)) else (some false)) else (some false)) else (some false)) else (some false)) else (some false)) else (some false)) else (some false)) else (some false)) else (some false)) else (some false)) else (some false)) else (some false)) else (some false)) else (some false)) else (some false))))))))))))))) = some r := h
  clear h
  replace H := Option.bind_eq_some_iff.mp H
  obtain ⟨⟨t146, t147⟩, A10, H⟩ := H
  replace H : ((num_Decimal.f (⟨#[43, 49]⟩ : ByteArray)).bind fun bt148 => ((num_Decimal.f (⟨#[57, 48, 48, 55, 49, 57, 57, 50, 53, 52, 55, 52, 48, 57, 57, 50]⟩ : ByteArray)).bind fun bt150 => ((num_Decimal.f (⟨#[57, 48, 48, 55, 49, 57, 57, 50, 53, 52, 55, 52, 48, 57, 57, 49]⟩ : ByteArray)).bind fun bt152 => ((num_Hex.f (⟨#[103]⟩ : ByteArray)).bind fun bt154 => ((num_Hex.f (⟨#[50, 48, 48, 48, 48, 48, 48, 48, 48, 48, 48, 48, 48, 48]⟩ : ByteArray)).bind fun bt156 => ((num_Hex.f (⟨#[49, 102, 102, 102, 102, 102, 102, 102, 102, 102, 102, 102, 102, 102]⟩ : ByteArray)).bind fun bt158 => ((num_Text.f 0).bind fun bt160 => ((num_Text.f 9007199254740992).bind fun bt162 => ((num_Decimal.f (⟨#[49, 56, 52, 52, 54, 55, 52, 52, 48, 55, 51, 55, 48, 57, 53, 53, 49, 54, 49, 55]⟩ : ByteArray)).bind fun bt164 => ((num_Decimal.f (⟨#[49, 32]⟩ : ByteArray)).bind fun bt166 => ((num_Hex.f (⟨#[48, 120, 49]⟩ : ByteArray)).bind fun bt168 => ((tollhouselaw03_awake.f).bind fun t170 => (if t170 = true then (if t147 = 5 then (if bt148.2 = 5 then (if bt150.2 = 3 then (if bt152.2 = 0 then (if bt152.1 = 9007199254740991 then (if bt154.2 = 5 then (if bt156.2 = 3 then (if bt158.2 = 0 then (if bt158.1 = 9007199254740991 then (if bt160.2 = 0 then (if bt160.1.toList = ([48] : List UInt8) then (if bt162.2 = 1 then (if bt164.2 = 3 then (if bt166.2 = 5 then (some (bt168.2 == 5)) else (some false)) else (some false)) else (some false)) else (some false)) else (some false)) else (some false)) else (some false)) else (some false)) else (some false)) else (some false)) else (some false)) else (some false)) else (some false)) else (some false)) else (some false)))))))))))))) = some r := H
  have A1 := Aside0.mk A10
  clear A10
  replace H := Option.bind_eq_some_iff.mp H
  obtain ⟨⟨t148, t149⟩, A20, H⟩ := H
  replace H : ((num_Decimal.f (⟨#[57, 48, 48, 55, 49, 57, 57, 50, 53, 52, 55, 52, 48, 57, 57, 50]⟩ : ByteArray)).bind fun bt150 => ((num_Decimal.f (⟨#[57, 48, 48, 55, 49, 57, 57, 50, 53, 52, 55, 52, 48, 57, 57, 49]⟩ : ByteArray)).bind fun bt152 => ((num_Hex.f (⟨#[103]⟩ : ByteArray)).bind fun bt154 => ((num_Hex.f (⟨#[50, 48, 48, 48, 48, 48, 48, 48, 48, 48, 48, 48, 48, 48]⟩ : ByteArray)).bind fun bt156 => ((num_Hex.f (⟨#[49, 102, 102, 102, 102, 102, 102, 102, 102, 102, 102, 102, 102, 102]⟩ : ByteArray)).bind fun bt158 => ((num_Text.f 0).bind fun bt160 => ((num_Text.f 9007199254740992).bind fun bt162 => ((num_Decimal.f (⟨#[49, 56, 52, 52, 54, 55, 52, 52, 48, 55, 51, 55, 48, 57, 53, 53, 49, 54, 49, 55]⟩ : ByteArray)).bind fun bt164 => ((num_Decimal.f (⟨#[49, 32]⟩ : ByteArray)).bind fun bt166 => ((num_Hex.f (⟨#[48, 120, 49]⟩ : ByteArray)).bind fun bt168 => ((tollhouselaw03_awake.f).bind fun t170 => (if t170 = true then (if t147 = 5 then (if t149 = 5 then (if bt150.2 = 3 then (if bt152.2 = 0 then (if bt152.1 = 9007199254740991 then (if bt154.2 = 5 then (if bt156.2 = 3 then (if bt158.2 = 0 then (if bt158.1 = 9007199254740991 then (if bt160.2 = 0 then (if bt160.1.toList = ([48] : List UInt8) then (if bt162.2 = 1 then (if bt164.2 = 3 then (if bt166.2 = 5 then (some (bt168.2 == 5)) else (some false)) else (some false)) else (some false)) else (some false)) else (some false)) else (some false)) else (some false)) else (some false)) else (some false)) else (some false)) else (some false)) else (some false)) else (some false)) else (some false)) else (some false))))))))))))) = some r := H
  have A2 := Aside0.mk A20
  clear A20
  replace H := Option.bind_eq_some_iff.mp H
  obtain ⟨⟨t150, t151⟩, A30, H⟩ := H
  replace H : ((num_Decimal.f (⟨#[57, 48, 48, 55, 49, 57, 57, 50, 53, 52, 55, 52, 48, 57, 57, 49]⟩ : ByteArray)).bind fun bt152 => ((num_Hex.f (⟨#[103]⟩ : ByteArray)).bind fun bt154 => ((num_Hex.f (⟨#[50, 48, 48, 48, 48, 48, 48, 48, 48, 48, 48, 48, 48, 48]⟩ : ByteArray)).bind fun bt156 => ((num_Hex.f (⟨#[49, 102, 102, 102, 102, 102, 102, 102, 102, 102, 102, 102, 102, 102]⟩ : ByteArray)).bind fun bt158 => ((num_Text.f 0).bind fun bt160 => ((num_Text.f 9007199254740992).bind fun bt162 => ((num_Decimal.f (⟨#[49, 56, 52, 52, 54, 55, 52, 52, 48, 55, 51, 55, 48, 57, 53, 53, 49, 54, 49, 55]⟩ : ByteArray)).bind fun bt164 => ((num_Decimal.f (⟨#[49, 32]⟩ : ByteArray)).bind fun bt166 => ((num_Hex.f (⟨#[48, 120, 49]⟩ : ByteArray)).bind fun bt168 => ((tollhouselaw03_awake.f).bind fun t170 => (if t170 = true then (if t147 = 5 then (if t149 = 5 then (if t151 = 3 then (if bt152.2 = 0 then (if bt152.1 = 9007199254740991 then (if bt154.2 = 5 then (if bt156.2 = 3 then (if bt158.2 = 0 then (if bt158.1 = 9007199254740991 then (if bt160.2 = 0 then (if bt160.1.toList = ([48] : List UInt8) then (if bt162.2 = 1 then (if bt164.2 = 3 then (if bt166.2 = 5 then (some (bt168.2 == 5)) else (some false)) else (some false)) else (some false)) else (some false)) else (some false)) else (some false)) else (some false)) else (some false)) else (some false)) else (some false)) else (some false)) else (some false)) else (some false)) else (some false)) else (some false)))))))))))) = some r := H
  have A3 := Aside0.mk A30
  clear A30
  replace H := Option.bind_eq_some_iff.mp H
  obtain ⟨⟨t152, t153⟩, A40, H⟩ := H
  replace H : ((num_Hex.f (⟨#[103]⟩ : ByteArray)).bind fun bt154 => ((num_Hex.f (⟨#[50, 48, 48, 48, 48, 48, 48, 48, 48, 48, 48, 48, 48, 48]⟩ : ByteArray)).bind fun bt156 => ((num_Hex.f (⟨#[49, 102, 102, 102, 102, 102, 102, 102, 102, 102, 102, 102, 102, 102]⟩ : ByteArray)).bind fun bt158 => ((num_Text.f 0).bind fun bt160 => ((num_Text.f 9007199254740992).bind fun bt162 => ((num_Decimal.f (⟨#[49, 56, 52, 52, 54, 55, 52, 52, 48, 55, 51, 55, 48, 57, 53, 53, 49, 54, 49, 55]⟩ : ByteArray)).bind fun bt164 => ((num_Decimal.f (⟨#[49, 32]⟩ : ByteArray)).bind fun bt166 => ((num_Hex.f (⟨#[48, 120, 49]⟩ : ByteArray)).bind fun bt168 => ((tollhouselaw03_awake.f).bind fun t170 => (if t170 = true then (if t147 = 5 then (if t149 = 5 then (if t151 = 3 then (if t153 = 0 then (if t152 = 9007199254740991 then (if bt154.2 = 5 then (if bt156.2 = 3 then (if bt158.2 = 0 then (if bt158.1 = 9007199254740991 then (if bt160.2 = 0 then (if bt160.1.toList = ([48] : List UInt8) then (if bt162.2 = 1 then (if bt164.2 = 3 then (if bt166.2 = 5 then (some (bt168.2 == 5)) else (some false)) else (some false)) else (some false)) else (some false)) else (some false)) else (some false)) else (some false)) else (some false)) else (some false)) else (some false)) else (some false)) else (some false)) else (some false)) else (some false)) else (some false))))))))))) = some r := H
  have A4 := Aside0.mk A40
  clear A40
  replace H := Option.bind_eq_some_iff.mp H
  obtain ⟨⟨t154, t155⟩, A50, H⟩ := H
  replace H : ((num_Hex.f (⟨#[50, 48, 48, 48, 48, 48, 48, 48, 48, 48, 48, 48, 48, 48]⟩ : ByteArray)).bind fun bt156 => ((num_Hex.f (⟨#[49, 102, 102, 102, 102, 102, 102, 102, 102, 102, 102, 102, 102, 102]⟩ : ByteArray)).bind fun bt158 => ((num_Text.f 0).bind fun bt160 => ((num_Text.f 9007199254740992).bind fun bt162 => ((num_Decimal.f (⟨#[49, 56, 52, 52, 54, 55, 52, 52, 48, 55, 51, 55, 48, 57, 53, 53, 49, 54, 49, 55]⟩ : ByteArray)).bind fun bt164 => ((num_Decimal.f (⟨#[49, 32]⟩ : ByteArray)).bind fun bt166 => ((num_Hex.f (⟨#[48, 120, 49]⟩ : ByteArray)).bind fun bt168 => ((tollhouselaw03_awake.f).bind fun t170 => (if t170 = true then (if t147 = 5 then (if t149 = 5 then (if t151 = 3 then (if t153 = 0 then (if t152 = 9007199254740991 then (if t155 = 5 then (if bt156.2 = 3 then (if bt158.2 = 0 then (if bt158.1 = 9007199254740991 then (if bt160.2 = 0 then (if bt160.1.toList = ([48] : List UInt8) then (if bt162.2 = 1 then (if bt164.2 = 3 then (if bt166.2 = 5 then (some (bt168.2 == 5)) else (some false)) else (some false)) else (some false)) else (some false)) else (some false)) else (some false)) else (some false)) else (some false)) else (some false)) else (some false)) else (some false)) else (some false)) else (some false)) else (some false)) else (some false)))))))))) = some r := H
  have A5 := Aside0.mk A50
  clear A50
  replace H := Option.bind_eq_some_iff.mp H
  obtain ⟨⟨t156, t157⟩, A60, H⟩ := H
  replace H : ((num_Hex.f (⟨#[49, 102, 102, 102, 102, 102, 102, 102, 102, 102, 102, 102, 102, 102]⟩ : ByteArray)).bind fun bt158 => ((num_Text.f 0).bind fun bt160 => ((num_Text.f 9007199254740992).bind fun bt162 => ((num_Decimal.f (⟨#[49, 56, 52, 52, 54, 55, 52, 52, 48, 55, 51, 55, 48, 57, 53, 53, 49, 54, 49, 55]⟩ : ByteArray)).bind fun bt164 => ((num_Decimal.f (⟨#[49, 32]⟩ : ByteArray)).bind fun bt166 => ((num_Hex.f (⟨#[48, 120, 49]⟩ : ByteArray)).bind fun bt168 => ((tollhouselaw03_awake.f).bind fun t170 => (if t170 = true then (if t147 = 5 then (if t149 = 5 then (if t151 = 3 then (if t153 = 0 then (if t152 = 9007199254740991 then (if t155 = 5 then (if t157 = 3 then (if bt158.2 = 0 then (if bt158.1 = 9007199254740991 then (if bt160.2 = 0 then (if bt160.1.toList = ([48] : List UInt8) then (if bt162.2 = 1 then (if bt164.2 = 3 then (if bt166.2 = 5 then (some (bt168.2 == 5)) else (some false)) else (some false)) else (some false)) else (some false)) else (some false)) else (some false)) else (some false)) else (some false)) else (some false)) else (some false)) else (some false)) else (some false)) else (some false)) else (some false)) else (some false))))))))) = some r := H
  have A6 := Aside0.mk A60
  clear A60
  replace H := Option.bind_eq_some_iff.mp H
  obtain ⟨⟨t158, t159⟩, A70, H⟩ := H
  replace H : ((num_Text.f 0).bind fun bt160 => ((num_Text.f 9007199254740992).bind fun bt162 => ((num_Decimal.f (⟨#[49, 56, 52, 52, 54, 55, 52, 52, 48, 55, 51, 55, 48, 57, 53, 53, 49, 54, 49, 55]⟩ : ByteArray)).bind fun bt164 => ((num_Decimal.f (⟨#[49, 32]⟩ : ByteArray)).bind fun bt166 => ((num_Hex.f (⟨#[48, 120, 49]⟩ : ByteArray)).bind fun bt168 => ((tollhouselaw03_awake.f).bind fun t170 => (if t170 = true then (if t147 = 5 then (if t149 = 5 then (if t151 = 3 then (if t153 = 0 then (if t152 = 9007199254740991 then (if t155 = 5 then (if t157 = 3 then (if t159 = 0 then (if t158 = 9007199254740991 then (if bt160.2 = 0 then (if bt160.1.toList = ([48] : List UInt8) then (if bt162.2 = 1 then (if bt164.2 = 3 then (if bt166.2 = 5 then (some (bt168.2 == 5)) else (some false)) else (some false)) else (some false)) else (some false)) else (some false)) else (some false)) else (some false)) else (some false)) else (some false)) else (some false)) else (some false)) else (some false)) else (some false)) else (some false)) else (some false)))))))) = some r := H
  have A7 := Aside0.mk A70
  clear A70
  replace H := Option.bind_eq_some_iff.mp H
  obtain ⟨⟨t160, t161⟩, A80, H⟩ := H
  replace H : ((num_Text.f 9007199254740992).bind fun bt162 => ((num_Decimal.f (⟨#[49, 56, 52, 52, 54, 55, 52, 52, 48, 55, 51, 55, 48, 57, 53, 53, 49, 54, 49, 55]⟩ : ByteArray)).bind fun bt164 => ((num_Decimal.f (⟨#[49, 32]⟩ : ByteArray)).bind fun bt166 => ((num_Hex.f (⟨#[48, 120, 49]⟩ : ByteArray)).bind fun bt168 => ((tollhouselaw03_awake.f).bind fun t170 => (if t170 = true then (if t147 = 5 then (if t149 = 5 then (if t151 = 3 then (if t153 = 0 then (if t152 = 9007199254740991 then (if t155 = 5 then (if t157 = 3 then (if t159 = 0 then (if t158 = 9007199254740991 then (if t161 = 0 then (if t160.toList = ([48] : List UInt8) then (if bt162.2 = 1 then (if bt164.2 = 3 then (if bt166.2 = 5 then (some (bt168.2 == 5)) else (some false)) else (some false)) else (some false)) else (some false)) else (some false)) else (some false)) else (some false)) else (some false)) else (some false)) else (some false)) else (some false)) else (some false)) else (some false)) else (some false)) else (some false))))))) = some r := H
  have A8 := Aside0.mk A80
  clear A80
  replace H := Option.bind_eq_some_iff.mp H
  obtain ⟨⟨t162, t163⟩, A90, H⟩ := H
  replace H : ((num_Decimal.f (⟨#[49, 56, 52, 52, 54, 55, 52, 52, 48, 55, 51, 55, 48, 57, 53, 53, 49, 54, 49, 55]⟩ : ByteArray)).bind fun bt164 => ((num_Decimal.f (⟨#[49, 32]⟩ : ByteArray)).bind fun bt166 => ((num_Hex.f (⟨#[48, 120, 49]⟩ : ByteArray)).bind fun bt168 => ((tollhouselaw03_awake.f).bind fun t170 => (if t170 = true then (if t147 = 5 then (if t149 = 5 then (if t151 = 3 then (if t153 = 0 then (if t152 = 9007199254740991 then (if t155 = 5 then (if t157 = 3 then (if t159 = 0 then (if t158 = 9007199254740991 then (if t161 = 0 then (if t160.toList = ([48] : List UInt8) then (if t163 = 1 then (if bt164.2 = 3 then (if bt166.2 = 5 then (some (bt168.2 == 5)) else (some false)) else (some false)) else (some false)) else (some false)) else (some false)) else (some false)) else (some false)) else (some false)) else (some false)) else (some false)) else (some false)) else (some false)) else (some false)) else (some false)) else (some false)))))) = some r := H
  have A9 := Aside0.mk A90
  clear A90
  replace H := Option.bind_eq_some_iff.mp H
  obtain ⟨⟨t164, t165⟩, A100, H⟩ := H
  replace H : ((num_Decimal.f (⟨#[49, 32]⟩ : ByteArray)).bind fun bt166 => ((num_Hex.f (⟨#[48, 120, 49]⟩ : ByteArray)).bind fun bt168 => ((tollhouselaw03_awake.f).bind fun t170 => (if t170 = true then (if t147 = 5 then (if t149 = 5 then (if t151 = 3 then (if t153 = 0 then (if t152 = 9007199254740991 then (if t155 = 5 then (if t157 = 3 then (if t159 = 0 then (if t158 = 9007199254740991 then (if t161 = 0 then (if t160.toList = ([48] : List UInt8) then (if t163 = 1 then (if t165 = 3 then (if bt166.2 = 5 then (some (bt168.2 == 5)) else (some false)) else (some false)) else (some false)) else (some false)) else (some false)) else (some false)) else (some false)) else (some false)) else (some false)) else (some false)) else (some false)) else (some false)) else (some false)) else (some false)) else (some false))))) = some r := H
  have A10 := Aside0.mk A100
  clear A100
  replace H := Option.bind_eq_some_iff.mp H
  obtain ⟨⟨t166, t167⟩, A110, H⟩ := H
  replace H : ((num_Hex.f (⟨#[48, 120, 49]⟩ : ByteArray)).bind fun bt168 => ((tollhouselaw03_awake.f).bind fun t170 => (if t170 = true then (if t147 = 5 then (if t149 = 5 then (if t151 = 3 then (if t153 = 0 then (if t152 = 9007199254740991 then (if t155 = 5 then (if t157 = 3 then (if t159 = 0 then (if t158 = 9007199254740991 then (if t161 = 0 then (if t160.toList = ([48] : List UInt8) then (if t163 = 1 then (if t165 = 3 then (if t167 = 5 then (some (bt168.2 == 5)) else (some false)) else (some false)) else (some false)) else (some false)) else (some false)) else (some false)) else (some false)) else (some false)) else (some false)) else (some false)) else (some false)) else (some false)) else (some false)) else (some false)) else (some false)))) = some r := H
  have A11 := Aside0.mk A110
  clear A110
  replace H := Option.bind_eq_some_iff.mp H
  obtain ⟨⟨t168, t169⟩, A120, H⟩ := H
  replace H : ((tollhouselaw03_awake.f).bind fun t170 => (if t170 = true then (if t147 = 5 then (if t149 = 5 then (if t151 = 3 then (if t153 = 0 then (if t152 = 9007199254740991 then (if t155 = 5 then (if t157 = 3 then (if t159 = 0 then (if t158 = 9007199254740991 then (if t161 = 0 then (if t160.toList = ([48] : List UInt8) then (if t163 = 1 then (if t165 = 3 then (if t167 = 5 then (some (t169 == 5)) else (some false)) else (some false)) else (some false)) else (some false)) else (some false)) else (some false)) else (some false)) else (some false)) else (some false)) else (some false)) else (some false)) else (some false)) else (some false)) else (some false)) else (some false))) = some r := H
  have A12 := Aside0.mk A120
  clear A120
  replace H := Option.bind_eq_some_iff.mp H
  obtain ⟨t170, A130, H⟩ := H
  replace H : (if t170 = true then (if t147 = 5 then (if t149 = 5 then (if t151 = 3 then (if t153 = 0 then (if t152 = 9007199254740991 then (if t155 = 5 then (if t157 = 3 then (if t159 = 0 then (if t158 = 9007199254740991 then (if t161 = 0 then (if t160.toList = ([48] : List UInt8) then (if t163 = 1 then (if t165 = 3 then (if t167 = 5 then (some (t169 == 5)) else (some false)) else (some false)) else (some false)) else (some false)) else (some false)) else (some false)) else (some false)) else (some false)) else (some false)) else (some false)) else (some false)) else (some false)) else (some false)) else (some false)) else (some false)) = some r := H
  have A13 := Aside0.mk A130
  clear A130
  by_cases c14 : t170 = true
  · subst c14
    have H1 : (if t147 = 5 then (if t149 = 5 then (if t151 = 3 then (if t153 = 0 then (if t152 = 9007199254740991 then (if t155 = 5 then (if t157 = 3 then (if t159 = 0 then (if t158 = 9007199254740991 then (if t161 = 0 then (if t160.toList = ([48] : List UInt8) then (if t163 = 1 then (if t165 = 3 then (if t167 = 5 then (some (t169 == 5)) else (some false)) else (some false)) else (some false)) else (some false)) else (some false)) else (some false)) else (some false)) else (some false)) else (some false)) else (some false)) else (some false)) else (some false)) else (some false)) else (some false)) = some r := by rw [if_pos rfl] at H; exact H
    clear H
    have H := H1
    clear H1
    by_cases c15 : t147 = 5
    · rw [if_pos c15] at H
      have c15b0 : (t147 == 5) = true := beq_iff_eq.mpr c15
      have c15b1 : (t147 != 5) = false := bne_eq_false_iff_eq.mpr c15
      clear c15
      by_cases c16 : t149 = 5
      · rw [if_pos c16] at H
        have c16b0 : (t149 == 5) = true := beq_iff_eq.mpr c16
        have c16b1 : (t149 != 5) = false := bne_eq_false_iff_eq.mpr c16
        clear c16
        by_cases c17 : t151 = 3
        · rw [if_pos c17] at H
          have c17b0 : (t151 == 3) = true := beq_iff_eq.mpr c17
          have c17b1 : (t151 != 3) = false := bne_eq_false_iff_eq.mpr c17
          clear c17
          by_cases c18 : t153 = 0
          · rw [if_pos c18] at H
            have c18b0 : (t153 == 0) = true := beq_iff_eq.mpr c18
            have c18b1 : (t153 != 0) = false := bne_eq_false_iff_eq.mpr c18
            clear c18
            by_cases c19 : t152 = 9007199254740991
            · rw [if_pos c19] at H
              have c19b0 : (t152 == 9007199254740991) = true := beq_iff_eq.mpr c19
              have c19b1 : (t152 != 9007199254740991) = false := bne_eq_false_iff_eq.mpr c19
              clear c19
              by_cases c20 : t155 = 5
              · rw [if_pos c20] at H
                have c20b0 : (t155 == 5) = true := beq_iff_eq.mpr c20
                have c20b1 : (t155 != 5) = false := bne_eq_false_iff_eq.mpr c20
                clear c20
                by_cases c21 : t157 = 3
                · rw [if_pos c21] at H
                  have c21b0 : (t157 == 3) = true := beq_iff_eq.mpr c21
                  have c21b1 : (t157 != 3) = false := bne_eq_false_iff_eq.mpr c21
                  clear c21
                  by_cases c22 : t159 = 0
                  · rw [if_pos c22] at H
                    have c22b0 : (t159 == 0) = true := beq_iff_eq.mpr c22
                    have c22b1 : (t159 != 0) = false := bne_eq_false_iff_eq.mpr c22
                    clear c22
                    by_cases c23 : t158 = 9007199254740991
                    · rw [if_pos c23] at H
                      have c23b0 : (t158 == 9007199254740991) = true := beq_iff_eq.mpr c23
                      have c23b1 : (t158 != 9007199254740991) = false := bne_eq_false_iff_eq.mpr c23
                      clear c23
                      by_cases c24 : t161 = 0
                      · rw [if_pos c24] at H
                        have c24b0 : (t161 == 0) = true := beq_iff_eq.mpr c24
                        have c24b1 : (t161 != 0) = false := bne_eq_false_iff_eq.mpr c24
                        clear c24
                        by_cases c25 : t160.toList = ([48] : List UInt8)
                        · rw [if_pos c25] at H
                          have c25b0 : (t160.toList == ([48] : List UInt8)) = true := beq_iff_eq.mpr c25
                          have c25b1 : (t160.toList != ([48] : List UInt8)) = false := bne_eq_false_iff_eq.mpr c25
                          clear c25
                          by_cases c26 : t163 = 1
                          · rw [if_pos c26] at H
                            have c26b0 : (t163 == 1) = true := beq_iff_eq.mpr c26
                            have c26b1 : (t163 != 1) = false := bne_eq_false_iff_eq.mpr c26
                            clear c26
                            by_cases c27 : t165 = 3
                            · rw [if_pos c27] at H
                              have c27b0 : (t165 == 3) = true := beq_iff_eq.mpr c27
                              have c27b1 : (t165 != 3) = false := bne_eq_false_iff_eq.mpr c27
                              clear c27
                              by_cases c28 : t167 = 5
                              · rw [if_pos c28] at H
                                have c28b0 : (t167 == 5) = true := beq_iff_eq.mpr c28
                                have c28b1 : (t167 != 5) = false := bne_eq_false_iff_eq.mpr c28
                                clear c28
                                obtain rfl := Option.some.inj H
                                go_enter Tryd.func5, Tryd.ntmps5
                                go_wp2_with (first | ((with_reducible refine gate_callee (f := 8) rfl ?_); refine goesL_ (some 26) rfl rfl Tryd.func8 (by kernel_rfl) rfl #[.string (⟨#[]⟩ : ByteArray)] rfl (by (try simp only [List.map_toArray, List.map_cons, List.map_nil]); first | done | rfl | (simp only [List.length_drop, List.length_take]; rfl)) ?_; (with_reducible refine (num_Decimal.calls (⟨#[]⟩ : ByteArray) t146 t147 _ A1.out).mono ?_); rintro e w29 ⟨rfl, hb⟩; refine ⟨_, rfl, ?_⟩; have n0_ := Aside0.mk (below_step (by repeat (first | (with_reducible first | exact HB.out | apply below_alloc | apply pw_below_drewN | apply below_drew1) | exact HB.out)) hb); clear HB; have HB := n0_; clear n0_; (try clear hb); (try clear hb2); (try clear hk); (try clear hi)) | ((with_reducible refine gate_callee (f := 8) rfl ?_); refine goesL_ (some 30) rfl rfl Tryd.func8 (by kernel_rfl) rfl #[.string (⟨#[43, 49]⟩ : ByteArray)] rfl (by (try simp only [List.map_toArray, List.map_cons, List.map_nil]); first | done | rfl | (simp only [List.length_drop, List.length_take]; rfl)) ?_; (with_reducible refine (num_Decimal.calls (⟨#[43, 49]⟩ : ByteArray) t148 t149 _ A2.out).mono ?_); rintro e w30 ⟨rfl, hb⟩; refine ⟨_, rfl, ?_⟩; have n0_ := Aside0.mk (below_step (by repeat (first | (with_reducible first | exact HB.out | apply below_alloc | apply pw_below_drewN | apply below_drew1) | exact HB.out)) hb); clear HB; have HB := n0_; clear n0_; (try clear hb); (try clear hb2); (try clear hk); (try clear hi)) | ((with_reducible refine gate_callee (f := 8) rfl ?_); refine goesL_ (some 34) rfl rfl Tryd.func8 (by kernel_rfl) rfl #[.string (⟨#[57, 48, 48, 55, 49, 57, 57, 50, 53, 52, 55, 52, 48, 57, 57, 50]⟩ : ByteArray)] rfl (by (try simp only [List.map_toArray, List.map_cons, List.map_nil]); first | done | rfl | (simp only [List.length_drop, List.length_take]; rfl)) ?_; (with_reducible refine (num_Decimal.calls (⟨#[57, 48, 48, 55, 49, 57, 57, 50, 53, 52, 55, 52, 48, 57, 57, 50]⟩ : ByteArray) t150 t151 _ A3.out).mono ?_); rintro e w31 ⟨rfl, hb⟩; refine ⟨_, rfl, ?_⟩; have n0_ := Aside0.mk (below_step (by repeat (first | (with_reducible first | exact HB.out | apply below_alloc | apply pw_below_drewN | apply below_drew1) | exact HB.out)) hb); clear HB; have HB := n0_; clear n0_; (try clear hb); (try clear hb2); (try clear hk); (try clear hi)) | ((with_reducible refine gate_callee (f := 8) rfl ?_); refine goesL_ (some 38) rfl rfl Tryd.func8 (by kernel_rfl) rfl #[.string (⟨#[57, 48, 48, 55, 49, 57, 57, 50, 53, 52, 55, 52, 48, 57, 57, 49]⟩ : ByteArray)] rfl (by (try simp only [List.map_toArray, List.map_cons, List.map_nil]); first | done | rfl | (simp only [List.length_drop, List.length_take]; rfl)) ?_; (with_reducible refine (num_Decimal.calls (⟨#[57, 48, 48, 55, 49, 57, 57, 50, 53, 52, 55, 52, 48, 57, 57, 49]⟩ : ByteArray) t152 t153 _ A4.out).mono ?_); rintro e w32 ⟨rfl, hb⟩; refine ⟨_, rfl, ?_⟩; have n0_ := Aside0.mk (below_step (by repeat (first | (with_reducible first | exact HB.out | apply below_alloc | apply pw_below_drewN | apply below_drew1) | exact HB.out)) hb); clear HB; have HB := n0_; clear n0_; (try clear hb); (try clear hb2); (try clear hk); (try clear hi)) | ((with_reducible refine gate_callee (f := 10) rfl ?_); refine goesL_ (some 42) rfl rfl Tryd.func10 (by kernel_rfl) rfl #[.string (⟨#[103]⟩ : ByteArray)] rfl (by (try simp only [List.map_toArray, List.map_cons, List.map_nil]); first | done | rfl | (simp only [List.length_drop, List.length_take]; rfl)) ?_; (with_reducible refine (num_Hex.calls (⟨#[103]⟩ : ByteArray) t154 t155 _ A5.out).mono ?_); rintro e w33 ⟨rfl, hb⟩; refine ⟨_, rfl, ?_⟩; have n0_ := Aside0.mk (below_step (by repeat (first | (with_reducible first | exact HB.out | apply below_alloc | apply pw_below_drewN | apply below_drew1) | exact HB.out)) hb); clear HB; have HB := n0_; clear n0_; (try clear hb); (try clear hb2); (try clear hk); (try clear hi)) | ((with_reducible refine gate_callee (f := 10) rfl ?_); refine goesL_ (some 46) rfl rfl Tryd.func10 (by kernel_rfl) rfl #[.string (⟨#[50, 48, 48, 48, 48, 48, 48, 48, 48, 48, 48, 48, 48, 48]⟩ : ByteArray)] rfl (by (try simp only [List.map_toArray, List.map_cons, List.map_nil]); first | done | rfl | (simp only [List.length_drop, List.length_take]; rfl)) ?_; (with_reducible refine (num_Hex.calls (⟨#[50, 48, 48, 48, 48, 48, 48, 48, 48, 48, 48, 48, 48, 48]⟩ : ByteArray) t156 t157 _ A6.out).mono ?_); rintro e w34 ⟨rfl, hb⟩; refine ⟨_, rfl, ?_⟩; have n0_ := Aside0.mk (below_step (by repeat (first | (with_reducible first | exact HB.out | apply below_alloc | apply pw_below_drewN | apply below_drew1) | exact HB.out)) hb); clear HB; have HB := n0_; clear n0_; (try clear hb); (try clear hb2); (try clear hk); (try clear hi)) | ((with_reducible refine gate_callee (f := 10) rfl ?_); refine goesL_ (some 50) rfl rfl Tryd.func10 (by kernel_rfl) rfl #[.string (⟨#[49, 102, 102, 102, 102, 102, 102, 102, 102, 102, 102, 102, 102, 102]⟩ : ByteArray)] rfl (by (try simp only [List.map_toArray, List.map_cons, List.map_nil]); first | done | rfl | (simp only [List.length_drop, List.length_take]; rfl)) ?_; (with_reducible refine (num_Hex.calls (⟨#[49, 102, 102, 102, 102, 102, 102, 102, 102, 102, 102, 102, 102, 102]⟩ : ByteArray) t158 t159 _ A7.out).mono ?_); rintro e w35 ⟨rfl, hb⟩; refine ⟨_, rfl, ?_⟩; have n0_ := Aside0.mk (below_step (by repeat (first | (with_reducible first | exact HB.out | apply below_alloc | apply pw_below_drewN | apply below_drew1) | exact HB.out)) hb); clear HB; have HB := n0_; clear n0_; (try clear hb); (try clear hb2); (try clear hk); (try clear hi)) | ((with_reducible refine gate_callee (f := 13) rfl ?_); refine goesL_ (some 54) rfl rfl Tryd.func13 (by kernel_rfl) rfl #[.int .u64 0] rfl (by (try simp only [List.map_toArray, List.map_cons, List.map_nil]); first | done | rfl | (simp only [List.length_drop, List.length_take]; rfl)) ?_; (with_reducible refine (num_Text.calls 0 t160 t161 _ ?sideT A8.out).mono ?_); (case sideT => repeat (first | exact HT.out | exact (Tab.below HT.out HB.out) | (with_reducible first | refine Tab.alloc ?_ _ | refine Tab.drewN ?_ _ | refine Tab.drew ?_))); rintro e w36 ⟨rfl, hb⟩; refine ⟨_, rfl, ?_⟩; have n0_ := Aside0.mk (below_step (by repeat (first | (with_reducible first | exact HB.out | apply below_alloc | apply pw_below_drewN | apply below_drew1) | exact HB.out)) hb); clear HB; have HB := n0_; clear n0_; (try clear hb); (try clear hb2); (try clear hk); (try clear hi)) | ((with_reducible refine gate_callee (f := 13) rfl ?_); refine goesL_ (some 58) rfl rfl Tryd.func13 (by kernel_rfl) rfl #[.int .u64 9007199254740992] rfl (by (try simp only [List.map_toArray, List.map_cons, List.map_nil]); first | done | rfl | (simp only [List.length_drop, List.length_take]; rfl)) ?_; (with_reducible refine (num_Text.calls 9007199254740992 t162 t163 _ ?sideT A9.out).mono ?_); (case sideT => repeat (first | exact HT.out | exact (Tab.below HT.out HB.out) | (with_reducible first | refine Tab.alloc ?_ _ | refine Tab.drewN ?_ _ | refine Tab.drew ?_))); rintro e w37 ⟨rfl, hb⟩; refine ⟨_, rfl, ?_⟩; have n0_ := Aside0.mk (below_step (by repeat (first | (with_reducible first | exact HB.out | apply below_alloc | apply pw_below_drewN | apply below_drew1) | exact HB.out)) hb); clear HB; have HB := n0_; clear n0_; (try clear hb); (try clear hb2); (try clear hk); (try clear hi)) | ((with_reducible refine gate_callee (f := 8) rfl ?_); refine goesL_ (some 62) rfl rfl Tryd.func8 (by kernel_rfl) rfl #[.string (⟨#[49, 56, 52, 52, 54, 55, 52, 52, 48, 55, 51, 55, 48, 57, 53, 53, 49, 54, 49, 55]⟩ : ByteArray)] rfl (by (try simp only [List.map_toArray, List.map_cons, List.map_nil]); first | done | rfl | (simp only [List.length_drop, List.length_take]; rfl)) ?_; (with_reducible refine (num_Decimal.calls (⟨#[49, 56, 52, 52, 54, 55, 52, 52, 48, 55, 51, 55, 48, 57, 53, 53, 49, 54, 49, 55]⟩ : ByteArray) t164 t165 _ A10.out).mono ?_); rintro e w38 ⟨rfl, hb⟩; refine ⟨_, rfl, ?_⟩; have n0_ := Aside0.mk (below_step (by repeat (first | (with_reducible first | exact HB.out | apply below_alloc | apply pw_below_drewN | apply below_drew1) | exact HB.out)) hb); clear HB; have HB := n0_; clear n0_; (try clear hb); (try clear hb2); (try clear hk); (try clear hi)) | ((with_reducible refine gate_callee (f := 8) rfl ?_); refine goesL_ (some 66) rfl rfl Tryd.func8 (by kernel_rfl) rfl #[.string (⟨#[49, 32]⟩ : ByteArray)] rfl (by (try simp only [List.map_toArray, List.map_cons, List.map_nil]); first | done | rfl | (simp only [List.length_drop, List.length_take]; rfl)) ?_; (with_reducible refine (num_Decimal.calls (⟨#[49, 32]⟩ : ByteArray) t166 t167 _ A11.out).mono ?_); rintro e w39 ⟨rfl, hb⟩; refine ⟨_, rfl, ?_⟩; have n0_ := Aside0.mk (below_step (by repeat (first | (with_reducible first | exact HB.out | apply below_alloc | apply pw_below_drewN | apply below_drew1) | exact HB.out)) hb); clear HB; have HB := n0_; clear n0_; (try clear hb); (try clear hb2); (try clear hk); (try clear hi)) | ((with_reducible refine gate_callee (f := 10) rfl ?_); refine goesL_ (some 70) rfl rfl Tryd.func10 (by kernel_rfl) rfl #[.string (⟨#[48, 120, 49]⟩ : ByteArray)] rfl (by (try simp only [List.map_toArray, List.map_cons, List.map_nil]); first | done | rfl | (simp only [List.length_drop, List.length_take]; rfl)) ?_; (with_reducible refine (num_Hex.calls (⟨#[48, 120, 49]⟩ : ByteArray) t168 t169 _ A12.out).mono ?_); rintro e w40 ⟨rfl, hb⟩; refine ⟨_, rfl, ?_⟩; have n0_ := Aside0.mk (below_step (by repeat (first | (with_reducible first | exact HB.out | apply below_alloc | apply pw_below_drewN | apply below_drew1) | exact HB.out)) hb); clear HB; have HB := n0_; clear n0_; (try clear hb); (try clear hb2); (try clear hk); (try clear hi)) | (go_at_call 12; (with_reducible refine (tollhouselaw03_awake.calls true _ ?sideT A13.out).mono ?_); (case sideT => repeat (first | exact HT.out | exact (Tab.below HT.out HB.out) | (with_reducible first | refine Tab.alloc ?_ _ | refine Tab.drewN ?_ _ | refine Tab.drew ?_))); rintro e w41 ⟨rfl, hb⟩; have n0_ := Aside0.mk (below_step (by repeat (first | (with_reducible first | exact HB.out | apply below_alloc | apply pw_below_drewN | apply below_drew1) | exact HB.out)) hb); clear HB; have HB := n0_; clear n0_; (try clear hb); (try clear hb2); (try clear hk); (try clear hi)))
                                go_ret
                                exact ⟨by first | rfl | (simp [errW_none, errW_some] <;> rfl) | (simp [*, errW_none, errW_some] <;> rfl), by repeat (first | (with_reducible first | exact HB.out | apply below_alloc | apply pw_below_drewN | apply below_drew1) | exact HB.out)⟩
                              · rw [if_neg c28] at H
                                have c28b0 : (t167 == 5) = false := beq_eq_false_iff_ne.mpr c28
                                have c28b1 : (t167 != 5) = true := bne_iff_ne.mpr c28
                                exact absurd ((Option.some.inj H).trans hr_) (by decide)
                            · rw [if_neg c27] at H
                              have c27b0 : (t165 == 3) = false := beq_eq_false_iff_ne.mpr c27
                              have c27b1 : (t165 != 3) = true := bne_iff_ne.mpr c27
                              exact absurd ((Option.some.inj H).trans hr_) (by decide)
                          · rw [if_neg c26] at H
                            have c26b0 : (t163 == 1) = false := beq_eq_false_iff_ne.mpr c26
                            have c26b1 : (t163 != 1) = true := bne_iff_ne.mpr c26
                            exact absurd ((Option.some.inj H).trans hr_) (by decide)
                        · rw [if_neg c25] at H
                          have c25b0 : (t160.toList == ([48] : List UInt8)) = false := beq_eq_false_iff_ne.mpr c25
                          have c25b1 : (t160.toList != ([48] : List UInt8)) = true := bne_iff_ne.mpr c25
                          exact absurd ((Option.some.inj H).trans hr_) (by decide)
                      · rw [if_neg c24] at H
                        have c24b0 : (t161 == 0) = false := beq_eq_false_iff_ne.mpr c24
                        have c24b1 : (t161 != 0) = true := bne_iff_ne.mpr c24
                        exact absurd ((Option.some.inj H).trans hr_) (by decide)
                    · rw [if_neg c23] at H
                      have c23b0 : (t158 == 9007199254740991) = false := beq_eq_false_iff_ne.mpr c23
                      have c23b1 : (t158 != 9007199254740991) = true := bne_iff_ne.mpr c23
                      exact absurd ((Option.some.inj H).trans hr_) (by decide)
                  · rw [if_neg c22] at H
                    have c22b0 : (t159 == 0) = false := beq_eq_false_iff_ne.mpr c22
                    have c22b1 : (t159 != 0) = true := bne_iff_ne.mpr c22
                    exact absurd ((Option.some.inj H).trans hr_) (by decide)
                · rw [if_neg c21] at H
                  have c21b0 : (t157 == 3) = false := beq_eq_false_iff_ne.mpr c21
                  have c21b1 : (t157 != 3) = true := bne_iff_ne.mpr c21
                  exact absurd ((Option.some.inj H).trans hr_) (by decide)
              · rw [if_neg c20] at H
                have c20b0 : (t155 == 5) = false := beq_eq_false_iff_ne.mpr c20
                have c20b1 : (t155 != 5) = true := bne_iff_ne.mpr c20
                exact absurd ((Option.some.inj H).trans hr_) (by decide)
            · rw [if_neg c19] at H
              have c19b0 : (t152 == 9007199254740991) = false := beq_eq_false_iff_ne.mpr c19
              have c19b1 : (t152 != 9007199254740991) = true := bne_iff_ne.mpr c19
              exact absurd ((Option.some.inj H).trans hr_) (by decide)
          · rw [if_neg c18] at H
            have c18b0 : (t153 == 0) = false := beq_eq_false_iff_ne.mpr c18
            have c18b1 : (t153 != 0) = true := bne_iff_ne.mpr c18
            exact absurd ((Option.some.inj H).trans hr_) (by decide)
        · rw [if_neg c17] at H
          have c17b0 : (t151 == 3) = false := beq_eq_false_iff_ne.mpr c17
          have c17b1 : (t151 != 3) = true := bne_iff_ne.mpr c17
          exact absurd ((Option.some.inj H).trans hr_) (by decide)
      · rw [if_neg c16] at H
        have c16b0 : (t149 == 5) = false := beq_eq_false_iff_ne.mpr c16
        have c16b1 : (t149 != 5) = true := bne_iff_ne.mpr c16
        exact absurd ((Option.some.inj H).trans hr_) (by decide)
    · rw [if_neg c15] at H
      have c15b0 : (t147 == 5) = false := beq_eq_false_iff_ne.mpr c15
      have c15b1 : (t147 != 5) = true := bne_iff_ne.mpr c15
      exact absurd ((Option.some.inj H).trans hr_) (by decide)
  · replace c14 := Bool.eq_false_iff.mpr c14
    subst c14
    have H1 : (some false) = some r := by rw [if_neg (show ¬ (false = true) by decide)] at H; exact H
    clear H
    have H := H1
    clear H1
    exact absurd ((Option.some.inj H).trans hr_) (by decide)


end Go.Proofs.YtjiiahiglpcpmaaDoor.P
